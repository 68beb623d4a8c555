/-
  The walk of cipher.crypt.
-/
import Derived.Test.YtbmblalbnegglaaCipV
namespace Go.Proofs.Ytbmblalbnegglaa
open Go.RowKit

/-- The keys of the rounds while k pairs of them are exchanged. -/
def sarr (key : List UInt8) (k : Nat) : Array Value := ((List.range 16).map fun j => W32 (if j < k ∨ 15 < j + k then Cip.rk key (15 - j) else Cip.rk key j)).toArray
theorem sarr_size (key : List UInt8) (k : Nat) : (sarr key k).size = 16 := by simp [sarr]
theorem sarr_zero (key : List UInt8) : karr key 16 = sarr key 0 := by
  unfold karr sarr
  refine congrArg List.toArray (List.map_congr_left fun j hj => ?_)
  have := List.mem_range.1 hj
  rw [if_pos this, if_neg (by omega)]
theorem sarr_keys (key : List UInt8) : sarr key 8 = ((Cip.keys key true).map W32).toArray := by
  unfold sarr Cip.keys
  rw [List.map_map]
  refine congrArg List.toArray (List.map_congr_left fun j hj => ?_)
  have := List.mem_range.1 hj
  rw [if_pos (by omega)]
  simp only [Function.comp_apply, if_true]
theorem karr_keys (key : List UInt8) : karr key 16 = ((Cip.keys key false).map W32).toArray := by
  unfold karr Cip.keys
  rw [List.map_map]
  refine congrArg List.toArray (List.map_congr_left fun j hj => ?_)
  have := List.mem_range.1 hj
  rw [if_pos this]
  simp only [Function.comp_apply, Bool.false_eq_true, if_false]
theorem sarr_get (key : List UInt8) (k i : Nat) (hi : i < 16) : (sarr key k)[i]? = some (W32 (if i < k ∨ 15 < i + k then Cip.rk key (15 - i) else Cip.rk key i)) := by
  simp [sarr, hi]
theorem sarr_set (key : List UInt8) (k : Nat) (hk : k < 8) : ((sarr key k).setIfInBounds k (W32 (Cip.rk key (15 - k)))).setIfInBounds (15 - k) (W32 (Cip.rk key k)) = sarr key (k + 1) := by
  apply Array.ext_getElem?
  intro i
  simp only [sarr, List.setIfInBounds_toArray, List.getElem?_toArray, List.getElem?_set, List.getElem?_map, List.length_map, List.length_range, List.length_set]
  by_cases hi : i < 16
  · rw [List.getElem?_range hi]
    by_cases e : 15 - k = i
    · subst e
      simp [show 15 - k < 16 by omega, show 15 < 15 - k + (k + 1) by omega, show 15 - (15 - k) = k by omega]
    · by_cases e' : k = i
      · subst e'; simp [e, hi]
      · rw [if_neg e, if_neg e']
        have : (i < k ∨ 15 < i + k) ↔ (i < k + 1 ∨ 15 < i + (k + 1)) := by omega
        simp only [Option.map_some, this]
  · rw [List.getElem?_eq_none (by simp; omega)]
    rw [if_neg (show ¬ 15 - k = i by omega), if_neg (show ¬ k = i by omega)]
    rfl

theorem cells4 (x : UInt32) : #[Value.int .u8 ((x.toNat : Int) / 16777216 % 256), .int .u8 ((x.toNat : Int) / 65536 % 256), .int .u8 ((x.toNat : Int) / 256 % 256), .int .u8 ((x.toNat : Int) % 256)].toList = bcells (Cip.bytes4 x) := by
  simp [bcells, Cip.bytes4, B8]
theorem out_take (a b : UInt32) (k : Nat) (hk : k < 2) : (Cip.out (a, b)).take (4 * (k + 1)) = (Cip.out (a, b)).take (4 * k) ++ Cip.bytes4 (if k = 0 then b else a) := by
  rcases (show k = 0 ∨ k = 1 by omega) with rfl | rfl <;> rfl

theorem u8_info : (Try.prog.info? 5).map (fun i => (i.zero, i.size, i.bytes)) = some (some (.int .u8 0), 1, 1) := by kernel_rfl

set_option maxHeartbeats 400000 in
theorem crypt_key (A A' : Option Addr) (n n' c c' : Nat) (back : Bool) (w : World) (hn : n ≠ 16) :
    Calls Try.prog 47 #[.slice A n c, .slice A' n' c', .bool back] w fun e w' => e = .returned (.tuple #[.slice none 0 0, .int .i64 19]) ∧ w' = w := by
  have h0 : ((n : Int) != 16) = true := by simp; omega
  go_enter Try.func47, Try.ntmps47
  go_wp2_with fail
  go_ret2
  exact ⟨rfl, rfl⟩

set_option maxHeartbeats 400000 in
theorem crypt_block (A A' : Option Addr) (n' c c' : Nat) (back : Bool) (w : World) (hn : n' ≠ 8) :
    Calls Try.prog 47 #[.slice A 16 c, .slice A' n' c', .bool back] w fun e w' => e = .returned (.tuple #[.slice none 0 0, .int .i64 1]) ∧ w' = w := by
  have h0 : ((n' : Int) != 8) = true := by simp; omega
  go_enter Try.func47, Try.ntmps47
  go_wp2_with fail
  go_ret2
  exact ⟨rfl, rfl⟩

set_option maxRecDepth 100000 in
set_option maxHeartbeats 1000000 in
theorem crypt_ok (kb ko bb bo c c' : Nat) (back : Bool) (key block : List UInt8) (w : World) (hk : Byt w w.heap.size (some ⟨kb, ko, none⟩) 16 c key) (hb : Byt w w.heap.size (some ⟨bb, bo, none⟩) 8 c' block) :
    Calls Try.prog 47 #[.slice (some ⟨kb, ko, none⟩) 16 c, .slice (some ⟨bb, bo, none⟩) 8 c', .bool back] w fun e w' => ∃ A d, e = .returned (.tuple #[.slice A 8 d, .int .i64 0]) ∧
      Own w' w.heap.size 5 1 A 8 d (bcells (Cip.crypt key block back)) ∧ Below w.heap.size w w' := by
  obtain ⟨i0, hi0, hz0, hz1, hz2⟩ := info_parts u8_info
  have hks := Lib.hid hk.1
  have hc := hk.2.1
  have hc' := hb.2.1
  have hsz : (Try.prog.info? 53).map (·.size) = some 16 := by kernel_rfl
  go_enter Try.func47, Try.ntmps47
  go_upto_if 21 with (first
    | (go_at_call 51; refine (cipher_roundKeys kb ko c key w hks.out hc hk.2.2).mono ?_; rintro e w1 ⟨rfl, hb1⟩)
    | ((with_reducible show wpList _ _ _ (Oper.mk _ (Op.store 53 (Operand.tmp 8) (Operand.tmp 20)) _ _ _ _ :: _) _ _); refine wpList_store_row rfl 53 (.tmp 8) (.tmp 20) rfl w1.heap.size (karr key 16) rfl rfl 53 _ (Blk.new _ _ _) hsz (karr_size key 16).symm (karr_one key 16) ?_))
  have hk1 := (Blk.new w1 53 #[Value.int IntKind.u32 0, Value.int IntKind.u32 0, Value.int IntKind.u32 0, Value.int IntKind.u32 0, Value.int IntKind.u32 0, Value.int IntKind.u32 0, Value.int IntKind.u32 0, Value.int IntKind.u32 0, Value.int IntKind.u32 0, Value.int IntKind.u32 0, Value.int IntKind.u32 0, Value.int IntKind.u32 0, Value.int IntKind.u32 0, Value.int IntKind.u32 0, Value.int IntKind.u32 0, Value.int IntKind.u32 0]).setRow (karr key 16)
  have hb2 : Below w.heap.size w (World.setRow (w1.alloc (Obj.cells #[Value.int IntKind.u32 0, Value.int IntKind.u32 0, Value.int IntKind.u32 0, Value.int IntKind.u32 0, Value.int IntKind.u32 0, Value.int IntKind.u32 0, Value.int IntKind.u32 0, Value.int IntKind.u32 0, Value.int IntKind.u32 0, Value.int IntKind.u32 0, Value.int IntKind.u32 0, Value.int IntKind.u32 0, Value.int IntKind.u32 0, Value.int IntKind.u32 0, Value.int IntKind.u32 0, Value.int IntKind.u32 0] 53)) w1.heap.size (karr key 16)) :=
    Below.setRow (hb1.alloc hb1.size _) hb1.size _
  generalize World.setRow (w1.alloc _) w1.heap.size (karr key 16) = w2 at *
  have hlt1 := hk1.lt
  generalize hg : w1.heap.size = g at *
  go_cut [9] (fun _ wx => Blk wx g 53 ((Cip.keys key back).map W32).toArray ∧ Below w.heap.size w wx)
  case first =>
    cases back with
    | false =>
      go_wp2_with fail
      go_meet
      exact ⟨by rw [← karr_keys]; exact hk1, hb2⟩
    | true =>
      rw [sarr_zero] at hk1
      go_wp2_with fail
      go_loopw [22] (fun i wr => ∃ k : Nat, k ≤ 8 ∧ i = .int .i64 k ∧ Blk wr g 53 (sarr key k) ∧ Below w.heap.size w wr) (fun i _ => 8 - (intOf i).toNat)
      case atStart => exact ⟨0, by omega, rfl, hk1, hb2⟩
      case round =>
        obtain ⟨k, hk8, rfl, hbk, hbel⟩ := hrel
        by_cases hlt : k < 8
        · have i0 : (0 : Int) ≤ (k : Int) := by omega
          have i1 : (k : Int) < 16 := by omega
          have i2 : (k : Int) ≤ 15 := by omega
          have i3 : 15 - (k : Int) < 16 := by omega
          have c0 : wr.cell? ⟨g, k, none⟩ = some (W32 (Cip.rk key k)) := by rw [hbk.cell, sarr_get key k k (by omega), if_neg (by omega)]
          have c1 : wr.cell? ⟨g, 15 - k, none⟩ = some (W32 (Cip.rk key (15 - k))) := by rw [hbk.cell, sarr_get key k (15 - k) (by omega), if_neg (by omega)]
          have hgw : w.heap.size ≤ g := by rw [← hg]; exact hb1.size
          have f0 := hbk.frozen k
          have f1 := hbk.frozen (15 - k)
          go_wp2_with fail
          have i5 : (15 - (k : Int)).toNat = 15 - k := by omega
          have i4 : IntKind.i64.wrap (15 - (k : Int)) = 15 - (k : Int) := IntWalk.i64_in _ (by omega)
          go_region
          all_goals
            clear i4 i5
            go_wp2_with fail
            go_roundw
            case rel =>
              refine ⟨k + 1, by omega, by go_num, ?_, ?_⟩
              · rw [← sarr_set key k hlt]
                exact ((hbk.set k _).set (15 - k) _).drew
              · exact ((hbel.setCell hgw _).setCell hgw _).drew
            case measure => simp [intOf]; omega
        · obtain rfl : k = 8 := by omega
          rw [sarr_keys] at hbk
          go_wp2_with fail
          go_meet
          exact ⟨hbk, hbel⟩
  case rest =>
    obtain ⟨hbk, hbel⟩ := hcut
    have hkl : ((Cip.keys key back).map W32).length = 16 := by simp [Cip.keys]
    have hrange : wc.rangeAt g 0 ((Cip.keys key back).map W32) := fun j v hv => by
      rw [hbk.cell]; simpa using hv
    have hu := Try.underlying53
    have hsz2 : (Try.prog.info? 53).map (·.size) = some ((Cip.keys key back).map W32).length := by rw [hkl]; exact hsz
    have hgc := hbk.lt
    have hb' : Row wc w.heap.size (some ⟨bb, bo, none⟩) (bcells block) := (hb.below hbel).2.2
    clear hbk
    go_wp2_with fail
    have j0 : (4 : Int) ≤ (c' : Int) := by omega
    have j1 : ¬ c' = 4 := by omega
    go_region_held3 (fun w' => w'.rangeAt g 0 ((Cip.keys key back).map W32))
      (first | exact hrange | exact fun j v hv => (hb3.cell (p := ⟨g, 0 + j, none⟩) hgc).trans (hrange j v hv))
      (first
        | (go_at_call_of 53 (Value.slice (some ⟨bb, bo, none⟩) 4 c'); refine (cipher_number bb bo 4 c' (block.take 4) w.heap.size _ (by omega) (by simp [hb.1]) (by exact hb'.btake 4)).mono ?_; rintro e w2 ⟨rfl, k2, rfl⟩)
        | (go_at_call 53; refine (cipher_number bb (bo + 4) 4 (c' - 4) (block.drop 4) w.heap.size _ (by omega) (by simp [hb.1]) (by exact hb'.bdrop 4)).mono ?_; rintro e w2 ⟨rfl, k2, rfl⟩)
        | (go_at_call 52; refine (cipher_run _ _ _ (by simp [Cip.keys]) _).mono ?_; rintro e w3 ⟨rfl, hb3⟩))
    have hbel3 : Below w.heap.size w w3 := (Below.drewN hbel _).trans (hb3.mono hbel.size)
    generalize hst : Cip.steps (Cip.num (block.take 4), Cip.num (block.drop 4)) (Cip.keys key back) = st
    have Hst := Lib.hid hst
    clear hst hb3 hrange
    obtain ⟨a, b⟩ := st
    have x0 : ∀ (k : Nat), k < 2 → ∀ u : World, (Instr.index 56 (.agg #[W32 b, W32 a]) (.int .i64 (k : Int))).run Try.prog u = .ok (W32 (if k = 0 then b else a)) u := by
      intro k hk
      rcases (show k = 0 ∨ k = 1 by omega) with rfl | rfl
      · exact fun _ => by kernel_rfl
      · exact fun _ => by kernel_rfl
    go_wp2_with fail
    go_loopw [10, 47] (fun v i wr => ∃ (k : Nat) (A : Option Addr) (d : Nat), k ≤ 2 ∧ i = .int .i64 k ∧ v = .slice A (4 * k) d ∧ Own wr w.heap.size 5 1 A (4 * k) d (bcells ((Cip.out (a, b)).take (4 * k))) ∧ Below w.heap.size w wr) (fun _ i _ => 2 - (intOf i).toNat)
    case atStart => exact ⟨0, none, 0, by omega, rfl, rfl, Own.none_ _ _ _ _ _, hbel3⟩
    case round =>
      obtain ⟨k, A, d, hk2, rfl, rfl, hown, hbw⟩ := hrel
      by_cases hlt : k < 2
      · have x1 := x0 k hlt
        have ot := Lib.hid (out_take a b k hlt)
        clear x0
        generalize (if k = 0 then b else a) = x at *
        go_wp2_with (at_builtin; refine wpList_append _ rfl (.tmp 50) (.tmp 62) 22 rfl w.heap.size 5 i0 _ 1 1 Try.underlying22 hi0 hz0 hz1 hz2 rfl (by omega) A (4 * k) d (bcells ((Cip.out (a, b)).take (4 * k))) rfl (hown.alloc _) (wr.heap.size + 1) (some ⟨wr.heap.size, 0, none⟩) 4 4 (bcells (Cip.bytes4 x)) rfl (Row.new wr (cells4 x)) (by simp [Cip.bytes4]) (bcells_one _) (by unfold maxLen; omega) (by omega) (by simp; have := hbw.size; omega) ?_; intro A2 c2 w4 hown4 hg4 hat4)
        go_roundw
        case rel =>
          refine ⟨k + 1, A2, c2, by omega, by go_num, rfl, ?_, (hown.alloc _).grown hg4 (hbw.alloc hbw.size _) (by simp; have := hbw.size; omega)⟩
          rw [ot.out, bcells_append]
          exact hown4
        case measure => simp [intOf]; omega
      · obtain rfl : k = 2 := by omega
        go_wp2_with fail
        go_ret2
        refine ⟨A, d, rfl, ?_, hbw⟩
        have e : Cip.crypt key block back = (Cip.out (a, b)).take (4 * 2) := by
          have h1 : Cip.crypt key block back = Cip.out (Cip.steps (Cip.num block, Cip.num (block.drop 4)) (Cip.keys key back)) := rfl
          rw [h1, ← Cip.num_take block, Hst.out]
          rfl
        rw [e]
        exact hown
end Go.Proofs.Ytbmblalbnegglaa
