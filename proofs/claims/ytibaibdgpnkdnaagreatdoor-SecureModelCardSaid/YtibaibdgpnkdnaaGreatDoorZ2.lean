/-
  The texts that the claims of this seat lean on, part 3.
-/
import Derived.Test.YtibaibdgpnkdnaaGreatDoorZ1
import Derived.Test.YtibaibdgpnkdnaaGreatDoorRows
import Derived.Test.YtibaibdgpnkdnaaGreatDoorZ0
import Derived.Laws.CopyOwn
import Derived.WalkKit
import Derived.Laws.Cover3
import Derived.Laws.ByValue

section
namespace Go.Proofs.YtibaibdgpnkdnaaGreatDoor
set_option maxRecDepth 100000
set_option linter.unusedSimpArgs false
set_option linter.unusedVariables false
open Go.RowKit

theorem or_join (i : Nat) (x y : Nat) (hx : x % 2 ^ i = 0) (hy : y < 2 ^ i) (hxx : x < 4294967296) (hyy : y < 4294967296) : bits .or .u32 (x : Int) (y : Int) = ((x + y : Nat) : Int) := by
  rw [u32_or_nat x y hxx hyy, nat_join i x y hx hy]

theorem cip_num_eq (a b c d : UInt8) :
    bits BinOp.or IntKind.u32 (bits BinOp.or IntKind.u32 (bits BinOp.or IntKind.u32 ((a.toNat : Int) % 4294967296 * 16777216 % 4294967296) ((b.toNat : Int) % 4294967296 * 65536 % 4294967296)) ((c.toNat : Int) % 4294967296 * 256 % 4294967296)) ((d.toNat : Int) % 4294967296) =
      ((a.toNat * 16777216 + b.toNat * 65536 + c.toNat * 256 + d.toNat : Nat) : Int) := by
  have h0 := a.toNat_lt
  have h1 := b.toNat_lt
  have h2 := c.toNat_lt
  have h3 := d.toNat_lt
  have e0 : ((a.toNat : Int) % 4294967296 * 16777216 % 4294967296) = ((a.toNat * 16777216 : Nat) : Int) := by omega
  have e1 : ((b.toNat : Int) % 4294967296 * 65536 % 4294967296) = ((b.toNat * 65536 : Nat) : Int) := by omega
  have e2 : ((c.toNat : Int) % 4294967296 * 256 % 4294967296) = ((c.toNat * 256 : Nat) : Int) := by omega
  have e3 : ((d.toNat : Int) % 4294967296) = ((d.toNat : Nat) : Int) := by omega
  rw [e0, e1, e2, e3, or_join 24 _ _ (by omega) (by omega) (by omega) (by omega), or_join 16 _ _ (by omega) (by omega) (by omega) (by omega), or_join 8 _ _ (by omega) (by omega) (by omega) (by omega)]

set_option maxHeartbeats 400000 in
theorem cipher_number (b o n c : Nat) (bs : List UInt8) (B : Nat) (w : World) (hn : (4 : Int) ≤ n) (hl : 4 ≤ bs.length) (hr : Row w B (some ⟨b, o, none⟩) (bcells bs)) :
    Calls Tryz.prog 102 #[.slice (some ⟨b, o, none⟩) n c] w fun e w' => e = .returned (.int .u32 ((Cip.num bs).toNat : Int)) ∧ ∃ k, w' = w.drewN k := by
  have c0 := hr.byte 0 (by omega)
  have c1 := hr.byte 1 (by omega)
  have c2 := hr.byte 2 (by omega)
  have c3 := hr.byte 3 (by omega)
  have hfin := cip_num_eq (bs.getD 0 0) (bs.getD 1 0) (bs.getD 2 0) (bs.getD 3 0)
  rw [← Cip.num_toNat] at hfin
  have HF := Lib.hid hfin
  clear hfin hr
  rw [Nat.add_zero] at c0
  generalize bs.getD 0 0 = x0 at *
  generalize bs.getD 1 0 = x1 at *
  generalize bs.getD 2 0 = x2 at *
  generalize bs.getD 3 0 = x3 at *
  go_enter Tryz.func102, Tryz.ntmps102
  go_wp2
  go_quiet (fail)
  go_wp2
  go_ret
  exact ⟨congrArg (fun x => Ending.returned (.int .u32 x)) HF.out, _, rfl⟩

theorem cip_num_eq' (a b c d : UInt8) :
    ((((a.toNat : Int) % 4294967296 * 16777216 % 4294967296 + (b.toNat : Int) % 4294967296 * 65536 % 4294967296) % 4294967296 + (c.toNat : Int) % 4294967296 * 256 % 4294967296) % 4294967296 + (d.toNat : Int) % 4294967296) % 4294967296 =
      ((a.toNat * 16777216 + b.toNat * 65536 + c.toNat * 256 + d.toNat : Nat) : Int) := by
  have h0 := a.toNat_lt
  have h1 := b.toNat_lt
  have h2 := c.toNat_lt
  have h3 := d.toNat_lt
  omega

set_option maxHeartbeats 400000 in
theorem ref19_number (b o n c : Nat) (bs : List UInt8) (B : Nat) (w : World) (hn : (4 : Int) ≤ n) (hl : 4 ≤ bs.length) (hr : Row w B (some ⟨b, o, none⟩) (bcells bs)) :
    Calls Tryz.prog 97 #[.slice (some ⟨b, o, none⟩) n c] w fun e w' => e = .returned (.int .u32 ((Cip.num bs).toNat : Int)) ∧ ∃ k, w' = w.drewN k := by
  have c0 := hr.byte 0 (by omega)
  have c1 := hr.byte 1 (by omega)
  have c2 := hr.byte 2 (by omega)
  have c3 := hr.byte 3 (by omega)
  have HF := Lib.hid (Cip.num_toNat bs)
  clear hr
  rw [Nat.add_zero] at c0
  generalize bs.getD 0 0 = x0 at *
  generalize bs.getD 1 0 = x1 at *
  generalize bs.getD 2 0 = x2 at *
  generalize bs.getD 3 0 = x3 at *
  go_enter Tryz.func97, Tryz.ntmps97
  go_wp2
  go_quiet (fail)
  go_wp2
  go_ret
  refine ⟨ret_int ?_, _, rfl⟩
  rw [HF.out]
  have h0 := x0.toNat_lt
  have h1 := x1.toNat_lt
  have h2 := x2.toNat_lt
  have h3 := x3.toNat_lt
  omega

theorem u32_mix (x k : UInt32) :
    bits BinOp.xor IntKind.u32 (((x.toNat : Int) + (k.toNat : Int)) % 4294967296 * 2654435761 % 4294967296) (((x.toNat : Int) + (k.toNat : Int)) % 4294967296 * 2654435761 % 4294967296 / 32768) * 2246822519 % 4294967296 = ((Cip.mixF x k).toNat : Int) := by
  have h0 := x.toNat_lt
  have h1 := k.toNat_lt
  have e : ((x.toNat : Int) + (k.toNat : Int)) % 4294967296 * 2654435761 % 4294967296 = (((x + k) * 2654435761 : UInt32).toNat : Int) := by
    rw [UInt32.toNat_mul, UInt32.toNat_add]
    show _ = (((x.toNat + k.toNat) % 4294967296 * 2654435761 % 4294967296 : Nat) : Int)
    omega
  rw [e]
  have h2 := ((x + k) * 2654435761 : UInt32).toNat_lt
  unfold Cip.mixF
  generalize (x + k) * 2654435761 = t at *
  have e2 : (t.toNat : Int) / (32768 : Int) = ((t >>> 15).toNat : Int) := by
    rw [UInt32.toNat_shiftRight]
    show _ = ((t.toNat >>> 15 : Nat) : Int)
    rw [Nat.shiftRight_eq_div_pow]
    omega
  have h3 := (t >>> 15).toNat_lt
  rw [e2, u32_xor_nat _ _ (by omega) (by omega)]
  show _ = (((t ^^^ t >>> 15) * 2246822519 : UInt32).toNat : Int)
  rw [UInt32.toNat_mul, UInt32.toNat_xor]
  show _ = (((t.toNat ^^^ (t >>> 15).toNat) * 2246822519 % 4294967296 : Nat) : Int)
  omega

set_option maxHeartbeats 400000 in
theorem cipher_f (x k : UInt32) (w : World) :
    Calls Tryz.prog 103 #[.int .u32 (x.toNat : Int), .int .u32 (k.toNat : Int)] w fun e w' => e = .returned (.int .u32 ((Cip.mixF x k).toNat : Int)) ∧ w' = w := by
  have HF := Lib.hid (u32_mix x k)
  go_enter Tryz.func103, Tryz.ntmps103
  go_wp2
  go_ret
  exact ⟨congrArg (fun x => Ending.returned (.int .u32 x)) HF.out, rfl⟩

set_option maxHeartbeats 400000 in
theorem ref19_mix (x k : UInt32) (w : World) :
    Calls Tryz.prog 98 #[.int .u32 (x.toNat : Int), .int .u32 (k.toNat : Int)] w fun e w' => e = .returned (.int .u32 ((Cip.mixF x k).toNat : Int)) ∧ w' = w := by
  have HF := Lib.hid (u32_mix x k)
  go_enter Tryz.func98, Tryz.ntmps98
  go_wp2
  go_ret
  exact ⟨congrArg (fun x => Ending.returned (.int .u32 x)) HF.out, rfl⟩

set_option maxHeartbeats 400000 in
theorem ref19_round (b o c : Nat) (key : List UInt8) (i' : Int) (i : Nat) (hi' : i' = (i : Int)) (hi : i < 16) (B : Nat) (w : World) (hk : key.length = 16) (hc : 16 ≤ c) (hr : Row w B (some ⟨b, o, none⟩) (bcells key)) :
    Calls Tryz.prog 99 #[.slice (some ⟨b, o, none⟩) 16 c, .int .i64 i'] w fun e w' => e = .returned (.int .u32 ((Cip.rk key i).toNat : Int)) ∧ ∃ k, w' = w.drewN k := by
  subst hi'
  go_enter Tryz.func99, Tryz.ntmps99
  go_wp2_with fail
  refine (ref19_number b (o + 4 * (i % 4)) 4 _ (key.drop (4 * (i % 4))) B _ (by omega) (by simp; omega) (hr.bdrop _)).mono ?_
  rintro e w1 ⟨rfl, k, rfl⟩
  go_wp2
  go_ret
  refine ⟨ret_int ?_, _, rfl⟩
  unfold Cip.rk
  rw [UInt32.toNat_add, UInt32.toNat_mul, UInt32.toNat_ofNat_of_lt' (by simp only [UInt32.size]; omega)]
  show _ = (((Cip.num (key.drop (4 * (i % 4)))).toNat + i * 2654435769 % 4294967296 : Nat) % 4294967296 : Int)
  omega

/-- The array of the round keys when k of them are there. -/
def karr (key : List UInt8) (k : Nat) : Array Value := ((List.range 16).map fun j => W32 (if j < k then Cip.rk key j else 0)).toArray
theorem karr_size (key : List UInt8) (k : Nat) : (karr key k).size = 16 := by simp [karr]
theorem karr_one (key : List UInt8) (k : Nat) : (karr key k).all (·.oneCell') = true := by simp [karr, Value.oneCell']
theorem karr_set (key : List UInt8) (k : Nat) : (karr key k).setIfInBounds k (W32 (Cip.rk key k)) = karr key (k + 1) := by
  apply Array.ext_getElem?
  intro i
  simp only [karr, List.setIfInBounds_toArray, List.getElem?_toArray, List.getElem?_set, List.getElem?_map, List.length_map, List.length_range]
  by_cases hi : i < 16
  · rw [List.getElem?_range hi]
    by_cases e : k = i
    · subst e; simp [hi]
    · by_cases h : i < k
      · simp [e, h, show i < k + 1 by omega]
      · simp [e, h, show ¬ i < k + 1 by omega]
  · rw [List.getElem?_eq_none (by simp; omega)]
    by_cases e : k = i
    · subst e; simp [hi]
    · simp [e]

set_option maxHeartbeats 400000 in
theorem cipher_roundKeys (b o c : Nat) (key : List UInt8) (w : World) (hk : key.length = 16) (hc : 16 ≤ c) (hr : Row w w.heap.size (some ⟨b, o, none⟩) (bcells key)) :
    Calls Tryz.prog 100 #[.slice (some ⟨b, o, none⟩) 16 c] w fun e w' => e = .returned (.agg (karr key 16)) ∧ Below w.heap.size w w' := by
  have Hk := Lib.hid hk
  go_enter Tryz.func100, Tryz.ntmps100
  go_wp2_with fail
  go_loopw [6] (fun i wr => ∃ k : Nat, k ≤ 16 ∧ i = .int .i64 k ∧ Blk wr w.heap.size 150 (karr key 0) ∧ Blk wr (w.heap.size + 1) 150 (karr key k) ∧ Below w.heap.size w wr) (fun i _ => 16 - (intOf i).toNat)
  case atStart =>
    exact ⟨0, by omega, rfl, (Blk.new' _ rfl rfl).alloc _, Blk.new' _ (by simp) rfl, ((Below.refl _ _).alloc (Nat.le_refl _) _).alloc (by simp) _⟩
  case round =>
    obtain ⟨k, hk16, rfl, hb1, hb2, hbel⟩ := hrel
    by_cases hlt : k < 16
    · have hf := hb2.frozen k
      obtain ⟨v0, hcl⟩ := hb2.has k (by simp [karr]; omega)
      have hrk : Calls Tryz.prog 102 #[.slice (some ⟨b, o + k % 4 * 4, none⟩) 4 (c - k % 4 * 4)] wr fun e w' => e = .returned (.int .u32 ((Cip.num (key.drop (k % 4 * 4))).toNat : Int)) ∧ ∃ k, w' = wr.drewN k :=
        cipher_number _ _ 4 _ _ w.heap.size wr (by omega) (by simp; omega) ((hr.below hbel).bdrop _)
      have HR := Lib.hid hrk
      clear hrk
      go_wp2_with (go_at_call 102; refine HR.out.mono ?_; rintro e w1 ⟨rfl, k1, rfl⟩)
      go_roundw
      case rel =>
        have hv : ((Cip.num (key.drop (k % 4 * 4))).toNat + (k : Int) * 2654435769) % 4294967296 = ((Cip.rk key k).toNat : Int) := by
          unfold Cip.rk
          rw [UInt32.toNat_add, UInt32.toNat_mul, UInt32.toNat_ofNat_of_lt' (by simp only [UInt32.size]; omega), Nat.mul_comm 4]
          show _ = (((Cip.num (key.drop (k % 4 * 4))).toNat + k * 2654435769 % 4294967296 : Nat) % 4294967296 : Int)
          omega
        rw [hv]
        refine ⟨k + 1, by omega, by go_num, (hb1.drewN k1).far (by simp) _, ?_, (Below.drewN hbel _).setCell (by simp) _⟩
        rw [← karr_set]
        exact (hb2.drewN k1).set k _
      case measure => simp [intOf]; omega
    · obtain rfl : k = 16 := by omega
      have hss : (karr key 0).size = (karr key 16).size := by rw [karr_size, karr_size]
      have hone := karr_one key 16
      have hsz : (Tryz.prog.info? 150).map (·.size) = some 16 := by kernel_rfl
      go_wp2_with (first
        | ((with_reducible show wpList _ _ _ (Oper.mk _ (Op.load 150 (Operand.tmp 3)) _ _ _ _ :: _) _ _); refine wpList_load_row rfl 150 (.tmp 3) rfl (w.heap.size + 1) rfl 150 (karr key 16) (0, 0) _ hb2 Tryz.underlying150 rfl hsz ?_)
        | ((with_reducible show wpList _ _ _ (Oper.mk _ (Op.store 150 (Operand.tmp 2) (Operand.tmp 25)) _ _ _ _ :: _) _ _); refine wpList_store_row rfl 150 (.tmp 2) (.tmp 25) rfl w.heap.size (karr key 16) rfl rfl 150 (karr key 0) hb1 hsz hss hone ?_))
      have hb3 := hb1.setRow (karr key 16)
      refine bodyPost_ret (v := .agg (karr key 16)) (results_cell_row rfl _ _ w.heap.size 150 _ (0, 0) _ rfl hb3 Tryz.underlying150 rfl (by kernel_rfl)) rfl ⟨rfl, Below.setRow hbel (Nat.le_refl _) _⟩
end Go.Proofs.YtibaibdgpnkdnaaGreatDoor
end

section
namespace Go.Proofs.YtibaibdgpnkdnaaGreatDoor
set_option maxRecDepth 100000
set_option linter.unusedSimpArgs false
set_option linter.unusedVariables false
open Go.RowKit

theorem karr_get (key : List UInt8) (i : Nat) (hi : i < 16) : (karr key 16)[i]? = some (W32 (Cip.rk key i)) := by
  simp [karr, hi]

set_option maxRecDepth 100000 in
set_option maxHeartbeats 1000000 in
theorem cipher_run (l r : UInt32) (ks : List UInt32) (hk : ks.length = 16) (w : World) :
    Calls Tryz.prog 101 #[.agg #[W32 l, W32 r], .agg (ks.map W32).toArray] w fun e w' =>
      e = .returned (.agg #[W32 (Cip.steps (l, r) ks).2, W32 (Cip.steps (l, r) ks).1]) ∧ Below w.heap.size w w' := by
  have Hk := Lib.hid hk
  clear hk
  go_enter Tryz.func101, Tryz.ntmps101
  go_wp2_with fail
  go_loopw [6] (fun i wr => ∃ k : Nat, k ≤ 16 ∧ i = .int .i64 k ∧ Blk wr w.heap.size 153 #[W32 (Cip.steps (l, r) (ks.take k)).1, W32 (Cip.steps (l, r) (ks.take k)).2] ∧
      Blk wr (w.heap.size + 1) 150 (ks.map W32).toArray ∧ Blk wr (w.heap.size + 2) 153 #[W32 0, W32 0] ∧ Below w.heap.size w wr) (fun i _ => 16 - (intOf i).toNat)
  case atStart =>
    refine ⟨0, by omega, rfl, ((Blk.new' _ rfl rfl).alloc _).alloc _, (Blk.new' _ (by simp) rfl).alloc _, Blk.new' _ (by simp) rfl, (((Below.refl _ _).alloc (Nat.le_refl _) _).alloc (by simp) _).alloc (by simp; omega) _⟩
  case round =>
    obtain ⟨k, hk16, rfl, hb0, hb1, hb2, hbel⟩ := hrel
    by_cases hlt : k < 16
    · have hkl : k < ks.length := by rw [Hk.out]; exact hlt
      have e1 : ks.take (k + 1) = ks.take k ++ [ks[k]] := by rw [List.take_succ_eq_append_getElem hkl]
      have c1 : wr.cell? ⟨w.heap.size + 1, k, none⟩ = some (W32 ks[k]) := by rw [hb1.cell]; simp [List.getElem?_map, List.getElem?_eq_getElem hkl]
      have E1 := Lib.hid e1
      have hb1' := Lib.hid hb1
      clear e1 hb1
      generalize ks[k] = kk at *
      generalize hst : Cip.steps (l, r) (ks.take k) = st at *
      have Hst := Lib.hid hst
      clear hst
      obtain ⟨a, b⟩ := st
      have a0 : wr.cell? ⟨w.heap.size, 0, none⟩ = some (W32 a) := hb0.cell 0
      have a1 : wr.cell? ⟨w.heap.size, 1, none⟩ = some (W32 b) := hb0.cell 1
      go_wp2_with fail
      have i0 : (0 : Int) ≤ (k : Int) := by omega
      have i1 : (k : Int) < 16 := by omega
      have hf0 := hb0.frozen 0
      have hf1 := hb0.frozen 1
      refine wp_region_quiet_tail 12 (by kernel_rfl) (by kernel_rfl) ?_
      simp only [List.take_succ_cons, List.take_zero]
      repeat (go_big_quiet_step ((go_at_call 103; exact Calls.quiet_of_same (cipher_f b kk _))))
      refine wpQuiet_nil ?_
      rintro _ ⟨nq, rfl⟩
      simp only [List.drop_succ_cons, List.drop_zero]
      go_wp2_with fail
      go_roundw
      case rel =>
        have hx : bits BinOp.xor IntKind.u32 (a.toNat : Int) ((Cip.mixF b kk).toNat : Int) = ((a ^^^ Cip.mixF b kk).toNat : Int) := by
          rw [u32_xor_nat _ _ a.toNat_lt (Cip.mixF b kk).toNat_lt, UInt32.toNat_xor]
        have hs : Cip.steps (l, r) (ks.take (k + 1)) = (b, a ^^^ Cip.mixF b kk) := by
          rw [E1.out, Cip.steps, List.foldl_append]
          show Cip.step (Cip.steps (l, r) (ks.take k)) kk = _
          rw [Hst.out]; rfl
        rw [hx]
        refine ⟨k + 1, by omega, by go_num, ?_, ?_, ((hb2.drewN nq).far (by simp) _).far (by simp) _, ((Below.drewN hbel nq).setCell (by simp) _).setCell (by simp) _⟩
        · rw [hs]
          exact ((hb0.drewN nq).set 0 _).set 1 _
        · exact ((hb1'.out.drewN nq).far (by simp) _).far (by simp) _
      case measure => simp [intOf]; omega
    · obtain rfl : k = 16 := by omega
      have e16 : ks.take 16 = ks := by rw [List.take_of_length_le (by rw [Hk.out]; omega)]
      rw [e16] at hb0
      have a0 : wr.cell? ⟨w.heap.size, 0, none⟩ = some (W32 (Cip.steps (l, r) ks).1) := hb0.cell 0
      have a1 : wr.cell? ⟨w.heap.size, 1, none⟩ = some (W32 (Cip.steps (l, r) ks).2) := hb0.cell 1
      have f0 := hb2.frozen 0
      have f1 := hb2.frozen 1
      have d0 : wr.cell? ⟨w.heap.size + 2, 0, none⟩ = some (W32 0) := hb2.cell 0
      have d1 : wr.cell? ⟨w.heap.size + 2, 1, none⟩ = some (W32 0) := hb2.cell 1
      go_wp2_with fail
      refine bodyPost_ret (v := .agg #[W32 (Cip.steps (l, r) ks).2, W32 (Cip.steps (l, r) ks).1]) (results_cell_row rfl _ _ (w.heap.size + 2) 153 #[W32 (Cip.steps (l, r) ks).2, W32 (Cip.steps (l, r) ks).1] (0, 0) _ rfl ((hb2.set 0 _).set 1 _) Tryz.underlying153 rfl (by kernel_rfl)) rfl ⟨rfl, (hbel.setCell (by dsimp only; omega) _).setCell (by dsimp only; omega) _⟩
end Go.Proofs.YtibaibdgpnkdnaaGreatDoor
end

section
namespace Go.Proofs.YtibaibdgpnkdnaaGreatDoor
set_option maxRecDepth 100000
set_option linter.unusedSimpArgs false
set_option linter.unusedVariables false
open Go.RowKit

/-- The keys of the rounds while k pairs of them are exchanged. -/
def sarr (key : List UInt8) (k : Nat) : Array Value := ((List.range 16).map fun j => W32 (if j < k ∨ 15 < j + k then Cip.rk key (15 - j) else Cip.rk key j)).toArray
theorem sarr_size (key : List UInt8) (k : Nat) : (sarr key k).size = 16 := by simp [sarr]
theorem sarr_zero (key : List UInt8) : karr key 16 = sarr key 0 := by
  unfold karr sarr
  refine congrArg List.toArray (List.map_congr_left fun j hj => ?_)
  have := List.mem_range.1 hj
  rw [if_pos this, if_neg (by omega)]
theorem sarr_keys (key : List UInt8) : sarr key 8 = ((Cip.keys key true).map W32).toArray := by
  unfold sarr Cip.keys
  rw [List.map_map]
  refine congrArg List.toArray (List.map_congr_left fun j hj => ?_)
  have := List.mem_range.1 hj
  rw [if_pos (by omega)]
  simp only [Function.comp_apply, if_true]
theorem karr_keys (key : List UInt8) : karr key 16 = ((Cip.keys key false).map W32).toArray := by
  unfold karr Cip.keys
  rw [List.map_map]
  refine congrArg List.toArray (List.map_congr_left fun j hj => ?_)
  have := List.mem_range.1 hj
  rw [if_pos this]
  simp only [Function.comp_apply, Bool.false_eq_true, if_false]
theorem sarr_get (key : List UInt8) (k i : Nat) (hi : i < 16) : (sarr key k)[i]? = some (W32 (if i < k ∨ 15 < i + k then Cip.rk key (15 - i) else Cip.rk key i)) := by
  simp [sarr, hi]
theorem sarr_set (key : List UInt8) (k : Nat) (hk : k < 8) : ((sarr key k).setIfInBounds k (W32 (Cip.rk key (15 - k)))).setIfInBounds (15 - k) (W32 (Cip.rk key k)) = sarr key (k + 1) := by
  apply Array.ext_getElem?
  intro i
  simp only [sarr, List.setIfInBounds_toArray, List.getElem?_toArray, List.getElem?_set, List.getElem?_map, List.length_map, List.length_range, List.length_set]
  by_cases hi : i < 16
  · rw [List.getElem?_range hi]
    by_cases e : 15 - k = i
    · subst e
      simp [show 15 - k < 16 by omega, show 15 < 15 - k + (k + 1) by omega, show 15 - (15 - k) = k by omega]
    · by_cases e' : k = i
      · subst e'; simp [e, hi]
      · rw [if_neg e, if_neg e']
        have : (i < k ∨ 15 < i + k) ↔ (i < k + 1 ∨ 15 < i + (k + 1)) := by omega
        simp only [Option.map_some, this]
  · rw [List.getElem?_eq_none (by simp; omega)]
    rw [if_neg (show ¬ 15 - k = i by omega), if_neg (show ¬ k = i by omega)]
    rfl

theorem cells4 (x : UInt32) : #[Value.int .u8 ((x.toNat : Int) / 16777216 % 256), .int .u8 ((x.toNat : Int) / 65536 % 256), .int .u8 ((x.toNat : Int) / 256 % 256), .int .u8 ((x.toNat : Int) % 256)].toList = bcells (Cip.bytes4 x) := by
  simp [bcells, Cip.bytes4, B8]
theorem out_take (a b : UInt32) (k : Nat) (hk : k < 2) : (Cip.out (a, b)).take (4 * (k + 1)) = (Cip.out (a, b)).take (4 * k) ++ Cip.bytes4 (if k = 0 then b else a) := by
  rcases (show k = 0 ∨ k = 1 by omega) with rfl | rfl <;> rfl

theorem u8_info : (Tryz.prog.info? 5).map (fun i => (i.zero, i.size, i.bytes)) = some (some (.int .u8 0), 1, 1) := by kernel_rfl

set_option maxHeartbeats 400000 in
theorem crypt_key (A A' : Option Addr) (n n' c c' : Nat) (back : Bool) (w : World) (hn : n ≠ 16) :
    Calls Tryz.prog 96 #[.slice A n c, .slice A' n' c', .bool back] w fun e w' => e = .returned (.tuple #[.slice none 0 0, .int .i64 19]) ∧ w' = w := by
  have h0 : ((n : Int) != 16) = true := by simp; omega
  go_enter Tryz.func96, Tryz.ntmps96
  go_wp2_with fail
  go_ret2
  exact ⟨rfl, rfl⟩

set_option maxHeartbeats 400000 in
theorem crypt_block (A A' : Option Addr) (n' c c' : Nat) (back : Bool) (w : World) (hn : n' ≠ 8) :
    Calls Tryz.prog 96 #[.slice A 16 c, .slice A' n' c', .bool back] w fun e w' => e = .returned (.tuple #[.slice none 0 0, .int .i64 1]) ∧ w' = w := by
  have h0 : ((n' : Int) != 8) = true := by simp; omega
  go_enter Tryz.func96, Tryz.ntmps96
  go_wp2_with fail
  go_ret2
  exact ⟨rfl, rfl⟩

set_option maxRecDepth 100000 in
set_option maxHeartbeats 1000000 in
theorem crypt_ok (kb ko bb bo c c' : Nat) (back : Bool) (key block : List UInt8) (w : World) (hk : Byt w w.heap.size (some ⟨kb, ko, none⟩) 16 c key) (hb : Byt w w.heap.size (some ⟨bb, bo, none⟩) 8 c' block) :
    Calls Tryz.prog 96 #[.slice (some ⟨kb, ko, none⟩) 16 c, .slice (some ⟨bb, bo, none⟩) 8 c', .bool back] w fun e w' => ∃ A d, e = .returned (.tuple #[.slice A 8 d, .int .i64 0]) ∧
      Own w' w.heap.size 5 1 A 8 d (bcells (Cip.crypt key block back)) ∧ Below w.heap.size w w' := by
  obtain ⟨i0, hi0, hz0, hz1, hz2⟩ := info_parts u8_info
  have hks := Lib.hid hk.1
  have hc := hk.2.1
  have hc' := hb.2.1
  have hsz : (Tryz.prog.info? 150).map (·.size) = some 16 := by kernel_rfl
  go_enter Tryz.func96, Tryz.ntmps96
  go_upto_if 21 with (first
    | (go_at_call 100; refine (cipher_roundKeys kb ko c key w hks.out hc hk.2.2).mono ?_; rintro e w1 ⟨rfl, hb1⟩)
    | ((with_reducible show wpList _ _ _ (Oper.mk _ (Op.store 150 (Operand.tmp 8) (Operand.tmp 20)) _ _ _ _ :: _) _ _); refine wpList_store_row rfl 150 (.tmp 8) (.tmp 20) rfl w1.heap.size (karr key 16) rfl rfl 150 _ (Blk.new _ _ _) hsz (karr_size key 16).symm (karr_one key 16) ?_))
  have hk1 := (Blk.new w1 150 #[Value.int IntKind.u32 0, Value.int IntKind.u32 0, Value.int IntKind.u32 0, Value.int IntKind.u32 0, Value.int IntKind.u32 0, Value.int IntKind.u32 0, Value.int IntKind.u32 0, Value.int IntKind.u32 0, Value.int IntKind.u32 0, Value.int IntKind.u32 0, Value.int IntKind.u32 0, Value.int IntKind.u32 0, Value.int IntKind.u32 0, Value.int IntKind.u32 0, Value.int IntKind.u32 0, Value.int IntKind.u32 0]).setRow (karr key 16)
  have hb2 : Below w.heap.size w (World.setRow (w1.alloc (Obj.cells #[Value.int IntKind.u32 0, Value.int IntKind.u32 0, Value.int IntKind.u32 0, Value.int IntKind.u32 0, Value.int IntKind.u32 0, Value.int IntKind.u32 0, Value.int IntKind.u32 0, Value.int IntKind.u32 0, Value.int IntKind.u32 0, Value.int IntKind.u32 0, Value.int IntKind.u32 0, Value.int IntKind.u32 0, Value.int IntKind.u32 0, Value.int IntKind.u32 0, Value.int IntKind.u32 0, Value.int IntKind.u32 0] 150)) w1.heap.size (karr key 16)) :=
    Below.setRow (hb1.alloc hb1.size _) hb1.size _
  generalize World.setRow (w1.alloc _) w1.heap.size (karr key 16) = w2 at *
  have hlt1 := hk1.lt
  generalize hg : w1.heap.size = g at *
  go_cut [9] (fun _ wx => Blk wx g 150 ((Cip.keys key back).map W32).toArray ∧ Below w.heap.size w wx)
  case first =>
    cases back with
    | false =>
      go_wp2_with fail
      go_meet
      exact ⟨by rw [← karr_keys]; exact hk1, hb2⟩
    | true =>
      rw [sarr_zero] at hk1
      go_wp2_with fail
      go_loopw [22] (fun i wr => ∃ k : Nat, k ≤ 8 ∧ i = .int .i64 k ∧ Blk wr g 150 (sarr key k) ∧ Below w.heap.size w wr) (fun i _ => 8 - (intOf i).toNat)
      case atStart => exact ⟨0, by omega, rfl, hk1, hb2⟩
      case round =>
        obtain ⟨k, hk8, rfl, hbk, hbel⟩ := hrel
        by_cases hlt : k < 8
        · have i0 : (0 : Int) ≤ (k : Int) := by omega
          have i1 : (k : Int) < 16 := by omega
          have i2 : (k : Int) ≤ 15 := by omega
          have i3 : 15 - (k : Int) < 16 := by omega
          have c0 : wr.cell? ⟨g, k, none⟩ = some (W32 (Cip.rk key k)) := by rw [hbk.cell, sarr_get key k k (by omega), if_neg (by omega)]
          have c1 : wr.cell? ⟨g, 15 - k, none⟩ = some (W32 (Cip.rk key (15 - k))) := by rw [hbk.cell, sarr_get key k (15 - k) (by omega), if_neg (by omega)]
          have hgw : w.heap.size ≤ g := by rw [← hg]; exact hb1.size
          have f0 := hbk.frozen k
          have f1 := hbk.frozen (15 - k)
          go_wp2_with fail
          have i5 : (15 - (k : Int)).toNat = 15 - k := by omega
          have i4 : IntKind.i64.wrap (15 - (k : Int)) = 15 - (k : Int) := IntWalk.i64_in _ (by omega)
          go_region
          all_goals
            clear i4 i5
            go_wp2_with fail
            go_roundw
            case rel =>
              refine ⟨k + 1, by omega, by go_num, ?_, ?_⟩
              · rw [← sarr_set key k hlt]
                exact ((hbk.set k _).set (15 - k) _).drew
              · exact ((hbel.setCell hgw _).setCell hgw _).drew
            case measure => simp [intOf]; omega
        · obtain rfl : k = 8 := by omega
          rw [sarr_keys] at hbk
          go_wp2_with fail
          go_meet
          exact ⟨hbk, hbel⟩
  case rest =>
    obtain ⟨hbk, hbel⟩ := hcut
    have hkl : ((Cip.keys key back).map W32).length = 16 := by simp [Cip.keys]
    have hrange : wc.rangeAt g 0 ((Cip.keys key back).map W32) := fun j v hv => by
      rw [hbk.cell]; simpa using hv
    have hu := Tryz.underlying150
    have hsz2 : (Tryz.prog.info? 150).map (·.size) = some ((Cip.keys key back).map W32).length := by rw [hkl]; exact hsz
    have hgc := hbk.lt
    have hb' : Row wc w.heap.size (some ⟨bb, bo, none⟩) (bcells block) := (hb.below hbel).2.2
    clear hbk
    go_wp2_with fail
    have j0 : (4 : Int) ≤ (c' : Int) := by omega
    have j1 : ¬ c' = 4 := by omega
    go_region_held3 (fun w' => w'.rangeAt g 0 ((Cip.keys key back).map W32))
      (first | exact hrange | exact fun j v hv => (hb3.cell (p := ⟨g, 0 + j, none⟩) hgc).trans (hrange j v hv))
      (first
        | (go_at_call_of 102 (Value.slice (some ⟨bb, bo, none⟩) 4 c'); refine (cipher_number bb bo 4 c' (block.take 4) w.heap.size _ (by omega) (by simp [hb.1]) (by exact hb'.btake 4)).mono ?_; rintro e w2 ⟨rfl, k2, rfl⟩)
        | (go_at_call 102; refine (cipher_number bb (bo + 4) 4 (c' - 4) (block.drop 4) w.heap.size _ (by omega) (by simp [hb.1]) (by exact hb'.bdrop 4)).mono ?_; rintro e w2 ⟨rfl, k2, rfl⟩)
        | (go_at_call 101; refine (cipher_run _ _ _ (by simp [Cip.keys]) _).mono ?_; rintro e w3 ⟨rfl, hb3⟩))
    have hbel3 : Below w.heap.size w w3 := (Below.drewN hbel _).trans (hb3.mono hbel.size)
    generalize hst : Cip.steps (Cip.num (block.take 4), Cip.num (block.drop 4)) (Cip.keys key back) = st
    have Hst := Lib.hid hst
    clear hst hb3 hrange
    obtain ⟨a, b⟩ := st
    have x0 : ∀ (k : Nat), k < 2 → ∀ u : World, (Instr.index 153 (.agg #[W32 b, W32 a]) (.int .i64 (k : Int))).run Tryz.prog u = .ok (W32 (if k = 0 then b else a)) u := by
      intro k hk
      rcases (show k = 0 ∨ k = 1 by omega) with rfl | rfl
      · exact fun _ => by kernel_rfl
      · exact fun _ => by kernel_rfl
    go_wp2_with fail
    go_loopw [10, 47] (fun v i wr => ∃ (k : Nat) (A : Option Addr) (d : Nat), k ≤ 2 ∧ i = .int .i64 k ∧ v = .slice A (4 * k) d ∧ Own wr w.heap.size 5 1 A (4 * k) d (bcells ((Cip.out (a, b)).take (4 * k))) ∧ Below w.heap.size w wr) (fun _ i _ => 2 - (intOf i).toNat)
    case atStart => exact ⟨0, none, 0, by omega, rfl, rfl, Own.none_ _ _ _ _ _, hbel3⟩
    case round =>
      obtain ⟨k, A, d, hk2, rfl, rfl, hown, hbw⟩ := hrel
      by_cases hlt : k < 2
      · have x1 := x0 k hlt
        have ot := Lib.hid (out_take a b k hlt)
        clear x0
        generalize (if k = 0 then b else a) = x at *
        go_wp2_with (at_builtin; refine wpList_append _ rfl (.tmp 50) (.tmp 62) 22 rfl w.heap.size 5 i0 _ 1 1 Tryz.underlying22 hi0 hz0 hz1 hz2 rfl (by omega) A (4 * k) d (bcells ((Cip.out (a, b)).take (4 * k))) rfl (hown.alloc _) (wr.heap.size + 1) (some ⟨wr.heap.size, 0, none⟩) 4 4 (bcells (Cip.bytes4 x)) rfl (Row.new wr (cells4 x)) (by simp [Cip.bytes4]) (bcells_one _) (by unfold maxLen; omega) (by omega) (by simp; have := hbw.size; omega) ?_; intro A2 c2 w4 hown4 hg4 hat4)
        go_roundw
        case rel =>
          refine ⟨k + 1, A2, c2, by omega, by go_num, rfl, ?_, (hown.alloc _).grown hg4 (hbw.alloc hbw.size _) (by simp; have := hbw.size; omega)⟩
          rw [ot.out, bcells_append]
          exact hown4
        case measure => simp [intOf]; omega
      · obtain rfl : k = 2 := by omega
        go_wp2_with fail
        go_ret2
        refine ⟨A, d, rfl, ?_, hbw⟩
        have e : Cip.crypt key block back = (Cip.out (a, b)).take (4 * 2) := by
          have h1 : Cip.crypt key block back = Cip.out (Cip.steps (Cip.num block, Cip.num (block.drop 4)) (Cip.keys key back)) := rfl
          rw [h1, ← Cip.num_take block, Hst.out]
          rfl
        rw [e]
        exact hown
end Go.Proofs.YtibaibdgpnkdnaaGreatDoor
end

section
namespace Go.Proofs.YtibaibdgpnkdnaaGreatDoor
set_option maxRecDepth 100000
set_option linter.unusedSimpArgs false
set_option linter.unusedVariables false
open Go.RowKit

set_option maxHeartbeats 400000 in
theorem refrun_key (A A' : Option Addr) (n n' c c' : Nat) (back : Bool) (w : World) (hn : n ≠ 16) :
    Calls Tryz.prog 95 #[.slice A n c, .slice A' n' c', .bool back] w fun e w' => e = .returned (.tuple #[.slice none 0 0, .int .i64 19]) ∧ w' = w := by
  have h0 : ((n : Int) != 16) = true := by simp; omega
  go_enter Tryz.func95, Tryz.ntmps95
  go_wp2_with fail
  go_ret2
  exact ⟨rfl, rfl⟩

set_option maxHeartbeats 400000 in
theorem refrun_block (A A' : Option Addr) (n' c c' : Nat) (back : Bool) (w : World) (hn : n' ≠ 8) :
    Calls Tryz.prog 95 #[.slice A 16 c, .slice A' n' c', .bool back] w fun e w' => e = .returned (.tuple #[.slice none 0 0, .int .i64 1]) ∧ w' = w := by
  have h0 : ((n' : Int) != 8) = true := by simp; omega
  go_enter Tryz.func95, Tryz.ntmps95
  go_wp2_with fail
  go_ret2
  exact ⟨rfl, rfl⟩

set_option maxRecDepth 100000 in
set_option maxHeartbeats 1000000 in
theorem refrun_ok (kb ko bb bo c c' : Nat) (back : Bool) (key block : List UInt8) (w : World) (hk : Byt w w.heap.size (some ⟨kb, ko, none⟩) 16 c key) (hb : Byt w w.heap.size (some ⟨bb, bo, none⟩) 8 c' block) :
    Calls Tryz.prog 95 #[.slice (some ⟨kb, ko, none⟩) 16 c, .slice (some ⟨bb, bo, none⟩) 8 c', .bool back] w fun e w' => ∃ A d, e = .returned (.tuple #[.slice A 8 d, .int .i64 0]) ∧
      Own w' w.heap.size 5 1 A 8 d (bcells (Cip.crypt key block back)) ∧ Below w.heap.size w w' := by
  have hks := Lib.hid hk.1
  have hbs := Lib.hid hb.1
  have hc := hk.2.1
  have hc' := hb.2.1
  have hb' := hb.2.2
  have hk' := hk.2.2
  clear hk hb
  go_enter Tryz.func95, Tryz.ntmps95
  go_wp2_with fail
  have j0 : (4 : Int) ≤ (c' : Int) := by omega
  have j1 : ¬ c' = 4 := by omega
  go_quiet ((first
    | (go_at_call_of 97 (Value.slice (some ⟨bb, bo, none⟩) 4 c'); refine Calls.quiet_of (ref19_number bb bo 4 c' (block.take 4) w.heap.size _ (by omega) (by simp [hbs.out]) (by exact hb'.btake 4)))
    | (go_at_call 97; refine Calls.quiet_of (ref19_number bb (bo + 4) 4 (c' - 4) (block.drop 4) w.heap.size _ (by omega) (by simp [hbs.out]) (by exact hb'.bdrop 4)))))
  clear j0 j1
  rw [Cip.num_take]
  go_wp2_with fail
  go_loopw [8, 9, 10] (fun l r i wr => ∃ k : Nat, k ≤ 16 ∧ i = .int .i64 k ∧ (∃ a b : UInt32, Cip.steps (Cip.num block, Cip.num (block.drop 4)) ((Cip.keys key back).take k) = (a, b) ∧ l = W32 a ∧ r = W32 b) ∧ ∃ d, wr = w.drewN d) (fun _ _ i _ => 16 - (intOf i).toNat)
  case atStart => exact ⟨0, by omega, rfl, ⟨_, _, rfl, rfl, rfl⟩, _, rfl⟩
  case round =>
    obtain ⟨k, hk16, rfl, ⟨a, b, hst, rfl, rfl⟩, d, rfl⟩ := hrel
    have Hst := Lib.hid hst
    clear hst
    by_cases hlt : k < 16
    · have hnx := Cip.steps_succ (Cip.num block, Cip.num (block.drop 4)) (Cip.keys key back) k (by rw [Cip.length_keys]; exact hlt)
      rw [Hst.out, Cip.keys_get] at hnx
      have Hnx := Lib.hid hnx
      clear hnx
      cases back with
      | true =>
        go_wp2_with (first
          | (go_at_call 99; refine (ref19_round kb ko c key (15 - (k : Int)) (15 - k) (by omega) (by omega) w.heap.size _ hks.out hc (by exact hk')).mono ?_; rintro e w1 ⟨rfl, k1, rfl⟩)
          | (go_at_call 98; refine (ref19_mix _ _ _).mono ?_; rintro e w1 ⟨rfl, rfl⟩))
        go_roundw
        case rel =>
          have hx : bits BinOp.xor IntKind.u32 (a.toNat : Int) ((Cip.mixF b (Cip.rk key (15 - k))).toNat : Int) = ((a ^^^ Cip.mixF b (Cip.rk key (15 - k))).toNat : Int) := by
            rw [u32_xor_nat _ _ a.toNat_lt (Cip.mixF _ _).toNat_lt, UInt32.toNat_xor]
          rw [hx]
          exact ⟨k + 1, by omega, by go_num, ⟨b, a ^^^ Cip.mixF b (Cip.rk key (15 - k)), by rw [Hnx.out]; rfl, rfl, rfl⟩, _, rfl⟩
        case measure => simp [intOf]; omega
      | false =>
        go_wp2_with (first
          | (go_at_call 99; refine (ref19_round kb ko c key (k : Int) k rfl (by omega) w.heap.size _ hks.out hc (by exact hk')).mono ?_; rintro e w1 ⟨rfl, k1, rfl⟩)
          | (go_at_call 98; refine (ref19_mix _ _ _).mono ?_; rintro e w1 ⟨rfl, rfl⟩))
        go_roundw
        case rel =>
          have hx : bits BinOp.xor IntKind.u32 (a.toNat : Int) ((Cip.mixF b (Cip.rk key (k))).toNat : Int) = ((a ^^^ Cip.mixF b (Cip.rk key (k))).toNat : Int) := by
            rw [u32_xor_nat _ _ a.toNat_lt (Cip.mixF _ _).toNat_lt, UInt32.toNat_xor]
          rw [hx]
          exact ⟨k + 1, by omega, by go_num, ⟨b, a ^^^ Cip.mixF b (Cip.rk key (k)), by rw [Hnx.out]; rfl, rfl, rfl⟩, _, rfl⟩
        case measure => simp [intOf]; omega
    · obtain rfl : k = 16 := by omega
      go_wp2_with fail
      go_ret2
      have e1 : (Cip.keys key back).take 16 = Cip.keys key back := List.take_of_length_le (by rw [Cip.length_keys]; omega)
      have e2 : Cip.crypt key block back = Cip.out (a, b) := by
        have h1 : Cip.crypt key block back = Cip.out (Cip.steps (Cip.num block, Cip.num (block.drop 4)) (Cip.keys key back)) := rfl
        rw [h1, ← Hst.out, e1]
      refine ⟨_, _, rfl, ?_, ?_⟩
      · rw [e2]
        have e3 : #[Value.int .u8 ((b.toNat : Int) / 16777216 % 256), .int .u8 ((b.toNat : Int) / 65536 % 256), .int .u8 ((b.toNat : Int) / 256 % 256), .int .u8 ((b.toNat : Int) % 256), Value.int .u8 ((a.toNat : Int) / 16777216 % 256), .int .u8 ((a.toNat : Int) / 65536 % 256), .int .u8 ((a.toNat : Int) / 256 % 256), .int .u8 ((a.toNat : Int) % 256)].toList.take (8 * 1) = bcells (Cip.out (a, b)) := by
          have h1 := cells4 a
          have h2 := cells4 b
          show _ = bcells (Cip.bytes4 b ++ Cip.bytes4 a)
          rw [bcells_append, ← h1, ← h2]; rfl
        rw [← e3]
        exact Own.blk (n := 8) (c := 8) (Blk.new' _ rfl rfl) (by simp) (by omega) (by unfold maxLen; omega) (by simp) (by simp)
      · exact (Below.drewN (Below.refl _ _) d).alloc (by simp) _
end Go.Proofs.YtibaibdgpnkdnaaGreatDoor
end

section
namespace Go.Proofs.YtibaibdgpnkdnaaGreatDoor
set_option maxRecDepth 100000
set_option linter.unusedSimpArgs false
set_option linter.unusedVariables false
open Go.RowKit

theorem cipher_crypt (A A' : Option Addr) (n n' c c' : Nat) (back : Bool) (key block : List UInt8) (w : World) (hk : Byt w w.heap.size A n c key) (hb : Byt w w.heap.size A' n' c' block) :
    Calls Tryz.prog 96 #[.slice A n c, .slice A' n' c', .bool back] w fun e w' => ∃ A2 d, e = .returned (.tuple #[.slice A2 (Cip.res key block back).length d, .int .i64 (Cip.err key block)]) ∧
      Own w' w.heap.size 5 1 A2 (Cip.res key block back).length d (bcells (Cip.res key block back)) ∧ Below w.heap.size w w' := by
  by_cases h1 : n = 16
  · subst h1
    by_cases h2 : n' = 8
    · subst h2
      obtain ⟨kb, ko, rfl, _⟩ := hk.at_ (by omega)
      obtain ⟨bb, bo, rfl, _⟩ := hb.at_ (by omega)
      rw [Cip.res_ok key block back hk.1 hb.1, Cip.err_ok key block hk.1 hb.1]
      exact crypt_ok kb ko bb bo c c' back key block w hk hb
    · rw [Cip.res_block key block back hk.1 (by rw [hb.1]; exact h2), Cip.err_block key block hk.1 (by rw [hb.1]; exact h2)]
      exact (crypt_block A A' n' c c' back w h2).mono fun e w' ⟨he, hw⟩ => ⟨none, 0, he, Own.none_ _ _ _ _ _, by subst hw; exact Below.refl _ _⟩
  · rw [Cip.res_key key block back (by rw [hk.1]; exact h1), Cip.err_key key block (by rw [hk.1]; exact h1)]
    exact (crypt_key A A' n n' c c' back w h1).mono fun e w' ⟨he, hw⟩ => ⟨none, 0, he, Own.none_ _ _ _ _ _, by subst hw; exact Below.refl _ _⟩

theorem ref19_run (A A' : Option Addr) (n n' c c' : Nat) (back : Bool) (key block : List UInt8) (w : World) (hk : Byt w w.heap.size A n c key) (hb : Byt w w.heap.size A' n' c' block) :
    Calls Tryz.prog 95 #[.slice A n c, .slice A' n' c', .bool back] w fun e w' => ∃ A2 d, e = .returned (.tuple #[.slice A2 (Cip.res key block back).length d, .int .i64 (Cip.err key block)]) ∧
      Own w' w.heap.size 5 1 A2 (Cip.res key block back).length d (bcells (Cip.res key block back)) ∧ Below w.heap.size w w' := by
  by_cases h1 : n = 16
  · subst h1
    by_cases h2 : n' = 8
    · subst h2
      obtain ⟨kb, ko, rfl, _⟩ := hk.at_ (by omega)
      obtain ⟨bb, bo, rfl, _⟩ := hb.at_ (by omega)
      rw [Cip.res_ok key block back hk.1 hb.1, Cip.err_ok key block hk.1 hb.1]
      exact refrun_ok kb ko bb bo c c' back key block w hk hb
    · rw [Cip.res_block key block back hk.1 (by rw [hb.1]; exact h2), Cip.err_block key block hk.1 (by rw [hb.1]; exact h2)]
      exact (refrun_block A A' n' c c' back w h2).mono fun e w' ⟨he, hw⟩ => ⟨none, 0, he, Own.none_ _ _ _ _ _, by subst hw; exact Below.refl _ _⟩
  · rw [Cip.res_key key block back (by rw [hk.1]; exact h1), Cip.err_key key block (by rw [hk.1]; exact h1)]
    exact (refrun_key A A' n n' c c' back w h1).mono fun e w' ⟨he, hw⟩ => ⟨none, 0, he, Own.none_ _ _ _ _ _, by subst hw; exact Below.refl _ _⟩

set_option maxHeartbeats 400000 in
theorem cipher_Encrypt (A A' : Option Addr) (n n' c c' : Nat) (key block : List UInt8) (w : World) (hk : Byt w w.heap.size A n c key) (hb : Byt w w.heap.size A' n' c' block) :
    Calls Tryz.prog 88 #[.slice A n c, .slice A' n' c'] w fun e w' => ∃ A2 d, e = .returned (.tuple #[.slice A2 (Cip.res key block false).length d, .int .i64 (Cip.err key block)]) ∧
      Own w' w.heap.size 5 1 A2 (Cip.res key block false).length d (bcells (Cip.res key block false)) ∧ Below w.heap.size w w' := by
  go_enter Tryz.func88, Tryz.ntmps88
  go_wp2_with (go_at_call 96; refine (cipher_crypt A A' n n' c c' false key block w hk hb).mono ?_; rintro e w1 ⟨A2, d, rfl, hown, hbel⟩)
  go_ret2
  exact ⟨A2, d, rfl, hown, hbel⟩

set_option maxHeartbeats 400000 in
theorem cipher_Decrypt (A A' : Option Addr) (n n' c c' : Nat) (key block : List UInt8) (w : World) (hk : Byt w w.heap.size A n c key) (hb : Byt w w.heap.size A' n' c' block) :
    Calls Tryz.prog 91 #[.slice A n c, .slice A' n' c'] w fun e w' => ∃ A2 d, e = .returned (.tuple #[.slice A2 (Cip.res key block true).length d, .int .i64 (Cip.err key block)]) ∧
      Own w' w.heap.size 5 1 A2 (Cip.res key block true).length d (bcells (Cip.res key block true)) ∧ Below w.heap.size w w' := by
  go_enter Tryz.func91, Tryz.ntmps91
  go_wp2_with (go_at_call 96; refine (cipher_crypt A A' n n' c c' true key block w hk hb).mono ?_; rintro e w1 ⟨A2, d, rfl, hown, hbel⟩)
  go_ret2
  exact ⟨A2, d, rfl, hown, hbel⟩

set_option maxHeartbeats 400000 in
theorem ref19_Encrypt (A A' : Option Addr) (n n' c c' : Nat) (key block : List UInt8) (w : World) (hk : Byt w w.heap.size A n c key) (hb : Byt w w.heap.size A' n' c' block) :
    Calls Tryz.prog 85 #[.slice A n c, .slice A' n' c'] w fun e w' => ∃ A2 d, e = .returned (.tuple #[.slice A2 (Cip.res key block false).length d, .int .i64 (Cip.err key block)]) ∧
      Own w' w.heap.size 5 1 A2 (Cip.res key block false).length d (bcells (Cip.res key block false)) ∧ Below w.heap.size w w' := by
  go_enter Tryz.func85, Tryz.ntmps85
  go_wp2_with (go_at_call 95; refine (ref19_run A A' n n' c c' false key block w hk hb).mono ?_; rintro e w1 ⟨A2, d, rfl, hown, hbel⟩)
  go_ret2
  exact ⟨A2, d, rfl, hown, hbel⟩

set_option maxHeartbeats 400000 in
theorem ref19_Decrypt (A A' : Option Addr) (n n' c c' : Nat) (key block : List UInt8) (w : World) (hk : Byt w w.heap.size A n c key) (hb : Byt w w.heap.size A' n' c' block) :
    Calls Tryz.prog 87 #[.slice A n c, .slice A' n' c'] w fun e w' => ∃ A2 d, e = .returned (.tuple #[.slice A2 (Cip.res key block true).length d, .int .i64 (Cip.err key block)]) ∧
      Own w' w.heap.size 5 1 A2 (Cip.res key block true).length d (bcells (Cip.res key block true)) ∧ Below w.heap.size w w' := by
  go_enter Tryz.func87, Tryz.ntmps87
  go_wp2_with (go_at_call 95; refine (ref19_run A A' n n' c c' true key block w hk hb).mono ?_; rintro e w1 ⟨A2, d, rfl, hown, hbel⟩)
  go_ret2
  exact ⟨A2, d, rfl, hown, hbel⟩
end Go.Proofs.YtibaibdgpnkdnaaGreatDoor
end

section
namespace Go.Proofs.YtibaibdgpnkdnaaGreatDoor
set_option maxRecDepth 100000
set_option linter.unusedSimpArgs false
set_option linter.unusedVariables false
open Go.RowKit

/-- What a call leaves that hands back bytes of its own. -/
def BOne (t : TypeId) (w : World) (bs : List UInt8) (e : Ending) (w' : World) : Prop :=
  ∃ A c, e = .returned (.slice A bs.length c) ∧ Own w' w.heap.size t 1 A bs.length c (bcells bs) ∧ Below w.heap.size w w'

theorem mode_xor (A A' : Option Addr) (n n' c c' : Nat) (a b : List UInt8) (w : World) (h : Byt w w.heap.size A n c a) (h' : Byt w w.heap.size A' n' c' b) (hn : n ≤ 1000000) :
    Calls Tryz.prog 76 #[.slice A n c, .slice A' n' c'] w (BOne 5 w (xrB a b)) := by
  go_enter Tryz.func76, Tryz.ntmps76
  go_wp2_with (go_at_call 89; refine (octets_Xor A A' n n' c c' a b _ h h' hn).mono ?_; rintro e w1 ⟨A2, d, rfl, hown, hbel⟩)
  go_ret
  exact ⟨A2, d, rfl, hown, hbel⟩

theorem mode_encrypt (A A' : Option Addr) (n n' c c' : Nat) (key x : List UInt8) (w : World) (h : Byt w w.heap.size A n c key) (h' : Byt w w.heap.size A' n' c' x) :
    Calls Tryz.prog 75 #[.slice A n c, .slice A' n' c'] w (BOne 5 w (Cip.res key x false)) := by
  go_enter Tryz.func75, Tryz.ntmps75
  go_wp2_with (go_at_call 88; refine (cipher_Encrypt A A' n n' c c' key x _ h h').mono ?_; rintro e w1 ⟨A2, d, rfl, hown, hbel⟩)
  go_ret
  exact ⟨A2, d, rfl, hown, hbel⟩

theorem mode_pad (A : Option Addr) (n c : Nat) (a : List UInt8) (w : World) (h : Byt w w.heap.size A n c a) (hn : n ≤ 1000000000) :
    Calls Tryz.prog 77 #[.slice A n c] w (BOne 5 w (Oct.pad a 8)) := by
  have hp := pad_yes a 8 (by omega) (by omega)
  go_enter Tryz.func77, Tryz.ntmps77
  have hc : Calls Tryz.prog 58 #[.slice A n c, .int .i64 8] w (BRes 5 w (Oct.pad a 8) 0) := by
    have := octets_Pad A n c a ((8 : Nat) : Int) w h hn
    rw [hp.1, hp.2] at this
    exact this
  have HC := Lib.hid hc
  clear hc hp
  go_wp2_with (go_at_call 58; refine HC.out.mono ?_; rintro e w1 ⟨A2, d, rfl, hown, hbel⟩)
  go_ret
  exact ⟨A2, d, rfl, hown, hbel⟩

/-- What the chain's function leaves: a block of the result, and the chaining value, which lies where it lay or is new. -/
def CRes (w : World) (Ax : Option Addr) (o nx : List UInt8) (e : Ending) (w' : World) : Prop :=
  ∃ A c A2 c2, e = .returned (.tuple #[.slice A 8 c, .slice A2 8 c2]) ∧ Byt w' w'.heap.size A 8 c o ∧ Byt w' w'.heap.size A2 8 c2 nx ∧ Below w.heap.size w w' ∧
    (∀ g, g < w.heap.size → Ax.map (·.block) ≠ some g → A2.map (·.block) ≠ some g)

theorem own_far {w' : World} {base : Nat} {t : TypeId} {A : Option Addr} {n c : Nat} {cs : List Value} (h : Own w' base t 1 A n c cs) (hc : 0 < c) (g : Nat) (hg : g < base) : A.map (·.block) ≠ some g := by
  obtain ⟨g1, cur, rfl, hb, _⟩ := h.2.2.2 hc
  intro e
  simp at e
  omega

set_option maxHeartbeats 1000000 in
theorem enc_step (Ak A A' : Option Addr) (ck c c' : Nat) (key x y : List UInt8) (g : Nat) (w : World) (hk : Byt w w.heap.size Ak 16 ck key) (h0 : w.cell? ⟨g, 0, none⟩ = some (.slice Ak 16 ck)) (hg : g < w.heap.size)
    (h : Byt w w.heap.size A 8 c x) (h' : Byt w w.heap.size A' 8 c' y) :
    Calls Tryz.prog 74 #[.slice A 8 c, .slice A' 8 c', .pointer (some ⟨g, 0, none⟩)] w (CRes w A (Cip.crypt key (Oct.xor x y) false) (Cip.crypt key (Oct.xor x y) false)) := by
  have hx : xrB x y = Oct.xor x y := by unfold xrB; rw [h.1, h'.1, if_pos rfl]
  have hxl : (Oct.xor x y).length = 8 := by rw [Mod.xor_length]; exact h.1
  have hr : Cip.res key (Oct.xor x y) false = Cip.crypt key (Oct.xor x y) false := Cip.res_ok _ _ _ hk.1 hxl
  have H1 : ∀ u : World, Byt u u.heap.size A 8 c x → Byt u u.heap.size A' 8 c' y → Calls Tryz.prog 76 #[.slice A 8 c, .slice A' 8 c'] u fun e u' => ∃ A2 c2, e = .returned (.slice A2 8 c2) ∧ Own u' u.heap.size 5 1 A2 8 c2 (bcells (Oct.xor x y)) ∧ Below u.heap.size u u' := fun u hu hu' => by
    refine (mode_xor A A' 8 8 c c' x y u hu hu' (by omega)).mono ?_
    rintro e u' ⟨A2, c2, rfl, ho, hb⟩
    rw [hx, hxl] at ho ⊢
    exact ⟨A2, c2, rfl, ho, hb⟩
  have H2 : ∀ (u : World) (A2 : Option Addr) (c2 : Nat), Byt u u.heap.size Ak 16 ck key → Byt u u.heap.size A2 8 c2 (Oct.xor x y) → Calls Tryz.prog 75 #[.slice Ak 16 ck, .slice A2 8 c2] u fun e u' => ∃ A3 c3, e = .returned (.slice A3 8 c3) ∧ Own u' u.heap.size 5 1 A3 8 c3 (bcells (Cip.crypt key (Oct.xor x y) false)) ∧ Below u.heap.size u u' := fun u A2 c2 hu hu' => by
    refine (mode_encrypt Ak A2 16 8 ck c2 key _ u hu hu').mono ?_
    rintro e u' ⟨A3, c3, rfl, ho, hb⟩
    rw [hr, Mod.crypt_length] at ho ⊢
    exact ⟨A3, c3, rfl, ho, hb⟩
  clear hx hxl hr
  generalize Oct.xor x y = z at *
  generalize Cip.crypt key z false = o at *
  have HK := Lib.hid hk
  have HX := Lib.hid h
  have HY := Lib.hid h'
  have HG := Lib.hid hg
  have hkeep : ∀ u : World, Below w.heap.size w u → u.cell? ⟨g, 0, none⟩ = some (.slice Ak 16 ck) := fun u hu => (hu.cell (p := ⟨g, 0, none⟩) hg).trans h0
  have HKP := Lib.hid hkeep
  clear hk h h' hkeep
  go_enter Tryz.func74, Tryz.ntmps74
  go_wp2_with fail
  go_region_held3 (fun u => u.cell? ⟨g, 0, none⟩ = some (.slice Ak 16 ck))
    (first
      | exact HKP.out _ (Below.refl _ _)
      | exact HKP.out _ (Below.refl _ _).drew
      | exact HKP.out _ hb1
      | exact HKP.out _ (hb1.trans (hb2.mono hb1.size)))
    ((first
      | (go_at_call 76; refine (H1 _ (by first | exact HX.out | exact HX.out.below (Below.refl _ _).drew) (by first | exact HY.out | exact HY.out.below (Below.refl _ _).drew)).mono ?_; rintro e w1 ⟨A2, c2, rfl, ho1, hb1⟩; replace hb1 := (Below.refl w.heap.size w).drew.trans (hb1.mono (by simp)))
      | (go_at_call 75; refine (H2 _ A2 c2 ((HK.out.below hb1).more hb1.size) (ho1.byt (Nat.le_refl _))).mono ?_; rintro e w2 ⟨A3, c3, rfl, ho2, hb2⟩)))
  all_goals
    go_wp2_with fail
    go_ret2
    have hb := hb1.trans (hb2.mono hb1.size)
    refine ⟨A3, c3, A3, c3, rfl, ho2.byt (Nat.le_refl _), ho2.byt (Nat.le_refl _), hb, fun q hq _ => own_far ho2 (by have := ho2.le; omega) q (by have := hb1.size; omega)⟩

set_option maxHeartbeats 1000000 in
theorem dec_step (Ak A A' : Option Addr) (ck c c' : Nat) (key x y : List UInt8) (g : Nat) (w : World) (hk : Byt w w.heap.size Ak 16 ck key) (h0 : w.cell? ⟨g, 0, none⟩ = some (.slice Ak 16 ck))
    (h : Byt w w.heap.size A 8 c x) (h' : Byt w w.heap.size A' 8 c' y) :
    Calls Tryz.prog 90 #[.slice A 8 c, .slice A' 8 c', .pointer (some ⟨g, 0, none⟩)] w (CRes w A (Oct.xor (Cip.crypt key x true) y) x) := by
  have hx : xrB (Cip.crypt key x true) y = Oct.xor (Cip.crypt key x true) y := by unfold xrB; rw [h'.1, if_pos (Mod.crypt_length _ _ _)]
  have hxl : (Oct.xor (Cip.crypt key x true) y).length = 8 := by rw [Mod.xor_length]; exact Mod.crypt_length _ _ _
  have hr : Cip.res key x true = Cip.crypt key x true := Cip.res_ok _ _ _ hk.1 h.1
  have he : Cip.err key x = 0 := Cip.err_ok _ _ hk.1 h.1
  have H2 : Calls Tryz.prog 91 #[.slice Ak 16 ck, .slice A 8 c] w fun e u' => ∃ A3 c3, e = .returned (.tuple #[.slice A3 8 c3, .int .i64 0]) ∧ Own u' w.heap.size 5 1 A3 8 c3 (bcells (Cip.crypt key x true)) ∧ Below w.heap.size w u' := by
    refine (cipher_Decrypt Ak A 16 8 ck c key x w hk h).mono ?_
    rintro e u' ⟨A3, c3, rfl, ho, hb⟩
    rw [hr, Mod.crypt_length] at ho ⊢
    rw [he]
    exact ⟨A3, c3, rfl, ho, hb⟩
  have H1 : ∀ (u : World) (A2 : Option Addr) (c2 : Nat), Byt u u.heap.size A2 8 c2 (Cip.crypt key x true) → Byt u u.heap.size A' 8 c' y → Calls Tryz.prog 76 #[.slice A2 8 c2, .slice A' 8 c'] u fun e u' => ∃ A3 c3, e = .returned (.slice A3 8 c3) ∧ Own u' u.heap.size 5 1 A3 8 c3 (bcells (Oct.xor (Cip.crypt key x true) y)) ∧ Below u.heap.size u u' := fun u A2 c2 hu hu' => by
    refine (mode_xor A2 A' 8 8 c2 c' _ y u hu hu' (by omega)).mono ?_
    rintro e u' ⟨A2, c2, rfl, ho, hb⟩
    rw [hx, hxl] at ho ⊢
    exact ⟨A2, c2, rfl, ho, hb⟩
  clear hx hxl hr he
  generalize Oct.xor (Cip.crypt key x true) y = z at *
  generalize Cip.crypt key x true = o at *
  have HK := Lib.hid hk
  have HX := Lib.hid h
  have HY := Lib.hid h'
  have H2' := Lib.hid H2
  clear hk h h' H2
  go_enter Tryz.func90, Tryz.ntmps90
  go_wp2_with (first
    | (go_at_call 91; refine H2'.out.mono ?_; rintro e w1 ⟨A2, c2, rfl, ho1, hb1⟩)
    | (go_at_call 76; refine (H1 _ A2 c2 (ho1.byt (Nat.le_refl _)) ((HY.out.below hb1).more hb1.size)).mono ?_; rintro e w2 ⟨A3, c3, rfl, ho2, hb2⟩))
  go_ret2
  have hb := hb1.trans (hb2.mono hb1.size)
  exact ⟨A3, c3, A, c, rfl, ho2.byt (Nat.le_refl _), (HX.out.below hb).more hb.size, hb, fun q _ hq => hq⟩

/-- The chain in plain mathematics. -/
def cSt (st : List UInt8 → List UInt8 → List UInt8 × List UInt8) (iv d : List UInt8) (k : Nat) : List UInt8 × List UInt8 :=
  (List.range k).foldl (fun s i => (s.1 ++ (st (Mod.blk d i) s.2).1, (st (Mod.blk d i) s.2).2)) ([], iv)
theorem cSt_succ (st : List UInt8 → List UInt8 → List UInt8 × List UInt8) (iv d : List UInt8) (k : Nat) :
    cSt st iv d (k + 1) = ((cSt st iv d k).1 ++ (st (Mod.blk d k) (cSt st iv d k).2).1, (st (Mod.blk d k) (cSt st iv d k).2).2) := by
  simp [cSt, List.range_succ]
def stE (key x y : List UInt8) : List UInt8 × List UInt8 := (Cip.crypt key (Oct.xor x y) false, Cip.crypt key (Oct.xor x y) false)
def stD (key x y : List UInt8) : List UInt8 × List UInt8 := (Oct.xor (Cip.crypt key x true) y, x)
theorem cSt_e (key iv d : List UInt8) (k : Nat) : cSt (stE key) iv d k = Mod.eSt key iv d k := rfl
theorem cSt_d (key iv d : List UInt8) (k : Nat) : cSt (stD key) iv d k = Mod.dSt key iv d k := rfl
/-- What the result's block holds after k blocks. -/
def cOut (st : List UInt8 → List UInt8 → List UInt8 × List UInt8) (iv d : List UInt8) (n k : Nat) : List Value := bcells ((cSt st iv d k).1 ++ zs (n - 8 * k))
theorem cOut_zero (st : List UInt8 → List UInt8 → List UInt8 × List UInt8) (iv d : List UInt8) (n : Nat) : cOut st iv d n 0 = List.replicate n (.int .u8 0) := by
  rw [bcells_zs]; rfl
theorem cOut_end (st : List UInt8 → List UInt8 → List UInt8 × List UInt8) (iv d : List UInt8) (m : Nat) : cOut st iv d (8 * m) m = bcells (cSt st iv d m).1 := by
  unfold cOut; rw [Nat.sub_self]; simp [zs]
theorem cOut_next (st : List UInt8 → List UInt8 → List UInt8 × List UInt8) (iv d : List UInt8) (n k : Nat) (o : List UInt8) (hl : (cSt st iv d k).1.length = 8 * k) (hn : 8 * k + 8 ≤ n)
    (ho : (st (Mod.blk d k) (cSt st iv d k).2).1 = o) (h8 : o.length = 8) :
    (cOut st iv d n k).take (8 * k) ++ (bcells o ++ (cOut st iv d n k).drop (8 * k + (bcells o).length)) = cOut st iv d n (k + 1) := by
  unfold cOut
  rw [cSt_succ, ho, bcells_append, bcells_append, bcells_append, List.take_append_of_le_length (by rw [length_bcells]; omega), List.take_of_length_le (by rw [length_bcells]; omega), List.drop_append, List.drop_eq_nil_of_le (by rw [length_bcells, length_bcells]; omega), List.nil_append, length_bcells, length_bcells, List.append_assoc, hl, h8]
  congr 2
  simp only [bcells, zs, List.map_replicate, List.drop_replicate]
  congr 1
  omega
end Go.Proofs.YtibaibdgpnkdnaaGreatDoor
end

section
namespace Go.Proofs.YtibaibdgpnkdnaaGreatDoor
set_option maxRecDepth 100000
set_option linter.unusedSimpArgs false
set_option linter.unusedVariables false
open Go.RowKit

theorem chain_bad (A A' A'' : Option Addr) (n n' n'' c c' c'' : Nat) (f : Value) (w : World) (h : ¬ (n = 16 ∧ n' = 8 ∧ n'' % 8 = 0)) :
    Calls Tryz.prog 73 #[.slice A n c, .slice A' n' c', .slice A'' n'' c'', f] w (BRes 5 w [] 1) := by
  by_cases h1 : n = 16
  · subst h1
    by_cases h2 : n' = 8
    · subst h2
      have h3 : ((n'' : Int) % 8 != 0) = true := by rw [bne_iff_ne]; omega
      go_enter Tryz.func73, Tryz.ntmps73
      go_wp2_with fail
      go_ret2
      exact BRes.nil _ (Below.refl _ _)
    · have h3 : ((n' : Int) != 8) = true := by rw [bne_iff_ne]; omega
      go_enter Tryz.func73, Tryz.ntmps73
      go_wp2_with fail
      go_ret2
      exact BRes.nil _ (Below.refl _ _)
  · have h3 : ((n : Int) != 16) = true := by rw [bne_iff_ne]; omega
    go_enter Tryz.func73, Tryz.ntmps73
    go_wp2_with fail
    go_ret2
    exact BRes.nil _ (Below.refl _ _)

set_option maxHeartbeats 2000000 in
theorem chain_good (fid : Nat) (p : Addr) (st : List UInt8 → List UInt8 → List UInt8 × List UInt8) (Ak Av Ad : Option Addr) (m ck cv cd : Nat) (iv d : List UInt8) (w : World)
    (hv : Byt w w.heap.size Av 8 cv iv) (hd : Byt w w.heap.size Ad (8 * m) cd d) (hn : 8 * m ≤ 1000000)
    (hcf : ∀ (args : Array Value) (u : World), (callFunc fid args).run Tryz.prog u = .ok (.enter fid args) u)
    (hst : ∀ (u : World) (A A' : Option Addr) (c c' : Nat) (x y : List UInt8), Below w.heap.size w u → Byt u u.heap.size A 8 c x → Byt u u.heap.size A' 8 c' y →
      Calls Tryz.prog fid #[.slice A 8 c, .slice A' 8 c', .pointer (some p)] u (CRes u A (st x y).1 (st x y).2)) :
    Calls Tryz.prog 73 #[.slice Ak 16 ck, .slice Av 8 cv, .slice Ad (8 * m) cd, .func (.func fid) #[] #[.pointer (some p)]] w (BRes 5 w (cSt st iv d m).1 0) := by
  obtain ⟨ti, hti, hz0, hz1, hz2⟩ := info_parts o_u8
  obtain ⟨n, hnm⟩ : ∃ n, n = 8 * m := ⟨_, rfl⟩
  rw [← hnm] at hd hn ⊢
  have h3 : ((n : Int) % 8 != 0) = false := by rw [bne_eq_false_iff_eq]; omega
  have mk : ∀ u : World, (Instr.makeSlice 22 (.int .i64 (n : Int)) (.int .i64 (n : Int))).run Tryz.prog u = .ok (.slice (some ⟨u.heap.size, 0, none⟩) n n) (u.alloc (.cells (madeCells #[.int .u8 0] n) 5)) :=
    made_u8 22 5 ti Tryz.underlying22 hti hz0 hz1 hz2 n (by omega)
  have HNM := Lib.hid hnm
  have HV := Lib.hid hv
  have HD := Lib.hid hd
  have hdc := hd.2.1
  clear hnm hv hd
  go_enter Tryz.func73, Tryz.ntmps73
  go_wp2_with (go_at_call 11; refine (slices_Clone Av 8 cv iv _ ((HV.out.below ((Below.refl _ _).alloc (Nat.le_refl _) _)).more (by simp)) (by omega)).mono ?_; rintro e w1 ⟨A1, c1, rfl, ho1, hb1⟩)
  go_loopg [11, 12] m (fun g y i wr => ∃ (k a : Nat) (A1 : Option Addr) (c1 : Nat), k + g = m ∧ Hid (a = 8 * k) ∧ i = .int .i64 (a : Int) ∧ y = .slice A1 8 c1 ∧ Byt wr wr.heap.size A1 8 c1 (cSt st iv d k).2 ∧ A1.map (·.block) ≠ some w.heap.size ∧
    Hid ((cSt st iv d k).1.length = a) ∧ Blk wr w.heap.size 5 (cOut st iv d n k).toArray ∧ Below w.heap.size w wr)
  case atStart =>
    refine ⟨0, 0, A1, c1, by omega, Lib.hid rfl, rfl, rfl, ho1.byt (Nat.le_refl _), own_far ho1 (by have := ho1.le; omega) _ (by simp), Lib.hid rfl, ?_, ((Below.refl _ _).alloc (Nat.le_refl _) _).trans (hb1.mono (by simp))⟩
    rw [cOut_zero, ← madeCells_eq]
    exact (Blk.new w 5 (madeCells #[.int .u8 0] n)).below hb1 (by simp)
  case round =>
    obtain ⟨k, a, A1, c1, hkg, hak, rfl, rfl, hy, hfar, hlen, hblk, hbw⟩ := hrel
    cases gk with
    | zero =>
      obtain rfl : k = m := by omega
      have hn : a = n := by rw [hak.out, HNM.out]
      subst hn
      go_wp2_with fail
      go_ret2
      have e1 : cOut st iv d a k = bcells (cSt st iv d k).1 := by rw [HNM.out]; exact cOut_end st iv d k
      rw [e1] at hblk
      exact BRes.mk hlen.out (by
        have h := Own.blk (s := 1) (n := a) (c := a) hblk (Nat.le_refl _) (Nat.le_refl _) (by unfold maxLen; omega) (by simp [hlen.out]) (by simp [hlen.out])
        rw [List.take_of_length_le (by simp [hlen.out])] at h
        exact h) hbw
    | succ g =>
      have hlt : (a : Int) < (n : Int) := by have := hak.out; have := HNM.out; omega
      have hle : (a : Int) + 8 ≤ (n : Int) := by have := hak.out; have := HNM.out; omega
      have p0 : (0 : Int) ≤ (a : Int) := by omega
      obtain ⟨b1, o1, rfl, hb1⟩ := HD.out.at_ (by omega)
      have hca : ¬ cd = a := by omega
      have hna : ¬ n = a := by omega
      have hc8 : (a : Int) + 8 ≤ (cd : Int) := by omega
      have hx : Byt wr wr.heap.size (some ⟨b1, o1 + a, none⟩) 8 (cd - a) (Mod.blk d k) := by
        have h1 := ((HD.out.below hbw).more hbw.size).drop a (by omega)
        have h2 := h1.take 8 (cd - a) (by omega) (by omega)
        rw [hak.out] at h2 ⊢
        exact h2
      obtain ⟨o, ho⟩ : ∃ o, (st (Mod.blk d k) (cSt st iv d k).2).1 = o := ⟨_, rfl⟩
      obtain ⟨nx, hnx⟩ : ∃ nx, (st (Mod.blk d k) (cSt st iv d k).2).2 = nx := ⟨_, rfl⟩
      have hs := hst wr _ _ _ _ _ _ hbw hx hy
      rw [ho, hnx] at hs
      have HS := Lib.hid hs
      have HO := Lib.hid ho
      have HN := Lib.hid hnx
      clear hx hy hs ho hnx
      go_wp2_with (first
        | (refine HS.out.mono ?_; rintro e w2 ⟨A2, c2, A3, c3, rfl, hb2, hb3, hbel, hfr⟩; obtain ⟨b2, o2, rfl, hb2l⟩ := hb2.at_ (by omega))
        | ((with_reducible show wpList _ _ _ (Oper.mk _ (Op.call { callee := Callee.builtin Builtin.copy, args := _, argTypes := _ }) _ _ _ _ :: _) _ _); (refine wpList_copy_own rfl (.tmp 53) (.tmp 54) 22 22 rfl 5 Tryz.underlying22 (by kernel_rfl) w.heap.size a (n - a) (n - a) ⟨b2, o2, none⟩ 8 c2 rfl rfl (cOut st iv d n k).toArray 5 ?_ (bcells o) ?_ ?_ ?_ ?_ ?_)))
      · exact hblk.below hbel hblk.lt
      · rw [length_bcells, hb2.1]; exact (Nat.min_eq_left (by omega)).symm
      · intro j v hj
        have hjl : j < (bcells o).length := (List.getElem?_eq_some_iff.1 hj).1
        obtain ⟨b, oo, e, _, hc⟩ := hb2.2.2 (by omega)
        obtain ⟨rfl, rfl⟩ : b2 = b ∧ o2 = oo := by simpa using e
        rw [add_eq, hc j hjl, hj]
      · simp only [List.size_toArray, cOut, length_bcells, List.length_append, hlen.out, hb2.1, zs_length]; have := hak.out; omega
      · exact bcells_one o
      · go_wp2_with fail
        go_roundg g
        case measure => omega
        case rel =>
          have hb := hbw.trans (hbel.mono hbw.size)
          refine ⟨k + 1, a + 8, A3, c3, by omega, Lib.hid (by rw [hak.out]; omega), by go_num, rfl, ?_, hfr _ hblk.lt (by simp; omega), Lib.hid (by rw [cSt_succ, HO.out, List.length_append, hlen.out, hb2.1]), ?_, Below.setRow hb (Nat.le_refl _) _⟩
          · rw [cSt_succ, HN.out]
            refine ⟨hb3.1, hb3.2.1, ?_⟩
            rw [size_setRow]
            intro h0
            obtain ⟨b, oo, e, hbl, hc⟩ := hb3.2.2 h0
            refine ⟨b, oo, e, hbl, fun j hj => ?_⟩
            rw [cell_setRow_other _ _ _ _ (fun hh => hfr _ hblk.lt (by simp; omega) (by rw [e]; simp at hh; simp [hh]))]
            exact hc j hj
          · have e := cOut_next st iv d n k o (by rw [hlen.out, hak.out]) (by have := hak.out; omega) HO.out hb2.1
            rw [← hak.out, length_bcells] at e
            rw [e]
            exact (hblk.below hbel hblk.lt).setRow _

theorem cf_enc : ∀ (args : Array Value) (u : World), (callFunc 74 args).run Tryz.prog u = .ok (.enter 74 args) u := fun _ _ => by kernel_rfl
theorem cf_dec : ∀ (args : Array Value) (u : World), (callFunc 90 args).run Tryz.prog u = .ok (.enter 90 args) u := fun _ _ => by kernel_rfl

/-- Encryption and decryption together: the errors and the bytes. -/
theorem cb_cases (key iv d : List UInt8) (back : Bool) : (key.length = 16 ∧ iv.length = 8 ∧ ∃ m, d.length = 8 * m ∧ Mod.cbE key iv d = 0 ∧ Mod.cbB key iv d back = if back then (Mod.dSt key iv d m).1 else (Mod.eSt key iv d m).1) ∨
    (¬ (key.length = 16 ∧ iv.length = 8 ∧ d.length % 8 = 0) ∧ Mod.cbE key iv d = 1 ∧ Mod.cbB key iv d back = []) := by
  by_cases h : key.length = 16 ∧ iv.length = 8 ∧ d.length % 8 = 0
  · obtain ⟨h1, h2, h3⟩ := h
    have := Mod.cb_ok key iv d back h1 h2 h3
    exact .inl ⟨h1, h2, d.length / 8, by omega, this.1, this.2⟩
  · exact .inr ⟨h, (Mod.cb_bad key iv d back h).1, (Mod.cb_bad key iv d back h).2⟩

set_option maxHeartbeats 1000000 in
theorem mode_EncryptCBC (A A' A'' : Option Addr) (n n' n'' c c' c'' : Nat) (key iv d : List UInt8) (w : World) (hk : Byt w w.heap.size A n c key) (hv : Byt w w.heap.size A' n' c' iv) (hd : Byt w w.heap.size A'' n'' c'' d) (hn : n'' ≤ 1000000) :
    Calls Tryz.prog 59 #[.slice A n c, .slice A' n' c', .slice A'' n'' c''] w (BRes 5 w (Mod.cbB key iv d false) (Mod.cbE key iv d)) := by
  have hmf : ∀ (fn : Fn) (first cap : Array Value) (w : World), (Instr.makeFunc fn first cap).run Tryz.prog w = .ok (.func fn first cap) w := fun _ _ _ _ => rfl
  have hu := (Below.refl w.heap.size w).alloc (Nat.le_refl _) (.cells #[.slice A n c] 22)
  have hsz : w.heap.size ≤ (w.alloc (.cells #[.slice A n c] 22)).heap.size := hu.size
  have h0 : (w.alloc (.cells #[.slice A n c] 22)).cell? ⟨w.heap.size, 0, none⟩ = some (.slice A n c) := by simp
  have hC : Calls Tryz.prog 73 #[.slice A n c, .slice A' n' c', .slice A'' n'' c'', .func (.func 74) #[] #[.pointer (some ⟨w.heap.size, 0, none⟩)]] (w.alloc (.cells #[.slice A n c] 22)) (BRes 5 (w.alloc (.cells #[.slice A n c] 22)) (Mod.cbB key iv d false) (Mod.cbE key iv d)) := by
    rcases cb_cases key iv d false with ⟨h1, h2, m, h3, h4, h5⟩ | ⟨h1, h4, h5⟩
    · rw [h4, h5]
      obtain rfl : n = 16 := by rw [← hk.1, h1]
      obtain rfl : n' = 8 := by rw [← hv.1, h2]
      obtain rfl : n'' = 8 * m := by rw [← hd.1, h3]
      refine chain_good _ ⟨w.heap.size, 0, none⟩ (stE key) A A' A'' m c c' c'' iv d _ ((hv.below hu).more hsz) ((hd.below hu).more hsz) hn cf_enc ?_
      intro u B B' b b' x y hb hx hy
      exact enc_step A B B' c b b' key x y w.heap.size u ((hk.below (hu.trans (hb.mono hsz))).more (by have := hb.size; omega)) ((hb.cell (p := ⟨w.heap.size, 0, none⟩) (by simp)).trans h0) (by have := hb.size; simp at this; omega) hx hy
    · rw [h4, h5]
      exact chain_bad _ _ _ _ _ _ _ _ _ _ _ (by rw [← hk.1, ← hv.1, ← hd.1]; exact h1)
  have HC := Lib.hid hC
  clear hC hk hv hd
  go_enter Tryz.func59, Tryz.ntmps59
  go_wp2_with (go_at_call 73; refine HC.out.mono ?_; rintro e w1 ⟨A2, d2, rfl, hown, hbel⟩)
  go_ret2
  exact ⟨A2, d2, rfl, hown.mono hsz, hu.trans (hbel.mono hsz)⟩

set_option maxHeartbeats 1000000 in
theorem mode_DecryptCBC (A A' A'' : Option Addr) (n n' n'' c c' c'' : Nat) (key iv d : List UInt8) (w : World) (hk : Byt w w.heap.size A n c key) (hv : Byt w w.heap.size A' n' c' iv) (hd : Byt w w.heap.size A'' n'' c'' d) (hn : n'' ≤ 1000000) :
    Calls Tryz.prog 78 #[.slice A n c, .slice A' n' c', .slice A'' n'' c''] w (BRes 5 w (Mod.cbB key iv d true) (Mod.cbE key iv d)) := by
  have hmf : ∀ (fn : Fn) (first cap : Array Value) (w : World), (Instr.makeFunc fn first cap).run Tryz.prog w = .ok (.func fn first cap) w := fun _ _ _ _ => rfl
  have hu := (Below.refl w.heap.size w).alloc (Nat.le_refl _) (.cells #[.slice A n c] 22)
  have hsz : w.heap.size ≤ (w.alloc (.cells #[.slice A n c] 22)).heap.size := hu.size
  have h0 : (w.alloc (.cells #[.slice A n c] 22)).cell? ⟨w.heap.size, 0, none⟩ = some (.slice A n c) := by simp
  have hC : Calls Tryz.prog 73 #[.slice A n c, .slice A' n' c', .slice A'' n'' c'', .func (.func 90) #[] #[.pointer (some ⟨w.heap.size, 0, none⟩)]] (w.alloc (.cells #[.slice A n c] 22)) (BRes 5 (w.alloc (.cells #[.slice A n c] 22)) (Mod.cbB key iv d true) (Mod.cbE key iv d)) := by
    rcases cb_cases key iv d true with ⟨h1, h2, m, h3, h4, h5⟩ | ⟨h1, h4, h5⟩
    · rw [h4, h5]
      obtain rfl : n = 16 := by rw [← hk.1, h1]
      obtain rfl : n' = 8 := by rw [← hv.1, h2]
      obtain rfl : n'' = 8 * m := by rw [← hd.1, h3]
      refine chain_good _ ⟨w.heap.size, 0, none⟩ (stD key) A A' A'' m c c' c'' iv d _ ((hv.below hu).more hsz) ((hd.below hu).more hsz) hn cf_dec ?_
      intro u B B' b b' x y hb hx hy
      exact dec_step A B B' c b b' key x y w.heap.size u ((hk.below (hu.trans (hb.mono hsz))).more (by have := hb.size; omega)) ((hb.cell (p := ⟨w.heap.size, 0, none⟩) (by simp)).trans h0) hx hy
    · rw [h4, h5]
      exact chain_bad _ _ _ _ _ _ _ _ _ _ _ (by rw [← hk.1, ← hv.1, ← hd.1]; exact h1)
  have HC := Lib.hid hC
  clear hC hk hv hd
  go_enter Tryz.func78, Tryz.ntmps78
  go_wp2_with (go_at_call 73; refine HC.out.mono ?_; rintro e w1 ⟨A2, d2, rfl, hown, hbel⟩)
  go_ret2
  exact ⟨A2, d2, rfl, hown.mono hsz, hu.trans (hbel.mono hsz)⟩
end Go.Proofs.YtibaibdgpnkdnaaGreatDoor
end

section
namespace Go.Proofs.YtibaibdgpnkdnaaGreatDoor
set_option maxRecDepth 100000
set_option linter.unusedSimpArgs false
set_option linter.unusedVariables false
open Go.RowKit

set_option maxHeartbeats 1000000 in
theorem mode_MAC (A A' A'' : Option Addr) (n n' n'' c c' c'' : Nat) (key iv d : List UInt8) (w : World) (hk : Byt w w.heap.size A n c key) (hv : Byt w w.heap.size A' n' c' iv) (hd : Byt w w.heap.size A'' n'' c'' d) (hn : n'' ≤ 100000) :
    Calls Tryz.prog 62 #[.slice A n c, .slice A' n' c', .slice A'' n'' c''] w (BRes 5 w (Mod.mcB key iv d) (Mod.mcE key iv)) := by
  obtain ⟨e1, e2⟩ := Mod.mc_cb key iv d
  have hpl := Oct.pad_length d 8
  have hpn := Oct.padN_lt d.length 8 (by omega)
  have hP : Calls Tryz.prog 77 #[.slice A'' n'' c''] w (BOne 5 w (Oct.pad d 8)) := mode_pad A'' n'' c'' d w hd (by omega)
  have HP := Lib.hid hP
  have hE : ∀ (u : World) (A2 : Option Addr) (c2 : Nat), Below w.heap.size w u → Byt u u.heap.size A2 (Oct.pad d 8).length c2 (Oct.pad d 8) →
      Calls Tryz.prog 59 #[.slice A n c, .slice A' n' c', .slice A2 (Oct.pad d 8).length c2] u (BRes 5 u (Mod.cbB key iv (Oct.pad d 8) false) (Mod.mcE key iv)) := fun u A2 c2 hb h2 => by
    rw [← e1]
    exact mode_EncryptCBC A A' A2 n n' _ c c' c2 key iv _ u ((hk.below hb).more hb.size) ((hv.below hb).more hb.size) h2 (by rw [hpl]; have := hd.1; omega)
  have hd1 := hd.1
  clear hP hk hv hd e1
  by_cases hok : key.length = 16 ∧ iv.length = 8
  · have hm0 : Mod.mcE key iv = 0 := by unfold Mod.mcE; rw [if_pos hok]
    obtain ⟨e3, e4, e5⟩ := e2 hm0
    have hml := Mod.mcB_length key iv d hok
    obtain ⟨q, hq⟩ : ∃ q, (Oct.pad d 8).length = q + 8 := ⟨(Oct.pad d 8).length - 8, by omega⟩
    have hbl : (Mod.cbB key iv (Oct.pad d 8) false).length = q + 8 := by rw [e4, hq]
    rw [hq, Nat.add_sub_cancel] at e3
    rw [hm0] at hE ⊢
    generalize Mod.cbB key iv (Oct.pad d 8) false = bb at *
    generalize Mod.mcB key iv d = mb at *
    have hE' : ∀ (u : World) (A2 : Option Addr) (c2 : Nat), Below w.heap.size w u → Byt u u.heap.size A2 (Oct.pad d 8).length c2 (Oct.pad d 8) →
      Calls Tryz.prog 59 #[.slice A n c, .slice A' n' c', .slice A2 (Oct.pad d 8).length c2] u fun e u' => ∃ b o c3, e = .returned (.tuple #[.slice (some ⟨b, o, none⟩) (q + 8) c3, .int .i64 0]) ∧ Byt u' u'.heap.size (some ⟨b, o, none⟩) (q + 8) c3 bb ∧ Below u.heap.size u u' := fun u A2 c2 hb h2 => by
      refine (hE u A2 c2 hb h2).mono ?_
      rintro e u' ⟨A3, c3, rfl, ho, hb3⟩
      have hby := ho.byt (Nat.le_refl _)
      rw [hbl] at hby ⊢
      obtain ⟨b, o, rfl, _⟩ := hby.at_ (by omega)
      exact ⟨b, o, c3, rfl, hby, hb3⟩
    have HE := Lib.hid hE'
    have hq2 : q + 8 ≤ 1000000 := by omega
    have E3 := Lib.hid e3
    have HML := Lib.hid hml
    clear hE hE' e2 e4 e5 hm0 e3 hml hbl hq hpl hpn hd1
    generalize Oct.pad d 8 = pd at *
    go_enter Tryz.func62, Tryz.ntmps62
    go_wp2_with (go_at_call 77; refine HP.out.mono ?_; rintro e w1 ⟨A2, c2, rfl, ho2, hb2⟩)
    go_wp2_with ((go_at_call 59; refine (HE.out _ A2 c2 hb2 (ho2.byt (Nat.le_refl _))).mono ?_; rintro e w2 ⟨b, o, c3, rfl, hy, hb3⟩; have hcc := hy.2.1; have q1 : ¬ c3 = q := by omega))
    have hy8 : Byt w2 w2.heap.size (some ⟨b, o + q, none⟩) 8 (c3 - q) mb := by
      have h1 := hy.drop q (by omega)
      rw [Nat.add_sub_cancel_left, ← E3.out] at h1
      exact h1
    go_wp2_with (go_at_call 11; refine (slices_Clone _ 8 (c3 - q) mb _ hy8 (by omega)).mono ?_; rintro e w3 ⟨A4, c4, rfl, ho4, hb4⟩)
    go_ret2
    exact BRes.mk HML.out (ho4.mono (by have := hb2.size; have := hb3.size; omega)) (hb2.trans ((hb3.trans (hb4.mono hb3.size)).mono hb2.size))
  · have hm0 : Mod.mcE key iv = 1 := by unfold Mod.mcE; rw [if_neg hok]
    have hm1 : Mod.mcB key iv d = [] := by unfold Mod.mcB; rw [if_neg hok]
    rw [hm0] at hE ⊢
    rw [hm1]
    have HE := Lib.hid hE
    clear hE e2 hm0 hm1 hpl hpn hd1
    generalize Oct.pad d 8 = pd at *
    go_enter Tryz.func62, Tryz.ntmps62
    go_wp2_with (first
      | (go_at_call 77; refine HP.out.mono ?_; rintro e w1 ⟨A2, c2, rfl, ho2, hb2⟩)
      | (go_at_call 59; refine (HE.out _ A2 c2 hb2 (ho2.byt (Nat.le_refl _))).mono ?_; rintro e w2 ⟨A3, c3, rfl, ho3, hb3⟩))
    go_ret2
    exact BRes.nil _ (hb2.trans (hb3.mono hb2.size))
end Go.Proofs.YtibaibdgpnkdnaaGreatDoor
end

section
namespace Go.Proofs.YtibaibdgpnkdnaaGreatDoor
set_option maxRecDepth 100000
set_option linter.unusedSimpArgs false
set_option linter.unusedVariables false
open Go.RowKit

theorem byts_two {u : World} {i1 i2 nl cl : Nat} {t : TypeId} {Al : Option Addr} {x : UInt8} {l : List UInt8} (h1 : Blk u i1 5 #[B8 x]) (h2 : Blk u i2 t #[.slice (some ⟨i1, 0, none⟩) 1 1, .slice Al nl cl]) (hl : Byt u u.heap.size Al nl cl l) :
    Byts u u.heap.size (some ⟨i2, 0, none⟩) [⟨some ⟨i1, 0, none⟩, 1, 1, [x]⟩, ⟨Al, nl, cl, l⟩] := by
  refine ⟨h2.row, fun v hv => ?_⟩
  rcases List.mem_cons.1 hv with rfl | hv
  · exact byt_blk (bs := [x]) h1 h1.lt rfl
  · obtain rfl := List.mem_singleton.1 hv
    exact hl
theorem join_two {u : World} {i1 i2 nl cl : Nat} {t : TypeId} {Al : Option Addr} {x : UInt8} {l : List UInt8} (h2 : Blk u i2 t #[.slice (some ⟨i1, 0, none⟩) 1 1, .slice Al nl cl]) (h1 : Blk u i1 5 #[B8 x]) (hl : Byt u u.heap.size Al nl cl l) (hn : nl ≤ 1000000) :
    Calls Tryz.prog 39 #[.slice (some ⟨i2, 0, none⟩) 2 2] u fun e u' => ∃ A2 c2, e = .returned (.slice A2 (nl + 1) c2) ∧ Own u' u.heap.size 5 1 A2 (nl + 1) c2 (bcells (x :: l)) ∧ Below u.heap.size u u' := by
  have e : joined [⟨some ⟨i1, 0, none⟩, 1, 1, [x]⟩, ⟨Al, nl, cl, l⟩] = x :: l := by simp [joined]
  have hj : (x :: l).length = nl + 1 := by rw [List.length_cons, hl.1]
  refine (octets_Join (some ⟨i2, 0, none⟩) 2 2 _ u (byts_two h1 h2 hl) rfl (by omega) (by rw [e, hj]; omega)).mono ?_
  rintro e' u' ⟨A2, c2, rfl, ho, hb⟩
  rw [e, hj] at ho ⊢
  exact ⟨A2, c2, rfl, ho, hb⟩

/-- The derived key after k rounds. -/
def drK (key label : List UInt8) : Nat → List UInt8
  | 0 => []
  | k + 1 => drK key label k ++ Mod.mcB key Mod.z8 (UInt8.ofNat (k + 1) :: label)
theorem drK_two (key label : List UInt8) (h : key.length = 16) : drK key label 2 = Mod.drB key label := by
  unfold Mod.drB; rw [if_pos h]; rfl
theorem drK_length (key label : List UInt8) (h : key.length = 16) (k : Nat) : (drK key label k).length = 8 * k := by
  induction k with
  | zero => rfl
  | succ k ih => show (drK key label k ++ _).length = _; rw [List.length_append, ih, Mod.mcB_length _ _ _ ⟨h, rfl⟩]; omega

end Go.Proofs.YtibaibdgpnkdnaaGreatDoor
end

section
namespace Go.Proofs.YtibaibdgpnkdnaaGreatDoor
set_option maxRecDepth 100000
set_option linter.unusedSimpArgs false
set_option linter.unusedVariables false
open Go.RowKit

theorem put_eight (m : Nat) (w : World) (hm : m ≤ 1000000) :
    Calls Tryz.prog 61 #[.int .i64 (m : Int), .int .i64 8] w fun e w' => ∃ A c, e = .returned (.tuple #[.slice A 8 c, .int .i64 0]) ∧ Own w' w.heap.size 5 1 A 8 c (bcells (Oct.putB m 8)) ∧ Below w.heap.size w w' := by
  have h8 := pt_ok m 8 (by omega) (by omega) (Nat.lt_of_le_of_lt hm (by decide))
  refine (octets_Put (m : Int) ((8 : Nat) : Int) w (by omega)).mono ?_
  rintro e w' ⟨A, c, rfl, ho, hb⟩
  rw [h8.1, h8.2, Oct.putB_length] at *
  exact ⟨A, c, rfl, ho, hb⟩

theorem join_pair {u : World} {i2 n1 c1 n2 c2 : Nat} {t : TypeId} {A1 A2 : Option Addr} {b1 b2 : List UInt8} (h2 : Blk u i2 t #[.slice A1 n1 c1, .slice A2 n2 c2]) (h1 : Byt u u.heap.size A1 n1 c1 b1) (hl : Byt u u.heap.size A2 n2 c2 b2) (hn : n1 ≤ 1000000) (hn2 : n2 ≤ 1000000) :
    Calls Tryz.prog 39 #[.slice (some ⟨i2, 0, none⟩) 2 2] u fun e u' => ∃ A3 c3, e = .returned (.slice A3 (n1 + n2) c3) ∧ Own u' u.heap.size 5 1 A3 (n1 + n2) c3 (bcells (b1 ++ b2)) ∧ Below u.heap.size u u' := by
  have e : joined [⟨A1, n1, c1, b1⟩, ⟨A2, n2, c2, b2⟩] = b1 ++ b2 := by simp [joined]
  have hj : (b1 ++ b2).length = n1 + n2 := by rw [List.length_append, h1.1, hl.1]
  have hby : Byts u u.heap.size (some ⟨i2, 0, none⟩) [⟨A1, n1, c1, b1⟩, ⟨A2, n2, c2, b2⟩] := by
    refine ⟨h2.row, fun v hv => ?_⟩
    rcases List.mem_cons.1 hv with rfl | hv
    · exact h1
    · obtain rfl := List.mem_singleton.1 hv
      exact hl
  refine (octets_Join (some ⟨i2, 0, none⟩) 2 2 _ u hby rfl (by omega) (by rw [e, hj]; omega)).mono ?_
  rintro e' u' ⟨A2, c2, rfl, ho, hb⟩
  rw [e, hj] at ho ⊢
  exact ⟨A2, c2, rfl, ho, hb⟩

theorem inv_get (x : List UInt8) (j : Nat) (h : j < x.length) : (bcells ((Mod.inv x).take j ++ x.drop j))[j]? = some (.int .u8 ((x.getD j 0).toNat : Int)) := by
  rw [bcells_get, List.getElem?_append_right (by simp [Mod.inv]; exact Nat.min_le_left _ _), List.getElem?_drop]
  simp [Mod.inv, Nat.min_eq_left (Nat.le_of_lt h), List.getD, List.getElem?_eq_getElem h, B8]
theorem inv_set (x : List UInt8) (j : Nat) (h : j < x.length) : (bcells ((Mod.inv x).take j ++ x.drop j)).set j (B8 (255 - x.getD j 0)) = bcells ((Mod.inv x).take (j + 1) ++ x.drop (j + 1)) := by
  have hl : j < (Mod.inv x).length := by simp [Mod.inv]; exact h
  unfold bcells
  rw [← List.map_set]
  congr 1
  rw [List.set_append_right _ _ (by simp [Mod.inv]; exact Nat.min_le_left _ _), List.length_take, Nat.min_eq_left (Nat.le_of_lt hl), Nat.sub_self, List.drop_eq_getElem_cons h, List.set_cons_zero, List.take_succ_eq_append_getElem hl, List.append_assoc]
  congr 1
  simp [Mod.inv, List.getD, List.getElem?_eq_getElem h]
theorem byte_all {p : Nat → Prop} [DecidablePred p] (h : (List.range 256).all (fun n => decide (p n)) = true) (n : Nat) (hn : n < 256) : p n := by
  rw [List.all_eq_true] at h
  exact of_decide_eq_true (h n (List.mem_range.2 hn))
theorem inv_byte (b : UInt8) : bits BinOp.xor IntKind.u8 IntKind.u8.max (b.toNat : Int) = ((255 - b).toNat : Int) := by
  have h : ∀ n : Nat, n < 256 → 255 ^^^ n = 255 - n := fun n hn => byte_all (p := fun n => 255 ^^^ n = 255 - n) (by kernel_rfl) n hn
  have hb := b.toNat_lt
  have h1 := u8_xor_nat 255 b.toNat (by omega) (by omega)
  rw [h _ (by omega)] at h1
  have h2 : (255 - b).toNat = 255 - b.toNat := by
    rw [UInt8.toNat_sub_of_le _ _ (by rw [UInt8.le_iff_toNat_le]; exact Nat.le_of_lt_succ hb)]; rfl
  rw [h2]
  exact h1

end Go.Proofs.YtibaibdgpnkdnaaGreatDoor
end

section
namespace Go.Proofs.YtibaibdgpnkdnaaGreatDoor
set_option maxRecDepth 100000
set_option linter.unusedSimpArgs false
set_option linter.unusedVariables false
open Go.RowKit

theorem byt_kept {w w' : World} {base n c : Nat} {A : Option Addr} {bs : List UInt8} {row : Option Nat} (h : Own w base 5 1 A n c (bcells bs)) (hg : w.grownBy w' row) (hr : ∀ g, row = some g → g < base) : Byt w' w'.heap.size A n c bs :=
  (h.kept hg (by
    rcases Nat.eq_zero_or_pos c with h0 | h0
    · exact .inl h0
    · refine .inr fun g hgA hrow => ?_
      obtain ⟨g1, cur, rfl, hb, _⟩ := h.2.2.2 h0
      simp at hgA
      have := hr g hrow
      omega)).byt (Nat.le_refl _)

set_option maxHeartbeats 2000000 in
theorem ref20_xor (A A' : Option Addr) (c c' : Nat) (a b : List UInt8) (w : World) (h : Byt w w.heap.size A 8 c a) (h' : Byt w w.heap.size A' 8 c' b) :
    Calls Tryz.prog 86 #[.slice A 8 c, .slice A' 8 c'] w fun e w' => ∃ A2 c2, e = .returned (.slice A2 8 c2) ∧ Own w' w.heap.size 5 1 A2 8 c2 (bcells (Oct.xor a b)) ∧ Below w.heap.size w w' := by
  obtain ⟨ti, hti, hz0, hz1, hz2⟩ := info_parts o_u8
  have hla := Lib.hid h.1
  have hlb := Lib.hid h'.1
  have hra := h.2.2
  have hrb := h'.2.2
  have hlx : (Oct.xor a b).length = 8 := by rw [← h.1]; simp [Oct.xor]
  have HLX := Lib.hid hlx
  clear hlx h h'
  go_enter Tryz.func86, Tryz.ntmps86
  go_wp2_with fail
  go_loopg [5, 6] 8 (fun g v i wr => ∃ (k : Nat) (A2 : Option Addr) (c2 : Nat), k + g = 8 ∧ i = .int .i64 k ∧ v = .slice A2 k c2 ∧ Own wr w.heap.size 5 1 A2 k c2 (bcells ((Oct.xor a b).take k)) ∧ Below w.heap.size w wr)
  case atStart => exact ⟨0, none, 0, by omega, rfl, rfl, Own.none_ _ _ _ _ _, Below.refl _ _⟩
  case round =>
    obtain ⟨k, A2, c2, hk, rfl, rfl, hown, hbw⟩ := hrel
    cases gk with
    | zero =>
      obtain rfl : k = 8 := by omega
      rw [List.take_of_length_le (by rw [HLX.out]; omega)] at hown
      go_wp2_with fail
      go_ret
      exact ⟨A2, c2, rfl, hown, hbw⟩
    | succ g =>
      have hlt : (k : Int) < 8 := by omega
      have p0 : (0 : Int) ≤ (k : Int) := by omega
      obtain ⟨b1, o1, rfl, hb1, -⟩ := hra.at_ (j := k) (by rw [length_bcells, hla.out]; omega)
      obtain ⟨b2, o2, rfl, hb2, -⟩ := hrb.at_ (j := k) (by rw [length_bcells, hlb.out]; omega)
      have c1 := (hra.below hbw).byte k (by rw [hla.out]; omega)
      have c2' := (hrb.below hbw).byte k (by rw [hlb.out]; omega)
      have hst := Lib.hid (take_get (Oct.xor a b) k (by rw [HLX.out]; omega))
      have hxg := oxor_get a b k (by rw [hla.out]; omega)
      have hxx : Hid (bits BinOp.xor IntKind.u8 ((a.getD k 0).toNat : Int) ((b.getD k 0).toNat : Int) = (((Oct.xor a b).getD k 0).toNat : Int)) := by
        show _ = _
        rw [u8_xor_nat _ _ (a.getD k 0).toNat_lt (b.getD k 0).toNat_lt, hxg, UInt8.toNat_xor]
      clear hxg
      generalize (a.getD k 0).toNat = x at *
      generalize (b.getD k 0).toNat = y at *
      generalize (Oct.xor a b).getD k 0 = z at *
      have hxx2 := hxx.out
      go_wp2_with fail
      have hkeep : ∀ u : World, Below w.heap.size wr u → u.cell? ⟨b1, o1 + k, none⟩ = some (.int .u8 (x : Int)) ∧ u.cell? ⟨b2, o2 + k, none⟩ = some (.int .u8 (y : Int)) := fun u hu =>
        ⟨(hu.cell (p := ⟨b1, o1 + k, none⟩) hb1).trans c1, (hu.cell (p := ⟨b2, o2 + k, none⟩) hb2).trans c2'⟩
      have HKP := Lib.hid hkeep
      clear hkeep
      go_region_held3 (fun u => u.cell? ⟨b1, o1 + k, none⟩ = some (.int .u8 (x : Int)) ∧ u.cell? ⟨b2, o2 + k, none⟩ = some (.int .u8 (y : Int)))
        (first
          | exact ⟨c1, c2'⟩
          | exact HKP.out _ ((Below.refl _ _).alloc hbw.size _)
          | exact HKP.out _ ((Below.refl _ _).alloc hbw.size _).drew
          | exact HKP.out _ ((hown.alloc _).drew.grown hg4 ((Below.refl _ _).alloc hbw.size _).drew (by simp; have := hbw.size; omega)))
        ((refine step_append _ rfl (.tmp 11) (.tmp 21) 22 rfl w.heap.size 5 ti _ 1 1 Tryz.underlying22 hti hz0 hz1 hz2 rfl (by omega) A2 k c2 (bcells ((Oct.xor a b).take k)) rfl (hown.alloc _).drew (wr.heap.size + 1) (some ⟨wr.heap.size, 0, none⟩) 1 1 (bcells [z]) rfl (Row.new wr rfl).drew (by simp) (bcells_one _) (by unfold maxLen; omega) (by omega) (by simp; have := hbw.size; omega) ?_; intro A3 c3 w4 hown4 hg4 hat4))
      all_goals
        clear hxx2
        go_wp2_with fail
        go_roundg g
        case measure => omega
        case rel =>
          refine ⟨k + 1, A3, c3, by omega, by go_num, rfl, ?_, (hown.alloc _).drew.grown hg4 (hbw.alloc hbw.size _).drew (by simp; have := hbw.size; omega)⟩
          rw [hst.out, bcells_append]
          exact hown4

theorem refenc_bad (A A' A'' : Option Addr) (n n' n'' c c' c'' : Nat) (w : World) (h : ¬ (n = 16 ∧ n' = 8 ∧ n'' % 8 = 0)) :
    Calls Tryz.prog 68 #[.slice A n c, .slice A' n' c', .slice A'' n'' c''] w (BRes 5 w [] 1) := by
  by_cases h1 : n = 16
  · subst h1
    by_cases h2 : n' = 8
    · subst h2
      have h3 : ((n'' : Int) % 8 != 0) = true := by rw [bne_iff_ne]; omega
      go_enter Tryz.func68, Tryz.ntmps68
      go_wp2_with fail
      go_ret2
      exact BRes.nil _ (Below.refl _ _)
    · have h3 : ((n' : Int) != 8) = true := by rw [bne_iff_ne]; omega
      go_enter Tryz.func68, Tryz.ntmps68
      go_wp2_with fail
      go_ret2
      exact BRes.nil _ (Below.refl _ _)
  · have h3 : ((n : Int) != 16) = true := by rw [bne_iff_ne]; omega
    go_enter Tryz.func68, Tryz.ntmps68
    go_wp2_with fail
    go_ret2
    exact BRes.nil _ (Below.refl _ _)
theorem refdec_bad (A A' A'' : Option Addr) (n n' n'' c c' c'' : Nat) (w : World) (h : ¬ (n = 16 ∧ n' = 8 ∧ n'' % 8 = 0)) :
    Calls Tryz.prog 71 #[.slice A n c, .slice A' n' c', .slice A'' n'' c''] w (BRes 5 w [] 1) := by
  by_cases h1 : n = 16
  · subst h1
    by_cases h2 : n' = 8
    · subst h2
      have h3 : ((n'' : Int) % 8 != 0) = true := by rw [bne_iff_ne]; omega
      go_enter Tryz.func71, Tryz.ntmps71
      go_wp2_with fail
      go_ret2
      exact BRes.nil _ (Below.refl _ _)
    · have h3 : ((n' : Int) != 8) = true := by rw [bne_iff_ne]; omega
      go_enter Tryz.func71, Tryz.ntmps71
      go_wp2_with fail
      go_ret2
      exact BRes.nil _ (Below.refl _ _)
  · have h3 : ((n : Int) != 16) = true := by rw [bne_iff_ne]; omega
    go_enter Tryz.func71, Tryz.ntmps71
    go_wp2_with fail
    go_ret2
    exact BRes.nil _ (Below.refl _ _)
end Go.Proofs.YtibaibdgpnkdnaaGreatDoor
end

section
namespace Go.Proofs.YtibaibdgpnkdnaaGreatDoor
set_option maxRecDepth 100000
set_option linter.unusedSimpArgs false
set_option linter.unusedVariables false
open Go.RowKit

set_option maxHeartbeats 2000000 in
theorem refenc_good (Ak Av Ad : Option Addr) (m ck cv cd : Nat) (key iv d : List UInt8) (w : World)
    (hk : Byt w w.heap.size Ak 16 ck key) (hv : Byt w w.heap.size Av 8 cv iv) (hd : Byt w w.heap.size Ad (8 * m) cd d) (hn : 8 * m ≤ 1000000) :
    Calls Tryz.prog 68 #[.slice Ak 16 ck, .slice Av 8 cv, .slice Ad (8 * m) cd] w (BRes 5 w (Mod.eSt key iv d m).1 0) := by
  obtain ⟨ti, hti, hz0, hz1, hz2⟩ := info_parts o_u8
  obtain ⟨n, hnm⟩ : ∃ n, n = 8 * m := ⟨_, rfl⟩
  rw [← hnm] at hd hn ⊢
  have h3 : ((n : Int) % 8 != 0) = false := by rw [bne_eq_false_iff_eq]; omega
  have HNM := Lib.hid hnm
  have HV := Lib.hid hv
  have HD := Lib.hid hd
  have HK := Lib.hid hk
  have hdc := hd.2.1
  clear hnm hk hv hd
  go_enter Tryz.func68, Tryz.ntmps68
  go_wp2_with fail
  go_loopg [1, 8, 9] m (fun g y v i wr => ∃ (k a : Nat) (A1 A2 : Option Addr) (c1 c2 : Nat), k + g = m ∧ Hid (a = 8 * k) ∧ i = .int .i64 (a : Int) ∧ y = .slice A1 8 c1 ∧ Byt wr wr.heap.size A1 8 c1 (Mod.eSt key iv d k).2 ∧
    v = .slice A2 a c2 ∧ Own wr w.heap.size 5 1 A2 a c2 (bcells (Mod.eSt key iv d k).1) ∧ Below w.heap.size w wr)
  case atStart => exact ⟨0, 0, Av, none, cv, 0, by omega, Lib.hid rfl, rfl, rfl, HV.out, rfl, Own.none_ _ _ _ _ _, Below.refl _ _⟩
  case round =>
    obtain ⟨k, a, A1, A2, c1, c2, hkg, hak, rfl, rfl, hy, rfl, hown, hbw⟩ := hrel
    cases gk with
    | zero =>
      obtain rfl : k = m := by omega
      have hn : a = n := by rw [hak.out, HNM.out]
      subst hn
      have hl : (Mod.eSt key iv d k).1.length = a := by rw [Mod.eSt_length, HNM.out]
      have HL := Lib.hid hl
      clear hl
      go_wp2_with fail
      go_ret2
      exact BRes.mk HL.out hown hbw
    | succ g =>
      have hlt : (a : Int) < (n : Int) := by have := hak.out; have := HNM.out; omega
      have hle : (a : Int) + 8 ≤ (n : Int) := by have := hak.out; have := HNM.out; omega
      have p0 : (0 : Int) ≤ (a : Int) := by omega
      obtain ⟨b1, o1, rfl, hb1⟩ := HD.out.at_ (by omega)
      have hca : ¬ cd = a := by omega
      have hc8 : (a : Int) + 8 ≤ (cd : Int) := by omega
      have hx : Byt wr wr.heap.size (some ⟨b1, o1 + a, none⟩) 8 (cd - a) (Mod.blk d k) := by
        have h1 := ((HD.out.below hbw).more hbw.size).drop a (by omega)
        have h2 := h1.take 8 (cd - a) (by omega) (by omega)
        rw [hak.out] at h2 ⊢
        exact h2
      have hxl : (Oct.xor (Mod.blk d k) (Mod.eSt key iv d k).2).length = 8 := by rw [Mod.xor_length]; exact hx.1
      have hE : ∀ (u : World) (A' : Option Addr) (c' : Nat), Below wr.heap.size wr u → Byt u u.heap.size A' 8 c' (Oct.xor (Mod.blk d k) (Mod.eSt key iv d k).2) → Calls Tryz.prog 85 #[.slice Ak 16 ck, .slice A' 8 c'] u fun e u' => ∃ A3 c3, e = .returned (.tuple #[.slice A3 8 c3, .int .i64 0]) ∧ Own u' u.heap.size 5 1 A3 8 c3 (bcells (Cip.crypt key (Oct.xor (Mod.blk d k) (Mod.eSt key iv d k).2) false)) ∧ Below u.heap.size u u' := fun u A' c' hb hy => by
        have hb2 := hbw.trans (hb.mono hbw.size)
        have hr := Cip.res_ok key _ false HK.out.1 hxl
        have he := Cip.err_ok key _ HK.out.1 hxl
        refine (ref19_Encrypt Ak A' 16 8 ck c' key _ u ((HK.out.below hb2).more hb2.size) hy).mono ?_
        rintro e u' ⟨A3, c3, rfl, ho, hb3⟩
        rw [hr, Mod.crypt_length] at ho ⊢
        rw [he]
        exact ⟨A3, c3, rfl, ho, hb3⟩
      have hes := Lib.hid (Mod.eSt_succ key iv d k)
      have HE := Lib.hid hE
      have HX := Lib.hid hx
      have HY := Lib.hid hy
      clear hx hy hE hxl
      generalize Cip.crypt key (Oct.xor (Mod.blk d k) (Mod.eSt key iv d k).2) false = o at *
      go_wp2_with (first
        | (go_at_call 86; refine (ref20_xor _ A1 _ c1 _ _ _ HX.out HY.out).mono ?_; rintro e w2 ⟨A3, c3, rfl, ho3, hb3⟩)
        | (go_at_call 85; refine (HE.out _ A3 c3 hb3 (ho3.byt (Nat.le_refl _))).mono ?_; rintro e w3 ⟨A4, c4, rfl, ho4, hb4⟩; have hB := hb3.trans (hb4.mono hb3.size); have hB0 := hbw.trans (hB.mono hbw.size); have ho4' := ho4.mono hb3.size; have hout := hown.below hB)
        | (at_builtin; refine wpList_append _ rfl (.tmp 42) (.tmp 43) 22 rfl w.heap.size 5 ti _ 1 1 Tryz.underlying22 hti hz0 hz1 hz2 rfl (by omega) A2 a c2 (bcells (Mod.eSt key iv d k).1) rfl hout w3.heap.size A4 8 c4 (bcells o) rfl ho4.row (by have := ho4.len; omega) (bcells_one _) (by unfold maxLen; omega) (by omega) (by have := hB0.size; omega) ?_; intro A5 c5 w5 hown5 hg5 hat5))
      go_roundg g
      case measure => omega
      case rel =>
        refine ⟨k + 1, a + 8, A4, A5, c4, c5, by omega, Lib.hid (by rw [hak.out]; omega), by go_num, rfl, ?_, rfl, ?_, hout.grown hg5 hB0 (by have := hB0.size; omega)⟩
        · rw [hes.out]
          exact byt_kept ho4' hg5 fun q hq => (hown.lt q hq).2
        · rw [hes.out, bcells_append]
          exact hown5

set_option maxHeartbeats 2000000 in
theorem refdec_good (Ak Av Ad : Option Addr) (m ck cv cd : Nat) (key iv d : List UInt8) (w : World)
    (hk : Byt w w.heap.size Ak 16 ck key) (hv : Byt w w.heap.size Av 8 cv iv) (hd : Byt w w.heap.size Ad (8 * m) cd d) (hn : 8 * m ≤ 1000000) :
    Calls Tryz.prog 71 #[.slice Ak 16 ck, .slice Av 8 cv, .slice Ad (8 * m) cd] w (BRes 5 w (Mod.dSt key iv d m).1 0) := by
  obtain ⟨ti, hti, hz0, hz1, hz2⟩ := info_parts o_u8
  obtain ⟨n, hnm⟩ : ∃ n, n = 8 * m := ⟨_, rfl⟩
  rw [← hnm] at hd hn ⊢
  have h3 : ((n : Int) % 8 != 0) = false := by rw [bne_eq_false_iff_eq]; omega
  have HNM := Lib.hid hnm
  have HV := Lib.hid hv
  have HD := Lib.hid hd
  have HK := Lib.hid hk
  have hdc := hd.2.1
  clear hnm hk hv hd
  go_enter Tryz.func71, Tryz.ntmps71
  go_wp2_with fail
  go_loopg [1, 8, 9] m (fun g y v i wr => ∃ (k a : Nat) (A1 A2 : Option Addr) (c1 c2 : Nat), k + g = m ∧ Hid (a = 8 * k) ∧ i = .int .i64 (a : Int) ∧ y = .slice A1 8 c1 ∧ Byt wr w.heap.size A1 8 c1 (Mod.dSt key iv d k).2 ∧
    v = .slice A2 a c2 ∧ Own wr w.heap.size 5 1 A2 a c2 (bcells (Mod.dSt key iv d k).1) ∧ Below w.heap.size w wr)
  case atStart => exact ⟨0, 0, Av, none, cv, 0, by omega, Lib.hid rfl, rfl, rfl, HV.out, rfl, Own.none_ _ _ _ _ _, Below.refl _ _⟩
  case round =>
    obtain ⟨k, a, A1, A2, c1, c2, hkg, hak, rfl, rfl, hy, rfl, hown, hbw⟩ := hrel
    cases gk with
    | zero =>
      obtain rfl : k = m := by omega
      have hn : a = n := by rw [hak.out, HNM.out]
      subst hn
      have hl : (Mod.dSt key iv d k).1.length = a := by rw [Mod.dSt_length, HNM.out]
      have HL := Lib.hid hl
      clear hl
      go_wp2_with fail
      go_ret2
      exact BRes.mk HL.out hown hbw
    | succ g =>
      have hlt : (a : Int) < (n : Int) := by have := hak.out; have := HNM.out; omega
      have hle : (a : Int) + 8 ≤ (n : Int) := by have := hak.out; have := HNM.out; omega
      have p0 : (0 : Int) ≤ (a : Int) := by omega
      obtain ⟨b1, o1, rfl, hb1⟩ := HD.out.at_ (by omega)
      have hca : ¬ cd = a := by omega
      have hc8 : (a : Int) + 8 ≤ (cd : Int) := by omega
      have hx : Byt wr w.heap.size (some ⟨b1, o1 + a, none⟩) 8 (cd - a) (Mod.blk d k) := by
        have h1 := (HD.out.below hbw).drop a (by omega)
        have h2 := h1.take 8 (cd - a) (by omega) (by omega)
        rw [hak.out] at h2 ⊢
        exact h2
      have hE : Calls Tryz.prog 87 #[.slice Ak 16 ck, .slice (some ⟨b1, o1 + a, none⟩) 8 (cd - a)] wr fun e u' => ∃ A3 c3, e = .returned (.tuple #[.slice A3 8 c3, .int .i64 0]) ∧ Own u' wr.heap.size 5 1 A3 8 c3 (bcells (Cip.crypt key (Mod.blk d k) true)) ∧ Below wr.heap.size wr u' := by
        have hr := Cip.res_ok key _ true HK.out.1 hx.1
        have he := Cip.err_ok key _ HK.out.1 hx.1
        refine (ref19_Decrypt Ak _ 16 8 ck _ key _ wr ((HK.out.below hbw).more hbw.size) (hx.more hbw.size)).mono ?_
        rintro e u' ⟨A3, c3, rfl, ho, hb3⟩
        rw [hr, Mod.crypt_length] at ho ⊢
        rw [he]
        exact ⟨A3, c3, rfl, ho, hb3⟩
      have hes := Lib.hid (Mod.dSt_succ key iv d k)
      have HE := Lib.hid hE
      have HX := Lib.hid hx
      have HY := Lib.hid hy
      clear hx hy hE
      generalize Cip.crypt key (Mod.blk d k) true = o at *
      go_wp2_with (first
        | (go_at_call 87; refine HE.out.mono ?_; rintro e w3 ⟨A4, c4, rfl, ho4, hb4⟩; have hB0 := hbw.trans (hb4.mono hbw.size))
        | (go_at_call 86; refine (ref20_xor A4 A1 c4 c1 _ _ _ (ho4.byt (Nat.le_refl _)) ((HY.out.below (hb4.mono hbw.size)).more hB0.size)).mono ?_; rintro e w2 ⟨A3, c3, rfl, ho3, hb3⟩; have hB := hb4.trans (hb3.mono hb4.size); have hB1 := hbw.trans (hB.mono hbw.size); have hout := hown.below hB)
        | (at_builtin; refine wpList_append _ rfl (.tmp 44) (.tmp 47) 22 rfl w.heap.size 5 ti _ 1 1 Tryz.underlying22 hti hz0 hz1 hz2 rfl (by omega) A2 a c2 (bcells (Mod.dSt key iv d k).1) rfl hout w2.heap.size A3 8 c3 (bcells (Oct.xor o (Mod.dSt key iv d k).2)) rfl ho3.row (by have := ho3.len; omega) (bcells_one _) (by unfold maxLen; omega) (by omega) (by have := hB1.size; omega) ?_; intro A5 c5 w5 hown5 hg5 hat5))
      have hB5 := hout.grown hg5 hB1 (by have := hB1.size; omega)
      have hB6 := hout.grown hg5 (hB.mono hbw.size) (by have := hB1.size; omega)
      go_roundg g
      case measure => omega
      case rel =>
        refine ⟨k + 1, a + 8, _, A5, _, c5, by omega, Lib.hid (by rw [hak.out]; omega), by go_num, rfl, ?_, rfl, ?_, hB5⟩
        · rw [hes.out]
          exact HX.out.below hB6
        · rw [hes.out, bcells_append]
          exact hown5
theorem ref20_EncryptCBC (A A' A'' : Option Addr) (n n' n'' c c' c'' : Nat) (key iv d : List UInt8) (w : World) (hk : Byt w w.heap.size A n c key) (hv : Byt w w.heap.size A' n' c' iv) (hd : Byt w w.heap.size A'' n'' c'' d) (hn : n'' ≤ 1000000) :
    Calls Tryz.prog 68 #[.slice A n c, .slice A' n' c', .slice A'' n'' c''] w (BRes 5 w (Mod.cbB key iv d false) (Mod.cbE key iv d)) := by
  rcases cb_cases key iv d false with ⟨h1, h2, m, h3, h4, h5⟩ | ⟨h1, h4, h5⟩
  · rw [h4, h5]
    obtain rfl : n = 16 := by rw [← hk.1, h1]
    obtain rfl : n' = 8 := by rw [← hv.1, h2]
    obtain rfl : n'' = 8 * m := by rw [← hd.1, h3]
    exact refenc_good A A' A'' m c c' c'' key iv d w hk hv hd hn
  · rw [h4, h5]
    exact refenc_bad _ _ _ _ _ _ _ _ _ _ (by rw [← hk.1, ← hv.1, ← hd.1]; exact h1)
theorem ref20_DecryptCBC (A A' A'' : Option Addr) (n n' n'' c c' c'' : Nat) (key iv d : List UInt8) (w : World) (hk : Byt w w.heap.size A n c key) (hv : Byt w w.heap.size A' n' c' iv) (hd : Byt w w.heap.size A'' n'' c'' d) (hn : n'' ≤ 1000000) :
    Calls Tryz.prog 71 #[.slice A n c, .slice A' n' c', .slice A'' n'' c''] w (BRes 5 w (Mod.cbB key iv d true) (Mod.cbE key iv d)) := by
  rcases cb_cases key iv d true with ⟨h1, h2, m, h3, h4, h5⟩ | ⟨h1, h4, h5⟩
  · rw [h4, h5]
    obtain rfl : n = 16 := by rw [← hk.1, h1]
    obtain rfl : n' = 8 := by rw [← hv.1, h2]
    obtain rfl : n'' = 8 * m := by rw [← hd.1, h3]
    exact refdec_good A A' A'' m c c' c'' key iv d w hk hv hd hn
  · rw [h4, h5]
    exact refdec_bad _ _ _ _ _ _ _ _ _ _ (by rw [← hk.1, ← hv.1, ← hd.1]; exact h1)
end Go.Proofs.YtibaibdgpnkdnaaGreatDoor
end

section
namespace Go.Proofs.YtibaibdgpnkdnaaGreatDoor
set_option maxRecDepth 100000
set_option linter.unusedSimpArgs false
set_option linter.unusedVariables false
open Go.RowKit

/-- What a call leaves that hands back bytes, wherever they lie, and an error. -/
def BByt (w : World) (bs : List UInt8) (er : Int) (e : Ending) (w' : World) : Prop :=
  ∃ A c, e = .returned (.tuple #[.slice A bs.length c, .int .i64 er]) ∧ Byt w' w'.heap.size A bs.length c bs ∧ Below w.heap.size w w'
theorem BByt.nil {w w' : World} {er : Int} (h : Below w.heap.size w w') : BByt w [] er (.returned (.tuple #[.slice none 0 0, .int .i64 er])) w' := ⟨none, 0, rfl, Byt.empty, h⟩
theorem BByt.mk {w w' : World} {A : Option Addr} {n c : Nat} {bs : List UInt8} {er : Int} (hn : bs.length = n) (h : Byt w' w'.heap.size A n c bs) (hb : Below w.heap.size w w') : BByt w bs er (.returned (.tuple #[.slice A n c, .int .i64 er])) w' := by
  subst hn; exact ⟨A, c, rfl, h, hb⟩

theorem ref_pad8 {A : Option Addr} {n c : Nat} {bs : List UInt8} {w : World} (h : Byt w w.heap.size A n c bs) (hn : n ≤ 1000000000) :
    Calls Tryz.prog 67 #[.slice A n c, .int .i64 8] w (BRes 5 w (Oct.pad bs 8) 0) := by
  have hp := pad_yes bs 8 (by omega) (by omega)
  have := ref01_Pad A n c bs ((8 : Nat) : Int) w h hn
  rw [hp.1, hp.2] at this
  exact this
/-- .. in new memory. -/
def BNew (w : World) (bs : List UInt8) (er : Int) (e : Ending) (w' : World) : Prop :=
  ∃ A c, e = .returned (.tuple #[.slice A bs.length c, .int .i64 er]) ∧ Byt w' w'.heap.size A bs.length c bs ∧ (∀ a, A = some a → w.heap.size ≤ a.block) ∧ Below w.heap.size w w'
theorem BNew.nil {w w' : World} {er : Int} (h : Below w.heap.size w w') : BNew w [] er (.returned (.tuple #[.slice none 0 0, .int .i64 er])) w' := ⟨none, 0, rfl, Byt.empty, fun a e => (by cases e), h⟩
theorem BNew.mk {w w' : World} {A : Option Addr} {n c : Nat} {bs : List UInt8} {er : Int} (hn : bs.length = n) (h : Byt w' w'.heap.size A n c bs) (hA : ∀ a, A = some a → w.heap.size ≤ a.block) (hb : Below w.heap.size w w') : BNew w bs er (.returned (.tuple #[.slice A n c, .int .i64 er])) w' := by
  subst hn; exact ⟨A, c, rfl, h, hA, hb⟩
set_option maxHeartbeats 1000000 in
theorem ref20_MACn (A A' A'' : Option Addr) (n n' n'' c c' c'' : Nat) (key iv d : List UInt8) (w : World) (hk : Byt w w.heap.size A n c key) (hv : Byt w w.heap.size A' n' c' iv) (hd : Byt w w.heap.size A'' n'' c'' d) (hn : n'' ≤ 100000) :
    Calls Tryz.prog 48 #[.slice A n c, .slice A' n' c', .slice A'' n'' c''] w (BNew w (Mod.mcB key iv d) (Mod.mcE key iv)) := by
  obtain ⟨e1, e2⟩ := Mod.mc_cb key iv d
  have hpl := Oct.pad_length d 8
  have hpn := Oct.padN_lt d.length 8 (by omega)
  have hP : Calls Tryz.prog 67 #[.slice A'' n'' c'', .int .i64 8] w (BRes 5 w (Oct.pad d 8) 0) := ref_pad8 hd (by omega)
  have HP := Lib.hid hP
  have hE : ∀ (u : World) (A2 : Option Addr) (c2 : Nat), Below w.heap.size w u → Byt u u.heap.size A2 (Oct.pad d 8).length c2 (Oct.pad d 8) →
      Calls Tryz.prog 68 #[.slice A n c, .slice A' n' c', .slice A2 (Oct.pad d 8).length c2] u (BRes 5 u (Mod.cbB key iv (Oct.pad d 8) false) (Mod.mcE key iv)) := fun u A2 c2 hb h2 => by
    rw [← e1]
    exact ref20_EncryptCBC A A' A2 n n' _ c c' c2 key iv _ u ((hk.below hb).more hb.size) ((hv.below hb).more hb.size) h2 (by rw [hpl]; have := hd.1; omega)
  have hd1 := hd.1
  clear hP hk hv hd e1
  by_cases hok : key.length = 16 ∧ iv.length = 8
  · have hm0 : Mod.mcE key iv = 0 := by unfold Mod.mcE; rw [if_pos hok]
    obtain ⟨e3, e4, e5⟩ := e2 hm0
    have hml := Mod.mcB_length key iv d hok
    obtain ⟨q, hq⟩ : ∃ q, (Oct.pad d 8).length = q + 8 := ⟨(Oct.pad d 8).length - 8, by omega⟩
    have hbl : (Mod.cbB key iv (Oct.pad d 8) false).length = q + 8 := by rw [e4, hq]
    rw [hq, Nat.add_sub_cancel] at e3
    rw [hm0] at hE ⊢
    generalize Mod.cbB key iv (Oct.pad d 8) false = bb at *
    generalize Mod.mcB key iv d = mb at *
    have hE' : ∀ (u : World) (A2 : Option Addr) (c2 : Nat), Below w.heap.size w u → Byt u u.heap.size A2 (Oct.pad d 8).length c2 (Oct.pad d 8) →
      Calls Tryz.prog 68 #[.slice A n c, .slice A' n' c', .slice A2 (Oct.pad d 8).length c2] u fun e u' => ∃ b o c3, e = .returned (.tuple #[.slice (some ⟨b, o, none⟩) (q + 8) c3, .int .i64 0]) ∧ Byt u' u'.heap.size (some ⟨b, o, none⟩) (q + 8) c3 bb ∧ Below u.heap.size u u' ∧ u.heap.size ≤ b := fun u A2 c2 hb h2 => by
      refine (hE u A2 c2 hb h2).mono ?_
      rintro e u' ⟨A3, c3, rfl, ho, hb3⟩
      have hby := ho.byt (Nat.le_refl _)
      rw [hbl] at hby ⊢
      obtain ⟨b, o, rfl, _⟩ := hby.at_ (by omega)
      exact ⟨b, o, c3, rfl, hby, hb3, (ho.lt b (by unfold ownAt; rw [if_neg (by have := hby.2.1; omega)]; rfl)).1⟩
    have HE := Lib.hid hE'
    have hq2 : q + 8 ≤ 1000000 := by omega
    have E3 := Lib.hid e3
    have HML := Lib.hid hml
    clear hE hE' e2 e4 e5 hm0 e3 hml hbl hq hpl hpn hd1
    generalize Oct.pad d 8 = pd at *
    go_enter Tryz.func48, Tryz.ntmps48
    go_wp2_with (first
      | (go_at_call 67; refine HP.out.mono ?_; rintro e w1 ⟨A2, c2, rfl, ho2, hb2⟩)
      | (go_at_call 68; refine (HE.out _ A2 c2 hb2 (ho2.byt (Nat.le_refl _))).mono ?_; rintro e w2 ⟨b, o, c3, rfl, hy, hb3, hnew⟩; have hcc := hy.2.1; have q1 : ¬ c3 = q := by omega))
    have hy8 : Byt w2 w2.heap.size (some ⟨b, o + q, none⟩) 8 (c3 - q) mb := by
      have h1 := hy.drop q (by omega)
      rw [Nat.add_sub_cancel_left, ← E3.out] at h1
      exact h1
    go_ret2
    exact BNew.mk HML.out hy8 (by rintro a e; cases e; have := hb2.size; show w.heap.size ≤ b; omega) (hb2.trans (hb3.mono hb2.size))
  · have hm0 : Mod.mcE key iv = 1 := by unfold Mod.mcE; rw [if_neg hok]
    have hm1 : Mod.mcB key iv d = [] := by unfold Mod.mcB; rw [if_neg hok]
    rw [hm0] at hE ⊢
    rw [hm1]
    have HE := Lib.hid hE
    clear hE e2 hm0 hm1 hpl hpn hd1
    generalize Oct.pad d 8 = pd at *
    go_enter Tryz.func48, Tryz.ntmps48
    go_wp2_with (first
      | (go_at_call 67; refine HP.out.mono ?_; rintro e w1 ⟨A2, c2, rfl, ho2, hb2⟩)
      | (go_at_call 68; refine (HE.out _ A2 c2 hb2 (ho2.byt (Nat.le_refl _))).mono ?_; rintro e w2 ⟨A3, c3, rfl, ho3, hb3⟩))
    go_ret2
    exact BNew.nil (hb2.trans (hb3.mono hb2.size))

theorem ref20_MAC (A A' A'' : Option Addr) (n n' n'' c c' c'' : Nat) (key iv d : List UInt8) (w : World) (hk : Byt w w.heap.size A n c key) (hv : Byt w w.heap.size A' n' c' iv) (hd : Byt w w.heap.size A'' n'' c'' d) (hn : n'' ≤ 100000) :
    Calls Tryz.prog 48 #[.slice A n c, .slice A' n' c', .slice A'' n'' c''] w (BByt w (Mod.mcB key iv d) (Mod.mcE key iv)) :=
  (ref20_MACn A A' A'' n n' n'' c c' c'' key iv d w hk hv hd hn).mono fun e w' ⟨A, c, h1, h2, _, h3⟩ => ⟨A, c, h1, h2, h3⟩

end Go.Proofs.YtibaibdgpnkdnaaGreatDoor
end

section
namespace Go.Proofs.YtibaibdgpnkdnaaGreatDoor
set_option maxRecDepth 100000
set_option linter.unusedSimpArgs false
set_option linter.unusedVariables false
open Go.RowKit

theorem r01_u8 : (Tryz.prog.info? 5).map (fun i => (i.zero, i.size, i.bytes)) = some (some (.int .u8 0), 1, 1) := by kernel_rfl

set_option maxHeartbeats 1000000 in
theorem ref01_Join (A : Option Addr) (n c : Nat) (vs : List SV) (w : World) (h : Byts w w.heap.size A vs) (hn : vs.length = n) (hm : n ≤ 9223372036854775807) (ht : (joined vs).length ≤ 1099511627776) :
    Calls Tryz.prog 49 #[.slice A n c] w fun e w' => ∃ A2 c2, e = .returned (.slice A2 (joined vs).length c2) ∧ Own w' w.heap.size 5 1 A2 (joined vs).length c2 (bcells (joined vs)) ∧ Below w.heap.size w w' := by
  obtain ⟨i0, hi0, hz0, hz1, hz2⟩ := info_parts r01_u8
  have hl := Lib.hid hn
  clear hn
  go_enter Tryz.func49, Tryz.ntmps49
  go_wp2_with fail
  go_loopw [3, 4] (fun v i wr => ∃ (k : Nat) (A2 : Option Addr) (m c2 : Nat), k ≤ n ∧ i = .int .i64 k ∧ v = .slice A2 m c2 ∧ m = (joined (vs.take k)).length ∧ Own wr w.heap.size 5 1 A2 m c2 (bcells (joined (vs.take k))) ∧ Below w.heap.size w wr) (fun _ i _ => n - (intOf i).toNat)
  case atStart => exact ⟨0, none, 0, 0, by omega, rfl, rfl, rfl, Own.none_ _ _ _ _ _, Below.refl _ _⟩
  case round =>
    obtain ⟨k, A2, m, c2, hk, rfl, rfl, hm2, hown, hbw⟩ := hrel
    by_cases hlt : k < n
    · have hkv : k < vs.length := by rw [hl.out]; exact hlt
      obtain ⟨b, o, rfl, hc, hy⟩ := (h.below hbw).at_ hkv
      have jt := Lib.hid (joined_take vs k hkv)
      have j1 := joined_le vs (k + 1)
      rw [jt.out, List.length_append] at j1
      have hM := Lib.hid hm2
      clear hm2
      generalize vs[k] = x at *
      have p0 : (0 : Int) ≤ (k : Int) := by omega
      have p1 : (k : Int) < (n : Int) := by omega
      have j2 : x.bs.length = x.n := hy.1
      have j3 : m + x.n ≤ 1099511627776 := by rw [hM.out, ← j2]; omega
      clear j1
      have J2 := Lib.hid j2
      clear j2
      go_wp2_with (at_builtin; refine wpList_append _ rfl (.tmp 11) (.tmp 15) 22 rfl w.heap.size 5 i0 _ 1 1 Tryz.underlying22 hi0 hz0 hz1 hz2 rfl (by omega) A2 m c2 _ rfl hown w.heap.size x.a x.n x.c (bcells x.bs) rfl hy.2.2 (by rw [length_bcells, J2.out]; omega) (bcells_one _) (by unfold maxLen; omega) (by omega) hbw.size ?_; intro A3 c3 w4 hown4 hg4 hat4)
      go_roundw
      case rel => exact ⟨k + 1, A3, _, c3, by omega, by go_num, rfl, by rw [jt.out, List.length_append, hM.out, J2.out], by rw [jt.out, bcells_append]; exact hown4, hown.grown hg4 hbw hbw.size⟩
      case measure => simp [intOf]; omega
    · obtain rfl : k = n := by omega
      have e1 : vs.take k = vs := List.take_of_length_le (by rw [hl.out]; omega)
      rw [e1] at hm2 hown
      subst hm2
      go_wp2_with fail
      go_ret
      exact ⟨A2, c2, rfl, hown, hbw⟩
end Go.Proofs.YtibaibdgpnkdnaaGreatDoor
end

section
namespace Go.Proofs.YtibaibdgpnkdnaaGreatDoor
set_option maxRecDepth 100000
set_option linter.unusedSimpArgs false
set_option linter.unusedVariables false
open Go.RowKit

/-- A slice of ints: n of them, capacity c. -/
def Ints (w : World) (B : Nat) (A : Option Addr) (n c : Nat) (xs : List Int) : Prop := xs.length = n ∧ n ≤ c ∧ Row w B A (xs.map I64)
section
variable {w w' : World} {B B' : Nat} {A : Option Addr} {n c : Nat} {xs : List Int}
theorem Ints.below (h : Ints w B A n c xs) (hb : Below B w w') : Ints w' B A n c xs := ⟨h.1, h.2.1, h.2.2.below hb⟩
theorem Ints.more (h : Ints w B A n c xs) (hB : B ≤ B') : Ints w B' A n c xs := ⟨h.1, h.2.1, h.2.2.more hB⟩
theorem Ints.at_ (h : Ints w B A n c xs) {k : Nat} (hk : k < n) : ∃ b o, A = some ⟨b, o, none⟩ ∧ b < B ∧ w.cell? ⟨b, o + k, none⟩ = some (.int .i64 (xs.getD k 0)) := by
  have hl : k < xs.length := by rw [h.1]; exact hk
  obtain ⟨b, o, e, hb, hc⟩ := h.2.2.at_ (j := k) (by simpa using hl)
  exact ⟨b, o, e, hb, by rw [hc]; simp [List.getD, List.getElem?_eq_getElem hl]⟩
end
theorem ints_of_row {w : World} {a : Option Addr} {len cap : Nat} {zs : List Int}
    (h : (a = none ∧ len = 0 ∧ cap = 0 ∧ zs = []) ∨ ∃ x, a = some x ∧ len ≤ cap ∧ cap ≤ maxLen ∧ zs.length = cap ∧ (∀ i, i < zs.length → w.cell? (x.add i) = some (.int .i64 (zs.getD i 0))) ∧ ∀ n ∈ zs, (Lit.int .i64 n).wf = true) :
    ∃ xs, Ints w w.heap.size a len cap xs ∧ cap ≤ maxLen ∧ ∀ n ∈ xs, (Lit.int .i64 n).wf = true := by
  rcases h with ⟨rfl, rfl, rfl, rfl⟩ | ⟨x, rfl, hl, hm, hz, hc, hw⟩
  · exact ⟨[], ⟨rfl, Nat.le_refl _, Row.nil _ _ _⟩, Nat.zero_le _, fun n hn => by cases hn⟩
  · refine ⟨zs.take len, ⟨by simp; omega, hl, fun hn => ?_⟩, hm, fun n hn => hw n (List.mem_of_mem_take hn)⟩
    have hn' : 0 < len := by simp at hn; omega
    have hc0 := hc 0 (by omega)
    have hx0 : x.add 0 = x := by unfold Addr.add; simp
    rw [hx0] at hc0
    obtain ⟨b, o, s⟩ := x
    have hs : s = none := by
      cases s with
      | none => rfl
      | some q => simp only [World.cell?] at hc0; split at hc0 <;> simp at hc0
    subst hs
    refine ⟨b, o, rfl, World.block_lt_of_cell? w _ hc0, fun j hj => ?_⟩
    rw [List.length_map, List.length_take] at hj
    have hj' : j < zs.length := by omega
    have h1 := hc j hj'
    rw [add_eq] at h1
    rw [h1, List.getElem?_map, List.getElem?_take, if_pos (by omega), List.getElem?_eq_getElem hj']
    simp only [List.getD, List.getElem?_eq_getElem hj', Option.getD_some, Option.map_some, I64]
end Go.Proofs.YtibaibdgpnkdnaaGreatDoor
end

section
namespace Go.Proofs.YtibaibdgpnkdnaaGreatDoor
set_option maxRecDepth 100000
set_option linter.unusedSimpArgs false
set_option linter.unusedVariables false
open Go.RowKit Go.ChangeShapes Go.WideShapes Go.Deep

theorem ints_of_trod {H : Type} {enc : TypeId × Value → H} {w : World} {base : Nat} {spare : Nat → Bool} {held : Bool} {A : Option Addr} {n c : Nat} {d : DataW H} {p : List MemPlace}
    (h : DataW.Trod enc Tryz.prog w base spare held 69 (.slice A n c) d p) : ∃ xs : List Int, (Ints w w.heap.size A n c xs ∧ ∀ z ∈ xs, (Lit.int .i64 z).wf = true) ∧ c ≤ maxLen := by
  obtain ⟨fuel, hf⟩ := h
  rcases flat_slice (k := 1) (ts := [3]) Tryz.underlying69 (by kernel_rfl) hf with hcs | ⟨a, len, cap, hcs, hl, hm, hr⟩
  · simp [Value.cells] at hcs
    obtain ⟨rfl, rfl, rfl⟩ := hcs
    exact ⟨[], ⟨⟨rfl, Nat.le_refl _, Row.nil _ _ _⟩, fun z hz => (by cases hz)⟩, Nat.zero_le _⟩
  · simp [Value.cells] at hcs
    obtain ⟨rfl, rfl, rfl⟩ := hcs
    have hC : Tryz.prog.cellsOf 3 = 1 := by kernel_rfl
    rw [hC] at hr
    obtain ⟨l, h1, h2, h3⟩ := recs_of (cells := fun z : Int => [I64 z]) (s := 1) (n := n) (w := w) (a := a) (G := fun z => (Lit.int .i64 z).wf = true) (fun x => ⟨_, rfl⟩) (fun i hi => by
      obtain ⟨v0, c0, t0⟩ := hr i hi 0 _ rfl
      obtain ⟨z, rfl, hz⟩ := t0.int Tryz.underlying3
      refine ⟨z, fun j v hv => ?_, by simpa [Lit.wf, IntKind.min, IntKind.max, IntKind.signed, IntKind.bits] using hz⟩
      match j, hv with
      | 0, hv => injection hv with hv; subst hv; exact c0
      | j + 1, hv => simp at hv)
    refine ⟨l, ⟨⟨h1, hl, fun hn => ?_⟩, h3⟩, hm⟩
    obtain ⟨b, o, e, hb, hc⟩ := h2 (by simpa using hn)
    refine ⟨b, o, e, hb, fun j hj => ?_⟩
    have hjl : j < l.length := by simpa using hj
    have := hc j _ (List.getElem?_eq_getElem hjl) 0 _ rfl
    rw [show j * 1 + 0 = j by omega] at this
    rw [this, List.getElem?_map, List.getElem?_eq_getElem hjl]
    rfl
end Go.Proofs.YtibaibdgpnkdnaaGreatDoor
end

section
namespace Go.Proofs.YtibaibdgpnkdnaaGreatDoor
set_option maxRecDepth 100000
set_option linter.unusedSimpArgs false
set_option linter.unusedVariables false
open Go.RowKit

section
variable {P : Program}
theorem equalIn_func_nil (d : Nat) {t : TypeId} {ps rs : Array TypeId} {vr : Bool} (h : P.underlying t = some (.func ps rs vr)) (fn : Fn) (a b : Array Value) (w : World) : (Op.equalIn (d + 1) t (.func fn a b) .nilFunc).run P w = .ok false w := by
  simp [Op.equalIn, run_underlying h]
theorem equalIn_nil_nil (d : Nat) {t : TypeId} {ps rs : Array TypeId} {vr : Bool} (h : P.underlying t = some (.func ps rs vr)) (w : World) : (Op.equalIn (d + 1) t .nilFunc .nilFunc).run P w = .ok true w := by
  simp [Op.equalIn, run_underlying h]
theorem equal_func_nil {t : TypeId} {ps rs : Array TypeId} {vr : Bool} (h : P.underlying t = some (.func ps rs vr)) (fn : Fn) (a b : Array Value) (w : World) : (Op.equal t (.func fn a b) .nilFunc).run P w = .ok false w := equalIn_func_nil 9999 h fn a b w
theorem equal_nil_nil {t : TypeId} {ps rs : Array TypeId} {vr : Bool} (h : P.underlying t = some (.func ps rs vr)) (w : World) : (Op.equal t .nilFunc .nilFunc).run P w = .ok true w := equalIn_nil_nil 9999 h w
theorem eql_func_nil {t : TypeId} {ps rs : Array TypeId} {vr : Bool} (h : P.underlying t = some (.func ps rs vr)) (fn : Fn) (a b : Array Value) (w : World) : (binOp .eql t (.func fn a b) .nilFunc).run P w = .ok (.bool false) w := by
  simp only [binOp]
  simp [equal_func_nil h]
theorem neq_func_nil {t : TypeId} {ps rs : Array TypeId} {vr : Bool} (h : P.underlying t = some (.func ps rs vr)) (fn : Fn) (a b : Array Value) (w : World) : (binOp .neq t (.func fn a b) .nilFunc).run P w = .ok (.bool true) w := by
  simp only [binOp]
  simp [equal_func_nil h]
theorem eql_nil_nil {t : TypeId} {ps rs : Array TypeId} {vr : Bool} (h : P.underlying t = some (.func ps rs vr)) (w : World) : (binOp .eql t .nilFunc .nilFunc).run P w = .ok (.bool true) w := by
  simp only [binOp]
  simp [equal_nil_nil h]
theorem neq_nil_nil {t : TypeId} {ps rs : Array TypeId} {vr : Bool} (h : P.underlying t = some (.func ps rs vr)) (w : World) : (binOp .neq t .nilFunc .nilFunc).run P w = .ok (.bool false) w := by
  simp only [binOp]
  simp [equal_nil_nil h]
theorem neq_map_nil {t k e : TypeId} (h : P.underlying t = some (.map k e)) (m : Option Nat) (w : World) : (binOp .neq t (.map m) (.map none)).run P w = .ok (.bool (!m.isNone)) w := Go.run_neq_map_nil w t k e m h
theorem make_func (fn : Fn) (a b : Array Value) (w : World) : (Instr.makeFunc fn a b).run P w = .ok (.func fn a b) w := rfl
end
end Go.Proofs.YtibaibdgpnkdnaaGreatDoor
end
