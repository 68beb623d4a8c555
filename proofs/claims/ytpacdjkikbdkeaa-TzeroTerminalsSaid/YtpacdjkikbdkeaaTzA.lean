/-
  The walks of the card's small functions: made, count, status, available, parse, ready.
-/
import Derived.Test.YtpacdjkikbdkeaaTzM
import Derived.Test.YtpacdjkikbdkeaaZ0
import Derived.Test.YtpacdjkikbdkeaaZ1
import Derived.Deep.MidRow
namespace Go.Proofs.Ytpacdjkikbdkeaa
set_option maxRecDepth 100000
set_option linter.unusedSimpArgs false
set_option linter.unusedVariables false
open Go.RowKit Go.Maps
set_option maxHeartbeats 8000000

/-- New bytes come out. -/
def ORes (w : World) (bs : List UInt8) (e : Ending) (w' : World) : Prop :=
  ∃ A c, e = .returned (.slice A bs.length c) ∧ Own w' w.heap.size 5 1 A bs.length c (bcells bs) ∧ Below w.heap.size w w'

theorem own_blk {w : World} {g base n : Nat} {bs : List UInt8} {X : Array Value} (hb : Blk w g 5 X) (hg : base ≤ g) (hX : X = (bcells bs).toArray) (hn : bs.length = n) (hm : n ≤ 1000) : Own w base 5 1 (some ⟨g, 0, none⟩) n n (bcells bs) := by
  subst hX
  have h := Own.blk (s := 1) (n := n) (c := n) hb hg (Nat.le_refl _) (by unfold maxLen; omega) (by simp [bcells, hn]) (by simp [bcells, hn])
  rwa [show ((bcells bs).toArray.toList.take (n * 1)) = bcells bs from List.take_of_length_le (by simp [bcells]; omega)] at h

theorem Blk.there {w : World} {g : Nat} {t : TypeId} {cs : Array Value} (h : Blk w g t cs) (o n : Nat) (hn : o + n ≤ cs.size) : w.there g o n := fun j hj =>
  ⟨by rw [h.cell, Array.getElem?_eq_getElem (by omega)]; rfl, h.frozen _⟩
theorem card_made_nil (w : World) : Calls Try.prog 38 #[.pointer none] w fun e w' => e = .returned (.bool false) ∧ w = w' := by
  go_enter Try.func38, Try.ntmps38
  go_wp2_with fail
  go_ret
  exact ⟨rfl, rfl⟩
theorem card_made_zero (g : Nat) (w : World) (h : w.cell? ⟨g, 0, none⟩ = some (.map none)) : Calls Try.prog 38 #[.pointer (some ⟨g, 0, none⟩)] w fun e w' => e = .returned (.bool false) ∧ w = w' := by
  have hm : ∀ u : World, (binOp .neq 73 (.map none) (.map none)).run Try.prog u = .ok (.bool false) u := neq_map_nil Try.underlying73 none
  go_enter Try.func38, Try.ntmps38
  go_wp2_with fail
  go_ret
  exact ⟨rfl, rfl⟩
theorem card_made (g gm : Nat) (w : World) (h : w.cell? ⟨g, 0, none⟩ = some (.map (some gm))) : Calls Try.prog 38 #[.pointer (some ⟨g, 0, none⟩)] w fun e w' => e = .returned (.bool true) ∧ w = w' := by
  have hm : ∀ u : World, (binOp .neq 73 (.map (some gm)) (.map none)).run Try.prog u = .ok (.bool true) u := neq_map_nil Try.underlying73 (some gm)
  go_enter Try.func38, Try.ntmps38
  go_wp2_with fail
  go_ret
  exact ⟨rfl, rfl⟩
theorem tz_count (n : Int) (w : World) : Calls Try.prog 60 #[.int .i64 n] w fun e w' => e = .returned (.int .i64 (Tz.cnt n)) ∧ w = w' := by
  unfold Tz.cnt
  by_cases h : n = 0
  · subst h
    rw [if_pos rfl]
    go_enter Try.func60, Try.ntmps60
    go_wp2_with fail
    go_ret
    exact ⟨rfl, rfl⟩
  · rw [if_neg h]
    have i0 : (n == 0) = false := beq_eq_false_iff_ne.2 h
    go_enter Try.func60, Try.ntmps60
    go_wp2_with fail
    go_ret
    exact ⟨rfl, rfl⟩
theorem tz_status (sw : Int) (w : World) : Calls Try.prog 44 #[.int .i64 sw] w (ORes w (Tz.wd sw)) := by
  have hsh : sw >>> 8 = sw / 256 := by rw [Int.shiftRight_eq_div_pow]; rfl
  have u1 : IntKind.u8.wrap (sw / 256) = sw / 256 % 256 := by rw [IntKind.wrap_u8]
  have u2 : IntKind.u8.wrap sw = sw % 256 := by rw [IntKind.wrap_u8]
  have HB := Lib.hid (fun o => bal (Below.refl w.heap.size w) o)
  have HK := Lib.hid (Blk.new w 5 #[.int .u8 (sw / 256 % 256), .int .u8 (sw % 256)])
  go_enter Try.func44, Try.ntmps44
  go_wp2_with fail
  go_ret
  exact ⟨_, _, rfl, own_blk HK.out (Nat.le_refl _) (by simp [bcells, Tz.wd, Tz.B8_byte]) rfl (by show 2 ≤ 1000; omega), HB.out _⟩
theorem card_available (g : Nat) (Ad : Option Addr) (n cd : Nat) (first : Int) (w : World) (h : w.cell? ⟨g, 16, none⟩ = some (.slice Ad n cd)) :
    Calls Try.prog 46 #[.pointer (some ⟨g, 0, none⟩), .int .i64 first] w (ORes w (Tz.left first n)) := by
  have u1 : IntKind.u8.wrap first = first % 256 := by rw [IntKind.wrap_u8]
  have HB := Lib.hid (fun o => bal (Below.refl w.heap.size w) o)
  by_cases hn : 256 ≤ n
  · have i1 : (256 : Int) ≤ (n : Int) := by omega
    have HK := Lib.hid (Blk.new w 5 #[.int .u8 (first % 256), .int .u8 0])
    have HE : Hid (Tz.left first n = [Tz.byte first, Tz.byte 0]) := by show _ = _; unfold Tz.left; rw [if_pos hn]
    have hl : (Tz.left first n).length = 2 := rfl
    go_enter Try.func46, Try.ntmps46
    go_wp2_with fail
    go_ret
    exact ⟨_, _, rfl, own_blk HK.out (Nat.le_refl _) (by rw [HE.out]; simp [bcells, Tz.B8_byte]) rfl (by rw [hl]; omega), HB.out _⟩
  · have i1 : ¬ (256 : Int) ≤ (n : Int) := by omega
    have u2 : IntKind.u8.wrap (n : Int) = (n : Int) % 256 := by rw [IntKind.wrap_u8]
    have HK := Lib.hid (Blk.new w 5 #[.int .u8 (first % 256), .int .u8 ((n : Int) % 256)])
    have HE : Hid (Tz.left first n = [Tz.byte first, Tz.byte n]) := by show _ = _; unfold Tz.left; rw [if_neg hn]
    have hl : (Tz.left first n).length = 2 := rfl
    go_enter Try.func46, Try.ntmps46
    go_wp2_with fail
    go_ret
    exact ⟨_, _, rfl, own_blk HK.out (Nat.le_refl _) (by rw [HE.out]; simp [bcells, Tz.B8_byte]) rfl (by rw [hl]; omega), HB.out _⟩
/-- A header, by value. -/
def hV (h : Hd) : Value := .agg #[.int .i64 h.h0, .int .i64 h.h1, .int .i64 h.h2, .int .i64 h.h3, .int .i64 h.h4]
theorem hd_one (a b c d e : Int) : (#[.int .i64 a, .int .i64 b, .int .i64 c, .int .i64 d, .int .i64 e] : Array Value).all (·.oneCell') = true := by simp [Value.oneCell']
theorem tz_parse (A : Option Addr) (c : Nat) (a0 a1 a2 a3 a4 : UInt8) (w : World) (h : Byt w w.heap.size A 5 c [a0, a1, a2, a3, a4]) :
    Calls Try.prog 55 #[.slice A 5 c] w fun e w' => e = .returned (hV ⟨a0.toNat, a1.toNat, a2.toNat, a3.toNat, a4.toNat⟩) ∧ Below w.heap.size w w' := by
  have HB := Lib.hid (bal (Below.refl w.heap.size w) (.cells #[.int .i64 0, .int .i64 0, .int .i64 0, .int .i64 0, .int .i64 0] 76))
  have HK := Lib.hid (Blk.new w 76 #[.int .i64 0, .int .i64 0, .int .i64 0, .int .i64 0, .int .i64 0])
  have ha := (h.alloc' (.cells #[.int .i64 0, .int .i64 0, .int .i64 0, .int .i64 0, .int .i64 0] 76))
  obtain ⟨b, o, rfl, hb⟩ := ha.at_ (by omega)
  have hr := ha.2.2
  have c0 : (w.alloc (.cells #[.int .i64 0, .int .i64 0, .int .i64 0, .int .i64 0, .int .i64 0] 76)).cell? ⟨b, o, none⟩ = some (.int .u8 (a0.toNat : Int)) := hr.byte 0 (by simp)
  have c1 : (w.alloc (.cells #[.int .i64 0, .int .i64 0, .int .i64 0, .int .i64 0, .int .i64 0] 76)).cell? ⟨b, o + 1, none⟩ = some (.int .u8 (a1.toNat : Int)) := hr.byte 1 (by simp)
  have c2 : (w.alloc (.cells #[.int .i64 0, .int .i64 0, .int .i64 0, .int .i64 0, .int .i64 0] 76)).cell? ⟨b, o + 2, none⟩ = some (.int .u8 (a2.toNat : Int)) := hr.byte 2 (by simp)
  have c3 : (w.alloc (.cells #[.int .i64 0, .int .i64 0, .int .i64 0, .int .i64 0, .int .i64 0] 76)).cell? ⟨b, o + 3, none⟩ = some (.int .u8 (a3.toNat : Int)) := hr.byte 3 (by simp)
  have c4 : (w.alloc (.cells #[.int .i64 0, .int .i64 0, .int .i64 0, .int .i64 0, .int .i64 0] 76)).cell? ⟨b, o + 4, none⟩ = some (.int .u8 (a4.toNat : Int)) := hr.byte 4 (by simp)
  have t0 := a0.toNat_lt
  have t1 := a1.toNat_lt
  have t2 := a2.toNat_lt
  have t3 := a3.toNat_lt
  have t4 := a4.toNat_lt
  generalize a0.toNat = n0 at *
  generalize a1.toNat = n1 at *
  generalize a2.toNat = n2 at *
  generalize a3.toNat = n3 at *
  generalize a4.toNat = n4 at *
  have u0 : IntKind.i64.wrap (n0 : Int) = n0 := IntWalk.i64_in _ (by omega)
  have u1 : IntKind.i64.wrap (n1 : Int) = n1 := IntWalk.i64_in _ (by omega)
  have u2 : IntKind.i64.wrap (n2 : Int) = n2 := IntWalk.i64_in _ (by omega)
  have u3 : IntKind.i64.wrap (n3 : Int) = n3 := IntWalk.i64_in _ (by omega)
  have u4 : IntKind.i64.wrap (n4 : Int) = n4 := IntWalk.i64_in _ (by omega)
  clear ha hr h hb
  go_enter Try.func55, Try.ntmps55
  go_wp2_with fail
  refine wp_region_quiet_tail 21 (by kernel_rfl) (by kernel_rfl) ?_
  simp only [List.take_succ_cons, List.take_zero]
  repeat (go_big_quiet_step (fail))
  refine wpQuiet_nil ?_
  rintro _ ⟨nq, rfl⟩
  simp only [List.drop_succ_cons, List.drop_zero]
  go_wp2_with ((with_reducible show wpList _ _ _ (Oper.mk _ (Op.store 76 (Operand.tmp 2) (Operand.tmp 23)) _ _ _ _ :: _) _ _); refine wpList_store_row rfl 76 (.tmp 2) (.tmp 23) rfl w.heap.size #[.int .i64 n0, .int .i64 n1, .int .i64 n2, .int .i64 n3, .int .i64 n4] rfl rfl 76 #[.int .i64 0, .int .i64 0, .int .i64 0, .int .i64 0, .int .i64 0] (HK.out.drewN _) (by kernel_rfl) rfl (hd_one _ _ _ _ _) ?_)
  refine bodyPost_ret (results_cell_row rfl _ _ w.heap.size 76 _ (0, 0) _ rfl (by exact (HK.out.drewN _).setRow _) Try.underlying76 rfl (by kernel_rfl)) rfl ⟨rfl, by exact Below.setRow (Below.drewN HB.out _) (Nat.le_refl _) _⟩
end Go.Proofs.Ytpacdjkikbdkeaa
