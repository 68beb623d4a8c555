/-
  What 'code' answers on the channel's own error; copies of commands.
-/
import Derived.Test.YtibaibdgpnkdnaaGreatDoorZ1
import Derived.Test.YtibaibdgpnkdnaaGreatDoorSecM
namespace Go.Proofs.YtibaibdgpnkdnaaGreatDoor
set_option maxRecDepth 100000
set_option linter.unusedSimpArgs false
set_option linter.unusedVariables false
open Go.RowKit
set_option maxHeartbeats 8000000

/-- The package variable errors.errorType holds the handle of 'error'. -/
def HasEt (w : World) : Prop := w.cell? ⟨0, 0, none⟩ = some (.iface 132 (.agg #[.pointer (some ⟨1, 83, none⟩)]))
theorem HasEt.pos {w : World} (h : HasEt w) : 0 < w.heap.size := by
  rcases Nat.eq_zero_or_pos w.heap.size with h0 | h1
  · unfold HasEt at h; simp [World.cell?, h0] at h
  · exact h1
theorem HasEt.below {w w' : World} {B : Nat} (h : HasEt w) (hb : Below B w w') (hB : 0 < B) : HasEt w' := by
  unfold HasEt at h ⊢
  rw [hb.cell (p := ⟨0, 0, none⟩) hB]
  exact h
set_option maxRecDepth 100000 in
theorem secure_code (c : Int) (w : World) (hg : HasEt w) : Calls Tryz.prog 41 #[.iface 106 (.agg #[.int .i64 c])] w fun e w' => e = .returned (.int .i64 c) ∧ Below w.heap.size w w' := by
  have hgA : HasEt (w.alloc (.cells #[.int .i64 0] 106)) := hg.below ((Below.refl w.heap.size w).alloc (Nat.le_refl _) _) hg.pos
  have htA : (w.alloc (.cells #[.int .i64 0] 106)).cell? ⟨w.heap.size, 0, none⟩ = some (.int .i64 0) := by simp
  have hfA : (w.alloc (.cells #[.int .i64 0] 106)).frozen? ⟨w.heap.size, 0, none⟩ = false := by simp
  have HA := Lib.hid (As.as_hit c ⟨w.heap.size, 0, none⟩ (.int .i64 0) _ hgA htA hfA)
  have hfin : Below w.heap.size w (((((w.alloc (.cells #[.int .i64 c] 106)).alloc (.cells #[.pointer (some ⟨w.heap.size, 0, none⟩)] 110)).alloc (.cells #[.pointer (some ⟨1, 110, none⟩), .pointer (some ⟨w.heap.size + 1, 0, none⟩), .int .u64 150] 120)).alloc (.cells #[.pointer (some ⟨1, 110, none⟩), .pointer (some ⟨w.heap.size + 1, 0, none⟩), .int .u64 150] 120)).alloc (.cells #[.int .i64 c] 106)) :=
    ((((((Below.refl w.heap.size w).alloc (Nat.le_refl _) _).alloc (by simp) _).alloc (by simp; omega) _).alloc (by simp; omega) _).alloc (by simp; omega) _)
  have HF := Lib.hid hfin
  clear hg hgA htA hfA hfin
  go_enter Tryz.func41, Tryz.ntmps41
  go_wp2_with fail
  go_at_call 65
  refine HA.out.mono ?_
  rintro e w' ⟨rfl, rfl⟩
  go_wp2_with fail
  go_ret
  exact ⟨rfl, by simpa using HF.out⟩
set_option maxRecDepth 100000 in
theorem sec_copied (cla ins p1 p2 : Int) (A : Option Addr) (dn c : Nat) (b : List UInt8) (le : Int) (long : Bool) (w0 : World) (h : Byt w0 w0.heap.size A dn c b) (hdn : dn ≤ 1000000) :
    Calls Tryz.prog 35 #[cmdV cla ins p1 p2 A dn c le long] w0 fun e w' => ∃ A2 c2, e = .returned (cmdV cla ins p1 p2 A2 dn c2 le long) ∧ Own w' w0.heap.size 5 1 A2 dn c2 (bcells b) ∧ Below w0.heap.size w0 w' := by
  have HY := Lib.hid h
  have hm := Mem.nil (fun _ => False) w0
  clear h
  unfold cmdV
  go_enter Tryz.func35, Tryz.ntmps35
  go_wp2_with (first | go_skip | ((with_reducible show wpList _ _ _ _ _ (World.alloc _ _)); refine wpList_up hm ?_; clear hm; intro n w hn hn2 hk hm hd hd2 ho; (try rw [← hn]); replace hn := Nat.le_of_eq hn.symm) | ((first | ((with_reducible show wpList _ _ _ (Oper.mk _ (Op.box _ _) _ _ _ _ :: _) _ _); (refine bxA hm ?_; clear hm; intro n w hn hz hm ho; (try simp only [List.cons_append, List.nil_append] at hm))) | ((with_reducible show wpList _ _ _ (Oper.mk _ (Op.load _ _) _ _ _ _ :: _) _ _); first | (refine ldA hm ?_) | (refine laA hm ?_)) | ((with_reducible show wpList _ _ _ (Oper.mk _ (Op.store _ _ _) _ _ _ _ :: _) _ _); (refine stA hm ?_; clear hm; intro w hz hm ho)) | ((with_reducible show wpList _ _ _ (Oper.mk _ (Op.alloc _) _ _ _ _ :: _) _ _); (refine alA hm ?_; clear hm; intro n w hn hz hm ho; (try simp only [List.cons_append, List.nil_append] at hm)))); try simp only [Act.put, sxQ]) | (go_at_call 11; refine (slices_Clone A dn c b _ (by exact (HY.out.below hm.low).more hm.only.size) (by omega)).mono ?_; rintro e w5 ⟨A5, c5, rfl, hown, hbl⟩; replace hm := hm.got hbl hown; clear hown))
  refine bodyPost_ret (results_cell_row rfl _ _ _ 28 _ (0, 0) _ rfl (by exact hm.at_ 1 rfl) Tryz.underlying28 rfl (by kernel_rfl)) rfl ⟨A5, c5, rfl, hm.own_ 0 rfl, hm.low⟩
end Go.Proofs.YtibaibdgpnkdnaaGreatDoor
