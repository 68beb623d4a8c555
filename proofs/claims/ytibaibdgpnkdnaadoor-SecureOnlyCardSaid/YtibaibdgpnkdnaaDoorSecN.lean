/-
  What 'code' answers on the channel's own error; copies of commands.
-/
import Derived.Test.YtibaibdgpnkdnaaDoorZ1
import Derived.Test.YtibaibdgpnkdnaaDoorSecM
namespace Go.Proofs.YtibaibdgpnkdnaaDoor
set_option maxRecDepth 100000
set_option linter.unusedSimpArgs false
set_option linter.unusedVariables false
open Go.RowKit
set_option maxHeartbeats 8000000

/-- The package variable errors.errorType holds the handle of 'error'. -/
def HasEt (w : World) : Prop := w.cell? ⟨0, 0, none⟩ = some (.iface 120 (.agg #[.pointer (some ⟨1, 80, none⟩)]))
theorem HasEt.pos {w : World} (h : HasEt w) : 0 < w.heap.size := by
  rcases Nat.eq_zero_or_pos w.heap.size with h0 | h1
  · unfold HasEt at h; simp [World.cell?, h0] at h
  · exact h1
theorem HasEt.below {w w' : World} {B : Nat} (h : HasEt w) (hb : Below B w w') (hB : 0 < B) : HasEt w' := by
  unfold HasEt at h ⊢
  rw [hb.cell (p := ⟨0, 0, none⟩) hB]
  exact h
set_option maxRecDepth 100000 in
theorem secure_code (c : Int) (w : World) (hg : HasEt w) : Calls Tryd.prog 38 #[.iface 95 (.agg #[.int .i64 c])] w fun e w' => e = .returned (.int .i64 c) ∧ Below w.heap.size w w' := by
  have hgA : HasEt (w.alloc (.cells #[.int .i64 0] 95)) := hg.below ((Below.refl w.heap.size w).alloc (Nat.le_refl _) _) hg.pos
  have htA : (w.alloc (.cells #[.int .i64 0] 95)).cell? ⟨w.heap.size, 0, none⟩ = some (.int .i64 0) := by simp
  have hfA : (w.alloc (.cells #[.int .i64 0] 95)).frozen? ⟨w.heap.size, 0, none⟩ = false := by simp
  have HA := Lib.hid (As.as_hit c ⟨w.heap.size, 0, none⟩ (.int .i64 0) _ hgA htA hfA)
  have hfin : Below w.heap.size w (((((w.alloc (.cells #[.int .i64 c] 95)).alloc (.cells #[.pointer (some ⟨w.heap.size, 0, none⟩)] 99)).alloc (.cells #[.pointer (some ⟨1, 99, none⟩), .pointer (some ⟨w.heap.size + 1, 0, none⟩), .int .u64 150] 108)).alloc (.cells #[.pointer (some ⟨1, 99, none⟩), .pointer (some ⟨w.heap.size + 1, 0, none⟩), .int .u64 150] 108)).alloc (.cells #[.int .i64 c] 95)) :=
    ((((((Below.refl w.heap.size w).alloc (Nat.le_refl _) _).alloc (by simp) _).alloc (by simp; omega) _).alloc (by simp; omega) _).alloc (by simp; omega) _)
  have HF := Lib.hid hfin
  clear hg hgA htA hfA hfin
  go_enter Tryd.func38, Tryd.ntmps38
  go_wp2_with fail
  go_at_call 51
  refine HA.out.mono ?_
  rintro e w' ⟨rfl, rfl⟩
  go_wp2_with fail
  go_ret
  exact ⟨rfl, by simpa using HF.out⟩
set_option maxRecDepth 100000 in
theorem sec_copied (cla ins p1 p2 : Int) (A : Option Addr) (dn c : Nat) (b : List UInt8) (le : Int) (long : Bool) (w0 : World) (h : Byt w0 w0.heap.size A dn c b) (hdn : dn ≤ 1000000) :
    Calls Tryd.prog 28 #[cmdV cla ins p1 p2 A dn c le long] w0 fun e w' => ∃ A2 c2, e = .returned (cmdV cla ins p1 p2 A2 dn c2 le long) ∧ Own w' w0.heap.size 5 1 A2 dn c2 (bcells b) ∧ Below w0.heap.size w0 w' := by
  have HY := Lib.hid h
  have hm := Mem.nil (fun _ => False) w0
  clear h
  unfold cmdV
  go_enter Tryd.func28, Tryd.ntmps28
  go_wp2_with (first | go_skip | ((with_reducible show wpList _ _ _ _ _ (World.alloc _ _)); refine wpList_up hm ?_; clear hm; intro n w hn hn2 hk hm hd hd2 ho; (try rw [← hn]); replace hn := Nat.le_of_eq hn.symm) | ((first | ((with_reducible show wpList _ _ _ (Oper.mk _ (Op.box _ _) _ _ _ _ :: _) _ _); (refine wpList_bx (by rfl) _ _ rfl _ (by simp only [Act.eval, Array.getD_eq_getD_getElem?, List.getElem?_toArray, List.getElem?_cons_succ, List.getElem?_cons_zero, Option.getD_some]; first | done | exact rfl) _ (by simp only [Value.cells]; first | done | exact rfl) hm ?_; clear hm; intro n w hn hz hm ho; (try simp only [List.cons_append, List.nil_append] at hm))) | ((with_reducible show wpList _ _ _ (Oper.mk _ (Op.load _ _) _ _ _ _ :: _) _ _); first | (refine wpList_ldS (by rfl) _ _ rfl _ _ rfl hm _ _ (by repeat (first | apply In.a | apply In.b)) (by decide +kernel) _ (by simp only [List.getElem?_toArray, List.getElem?_cons_succ, List.getElem?_cons_zero]; first | done | exact rfl) ?_) | (refine wpList_laS (by rfl) _ _ rfl _ _ rfl hm _ _ (by repeat (first | apply In.a | apply In.b)) (by kernel_rfl) _ (by rfl) (by kernel_rfl) (by simp) _ (by simp only [List.toList_toArray, List.drop_succ_cons, List.drop_zero, List.size_toArray, List.length_cons, List.length_nil, Nat.reduceAdd, List.take_succ_cons, List.take_zero]; first | done | exact rfl) ?_)) | ((with_reducible show wpList _ _ _ (Oper.mk _ (Op.store _ _ _) _ _ _ _ :: _) _ _); (refine wpList_stS (by rfl) _ _ _ rfl _ _ rfl _ (by simp only [Act.eval, Array.getD_eq_getD_getElem?, List.getElem?_toArray, List.getElem?_cons_succ, List.getElem?_cons_zero, Option.getD_some]; first | done | exact rfl) hm _ (by simp only [Value.cells]; first | done | exact rfl) _ _ _ _ (by repeat (first | apply Put.a | apply Put.b)) (by kernel_rfl) (by simp [Value.oneCell']) (by simp) (by simp only [List.set_cons_zero, List.set_cons_succ, spl, List.toList_toArray, List.size_toArray, List.length_cons, List.length_nil, Nat.reduceAdd, Nat.zero_add, List.take_succ_cons, List.take_zero, List.drop_succ_cons, List.drop_zero, List.drop_nil, List.cons_append, List.nil_append, List.append_nil]; first | done | exact rfl) ?_; clear hm; intro w hz hm ho)) | ((with_reducible show wpList _ _ _ (Oper.mk _ (Op.alloc _) _ _ _ _ :: _) _ _); (refine wpList_al (by rfl) _ rfl _ rfl _ (by simp only [Value.cells]; first | done | exact rfl) hm ?_; clear hm; intro n w hn hz hm ho; (try simp only [List.cons_append, List.nil_append] at hm)))); try simp only [Act.put, List.setIfInBounds_toArray, List.set_cons_zero, List.set_cons_succ]) | (go_at_call 36; refine (slices_Clone A dn c b _ (by exact (HY.out.below hm.low).more hm.only.size) (by omega)).mono ?_; rintro e w5 ⟨A5, c5, rfl, hown, hbl⟩; replace hm := hm.got hbl hown; clear hown))
  refine bodyPost_ret (results_cell_row rfl _ _ _ 26 _ (0, 0) _ rfl (by exact hm.at_ 1 rfl) Tryd.underlying26 rfl (by kernel_rfl)) rfl ⟨A5, c5, rfl, hm.own_ 0 rfl, hm.low⟩
end Go.Proofs.YtibaibdgpnkdnaaDoor
