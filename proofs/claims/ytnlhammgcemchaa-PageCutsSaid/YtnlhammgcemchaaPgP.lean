/-
  The walks of wear and order.
-/
import Derived.Test.YtnlhammgcemchaaZ0
import Derived.Test.YtnlhammgcemchaaPgO
import Derived.Test.YtnlhammgcemchaaSrt
namespace Go.Proofs.Ytnlhammgcemchaa
set_option maxRecDepth 100000
set_option linter.unusedSimpArgs false
set_option linter.unusedVariables false
open Go.RowKit
set_option maxHeartbeats 8000000

/-- What a frame's wear needs. -/
structure PWk (w : World) (g : Nat) (s : PgS) (p : Pg.P) : Prop where
  blk : Blk w g 69 (pcs s p)
  mem : MemAt w s.gm s.gw s.gv s.n s.cw s.cv p.m
theorem PWk.drewN {w : World} {g : Nat} {s : PgS} {p : Pg.P} (h : PWk w g s p) (k : Nat) : PWk (w.drewN k) g s p := ⟨h.blk, h.mem.drewN k⟩
theorem page_wear {w0 : World} {g : Nat} {s : PgS} {p : Pg.P} (H : PWk w0 g s p) (f : Nat) (hf : f < 100000000) :
    Calls Try.prog 49 #[.pointer (some ⟨g, 0, none⟩), .int .i64 (f : Int)] w0 fun e w' => e = .returned (.int .i64 (p.m.wearOf ((f * 20 + 19 : Nat) : Int))) ∧ w0 = w' := by
  have hm : Mem (fun q => q = g) w0 w0 [⟨g, _, _⟩] [] := Mem.one H.blk rfl
  have HW := Lib.hid (show Calls Try.prog 26 #[.pointer (some ⟨s.gm, 0, none⟩), .int .i64 ((f : Int) * 20 + 19)] w0 fun e w' => e = .returned (.int .i64 (p.m.wearOf ((f * 20 + 19 : Nat) : Int))) ∧ w0 = w' by
    have := cell_Wear H.mem ((f * 20 + 19 : Nat) : Int)
    rwa [show ((f * 20 + 19 : Nat) : Int) = (f : Int) * 20 + 19 by omega] at this ⊢)
  clear H
  simp only [pcs] at hm
  go_enter Try.func49, Try.ntmps49
  go_wp2_with (first | go_skip | ((with_reducible show wpList _ _ _ _ _ (World.alloc _ _)); refine wpList_up hm ?_; clear hm; intro n w hn hn2 hk hm hd hd2 ho; (try rw [← hn]); replace hn := Nat.le_of_eq hn.symm) | ((first | ((with_reducible show wpList _ _ _ (Oper.mk _ (Op.box _ _) _ _ _ _ :: _) _ _); (refine bxA hm ?_; clear hm; intro n w hn hz hm ho; (try simp only [List.cons_append, List.nil_append] at hm))) | ((with_reducible show wpList _ _ _ (Oper.mk _ (Op.load _ _) _ _ _ _ :: _) _ _); first | (refine ldA hm ?_) | (refine laA hm ?_)) | ((with_reducible show wpList _ _ _ (Oper.mk _ (Op.store _ _ _) _ _ _ _ :: _) _ _); (refine stA hm ?_; clear hm; intro w hz hm ho)) | ((with_reducible show wpList _ _ _ (Oper.mk _ (Op.alloc _) _ _ _ _ :: _) _ _); (refine alA hm ?_; clear hm; intro n w hn hz hm ho; (try simp only [List.cons_append, List.nil_append] at hm)))); try simp only [Act.put, sxQ]))
  go_at_call 26
  refine HW.out.mono ?_
  rintro e w2 ⟨rfl, rfl⟩
  go_wp2_with fail
  go_ret
  exact ⟨rfl, rfl⟩
abbrev Frm := { f : Nat // f < 100000000 }
instance : Inhabited Frm := ⟨⟨0, by omega⟩⟩
def encF (f : Frm) : Value := .int .i64 (f.1 : Int)
def wdiff (m : Cel.Mem) (x y : Frm) : Int := m.wearOf ((x.1 * 20 + 19 : Nat) : Int) - m.wearOf ((y.1 * 20 + 19 : Nat) : Int)
theorem wdiff_swo (m : Cel.Mem) : Go.Sort.SWO (ltOf (wdiff m)) where
  irrefl x := by simp [ltOf, wdiff]
  trans x y z h1 h2 := by
    unfold ltOf wdiff at *
    rw [decide_eq_true_eq] at *
    omega
  ntrans x y z h1 h2 := by
    unfold ltOf wdiff at *
    rw [decide_eq_false_iff_not] at *
    omega
theorem wearOf_fine {K : Int} {m : Cel.Mem} (h : Cel.Fine K m) (hK : 0 ≤ K) (a : Int) : 0 ≤ m.wearOf a ∧ m.wearOf a ≤ K := by
  unfold Cel.Mem.wearOf
  split
  · exact h.getD hK _
  · exact ⟨Int.le_refl _, hK⟩
/-- The comparison. -/
theorem page_order1 {w0 : World} {g pb : Nat} {s : PgS} {p : Pg.P} (H : PWk w0 g s p) (hb : Blk w0 pb 31 #[.pointer (some ⟨g, 0, none⟩)]) {K : Int} (hK : Cel.Fine K p.m) (h0 : 0 ≤ K ∧ K ≤ 4611686018427387904) (x y : Frm) :
    Calls Try.prog 48 #[encF x, encF y, .pointer (some ⟨pb, 0, none⟩)] w0 fun e w' => e = .returned (.int .i64 (wdiff p.m x y)) ∧ ∃ q, w' = w0.drewN q := by
  obtain ⟨x, hx⟩ := x
  obtain ⟨y, hy⟩ := y
  unfold encF wdiff
  dsimp only
  have HX := Lib.hid (fun (k : Nat) => page_wear (H.drewN k) x hx)
  have HY := Lib.hid (fun (k : Nat) => page_wear (H.drewN k) y hy)
  have fx := wearOf_fine hK h0.1 ((x * 20 + 19 : Nat) : Int)
  have fy := wearOf_fine hK h0.1 ((y * 20 + 19 : Nat) : Int)
  generalize p.m.wearOf ((x * 20 + 19 : Nat) : Int) = a at *
  generalize p.m.wearOf ((y * 20 + 19 : Nat) : Int) = b at *
  have hr : IntKind.i64.wrap (a - b) = a - b := IntWalk.i64_in _ (by omega)
  have hm : Mem (fun q => q = pb) w0 w0 [⟨pb, _, _⟩] [] := Mem.one hb rfl
  clear H hb hK
  go_enter Try.func48, Try.ntmps48
  go_wp2_with fail
  have HXX := Lib.hid (fun (u : World) (h : ∃ k, u = w0.drewN k) => show Calls Try.prog 49 #[.pointer (some ⟨g, 0, none⟩), .int .i64 (x : Int)] u fun e w' => e = .returned (.int .i64 a) ∧ u = w' by obtain ⟨k, rfl⟩ := h; exact HX.out k)
  have HYY := Lib.hid (fun (u : World) (h : ∃ k, u = w0.drewN k) => show Calls Try.prog 49 #[.pointer (some ⟨g, 0, none⟩), .int .i64 (y : Int)] u fun e w' => e = .returned (.int .i64 b) ∧ u = w' by obtain ⟨k, rfl⟩ := h; exact HY.out k)
  clear HX HY
  refine wp_region_noPanic ?_
  refine wp_region_held_drew (S := MemS _ _ _ _) (by kernel_rfl) (MemS.of hm.drew) (fun hHeld => ?_)
  refine wpAnyH_fresh (by repeat (first | apply Fresh.a | apply Fresh.b)) ?_
  have hd : ∃ k, w0.drew = w0.drewN k := ⟨1, rfl⟩
  replace hm := hm.drew
  iterate 2 (first | (refine takeN 0 hHeld ?_) | (refine takeY 0 ?_ hHeld ?_ ?_; rotate_left 1; (first | (intro w9 h9; (with_reducible show (execOp _ (Oper.mk _ (Op.load _ _) _ _ _ _)).run _ _ = _); first | exact h9.ldA) | focus (intro w9 hSw; go_simp; (try (with_reducible rfl)); done))); try simp only [Act.put, sxQ])
  iterate 2 (first | (refine takeN 3 hHeld ?_) | (refine takeY 3 ?_ hHeld ?_ ?_; rotate_left 1; (first | (intro w9 h9; (with_reducible show (execOp _ (Oper.mk _ (Op.load _ _) _ _ _ _)).run _ _ = _); first | exact h9.ldA) | focus (intro w9 hSw; go_simp; (try (with_reducible rfl)); done))); try simp only [Act.put, sxQ])
  refine wpAnyH_ready (rs := [2]) (by kernel_rfl) (by simp) ?_
  refine AllReadyH.cons2 (by simp only [sxN]; first | done | exact rfl) (fun K hK => ?_)
  rw [if_pos (by rfl)]
  go_simp
  refine (HXX.out _ hd).mono ?_
  rintro e w2 ⟨rfl, rfl⟩
  go_simp
  refine hK.out _ _ (MemS.of hm) (fun hHeld => ?_)
  clear hK K
  try simp only [Act.put, sxQ]
  refine wpAnyH_ready (rs := [5]) (by kernel_rfl) (by simp) ?_
  refine AllReadyH.cons2 (by simp only [sxN]; first | done | exact rfl) (fun K hK => ?_)
  rw [if_pos (by rfl)]
  go_simp
  refine (HYY.out _ hd).mono ?_
  rintro e w2 ⟨rfl, rfl⟩
  go_simp
  refine hK.out _ _ (MemS.of hm) (fun hHeld => ?_)
  clear hK K
  try simp only [Act.put, sxQ]
  iterate 2 (first | (refine takeN 6 hHeld ?_) | (refine takeY 6 ?_ hHeld ?_ ?_; rotate_left 1; (first | (intro w9 h9; (with_reducible show (execOp _ (Oper.mk _ (Op.load _ _) _ _ _ _)).run _ _ = _); first | exact h9.ldA) | focus (intro w9 hSw; go_simp; (try (with_reducible rfl)); done))); try simp only [Act.put, sxQ])
  refine wpAnyH_done (by kernel_rfl) ?_ _
  refine NoPanic.normal ?_
  go_wp2_with fail
  go_ret
  exact ⟨rfl, hd⟩
end Go.Proofs.Ytnlhammgcemchaa
