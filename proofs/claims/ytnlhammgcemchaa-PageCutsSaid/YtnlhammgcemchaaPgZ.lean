/-
  Open of whatever memory; pages that are nil.
-/
import Derived.Test.YtnlhammgcemchaaZ0
import Derived.Test.YtnlhammgcemchaaPgN
import Derived.Test.YtnlhammgcemchaaPgV
namespace Go.Proofs.Ytnlhammgcemchaa
set_option maxRecDepth 100000
set_option linter.unusedSimpArgs false
set_option linter.unusedVariables false
open Go.RowKit
set_option maxHeartbeats 8000000

theorem Pg.Can.frees {B : Nat} {fr : Pg.Fs} {m : Cel.Mem} {st : List (List UInt8)} (h : Pg.Can B fr m st) (ho : m.off = false) (q : Pg.O) (hq : Pg.scan m (Pg.start m) (m.words.length / 20) = some q) : 0 < (Pg.frees q.p.holds).length := by
  obtain ⟨hl, _⟩ := h.opened ho (p := { q.p with freed := Pg.frees q.p.holds, turn := (Pg.newest q.vs q.p.frames + 1) % q.p.frames }) ⟨q, hq, _, List.Perm.refl _, rfl⟩
  have h1 := hl.inv.count_freed
  have h2 := hl.count_pos
  have h3 : (Pg.frees q.p.holds).length = ({ q.p with freed := Pg.frees q.p.holds, turn := (Pg.newest q.vs q.p.frames + 1) % q.p.frames } : Pg.P).freed.length := rfl
  omega
/-- What Open gives. -/
def OpRes (w : World) (gm gw gv n cw cv : Nat) (B : Nat) (fr : Pg.Fs) (m : Cel.Mem) (st : List (List UInt8)) (e : Ending) (w' : World) : Prop :=
  Below w.heap.size w w' ∧ ∃ g G s p, e = .returned (.tuple #[.pointer (some ⟨g, 0, none⟩), .int .i64 0]) ∧ Pg.Live B fr p st ∧ p.m = m ∧ (Pg.Exact m.words → p.fixed = 0) ∧ PAt w' g G s p ∧ s.gm = gm ∧ s.gw = gw ∧ s.gv = gv ∧ s.n = n ∧ s.cw = cw ∧ s.cv = cv ∧ (∀ q, G q → q = gm ∨ q = gw ∨ q = gv ∨ w.heap.size ≤ q)
theorem page_Open_can {w : World} {gm gw gv n cw cv B : Nat} {fr : Pg.Fs} {m : Cel.Mem} {st : List (List UInt8)} (H : MemAt w gm gw gv n cw cv m) (hon : m.off = false) (hc : Pg.Can B fr m st) (hB : B ≤ 1000000000) :
    Calls Try.prog 12 #[.pointer (some ⟨gm, 0, none⟩)] w (OpRes w gm gw gv n cw cv B fr m st) := by
  have hl := H.len
  refine (page_Open_on H hon (by have := hc.big; omega) hc.fine ⟨by omega, by omega⟩ (fun q hq => hc.frees hon q (by rw [hl]; exact hq))).mono ?_
  rintro e w' ⟨hb, h⟩
  refine ⟨hb, ?_⟩
  rcases h with ⟨h1, _⟩ | ⟨g, G, s, p, rfl, ho, hp, e1, e2, e3, e4, e5, e6, hG⟩
  · obtain ⟨q, hq, _⟩ := hc.scan hon
    rw [hl, h1] at hq; cases hq
  · obtain ⟨hL, h2, _, _, h5⟩ := hc.opened hon ho
    exact ⟨g, G, s, p, rfl, hL, h2, h5, hp, e1, e2, e3, e4, e5, e6, hG⟩
theorem page_Open_nil (w : World) : Calls Try.prog 12 #[.pointer none] w fun e w' => e = .returned (.tuple #[.pointer none, .int .i64 31]) ∧ Below w.heap.size w w' := by
  have hm := Mem.nil (fun _ => False) w
  go_enter Try.func12, Try.ntmps12
  go_wp2_with (first | go_skip | ((with_reducible show wpList _ _ _ _ _ (World.alloc _ _)); refine wpList_up hm ?_; clear hm; intro n w hn hn2 hk hm hd hd2 ho; (try rw [← hn]); replace hn := Nat.le_of_eq hn.symm) | ((first | ((with_reducible show wpList _ _ _ (Oper.mk _ (Op.box _ _) _ _ _ _ :: _) _ _); (refine bxA hm ?_; clear hm; intro n w hn hz hm ho; (try simp only [List.cons_append, List.nil_append] at hm))) | ((with_reducible show wpList _ _ _ (Oper.mk _ (Op.load _ _) _ _ _ _ :: _) _ _); first | (refine ldA hm ?_) | (refine laA hm ?_)) | ((with_reducible show wpList _ _ _ (Oper.mk _ (Op.store _ _ _) _ _ _ _ :: _) _ _); (refine stA hm ?_; clear hm; intro w hz hm ho)) | ((with_reducible show wpList _ _ _ (Oper.mk _ (Op.alloc _) _ _ _ _ :: _) _ _); (refine alA hm ?_; clear hm; intro n w hn hz hm ho; (try simp only [List.cons_append, List.nil_append] at hm)))); try simp only [Act.put, sxQ]))
  have h2 := (hm.at_ 0 rfl).cell 0
  have h3 := (hm.at_ 1 rfl).cell 0
  refine bodyPost_ret (v := .tuple #[.pointer none, .int .i64 31]) ?_ rfl ⟨rfl, hm.low⟩
  simp [results, Try.f12, go_sem, h2, h3]
/-! Pages that are nil. -/
theorem pnil_made (w : World) : Calls Try.prog 37 #[.pointer none] w fun e w' => e = .returned (.bool false) ∧ w' = w := by
  go_enter Try.func37, Try.ntmps37
  go_wp2_with fail
  go_ret
  exact ⟨rfl, rfl⟩
theorem pnil_Alive (w : World) : Calls Try.prog 20 #[.pointer none] w fun e w' => e = .returned (.bool false) ∧ Below w.heap.size w w' := by
  have hm := Mem.nil (fun _ => False) w
  go_enter Try.func20, Try.ntmps20
  go_wp2_with (first | go_skip | ((with_reducible show wpList _ _ _ _ _ (World.alloc _ _)); refine wpList_up hm ?_; clear hm; intro n w hn hn2 hk hm hd hd2 ho; (try rw [← hn]); replace hn := Nat.le_of_eq hn.symm) | ((first | ((with_reducible show wpList _ _ _ (Oper.mk _ (Op.box _ _) _ _ _ _ :: _) _ _); (refine bxA hm ?_; clear hm; intro n w hn hz hm ho; (try simp only [List.cons_append, List.nil_append] at hm))) | ((with_reducible show wpList _ _ _ (Oper.mk _ (Op.load _ _) _ _ _ _ :: _) _ _); first | (refine ldA hm ?_) | (refine laA hm ?_)) | ((with_reducible show wpList _ _ _ (Oper.mk _ (Op.store _ _ _) _ _ _ _ :: _) _ _); (refine stA hm ?_; clear hm; intro w hz hm ho)) | ((with_reducible show wpList _ _ _ (Oper.mk _ (Op.alloc _) _ _ _ _ :: _) _ _); (refine alA hm ?_; clear hm; intro n w hn hz hm ho; (try simp only [List.cons_append, List.nil_append] at hm)))); try simp only [Act.put, sxQ]))
  refine wp_region_noPanic ?_
  refine wp_region_held_drew (S := MemS _ _ _ _) (by kernel_rfl) (MemS.of hm.drew) (fun hHeld => ?_)
  refine wpAnyH_fresh (by repeat (first | apply Fresh.a | apply Fresh.b)) ?_
  replace hm := hm.drew
  iterate 1 (first | (refine takeN 0 hHeld ?_) | (refine takeY 0 ?_ hHeld ?_ ?_; rotate_left 1; (first | (intro w9 h9; (with_reducible show (execOp _ (Oper.mk _ (Op.load _ _) _ _ _ _)).run _ _ = _); first | exact h9.ldA) | focus (intro w9 hSw; go_simp; (try (with_reducible rfl)); done))); try simp only [Act.put, sxQ])
  refine wpAnyH_ready (rs := [1]) (by kernel_rfl) (by simp) ?_
  refine AllReadyH.cons2 (by simp only [sxN]; first | done | exact rfl) (fun K hK => ?_)
  rw [if_pos (by rfl)]
  go_simp
  refine (pnil_made _).mono ?_
  rintro e w2 ⟨rfl, rfl⟩
  go_simp
  refine hK.out _ _ (MemS.of hm) (fun hHeld => ?_)
  clear hK K
  try simp only [Act.put, sxQ]
  iterate 5 (first | (refine takeN 2 hHeld ?_) | (refine takeY 2 ?_ hHeld ?_ ?_; rotate_left 1; (first | (intro w9 h9; (with_reducible show (execOp _ (Oper.mk _ (Op.load _ _) _ _ _ _)).run _ _ = _); first | exact h9.ldA) | focus (intro w9 hSw; go_simp; (try (with_reducible rfl)); done))); try simp only [Act.put, sxQ])
  refine wpAnyH_take3 (b := 7) (by repeat (first | apply Seek.a | apply Seek.b | apply Seek.c)) (by simp only [sxN]; first | done | exact rfl) ⟨undef, by kernel_rfl, by kernel_rfl, by kernel_rfl, fun _ _ _ h => h, Or.inr ⟨by kernel_rfl, rfl⟩, hHeld, ?_⟩
  try simp only [Act.put, sxQ]
  iterate 6 (first | (refine takeN 8 hHeld ?_) | (refine takeY 8 ?_ hHeld ?_ ?_; rotate_left 1; (first | (intro w9 h9; (with_reducible show (execOp _ (Oper.mk _ (Op.load _ _) _ _ _ _)).run _ _ = _); first | exact h9.ldA) | focus (intro w9 hSw; go_simp; (try (with_reducible rfl)); done))); try simp only [Act.put, sxQ])
  refine wpAnyH_take3 (b := 14) (by repeat (first | apply Seek.a | apply Seek.b | apply Seek.c)) (by simp only [sxN]; first | done | exact rfl) ⟨undef, by kernel_rfl, by kernel_rfl, by kernel_rfl, fun _ _ _ h => h, Or.inr ⟨by kernel_rfl, rfl⟩, hHeld, ?_⟩
  try simp only [Act.put, sxQ]
  iterate 7 (first | (refine takeN 15 hHeld ?_) | (refine takeY 15 ?_ hHeld ?_ ?_; rotate_left 1; (first | (intro w9 h9; (with_reducible show (execOp _ (Oper.mk _ (Op.load _ _) _ _ _ _)).run _ _ = _); first | exact h9.ldA) | focus (intro w9 hSw; go_simp; (try (with_reducible rfl)); done))); try simp only [Act.put, sxQ])
  refine wpAnyH_done (by kernel_rfl) ?_ _
  refine NoPanic.normal ?_
  go_wp2_with (first | go_skip | ((with_reducible show wpList _ _ _ _ _ (World.alloc _ _)); refine wpList_up hm ?_; clear hm; intro n w hn hn2 hk hm hd hd2 ho; (try rw [← hn]); replace hn := Nat.le_of_eq hn.symm) | ((first | ((with_reducible show wpList _ _ _ (Oper.mk _ (Op.box _ _) _ _ _ _ :: _) _ _); (refine bxA hm ?_; clear hm; intro n w hn hz hm ho; (try simp only [List.cons_append, List.nil_append] at hm))) | ((with_reducible show wpList _ _ _ (Oper.mk _ (Op.load _ _) _ _ _ _ :: _) _ _); first | (refine ldA hm ?_) | (refine laA hm ?_)) | ((with_reducible show wpList _ _ _ (Oper.mk _ (Op.store _ _ _) _ _ _ _ :: _) _ _); (refine stA hm ?_; clear hm; intro w hz hm ho)) | ((with_reducible show wpList _ _ _ (Oper.mk _ (Op.alloc _) _ _ _ _ :: _) _ _); (refine alA hm ?_; clear hm; intro n w hn hz hm ho; (try simp only [List.cons_append, List.nil_append] at hm)))); try simp only [Act.put, sxQ]))
  go_ret
  exact ⟨rfl, hm.low⟩
theorem pnil_Count (w : World) : Calls Try.prog 24 #[.pointer none] w fun e w' => e = .returned (.int .i64 0) ∧ w' = w := by
  go_enter Try.func24, Try.ntmps24
  go_wp2_with (go_at_call 37; refine (pnil_made _).mono ?_; rintro e w1 ⟨rfl, rfl⟩)
  go_ret
  exact ⟨rfl, rfl⟩
theorem pnil_Fixed (w : World) : Calls Try.prog 19 #[.pointer none] w fun e w' => e = .returned (.int .i64 0) ∧ w' = w := by
  go_enter Try.func19, Try.ntmps19
  go_wp2_with (go_at_call 37; refine (pnil_made _).mono ?_; rintro e w1 ⟨rfl, rfl⟩)
  go_ret
  exact ⟨rfl, rfl⟩
theorem pnil_Read (w : World) (i : Int) : Calls Try.prog 17 #[.pointer none, .int .i64 i] w fun e w' => e = .returned (.tuple #[.slice none 0 0, .int .i64 31]) ∧ w' = w := by
  go_enter Try.func17, Try.ntmps17
  go_wp2_with (go_at_call 37; refine (pnil_made _).mono ?_; rintro e w1 ⟨rfl, rfl⟩)
  go_ret2
  exact ⟨rfl, rfl⟩
theorem pnil_Write (w : World) (i : Int) (v : Value) : Calls Try.prog 14 #[.pointer none, .int .i64 i, v] w fun e w' => e = .returned (.int .i64 31) ∧ w' = w := by
  go_enter Try.func14, Try.ntmps14
  go_wp2_with (go_at_call 37; refine (pnil_made _).mono ?_; rintro e w1 ⟨rfl, rfl⟩)
  go_ret
  exact ⟨rfl, rfl⟩
end Go.Proofs.Ytnlhammgcemchaa
