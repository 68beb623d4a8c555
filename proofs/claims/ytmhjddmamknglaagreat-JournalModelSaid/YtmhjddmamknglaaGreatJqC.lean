/-
  The journal: the laws' all.
-/
import Derived.Test.YtmhjddmamknglaaGreatZ0
import Derived.Test.YtmhjddmamknglaaGreatJqB
namespace Go.Proofs.YtmhjddmamknglaaGreat
set_option maxRecDepth 100000
set_option linter.unusedSimpArgs false
set_option linter.unusedVariables false
open Go.RowKit
set_option maxHeartbeats 8000000

section
variable {w0 : World} {g gj B : Nat} {G : Nat → Prop} {s : PgS} {p : Pg.P} {st : List (List UInt8)} {q : Prop} {A : Option Addr} {c : Nat} {T : List UInt8}
theorem sp_ReadFlat (H : Spc w0 g gj G s p) (L : PL q B p st) (hB : B + 200000000 ≤ 900000000) (h85 : st.length = 85) :
    Calls Tryz.prog 20 #[.pointer (some ⟨gj, 0, none⟩), .int .i64 0, .int .i64 2544] w0 fun e w' =>
      ∃ A m c, e = .returned (.tuple #[.slice A 2544 m, .int .i64 0]) ∧ Own w' w0.heap.size 5 1 A 2544 m (bcells (Jn.flat st)) ∧ Spc w' g gj G s (p.more c) ∧ PL q (B + 200000000) (p.more c) st ∧ Only (spG G gj) w0 w' := by
  have hl : (Jn.flat st).length = 2544 := by rw [Jn.flat_len L.all48, h85]
  have e1 : Jn.rread (Jn.flat st) 0 2544 = (Jn.flat st, 0) := by
    unfold Jn.rread
    rw [if_neg (by rw [hl]; omega)]
    show (((Jn.flat st).drop 0).take 2544, 0) = _
    rw [List.drop_zero, List.take_of_length_le (by omega)]
  refine (sp_Read H L 0 2544 hB).mono ?_
  rw [e1]
  rintro e w' ⟨A, k, m, c, he, hk, h⟩
  obtain rfl : k = 2544 := hk.trans hl
  exact ⟨A, m, c, he, h⟩
theorem law12_all (H : Spc w0 g gj G s p) (L : PL q B p st) (hB : B + 200000000 ≤ 900000000) (h85 : st.length = 85) (hT : Byt w0 w0.heap.size A 2544 c T) (hd : ∀ a, A = some a → ¬ spG G gj a.block) :
    Calls Tryz.prog 18 #[.pointer (some ⟨gj, 0, none⟩), .agg #[.slice A 2544 c]] w0 fun e w' => ∃ cc, e = .returned (.bool (Oct.same (Jn.flat st) T)) ∧ Spc w' g gj G s (p.more cc) ∧ PL q (B + 200000000) (p.more cc) st ∧ Only (spG G gj) w0 w' := by
  have hsc : Mth (spG G gj) w0 w0 [] [] [⟨spG G gj, fun v => Spc v g gj G s p⟩] [⟨blks #[.slice A 2544 c], fun u => Byt u u.heap.size A 2544 c T⟩] :=
    Mth.enter w0 _ _ _ (fun x hx => by obtain rfl := List.mem_singleton.1 hx; exact H.sup) (List.pairwise_singleton _ _) (fun x hx q hq => by obtain rfl := List.mem_singleton.1 hx; exact hq) (fun x hx => by
      obtain rfl := List.mem_singleton.1 hx
      refine ⟨bytSup hT, fun y hy q hq hq2 => ?_⟩
      obtain rfl := List.mem_singleton.1 hy
      obtain ⟨A1, n1, c1, a1, h1, h2, h3, h4⟩ := hq2
      simp at h1
      obtain ⟨rfl, rfl, rfl⟩ := h1
      exact hd a1 h3 (h4 ▸ hq))
  have HC := Lib.hid hsc
  have hm := HC.out.rebase
  have HL := Lib.hid L
  have H85 := Lib.hid h85
  clear hsc H L h85 hT hd
  go_enter Tryz.func18, Tryz.ntmps18
  go_wp2_with (first | go_skip | ((with_reducible show wpList _ _ _ _ _ (World.alloc _ _)); refine wpList_up hm ?_; clear hm; intro n w hn hn2 hk hm hd hd2 ho; (try rw [← hn]); replace hn := Nat.le_of_eq hn.symm) | ((first | ((with_reducible show wpList _ _ _ (Oper.mk _ (Op.box _ _) _ _ _ _ :: _) _ _); (refine bxA hm ?_; clear hm; intro n w hn hz hm ho; (try simp only [List.cons_append, List.nil_append] at hm))) | ((with_reducible show wpList _ _ _ (Oper.mk _ (Op.load _ _) _ _ _ _ :: _) _ _); first | (refine ldA hm ?_) | (refine laA hm ?_)) | ((with_reducible show wpList _ _ _ (Oper.mk _ (Op.store _ _ _) _ _ _ _ :: _) _ _); (refine stA hm ?_; clear hm; intro w hz hm ho)) | ((with_reducible show wpList _ _ _ (Oper.mk _ (Op.alloc _) _ _ _ _ :: _) _ _); (refine alA hm ?_; clear hm; intro n w hn hz hm ho; (try simp only [List.cons_append, List.nil_append] at hm)))); try simp only [Act.put, sxQ]))
  obtain ⟨n3, h9⟩ := hm.nm 0 rfl
  dsimp only at h9
  subst h9
  go_at_call 20
  refine (sp_ReadFlat ((HC.out.resync hm).obj 0 rfl) HL.out hB H85.out).mono ?_
  rintro e w1 ⟨A1, m1, c1, rfl, ho1, hsp1, hL1, hon1⟩
  have hc2 := (HC.out.resync hm).turned 0 rfl hon1 (fun q h => .inl h) hsp1.sup ho1 (fun q hq e => by have := ((HC.out.resync hm).lt 0 rfl) q hq; have := (ho1.lt _ e).1; omega)
  have HL1 := Lib.hid hL1
  clear ho1 hsp1 hL1 hon1
  clear HC hm
  simp only [List.nil_append, List.cons_append, List.set_cons_zero, List.set_cons_succ] at hc2
  have HC := Lib.hid hc2
  clear hc2
  have hm := HC.out.rebase
  go_upto_region 2 with (first | go_skip | ((with_reducible show wpList _ _ _ _ _ (World.alloc _ _)); refine wpList_up hm ?_; clear hm; intro n w hn hn2 hk hm hd hd2 ho; (try rw [← hn]); replace hn := Nat.le_of_eq hn.symm) | ((first | ((with_reducible show wpList _ _ _ (Oper.mk _ (Op.box _ _) _ _ _ _ :: _) _ _); (refine bxA hm ?_; clear hm; intro n w hn hz hm ho; (try simp only [List.cons_append, List.nil_append] at hm))) | ((with_reducible show wpList _ _ _ (Oper.mk _ (Op.load _ _) _ _ _ _ :: _) _ _); first | (refine ldA hm ?_) | (refine laA hm ?_)) | ((with_reducible show wpList _ _ _ (Oper.mk _ (Op.store _ _ _) _ _ _ _ :: _) _ _); (refine stA hm ?_; clear hm; intro w hz hm ho)) | ((with_reducible show wpList _ _ _ (Oper.mk _ (Op.alloc _) _ _ _ _ :: _) _ _); (refine alA hm ?_; clear hm; intro n w hn hz hm ho; (try simp only [List.cons_append, List.nil_append] at hm)))); try simp only [Act.put, sxQ]))
  generalize hbb : Oct.same (Jn.flat st) T = bb
  have HBB := Lib.hid hbb
  clear hbb
  refine wp_region_noPanic ?_
  refine wp_region_held_drew (S := KnS _ _) (by kernel_rfl) (KnS.of hm.drew (Rngs.nil _)) (fun hHeld => ?_)
  refine wpAnyH_fresh (by repeat (first | apply Fresh.a | apply Fresh.b)) ?_
  replace hm := hm.drew
  iterate 4 (first | (refine takeN 0 hHeld ?_) | (refine takeY 0 ?_ hHeld ?_ ?_; rotate_left 1; (first | (intro w9 h9; (with_reducible show (execOp _ (Oper.mk _ (Op.load _ _) _ _ _ _)).run _ _ = _); first | exact h9.ldA | exact h9.lcA | exact h9.laA | exact h9.lrA) | focus (intro w9 hSw; go_simp; (try (with_reducible rfl)); done))); try simp only [Act.put, sxQ])
  iterate 3 (first | (refine takeN 5 hHeld ?_) | (refine takeY 5 ?_ hHeld ?_ ?_; rotate_left 1; (first | (intro w9 h9; (with_reducible show (execOp _ (Oper.mk _ (Op.load _ _) _ _ _ _)).run _ _ = _); first | exact h9.ldA | exact h9.lcA | exact h9.laA | exact h9.lrA) | focus (intro w9 hSw; go_simp; (try (with_reducible rfl)); done))); try simp only [Act.put, sxQ])
  refine wpAnyH_ready (rs := [4]) (by kernel_rfl) (by simp) ?_
  refine AllReadyH.cons2 (by simp only [sxN]; first | done | exact rfl) (fun K hK => ?_)
  rw [if_pos (by rfl)]
  go_simp
  refine (sp_Size85 ((HC.out.resync hm).obj 0 rfl) HL1.out H85.out).mono ?_
  rintro e w2 ⟨rfl, hb2⟩
  have hc2 := (HC.out.resync hm).below hb2
  clear hb2
  clear HC hm
  simp only [List.nil_append, List.cons_append, List.set_cons_zero, List.set_cons_succ] at hc2
  have HC := Lib.hid hc2
  clear hc2
  have hm := HC.out.rebase
  go_simp
  refine hK.out _ _ (KnS.of hm (Rngs.nil _)) (fun hHeld => ?_)
  clear hK K
  try simp only [Act.put, sxQ]
  iterate 6 (first | (refine takeN 8 hHeld ?_) | (refine takeY 8 ?_ hHeld ?_ ?_; rotate_left 1; (first | (intro w9 h9; (with_reducible show (execOp _ (Oper.mk _ (Op.load _ _) _ _ _ _)).run _ _ = _); first | exact h9.ldA | exact h9.lcA | exact h9.laA | exact h9.lrA) | focus (intro w9 hSw; go_simp; (try (with_reducible rfl)); done))); try simp only [Act.put, sxQ])
  refine wpAnyH_ready (rs := [14]) (by kernel_rfl) (by simp) ?_
  refine AllReadyH.cons2 (by simp only [sxN]; first | done | exact rfl) (fun K hK => ?_)
  rw [if_pos (by rfl)]
  go_simp
  refine (ref01_Same A1 A 2544 2544 m1 c (Jn.flat st) T _ ((HC.out.resync hm).byt 0 rfl) ((HC.out.resync hm).val 0 rfl) (by omega) (by omega)).mono ?_
  rintro e w3 ⟨rfl, kd, rfl⟩
  rw [HBB.out]
  replace hm := hm.drewN kd
  go_simp
  refine hK.out _ _ (KnS.of hm (Rngs.nil _)) (fun hHeld => ?_)
  clear hK K
  try simp only [Act.put, sxQ]
  iterate 2 (first | (refine takeN 15 hHeld ?_) | (refine takeY 15 ?_ hHeld ?_ ?_; rotate_left 1; (first | (intro w9 h9; (with_reducible show (execOp _ (Oper.mk _ (Op.load _ _) _ _ _ _)).run _ _ = _); first | exact h9.ldA | exact h9.lcA | exact h9.laA | exact h9.lrA) | focus (intro w9 hSw; go_simp; (try (with_reducible rfl)); done))); try simp only [Act.put, sxQ])
  refine wpAnyH_done (by kernel_rfl) ?_ _
  refine NoPanic.normal ?_
  go_wp2_with (first | go_skip | ((with_reducible show wpList _ _ _ _ _ (World.alloc _ _)); refine wpList_up hm ?_; clear hm; intro n w hn hn2 hk hm hd hd2 ho; (try rw [← hn]); replace hn := Nat.le_of_eq hn.symm) | ((first | ((with_reducible show wpList _ _ _ (Oper.mk _ (Op.box _ _) _ _ _ _ :: _) _ _); (refine bxA hm ?_; clear hm; intro n w hn hz hm ho; (try simp only [List.cons_append, List.nil_append] at hm))) | ((with_reducible show wpList _ _ _ (Oper.mk _ (Op.load _ _) _ _ _ _ :: _) _ _); first | (refine ldA hm ?_) | (refine laA hm ?_)) | ((with_reducible show wpList _ _ _ (Oper.mk _ (Op.store _ _ _) _ _ _ _ :: _) _ _); (refine stA hm ?_; clear hm; intro w hz hm ho)) | ((with_reducible show wpList _ _ _ (Oper.mk _ (Op.alloc _) _ _ _ _ :: _) _ _); (refine alA hm ?_; clear hm; intro n w hn hz hm ho; (try simp only [List.cons_append, List.nil_append] at hm)))); try simp only [Act.put, sxQ]))
  go_ret
  have hsc := HC.out.resync hm
  exact ⟨c1, by rw [HBB.out]; rfl, hsc.obj 0 rfl, HL1.out, hsc.low⟩
end
end Go.Proofs.YtmhjddmamknglaaGreat
