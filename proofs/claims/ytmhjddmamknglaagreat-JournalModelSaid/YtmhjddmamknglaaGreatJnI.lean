/-
  The journal: encode.
-/
import Derived.Test.YtmhjddmamknglaaGreatZ0
import Derived.Test.YtmhjddmamknglaaGreatJnH
import Derived.Test.YtmhjddmamknglaaGreatZ4
namespace Go.Proofs.YtmhjddmamknglaaGreat
set_option maxRecDepth 100000
set_option linter.unusedSimpArgs false
set_option linter.unusedVariables false
open Go.RowKit
set_option maxHeartbeats 8000000

/-- A change with a place in the space, plain. -/
def JC.plain (y : JC) : Jn.C := ⟨y.off.toNat, y.bs⟩
def JC.plains (l : List JC) : List Jn.C := l.map JC.plain
theorem JC.enc_length (l : List JC) (h : ∀ y ∈ l, y.bs.length = y.n) : (Jn.enc (JC.plains l)).length = JC.weight l := by
  rw [Jn.enc_length]
  unfold Jn.weight JC.weight JC.plains
  rw [List.map_map]
  congr 1
  apply List.map_congr_left
  intro y hy
  show 8 + y.bs.length = 8 + y.n
  rw [h y hy]
theorem JC.weight_take (l : List JC) (k : Nat) : JC.weight (l.take k) ≤ JC.weight l := by
  have e := congrArg JC.weight (List.take_append_drop k l)
  unfold JC.weight at e ⊢
  rw [List.map_append, List.sum_append] at e
  omega
section
variable {w0 : World} {A : Option Addr} {m c : Nat} {l : List JC}
theorem jn_encode (h : Chs w0 w0.heap.size A m c l) (hoff : ∀ y ∈ l, 0 ≤ y.off ∧ y.off < 1000000) (hw : JC.weight l ≤ 1000000) (hm47 : m ≤ 9223372036854775807) :
    Calls Tryz.prog 34 #[.slice A m c] w0 fun e w' => ∃ A2 k2 c2, e = .returned (.slice A2 k2 c2) ∧ k2 = (Jn.enc (JC.plains l)).length ∧ Own w' w0.heap.size 5 1 A2 k2 c2 (bcells (Jn.enc (JC.plains l))) ∧ Below w0.heap.size w0 w' := by
  have HH := Lib.hid h
  have HC := Lib.hid (Scn.start w0)
  have hm := HC.out.rebase
  have HL := Lib.hid h.len
  have HW := Lib.hid hw
  have HO := Lib.hid hoff
  clear h hw hoff
  go_enter Tryz.func34, Tryz.ntmps34
  go_wp2_with (first | go_skip | ((with_reducible show wpList _ _ _ _ _ (World.alloc _ _)); refine wpList_up hm ?_; clear hm; intro n w hn hn2 hk hm hd hd2 ho; (try rw [← hn]); replace hn := Nat.le_of_eq hn.symm) | ((first | ((with_reducible show wpList _ _ _ (Oper.mk _ (Op.box _ _) _ _ _ _ :: _) _ _); (refine bxA hm ?_; clear hm; intro n w hn hz hm ho; (try simp only [List.cons_append, List.nil_append] at hm))) | ((with_reducible show wpList _ _ _ (Oper.mk _ (Op.load _ _) _ _ _ _ :: _) _ _); first | (refine ldA hm ?_) | (refine laA hm ?_)) | ((with_reducible show wpList _ _ _ (Oper.mk _ (Op.store _ _ _) _ _ _ _ :: _) _ _); (refine stA hm ?_; clear hm; intro w hz hm ho)) | ((with_reducible show wpList _ _ _ (Oper.mk _ (Op.alloc _) _ _ _ _ :: _) _ _); (refine alA hm ?_; clear hm; intro n w hn hz hm ho; (try simp only [List.cons_append, List.nil_append] at hm)))); try simp only [Act.put, sxQ]))
  replace hm := hm.empty 5 1 none
  have hc2 := HC.out.resync hm
  clear HC hm
  simp only [List.nil_append, List.cons_append, List.set_cons_zero, List.set_cons_succ] at hc2
  have HC := Lib.hid hc2
  clear hc2
  have hm := HC.out.rebase
  go_loopg [3, 8] m (fun gk v3 v8 wr => ∃ k A2 k2 c2, k + gk = m ∧ v8 = .int .i64 (k : Int) ∧ v3 = .slice A2 k2 c2 ∧ k2 = (Jn.enc (JC.plains (l.take k))).length ∧ Scn w0 wr [] [⟨5, 1, A2, k2, c2, bcells (Jn.enc (JC.plains (l.take k)))⟩] [] [])
  case atStart => exact ⟨0, none, 0, 0, by omega, rfl, rfl, rfl, HC.out⟩
  case round =>
    clear HC hm
    obtain ⟨k, A2, k2, c2, hkg, rfl, rfl, hk2, hsc⟩ := hrel
    have HC := Lib.hid hsc
    have HK2 := Lib.hid hk2
    have hm := HC.out.rebase
    clear hsc hk2
    cases gk with
    | zero =>
      obtain rfl : m = k := by omega
      have ik : decide ((m : Int) < (m : Int)) = false := decide_eq_false (by omega)
      clear hkg
      go_wp2_with (first | go_skip | ((with_reducible show wpList _ _ _ _ _ (World.alloc _ _)); refine wpList_up hm ?_; clear hm; intro n w hn hn2 hk hm hd hd2 ho; (try rw [← hn]); replace hn := Nat.le_of_eq hn.symm) | ((first | ((with_reducible show wpList _ _ _ (Oper.mk _ (Op.box _ _) _ _ _ _ :: _) _ _); (refine bxA hm ?_; clear hm; intro n w hn hz hm ho; (try simp only [List.cons_append, List.nil_append] at hm))) | ((with_reducible show wpList _ _ _ (Oper.mk _ (Op.load _ _) _ _ _ _ :: _) _ _); first | (refine ldA hm ?_) | (refine laA hm ?_)) | ((with_reducible show wpList _ _ _ (Oper.mk _ (Op.store _ _ _) _ _ _ _ :: _) _ _); (refine stA hm ?_; clear hm; intro w hz hm ho)) | ((with_reducible show wpList _ _ _ (Oper.mk _ (Op.alloc _) _ _ _ _ :: _) _ _); (refine alA hm ?_; clear hm; intro n w hn hz hm ho; (try simp only [List.cons_append, List.nil_append] at hm)))); try simp only [Act.put, sxQ]))
      go_ret
      have hsc := HC.out.resync hm
      have hown := hsc.cal.mem.own_ 0 rfl
      have hk := HK2.out
      rw [List.take_of_length_le (by rw [HL.out]; exact Nat.le_refl _)] at hown hk
      exact ⟨A2, k2, c2, rfl, hk, hown, hsc.low⟩
    | succ j =>
      have hk : k < m := by omega
      have ik : decide ((k : Int) < (m : Int)) = true := decide_eq_true (by omega)
      obtain ⟨bb, oo, y, hA, hyl, hyk, RK⟩ := HH.out.keeps hk
      subst hA
      have hbyt := HH.out.ok y hyl
      have hyo := HO.out y hyl
      have hstep : Jn.enc (JC.plains (l.take (k + 1))) = Jn.enc (JC.plains (l.take k)) ++ Jn.encC y.plain := by
        rw [List.take_add_one, hyk]; simp [JC.plains, Jn.enc]
      have hwt : 8 + y.n ≤ JC.weight l := by
        have h1 : JC.weight [y] ≤ JC.weight l := by
          obtain ⟨l1, l2, rfl⟩ := List.append_of_mem hyl
          simp only [JC.weight, List.map_append, List.map_cons, List.sum_append, List.sum_cons, List.map_nil, List.sum_nil]
          omega
        simpa [JC.weight] using h1
      have hw := HW.out
      have HS := Lib.hid hstep
      obtain ⟨off, A3, n3, c3, bs⟩ := y
      dsimp only at *
      obtain ⟨o, rfl⟩ := Int.eq_ofNat_of_zero_le hyo.1
      have HB := Lib.hid (And.intro hbyt (show o < 1000000 ∧ n3 ≤ 1000000 by omega))
      have HJ := Lib.hid (fun (q4 q5 : Nat) => show joined [⟨A2, k2, c2, Jn.enc (JC.plains (l.take k))⟩, ⟨some ⟨q4, 0, none⟩, 6, 6, Jn.bytesOf o 6⟩, ⟨some ⟨q5, 0, none⟩, 2, 2, Jn.bytesOf n3 2⟩, ⟨A3, n3, c3, bs⟩] = Jn.enc (JC.plains (l.take (k + 1))) by
        rw [hstep]
        have hbl : bs.length = n3 := hbyt.1
        simp only [joined, List.flatMap_cons, List.flatMap_nil, List.append_nil, Jn.encC, JC.plain, Int.toNat_natCast, hbl])
      have HEL := Lib.hid (JC.enc_length (l.take (k + 1)) (fun z hz => (HH.out.ok z (List.mem_of_mem_take hz)).1))
      clear hstep hyl hyk hyo hbyt hwt hw
      go_upto_region 5 with (first | go_skip | ((with_reducible show wpList _ _ _ _ _ (World.alloc _ _)); refine wpList_up hm ?_; clear hm; intro n w hn hn2 hk hm hd hd2 ho; (try rw [← hn]); replace hn := Nat.le_of_eq hn.symm) | ((first | ((with_reducible show wpList _ _ _ (Oper.mk _ (Op.box _ _) _ _ _ _ :: _) _ _); (refine bxA hm ?_; clear hm; intro n w hn hz hm ho; (try simp only [List.cons_append, List.nil_append] at hm))) | ((with_reducible show wpList _ _ _ (Oper.mk _ (Op.load _ _) _ _ _ _ :: _) _ _); first | (refine ldA hm ?_) | (refine laA hm ?_) | (refine lcA (RK.out _ (HC.out.resync hm).low) ?_) | (refine lrA (RK.out _ (HC.out.resync hm).low) ?_)) | ((with_reducible show wpList _ _ _ (Oper.mk _ (Op.store _ _ _) _ _ _ _ :: _) _ _); (refine stA hm ?_; clear hm; intro w hz hm ho)) | ((with_reducible show wpList _ _ _ (Oper.mk _ (Op.alloc _) _ _ _ _ :: _) _ _); (refine alA hm ?_; clear hm; intro n w hn hz hm ho; (try simp only [List.cons_append, List.nil_append] at hm)))); try simp only [Act.put, sxQ]))
      obtain ⟨n5, h9⟩ := hm.nm 0 rfl
      dsimp only at h9
      subst h9
      refine wp_region_noPanic ?_
      refine wp_region_held_drew (S := KnS _ _) (by kernel_rfl) (KnS.of hm.drew (Rngs.nil _)) (fun hHeld => ?_)
      refine wpAnyH_fresh (by repeat (first | apply Fresh.a | apply Fresh.b)) ?_
      replace hm := hm.drew
      iterate 3 (first | (refine takeN 0 hHeld ?_) | (refine takeY 0 ?_ hHeld ?_ ?_; rotate_left 1; (first | (intro w9 h9; (with_reducible show (execOp _ (Oper.mk _ (Op.load _ _) _ _ _ _)).run _ _ = _); first | exact h9.ldA | exact h9.lcA | exact h9.laA | exact h9.lrA) | focus (intro w9 hSw; go_simp; (try (with_reducible rfl)); done))); try simp only [Act.put, sxQ])
      iterate 3 (first | (refine takeN 4 hHeld ?_) | (refine takeY 4 ?_ hHeld ?_ ?_; rotate_left 1; (first | (intro w9 h9; (with_reducible show (execOp _ (Oper.mk _ (Op.load _ _) _ _ _ _)).run _ _ = _); first | exact h9.ldA | exact h9.lcA | exact h9.laA | exact h9.lrA) | focus (intro w9 hSw; go_simp; (try (with_reducible rfl)); done))); try simp only [Act.put, sxQ])
      iterate 2 (first | (refine takeN 8 hHeld ?_) | (refine takeY 8 ?_ hHeld ?_ ?_; rotate_left 1; (first | (intro w9 h9; (with_reducible show (execOp _ (Oper.mk _ (Op.load _ _) _ _ _ _)).run _ _ = _); first | exact h9.ldA | exact h9.lcA | exact h9.laA | exact h9.lrA) | focus (intro w9 hSw; go_simp; (try (with_reducible rfl)); done))); try simp only [Act.put, sxQ])
      refine wpAnyH_ready (rs := [3]) (by kernel_rfl) (by simp) ?_
      refine AllReadyH.cons2 (by simp only [sxN]; first | done | exact rfl) (fun K hK => ?_)
      rw [if_pos (by rfl)]
      go_simp
      refine (jn_bytesOf o 6 _ (by have := HB.out.2; omega) (by omega) (by omega)).mono ?_
      rintro e w4 ⟨q4, rfl, ho4, hb4⟩
      have hc2 := (HC.out.resync hm).got hb4 ho4
      clear hb4 ho4
      clear HC hm
      simp only [List.nil_append, List.cons_append, List.set_cons_zero, List.set_cons_succ] at hc2
      have HC := Lib.hid hc2
      clear hc2
      have hm := HC.out.rebase
      go_simp
      refine hK.out _ _ (KnS.of hm (Rngs.nil _)) (fun hHeld => ?_)
      clear hK K
      try simp only [Act.put, sxQ]
      refine wpAnyH_ready (rs := [7]) (by kernel_rfl) (by simp) ?_
      refine AllReadyH.cons2 (by simp only [sxN]; first | done | exact rfl) (fun K hK => ?_)
      rw [if_pos (by rfl)]
      go_simp
      refine (jn_bytesOf n3 2 _ (by have := HB.out.2; omega) (by omega) (by omega)).mono ?_
      rintro e w5 ⟨q5, rfl, ho5, hb5⟩
      have hc2 := (HC.out.resync hm).got hb5 ho5
      clear hb5 ho5
      clear HC hm
      simp only [List.nil_append, List.cons_append, List.set_cons_zero, List.set_cons_succ] at hc2
      have HC := Lib.hid hc2
      clear hc2
      have hm := HC.out.rebase
      go_simp
      refine hK.out _ _ (KnS.of hm (Rngs.nil _)) (fun hHeld => ?_)
      clear hK K
      try simp only [Act.put, sxQ]
      refine wpAnyH_ready (rs := [10]) (by kernel_rfl) (by simp) ?_
      refine AllReadyH.cons2 (by simp only [sxN]; first | done | exact rfl) (fun K hK => ?_)
      go_simp
      replace hm := hm.snoc 33 #[.slice A2 k2 c2, .slice (some ⟨q4, 0, none⟩) 6 6, .slice (some ⟨q5, 0, none⟩) 2 2, .slice A3 n3 c3]
      generalize w5.alloc _ = w6 at hm ⊢
      generalize w5.heap.size = n22 at hm ⊢
      simp only [List.cons_append, List.nil_append] at hm
      refine hK.out _ _ (KnS.of (hm.takeL 1) (Rngs.nil _)) (fun hHeld => ?_)
      clear hK K
      try simp only [Act.put, sxQ]
      refine wpAnyH_ready (rs := [11]) (by kernel_rfl) (by simp) ?_
      refine AllReadyH.cons2 (by simp only [sxN]; first | done | exact rfl) (fun K hK => ?_)
      rw [if_pos (by rfl)]
      go_simp
      have hsc := HC.out.resync hm
      have hcat := slices_Concat (some ⟨n22, 0, none⟩) 4 4 [⟨A2, k2, c2, Jn.enc (JC.plains (l.take k))⟩, ⟨some ⟨q4, 0, none⟩, 6, 6, Jn.bytesOf o 6⟩, ⟨some ⟨q5, 0, none⟩, 2, 2, Jn.bytesOf n3 2⟩, ⟨A3, n3, c3, bs⟩] w6
        ⟨Blk.row (hm.at_ 1 rfl), fun v hv => by
          simp only [List.mem_cons, List.not_mem_nil, or_false] at hv
          rcases hv with rfl | rfl | rfl | rfl
          · exact hsc.byt 0 rfl
          · exact hsc.byt 1 rfl
          · exact hsc.byt 2 rfl
          · exact hsc.old HB.out.1⟩ rfl (by omega) (by rw [HJ.out q4 q5, HEL.out]; exact Nat.le_trans (JC.weight_take _ _) (Nat.le_trans HW.out (by omega)))
      refine hcat.mono ?_
      rintro e w7 ⟨A7, c7, rfl, ho7, hb7⟩
      have hc2 := hsc.got hb7 ho7
      clear hcat ho7 hb7 hsc
      clear HC hm
      simp only [List.nil_append, List.cons_append, List.set_cons_zero, List.set_cons_succ] at hc2
      have HC := Lib.hid hc2
      clear hc2
      have hm := HC.out.rebase
      go_simp
      refine hK.out _ _ (KnS.of (hm.takeL 1) (Rngs.nil _)) (fun hHeld => ?_)
      clear hK K
      try simp only [Act.put, sxQ]
      iterate 1 (first | (refine takeN 12 hHeld ?_) | (refine takeY 12 ?_ hHeld ?_ ?_; rotate_left 1; (first | (intro w9 h9; (with_reducible show (execOp _ (Oper.mk _ (Op.load _ _) _ _ _ _)).run _ _ = _); first | exact h9.ldA | exact h9.lcA | exact h9.laA | exact h9.lrA) | focus (intro w9 hSw; go_simp; (try (with_reducible rfl)); done))); try simp only [Act.put, sxQ])
      refine wpAnyH_done (by kernel_rfl) ?_ _
      refine NoPanic.normal ?_
      go_wp2_with (first | go_skip | ((with_reducible show wpList _ _ _ _ _ (World.alloc _ _)); refine wpList_up hm ?_; clear hm; intro n w hn hn2 hk hm hd hd2 ho; (try rw [← hn]); replace hn := Nat.le_of_eq hn.symm) | ((first | ((with_reducible show wpList _ _ _ (Oper.mk _ (Op.box _ _) _ _ _ _ :: _) _ _); (refine bxA hm ?_; clear hm; intro n w hn hz hm ho; (try simp only [List.cons_append, List.nil_append] at hm))) | ((with_reducible show wpList _ _ _ (Oper.mk _ (Op.load _ _) _ _ _ _ :: _) _ _); first | (refine ldA hm ?_) | (refine laA hm ?_) | (refine lcA (RK.out _ (HC.out.resync hm).low) ?_) | (refine lrA (RK.out _ (HC.out.resync hm).low) ?_)) | ((with_reducible show wpList _ _ _ (Oper.mk _ (Op.store _ _ _) _ _ _ _ :: _) _ _); (refine stA hm ?_; clear hm; intro w hz hm ho)) | ((with_reducible show wpList _ _ _ (Oper.mk _ (Op.alloc _) _ _ _ _ :: _) _ _); (refine alA hm ?_; clear hm; intro n w hn hz hm ho; (try simp only [List.cons_append, List.nil_append] at hm)))); try simp only [Act.put, sxQ]))
      go_roundg j
      case measure => omega
      case rel => exact ⟨k + 1, A7, _, c7, by omega, by go_num, rfl, by rw [HJ.out q4 q5], by rw [← HJ.out q4 q5]; exact (HC.out.resync hm).part (List.nil_sublist _) (List.singleton_sublist.2 (List.mem_of_getElem? (i := 3) rfl)) (List.Sublist.refl _)⟩
end
end Go.Proofs.YtmhjddmamknglaaGreat
