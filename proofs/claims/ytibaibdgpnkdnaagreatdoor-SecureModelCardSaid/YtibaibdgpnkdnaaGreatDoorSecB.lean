/-
  The walk of examine.
-/
import Derived.Test.YtibaibdgpnkdnaaGreatDoorZ1
import Derived.Test.YtibaibdgpnkdnaaGreatDoorSecB0
namespace Go.Proofs.YtibaibdgpnkdnaaGreatDoor
set_option maxRecDepth 100000
set_option linter.unusedSimpArgs false
set_option linter.unusedVariables false
open Go.RowKit
set_option maxHeartbeats 8000000
set_option maxRecDepth 100000 in
theorem ex_arg (w0 : World) (g : Nat) (F : Nat → Prop) (s : Sec.S) (H : ChAt' w0 g F s) (hcnt : s.cnt ≤ 1000000) (A : Option Addr) (dn c : Nat) (b : List UInt8) (h : Byt w0 w0.heap.size A dn c b) (hdn : dn ≤ 70000) (sw : Int) (hs : s.shut = false) (he : s.exp = true) (hsw : sw < 0 ∨ 65535 < sw) :
    Calls Tryz.prog 55 #[.pointer (some ⟨g, 0, none⟩), rspV A dn c sw] w0 (ExRes w0 s b sw) := by
  have hbl := h.1
  subst hbl
  have hno : ¬ (s.shut = true ∨ s.exp = false) := by rw [hs, he]; rintro (e | e) <;> cases e
  have HE := Lib.hid (show Sec.openE s b sw = 1 by unfold Sec.openE; rw [if_neg hno, if_pos hsw])
  have hcase : decide (sw < 0) = true ∨ (decide (sw < 0) = false ∧ decide (65535 < sw) = true) := by
    by_cases h0 : sw < 0
    · exact .inl (decide_eq_true h0)
    · exact .inr ⟨decide_eq_false h0, decide_eq_true (hsw.elim (fun e => absurd e h0) id)⟩
  clear hno hsw
  have HH := Lib.hid H
  have HB := Lib.hid h
  have HCNT := Lib.hid hcnt
  obtain ⟨a, H⟩ := H
  have HA := Lib.hid H
  have HOK := Lib.hid H.ok
  have hm := H.mem
  have hK := H.blk
  have HK := Lib.hid hK
  clear H hs he hK h hcnt
  obtain ⟨E, ce, M, cm, R, cr, D, cd, C, cc⟩ := a
  simp only [cch] at hm HK
  unfold rspV
  rcases hcase with i0 | ⟨i0, i1⟩
  all_goals
    go_enter Tryz.func55, Tryz.ntmps55
    go_wp2_with (first | go_skip | ((with_reducible show wpList _ _ _ _ _ (World.alloc _ _)); refine wpList_up hm ?_; clear hm; intro n w hn hn2 hk hm hd hd2 ho; (try rw [← hn]); replace hn := Nat.le_of_eq hn.symm) | ((first | ((with_reducible show wpList _ _ _ (Oper.mk _ (Op.box _ _) _ _ _ _ :: _) _ _); (refine bxA hm ?_; clear hm; intro n w hn hz hm ho; (try simp only [List.cons_append, List.nil_append] at hm))) | ((with_reducible show wpList _ _ _ (Oper.mk _ (Op.load _ _) _ _ _ _ :: _) _ _); first | (refine ldA hm ?_) | (refine laA hm ?_)) | ((with_reducible show wpList _ _ _ (Oper.mk _ (Op.store _ _ _) _ _ _ _ :: _) _ _); (refine stA hm ?_; clear hm; intro w hz hm ho)) | ((with_reducible show wpList _ _ _ (Oper.mk _ (Op.alloc _) _ _ _ _ :: _) _ _); (refine alA hm ?_; clear hm; intro n w hn hz hm ho; (try simp only [List.cons_append, List.nil_append] at hm)))); try simp only [Act.put, sxQ]))
    refine bodyPost_ret (results_row_tmp rfl _ _ _ 30 _ (0, 0) _ rfl (by exact hm.at_ 2 rfl) Tryz.underlying30 rfl (by kernel_rfl)) rfl ?_
    exact ExRes.bad (hm.still 0 rfl HK.out) HE.out (by decide)
set_option maxRecDepth 100000 in
theorem ex_no (w0 : World) (g : Nat) (F : Nat → Prop) (s : Sec.S) (H : ChAt' w0 g F s) (hcnt : s.cnt ≤ 1000000) (A : Option Addr) (dn c : Nat) (b : List UInt8) (h : Byt w0 w0.heap.size A dn c b) (hdn : dn ≤ 70000) (sw : Int) (hs : s.shut = false) (he : s.exp = true) (hsw : 0 ≤ sw ∧ sw ≤ 65535) (h16 : Sec.hb s.lvl 16 = false) :
    Calls Tryz.prog 55 #[.pointer (some ⟨g, 0, none⟩), rspV A dn c sw] w0 (ExRes w0 s b sw) := by
  have hbl := h.1
  subst hbl
  have hno : ¬ (s.shut = true ∨ s.exp = false) := by rw [hs, he]; rintro (e | e) <;> cases e
  have hsn : ¬ (sw < 0 ∨ 65535 < sw) := by omega
  have i0 : decide (sw < 0) = false := decide_eq_false (by omega)
  have i1 : decide (65535 < sw) = false := decide_eq_false (by omega)
  have HE := Lib.hid (show Sec.openE s b sw = 0 by unfold Sec.openE; rw [if_neg hno, if_neg hsn, if_pos h16])
  have HD := Lib.hid (show Sec.openD s b = b by unfold Sec.openD; rw [if_pos h16])
  clear hno hsn
  have HH := Lib.hid H
  have HB := Lib.hid h
  have HCNT := Lib.hid hcnt
  obtain ⟨a, H⟩ := H
  have HA := Lib.hid H
  have HOK := Lib.hid H.ok
  have HB16 := Lib.hid (has_cells (g := g) H.ok.lvl 16 (.inr (.inr (.inl rfl))) h16)
  have hm := H.mem
  have hK := H.blk
  have HK := Lib.hid hK
  clear H hs he hK h hcnt h16
  obtain ⟨E, ce, M, cm, R, cr, D, cd, C, cc⟩ := a
  simp only [cch] at hm HK
  unfold rspV
  go_enter Tryz.func55, Tryz.ntmps55
  go_wp2_with (first | go_skip | ((with_reducible show wpList _ _ _ _ _ (World.alloc _ _)); refine wpList_up hm ?_; clear hm; intro n w hn hn2 hk hm hd hd2 ho; (try rw [← hn]); replace hn := Nat.le_of_eq hn.symm) | ((first | ((with_reducible show wpList _ _ _ (Oper.mk _ (Op.box _ _) _ _ _ _ :: _) _ _); (refine bxA hm ?_; clear hm; intro n w hn hz hm ho; (try simp only [List.cons_append, List.nil_append] at hm))) | ((with_reducible show wpList _ _ _ (Oper.mk _ (Op.load _ _) _ _ _ _ :: _) _ _); first | (refine ldA hm ?_) | (refine laA hm ?_)) | ((with_reducible show wpList _ _ _ (Oper.mk _ (Op.store _ _ _) _ _ _ _ :: _) _ _); (refine stA hm ?_; clear hm; intro w hz hm ho)) | ((with_reducible show wpList _ _ _ (Oper.mk _ (Op.alloc _) _ _ _ _ :: _) _ _); (refine alA hm ?_; clear hm; intro n w hn hz hm ho; (try simp only [List.cons_append, List.nil_append] at hm)))); try simp only [Act.put, sxQ]) | (go_at_call 33; refine (HB16.out _ _ _ _ _ _ _ _ _ (by exact hm.at_ 0 rfl)).mono ?_; rintro e w2 ⟨rfl, rfl⟩))
  have hw9 := hm.drew.wo 2
  simp only [List.eraseIdx_cons_zero, List.eraseIdx_cons_succ] at hw9
  refine wp_region_noPanic ?_
  refine wp_region_held_drew (S := MemS _ _ _ _) (by kernel_rfl) (MemS.of hw9) (fun hHeld => ?_)
  refine wpAnyH_fresh (by repeat (first | apply Fresh.a | apply Fresh.b)) ?_
  clear hw9
  replace hm := hm.drew
  iterate 2 (first | (refine takeN 0 hHeld ?_) | (refine takeY 0 ?_ hHeld ?_ ?_; rotate_left 1; (first | (intro w9 h9; (with_reducible show (execOp _ (Oper.mk _ (Op.load _ _) _ _ _ _)).run _ _ = _); first | exact h9.ldA) | focus (intro w9 hSw; go_simp; (try (with_reducible rfl)); done))); try simp only [Act.put, sxQ])
  iterate 2 (first | (refine takeN 3 hHeld ?_) | (refine takeY 3 ?_ hHeld ?_ ?_; rotate_left 1; (first | (intro w9 h9; (with_reducible show (execOp _ (Oper.mk _ (Op.load _ _) _ _ _ _)).run _ _ = _); first | exact h9.ldA) | focus (intro w9 hSw; go_simp; (try (with_reducible rfl)); done))); try simp only [Act.put, sxQ])
  refine wpAnyH_ready (rs := [2]) (by kernel_rfl) (by simp) ?_
  refine AllReadyH.cons2 (by simp only [sxN]; first | done | exact rfl) (fun K hK => ?_)
  rw [if_pos (by rfl)]
  go_simp
  refine (slices_Clone A b.length c b _ (by exact (HB.out.below (hm.still 0 rfl HK.out)).more hm.only.size) (by omega)).mono ?_
  rintro e w2 ⟨A5, c5, rfl, hown, hbl⟩
  replace hm := hm.got hbl hown
  clear hown
  go_simp
  refine hK.out _ _ (MemS.of ((hm.wo 2).less)) (fun hHeld => ?_)
  clear hK K
  try simp only [Act.put, sxQ]
  iterate 1 (first | (refine takeN 5 hHeld ?_) | (refine takeY 5 ?_ hHeld ?_ ?_; rotate_left 1; (first | (intro w9 h9; (with_reducible show (execOp _ (Oper.mk _ (Op.load _ _) _ _ _ _)).run _ _ = _); first | exact h9.ldA) | focus (intro w9 hSw; go_simp; (try (with_reducible rfl)); done))); try simp only [Act.put, sxQ])
  refine wpAnyH_ready (rs := [6]) (by kernel_rfl) (by simp) ?_
  refine AllReadyH.cons2 (by simp only [sxN]; first | done | exact rfl) (fun K hK => ?_)
  refine stB hm ?_
  clear hm; intro w hz hm ho
  refine hK.out _ _ (MemS.of ((hm.wo 2).less)) (fun hHeld => ?_)
  clear hK K
  try simp only [Act.put, sxQ]
  iterate 1 (first | (refine takeN 7 hHeld ?_) | (refine takeY 7 ?_ hHeld ?_ ?_; rotate_left 1; (first | (intro w9 h9; (with_reducible show (execOp _ (Oper.mk _ (Op.load _ _) _ _ _ _)).run _ _ = _); first | exact h9.ldA) | focus (intro w9 hSw; go_simp; (try (with_reducible rfl)); done))); try simp only [Act.put, sxQ])
  refine wpAnyH_done (by kernel_rfl) ?_ _
  refine NoPanic.normal ?_
  go_wp2_with fail
  refine bodyPost_ret (results_row_tmp rfl _ _ _ 30 _ (0, 0) _ rfl (by exact hm.at_ 2 rfl) Tryz.underlying30 rfl (by kernel_rfl)) rfl ?_
  exact ExRes.good (hm.still 0 rfl HK.out) HE.out HD.out rfl (hm.freshG 0 0 rfl rfl)
set_option maxRecDepth 100000 in
theorem ex_short (w0 : World) (g : Nat) (F : Nat → Prop) (s : Sec.S) (H : ChAt' w0 g F s) (hcnt : s.cnt ≤ 1000000) (A : Option Addr) (dn c : Nat) (b : List UInt8) (h : Byt w0 w0.heap.size A dn c b) (hdn : dn ≤ 70000) (sw : Int) (hs : s.shut = false) (he : s.exp = true) (hsw : 0 ≤ sw ∧ sw ≤ 65535) (h16 : Sec.hb s.lvl 16 = true) (hl : dn < 8) :
    Calls Tryz.prog 55 #[.pointer (some ⟨g, 0, none⟩), rspV A dn c sw] w0 (ExRes w0 s b sw) := by
  have hbl := h.1
  subst hbl
  have hsn : ¬ (sw < 0 ∨ 65535 < sw) := by omega
  have i0 : decide (sw < 0) = false := decide_eq_false (by omega)
  have i1 : decide (65535 < sw) = false := decide_eq_false (by omega)
  have HE := Lib.hid ((op_mac (d := b) hs he hsw h16).trans (if_pos hl))
  have i2 : decide ((b.length : Int) - 8 < 0) = true := decide_eq_true (by omega)
  have i3 : decide ((b.length : Int) < 8) = true := decide_eq_true (by omega)
  have i4 : decide (b.length < 8) = true := decide_eq_true (by omega)
  clear hsn hl
  have HH := Lib.hid H
  have HB := Lib.hid h
  have HCNT := Lib.hid hcnt
  obtain ⟨a, H⟩ := H
  have HA := Lib.hid H
  have HOK := Lib.hid H.ok
  have HB16 := Lib.hid (has_cells (g := g) H.ok.lvl 16 (.inr (.inr (.inl rfl))) h16)
  have hm := H.mem
  have hK := H.blk
  have HK := Lib.hid hK
  clear H hs he hK h hcnt h16
  obtain ⟨E, ce, M, cm, R, cr, D, cd, C, cc⟩ := a
  simp only [cch] at hm HK
  unfold rspV
  go_enter Tryz.func55, Tryz.ntmps55
  go_wp2_with (first | go_skip | ((with_reducible show wpList _ _ _ _ _ (World.alloc _ _)); refine wpList_up hm ?_; clear hm; intro n w hn hn2 hk hm hd hd2 ho; (try rw [← hn]); replace hn := Nat.le_of_eq hn.symm) | ((first | ((with_reducible show wpList _ _ _ (Oper.mk _ (Op.box _ _) _ _ _ _ :: _) _ _); (refine bxA hm ?_; clear hm; intro n w hn hz hm ho; (try simp only [List.cons_append, List.nil_append] at hm))) | ((with_reducible show wpList _ _ _ (Oper.mk _ (Op.load _ _) _ _ _ _ :: _) _ _); first | (refine ldA hm ?_) | (refine laA hm ?_)) | ((with_reducible show wpList _ _ _ (Oper.mk _ (Op.store _ _ _) _ _ _ _ :: _) _ _); (refine stA hm ?_; clear hm; intro w hz hm ho)) | ((with_reducible show wpList _ _ _ (Oper.mk _ (Op.alloc _) _ _ _ _ :: _) _ _); (refine alA hm ?_; clear hm; intro n w hn hz hm ho; (try simp only [List.cons_append, List.nil_append] at hm)))); try simp only [Act.put, sxQ]) | (go_at_call 33; refine (HB16.out _ _ _ _ _ _ _ _ _ (by exact hm.at_ 0 rfl)).mono ?_; rintro e w2 ⟨rfl, rfl⟩))
  refine bodyPost_ret (results_row_tmp rfl _ _ _ 30 _ (0, 0) _ rfl (by exact hm.at_ 2 rfl) Tryz.underlying30 rfl (by kernel_rfl)) rfl ?_
  exact ExRes.bad (hm.still 0 rfl HK.out) HE.out (by decide)
set_option maxRecDepth 100000 in
theorem ex_wrong (w0 : World) (g : Nat) (F : Nat → Prop) (s : Sec.S) (H : ChAt' w0 g F s) (hcnt : s.cnt ≤ 1000000) (A : Option Addr) (dn c : Nat) (b : List UInt8) (h : Byt w0 w0.heap.size A dn c b) (hdn : dn ≤ 70000) (sw : Int) (hs : s.shut = false) (he : s.exp = true) (hsw : 0 ≤ sw ∧ sw ≤ 65535) (h16 : Sec.hb s.lvl 16 = true) (h8 : 8 ≤ dn) (hq : b.drop (dn - 8) ≠ Sec.rmc s (b.take (dn - 8)) sw) :
    Calls Tryz.prog 55 #[.pointer (some ⟨g, 0, none⟩), rspV A dn c sw] w0 (ExRes w0 s b sw) := by
  have hbl := h.1
  obtain ⟨b0, o0, hA0, hb0⟩ := h.at_ (by omega)
  subst hA0
  obtain ⟨k, hk8⟩ : ∃ k, dn = k + 8 := ⟨dn - 8, by omega⟩
  subst hk8
  rw [Nat.add_sub_cancel] at hq
  have hle := h.2.1
  have j1 : ¬ c = k := by omega
  have j2 : k ≤ c := by omega
  have j3 : (k : Int) ≤ (k : Int) + 8 := by omega
  have j4 : decide ((k : Int) < 0) = false := decide_eq_false (by omega)
  have hu := op_mac (d := b) hs he hsw h16
  rw [hbl, Nat.add_sub_cancel, if_neg (by omega)] at hu
  rw [if_pos hq] at hu
  have hsm : Oct.same (b.drop k) (Sec.rmc s (b.take k) sw) = false := by
    rw [Bool.eq_false_iff]; exact fun e => hq ((Oct.same_iff _ _).1 e)
  have hsn : ¬ (sw < 0 ∨ 65535 < sw) := by omega
  have i0 : decide (sw < 0) = false := decide_eq_false (by omega)
  have i1 : decide (65535 < sw) = false := decide_eq_false (by omega)
  have HE := Lib.hid hu
  have HSM := Lib.hid hsm
  have HBL := Lib.hid hbl
  have HSW := Lib.hid hsw
  clear hsm hle hu hbl hsn hq
  have HH := Lib.hid H
  have HB := Lib.hid h
  have HCNT := Lib.hid hcnt
  obtain ⟨a, H⟩ := H
  have HA := Lib.hid H
  have HOK := Lib.hid H.ok
  have HB16 := Lib.hid (has_cells (g := g) H.ok.lvl 16 (.inr (.inr (.inl rfl))) h16)
  have hm := H.mem
  have hK := H.blk
  have HK := Lib.hid hK
  clear H hs he hK h hcnt h16
  obtain ⟨E, ce, M, cm, R, cr, D, cd, C, cc⟩ := a
  simp only [cch] at hm HK
  unfold rspV
  go_enter Tryz.func55, Tryz.ntmps55
  go_wp2_with (first | go_skip | ((with_reducible show wpList _ _ _ _ _ (World.alloc _ _)); refine wpList_up hm ?_; clear hm; intro n w hn hn2 hk hm hd hd2 ho; (try rw [← hn]); replace hn := Nat.le_of_eq hn.symm) | ((first | ((with_reducible show wpList _ _ _ (Oper.mk _ (Op.box _ _) _ _ _ _ :: _) _ _); (refine bxA hm ?_; clear hm; intro n w hn hz hm ho; (try simp only [List.cons_append, List.nil_append] at hm))) | ((with_reducible show wpList _ _ _ (Oper.mk _ (Op.load _ _) _ _ _ _ :: _) _ _); first | (refine ldA hm ?_) | (refine laA hm ?_)) | ((with_reducible show wpList _ _ _ (Oper.mk _ (Op.store _ _ _) _ _ _ _ :: _) _ _); (refine stA hm ?_; clear hm; intro w hz hm ho)) | ((with_reducible show wpList _ _ _ (Oper.mk _ (Op.alloc _) _ _ _ _ :: _) _ _); (refine alA hm ?_; clear hm; intro n w hn hz hm ho; (try simp only [List.cons_append, List.nil_append] at hm)))); try simp only [Act.put, sxQ]) | (go_at_call 33; refine (HB16.out _ _ _ _ _ _ _ _ _ (by exact hm.at_ 0 rfl)).mono ?_; rintro e w2 ⟨rfl, rfl⟩))
  refine wp_region_noPanic ?_
  refine wp_region_held_drew (S := MemS _ _ _ _) (by kernel_rfl) (MemS.of hm.drew) (fun hHeld => ?_)
  refine wpAnyH_fresh (by repeat (first | apply Fresh.a | apply Fresh.b)) ?_
  replace hm := hm.drew
  iterate 8 (first | (refine takeN 0 hHeld ?_) | (refine takeY 0 ?_ hHeld ?_ ?_; rotate_left 1; (first | (intro w9 h9; (with_reducible show (execOp _ (Oper.mk _ (Op.load _ _) _ _ _ _)).run _ _ = _); first | exact h9.ldA) | focus (intro w9 hSw; go_simp; (try (with_reducible rfl)); done))); try simp only [Act.put, sxQ])
  refine wpAnyH_ready (rs := [8]) (by kernel_rfl) (by simp) ?_
  refine AllReadyH.cons2 (by simp only [sxN]; first | done | exact rfl) (fun K hK => ?_)
  rw [if_pos (by rfl)]
  go_simp
  refine (ch_rmac _ g F s (ChAt'.away HH.out (R := fun _ => False) (Only.of_below (hm.still 0 rfl HK.out)) (fun _ _ e => e)) (some ⟨b0, o0, none⟩) k c (b.take k) (by exact (byt_cut ((HB.out.below (hm.still 0 rfl HK.out)).more hm.only.size)).1) (by omega) sw HSW.out).mono ?_
  intro e w2 hor
  obtain ⟨A5, c5, rfl, hown, hbl⟩ := hor.len (n := 8) (Sec.rmc_length _ _ _ HOK.out)
  clear hor
  replace hm := hm.got hbl hown
  clear hown
  simp only [List.nil_append, List.cons_append] at hm
  go_simp
  refine hK.out _ _ (MemS.of hm.noO) (fun hHeld => ?_)
  clear hK K
  try simp only [Act.put, sxQ]
  refine wpAnyH_ready (rs := [9]) (by kernel_rfl) (by simp) ?_
  refine AllReadyH.cons2 (by simp only [sxN]; first | done | exact rfl) (fun K hK => ?_)
  rw [if_pos (by rfl)]
  go_simp
  refine (bytes_Equal (some ⟨b0, o0 + k, none⟩) A5 8 8 (c - k) c5 (b.drop k) (Sec.rmc s (b.take k) sw) _ (by exact (byt_cut ((HB.out.below (hm.still 0 rfl HK.out)).more hm.only.size)).2) (by exact (hm.sl_ 0 rfl).byt (Nat.le_refl _))).mono ?_
  rw [HSM.out]
  rintro e w2 ⟨rfl, rfl⟩
  go_simp
  refine hK.out _ _ (MemS.of hm.noO) (fun hHeld => ?_)
  clear hK K
  try simp only [Act.put, sxQ]
  iterate 1 (first | (refine takeN 10 hHeld ?_) | (refine takeY 10 ?_ hHeld ?_ ?_; rotate_left 1; (first | (intro w9 h9; (with_reducible show (execOp _ (Oper.mk _ (Op.load _ _) _ _ _ _)).run _ _ = _); first | exact h9.ldA) | focus (intro w9 hSw; go_simp; (try (with_reducible rfl)); done))); try simp only [Act.put, sxQ])
  refine wpAnyH_done (by kernel_rfl) ?_ _
  refine NoPanic.normal ?_
  go_wp2_with (first | go_skip | ((with_reducible show wpList _ _ _ _ _ (World.alloc _ _)); refine wpList_up hm ?_; clear hm; intro n w hn hn2 hk hm hd hd2 ho; (try rw [← hn]); replace hn := Nat.le_of_eq hn.symm) | ((first | ((with_reducible show wpList _ _ _ (Oper.mk _ (Op.box _ _) _ _ _ _ :: _) _ _); (refine bxA hm ?_; clear hm; intro n w hn hz hm ho; (try simp only [List.cons_append, List.nil_append] at hm))) | ((with_reducible show wpList _ _ _ (Oper.mk _ (Op.load _ _) _ _ _ _ :: _) _ _); first | (refine ldA hm ?_) | (refine laA hm ?_)) | ((with_reducible show wpList _ _ _ (Oper.mk _ (Op.store _ _ _) _ _ _ _ :: _) _ _); (refine stA hm ?_; clear hm; intro w hz hm ho)) | ((with_reducible show wpList _ _ _ (Oper.mk _ (Op.alloc _) _ _ _ _ :: _) _ _); (refine alA hm ?_; clear hm; intro n w hn hz hm ho; (try simp only [List.cons_append, List.nil_append] at hm)))); try simp only [Act.put, sxQ]))
  refine bodyPost_ret (results_row_tmp rfl _ _ _ 30 _ (0, 0) _ rfl (by exact hm.at_ 2 rfl) Tryz.underlying30 rfl (by kernel_rfl)) rfl ?_
  exact ExRes.bad (hm.still 0 rfl HK.out) HE.out (by decide)
set_option maxRecDepth 100000 in
theorem ex_mac (w0 : World) (g : Nat) (F : Nat → Prop) (s : Sec.S) (H : ChAt' w0 g F s) (hcnt : s.cnt ≤ 1000000) (A : Option Addr) (dn c : Nat) (b : List UInt8) (h : Byt w0 w0.heap.size A dn c b) (hdn : dn ≤ 70000) (sw : Int) (hs : s.shut = false) (he : s.exp = true) (hsw : 0 ≤ sw ∧ sw ≤ 65535) (h16 : Sec.hb s.lvl 16 = true) (h8 : 8 ≤ dn) (hq : b.drop (dn - 8) = Sec.rmc s (b.take (dn - 8)) sw) (h32 : Sec.hb s.lvl 32 = false) :
    Calls Tryz.prog 55 #[.pointer (some ⟨g, 0, none⟩), rspV A dn c sw] w0 (ExRes w0 s b sw) := by
  have hbl := h.1
  obtain ⟨b0, o0, hA0, hb0⟩ := h.at_ (by omega)
  subst hA0
  obtain ⟨k, hk8⟩ : ∃ k, dn = k + 8 := ⟨dn - 8, by omega⟩
  subst hk8
  rw [Nat.add_sub_cancel] at hq
  have hle := h.2.1
  have j1 : ¬ c = k := by omega
  have j2 : k ≤ c := by omega
  have j3 : (k : Int) ≤ (k : Int) + 8 := by omega
  have j4 : decide ((k : Int) < 0) = false := decide_eq_false (by omega)
  have hu := op_mac (d := b) hs he hsw h16
  rw [hbl, Nat.add_sub_cancel, if_neg (by omega)] at hu
  rw [if_neg (fun e => e hq)] at hu
  have hsm : Oct.same (b.drop k) (Sec.rmc s (b.take k) sw) = true := (Oct.same_iff _ _).2 hq
  rw [if_neg (by rw [h32]; exact fun e => by cases e.1)] at hu
  have hsn : ¬ (sw < 0 ∨ 65535 < sw) := by omega
  have i0 : decide (sw < 0) = false := decide_eq_false (by omega)
  have i1 : decide (65535 < sw) = false := decide_eq_false (by omega)
  have HE := Lib.hid hu
  have HSM := Lib.hid hsm
  have HBL := Lib.hid hbl
  have HSW := Lib.hid hsw
  clear hsm hle hu hbl hsn hq
  have HD : Hid (Sec.openD s b = b.take k) := Lib.hid (by unfold Sec.openD; rw [h16, if_neg (by decide), h32]; rw [HBL.out, Nat.add_sub_cancel]; rfl)
  have HH := Lib.hid H
  have HB := Lib.hid h
  have HCNT := Lib.hid hcnt
  obtain ⟨a, H⟩ := H
  have HA := Lib.hid H
  have HOK := Lib.hid H.ok
  have HB16 := Lib.hid (has_cells (g := g) H.ok.lvl 16 (.inr (.inr (.inl rfl))) h16)
  have HB32 := Lib.hid (has_cells (g := g) H.ok.lvl 32 (.inr (.inr (.inr rfl))) h32)
  have hm := H.mem
  have hK := H.blk
  have HK := Lib.hid hK
  clear H hs he hK h hcnt h16 h32
  obtain ⟨E, ce, M, cm, R, cr, D, cd, C, cc⟩ := a
  simp only [cch] at hm HK
  unfold rspV
  go_enter Tryz.func55, Tryz.ntmps55
  go_wp2_with (first | go_skip | ((with_reducible show wpList _ _ _ _ _ (World.alloc _ _)); refine wpList_up hm ?_; clear hm; intro n w hn hn2 hk hm hd hd2 ho; (try rw [← hn]); replace hn := Nat.le_of_eq hn.symm) | ((first | ((with_reducible show wpList _ _ _ (Oper.mk _ (Op.box _ _) _ _ _ _ :: _) _ _); (refine bxA hm ?_; clear hm; intro n w hn hz hm ho; (try simp only [List.cons_append, List.nil_append] at hm))) | ((with_reducible show wpList _ _ _ (Oper.mk _ (Op.load _ _) _ _ _ _ :: _) _ _); first | (refine ldA hm ?_) | (refine laA hm ?_)) | ((with_reducible show wpList _ _ _ (Oper.mk _ (Op.store _ _ _) _ _ _ _ :: _) _ _); (refine stA hm ?_; clear hm; intro w hz hm ho)) | ((with_reducible show wpList _ _ _ (Oper.mk _ (Op.alloc _) _ _ _ _ :: _) _ _); (refine alA hm ?_; clear hm; intro n w hn hz hm ho; (try simp only [List.cons_append, List.nil_append] at hm)))); try simp only [Act.put, sxQ]) | (go_at_call 33; refine (HB16.out _ _ _ _ _ _ _ _ _ (by exact hm.at_ 0 rfl)).mono ?_; rintro e w2 ⟨rfl, rfl⟩))
  refine wp_region_noPanic ?_
  refine wp_region_held_drew (S := MemS _ _ _ _) (by kernel_rfl) (MemS.of hm.drew) (fun hHeld => ?_)
  refine wpAnyH_fresh (by repeat (first | apply Fresh.a | apply Fresh.b)) ?_
  replace hm := hm.drew
  iterate 8 (first | (refine takeN 0 hHeld ?_) | (refine takeY 0 ?_ hHeld ?_ ?_; rotate_left 1; (first | (intro w9 h9; (with_reducible show (execOp _ (Oper.mk _ (Op.load _ _) _ _ _ _)).run _ _ = _); first | exact h9.ldA) | focus (intro w9 hSw; go_simp; (try (with_reducible rfl)); done))); try simp only [Act.put, sxQ])
  refine wpAnyH_ready (rs := [8]) (by kernel_rfl) (by simp) ?_
  refine AllReadyH.cons2 (by simp only [sxN]; first | done | exact rfl) (fun K hK => ?_)
  rw [if_pos (by rfl)]
  go_simp
  refine (ch_rmac _ g F s (ChAt'.away HH.out (R := fun _ => False) (Only.of_below (hm.still 0 rfl HK.out)) (fun _ _ e => e)) (some ⟨b0, o0, none⟩) k c (b.take k) (by exact (byt_cut ((HB.out.below (hm.still 0 rfl HK.out)).more hm.only.size)).1) (by omega) sw HSW.out).mono ?_
  intro e w2 hor
  obtain ⟨A5, c5, rfl, hown, hbl⟩ := hor.len (n := 8) (Sec.rmc_length _ _ _ HOK.out)
  clear hor
  replace hm := hm.got hbl hown
  clear hown
  simp only [List.nil_append, List.cons_append] at hm
  go_simp
  refine hK.out _ _ (MemS.of hm.noO) (fun hHeld => ?_)
  clear hK K
  try simp only [Act.put, sxQ]
  refine wpAnyH_ready (rs := [9]) (by kernel_rfl) (by simp) ?_
  refine AllReadyH.cons2 (by simp only [sxN]; first | done | exact rfl) (fun K hK => ?_)
  rw [if_pos (by rfl)]
  go_simp
  refine (bytes_Equal (some ⟨b0, o0 + k, none⟩) A5 8 8 (c - k) c5 (b.drop k) (Sec.rmc s (b.take k) sw) _ (by exact (byt_cut ((HB.out.below (hm.still 0 rfl HK.out)).more hm.only.size)).2) (by exact (hm.sl_ 0 rfl).byt (Nat.le_refl _))).mono ?_
  rw [HSM.out]
  rintro e w2 ⟨rfl, rfl⟩
  go_simp
  refine hK.out _ _ (MemS.of hm.noO) (fun hHeld => ?_)
  clear hK K
  try simp only [Act.put, sxQ]
  iterate 1 (first | (refine takeN 10 hHeld ?_) | (refine takeY 10 ?_ hHeld ?_ ?_; rotate_left 1; (first | (intro w9 h9; (with_reducible show (execOp _ (Oper.mk _ (Op.load _ _) _ _ _ _)).run _ _ = _); first | exact h9.ldA) | focus (intro w9 hSw; go_simp; (try (with_reducible rfl)); done))); try simp only [Act.put, sxQ])
  refine wpAnyH_done (by kernel_rfl) ?_ _
  refine NoPanic.normal ?_
  go_wp2_with (first | go_skip | ((with_reducible show wpList _ _ _ _ _ (World.alloc _ _)); refine wpList_up hm ?_; clear hm; intro n w hn hn2 hk hm hd hd2 ho; (try rw [← hn]); replace hn := Nat.le_of_eq hn.symm) | ((first | ((with_reducible show wpList _ _ _ (Oper.mk _ (Op.box _ _) _ _ _ _ :: _) _ _); (refine bxA hm ?_; clear hm; intro n w hn hz hm ho; (try simp only [List.cons_append, List.nil_append] at hm))) | ((with_reducible show wpList _ _ _ (Oper.mk _ (Op.load _ _) _ _ _ _ :: _) _ _); first | (refine ldA hm ?_) | (refine laA hm ?_)) | ((with_reducible show wpList _ _ _ (Oper.mk _ (Op.store _ _ _) _ _ _ _ :: _) _ _); (refine stA hm ?_; clear hm; intro w hz hm ho)) | ((with_reducible show wpList _ _ _ (Oper.mk _ (Op.alloc _) _ _ _ _ :: _) _ _); (refine alA hm ?_; clear hm; intro n w hn hz hm ho; (try simp only [List.cons_append, List.nil_append] at hm)))); try simp only [Act.put, sxQ]))
  go_at_call 33
  refine (HB32.out _ _ _ _ _ _ _ _ _ (by exact hm.at_ 0 rfl)).mono ?_
  rintro e w2 ⟨rfl, rfl⟩
  go_wp2_with (first | go_skip | ((with_reducible show wpList _ _ _ _ _ (World.alloc _ _)); refine wpList_up hm ?_; clear hm; intro n w hn hn2 hk hm hd hd2 ho; (try rw [← hn]); replace hn := Nat.le_of_eq hn.symm) | ((first | ((with_reducible show wpList _ _ _ (Oper.mk _ (Op.box _ _) _ _ _ _ :: _) _ _); (refine bxA hm ?_; clear hm; intro n w hn hz hm ho; (try simp only [List.cons_append, List.nil_append] at hm))) | ((with_reducible show wpList _ _ _ (Oper.mk _ (Op.load _ _) _ _ _ _ :: _) _ _); first | (refine ldA hm ?_) | (refine laA hm ?_)) | ((with_reducible show wpList _ _ _ (Oper.mk _ (Op.store _ _ _) _ _ _ _ :: _) _ _); (refine stA hm ?_; clear hm; intro w hz hm ho)) | ((with_reducible show wpList _ _ _ (Oper.mk _ (Op.alloc _) _ _ _ _ :: _) _ _); (refine alA hm ?_; clear hm; intro n w hn hz hm ho; (try simp only [List.cons_append, List.nil_append] at hm)))); try simp only [Act.put, sxQ]))
  have hw9 := hm.drew.wo 2
  simp only [List.eraseIdx_cons_zero, List.eraseIdx_cons_succ] at hw9
  refine wp_region_noPanic ?_
  refine wp_region_held_drew (S := MemS _ _ _ _) (by kernel_rfl) (MemS.of hw9) (fun hHeld => ?_)
  refine wpAnyH_fresh (by repeat (first | apply Fresh.a | apply Fresh.b)) ?_
  clear hw9
  replace hm := hm.drew
  iterate 1 (first | (refine takeN 0 hHeld ?_) | (refine takeY 0 ?_ hHeld ?_ ?_; rotate_left 1; (first | (intro w9 h9; (with_reducible show (execOp _ (Oper.mk _ (Op.load _ _) _ _ _ _)).run _ _ = _); first | exact h9.ldA) | focus (intro w9 hSw; go_simp; (try (with_reducible rfl)); done))); try simp only [Act.put, sxQ])
  iterate 2 (first | (refine takeN 2 hHeld ?_) | (refine takeY 2 ?_ hHeld ?_ ?_; rotate_left 1; (first | (intro w9 h9; (with_reducible show (execOp _ (Oper.mk _ (Op.load _ _) _ _ _ _)).run _ _ = _); first | exact h9.ldA) | focus (intro w9 hSw; go_simp; (try (with_reducible rfl)); done))); try simp only [Act.put, sxQ])
  refine wpAnyH_ready (rs := [1]) (by kernel_rfl) (by simp) ?_
  refine AllReadyH.cons2 (by simp only [sxN]; first | done | exact rfl) (fun K hK => ?_)
  rw [if_pos (by rfl)]
  go_simp
  refine (slices_Clone (some ⟨b0, o0, none⟩) k c (b.take k) _ (by exact (byt_cut ((HB.out.below (hm.still 0 rfl HK.out)).more hm.only.size)).1) (by omega)).mono ?_
  rintro e w2 ⟨A5, c5, rfl, hown, hbl⟩
  replace hm := hm.got hbl hown
  clear hown
  go_simp
  refine hK.out _ _ (MemS.of ((hm.wo 2).less)) (fun hHeld => ?_)
  clear hK K
  try simp only [Act.put, sxQ]
  iterate 1 (first | (refine takeN 4 hHeld ?_) | (refine takeY 4 ?_ hHeld ?_ ?_; rotate_left 1; (first | (intro w9 h9; (with_reducible show (execOp _ (Oper.mk _ (Op.load _ _) _ _ _ _)).run _ _ = _); first | exact h9.ldA) | focus (intro w9 hSw; go_simp; (try (with_reducible rfl)); done))); try simp only [Act.put, sxQ])
  refine wpAnyH_ready (rs := [5]) (by kernel_rfl) (by simp) ?_
  refine AllReadyH.cons2 (by simp only [sxN]; first | done | exact rfl) (fun K hK => ?_)
  refine stB hm ?_
  clear hm; intro w hz hm ho
  refine hK.out _ _ (MemS.of ((hm.wo 2).less)) (fun hHeld => ?_)
  clear hK K
  try simp only [Act.put, sxQ]
  iterate 1 (first | (refine takeN 6 hHeld ?_) | (refine takeY 6 ?_ hHeld ?_ ?_; rotate_left 1; (first | (intro w9 h9; (with_reducible show (execOp _ (Oper.mk _ (Op.load _ _) _ _ _ _)).run _ _ = _); first | exact h9.ldA) | focus (intro w9 hSw; go_simp; (try (with_reducible rfl)); done))); try simp only [Act.put, sxQ])
  refine wpAnyH_done (by kernel_rfl) ?_ _
  refine NoPanic.normal ?_
  go_wp2_with fail
  refine bodyPost_ret (results_row_tmp rfl _ _ _ 30 _ (0, 0) _ rfl (by exact hm.at_ 2 rfl) Tryz.underlying30 rfl (by kernel_rfl)) rfl ?_
  exact ExRes.good (hm.still 0 rfl HK.out) HE.out HD.out (by rw [List.length_take, HBL.out]; omega) (hm.freshG 0 1 rfl rfl)
set_option maxRecDepth 100000 in
theorem ex_bad (w0 : World) (g : Nat) (F : Nat → Prop) (s : Sec.S) (H : ChAt' w0 g F s) (hcnt : s.cnt ≤ 1000000) (A : Option Addr) (dn c : Nat) (b : List UInt8) (h : Byt w0 w0.heap.size A dn c b) (hdn : dn ≤ 70000) (sw : Int) (hs : s.shut = false) (he : s.exp = true) (hsw : 0 ≤ sw ∧ sw ≤ 65535) (h16 : Sec.hb s.lvl 16 = true) (h8 : 8 ≤ dn) (hq : b.drop (dn - 8) = Sec.rmc s (b.take (dn - 8)) sw) (h32 : Sec.hb s.lvl 32 = true) (hsh : Sec.show? s true (b.take (dn - 8)) = none) :
    Calls Tryz.prog 55 #[.pointer (some ⟨g, 0, none⟩), rspV A dn c sw] w0 (ExRes w0 s b sw) := by
  have hbl := h.1
  obtain ⟨b0, o0, hA0, hb0⟩ := h.at_ (by omega)
  subst hA0
  obtain ⟨k, hk8⟩ : ∃ k, dn = k + 8 := ⟨dn - 8, by omega⟩
  subst hk8
  rw [Nat.add_sub_cancel] at hq hsh
  have hle := h.2.1
  have j1 : ¬ c = k := by omega
  have j2 : k ≤ c := by omega
  have j3 : (k : Int) ≤ (k : Int) + 8 := by omega
  have j4 : decide ((k : Int) < 0) = false := decide_eq_false (by omega)
  have hu := op_mac (d := b) hs he hsw h16
  rw [hbl, Nat.add_sub_cancel, if_neg (by omega)] at hu
  rw [if_neg (fun e => e hq)] at hu
  have hsm : Oct.same (b.drop k) (Sec.rmc s (b.take k) sw) = true := (Oct.same_iff _ _).2 hq
  rw [if_pos ⟨h32, hsh⟩] at hu
  have hsn : ¬ (sw < 0 ∨ 65535 < sw) := by omega
  have i0 : decide (sw < 0) = false := decide_eq_false (by omega)
  have i1 : decide (65535 < sw) = false := decide_eq_false (by omega)
  have HE := Lib.hid hu
  have HSM := Lib.hid hsm
  have HBL := Lib.hid hbl
  have HSW := Lib.hid hsw
  clear hsm hle hu hbl hsn hq
  have HD : Hid (Sec.openD s b = []) := Lib.hid (by unfold Sec.openD; rw [h16, if_neg (by decide), h32]; rw [HBL.out, Nat.add_sub_cancel]; rw [hsh]; rfl)
  have HSH := Lib.hid hsh
  clear hsh
  have HH := Lib.hid H
  have HB := Lib.hid h
  have HCNT := Lib.hid hcnt
  obtain ⟨a, H⟩ := H
  have HA := Lib.hid H
  have HOK := Lib.hid H.ok
  have HB16 := Lib.hid (has_cells (g := g) H.ok.lvl 16 (.inr (.inr (.inl rfl))) h16)
  have HB32 := Lib.hid (has_cells (g := g) H.ok.lvl 32 (.inr (.inr (.inr rfl))) h32)
  have hm := H.mem
  have hK := H.blk
  have HK := Lib.hid hK
  clear H hs he hK h hcnt h16 h32
  obtain ⟨E, ce, M, cm, R, cr, D, cd, C, cc⟩ := a
  simp only [cch] at hm HK
  unfold rspV
  go_enter Tryz.func55, Tryz.ntmps55
  go_wp2_with (first | go_skip | ((with_reducible show wpList _ _ _ _ _ (World.alloc _ _)); refine wpList_up hm ?_; clear hm; intro n w hn hn2 hk hm hd hd2 ho; (try rw [← hn]); replace hn := Nat.le_of_eq hn.symm) | ((first | ((with_reducible show wpList _ _ _ (Oper.mk _ (Op.box _ _) _ _ _ _ :: _) _ _); (refine bxA hm ?_; clear hm; intro n w hn hz hm ho; (try simp only [List.cons_append, List.nil_append] at hm))) | ((with_reducible show wpList _ _ _ (Oper.mk _ (Op.load _ _) _ _ _ _ :: _) _ _); first | (refine ldA hm ?_) | (refine laA hm ?_)) | ((with_reducible show wpList _ _ _ (Oper.mk _ (Op.store _ _ _) _ _ _ _ :: _) _ _); (refine stA hm ?_; clear hm; intro w hz hm ho)) | ((with_reducible show wpList _ _ _ (Oper.mk _ (Op.alloc _) _ _ _ _ :: _) _ _); (refine alA hm ?_; clear hm; intro n w hn hz hm ho; (try simp only [List.cons_append, List.nil_append] at hm)))); try simp only [Act.put, sxQ]) | (go_at_call 33; refine (HB16.out _ _ _ _ _ _ _ _ _ (by exact hm.at_ 0 rfl)).mono ?_; rintro e w2 ⟨rfl, rfl⟩))
  refine wp_region_noPanic ?_
  refine wp_region_held_drew (S := MemS _ _ _ _) (by kernel_rfl) (MemS.of hm.drew) (fun hHeld => ?_)
  refine wpAnyH_fresh (by repeat (first | apply Fresh.a | apply Fresh.b)) ?_
  replace hm := hm.drew
  iterate 8 (first | (refine takeN 0 hHeld ?_) | (refine takeY 0 ?_ hHeld ?_ ?_; rotate_left 1; (first | (intro w9 h9; (with_reducible show (execOp _ (Oper.mk _ (Op.load _ _) _ _ _ _)).run _ _ = _); first | exact h9.ldA) | focus (intro w9 hSw; go_simp; (try (with_reducible rfl)); done))); try simp only [Act.put, sxQ])
  refine wpAnyH_ready (rs := [8]) (by kernel_rfl) (by simp) ?_
  refine AllReadyH.cons2 (by simp only [sxN]; first | done | exact rfl) (fun K hK => ?_)
  rw [if_pos (by rfl)]
  go_simp
  refine (ch_rmac _ g F s (ChAt'.away HH.out (R := fun _ => False) (Only.of_below (hm.still 0 rfl HK.out)) (fun _ _ e => e)) (some ⟨b0, o0, none⟩) k c (b.take k) (by exact (byt_cut ((HB.out.below (hm.still 0 rfl HK.out)).more hm.only.size)).1) (by omega) sw HSW.out).mono ?_
  intro e w2 hor
  obtain ⟨A5, c5, rfl, hown, hbl⟩ := hor.len (n := 8) (Sec.rmc_length _ _ _ HOK.out)
  clear hor
  replace hm := hm.got hbl hown
  clear hown
  simp only [List.nil_append, List.cons_append] at hm
  go_simp
  refine hK.out _ _ (MemS.of hm.noO) (fun hHeld => ?_)
  clear hK K
  try simp only [Act.put, sxQ]
  refine wpAnyH_ready (rs := [9]) (by kernel_rfl) (by simp) ?_
  refine AllReadyH.cons2 (by simp only [sxN]; first | done | exact rfl) (fun K hK => ?_)
  rw [if_pos (by rfl)]
  go_simp
  refine (bytes_Equal (some ⟨b0, o0 + k, none⟩) A5 8 8 (c - k) c5 (b.drop k) (Sec.rmc s (b.take k) sw) _ (by exact (byt_cut ((HB.out.below (hm.still 0 rfl HK.out)).more hm.only.size)).2) (by exact (hm.sl_ 0 rfl).byt (Nat.le_refl _))).mono ?_
  rw [HSM.out]
  rintro e w2 ⟨rfl, rfl⟩
  go_simp
  refine hK.out _ _ (MemS.of hm.noO) (fun hHeld => ?_)
  clear hK K
  try simp only [Act.put, sxQ]
  iterate 1 (first | (refine takeN 10 hHeld ?_) | (refine takeY 10 ?_ hHeld ?_ ?_; rotate_left 1; (first | (intro w9 h9; (with_reducible show (execOp _ (Oper.mk _ (Op.load _ _) _ _ _ _)).run _ _ = _); first | exact h9.ldA) | focus (intro w9 hSw; go_simp; (try (with_reducible rfl)); done))); try simp only [Act.put, sxQ])
  refine wpAnyH_done (by kernel_rfl) ?_ _
  refine NoPanic.normal ?_
  go_wp2_with (first | go_skip | ((with_reducible show wpList _ _ _ _ _ (World.alloc _ _)); refine wpList_up hm ?_; clear hm; intro n w hn hn2 hk hm hd hd2 ho; (try rw [← hn]); replace hn := Nat.le_of_eq hn.symm) | ((first | ((with_reducible show wpList _ _ _ (Oper.mk _ (Op.box _ _) _ _ _ _ :: _) _ _); (refine bxA hm ?_; clear hm; intro n w hn hz hm ho; (try simp only [List.cons_append, List.nil_append] at hm))) | ((with_reducible show wpList _ _ _ (Oper.mk _ (Op.load _ _) _ _ _ _ :: _) _ _); first | (refine ldA hm ?_) | (refine laA hm ?_)) | ((with_reducible show wpList _ _ _ (Oper.mk _ (Op.store _ _ _) _ _ _ _ :: _) _ _); (refine stA hm ?_; clear hm; intro w hz hm ho)) | ((with_reducible show wpList _ _ _ (Oper.mk _ (Op.alloc _) _ _ _ _ :: _) _ _); (refine alA hm ?_; clear hm; intro n w hn hz hm ho; (try simp only [List.cons_append, List.nil_append] at hm)))); try simp only [Act.put, sxQ]))
  go_at_call 33
  refine (HB32.out _ _ _ _ _ _ _ _ _ (by exact hm.at_ 0 rfl)).mono ?_
  rintro e w2 ⟨rfl, rfl⟩
  go_wp2_with (first | go_skip | ((with_reducible show wpList _ _ _ _ _ (World.alloc _ _)); refine wpList_up hm ?_; clear hm; intro n w hn hn2 hk hm hd hd2 ho; (try rw [← hn]); replace hn := Nat.le_of_eq hn.symm) | ((first | ((with_reducible show wpList _ _ _ (Oper.mk _ (Op.box _ _) _ _ _ _ :: _) _ _); (refine bxA hm ?_; clear hm; intro n w hn hz hm ho; (try simp only [List.cons_append, List.nil_append] at hm))) | ((with_reducible show wpList _ _ _ (Oper.mk _ (Op.load _ _) _ _ _ _ :: _) _ _); first | (refine ldA hm ?_) | (refine laA hm ?_)) | ((with_reducible show wpList _ _ _ (Oper.mk _ (Op.store _ _ _) _ _ _ _ :: _) _ _); (refine stA hm ?_; clear hm; intro w hz hm ho)) | ((with_reducible show wpList _ _ _ (Oper.mk _ (Op.alloc _) _ _ _ _ :: _) _ _); (refine alA hm ?_; clear hm; intro n w hn hz hm ho; (try simp only [List.cons_append, List.nil_append] at hm)))); try simp only [Act.put, sxQ]))
  go_at_call 64
  refine (ch_decrypt _ g F s (ChAt'.away HH.out (R := fun _ => False) (Only.of_below (hm.still 0 rfl HK.out)) (fun _ _ e => e)) HCNT.out (some ⟨b0, o0, none⟩) k c (b.take k) (by exact (byt_cut ((HB.out.below (hm.still 0 rfl HK.out)).more hm.only.size)).1) (by omega) true).mono ?_
  rw [HSH.out]
  rintro e w2 ⟨hbl, ⟨_, rfl⟩ | ⟨d, A7, n7, c7, e2, _⟩⟩
  rotate_left 1
  · cases e2
  replace hm := hm.below hbl
  go_wp2_with (first | go_skip | ((with_reducible show wpList _ _ _ _ _ (World.alloc _ _)); refine wpList_up hm ?_; clear hm; intro n w hn hn2 hk hm hd hd2 ho; (try rw [← hn]); replace hn := Nat.le_of_eq hn.symm) | ((first | ((with_reducible show wpList _ _ _ (Oper.mk _ (Op.box _ _) _ _ _ _ :: _) _ _); (refine bxA hm ?_; clear hm; intro n w hn hz hm ho; (try simp only [List.cons_append, List.nil_append] at hm))) | ((with_reducible show wpList _ _ _ (Oper.mk _ (Op.load _ _) _ _ _ _ :: _) _ _); first | (refine ldA hm ?_) | (refine laA hm ?_)) | ((with_reducible show wpList _ _ _ (Oper.mk _ (Op.store _ _ _) _ _ _ _ :: _) _ _); (refine stA hm ?_; clear hm; intro w hz hm ho)) | ((with_reducible show wpList _ _ _ (Oper.mk _ (Op.alloc _) _ _ _ _ :: _) _ _); (refine alA hm ?_; clear hm; intro n w hn hz hm ho; (try simp only [List.cons_append, List.nil_append] at hm)))); try simp only [Act.put, sxQ]))
  refine bodyPost_ret (results_row_tmp rfl _ _ _ 30 _ (0, 0) _ rfl (by exact hm.at_ 2 rfl) Tryz.underlying30 rfl (by kernel_rfl)) rfl ?_
  exact ExRes.bad (hm.still 0 rfl HK.out) HE.out (by decide)
set_option maxRecDepth 100000 in
theorem ex_enc (w0 : World) (g : Nat) (F : Nat → Prop) (s : Sec.S) (H : ChAt' w0 g F s) (hcnt : s.cnt ≤ 1000000) (A : Option Addr) (dn c : Nat) (b : List UInt8) (h : Byt w0 w0.heap.size A dn c b) (hdn : dn ≤ 70000) (sw : Int) (hs : s.shut = false) (he : s.exp = true) (hsw : 0 ≤ sw ∧ sw ≤ 65535) (h16 : Sec.hb s.lvl 16 = true) (h8 : 8 ≤ dn) (hq : b.drop (dn - 8) = Sec.rmc s (b.take (dn - 8)) sw) (h32 : Sec.hb s.lvl 32 = true) (d : List UInt8) (hsh : Sec.show? s true (b.take (dn - 8)) = some d) :
    Calls Tryz.prog 55 #[.pointer (some ⟨g, 0, none⟩), rspV A dn c sw] w0 (ExRes w0 s b sw) := by
  have hbl := h.1
  obtain ⟨b0, o0, hA0, hb0⟩ := h.at_ (by omega)
  subst hA0
  obtain ⟨k, hk8⟩ : ∃ k, dn = k + 8 := ⟨dn - 8, by omega⟩
  subst hk8
  rw [Nat.add_sub_cancel] at hq hsh
  have hle := h.2.1
  have j1 : ¬ c = k := by omega
  have j2 : k ≤ c := by omega
  have j3 : (k : Int) ≤ (k : Int) + 8 := by omega
  have j4 : decide ((k : Int) < 0) = false := decide_eq_false (by omega)
  have hu := op_mac (d := b) hs he hsw h16
  rw [hbl, Nat.add_sub_cancel, if_neg (by omega)] at hu
  rw [if_neg (fun e => e hq)] at hu
  have hsm : Oct.same (b.drop k) (Sec.rmc s (b.take k) sw) = true := (Oct.same_iff _ _).2 hq
  rw [if_neg (by rw [hsh]; exact fun e => by cases e.2)] at hu
  have hsn : ¬ (sw < 0 ∨ 65535 < sw) := by omega
  have i0 : decide (sw < 0) = false := decide_eq_false (by omega)
  have i1 : decide (65535 < sw) = false := decide_eq_false (by omega)
  have HE := Lib.hid hu
  have HSM := Lib.hid hsm
  have HBL := Lib.hid hbl
  have HSW := Lib.hid hsw
  clear hsm hle hu hbl hsn hq
  have HD : Hid (Sec.openD s b = d) := Lib.hid (by unfold Sec.openD; rw [h16, if_neg (by decide), h32]; rw [HBL.out, Nat.add_sub_cancel]; rw [hsh]; rfl)
  have HSH := Lib.hid hsh
  clear hsh
  have HH := Lib.hid H
  have HB := Lib.hid h
  have HCNT := Lib.hid hcnt
  obtain ⟨a, H⟩ := H
  have HA := Lib.hid H
  have HOK := Lib.hid H.ok
  have HB16 := Lib.hid (has_cells (g := g) H.ok.lvl 16 (.inr (.inr (.inl rfl))) h16)
  have HB32 := Lib.hid (has_cells (g := g) H.ok.lvl 32 (.inr (.inr (.inr rfl))) h32)
  have hm := H.mem
  have hK := H.blk
  have HK := Lib.hid hK
  clear H hs he hK h hcnt h16 h32
  obtain ⟨E, ce, M, cm, R, cr, D, cd, C, cc⟩ := a
  simp only [cch] at hm HK
  unfold rspV
  go_enter Tryz.func55, Tryz.ntmps55
  go_wp2_with (first | go_skip | ((with_reducible show wpList _ _ _ _ _ (World.alloc _ _)); refine wpList_up hm ?_; clear hm; intro n w hn hn2 hk hm hd hd2 ho; (try rw [← hn]); replace hn := Nat.le_of_eq hn.symm) | ((first | ((with_reducible show wpList _ _ _ (Oper.mk _ (Op.box _ _) _ _ _ _ :: _) _ _); (refine bxA hm ?_; clear hm; intro n w hn hz hm ho; (try simp only [List.cons_append, List.nil_append] at hm))) | ((with_reducible show wpList _ _ _ (Oper.mk _ (Op.load _ _) _ _ _ _ :: _) _ _); first | (refine ldA hm ?_) | (refine laA hm ?_)) | ((with_reducible show wpList _ _ _ (Oper.mk _ (Op.store _ _ _) _ _ _ _ :: _) _ _); (refine stA hm ?_; clear hm; intro w hz hm ho)) | ((with_reducible show wpList _ _ _ (Oper.mk _ (Op.alloc _) _ _ _ _ :: _) _ _); (refine alA hm ?_; clear hm; intro n w hn hz hm ho; (try simp only [List.cons_append, List.nil_append] at hm)))); try simp only [Act.put, sxQ]) | (go_at_call 33; refine (HB16.out _ _ _ _ _ _ _ _ _ (by exact hm.at_ 0 rfl)).mono ?_; rintro e w2 ⟨rfl, rfl⟩))
  refine wp_region_noPanic ?_
  refine wp_region_held_drew (S := MemS _ _ _ _) (by kernel_rfl) (MemS.of hm.drew) (fun hHeld => ?_)
  refine wpAnyH_fresh (by repeat (first | apply Fresh.a | apply Fresh.b)) ?_
  replace hm := hm.drew
  iterate 8 (first | (refine takeN 0 hHeld ?_) | (refine takeY 0 ?_ hHeld ?_ ?_; rotate_left 1; (first | (intro w9 h9; (with_reducible show (execOp _ (Oper.mk _ (Op.load _ _) _ _ _ _)).run _ _ = _); first | exact h9.ldA) | focus (intro w9 hSw; go_simp; (try (with_reducible rfl)); done))); try simp only [Act.put, sxQ])
  refine wpAnyH_ready (rs := [8]) (by kernel_rfl) (by simp) ?_
  refine AllReadyH.cons2 (by simp only [sxN]; first | done | exact rfl) (fun K hK => ?_)
  rw [if_pos (by rfl)]
  go_simp
  refine (ch_rmac _ g F s (ChAt'.away HH.out (R := fun _ => False) (Only.of_below (hm.still 0 rfl HK.out)) (fun _ _ e => e)) (some ⟨b0, o0, none⟩) k c (b.take k) (by exact (byt_cut ((HB.out.below (hm.still 0 rfl HK.out)).more hm.only.size)).1) (by omega) sw HSW.out).mono ?_
  intro e w2 hor
  obtain ⟨A5, c5, rfl, hown, hbl⟩ := hor.len (n := 8) (Sec.rmc_length _ _ _ HOK.out)
  clear hor
  replace hm := hm.got hbl hown
  clear hown
  simp only [List.nil_append, List.cons_append] at hm
  go_simp
  refine hK.out _ _ (MemS.of hm.noO) (fun hHeld => ?_)
  clear hK K
  try simp only [Act.put, sxQ]
  refine wpAnyH_ready (rs := [9]) (by kernel_rfl) (by simp) ?_
  refine AllReadyH.cons2 (by simp only [sxN]; first | done | exact rfl) (fun K hK => ?_)
  rw [if_pos (by rfl)]
  go_simp
  refine (bytes_Equal (some ⟨b0, o0 + k, none⟩) A5 8 8 (c - k) c5 (b.drop k) (Sec.rmc s (b.take k) sw) _ (by exact (byt_cut ((HB.out.below (hm.still 0 rfl HK.out)).more hm.only.size)).2) (by exact (hm.sl_ 0 rfl).byt (Nat.le_refl _))).mono ?_
  rw [HSM.out]
  rintro e w2 ⟨rfl, rfl⟩
  go_simp
  refine hK.out _ _ (MemS.of hm.noO) (fun hHeld => ?_)
  clear hK K
  try simp only [Act.put, sxQ]
  iterate 1 (first | (refine takeN 10 hHeld ?_) | (refine takeY 10 ?_ hHeld ?_ ?_; rotate_left 1; (first | (intro w9 h9; (with_reducible show (execOp _ (Oper.mk _ (Op.load _ _) _ _ _ _)).run _ _ = _); first | exact h9.ldA) | focus (intro w9 hSw; go_simp; (try (with_reducible rfl)); done))); try simp only [Act.put, sxQ])
  refine wpAnyH_done (by kernel_rfl) ?_ _
  refine NoPanic.normal ?_
  go_wp2_with (first | go_skip | ((with_reducible show wpList _ _ _ _ _ (World.alloc _ _)); refine wpList_up hm ?_; clear hm; intro n w hn hn2 hk hm hd hd2 ho; (try rw [← hn]); replace hn := Nat.le_of_eq hn.symm) | ((first | ((with_reducible show wpList _ _ _ (Oper.mk _ (Op.box _ _) _ _ _ _ :: _) _ _); (refine bxA hm ?_; clear hm; intro n w hn hz hm ho; (try simp only [List.cons_append, List.nil_append] at hm))) | ((with_reducible show wpList _ _ _ (Oper.mk _ (Op.load _ _) _ _ _ _ :: _) _ _); first | (refine ldA hm ?_) | (refine laA hm ?_)) | ((with_reducible show wpList _ _ _ (Oper.mk _ (Op.store _ _ _) _ _ _ _ :: _) _ _); (refine stA hm ?_; clear hm; intro w hz hm ho)) | ((with_reducible show wpList _ _ _ (Oper.mk _ (Op.alloc _) _ _ _ _ :: _) _ _); (refine alA hm ?_; clear hm; intro n w hn hz hm ho; (try simp only [List.cons_append, List.nil_append] at hm)))); try simp only [Act.put, sxQ]))
  go_at_call 33
  refine (HB32.out _ _ _ _ _ _ _ _ _ (by exact hm.at_ 0 rfl)).mono ?_
  rintro e w2 ⟨rfl, rfl⟩
  go_wp2_with (first | go_skip | ((with_reducible show wpList _ _ _ _ _ (World.alloc _ _)); refine wpList_up hm ?_; clear hm; intro n w hn hn2 hk hm hd hd2 ho; (try rw [← hn]); replace hn := Nat.le_of_eq hn.symm) | ((first | ((with_reducible show wpList _ _ _ (Oper.mk _ (Op.box _ _) _ _ _ _ :: _) _ _); (refine bxA hm ?_; clear hm; intro n w hn hz hm ho; (try simp only [List.cons_append, List.nil_append] at hm))) | ((with_reducible show wpList _ _ _ (Oper.mk _ (Op.load _ _) _ _ _ _ :: _) _ _); first | (refine ldA hm ?_) | (refine laA hm ?_)) | ((with_reducible show wpList _ _ _ (Oper.mk _ (Op.store _ _ _) _ _ _ _ :: _) _ _); (refine stA hm ?_; clear hm; intro w hz hm ho)) | ((with_reducible show wpList _ _ _ (Oper.mk _ (Op.alloc _) _ _ _ _ :: _) _ _); (refine alA hm ?_; clear hm; intro n w hn hz hm ho; (try simp only [List.cons_append, List.nil_append] at hm)))); try simp only [Act.put, sxQ]))
  go_at_call 64
  refine (ch_decrypt _ g F s (ChAt'.away HH.out (R := fun _ => False) (Only.of_below (hm.still 0 rfl HK.out)) (fun _ _ e => e)) HCNT.out (some ⟨b0, o0, none⟩) k c (b.take k) (by exact (byt_cut ((HB.out.below (hm.still 0 rfl HK.out)).more hm.only.size)).1) (by omega) true).mono ?_
  rw [HSH.out]
  rintro e w2 ⟨hbl, ⟨e2, _⟩ | ⟨d2, A7, n7, c7, e2, hn7, rfl, hown⟩⟩
  · cases e2
  injection e2 with e2
  subst e2
  replace hm := hm.got hbl hown
  clear hown
  simp only [List.nil_append, List.cons_append] at hm
  go_wp2_with (first | go_skip | ((with_reducible show wpList _ _ _ _ _ (World.alloc _ _)); refine wpList_up hm ?_; clear hm; intro n w hn hn2 hk hm hd hd2 ho; (try rw [← hn]); replace hn := Nat.le_of_eq hn.symm) | ((first | ((with_reducible show wpList _ _ _ (Oper.mk _ (Op.box _ _) _ _ _ _ :: _) _ _); (refine bxA hm ?_; clear hm; intro n w hn hz hm ho; (try simp only [List.cons_append, List.nil_append] at hm))) | ((with_reducible show wpList _ _ _ (Oper.mk _ (Op.load _ _) _ _ _ _ :: _) _ _); first | (refine ldA hm ?_) | (refine laA hm ?_)) | ((with_reducible show wpList _ _ _ (Oper.mk _ (Op.store _ _ _) _ _ _ _ :: _) _ _); (refine stA hm ?_; clear hm; intro w hz hm ho)) | ((with_reducible show wpList _ _ _ (Oper.mk _ (Op.alloc _) _ _ _ _ :: _) _ _); (refine alA hm ?_; clear hm; intro n w hn hz hm ho; (try simp only [List.cons_append, List.nil_append] at hm)))); try simp only [Act.put, sxQ]))
  refine bodyPost_ret (results_row_tmp rfl _ _ _ 30 _ (0, 0) _ rfl (by exact hm.at_ 2 rfl) Tryz.underlying30 rfl (by kernel_rfl)) rfl ?_
  exact ExRes.good (hm.still 0 rfl HK.out) HE.out HD.out hn7 (hm.freshG 0 1 rfl rfl)
end Go.Proofs.YtibaibdgpnkdnaaGreatDoor
