/-
  The walk of Seal.
-/
import Derived.Test.YtibaibdgpnkdnaaGreatDoorZ1
import Derived.Test.YtibaibdgpnkdnaaGreatDoorSecA0
namespace Go.Proofs.YtibaibdgpnkdnaaGreatDoor
set_option maxRecDepth 100000
set_option linter.unusedSimpArgs false
set_option linter.unusedVariables false
open Go.RowKit
set_option maxHeartbeats 8000000
set_option maxRecDepth 100000 in
theorem seal_shut (w0 : World) (g : Nat) (F : Nat → Prop) (s : Sec.S) (H : ChAt' w0 g F s) (hcnt : s.cnt ≤ 1000000) (A : Option Addr) (dn c : Nat) (b : List UInt8) (h : Byt w0 w0.heap.size A dn c b) (hfar : ∀ a, A = some a → 0 < dn → ¬ F a.block) (hdn : dn ≤ 70000) (sw : Int) (hs : s.shut = true) :
    Calls Tryz.prog 21 #[.pointer (some ⟨g, 0, none⟩), rspV A dn c sw] w0 (SaRes w0 g F s b sw) := by
  have hbl := h.1
  subst hbl
  have HE := Lib.hid (show Sec.sealE s b sw = 14 by unfold Sec.sealE; rw [if_pos (.inl hs)])
  obtain ⟨b16, h16⟩ : ∃ v, Sec.hb s.lvl 16 = v := ⟨_, rfl⟩
  have HH := Lib.hid H
  have HB := Lib.hid h
  have HCNT := Lib.hid hcnt
  obtain ⟨a, H⟩ := H
  have HFR := Lib.hid hfar
  have HA := Lib.hid H
  have HS := Lib.hid hs
  have HOK := Lib.hid H.ok
  have HB16 := Lib.hid (has_cells (g := g) H.ok.lvl 16 (.inr (.inr (.inl rfl))) h16)
  obtain ⟨AC, hC⟩ := H.chainAt
  have hm := H.mem
  have hK := H.blk
  rw [hs] at hm hK
  have HK := Lib.hid hK
  clear H hs hK h hfar h16 hcnt
  obtain ⟨E, ce, M, cm, R, cr, D, cd, C, cc⟩ := a
  have hC : C = some AC := hC
  subst hC
  simp only [cch] at hm HK
  unfold rspV
  go_enter Tryz.func21, Tryz.ntmps21
  go_wp2_with (first | go_skip | ((with_reducible show wpList _ _ _ _ _ (World.alloc _ _)); refine wpList_up hm ?_; clear hm; intro n w hn hn2 hk hm hd hd2 ho; (try rw [← hn]); replace hn := Nat.le_of_eq hn.symm) | ((first | ((with_reducible show wpList _ _ _ (Oper.mk _ (Op.box _ _) _ _ _ _ :: _) _ _); (refine bxA hm ?_; clear hm; intro n w hn hz hm ho; (try simp only [List.cons_append, List.nil_append] at hm))) | ((with_reducible show wpList _ _ _ (Oper.mk _ (Op.load _ _) _ _ _ _ :: _) _ _); first | (refine ldA hm ?_) | (refine laA hm ?_)) | ((with_reducible show wpList _ _ _ (Oper.mk _ (Op.store _ _ _) _ _ _ _ :: _) _ _); (refine stA hm ?_; clear hm; intro w hz hm ho)) | ((with_reducible show wpList _ _ _ (Oper.mk _ (Op.alloc _) _ _ _ _ :: _) _ _); (refine alA hm ?_; clear hm; intro n w hn hz hm ho; (try simp only [List.cons_append, List.nil_append] at hm)))); try simp only [Act.put, sxQ]) | (go_at_call 30; refine (ch_made (by exact hm.at_ 0 rfl)).mono ?_; rintro e w2 ⟨rfl, rfl⟩) | (go_at_call 33; refine (HB16.out _ _ _ _ _ _ _ _ _ (by exact hm.at_ 0 rfl)).mono ?_; rintro e w2 ⟨rfl, rfl⟩))
  refine bodyPost_ret (results_row_tmp rfl _ _ _ 30 _ (0, 0) _ rfl (by exact hm.at_ 2 rfl) Tryz.underlying30 rfl (by kernel_rfl)) rfl ?_
  exact SaRes.bad HH.out HE.out (by decide) (hm.still 0 rfl HK.out)
set_option maxRecDepth 100000 in
theorem seal_noexp (w0 : World) (g : Nat) (F : Nat → Prop) (s : Sec.S) (H : ChAt' w0 g F s) (hcnt : s.cnt ≤ 1000000) (A : Option Addr) (dn c : Nat) (b : List UInt8) (h : Byt w0 w0.heap.size A dn c b) (hfar : ∀ a, A = some a → 0 < dn → ¬ F a.block) (hdn : dn ≤ 70000) (sw : Int) (hs : s.shut = false) (he : s.exp = false) :
    Calls Tryz.prog 21 #[.pointer (some ⟨g, 0, none⟩), rspV A dn c sw] w0 (SaRes w0 g F s b sw) := by
  have hbl := h.1
  subst hbl
  have HE := Lib.hid (show Sec.sealE s b sw = 14 by unfold Sec.sealE; rw [if_pos (.inr he)])
  obtain ⟨b16, h16⟩ : ∃ v, Sec.hb s.lvl 16 = v := ⟨_, rfl⟩
  have HH := Lib.hid H
  have HB := Lib.hid h
  have HCNT := Lib.hid hcnt
  obtain ⟨a, H⟩ := H
  have HFR := Lib.hid hfar
  have HA := Lib.hid H
  have HS := Lib.hid hs
  have HOK := Lib.hid H.ok
  have HB16 := Lib.hid (has_cells (g := g) H.ok.lvl 16 (.inr (.inr (.inl rfl))) h16)
  obtain ⟨AC, hC⟩ := H.chainAt
  have hm := H.mem
  have hK := H.blk
  rw [hs, he] at hm hK
  have HK := Lib.hid hK
  clear H hs he hK h hfar h16 hcnt
  obtain ⟨E, ce, M, cm, R, cr, D, cd, C, cc⟩ := a
  have hC : C = some AC := hC
  subst hC
  simp only [cch] at hm HK
  unfold rspV
  go_enter Tryz.func21, Tryz.ntmps21
  go_wp2_with (first | go_skip | ((with_reducible show wpList _ _ _ _ _ (World.alloc _ _)); refine wpList_up hm ?_; clear hm; intro n w hn hn2 hk hm hd hd2 ho; (try rw [← hn]); replace hn := Nat.le_of_eq hn.symm) | ((first | ((with_reducible show wpList _ _ _ (Oper.mk _ (Op.box _ _) _ _ _ _ :: _) _ _); (refine bxA hm ?_; clear hm; intro n w hn hz hm ho; (try simp only [List.cons_append, List.nil_append] at hm))) | ((with_reducible show wpList _ _ _ (Oper.mk _ (Op.load _ _) _ _ _ _ :: _) _ _); first | (refine ldA hm ?_) | (refine laA hm ?_)) | ((with_reducible show wpList _ _ _ (Oper.mk _ (Op.store _ _ _) _ _ _ _ :: _) _ _); (refine stA hm ?_; clear hm; intro w hz hm ho)) | ((with_reducible show wpList _ _ _ (Oper.mk _ (Op.alloc _) _ _ _ _ :: _) _ _); (refine alA hm ?_; clear hm; intro n w hn hz hm ho; (try simp only [List.cons_append, List.nil_append] at hm)))); try simp only [Act.put, sxQ]) | (go_at_call 30; refine (ch_made (by exact hm.at_ 0 rfl)).mono ?_; rintro e w2 ⟨rfl, rfl⟩) | (go_at_call 33; refine (HB16.out _ _ _ _ _ _ _ _ _ (by exact hm.at_ 0 rfl)).mono ?_; rintro e w2 ⟨rfl, rfl⟩))
  refine bodyPost_ret (results_row_tmp rfl _ _ _ 30 _ (0, 0) _ rfl (by exact hm.at_ 2 rfl) Tryz.underlying30 rfl (by kernel_rfl)) rfl ?_
  exact SaRes.bad HH.out HE.out (by decide) (hm.still 0 rfl HK.out)
set_option maxRecDepth 100000 in
theorem seal_arg (w0 : World) (g : Nat) (F : Nat → Prop) (s : Sec.S) (H : ChAt' w0 g F s) (hcnt : s.cnt ≤ 1000000) (A : Option Addr) (dn c : Nat) (b : List UInt8) (h : Byt w0 w0.heap.size A dn c b) (hfar : ∀ a, A = some a → 0 < dn → ¬ F a.block) (hdn : dn ≤ 70000) (sw : Int) (hs : s.shut = false) (he : s.exp = true) (hsw : sw < 0 ∨ 65535 < sw) :
    Calls Tryz.prog 21 #[.pointer (some ⟨g, 0, none⟩), rspV A dn c sw] w0 (SaRes w0 g F s b sw) := by
  have hbl := h.1
  subst hbl
  have hno : ¬ (s.shut = true ∨ s.exp = false) := by rw [hs, he]; rintro (e | e) <;> cases e
  have HE := Lib.hid (show Sec.sealE s b sw = 1 by unfold Sec.sealE; rw [if_neg hno, if_pos hsw])
  obtain ⟨b16, h16⟩ : ∃ v, Sec.hb s.lvl 16 = v := ⟨_, rfl⟩
  have hcase : decide (sw < 0) = true ∨ (decide (sw < 0) = false ∧ decide (65535 < sw) = true) := by
    by_cases h0 : sw < 0
    · exact .inl (decide_eq_true h0)
    · exact .inr ⟨decide_eq_false h0, decide_eq_true (hsw.elim (fun e => absurd e h0) id)⟩
  clear hno hsw
  have HH := Lib.hid H
  have HB := Lib.hid h
  have HCNT := Lib.hid hcnt
  obtain ⟨a, H⟩ := H
  have HFR := Lib.hid hfar
  have HA := Lib.hid H
  have HS := Lib.hid hs
  have HOK := Lib.hid H.ok
  have HB16 := Lib.hid (has_cells (g := g) H.ok.lvl 16 (.inr (.inr (.inl rfl))) h16)
  obtain ⟨AC, hC⟩ := H.chainAt
  have hm := H.mem
  have hK := H.blk
  rw [hs, he] at hm hK
  have HK := Lib.hid hK
  clear H hs he hK h hfar h16 hcnt
  obtain ⟨E, ce, M, cm, R, cr, D, cd, C, cc⟩ := a
  have hC : C = some AC := hC
  subst hC
  simp only [cch] at hm HK
  unfold rspV
  rcases hcase with i0 | ⟨i0, i1⟩
  all_goals
    go_enter Tryz.func21, Tryz.ntmps21
    go_wp2_with (first | go_skip | ((with_reducible show wpList _ _ _ _ _ (World.alloc _ _)); refine wpList_up hm ?_; clear hm; intro n w hn hn2 hk hm hd hd2 ho; (try rw [← hn]); replace hn := Nat.le_of_eq hn.symm) | ((first | ((with_reducible show wpList _ _ _ (Oper.mk _ (Op.box _ _) _ _ _ _ :: _) _ _); (refine bxA hm ?_; clear hm; intro n w hn hz hm ho; (try simp only [List.cons_append, List.nil_append] at hm))) | ((with_reducible show wpList _ _ _ (Oper.mk _ (Op.load _ _) _ _ _ _ :: _) _ _); first | (refine ldA hm ?_) | (refine laA hm ?_)) | ((with_reducible show wpList _ _ _ (Oper.mk _ (Op.store _ _ _) _ _ _ _ :: _) _ _); (refine stA hm ?_; clear hm; intro w hz hm ho)) | ((with_reducible show wpList _ _ _ (Oper.mk _ (Op.alloc _) _ _ _ _ :: _) _ _); (refine alA hm ?_; clear hm; intro n w hn hz hm ho; (try simp only [List.cons_append, List.nil_append] at hm)))); try simp only [Act.put, sxQ]) | (go_at_call 30; refine (ch_made (by exact hm.at_ 0 rfl)).mono ?_; rintro e w2 ⟨rfl, rfl⟩) | (go_at_call 33; refine (HB16.out _ _ _ _ _ _ _ _ _ (by exact hm.at_ 0 rfl)).mono ?_; rintro e w2 ⟨rfl, rfl⟩))
    refine bodyPost_ret (results_row_tmp rfl _ _ _ 30 _ (0, 0) _ rfl (by exact hm.at_ 2 rfl) Tryz.underlying30 rfl (by kernel_rfl)) rfl ?_
    exact SaRes.bad HH.out HE.out (by decide) (hm.still 0 rfl HK.out)
set_option maxRecDepth 100000 in
theorem seal_long1 (w0 : World) (g : Nat) (F : Nat → Prop) (s : Sec.S) (H : ChAt' w0 g F s) (hcnt : s.cnt ≤ 1000000) (A : Option Addr) (dn c : Nat) (b : List UInt8) (h : Byt w0 w0.heap.size A dn c b) (hfar : ∀ a, A = some a → 0 < dn → ¬ F a.block) (hdn : dn ≤ 70000) (sw : Int) (hs : s.shut = false) (he : s.exp = true) (hsw : 0 ≤ sw ∧ sw ≤ 65535) (hl : 65536 < dn) :
    Calls Tryz.prog 21 #[.pointer (some ⟨g, 0, none⟩), rspV A dn c sw] w0 (SaRes w0 g F s b sw) := by
  have hbl := h.1
  subst hbl
  have hno : ¬ (s.shut = true ∨ s.exp = false) := by rw [hs, he]; rintro (e | e) <;> cases e
  have hsn : ¬ (sw < 0 ∨ 65535 < sw) := by omega
  have i0 : decide (sw < 0) = false := decide_eq_false (by omega)
  have i1 : decide (65535 < sw) = false := decide_eq_false (by omega)
  have HE := Lib.hid (show Sec.sealE s b sw = 3 by unfold Sec.sealE; rw [if_neg hno, if_neg hsn, if_pos (.inl hl)])
  obtain ⟨b16, h16⟩ : ∃ v, Sec.hb s.lvl 16 = v := ⟨_, rfl⟩
  have i2 : decide ((65536 : Int) < (b.length : Int)) = true := decide_eq_true (by omega)
  clear hno hsn hl
  have HH := Lib.hid H
  have HB := Lib.hid h
  have HCNT := Lib.hid hcnt
  obtain ⟨a, H⟩ := H
  have HFR := Lib.hid hfar
  have HA := Lib.hid H
  have HS := Lib.hid hs
  have HOK := Lib.hid H.ok
  have HB16 := Lib.hid (has_cells (g := g) H.ok.lvl 16 (.inr (.inr (.inl rfl))) h16)
  obtain ⟨AC, hC⟩ := H.chainAt
  have hm := H.mem
  have hK := H.blk
  rw [hs, he] at hm hK
  have HK := Lib.hid hK
  clear H hs he hK h hfar h16 hcnt
  obtain ⟨E, ce, M, cm, R, cr, D, cd, C, cc⟩ := a
  have hC : C = some AC := hC
  subst hC
  simp only [cch] at hm HK
  unfold rspV
  go_enter Tryz.func21, Tryz.ntmps21
  go_wp2_with (first | go_skip | ((with_reducible show wpList _ _ _ _ _ (World.alloc _ _)); refine wpList_up hm ?_; clear hm; intro n w hn hn2 hk hm hd hd2 ho; (try rw [← hn]); replace hn := Nat.le_of_eq hn.symm) | ((first | ((with_reducible show wpList _ _ _ (Oper.mk _ (Op.box _ _) _ _ _ _ :: _) _ _); (refine bxA hm ?_; clear hm; intro n w hn hz hm ho; (try simp only [List.cons_append, List.nil_append] at hm))) | ((with_reducible show wpList _ _ _ (Oper.mk _ (Op.load _ _) _ _ _ _ :: _) _ _); first | (refine ldA hm ?_) | (refine laA hm ?_)) | ((with_reducible show wpList _ _ _ (Oper.mk _ (Op.store _ _ _) _ _ _ _ :: _) _ _); (refine stA hm ?_; clear hm; intro w hz hm ho)) | ((with_reducible show wpList _ _ _ (Oper.mk _ (Op.alloc _) _ _ _ _ :: _) _ _); (refine alA hm ?_; clear hm; intro n w hn hz hm ho; (try simp only [List.cons_append, List.nil_append] at hm)))); try simp only [Act.put, sxQ]) | (go_at_call 30; refine (ch_made (by exact hm.at_ 0 rfl)).mono ?_; rintro e w2 ⟨rfl, rfl⟩) | (go_at_call 33; refine (HB16.out _ _ _ _ _ _ _ _ _ (by exact hm.at_ 0 rfl)).mono ?_; rintro e w2 ⟨rfl, rfl⟩))
  refine bodyPost_ret (results_row_tmp rfl _ _ _ 30 _ (0, 0) _ rfl (by exact hm.at_ 2 rfl) Tryz.underlying30 rfl (by kernel_rfl)) rfl ?_
  exact SaRes.bad HH.out HE.out (by decide) (hm.still 0 rfl HK.out)
set_option maxRecDepth 100000 in
theorem seal_long2 (w0 : World) (g : Nat) (F : Nat → Prop) (s : Sec.S) (H : ChAt' w0 g F s) (hcnt : s.cnt ≤ 1000000) (A : Option Addr) (dn c : Nat) (b : List UInt8) (h : Byt w0 w0.heap.size A dn c b) (hfar : ∀ a, A = some a → 0 < dn → ¬ F a.block) (hdn : dn ≤ 70000) (sw : Int) (hs : s.shut = false) (he : s.exp = true) (hsw : 0 ≤ sw ∧ sw ≤ 65535) (hl : dn ≤ 65536) (h16 : Sec.hb s.lvl 16 = true) (hz : 65536 < Sec.sz dn (Sec.hb s.lvl 32) + 8) :
    Calls Tryz.prog 21 #[.pointer (some ⟨g, 0, none⟩), rspV A dn c sw] w0 (SaRes w0 g F s b sw) := by
  have hbl := h.1
  subst hbl
  have hno : ¬ (s.shut = true ∨ s.exp = false) := by rw [hs, he]; rintro (e | e) <;> cases e
  have hsn : ¬ (sw < 0 ∨ 65535 < sw) := by omega
  have i0 : decide (sw < 0) = false := decide_eq_false (by omega)
  have i1 : decide (65535 < sw) = false := decide_eq_false (by omega)
  have HE := Lib.hid (show Sec.sealE s b sw = 3 by unfold Sec.sealE; rw [if_neg hno, if_neg hsn, if_pos (.inr ⟨h16, hz⟩)])
  obtain ⟨b32, h32⟩ : ∃ v, Sec.hb s.lvl 32 = v := ⟨_, rfl⟩
  rw [h32] at hz
  have hzc := fun u => secure_size b.length b32 (by omega) u
  have HZC := Lib.hid hzc
  clear hzc
  have i2 : decide ((65536 : Int) < (b.length : Int)) = false := decide_eq_false (by omega)
  have i3 : decide ((65536 : Int) < ((Sec.sz b.length b32 + 8 : Nat) : Int)) = true := decide_eq_true (by omega)
  clear hno hsn
  generalize ((Sec.sz b.length b32 + 8 : Nat) : Int) = zi at *
  clear hz
  have HH := Lib.hid H
  have HB := Lib.hid h
  have HCNT := Lib.hid hcnt
  obtain ⟨a, H⟩ := H
  have HFR := Lib.hid hfar
  have HA := Lib.hid H
  have HS := Lib.hid hs
  have HOK := Lib.hid H.ok
  have HB16 := Lib.hid (has_cells (g := g) H.ok.lvl 16 (.inr (.inr (.inl rfl))) h16)
  have HB32 := Lib.hid (has_cells (g := g) H.ok.lvl 32 (.inr (.inr (.inr rfl))) (v := b32) h32)
  clear h32
  obtain ⟨AC, hC⟩ := H.chainAt
  have hm := H.mem
  have hK := H.blk
  rw [hs, he] at hm hK
  have HK := Lib.hid hK
  clear H hs he hK h hfar h16 hcnt
  obtain ⟨E, ce, M, cm, R, cr, D, cd, C, cc⟩ := a
  have hC : C = some AC := hC
  subst hC
  simp only [cch] at hm HK
  unfold rspV
  go_enter Tryz.func21, Tryz.ntmps21
  go_wp2_with (first | go_skip | ((with_reducible show wpList _ _ _ _ _ (World.alloc _ _)); refine wpList_up hm ?_; clear hm; intro n w hn hn2 hk hm hd hd2 ho; (try rw [← hn]); replace hn := Nat.le_of_eq hn.symm) | ((first | ((with_reducible show wpList _ _ _ (Oper.mk _ (Op.box _ _) _ _ _ _ :: _) _ _); (refine bxA hm ?_; clear hm; intro n w hn hz hm ho; (try simp only [List.cons_append, List.nil_append] at hm))) | ((with_reducible show wpList _ _ _ (Oper.mk _ (Op.load _ _) _ _ _ _ :: _) _ _); first | (refine ldA hm ?_) | (refine laA hm ?_)) | ((with_reducible show wpList _ _ _ (Oper.mk _ (Op.store _ _ _) _ _ _ _ :: _) _ _); (refine stA hm ?_; clear hm; intro w hz hm ho)) | ((with_reducible show wpList _ _ _ (Oper.mk _ (Op.alloc _) _ _ _ _ :: _) _ _); (refine alA hm ?_; clear hm; intro n w hn hz hm ho; (try simp only [List.cons_append, List.nil_append] at hm)))); try simp only [Act.put, sxQ]) | (go_at_call 30; refine (ch_made (by exact hm.at_ 0 rfl)).mono ?_; rintro e w2 ⟨rfl, rfl⟩) | (go_at_call 33; refine (HB16.out _ _ _ _ _ _ _ _ _ (by exact hm.at_ 0 rfl)).mono ?_; rintro e w2 ⟨rfl, rfl⟩))
  refine wp_region_noPanic ?_
  refine wp_region_held_drew (S := MemS _ _ _ _) (by kernel_rfl) (MemS.of hm.drew) (fun hHeld => ?_)
  refine wpAnyH_fresh (by repeat (first | apply Fresh.a | apply Fresh.b)) ?_
  replace hm := hm.drew
  iterate 6 (first | (refine takeN 0 hHeld ?_) | (refine takeY 0 ?_ hHeld ?_ ?_; rotate_left 1; (first | (intro w9 h9; (with_reducible show (execOp _ (Oper.mk _ (Op.load _ _) _ _ _ _)).run _ _ = _); first | exact h9.ldA) | focus (intro w9 hSw; go_simp; (try (with_reducible rfl)); done))); try simp only [Act.put, sxQ])
  refine wpAnyH_ready (rs := [6]) (by kernel_rfl) (by simp) ?_
  refine AllReadyH.cons2 (by simp only [sxN]; first | done | exact rfl) (fun K hK => ?_)
  rw [if_pos (by rfl)]
  go_simp
  refine (HB32.out _ _ _ _ _ _ _ _ _ (by exact hm.at_ 0 rfl)).mono ?_
  rintro e w9 ⟨rfl, rfl⟩
  go_simp
  refine hK.out _ _ (MemS.of hm) (fun hHeld => ?_)
  clear hK K
  try simp only [Act.put, sxQ]
  refine wpAnyH_ready (rs := [7]) (by kernel_rfl) (by simp) ?_
  refine AllReadyH.cons2 (by simp only [sxN]; first | done | exact rfl) (fun K hK => ?_)
  rw [if_pos (by rfl)]
  go_simp
  refine (HZC.out _).mono ?_
  rintro e w9 ⟨rfl, rfl⟩
  go_simp
  refine hK.out _ _ (MemS.of hm) (fun hHeld => ?_)
  clear hK K
  try simp only [Act.put, sxQ]
  iterate 3 (first | (refine takeN 8 hHeld ?_) | (refine takeY 8 ?_ hHeld ?_ ?_; rotate_left 1; (first | (intro w9 h9; (with_reducible show (execOp _ (Oper.mk _ (Op.load _ _) _ _ _ _)).run _ _ = _); first | exact h9.ldA) | focus (intro w9 hSw; go_simp; (try (with_reducible rfl)); done))); try simp only [Act.put, sxQ])
  refine wpAnyH_done (by kernel_rfl) ?_ _
  refine NoPanic.normal ?_
  go_wp2_with (first | go_skip | ((with_reducible show wpList _ _ _ _ _ (World.alloc _ _)); refine wpList_up hm ?_; clear hm; intro n w hn hn2 hk hm hd hd2 ho; (try rw [← hn]); replace hn := Nat.le_of_eq hn.symm) | ((first | ((with_reducible show wpList _ _ _ (Oper.mk _ (Op.box _ _) _ _ _ _ :: _) _ _); (refine bxA hm ?_; clear hm; intro n w hn hz hm ho; (try simp only [List.cons_append, List.nil_append] at hm))) | ((with_reducible show wpList _ _ _ (Oper.mk _ (Op.load _ _) _ _ _ _ :: _) _ _); first | (refine ldA hm ?_) | (refine laA hm ?_)) | ((with_reducible show wpList _ _ _ (Oper.mk _ (Op.store _ _ _) _ _ _ _ :: _) _ _); (refine stA hm ?_; clear hm; intro w hz hm ho)) | ((with_reducible show wpList _ _ _ (Oper.mk _ (Op.alloc _) _ _ _ _ :: _) _ _); (refine alA hm ?_; clear hm; intro n w hn hz hm ho; (try simp only [List.cons_append, List.nil_append] at hm)))); try simp only [Act.put, sxQ]))
  refine bodyPost_ret (results_row_tmp rfl _ _ _ 30 _ (0, 0) _ rfl (by exact hm.at_ 2 rfl) Tryz.underlying30 rfl (by kernel_rfl)) rfl ?_
  exact SaRes.bad HH.out HE.out (by decide) (hm.still 0 rfl HK.out)
set_option maxRecDepth 100000 in
theorem seal_no (w0 : World) (g : Nat) (F : Nat → Prop) (s : Sec.S) (H : ChAt' w0 g F s) (hcnt : s.cnt ≤ 1000000) (A : Option Addr) (dn c : Nat) (b : List UInt8) (h : Byt w0 w0.heap.size A dn c b) (hfar : ∀ a, A = some a → 0 < dn → ¬ F a.block) (hdn : dn ≤ 70000) (sw : Int) (hs : s.shut = false) (he : s.exp = true) (hsw : 0 ≤ sw ∧ sw ≤ 65535) (hl : dn ≤ 65536) (h16 : Sec.hb s.lvl 16 = false) :
    Calls Tryz.prog 21 #[.pointer (some ⟨g, 0, none⟩), rspV A dn c sw] w0 (SaRes w0 g F s b sw) := by
  have hbl := h.1
  subst hbl
  have hno : ¬ (s.shut = true ∨ s.exp = false) := by rw [hs, he]; rintro (e | e) <;> cases e
  have hsn : ¬ (sw < 0 ∨ 65535 < sw) := by omega
  have i0 : decide (sw < 0) = false := decide_eq_false (by omega)
  have i1 : decide (65535 < sw) = false := decide_eq_false (by omega)
  have hk0 : Sec.sealE s b sw = 0 := by
    unfold Sec.sealE
    rw [if_neg hno, if_neg hsn, if_neg]
    rintro (e | ⟨e1, e2⟩)
    · omega
    · rw [h16] at e1; cases e1
  have HE := Lib.hid hk0
  have HD := Lib.hid (show Sec.sea s b sw = ({ s with exp := false }, b, sw) by unfold Sec.sea; rw [if_neg (fun e => e hk0), if_pos h16])
  have i2 : decide ((65536 : Int) < (b.length : Int)) = false := decide_eq_false (by omega)
  clear hno hsn hk0
  have HH := Lib.hid H
  have HB := Lib.hid h
  have HCNT := Lib.hid hcnt
  obtain ⟨a, H⟩ := H
  have HFR := Lib.hid hfar
  have HA := Lib.hid H
  have HS := Lib.hid hs
  have HOK := Lib.hid H.ok
  have HB16 := Lib.hid (has_cells (g := g) H.ok.lvl 16 (.inr (.inr (.inl rfl))) h16)
  obtain ⟨AC, hC⟩ := H.chainAt
  have hm := H.mem
  have hK := H.blk
  rw [hs, he] at hm hK
  have HK := Lib.hid hK
  clear H hs he hK h hfar h16 hcnt
  obtain ⟨E, ce, M, cm, R, cr, D, cd, C, cc⟩ := a
  have hC : C = some AC := hC
  subst hC
  simp only [cch] at hm HK
  unfold rspV
  go_enter Tryz.func21, Tryz.ntmps21
  go_wp2_with (first | go_skip | ((with_reducible show wpList _ _ _ _ _ (World.alloc _ _)); refine wpList_up hm ?_; clear hm; intro n w hn hn2 hk hm hd hd2 ho; (try rw [← hn]); replace hn := Nat.le_of_eq hn.symm) | ((first | ((with_reducible show wpList _ _ _ (Oper.mk _ (Op.box _ _) _ _ _ _ :: _) _ _); (refine bxA hm ?_; clear hm; intro n w hn hz hm ho; (try simp only [List.cons_append, List.nil_append] at hm))) | ((with_reducible show wpList _ _ _ (Oper.mk _ (Op.load _ _) _ _ _ _ :: _) _ _); first | (refine ldA hm ?_) | (refine laA hm ?_)) | ((with_reducible show wpList _ _ _ (Oper.mk _ (Op.store _ _ _) _ _ _ _ :: _) _ _); (refine stA hm ?_; clear hm; intro w hz hm ho)) | ((with_reducible show wpList _ _ _ (Oper.mk _ (Op.alloc _) _ _ _ _ :: _) _ _); (refine alA hm ?_; clear hm; intro n w hn hz hm ho; (try simp only [List.cons_append, List.nil_append] at hm)))); try simp only [Act.put, sxQ]) | (go_at_call 30; refine (ch_made (by exact hm.at_ 0 rfl)).mono ?_; rintro e w2 ⟨rfl, rfl⟩) | (go_at_call 33; refine (HB16.out _ _ _ _ _ _ _ _ _ (by exact hm.at_ 0 rfl)).mono ?_; rintro e w2 ⟨rfl, rfl⟩))
  refine wp_region_noPanic ?_
  refine wp_region_held_drew (S := MemS _ _ _ _) (by kernel_rfl) (MemS.of hm.drew) (fun hHeld => ?_)
  refine wpAnyH_fresh (by repeat (first | apply Fresh.a | apply Fresh.b)) ?_
  replace hm := hm.drew
  iterate 11 (first | (refine takeN 0 hHeld ?_) | (refine takeY 0 ?_ hHeld ?_ ?_; rotate_left 1; (first | (intro w9 h9; (with_reducible show (execOp _ (Oper.mk _ (Op.load _ _) _ _ _ _)).run _ _ = _); first | exact h9.ldA) | focus (intro w9 hSw; go_simp; (try (with_reducible rfl)); done))); try simp only [Act.put, sxQ])
  refine wpAnyH_done (by kernel_rfl) ?_ _
  refine NoPanic.normal ?_
  go_wp2_with (first | go_skip | ((with_reducible show wpList _ _ _ _ _ (World.alloc _ _)); refine wpList_up hm ?_; clear hm; intro n w hn hn2 hk hm hd hd2 ho; (try rw [← hn]); replace hn := Nat.le_of_eq hn.symm) | ((first | ((with_reducible show wpList _ _ _ (Oper.mk _ (Op.box _ _) _ _ _ _ :: _) _ _); (refine bxA hm ?_; clear hm; intro n w hn hz hm ho; (try simp only [List.cons_append, List.nil_append] at hm))) | ((with_reducible show wpList _ _ _ (Oper.mk _ (Op.load _ _) _ _ _ _ :: _) _ _); first | (refine ldA hm ?_) | (refine laA hm ?_)) | ((with_reducible show wpList _ _ _ (Oper.mk _ (Op.store _ _ _) _ _ _ _ :: _) _ _); (refine stA hm ?_; clear hm; intro w hz hm ho)) | ((with_reducible show wpList _ _ _ (Oper.mk _ (Op.alloc _) _ _ _ _ :: _) _ _); (refine alA hm ?_; clear hm; intro n w hn hz hm ho; (try simp only [List.cons_append, List.nil_append] at hm)))); try simp only [Act.put, sxQ]))
  have hw9 := hm.drew.wo 2
  simp only [List.eraseIdx_cons_zero, List.eraseIdx_cons_succ] at hw9
  refine wp_region_noPanic ?_
  refine wp_region_held_drew (S := MemS _ _ _ _) (by kernel_rfl) (MemS.of hw9) (fun hHeld => ?_)
  refine wpAnyH_fresh (by repeat (first | apply Fresh.a | apply Fresh.b)) ?_
  clear hw9
  replace hm := hm.drew
  iterate 2 (first | (refine takeN 0 hHeld ?_) | (refine takeY 0 ?_ hHeld ?_ ?_; rotate_left 1; (first | (intro w9 h9; (with_reducible show (execOp _ (Oper.mk _ (Op.load _ _) _ _ _ _)).run _ _ = _); first | exact h9.ldA) | focus (intro w9 hSw; go_simp; (try (with_reducible rfl)); done))); try simp only [Act.put, sxQ])
  iterate 2 (first | (refine takeN 3 hHeld ?_) | (refine takeY 3 ?_ hHeld ?_ ?_; rotate_left 1; (first | (intro w9 h9; (with_reducible show (execOp _ (Oper.mk _ (Op.load _ _) _ _ _ _)).run _ _ = _); first | exact h9.ldA) | focus (intro w9 hSw; go_simp; (try (with_reducible rfl)); done))); try simp only [Act.put, sxQ])
  refine wpAnyH_ready (rs := [2]) (by kernel_rfl) (by simp) ?_
  refine AllReadyH.cons2 (by simp only [sxN]; first | done | exact rfl) (fun K hK => ?_)
  rw [if_pos (by rfl)]
  go_simp
  refine (slices_Clone A b.length c b _ (by exact HB.out.only hm.only (fun a e hn hq => HFR.out a e hn (by rw [hq]; exact HA.out.fg))) (by omega)).mono ?_
  rintro e w2 ⟨A5, c5, rfl, hown, hbl⟩
  replace hm := hm.got hbl hown
  clear hown
  go_simp
  refine hK.out _ _ (MemS.of ((hm.wo 2).less)) (fun hHeld => ?_)
  clear hK K
  try simp only [Act.put, sxQ]
  iterate 1 (first | (refine takeN 5 hHeld ?_) | (refine takeY 5 ?_ hHeld ?_ ?_; rotate_left 1; (first | (intro w9 h9; (with_reducible show (execOp _ (Oper.mk _ (Op.load _ _) _ _ _ _)).run _ _ = _); first | exact h9.ldA) | focus (intro w9 hSw; go_simp; (try (with_reducible rfl)); done))); try simp only [Act.put, sxQ])
  refine wpAnyH_ready (rs := [6]) (by kernel_rfl) (by simp) ?_
  refine AllReadyH.cons2 (by simp only [sxN]; first | done | exact rfl) (fun K hK => ?_)
  refine stB hm ?_
  clear hm; intro w hz hm ho
  refine hK.out _ _ (MemS.of ((hm.wo 2).less)) (fun hHeld => ?_)
  clear hK K
  try simp only [Act.put, sxQ]
  iterate 1 (first | (refine takeN 7 hHeld ?_) | (refine takeY 7 ?_ hHeld ?_ ?_; rotate_left 1; (first | (intro w9 h9; (with_reducible show (execOp _ (Oper.mk _ (Op.load _ _) _ _ _ _)).run _ _ = _); first | exact h9.ldA) | focus (intro w9 hSw; go_simp; (try (with_reducible rfl)); done))); try simp only [Act.put, sxQ])
  refine wpAnyH_done (by kernel_rfl) ?_ _
  refine NoPanic.normal ?_
  go_wp2_with fail
  refine bodyPost_ret (results_row_tmp rfl _ _ _ 30 _ (0, 0) _ rfl (by exact hm.at_ 2 rfl) Tryz.underlying30 rfl (by kernel_rfl)) rfl ?_
  have hfl := HA.out.flags hm.only (cnt := s.cnt) (exp := false) (shut := false) (by exact hm.at_ 0 rfl)
  rw [S_eq3 HS.out] at hfl
  exact SaRes.good HE.out HD.out rfl (hm.freshG 0 0 rfl rfl) ⟨_, hfl⟩ (hm.only.mono fun q _ e => by rw [e]; exact HA.out.fg)
set_option maxRecDepth 100000 in
theorem seal_mac (w0 : World) (g : Nat) (F : Nat → Prop) (s : Sec.S) (H : ChAt' w0 g F s) (hcnt : s.cnt ≤ 1000000) (A : Option Addr) (dn c : Nat) (b : List UInt8) (h : Byt w0 w0.heap.size A dn c b) (hfar : ∀ a, A = some a → 0 < dn → ¬ F a.block) (hdn : dn ≤ 70000) (sw : Int) (hs : s.shut = false) (he : s.exp = true) (hsw : 0 ≤ sw ∧ sw ≤ 65535) (hl : dn ≤ 65536) (h16 : Sec.hb s.lvl 16 = true) (b32 : Bool) (hb : b32 = false) (h32 : Sec.hb s.lvl 32 = b32) (hz : Sec.sz dn b32 + 8 ≤ 65536) :
    Calls Tryz.prog 21 #[.pointer (some ⟨g, 0, none⟩), rspV A dn c sw] w0 (SaRes w0 g F s b sw) := by
  have hbl := h.1
  subst hbl
  have hno : ¬ (s.shut = true ∨ s.exp = false) := by rw [hs, he]; rintro (e | e) <;> cases e
  have hsn : ¬ (sw < 0 ∨ 65535 < sw) := by omega
  have i0 : decide (sw < 0) = false := decide_eq_false (by omega)
  have i1 : decide (65535 < sw) = false := decide_eq_false (by omega)
  have hk0 : Sec.sealE s b sw = 0 := by
    unfold Sec.sealE
    rw [if_neg hno, if_neg hsn, if_neg]
    rintro (e | ⟨e1, e2⟩)
    · omega
    · rw [h32] at e2; omega
  have HE := Lib.hid hk0
  subst hb
  have hzc := fun u => secure_size b.length false (by omega) u
  have HZC := Lib.hid hzc
  clear hzc
  have hz0 : Sec.sz b.length false = b.length := by unfold Sec.sz; rw [if_neg (fun e => by cases e.1)]
  rw [hz0] at hz HZC
  clear hz0
  have hsd : Sec.sealD s b = b := by unfold Sec.sealD; rw [h32]; rfl
  have HD := Lib.hid (show Sec.sea s b sw = ({ s with exp := false }, b ++ Sec.rmc s (b) sw, sw) by unfold Sec.sea; rw [if_neg (fun e => e hk0), if_neg (by rw [h16]; decide), hsd])
  have i2 : decide ((65536 : Int) < (b.length : Int)) = false := decide_eq_false (by omega)
  clear hsd
  have i3 : decide ((65536 : Int) < ((b.length + 8 : Nat) : Int)) = false := decide_eq_false (by omega)
  clear hno hsn hk0
  generalize hzi : ((b.length + 8 : Nat) : Int) = zi at *
  clear hzi
  have HSZ := Lib.hid hz
  have HSW := Lib.hid hsw
  clear hz
  have HH := Lib.hid H
  have HB := Lib.hid h
  have HCNT := Lib.hid hcnt
  obtain ⟨a, H⟩ := H
  have HFR := Lib.hid hfar
  have HA := Lib.hid H
  have HS := Lib.hid hs
  have HOK := Lib.hid H.ok
  have HB16 := Lib.hid (has_cells (g := g) H.ok.lvl 16 (.inr (.inr (.inl rfl))) h16)
  have HB32 := Lib.hid (has_cells (g := g) H.ok.lvl 32 (.inr (.inr (.inr rfl))) h32)
  clear h32
  obtain ⟨AC, hC⟩ := H.chainAt
  have hm := H.mem
  have hK := H.blk
  rw [hs, he] at hm hK
  have HK := Lib.hid hK
  clear H hs he hK h hfar h16 hcnt
  obtain ⟨E, ce, M, cm, R, cr, D, cd, C, cc⟩ := a
  have hC : C = some AC := hC
  subst hC
  simp only [cch] at hm HK
  unfold rspV
  go_enter Tryz.func21, Tryz.ntmps21
  go_wp2_with (first | go_skip | ((with_reducible show wpList _ _ _ _ _ (World.alloc _ _)); refine wpList_up hm ?_; clear hm; intro n w hn hn2 hk hm hd hd2 ho; (try rw [← hn]); replace hn := Nat.le_of_eq hn.symm) | ((first | ((with_reducible show wpList _ _ _ (Oper.mk _ (Op.box _ _) _ _ _ _ :: _) _ _); (refine bxA hm ?_; clear hm; intro n w hn hz hm ho; (try simp only [List.cons_append, List.nil_append] at hm))) | ((with_reducible show wpList _ _ _ (Oper.mk _ (Op.load _ _) _ _ _ _ :: _) _ _); first | (refine ldA hm ?_) | (refine laA hm ?_)) | ((with_reducible show wpList _ _ _ (Oper.mk _ (Op.store _ _ _) _ _ _ _ :: _) _ _); (refine stA hm ?_; clear hm; intro w hz hm ho)) | ((with_reducible show wpList _ _ _ (Oper.mk _ (Op.alloc _) _ _ _ _ :: _) _ _); (refine alA hm ?_; clear hm; intro n w hn hz hm ho; (try simp only [List.cons_append, List.nil_append] at hm)))); try simp only [Act.put, sxQ]) | (go_at_call 30; refine (ch_made (by exact hm.at_ 0 rfl)).mono ?_; rintro e w2 ⟨rfl, rfl⟩) | (go_at_call 33; refine (HB16.out _ _ _ _ _ _ _ _ _ (by exact hm.at_ 0 rfl)).mono ?_; rintro e w2 ⟨rfl, rfl⟩))
  refine wp_region_noPanic ?_
  refine wp_region_held_drew (S := MemS _ _ _ _) (by kernel_rfl) (MemS.of hm.drew) (fun hHeld => ?_)
  refine wpAnyH_fresh (by repeat (first | apply Fresh.a | apply Fresh.b)) ?_
  replace hm := hm.drew
  iterate 6 (first | (refine takeN 0 hHeld ?_) | (refine takeY 0 ?_ hHeld ?_ ?_; rotate_left 1; (first | (intro w9 h9; (with_reducible show (execOp _ (Oper.mk _ (Op.load _ _) _ _ _ _)).run _ _ = _); first | exact h9.ldA) | focus (intro w9 hSw; go_simp; (try (with_reducible rfl)); done))); try simp only [Act.put, sxQ])
  refine wpAnyH_ready (rs := [6]) (by kernel_rfl) (by simp) ?_
  refine AllReadyH.cons2 (by simp only [sxN]; first | done | exact rfl) (fun K hK => ?_)
  rw [if_pos (by rfl)]
  go_simp
  refine (HB32.out _ _ _ _ _ _ _ _ _ (by exact hm.at_ 0 rfl)).mono ?_
  rintro e w9 ⟨rfl, rfl⟩
  go_simp
  refine hK.out _ _ (MemS.of hm) (fun hHeld => ?_)
  clear hK K
  try simp only [Act.put, sxQ]
  refine wpAnyH_ready (rs := [7]) (by kernel_rfl) (by simp) ?_
  refine AllReadyH.cons2 (by simp only [sxN]; first | done | exact rfl) (fun K hK => ?_)
  rw [if_pos (by rfl)]
  go_simp
  refine (HZC.out _).mono ?_
  rintro e w9 ⟨rfl, rfl⟩
  go_simp
  refine hK.out _ _ (MemS.of hm) (fun hHeld => ?_)
  clear hK K
  try simp only [Act.put, sxQ]
  iterate 3 (first | (refine takeN 8 hHeld ?_) | (refine takeY 8 ?_ hHeld ?_ ?_; rotate_left 1; (first | (intro w9 h9; (with_reducible show (execOp _ (Oper.mk _ (Op.load _ _) _ _ _ _)).run _ _ = _); first | exact h9.ldA) | focus (intro w9 hSw; go_simp; (try (with_reducible rfl)); done))); try simp only [Act.put, sxQ])
  refine wpAnyH_done (by kernel_rfl) ?_ _
  refine NoPanic.normal ?_
  go_wp2_with (first | go_skip | ((with_reducible show wpList _ _ _ _ _ (World.alloc _ _)); refine wpList_up hm ?_; clear hm; intro n w hn hn2 hk hm hd hd2 ho; (try rw [← hn]); replace hn := Nat.le_of_eq hn.symm) | ((first | ((with_reducible show wpList _ _ _ (Oper.mk _ (Op.box _ _) _ _ _ _ :: _) _ _); (refine bxA hm ?_; clear hm; intro n w hn hz hm ho; (try simp only [List.cons_append, List.nil_append] at hm))) | ((with_reducible show wpList _ _ _ (Oper.mk _ (Op.load _ _) _ _ _ _ :: _) _ _); first | (refine ldA hm ?_) | (refine laA hm ?_)) | ((with_reducible show wpList _ _ _ (Oper.mk _ (Op.store _ _ _) _ _ _ _ :: _) _ _); (refine stA hm ?_; clear hm; intro w hz hm ho)) | ((with_reducible show wpList _ _ _ (Oper.mk _ (Op.alloc _) _ _ _ _ :: _) _ _); (refine alA hm ?_; clear hm; intro n w hn hz hm ho; (try simp only [List.cons_append, List.nil_append] at hm)))); try simp only [Act.put, sxQ]))
  go_at_call 33
  refine (HB32.out _ _ _ _ _ _ _ _ _ (by exact hm.at_ 0 rfl)).mono ?_
  rintro e w2 ⟨rfl, rfl⟩
  go_wp2_with (first | go_skip | ((with_reducible show wpList _ _ _ _ _ (World.alloc _ _)); refine wpList_up hm ?_; clear hm; intro n w hn hn2 hk hm hd hd2 ho; (try rw [← hn]); replace hn := Nat.le_of_eq hn.symm) | ((first | ((with_reducible show wpList _ _ _ (Oper.mk _ (Op.box _ _) _ _ _ _ :: _) _ _); (refine bxA hm ?_; clear hm; intro n w hn hz hm ho; (try simp only [List.cons_append, List.nil_append] at hm))) | ((with_reducible show wpList _ _ _ (Oper.mk _ (Op.load _ _) _ _ _ _ :: _) _ _); first | (refine ldA hm ?_) | (refine laA hm ?_)) | ((with_reducible show wpList _ _ _ (Oper.mk _ (Op.store _ _ _) _ _ _ _ :: _) _ _); (refine stA hm ?_; clear hm; intro w hz hm ho)) | ((with_reducible show wpList _ _ _ (Oper.mk _ (Op.alloc _) _ _ _ _ :: _) _ _); (refine alA hm ?_; clear hm; intro n w hn hz hm ho; (try simp only [List.cons_append, List.nil_append] at hm)))); try simp only [Act.put, sxQ]))
  have hfl := HA.out.flags (hm.only.drew) (cnt := s.cnt) (exp := false) (shut := false) (by exact (hm.at_ 0 rfl).drew)
  rw [S_eq3 HS.out] at hfl
  have HFL := Lib.hid hfl
  clear hfl
  have hw9 := hm.drew.wo 2
  simp only [List.eraseIdx_cons_zero, List.eraseIdx_cons_succ] at hw9
  refine wp_region_noPanic ?_
  refine wp_region_held_drew (S := MemS _ _ _ _) (by kernel_rfl) (MemS.of hw9) (fun hHeld => ?_)
  refine wpAnyH_fresh (by repeat (first | apply Fresh.a | apply Fresh.b)) ?_
  clear hw9
  replace hm := hm.drew
  iterate 5 (first | (refine takeN 0 hHeld ?_) | (refine takeY 0 ?_ hHeld ?_ ?_; rotate_left 1; (first | (intro w9 h9; (with_reducible show (execOp _ (Oper.mk _ (Op.load _ _) _ _ _ _)).run _ _ = _); first | exact h9.ldA) | focus (intro w9 hSw; go_simp; (try (with_reducible rfl)); done))); try simp only [Act.put, sxQ])
  iterate 2 (first | (refine takeN 8 hHeld ?_) | (refine takeY 8 ?_ hHeld ?_ ?_; rotate_left 1; (first | (intro w9 h9; (with_reducible show (execOp _ (Oper.mk _ (Op.load _ _) _ _ _ _)).run _ _ = _); first | exact h9.ldA) | focus (intro w9 hSw; go_simp; (try (with_reducible rfl)); done))); try simp only [Act.put, sxQ])
  refine wpAnyH_ready (rs := [5]) (by kernel_rfl) (by simp) ?_
  refine AllReadyH.cons2 (by simp only [sxN]; first | done | exact rfl) (fun K hK => ?_)
  rw [if_pos (by rfl)]
  go_simp
  refine (ch_rmac _ g F { s with exp := false } ⟨_, HFL.out⟩ A b.length c (b) (by exact HB.out.only hm.only (fun a e hn hq => HFR.out a e hn (by rw [hq]; exact HA.out.fg))) (by have := HSZ.out; omega) sw HSW.out).mono ?_
  intro e w2 hor
  obtain ⟨A6, c6, rfl, hown, hbl⟩ := hor.len (n := 8) (Sec.rmc_length s (b) sw HOK.out)
  clear hor
  replace hown : Own w2 _ _ 1 A6 8 c6 (bcells (Sec.rmc s (b) sw)) := hown
  replace hm := hm.got hbl hown
  clear hown
  go_simp
  refine hK.out _ _ (MemS.of ((hm.wo 2).less)) (fun hHeld => ?_)
  clear hK K
  try simp only [Act.put, sxQ]
  refine wpAnyH_ready (rs := [6]) (by kernel_rfl) (by simp) ?_
  refine AllReadyH.cons2 (by simp only [sxN]; first | done | exact rfl) (fun K hK => ?_)
  rw [if_pos (by rfl)]
  go_simp
  refine K_up hm ?_
  intro n5 w5 hn hn5s hn5 hm1 hn5d hn5d2 hb1
  rw [← hn]
  clear hn hm
  have hm := hm1.row hn5 hn5s hn5d hn5d2 1 2 [.slice A b.length c, .slice A6 8 c6] rfl rfl (by unfold maxLen; omega)
  clear hm1
  refine hK.out _ _ (MemS.of ((hm.wo 2).less.less)) (fun hHeld => ?_)
  clear hK K
  try simp only [Act.put, sxQ]
  refine wpAnyH_ready (rs := [7]) (by kernel_rfl) (by simp) ?_
  refine AllReadyH.cons2 (by simp only [sxN]; first | done | exact rfl) (fun K hK => ?_)
  rw [if_pos (by rfl)]
  go_simp
  refine (join_list n5 [⟨A, b.length, c, b⟩, ⟨A6, 8, c6, Sec.rmc s (b) sw⟩] 2 (b.length + 8) rfl _ (by exact (hm.sl_ 1 rfl).row) (by
    intro v hv
    simp only [List.mem_cons, List.not_mem_nil, or_false] at hv
    rcases hv with rfl | rfl
    · exact HB.out.only hm.only (fun a e hn hq => HFR.out a e hn (by rw [hq]; exact HA.out.fg))
    · exact (hm.sl_ 0 rfl).byt (Nat.le_refl _)) (by simp [joined, Sec.rmc_length s (b) sw HOK.out]) (by have := HSZ.out; omega) (by omega)).mono ?_
  rintro e w7 ⟨A7, c7, rfl, hown, hbl⟩
  rw [show joined [⟨A, b.length, c, b⟩, ⟨A6, 8, c6, Sec.rmc s (b) sw⟩] = b ++ Sec.rmc s (b) sw by simp [joined]] at hown
  replace hm := hm.got hbl hown
  clear hown
  go_simp
  refine hK.out _ _ (MemS.of ((hm.wo 2).less.less.less)) (fun hHeld => ?_)
  clear hK K
  try simp only [Act.put, sxQ]
  iterate 1 (first | (refine takeN 10 hHeld ?_) | (refine takeY 10 ?_ hHeld ?_ ?_; rotate_left 1; (first | (intro w9 h9; (with_reducible show (execOp _ (Oper.mk _ (Op.load _ _) _ _ _ _)).run _ _ = _); first | exact h9.ldA) | focus (intro w9 hSw; go_simp; (try (with_reducible rfl)); done))); try simp only [Act.put, sxQ])
  refine wpAnyH_ready (rs := [11]) (by kernel_rfl) (by simp) ?_
  refine AllReadyH.cons2 (by simp only [sxN]; first | done | exact rfl) (fun K hK => ?_)
  refine stB hm ?_
  clear hm; intro w hz hm ho
  refine hK.out _ _ (MemS.of ((hm.wo 2).less.less.less)) (fun hHeld => ?_)
  clear hK K
  try simp only [Act.put, sxQ]
  iterate 1 (first | (refine takeN 12 hHeld ?_) | (refine takeY 12 ?_ hHeld ?_ ?_; rotate_left 1; (first | (intro w9 h9; (with_reducible show (execOp _ (Oper.mk _ (Op.load _ _) _ _ _ _)).run _ _ = _); first | exact h9.ldA) | focus (intro w9 hSw; go_simp; (try (with_reducible rfl)); done))); try simp only [Act.put, sxQ])
  refine wpAnyH_done (by kernel_rfl) ?_ _
  refine NoPanic.normal ?_
  go_wp2_with fail
  refine bodyPost_ret (results_row_tmp rfl _ _ _ 30 _ (0, 0) _ rfl (by exact hm.at_ 2 rfl) Tryz.underlying30 rfl (by kernel_rfl)) rfl ?_
  have hfl := HA.out.flags hm.only (cnt := s.cnt) (exp := false) (shut := false) (by exact hm.at_ 0 rfl)
  rw [S_eq3 HS.out] at hfl
  exact SaRes.good HE.out HD.out (by simp [Sec.rmc_length s (b) sw HOK.out]) (hm.freshG 0 2 rfl rfl) ⟨_, hfl⟩ (hm.only.mono fun q _ e => by rw [e]; exact HA.out.fg)
set_option maxRecDepth 100000 in
theorem seal_enc (w0 : World) (g : Nat) (F : Nat → Prop) (s : Sec.S) (H : ChAt' w0 g F s) (hcnt : s.cnt ≤ 1000000) (A : Option Addr) (dn c : Nat) (b : List UInt8) (h : Byt w0 w0.heap.size A dn c b) (hfar : ∀ a, A = some a → 0 < dn → ¬ F a.block) (hdn : dn ≤ 70000) (sw : Int) (hs : s.shut = false) (he : s.exp = true) (hsw : 0 ≤ sw ∧ sw ≤ 65535) (hl : dn ≤ 65536) (h16 : Sec.hb s.lvl 16 = true) (b32 : Bool) (hb : b32 = true) (h32 : Sec.hb s.lvl 32 = b32) (hz : Sec.sz dn b32 + 8 ≤ 65536) :
    Calls Tryz.prog 21 #[.pointer (some ⟨g, 0, none⟩), rspV A dn c sw] w0 (SaRes w0 g F s b sw) := by
  have hbl := h.1
  subst hbl
  have hno : ¬ (s.shut = true ∨ s.exp = false) := by rw [hs, he]; rintro (e | e) <;> cases e
  have hsn : ¬ (sw < 0 ∨ 65535 < sw) := by omega
  have i0 : decide (sw < 0) = false := decide_eq_false (by omega)
  have i1 : decide (65535 < sw) = false := decide_eq_false (by omega)
  have hk0 : Sec.sealE s b sw = 0 := by
    unfold Sec.sealE
    rw [if_neg hno, if_neg hsn, if_neg]
    rintro (e | ⟨e1, e2⟩)
    · omega
    · rw [h32] at e2; omega
  have HE := Lib.hid hk0
  subst hb
  have hzc := fun u => secure_size b.length true (by omega) u
  have HZC := Lib.hid hzc
  clear hzc
  have hsd : Sec.sealD s b = Sec.hide s true b := by unfold Sec.sealD; rw [h32]; rfl
  have HD := Lib.hid (show Sec.sea s b sw = ({ s with exp := false }, Sec.hide s true b ++ Sec.rmc s (Sec.hide s true b) sw, sw) by unfold Sec.sea; rw [if_neg (fun e => e hk0), if_neg (by rw [h16]; decide), hsd])
  have i2 : decide ((65536 : Int) < (b.length : Int)) = false := decide_eq_false (by omega)
  clear hsd
  have hhl : ∀ hok : s.enc.length = 16, (Sec.hide s true b).length = Sec.sz b.length true := fun hok => by
    rw [Sec.hide_length s true b hok]
    unfold Sec.sz
    by_cases h0 : 0 < b.length
    · rw [if_pos h0, if_pos ⟨rfl, h0⟩]
    · rw [if_neg h0, if_neg (fun e => h0 e.2)]; omega
  have HHL := Lib.hid hhl
  clear hhl
  generalize hzz : Sec.sz b.length true = z at *
  clear hzz
  have i3 : decide ((65536 : Int) < ((z + 8 : Nat) : Int)) = false := decide_eq_false (by omega)
  clear hno hsn hk0
  generalize hzi : ((z + 8 : Nat) : Int) = zi at *
  clear hzi
  have HSZ := Lib.hid hz
  have HSW := Lib.hid hsw
  clear hz
  have HH := Lib.hid H
  have HB := Lib.hid h
  have HCNT := Lib.hid hcnt
  obtain ⟨a, H⟩ := H
  have HFR := Lib.hid hfar
  have HA := Lib.hid H
  have HS := Lib.hid hs
  have HOK := Lib.hid H.ok
  have HB16 := Lib.hid (has_cells (g := g) H.ok.lvl 16 (.inr (.inr (.inl rfl))) h16)
  have HB32 := Lib.hid (has_cells (g := g) H.ok.lvl 32 (.inr (.inr (.inr rfl))) h32)
  clear h32
  obtain ⟨AC, hC⟩ := H.chainAt
  have hm := H.mem
  have hK := H.blk
  rw [hs, he] at hm hK
  have HK := Lib.hid hK
  clear H hs he hK h hfar h16 hcnt
  obtain ⟨E, ce, M, cm, R, cr, D, cd, C, cc⟩ := a
  have hC : C = some AC := hC
  subst hC
  simp only [cch] at hm HK
  unfold rspV
  go_enter Tryz.func21, Tryz.ntmps21
  go_wp2_with (first | go_skip | ((with_reducible show wpList _ _ _ _ _ (World.alloc _ _)); refine wpList_up hm ?_; clear hm; intro n w hn hn2 hk hm hd hd2 ho; (try rw [← hn]); replace hn := Nat.le_of_eq hn.symm) | ((first | ((with_reducible show wpList _ _ _ (Oper.mk _ (Op.box _ _) _ _ _ _ :: _) _ _); (refine bxA hm ?_; clear hm; intro n w hn hz hm ho; (try simp only [List.cons_append, List.nil_append] at hm))) | ((with_reducible show wpList _ _ _ (Oper.mk _ (Op.load _ _) _ _ _ _ :: _) _ _); first | (refine ldA hm ?_) | (refine laA hm ?_)) | ((with_reducible show wpList _ _ _ (Oper.mk _ (Op.store _ _ _) _ _ _ _ :: _) _ _); (refine stA hm ?_; clear hm; intro w hz hm ho)) | ((with_reducible show wpList _ _ _ (Oper.mk _ (Op.alloc _) _ _ _ _ :: _) _ _); (refine alA hm ?_; clear hm; intro n w hn hz hm ho; (try simp only [List.cons_append, List.nil_append] at hm)))); try simp only [Act.put, sxQ]) | (go_at_call 30; refine (ch_made (by exact hm.at_ 0 rfl)).mono ?_; rintro e w2 ⟨rfl, rfl⟩) | (go_at_call 33; refine (HB16.out _ _ _ _ _ _ _ _ _ (by exact hm.at_ 0 rfl)).mono ?_; rintro e w2 ⟨rfl, rfl⟩))
  refine wp_region_noPanic ?_
  refine wp_region_held_drew (S := MemS _ _ _ _) (by kernel_rfl) (MemS.of hm.drew) (fun hHeld => ?_)
  refine wpAnyH_fresh (by repeat (first | apply Fresh.a | apply Fresh.b)) ?_
  replace hm := hm.drew
  iterate 6 (first | (refine takeN 0 hHeld ?_) | (refine takeY 0 ?_ hHeld ?_ ?_; rotate_left 1; (first | (intro w9 h9; (with_reducible show (execOp _ (Oper.mk _ (Op.load _ _) _ _ _ _)).run _ _ = _); first | exact h9.ldA) | focus (intro w9 hSw; go_simp; (try (with_reducible rfl)); done))); try simp only [Act.put, sxQ])
  refine wpAnyH_ready (rs := [6]) (by kernel_rfl) (by simp) ?_
  refine AllReadyH.cons2 (by simp only [sxN]; first | done | exact rfl) (fun K hK => ?_)
  rw [if_pos (by rfl)]
  go_simp
  refine (HB32.out _ _ _ _ _ _ _ _ _ (by exact hm.at_ 0 rfl)).mono ?_
  rintro e w9 ⟨rfl, rfl⟩
  go_simp
  refine hK.out _ _ (MemS.of hm) (fun hHeld => ?_)
  clear hK K
  try simp only [Act.put, sxQ]
  refine wpAnyH_ready (rs := [7]) (by kernel_rfl) (by simp) ?_
  refine AllReadyH.cons2 (by simp only [sxN]; first | done | exact rfl) (fun K hK => ?_)
  rw [if_pos (by rfl)]
  go_simp
  refine (HZC.out _).mono ?_
  rintro e w9 ⟨rfl, rfl⟩
  go_simp
  refine hK.out _ _ (MemS.of hm) (fun hHeld => ?_)
  clear hK K
  try simp only [Act.put, sxQ]
  iterate 3 (first | (refine takeN 8 hHeld ?_) | (refine takeY 8 ?_ hHeld ?_ ?_; rotate_left 1; (first | (intro w9 h9; (with_reducible show (execOp _ (Oper.mk _ (Op.load _ _) _ _ _ _)).run _ _ = _); first | exact h9.ldA) | focus (intro w9 hSw; go_simp; (try (with_reducible rfl)); done))); try simp only [Act.put, sxQ])
  refine wpAnyH_done (by kernel_rfl) ?_ _
  refine NoPanic.normal ?_
  go_wp2_with (first | go_skip | ((with_reducible show wpList _ _ _ _ _ (World.alloc _ _)); refine wpList_up hm ?_; clear hm; intro n w hn hn2 hk hm hd hd2 ho; (try rw [← hn]); replace hn := Nat.le_of_eq hn.symm) | ((first | ((with_reducible show wpList _ _ _ (Oper.mk _ (Op.box _ _) _ _ _ _ :: _) _ _); (refine bxA hm ?_; clear hm; intro n w hn hz hm ho; (try simp only [List.cons_append, List.nil_append] at hm))) | ((with_reducible show wpList _ _ _ (Oper.mk _ (Op.load _ _) _ _ _ _ :: _) _ _); first | (refine ldA hm ?_) | (refine laA hm ?_)) | ((with_reducible show wpList _ _ _ (Oper.mk _ (Op.store _ _ _) _ _ _ _ :: _) _ _); (refine stA hm ?_; clear hm; intro w hz hm ho)) | ((with_reducible show wpList _ _ _ (Oper.mk _ (Op.alloc _) _ _ _ _ :: _) _ _); (refine alA hm ?_; clear hm; intro n w hn hz hm ho; (try simp only [List.cons_append, List.nil_append] at hm)))); try simp only [Act.put, sxQ]))
  go_at_call 33
  refine (HB32.out _ _ _ _ _ _ _ _ _ (by exact hm.at_ 0 rfl)).mono ?_
  rintro e w2 ⟨rfl, rfl⟩
  go_wp2_with (first | go_skip | ((with_reducible show wpList _ _ _ _ _ (World.alloc _ _)); refine wpList_up hm ?_; clear hm; intro n w hn hn2 hk hm hd hd2 ho; (try rw [← hn]); replace hn := Nat.le_of_eq hn.symm) | ((first | ((with_reducible show wpList _ _ _ (Oper.mk _ (Op.box _ _) _ _ _ _ :: _) _ _); (refine bxA hm ?_; clear hm; intro n w hn hz hm ho; (try simp only [List.cons_append, List.nil_append] at hm))) | ((with_reducible show wpList _ _ _ (Oper.mk _ (Op.load _ _) _ _ _ _ :: _) _ _); first | (refine ldA hm ?_) | (refine laA hm ?_)) | ((with_reducible show wpList _ _ _ (Oper.mk _ (Op.store _ _ _) _ _ _ _ :: _) _ _); (refine stA hm ?_; clear hm; intro w hz hm ho)) | ((with_reducible show wpList _ _ _ (Oper.mk _ (Op.alloc _) _ _ _ _ :: _) _ _); (refine alA hm ?_; clear hm; intro n w hn hz hm ho; (try simp only [List.cons_append, List.nil_append] at hm)))); try simp only [Act.put, sxQ]))
  have hfl := HA.out.flags hm.only (cnt := s.cnt) (exp := false) (shut := false) (by exact hm.at_ 0 rfl)
  rw [S_eq3 HS.out] at hfl
  go_at_call 37
  refine (ch_encrypt _ g F { s with exp := false } ⟨_, hfl⟩ (by exact HCNT.out) A b.length c b (by exact HB.out.only hm.only (fun a e hn hq => HFR.out a e hn (by rw [hq]; exact HA.out.fg))) (by omega) true).mono ?_
  intro e w2 hor
  obtain ⟨A5, c5, rfl, hown, hbl⟩ := hor.len (HHL.out HOK.out.enc)
  clear hor hfl
  replace hown : Own w2 _ _ 1 A5 z c5 (bcells (Sec.hide s true b)) := hown
  replace hm := hm.got hbl hown
  clear hown
  simp only [List.nil_append, List.cons_append] at hm
  go_wp2_with (first | go_skip | ((with_reducible show wpList _ _ _ _ _ (World.alloc _ _)); refine wpList_up hm ?_; clear hm; intro n w hn hn2 hk hm hd hd2 ho; (try rw [← hn]); replace hn := Nat.le_of_eq hn.symm) | ((first | ((with_reducible show wpList _ _ _ (Oper.mk _ (Op.box _ _) _ _ _ _ :: _) _ _); (refine bxA hm ?_; clear hm; intro n w hn hz hm ho; (try simp only [List.cons_append, List.nil_append] at hm))) | ((with_reducible show wpList _ _ _ (Oper.mk _ (Op.load _ _) _ _ _ _ :: _) _ _); first | (refine ldA hm ?_) | (refine laA hm ?_)) | ((with_reducible show wpList _ _ _ (Oper.mk _ (Op.store _ _ _) _ _ _ _ :: _) _ _); (refine stA hm ?_; clear hm; intro w hz hm ho)) | ((with_reducible show wpList _ _ _ (Oper.mk _ (Op.alloc _) _ _ _ _ :: _) _ _); (refine alA hm ?_; clear hm; intro n w hn hz hm ho; (try simp only [List.cons_append, List.nil_append] at hm)))); try simp only [Act.put, sxQ]))
  have hfl := HA.out.flags (hm.only.drew) (cnt := s.cnt) (exp := false) (shut := false) (by exact (hm.at_ 0 rfl).drew)
  rw [S_eq3 HS.out] at hfl
  have HFL := Lib.hid hfl
  clear hfl
  have hw9 := hm.drew.wo 2
  simp only [List.eraseIdx_cons_zero, List.eraseIdx_cons_succ] at hw9
  refine wp_region_noPanic ?_
  refine wp_region_held_drew (S := MemS _ _ _ _) (by kernel_rfl) (MemS.of hw9) (fun hHeld => ?_)
  refine wpAnyH_fresh (by repeat (first | apply Fresh.a | apply Fresh.b)) ?_
  clear hw9
  replace hm := hm.drew
  iterate 5 (first | (refine takeN 0 hHeld ?_) | (refine takeY 0 ?_ hHeld ?_ ?_; rotate_left 1; (first | (intro w9 h9; (with_reducible show (execOp _ (Oper.mk _ (Op.load _ _) _ _ _ _)).run _ _ = _); first | exact h9.ldA) | focus (intro w9 hSw; go_simp; (try (with_reducible rfl)); done))); try simp only [Act.put, sxQ])
  iterate 2 (first | (refine takeN 8 hHeld ?_) | (refine takeY 8 ?_ hHeld ?_ ?_; rotate_left 1; (first | (intro w9 h9; (with_reducible show (execOp _ (Oper.mk _ (Op.load _ _) _ _ _ _)).run _ _ = _); first | exact h9.ldA) | focus (intro w9 hSw; go_simp; (try (with_reducible rfl)); done))); try simp only [Act.put, sxQ])
  refine wpAnyH_ready (rs := [5]) (by kernel_rfl) (by simp) ?_
  refine AllReadyH.cons2 (by simp only [sxN]; first | done | exact rfl) (fun K hK => ?_)
  rw [if_pos (by rfl)]
  go_simp
  refine (ch_rmac _ g F { s with exp := false } ⟨_, HFL.out⟩ A5 z c5 (Sec.hide s true b) (by exact (hm.sl_ 0 rfl).byt (Nat.le_refl _)) (by have := HSZ.out; omega) sw HSW.out).mono ?_
  intro e w2 hor
  obtain ⟨A6, c6, rfl, hown, hbl⟩ := hor.len (n := 8) (Sec.rmc_length s (Sec.hide s true b) sw HOK.out)
  clear hor
  replace hown : Own w2 _ _ 1 A6 8 c6 (bcells (Sec.rmc s (Sec.hide s true b) sw)) := hown
  replace hm := hm.got hbl hown
  clear hown
  go_simp
  refine hK.out _ _ (MemS.of ((hm.wo 2).less)) (fun hHeld => ?_)
  clear hK K
  try simp only [Act.put, sxQ]
  refine wpAnyH_ready (rs := [6]) (by kernel_rfl) (by simp) ?_
  refine AllReadyH.cons2 (by simp only [sxN]; first | done | exact rfl) (fun K hK => ?_)
  rw [if_pos (by rfl)]
  go_simp
  refine K_up hm ?_
  intro n5 w5 hn hn5s hn5 hm1 hn5d hn5d2 hb1
  rw [← hn]
  clear hn hm
  have hm := hm1.row hn5 hn5s hn5d hn5d2 1 2 [.slice A5 z c5, .slice A6 8 c6] rfl rfl (by unfold maxLen; omega)
  clear hm1
  refine hK.out _ _ (MemS.of ((hm.wo 2).less.less)) (fun hHeld => ?_)
  clear hK K
  try simp only [Act.put, sxQ]
  refine wpAnyH_ready (rs := [7]) (by kernel_rfl) (by simp) ?_
  refine AllReadyH.cons2 (by simp only [sxN]; first | done | exact rfl) (fun K hK => ?_)
  rw [if_pos (by rfl)]
  go_simp
  refine (join_list n5 [⟨A5, z, c5, Sec.hide s true b⟩, ⟨A6, 8, c6, Sec.rmc s (Sec.hide s true b) sw⟩] 2 (z + 8) rfl _ (by exact (hm.sl_ 2 rfl).row) (by
    intro v hv
    simp only [List.mem_cons, List.not_mem_nil, or_false] at hv
    rcases hv with rfl | rfl
    · exact (hm.sl_ 0 rfl).byt (Nat.le_refl _)
    · exact (hm.sl_ 1 rfl).byt (Nat.le_refl _)) (by simp [joined, Sec.rmc_length s (Sec.hide s true b) sw HOK.out, HHL.out HOK.out.enc]) (by have := HSZ.out; omega) (by omega)).mono ?_
  rintro e w7 ⟨A7, c7, rfl, hown, hbl⟩
  rw [show joined [⟨A5, z, c5, Sec.hide s true b⟩, ⟨A6, 8, c6, Sec.rmc s (Sec.hide s true b) sw⟩] = Sec.hide s true b ++ Sec.rmc s (Sec.hide s true b) sw by simp [joined]] at hown
  replace hm := hm.got hbl hown
  clear hown
  go_simp
  refine hK.out _ _ (MemS.of ((hm.wo 2).less.less.less)) (fun hHeld => ?_)
  clear hK K
  try simp only [Act.put, sxQ]
  iterate 1 (first | (refine takeN 10 hHeld ?_) | (refine takeY 10 ?_ hHeld ?_ ?_; rotate_left 1; (first | (intro w9 h9; (with_reducible show (execOp _ (Oper.mk _ (Op.load _ _) _ _ _ _)).run _ _ = _); first | exact h9.ldA) | focus (intro w9 hSw; go_simp; (try (with_reducible rfl)); done))); try simp only [Act.put, sxQ])
  refine wpAnyH_ready (rs := [11]) (by kernel_rfl) (by simp) ?_
  refine AllReadyH.cons2 (by simp only [sxN]; first | done | exact rfl) (fun K hK => ?_)
  refine stB hm ?_
  clear hm; intro w hz hm ho
  refine hK.out _ _ (MemS.of ((hm.wo 2).less.less.less)) (fun hHeld => ?_)
  clear hK K
  try simp only [Act.put, sxQ]
  iterate 1 (first | (refine takeN 12 hHeld ?_) | (refine takeY 12 ?_ hHeld ?_ ?_; rotate_left 1; (first | (intro w9 h9; (with_reducible show (execOp _ (Oper.mk _ (Op.load _ _) _ _ _ _)).run _ _ = _); first | exact h9.ldA) | focus (intro w9 hSw; go_simp; (try (with_reducible rfl)); done))); try simp only [Act.put, sxQ])
  refine wpAnyH_done (by kernel_rfl) ?_ _
  refine NoPanic.normal ?_
  go_wp2_with fail
  refine bodyPost_ret (results_row_tmp rfl _ _ _ 30 _ (0, 0) _ rfl (by exact hm.at_ 2 rfl) Tryz.underlying30 rfl (by kernel_rfl)) rfl ?_
  have hfl := HA.out.flags hm.only (cnt := s.cnt) (exp := false) (shut := false) (by exact hm.at_ 0 rfl)
  rw [S_eq3 HS.out] at hfl
  exact SaRes.good HE.out HD.out (by simp [Sec.rmc_length s (Sec.hide s true b) sw HOK.out, HHL.out HOK.out.enc]) (hm.freshG 0 3 rfl rfl) ⟨_, hfl⟩ (hm.only.mono fun q _ e => by rw [e]; exact HA.out.fg)
end Go.Proofs.YtibaibdgpnkdnaaGreatDoor
