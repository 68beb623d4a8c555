/-
  The walk of accept.
-/
import Derived.Test.YtibaibdgpnkdnaaGreatDoorZ1
import Derived.Test.YtibaibdgpnkdnaaGreatDoorSecT0
namespace Go.Proofs.YtibaibdgpnkdnaaGreatDoor
set_option maxRecDepth 100000
set_option linter.unusedSimpArgs false
set_option linter.unusedVariables false
open Go.RowKit
set_option maxHeartbeats 8000000
set_option maxRecDepth 100000 in
theorem acc_chk (w0 : World) (g : Nat) (F : Nat → Prop) (s : Sec.S) (a : ChS) (H : ChAt w0 g F s a) (hcnt : s.cnt < 1000000) (cla ins p1 p2 : Int) (A : Option Addr) (dn c : Nat) (b : List UInt8) (h : Byt w0 w0.heap.size A dn c b) (hfar : ∀ a, A = some a → 0 < dn → ¬ F a.block) (hdn : dn ≤ 70000) (le : Int) (long : Bool) (hs : s.shut = false) (hc0 : Apd.chk cla ins p1 p2 dn le long ≠ 0) :
    Calls Tryz.prog 40 #[.pointer (some ⟨g, 0, none⟩), cmdV cla ins p1 p2 A dn c le long] w0 (AcRes w0 g F s a ⟨cla, ins, p1, p2, b, le, long⟩) := by
  have hbl := h.1
  subst hbl
  have HE := Lib.hid (uw_chk (x := ⟨cla, ins, p1, p2, b, le, long⟩) hs hc0)
  have HC0 := Lib.hid hc0
  obtain ⟨er, hc⟩ : ∃ er, Apd.chk cla ins p1 p2 b.length le long = er := ⟨_, rfl⟩
  have HER := Lib.hid hc
  rw [hc] at hc0
  have i0 : (er == 0) = false := beq_eq_false_iff_ne.2 hc0
  clear hc0
  have hck := fun u => apdu_Check cla ins p1 p2 A b.length c le long u
  rw [hc] at hck
  have HCK := Lib.hid hck
  have HH := Lib.hid (⟨a, H⟩ : ChAt' w0 g F s)
  have HB := Lib.hid h
  have HFR := Lib.hid hfar
  have HLT := Lib.hid H.lt
  have HA := Lib.hid H
  have HS := Lib.hid hs
  have HOK := Lib.hid H.ok
  clear hck hc h hfar
  have hm := H.mem
  have hK := H.blk
  rw [hs] at hm hK
  have HK := Lib.hid hK
  clear H hs hK
  obtain ⟨E, ce, M, cm, R, cr, D, cd, C, cc⟩ := a
  simp only [cch] at hm HK
  unfold cmdV
  go_enter Tryz.func40, Tryz.ntmps40
  go_wp2_with (first | go_skip | ((with_reducible show wpList _ _ _ _ _ (World.alloc _ _)); refine wpList_up hm ?_; clear hm; intro n w hn hn2 hk hm hd hd2 ho; (try rw [← hn]); replace hn := Nat.le_of_eq hn.symm) | ((first | ((with_reducible show wpList _ _ _ (Oper.mk _ (Op.box _ _) _ _ _ _ :: _) _ _); (refine bxA hm ?_; clear hm; intro n w hn hz hm ho; (try simp only [List.cons_append, List.nil_append] at hm))) | ((with_reducible show wpList _ _ _ (Oper.mk _ (Op.load _ _) _ _ _ _ :: _) _ _); first | (refine ldA hm ?_) | (refine laA hm ?_)) | ((with_reducible show wpList _ _ _ (Oper.mk _ (Op.store _ _ _) _ _ _ _ :: _) _ _); (refine stA hm ?_; clear hm; intro w hz hm ho)) | ((with_reducible show wpList _ _ _ (Oper.mk _ (Op.alloc _) _ _ _ _ :: _) _ _); (refine alA hm ?_; clear hm; intro n w hn hz hm ho; (try simp only [List.cons_append, List.nil_append] at hm)))); try simp only [Act.put, sxQ]) | (go_at_call 31; refine (HCK.out _).mono ?_; rintro e w2 ⟨rfl, hbl⟩; replace hm := hm.below hbl) | (go_at_call 32; refine (HCL.out _).mono ?_; rintro e w2 ⟨rfl, hbl⟩; replace hm := hm.below hbl) | (go_at_call 33; refine (HB1.out _ _ _ _ _ _ _ _ _ (by exact hm.at_ 0 rfl)).mono ?_; rintro e w2 ⟨rfl, rfl⟩))
  refine bodyPost_ret (results_row_tmp rfl _ _ _ 28 _ (0, 0) _ rfl (by exact hm.at_ 2 rfl) Tryz.underlying28 rfl (by kernel_rfl)) rfl ?_
  exact AcRes.bad HA.out (HE.out.trans HER.out) (by rw [← HER.out]; exact HC0.out) (hm.still 0 rfl HK.out)
set_option maxRecDepth 100000 in
theorem acc_form (w0 : World) (g : Nat) (F : Nat → Prop) (s : Sec.S) (a : ChS) (H : ChAt w0 g F s a) (hcnt : s.cnt < 1000000) (cla ins p1 p2 : Int) (A : Option Addr) (dn c : Nat) (b : List UInt8) (h : Byt w0 w0.heap.size A dn c b) (hfar : ∀ a, A = some a → 0 < dn → ¬ F a.block) (hdn : dn ≤ 70000) (le : Int) (long : Bool) (hs : s.shut = false) (hc : Apd.chk cla ins p1 p2 dn le long = 0) (hf : Apd.cok cla = false ∨ cla / 16 % 2 = 1 ∨ (cla / 4 % 2 = 1 ∧ Sec.hb s.lvl 1 = false)) :
    Calls Tryz.prog 40 #[.pointer (some ⟨g, 0, none⟩), cmdV cla ins p1 p2 A dn c le long] w0 (AcRes w0 g F s a ⟨cla, ins, p1, p2, b, le, long⟩) := by
  have hbl := h.1
  subst hbl
  have HE := Lib.hid (uw_form (x := ⟨cla, ins, p1, p2, b, le, long⟩) hs hc hf)
  have hcase : ∃ ch o4 o16 op ok b1, Apd.clsV cla = infoV ch o4 o16 op ∧ Apd.cok cla = ok ∧ Sec.hb s.lvl 1 = b1 ∧ (ok = false ∨ (ok = true ∧ (o16 = true ∨ (o16 = false ∧ o4 = true ∧ b1 = false)))) := by
    cases hk : Apd.cok cla with
    | false => exact ⟨0, false, false, false, false, _, by unfold Apd.clsV; rw [hk]; rfl, rfl, rfl, .inl rfl⟩
    | true =>
      refine ⟨cla % 4, cla / 4 % 2 == 1, cla / 16 % 2 == 1, cla / 128 == 1, true, _, by unfold Apd.clsV; rw [hk]; rfl, rfl, rfl, .inr ⟨rfl, ?_⟩⟩
      rw [hk] at hf
      by_cases h16 : cla / 16 % 2 = 1
      · exact .inl (by rw [h16]; rfl)
      · obtain ⟨h4, h1⟩ := hf.elim (fun e => (by cases e)) (fun e => e.elim (fun e => absurd e h16) (fun e => e))
        exact .inr ⟨beq_eq_false_iff_ne.2 h16, by rw [h4]; rfl, h1⟩
  obtain ⟨ch, o4, o16, op, ok, b1, e1, e2, h1, hcase⟩ := hcase
  have hcl := fun u => apdu_Class cla u
  rw [e1, e2] at hcl
  have HCL := Lib.hid hcl
  clear hf e1 e2 hcl
  have hck := fun u => apdu_Check cla ins p1 p2 A b.length c le long u
  rw [hc] at hck
  have HCK := Lib.hid hck
  have HH := Lib.hid (⟨a, H⟩ : ChAt' w0 g F s)
  have HB := Lib.hid h
  have HFR := Lib.hid hfar
  have HLT := Lib.hid H.lt
  have HA := Lib.hid H
  have HS := Lib.hid hs
  have HOK := Lib.hid H.ok
  have HB1 := Lib.hid (has_cells (g := g) HOK.out.lvl 1 (.inl rfl) h1)
  clear h1
  clear hck hc h hfar
  have hm := H.mem
  have hK := H.blk
  rw [hs] at hm hK
  have HK := Lib.hid hK
  clear H hs hK
  obtain ⟨E, ce, M, cm, R, cr, D, cd, C, cc⟩ := a
  simp only [cch] at hm HK
  unfold cmdV
  unfold infoV at HCL
  rcases hcase with rfl | ⟨rfl, rfl | ⟨rfl, rfl, rfl⟩⟩
  all_goals
    go_enter Tryz.func40, Tryz.ntmps40
    go_wp2_with (first | go_skip | ((with_reducible show wpList _ _ _ _ _ (World.alloc _ _)); refine wpList_up hm ?_; clear hm; intro n w hn hn2 hk hm hd hd2 ho; (try rw [← hn]); replace hn := Nat.le_of_eq hn.symm) | ((first | ((with_reducible show wpList _ _ _ (Oper.mk _ (Op.box _ _) _ _ _ _ :: _) _ _); (refine bxA hm ?_; clear hm; intro n w hn hz hm ho; (try simp only [List.cons_append, List.nil_append] at hm))) | ((with_reducible show wpList _ _ _ (Oper.mk _ (Op.load _ _) _ _ _ _ :: _) _ _); first | (refine ldA hm ?_) | (refine laA hm ?_)) | ((with_reducible show wpList _ _ _ (Oper.mk _ (Op.store _ _ _) _ _ _ _ :: _) _ _); (refine stA hm ?_; clear hm; intro w hz hm ho)) | ((with_reducible show wpList _ _ _ (Oper.mk _ (Op.alloc _) _ _ _ _ :: _) _ _); (refine alA hm ?_; clear hm; intro n w hn hz hm ho; (try simp only [List.cons_append, List.nil_append] at hm)))); try simp only [Act.put, sxQ]) | (go_at_call 31; refine (HCK.out _).mono ?_; rintro e w2 ⟨rfl, hbl⟩; replace hm := hm.below hbl) | (go_at_call 32; refine (HCL.out _).mono ?_; rintro e w2 ⟨rfl, hbl⟩; replace hm := hm.below hbl) | (go_at_call 33; refine (HB1.out _ _ _ _ _ _ _ _ _ (by exact hm.at_ 0 rfl)).mono ?_; rintro e w2 ⟨rfl, rfl⟩))
    refine bodyPost_ret (results_row_tmp rfl _ _ _ 28 _ (0, 0) _ rfl (by exact hm.at_ 2 rfl) Tryz.underlying28 rfl (by kernel_rfl)) rfl ?_
    exact AcRes.bad HA.out HE.out (by decide) (hm.still 0 rfl HK.out)
set_option maxRecDepth 100000 in
theorem acc_no (w0 : World) (g : Nat) (F : Nat → Prop) (s : Sec.S) (a : ChS) (H : ChAt w0 g F s a) (hcnt : s.cnt < 1000000) (cla ins p1 p2 : Int) (A : Option Addr) (dn c : Nat) (b : List UInt8) (h : Byt w0 w0.heap.size A dn c b) (hfar : ∀ a, A = some a → 0 < dn → ¬ F a.block) (hdn : dn ≤ 70000) (le : Int) (long : Bool) (hs : s.shut = false) (hc : Apd.chk cla ins p1 p2 dn le long = 0) (hk : Apd.cok cla = true) (h16 : ¬ cla / 16 % 2 = 1) (h4 : ¬ cla / 4 % 2 = 1) (h1 : Sec.hb s.lvl 1 = false) :
    Calls Tryz.prog 40 #[.pointer (some ⟨g, 0, none⟩), cmdV cla ins p1 p2 A dn c le long] w0 (AcRes w0 g F s a ⟨cla, ins, p1, p2, b, le, long⟩) := by
  have hbl := h.1
  subst hbl
  have HE := Lib.hid (uw_no (x := ⟨cla, ins, p1, p2, b, le, long⟩) hs hc hk h4 h16 h1)
  have hcl := fun u => apdu_Class cla u
  rw [cls_plain hk h4 h16, hk] at hcl
  have HCL := Lib.hid hcl
  have H1 := Lib.hid h1
  clear hcl h4 h16 hk
  have hck := fun u => apdu_Check cla ins p1 p2 A b.length c le long u
  rw [hc] at hck
  have HCK := Lib.hid hck
  have HH := Lib.hid (⟨a, H⟩ : ChAt' w0 g F s)
  have HB := Lib.hid h
  have HFR := Lib.hid hfar
  have HLT := Lib.hid H.lt
  have HA := Lib.hid H
  have HS := Lib.hid hs
  have HOK := Lib.hid H.ok
  have HB1 := Lib.hid (has_cells (g := g) HOK.out.lvl 1 (.inl rfl) h1)
  clear h1
  clear hck hc h hfar
  have hm := H.mem
  have hK := H.blk
  rw [hs] at hm hK
  have HK := Lib.hid hK
  clear H hs hK
  obtain ⟨E, ce, M, cm, R, cr, D, cd, C, cc⟩ := a
  simp only [cch] at hm HK
  unfold cmdV
  have hki : ((s.cnt : Int) + 1) = ((s.cnt + 1 : Nat) : Int) := by omega
  have HKI := Lib.hid hki
  have hci : 0 ≤ (s.cnt : Int) ∧ (s.cnt : Int) < 1000000 := by omega
  obtain ⟨hci0, hci1⟩ := hci
  have HCNT := Lib.hid hcnt
  clear hcnt hki
  generalize hgi : (s.cnt : Int) = ci at *
  have HGI := Lib.hid hgi
  clear hgi
  unfold infoV at HCL
  go_enter Tryz.func40, Tryz.ntmps40
  go_wp2_with (first | go_skip | ((with_reducible show wpList _ _ _ _ _ (World.alloc _ _)); refine wpList_up hm ?_; clear hm; intro n w hn hn2 hk hm hd hd2 ho; (try rw [← hn]); replace hn := Nat.le_of_eq hn.symm) | ((first | ((with_reducible show wpList _ _ _ (Oper.mk _ (Op.box _ _) _ _ _ _ :: _) _ _); (refine bxA hm ?_; clear hm; intro n w hn hz hm ho; (try simp only [List.cons_append, List.nil_append] at hm))) | ((with_reducible show wpList _ _ _ (Oper.mk _ (Op.load _ _) _ _ _ _ :: _) _ _); first | (refine ldA hm ?_) | (refine laA hm ?_)) | ((with_reducible show wpList _ _ _ (Oper.mk _ (Op.store _ _ _) _ _ _ _ :: _) _ _); (refine stA hm ?_; clear hm; intro w hz hm ho)) | ((with_reducible show wpList _ _ _ (Oper.mk _ (Op.alloc _) _ _ _ _ :: _) _ _); (refine alA hm ?_; clear hm; intro n w hn hz hm ho; (try simp only [List.cons_append, List.nil_append] at hm)))); try simp only [Act.put, sxQ]) | (go_at_call 31; refine (HCK.out _).mono ?_; rintro e w2 ⟨rfl, hbl⟩; replace hm := hm.below hbl) | (go_at_call 32; refine (HCL.out _).mono ?_; rintro e w2 ⟨rfl, hbl⟩; replace hm := hm.below hbl) | (go_at_call 33; refine (HB1.out _ _ _ _ _ _ _ _ _ (by exact hm.at_ 0 rfl)).mono ?_; rintro e w2 ⟨rfl, rfl⟩))
  go_at_call 35
  refine (sec_copied cla ins p1 p2 A b.length c b le long _ (by exact HB.out.only hm.only (fun a e hn hq => HFR.out a e hn (by rw [hq]; exact HA.out.fg))) (by omega)).mono ?_
  rintro e w2 ⟨A5, c5, rfl, hown, hbl⟩
  replace hm := hm.got hbl hown
  clear hown
  unfold cmdV
  go_wp2_with (first | go_skip | ((with_reducible show wpList _ _ _ _ _ (World.alloc _ _)); refine wpList_up hm ?_; clear hm; intro n w hn hn2 hk hm hd hd2 ho; (try rw [← hn]); replace hn := Nat.le_of_eq hn.symm) | ((first | ((with_reducible show wpList _ _ _ (Oper.mk _ (Op.box _ _) _ _ _ _ :: _) _ _); (refine bxA hm ?_; clear hm; intro n w hn hz hm ho; (try simp only [List.cons_append, List.nil_append] at hm))) | ((with_reducible show wpList _ _ _ (Oper.mk _ (Op.load _ _) _ _ _ _ :: _) _ _); first | (refine ldA hm ?_) | (refine laA hm ?_)) | ((with_reducible show wpList _ _ _ (Oper.mk _ (Op.store _ _ _) _ _ _ _ :: _) _ _); (refine stA hm ?_; clear hm; intro w hz hm ho)) | ((with_reducible show wpList _ _ _ (Oper.mk _ (Op.alloc _) _ _ _ _ :: _) _ _); (refine alA hm ?_; clear hm; intro n w hn hz hm ho; (try simp only [List.cons_append, List.nil_append] at hm)))); try simp only [Act.put, sxQ]))
  refine bodyPost_ret (results_row_tmp rfl _ _ _ 28 _ (0, 0) _ rfl (by exact hm.at_ 2 rfl) Tryz.underlying28 rfl (by kernel_rfl)) rfl ?_
  rw [HKI.out] at hm
  have hon := hm.only
  have hfl := HA.out.flags hon (cnt := s.cnt + 1) (exp := true) (shut := false) (by exact hm.at_ 0 rfl)
  rw [S_eq HS.out] at hfl
  exact AcRes.no HE.out HS.out H1.out rfl (hm.freshG 0 0 rfl rfl) ⟨_, hfl⟩ hon HLT.out
set_option maxRecDepth 100000 in
theorem acc_short (w0 : World) (g : Nat) (F : Nat → Prop) (s : Sec.S) (a : ChS) (H : ChAt w0 g F s a) (hcnt : s.cnt < 1000000) (cla ins p1 p2 : Int) (A : Option Addr) (dn c : Nat) (b : List UInt8) (h : Byt w0 w0.heap.size A dn c b) (hfar : ∀ a, A = some a → 0 < dn → ¬ F a.block) (hdn : dn ≤ 70000) (le : Int) (long : Bool) (hs : s.shut = false) (hc : Apd.chk cla ins p1 p2 dn le long = 0) (hk : Apd.cok cla = true) (h16 : ¬ cla / 16 % 2 = 1) (h1 : Sec.hb s.lvl 1 = true) (hf : ¬ cla / 4 % 2 = 1 ∨ dn < 8) :
    Calls Tryz.prog 40 #[.pointer (some ⟨g, 0, none⟩), cmdV cla ins p1 p2 A dn c le long] w0 (AcRes w0 g F s a ⟨cla, ins, p1, p2, b, le, long⟩) := by
  have hbl := h.1
  subst hbl
  have HE := Lib.hid ((uw_mac (x := ⟨cla, ins, p1, p2, b, le, long⟩) hs hc hk h16 h1).trans (if_pos hf))
  have hcl := fun u => apdu_Class cla u
  rw [show Apd.clsV cla = infoV (cla % 4) (cla / 4 % 2 == 1) false (cla / 128 == 1) by unfold Apd.clsV; rw [hk, beq_eq_false_iff_ne.2 h16]; rfl, hk] at hcl
  have HCL := Lib.hid hcl
  have hcase : (cla / 4 % 2 == 1) = false ∨ ((cla / 4 % 2 == 1) = true ∧ decide ((b.length : Int) < 8) = true) := by
    by_cases h4 : cla / 4 % 2 = 1
    · exact .inr ⟨by rw [h4]; rfl, decide_eq_true (by have := hf.elim (fun e => absurd h4 e) id; omega)⟩
    · exact .inl (beq_eq_false_iff_ne.2 h4)
  clear hcl h16 hk hf
  have hck := fun u => apdu_Check cla ins p1 p2 A b.length c le long u
  rw [hc] at hck
  have HCK := Lib.hid hck
  have HH := Lib.hid (⟨a, H⟩ : ChAt' w0 g F s)
  have HB := Lib.hid h
  have HFR := Lib.hid hfar
  have HLT := Lib.hid H.lt
  have HA := Lib.hid H
  have HS := Lib.hid hs
  have HOK := Lib.hid H.ok
  have HB1 := Lib.hid (has_cells (g := g) HOK.out.lvl 1 (.inl rfl) h1)
  clear h1
  clear hck hc h hfar
  have hm := H.mem
  have hK := H.blk
  rw [hs] at hm hK
  have HK := Lib.hid hK
  clear H hs hK
  obtain ⟨E, ce, M, cm, R, cr, D, cd, C, cc⟩ := a
  simp only [cch] at hm HK
  unfold cmdV
  unfold infoV at HCL
  generalize (cla / 4 % 2 == 1) = o4 at *
  generalize (cla / 128 == 1) = o128 at *
  rcases hcase with rfl | ⟨rfl, hlt⟩
  all_goals
    go_enter Tryz.func40, Tryz.ntmps40
    go_wp2_with (first | go_skip | ((with_reducible show wpList _ _ _ _ _ (World.alloc _ _)); refine wpList_up hm ?_; clear hm; intro n w hn hn2 hk hm hd hd2 ho; (try rw [← hn]); replace hn := Nat.le_of_eq hn.symm) | ((first | ((with_reducible show wpList _ _ _ (Oper.mk _ (Op.box _ _) _ _ _ _ :: _) _ _); (refine bxA hm ?_; clear hm; intro n w hn hz hm ho; (try simp only [List.cons_append, List.nil_append] at hm))) | ((with_reducible show wpList _ _ _ (Oper.mk _ (Op.load _ _) _ _ _ _ :: _) _ _); first | (refine ldA hm ?_) | (refine laA hm ?_)) | ((with_reducible show wpList _ _ _ (Oper.mk _ (Op.store _ _ _) _ _ _ _ :: _) _ _); (refine stA hm ?_; clear hm; intro w hz hm ho)) | ((with_reducible show wpList _ _ _ (Oper.mk _ (Op.alloc _) _ _ _ _ :: _) _ _); (refine alA hm ?_; clear hm; intro n w hn hz hm ho; (try simp only [List.cons_append, List.nil_append] at hm)))); try simp only [Act.put, sxQ]) | (go_at_call 31; refine (HCK.out _).mono ?_; rintro e w2 ⟨rfl, hbl⟩; replace hm := hm.below hbl) | (go_at_call 32; refine (HCL.out _).mono ?_; rintro e w2 ⟨rfl, hbl⟩; replace hm := hm.below hbl) | (go_at_call 33; refine (HB1.out _ _ _ _ _ _ _ _ _ (by exact hm.at_ 0 rfl)).mono ?_; rintro e w2 ⟨rfl, rfl⟩))
    refine bodyPost_ret (results_row_tmp rfl _ _ _ 28 _ (0, 0) _ rfl (by exact hm.at_ 2 rfl) Tryz.underlying28 rfl (by kernel_rfl)) rfl ?_
    exact AcRes.bad HA.out HE.out (by decide) (hm.still 0 rfl HK.out)
end Go.Proofs.YtibaibdgpnkdnaaGreatDoor
