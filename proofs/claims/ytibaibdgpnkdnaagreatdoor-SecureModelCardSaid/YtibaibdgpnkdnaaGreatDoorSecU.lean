/-
  The walk of accept.
-/
import Derived.Test.YtibaibdgpnkdnaaGreatDoorZ1
import Derived.Test.YtibaibdgpnkdnaaGreatDoorSecT
namespace Go.Proofs.YtibaibdgpnkdnaaGreatDoor
set_option maxRecDepth 100000
set_option linter.unusedSimpArgs false
set_option linter.unusedVariables false
open Go.RowKit
set_option maxHeartbeats 8000000
set_option maxRecDepth 100000 in
theorem acc_wrong (w0 : World) (g : Nat) (F : Nat → Prop) (s : Sec.S) (a : ChS) (H : ChAt w0 g F s a) (hcnt : s.cnt < 1000000) (cla ins p1 p2 : Int) (A : Option Addr) (dn c : Nat) (b : List UInt8) (h : Byt w0 w0.heap.size A dn c b) (hfar : ∀ a, A = some a → 0 < dn → ¬ F a.block) (hdn : dn ≤ 70000) (le : Int) (long : Bool) (hs : s.shut = false) (hc : Apd.chk cla ins p1 p2 dn le long = 0) (hk : Apd.cok cla = true) (h16 : ¬ cla / 16 % 2 = 1) (h4 : cla / 4 % 2 = 1) (h1 : Sec.hb s.lvl 1 = true) (h8 : 8 ≤ dn) (hq : b.drop (dn - 8) ≠ Sec.cmac s cla ins p1 p2 le (b.take (dn - 8))) :
    Calls Tryz.prog 40 #[.pointer (some ⟨g, 0, none⟩), cmdV cla ins p1 p2 A dn c le long] w0 (AcRes w0 g F s a ⟨cla, ins, p1, p2, b, le, long⟩) := by
  have hbl := h.1
  obtain ⟨b0, o0, hA0, hb0⟩ := h.at_ (by omega)
  subst hA0
  obtain ⟨k, hk8⟩ : ∃ k, dn = k + 8 := ⟨dn - 8, by omega⟩
  subst hk8
  rw [Nat.add_sub_cancel] at hq
  have hle := h.2.1
  have i1 : ¬ c = k := by omega
  have i3 : (k : Int) ≤ (k : Int) + 8 := by omega
  have i2 : k ≤ c := by omega
  have i4 : decide ((k : Int) + 8 < 8) = false := decide_eq_false (by omega)
  have i5 : decide (k + 8 < 8) = false := decide_eq_false (by omega)
  have i6 : decide (((k + 8 : Nat) : Int) < 8) = false := decide_eq_false (by omega)
  have hu := uw_mac (x := ⟨cla, ins, p1, p2, b, le, long⟩) hs (by show Apd.chk cla ins p1 p2 b.length le long = 0; rw [hbl]; exact hc) hk h16 h1
  dsimp only at hu
  rw [hbl, Nat.add_sub_cancel, if_neg (by omega)] at hu
  rw [if_pos hq] at hu
  have hsm : Oct.same (b.drop k) (Sec.cmac s cla ins p1 p2 le (b.take k)) = false := by
    rw [Bool.eq_false_iff]; exact fun e => hq ((Oct.same_iff _ _).1 e)
  have HE := Lib.hid hu
  have hle2 := chk_le hc
  have HLE := Lib.hid hle2
  have hcl := fun u => apdu_Class cla u
  rw [cls_sec hk h4 h16, hk] at hcl
  have HCL := Lib.hid hcl
  have hby := fun u => apdu_Byte (cla % 4) false false (cla / 128 == 1) u
  rw [(cby_sub hk h4 h16).1, (cby_sub hk h4 h16).2] at hby
  have HBY := Lib.hid hby
  have HSM := Lib.hid hsm
  have HBL := Lib.hid hbl
  have H1 := Lib.hid h1
  clear hcl hby hsm hle2 hle hu h16 hk h4 hbl
  have hck := fun u => apdu_Check cla ins p1 p2 (some ⟨b0, o0, none⟩) (k + 8) c le long u
  rw [hc] at hck
  have HCK := Lib.hid hck
  have HH := Lib.hid (⟨a, H⟩ : ChAt' w0 g F s)
  have HB := Lib.hid h
  have HFR := Lib.hid hfar
  have HLT := Lib.hid H.lt
  have HA := Lib.hid H
  have HS := Lib.hid hs
  have HOK := Lib.hid H.ok
  have HB1 := Lib.hid (has_cells (g := g) HOK.out.lvl 1 (.inl rfl) h1)
  have HQ := Lib.hid hq
  clear h1 hq
  clear hck hc h hfar
  have hm := H.mem
  have hK := H.blk
  rw [hs] at hm hK
  have HK := Lib.hid hK
  clear H hs hK
  obtain ⟨E, ce, M, cm, R, cr, D, cd, C, cc⟩ := a
  simp only [cch] at hm HK
  unfold cmdV
  have hki : ((s.cnt : Int) + 1) = ((s.cnt + 1 : Nat) : Int) := by omega
  have HKI := Lib.hid hki
  have hci : 0 ≤ (s.cnt : Int) ∧ (s.cnt : Int) < 1000000 := by omega
  obtain ⟨hci0, hci1⟩ := hci
  have HCNT := Lib.hid hcnt
  clear hcnt hki
  generalize hgi : (s.cnt : Int) = ci at *
  have HGI := Lib.hid hgi
  clear hgi
  unfold infoV at HCL HBY
  generalize (cla / 128 == 1) = o128 at *
  generalize hg4 : cla - 4 = cla4 at *
  have HG4 := Lib.hid hg4
  clear hg4
  go_enter Tryz.func40, Tryz.ntmps40
  go_wp2_with (first | go_skip | ((with_reducible show wpList _ _ _ _ _ (World.alloc _ _)); refine wpList_up hm ?_; clear hm; intro n w hn hn2 hk hm hd hd2 ho; (try rw [← hn]); replace hn := Nat.le_of_eq hn.symm) | ((first | ((with_reducible show wpList _ _ _ (Oper.mk _ (Op.box _ _) _ _ _ _ :: _) _ _); (refine bxA hm ?_; clear hm; intro n w hn hz hm ho; (try simp only [List.cons_append, List.nil_append] at hm))) | ((with_reducible show wpList _ _ _ (Oper.mk _ (Op.load _ _) _ _ _ _ :: _) _ _); first | (refine ldA hm ?_) | (refine laA hm ?_)) | ((with_reducible show wpList _ _ _ (Oper.mk _ (Op.store _ _ _) _ _ _ _ :: _) _ _); (refine stA hm ?_; clear hm; intro w hz hm ho)) | ((with_reducible show wpList _ _ _ (Oper.mk _ (Op.alloc _) _ _ _ _ :: _) _ _); (refine alA hm ?_; clear hm; intro n w hn hz hm ho; (try simp only [List.cons_append, List.nil_append] at hm)))); try simp only [Act.put, sxQ]) | (go_at_call 31; refine (HCK.out _).mono ?_; rintro e w2 ⟨rfl, hbl⟩; replace hm := hm.below hbl) | (go_at_call 32; refine (HCL.out _).mono ?_; rintro e w2 ⟨rfl, hbl⟩; replace hm := hm.below hbl) | (go_at_call 33; refine (HB1.out _ _ _ _ _ _ _ _ _ (by exact hm.at_ 0 rfl)).mono ?_; rintro e w2 ⟨rfl, rfl⟩))
  refine wp_region_noPanic ?_
  refine wp_region_held_drew (S := MemS _ _ _ _) (by kernel_rfl) (MemS.of hm.drew) (fun hHeld => ?_)
  refine wpAnyH_fresh (by repeat (first | apply Fresh.a | apply Fresh.b)) ?_
  replace hm := hm.drew
  iterate 10 (first | (refine takeN 0 hHeld ?_) | (refine takeY 0 ?_ hHeld ?_ ?_; rotate_left 1; (first | (intro w9 h9; (with_reducible show (execOp _ (Oper.mk _ (Op.load _ _) _ _ _ _)).run _ _ = _); first | exact h9.ldA) | focus (intro w9 hSw; go_simp; (try (with_reducible rfl)); done))); try simp only [Act.put, sxQ])
  refine wpAnyH_done (by kernel_rfl) ?_ _
  refine NoPanic.normal ?_
  go_wp2_with (first | go_skip | ((with_reducible show wpList _ _ _ _ _ (World.alloc _ _)); refine wpList_up hm ?_; clear hm; intro n w hn hn2 hk hm hd hd2 ho; (try rw [← hn]); replace hn := Nat.le_of_eq hn.symm) | ((first | ((with_reducible show wpList _ _ _ (Oper.mk _ (Op.box _ _) _ _ _ _ :: _) _ _); (refine bxA hm ?_; clear hm; intro n w hn hz hm ho; (try simp only [List.cons_append, List.nil_append] at hm))) | ((with_reducible show wpList _ _ _ (Oper.mk _ (Op.load _ _) _ _ _ _ :: _) _ _); first | (refine ldA hm ?_) | (refine laA hm ?_)) | ((with_reducible show wpList _ _ _ (Oper.mk _ (Op.store _ _ _) _ _ _ _ :: _) _ _); (refine stA hm ?_; clear hm; intro w hz hm ho)) | ((with_reducible show wpList _ _ _ (Oper.mk _ (Op.alloc _) _ _ _ _ :: _) _ _); (refine alA hm ?_; clear hm; intro n w hn hz hm ho; (try simp only [List.cons_append, List.nil_append] at hm)))); try simp only [Act.put, sxQ]))
  go_at_call 38
  refine (ch_cmac _ g F s (ChAt'.away HH.out (R := fun _ => False) (Only.of_below (hm.still 0 rfl HK.out)) (fun _ _ e => e)) cla ins p1 p2 (some ⟨b0, o0, none⟩) (k + 8) c le long HLE.out (some ⟨b0, o0, none⟩) k c (b.take k) (by exact (byt_cut (HB.out.only hm.only (fun a e hn hq => HFR.out a e hn (by rw [hq]; exact HA.out.fg)))).1) (by omega)).mono ?_
  intro e w2 hor
  obtain ⟨A5, c5, rfl, hown, hbl⟩ := hor.len (n := 8) (Sec.cmac_length _ _ _ _ _ _ _ HOK.out)
  clear hor
  replace hm := hm.got hbl hown
  clear hown
  simp only [List.nil_append, List.cons_append] at hm
  go_wp2_with (first | go_skip | ((with_reducible show wpList _ _ _ _ _ (World.alloc _ _)); refine wpList_up hm ?_; clear hm; intro n w hn hn2 hk hm hd hd2 ho; (try rw [← hn]); replace hn := Nat.le_of_eq hn.symm) | ((first | ((with_reducible show wpList _ _ _ (Oper.mk _ (Op.box _ _) _ _ _ _ :: _) _ _); (refine bxA hm ?_; clear hm; intro n w hn hz hm ho; (try simp only [List.cons_append, List.nil_append] at hm))) | ((with_reducible show wpList _ _ _ (Oper.mk _ (Op.load _ _) _ _ _ _ :: _) _ _); first | (refine ldA hm ?_) | (refine laA hm ?_)) | ((with_reducible show wpList _ _ _ (Oper.mk _ (Op.store _ _ _) _ _ _ _ :: _) _ _); (refine stA hm ?_; clear hm; intro w hz hm ho)) | ((with_reducible show wpList _ _ _ (Oper.mk _ (Op.alloc _) _ _ _ _ :: _) _ _); (refine alA hm ?_; clear hm; intro n w hn hz hm ho; (try simp only [List.cons_append, List.nil_append] at hm)))); try simp only [Act.put, sxQ]))
  go_at_call 63
  refine (bytes_Equal (some ⟨b0, o0 + k, none⟩) A5 8 8 (c - k) c5 (b.drop k) (Sec.cmac s cla ins p1 p2 le (b.take k)) _ (by exact (byt_cut (HB.out.only hm.only (fun a e hn hq => HFR.out a e hn (by rw [hq]; exact HA.out.fg)))).2) (by exact (hm.sl_ 0 rfl).byt (Nat.le_refl _))).mono ?_
  rw [HSM.out]
  rintro e w2 ⟨rfl, rfl⟩
  go_wp2_with (first | go_skip | ((with_reducible show wpList _ _ _ _ _ (World.alloc _ _)); refine wpList_up hm ?_; clear hm; intro n w hn hn2 hk hm hd hd2 ho; (try rw [← hn]); replace hn := Nat.le_of_eq hn.symm) | ((first | ((with_reducible show wpList _ _ _ (Oper.mk _ (Op.box _ _) _ _ _ _ :: _) _ _); (refine bxA hm ?_; clear hm; intro n w hn hz hm ho; (try simp only [List.cons_append, List.nil_append] at hm))) | ((with_reducible show wpList _ _ _ (Oper.mk _ (Op.load _ _) _ _ _ _ :: _) _ _); first | (refine ldA hm ?_) | (refine laA hm ?_)) | ((with_reducible show wpList _ _ _ (Oper.mk _ (Op.store _ _ _) _ _ _ _ :: _) _ _); (refine stA hm ?_; clear hm; intro w hz hm ho)) | ((with_reducible show wpList _ _ _ (Oper.mk _ (Op.alloc _) _ _ _ _ :: _) _ _); (refine alA hm ?_; clear hm; intro n w hn hz hm ho; (try simp only [List.cons_append, List.nil_append] at hm)))); try simp only [Act.put, sxQ]))
  refine bodyPost_ret (results_row_tmp rfl _ _ _ 28 _ (0, 0) _ rfl (by exact hm.at_ 2 rfl) Tryz.underlying28 rfl (by kernel_rfl)) rfl ?_
  exact AcRes.bad HA.out HE.out (by decide) (hm.still 0 rfl HK.out)
set_option maxRecDepth 100000 in
theorem acc_mac (w0 : World) (g : Nat) (F : Nat → Prop) (s : Sec.S) (a : ChS) (H : ChAt w0 g F s a) (hcnt : s.cnt < 1000000) (cla ins p1 p2 : Int) (A : Option Addr) (dn c : Nat) (b : List UInt8) (h : Byt w0 w0.heap.size A dn c b) (hfar : ∀ a, A = some a → 0 < dn → ¬ F a.block) (hdn : dn ≤ 70000) (le : Int) (long : Bool) (hs : s.shut = false) (hc : Apd.chk cla ins p1 p2 dn le long = 0) (hk : Apd.cok cla = true) (h16 : ¬ cla / 16 % 2 = 1) (h4 : cla / 4 % 2 = 1) (h1 : Sec.hb s.lvl 1 = true) (h8 : 8 ≤ dn) (hq : b.drop (dn - 8) = Sec.cmac s cla ins p1 p2 le (b.take (dn - 8))) (h2 : Sec.hb s.lvl 2 = false) :
    Calls Tryz.prog 40 #[.pointer (some ⟨g, 0, none⟩), cmdV cla ins p1 p2 A dn c le long] w0 (AcRes w0 g F s a ⟨cla, ins, p1, p2, b, le, long⟩) := by
  have hbl := h.1
  obtain ⟨b0, o0, hA0, hb0⟩ := h.at_ (by omega)
  subst hA0
  obtain ⟨k, hk8⟩ : ∃ k, dn = k + 8 := ⟨dn - 8, by omega⟩
  subst hk8
  rw [Nat.add_sub_cancel] at hq
  have hle := h.2.1
  have i1 : ¬ c = k := by omega
  have i3 : (k : Int) ≤ (k : Int) + 8 := by omega
  have i2 : k ≤ c := by omega
  have i4 : decide ((k : Int) + 8 < 8) = false := decide_eq_false (by omega)
  have i5 : decide (k + 8 < 8) = false := decide_eq_false (by omega)
  have i6 : decide (((k + 8 : Nat) : Int) < 8) = false := decide_eq_false (by omega)
  have hu := uw_mac (x := ⟨cla, ins, p1, p2, b, le, long⟩) hs (by show Apd.chk cla ins p1 p2 b.length le long = 0; rw [hbl]; exact hc) hk h16 h1
  dsimp only at hu
  rw [hbl, Nat.add_sub_cancel, if_neg (by omega)] at hu
  rw [if_neg (fun e => e hq)] at hu
  have hsm : Oct.same (b.drop k) (Sec.cmac s cla ins p1 p2 le (b.take k)) = true := (Oct.same_iff _ _).2 hq
  rw [if_neg (by rw [h2]; exact fun e => by cases e.1)] at hu
  have HE := Lib.hid hu
  have hle2 := chk_le hc
  have HLE := Lib.hid hle2
  have hcl := fun u => apdu_Class cla u
  rw [cls_sec hk h4 h16, hk] at hcl
  have HCL := Lib.hid hcl
  have hby := fun u => apdu_Byte (cla % 4) false false (cla / 128 == 1) u
  rw [(cby_sub hk h4 h16).1, (cby_sub hk h4 h16).2] at hby
  have HBY := Lib.hid hby
  have HSM := Lib.hid hsm
  have HBL := Lib.hid hbl
  have H1 := Lib.hid h1
  clear hcl hby hsm hle2 hle hu h16 hk h4 hbl
  have hck := fun u => apdu_Check cla ins p1 p2 (some ⟨b0, o0, none⟩) (k + 8) c le long u
  rw [hc] at hck
  have HCK := Lib.hid hck
  have HH := Lib.hid (⟨a, H⟩ : ChAt' w0 g F s)
  have HB := Lib.hid h
  have HFR := Lib.hid hfar
  have HLT := Lib.hid H.lt
  have HA := Lib.hid H
  have HS := Lib.hid hs
  have HOK := Lib.hid H.ok
  have HB1 := Lib.hid (has_cells (g := g) HOK.out.lvl 1 (.inl rfl) h1)
  have HB2 := Lib.hid (has_cells (g := g) HOK.out.lvl 2 (.inr (.inl rfl)) h2)
  have HWD : Hid (Sec.unwrapD s ⟨cla, ins, p1, p2, b, le, long⟩ = b.take k) := Lib.hid (by unfold Sec.unwrapD; rw [h2]; dsimp only; rw [HBL.out, Nat.add_sub_cancel]; rfl)
  clear h2
  have HQ := Lib.hid hq
  clear h1 hq
  clear hck hc h hfar
  have hm := H.mem
  have hK := H.blk
  rw [hs] at hm hK
  have HK := Lib.hid hK
  clear H hs hK
  obtain ⟨E, ce, M, cm, R, cr, D, cd, C, cc⟩ := a
  simp only [cch] at hm HK
  unfold cmdV
  have hki : ((s.cnt : Int) + 1) = ((s.cnt + 1 : Nat) : Int) := by omega
  have HKI := Lib.hid hki
  have hci : 0 ≤ (s.cnt : Int) ∧ (s.cnt : Int) < 1000000 := by omega
  obtain ⟨hci0, hci1⟩ := hci
  have HCNT := Lib.hid hcnt
  clear hcnt hki
  generalize hgi : (s.cnt : Int) = ci at *
  have HGI := Lib.hid hgi
  clear hgi
  unfold infoV at HCL HBY
  generalize (cla / 128 == 1) = o128 at *
  generalize hg4 : cla - 4 = cla4 at *
  have HG4 := Lib.hid hg4
  clear hg4
  go_enter Tryz.func40, Tryz.ntmps40
  go_wp2_with (first | go_skip | ((with_reducible show wpList _ _ _ _ _ (World.alloc _ _)); refine wpList_up hm ?_; clear hm; intro n w hn hn2 hk hm hd hd2 ho; (try rw [← hn]); replace hn := Nat.le_of_eq hn.symm) | ((first | ((with_reducible show wpList _ _ _ (Oper.mk _ (Op.box _ _) _ _ _ _ :: _) _ _); (refine bxA hm ?_; clear hm; intro n w hn hz hm ho; (try simp only [List.cons_append, List.nil_append] at hm))) | ((with_reducible show wpList _ _ _ (Oper.mk _ (Op.load _ _) _ _ _ _ :: _) _ _); first | (refine ldA hm ?_) | (refine laA hm ?_)) | ((with_reducible show wpList _ _ _ (Oper.mk _ (Op.store _ _ _) _ _ _ _ :: _) _ _); (refine stA hm ?_; clear hm; intro w hz hm ho)) | ((with_reducible show wpList _ _ _ (Oper.mk _ (Op.alloc _) _ _ _ _ :: _) _ _); (refine alA hm ?_; clear hm; intro n w hn hz hm ho; (try simp only [List.cons_append, List.nil_append] at hm)))); try simp only [Act.put, sxQ]) | (go_at_call 31; refine (HCK.out _).mono ?_; rintro e w2 ⟨rfl, hbl⟩; replace hm := hm.below hbl) | (go_at_call 32; refine (HCL.out _).mono ?_; rintro e w2 ⟨rfl, hbl⟩; replace hm := hm.below hbl) | (go_at_call 33; refine (HB1.out _ _ _ _ _ _ _ _ _ (by exact hm.at_ 0 rfl)).mono ?_; rintro e w2 ⟨rfl, rfl⟩))
  refine wp_region_noPanic ?_
  refine wp_region_held_drew (S := MemS _ _ _ _) (by kernel_rfl) (MemS.of hm.drew) (fun hHeld => ?_)
  refine wpAnyH_fresh (by repeat (first | apply Fresh.a | apply Fresh.b)) ?_
  replace hm := hm.drew
  iterate 10 (first | (refine takeN 0 hHeld ?_) | (refine takeY 0 ?_ hHeld ?_ ?_; rotate_left 1; (first | (intro w9 h9; (with_reducible show (execOp _ (Oper.mk _ (Op.load _ _) _ _ _ _)).run _ _ = _); first | exact h9.ldA) | focus (intro w9 hSw; go_simp; (try (with_reducible rfl)); done))); try simp only [Act.put, sxQ])
  refine wpAnyH_done (by kernel_rfl) ?_ _
  refine NoPanic.normal ?_
  go_wp2_with (first | go_skip | ((with_reducible show wpList _ _ _ _ _ (World.alloc _ _)); refine wpList_up hm ?_; clear hm; intro n w hn hn2 hk hm hd hd2 ho; (try rw [← hn]); replace hn := Nat.le_of_eq hn.symm) | ((first | ((with_reducible show wpList _ _ _ (Oper.mk _ (Op.box _ _) _ _ _ _ :: _) _ _); (refine bxA hm ?_; clear hm; intro n w hn hz hm ho; (try simp only [List.cons_append, List.nil_append] at hm))) | ((with_reducible show wpList _ _ _ (Oper.mk _ (Op.load _ _) _ _ _ _ :: _) _ _); first | (refine ldA hm ?_) | (refine laA hm ?_)) | ((with_reducible show wpList _ _ _ (Oper.mk _ (Op.store _ _ _) _ _ _ _ :: _) _ _); (refine stA hm ?_; clear hm; intro w hz hm ho)) | ((with_reducible show wpList _ _ _ (Oper.mk _ (Op.alloc _) _ _ _ _ :: _) _ _); (refine alA hm ?_; clear hm; intro n w hn hz hm ho; (try simp only [List.cons_append, List.nil_append] at hm)))); try simp only [Act.put, sxQ]))
  go_at_call 38
  refine (ch_cmac _ g F s (ChAt'.away HH.out (R := fun _ => False) (Only.of_below (hm.still 0 rfl HK.out)) (fun _ _ e => e)) cla ins p1 p2 (some ⟨b0, o0, none⟩) (k + 8) c le long HLE.out (some ⟨b0, o0, none⟩) k c (b.take k) (by exact (byt_cut (HB.out.only hm.only (fun a e hn hq => HFR.out a e hn (by rw [hq]; exact HA.out.fg)))).1) (by omega)).mono ?_
  intro e w2 hor
  obtain ⟨A5, c5, rfl, hown, hbl⟩ := hor.len (n := 8) (Sec.cmac_length _ _ _ _ _ _ _ HOK.out)
  clear hor
  replace hm := hm.got hbl hown
  clear hown
  simp only [List.nil_append, List.cons_append] at hm
  go_wp2_with (first | go_skip | ((with_reducible show wpList _ _ _ _ _ (World.alloc _ _)); refine wpList_up hm ?_; clear hm; intro n w hn hn2 hk hm hd hd2 ho; (try rw [← hn]); replace hn := Nat.le_of_eq hn.symm) | ((first | ((with_reducible show wpList _ _ _ (Oper.mk _ (Op.box _ _) _ _ _ _ :: _) _ _); (refine bxA hm ?_; clear hm; intro n w hn hz hm ho; (try simp only [List.cons_append, List.nil_append] at hm))) | ((with_reducible show wpList _ _ _ (Oper.mk _ (Op.load _ _) _ _ _ _ :: _) _ _); first | (refine ldA hm ?_) | (refine laA hm ?_)) | ((with_reducible show wpList _ _ _ (Oper.mk _ (Op.store _ _ _) _ _ _ _ :: _) _ _); (refine stA hm ?_; clear hm; intro w hz hm ho)) | ((with_reducible show wpList _ _ _ (Oper.mk _ (Op.alloc _) _ _ _ _ :: _) _ _); (refine alA hm ?_; clear hm; intro n w hn hz hm ho; (try simp only [List.cons_append, List.nil_append] at hm)))); try simp only [Act.put, sxQ]))
  go_at_call 63
  refine (bytes_Equal (some ⟨b0, o0 + k, none⟩) A5 8 8 (c - k) c5 (b.drop k) (Sec.cmac s cla ins p1 p2 le (b.take k)) _ (by exact (byt_cut (HB.out.only hm.only (fun a e hn hq => HFR.out a e hn (by rw [hq]; exact HA.out.fg)))).2) (by exact (hm.sl_ 0 rfl).byt (Nat.le_refl _))).mono ?_
  rw [HSM.out]
  rintro e w2 ⟨rfl, rfl⟩
  go_wp2_with (first | go_skip | ((with_reducible show wpList _ _ _ _ _ (World.alloc _ _)); refine wpList_up hm ?_; clear hm; intro n w hn hn2 hk hm hd hd2 ho; (try rw [← hn]); replace hn := Nat.le_of_eq hn.symm) | ((first | ((with_reducible show wpList _ _ _ (Oper.mk _ (Op.box _ _) _ _ _ _ :: _) _ _); (refine bxA hm ?_; clear hm; intro n w hn hz hm ho; (try simp only [List.cons_append, List.nil_append] at hm))) | ((with_reducible show wpList _ _ _ (Oper.mk _ (Op.load _ _) _ _ _ _ :: _) _ _); first | (refine ldA hm ?_) | (refine laA hm ?_)) | ((with_reducible show wpList _ _ _ (Oper.mk _ (Op.store _ _ _) _ _ _ _ :: _) _ _); (refine stA hm ?_; clear hm; intro w hz hm ho)) | ((with_reducible show wpList _ _ _ (Oper.mk _ (Op.alloc _) _ _ _ _ :: _) _ _); (refine alA hm ?_; clear hm; intro n w hn hz hm ho; (try simp only [List.cons_append, List.nil_append] at hm)))); try simp only [Act.put, sxQ]))
  go_at_call 36
  refine (HBY.out _).mono ?_
  rintro e w2 ⟨rfl, hbl⟩
  replace hm := hm.below hbl
  go_wp2_with (first | go_skip | ((with_reducible show wpList _ _ _ _ _ (World.alloc _ _)); refine wpList_up hm ?_; clear hm; intro n w hn hn2 hk hm hd hd2 ho; (try rw [← hn]); replace hn := Nat.le_of_eq hn.symm) | ((first | ((with_reducible show wpList _ _ _ (Oper.mk _ (Op.box _ _) _ _ _ _ :: _) _ _); (refine bxA hm ?_; clear hm; intro n w hn hz hm ho; (try simp only [List.cons_append, List.nil_append] at hm))) | ((with_reducible show wpList _ _ _ (Oper.mk _ (Op.load _ _) _ _ _ _ :: _) _ _); first | (refine ldA hm ?_) | (refine laA hm ?_)) | ((with_reducible show wpList _ _ _ (Oper.mk _ (Op.store _ _ _) _ _ _ _ :: _) _ _); (refine stA hm ?_; clear hm; intro w hz hm ho)) | ((with_reducible show wpList _ _ _ (Oper.mk _ (Op.alloc _) _ _ _ _ :: _) _ _); (refine alA hm ?_; clear hm; intro n w hn hz hm ho; (try simp only [List.cons_append, List.nil_append] at hm)))); try simp only [Act.put, sxQ]))
  go_at_call 11
  refine (slices_Clone (some ⟨b0, o0, none⟩) k c (b.take k) _ (by exact (byt_cut (HB.out.only hm.only (fun a e hn hq => HFR.out a e hn (by rw [hq]; exact HA.out.fg)))).1) (by omega)).mono ?_
  rintro e w2 ⟨A6, c6, rfl, hown, hbl⟩
  replace hm := hm.got hbl hown
  clear hown
  simp only [List.nil_append, List.cons_append] at hm
  go_wp2_with (first | go_skip | ((with_reducible show wpList _ _ _ _ _ (World.alloc _ _)); refine wpList_up hm ?_; clear hm; intro n w hn hn2 hk hm hd hd2 ho; (try rw [← hn]); replace hn := Nat.le_of_eq hn.symm) | ((first | ((with_reducible show wpList _ _ _ (Oper.mk _ (Op.box _ _) _ _ _ _ :: _) _ _); (refine bxA hm ?_; clear hm; intro n w hn hz hm ho; (try simp only [List.cons_append, List.nil_append] at hm))) | ((with_reducible show wpList _ _ _ (Oper.mk _ (Op.load _ _) _ _ _ _ :: _) _ _); first | (refine ldA hm ?_) | (refine laA hm ?_)) | ((with_reducible show wpList _ _ _ (Oper.mk _ (Op.store _ _ _) _ _ _ _ :: _) _ _); (refine stA hm ?_; clear hm; intro w hz hm ho)) | ((with_reducible show wpList _ _ _ (Oper.mk _ (Op.alloc _) _ _ _ _ :: _) _ _); (refine alA hm ?_; clear hm; intro n w hn hz hm ho; (try simp only [List.cons_append, List.nil_append] at hm)))); try simp only [Act.put, sxQ]))
  go_at_call 33
  refine (HB2.out _ _ _ _ _ _ _ _ _ (by exact hm.at_ 0 rfl)).mono ?_
  rintro e w2 ⟨rfl, rfl⟩
  go_wp2_with (first | go_skip | ((with_reducible show wpList _ _ _ _ _ (World.alloc _ _)); refine wpList_up hm ?_; clear hm; intro n w hn hn2 hk hm hd hd2 ho; (try rw [← hn]); replace hn := Nat.le_of_eq hn.symm) | ((first | ((with_reducible show wpList _ _ _ (Oper.mk _ (Op.box _ _) _ _ _ _ :: _) _ _); (refine bxA hm ?_; clear hm; intro n w hn hz hm ho; (try simp only [List.cons_append, List.nil_append] at hm))) | ((with_reducible show wpList _ _ _ (Oper.mk _ (Op.load _ _) _ _ _ _ :: _) _ _); first | (refine ldA hm ?_) | (refine laA hm ?_)) | ((with_reducible show wpList _ _ _ (Oper.mk _ (Op.store _ _ _) _ _ _ _ :: _) _ _); (refine stA hm ?_; clear hm; intro w hz hm ho)) | ((with_reducible show wpList _ _ _ (Oper.mk _ (Op.alloc _) _ _ _ _ :: _) _ _); (refine alA hm ?_; clear hm; intro n w hn hz hm ho; (try simp only [List.cons_append, List.nil_append] at hm)))); try simp only [Act.put, sxQ]))
  rw [HKI.out] at hm
  go_at_call 11
  refine (slices_Clone (some ⟨b0, o0 + k, none⟩) 8 (c - k) (b.drop k) _ (by exact (byt_cut (HB.out.only hm.only (fun a e hn hq => HFR.out a e hn (by rw [hq]; exact HA.out.fg)))).2) (by omega)).mono ?_
  rintro e w2 ⟨A8, c8, rfl, hown, hbl⟩
  replace hm := hm.got hbl hown
  clear hown
  simp only [List.nil_append, List.cons_append] at hm
  go_wp2_with (first | go_skip | ((with_reducible show wpList _ _ _ _ _ (World.alloc _ _)); refine wpList_up hm ?_; clear hm; intro n w hn hn2 hk hm hd hd2 ho; (try rw [← hn]); replace hn := Nat.le_of_eq hn.symm) | ((first | ((with_reducible show wpList _ _ _ (Oper.mk _ (Op.box _ _) _ _ _ _ :: _) _ _); (refine bxA hm ?_; clear hm; intro n w hn hz hm ho; (try simp only [List.cons_append, List.nil_append] at hm))) | ((with_reducible show wpList _ _ _ (Oper.mk _ (Op.load _ _) _ _ _ _ :: _) _ _); first | (refine ldA hm ?_) | (refine laA hm ?_)) | ((with_reducible show wpList _ _ _ (Oper.mk _ (Op.store _ _ _) _ _ _ _ :: _) _ _); (refine stA hm ?_; clear hm; intro w hz hm ho)) | ((with_reducible show wpList _ _ _ (Oper.mk _ (Op.alloc _) _ _ _ _ :: _) _ _); (refine alA hm ?_; clear hm; intro n w hn hz hm ho; (try simp only [List.cons_append, List.nil_append] at hm)))); try simp only [Act.put, sxQ]))
  refine bodyPost_ret (results_row_tmp rfl _ _ _ 28 _ (0, 0) _ rfl (by exact hm.at_ 2 rfl) Tryz.underlying28 rfl (by kernel_rfl)) rfl ?_
  have hon := hm.only
  have hfo := far_of hm 0 2 rfl rfl (by omega)
  have hl8 : (b.drop k).length = 8 := by rw [List.length_drop, HBL.out, Nat.add_sub_cancel_left]
  have hfl := HA.out.chained hon (cnt := s.cnt + 1) (exp := true) (shut := false) (C := A8) (cc := c8) (F' := fun q => F q ∨ ∃ a, A8 = some a ∧ q = a.block) (m := b.drop k) (fun q hq => .inl hq) (by
    rintro q (hq | ⟨a, ha, rfl⟩)
    · exact Nat.lt_of_lt_of_le (HLT.out q hq) hon.size
    · exact (hfo a ha).2.1) hl8 ⟨(hm.sl_ 2 rfl).byt (Nat.le_refl _), fun a ha => ⟨.inr ⟨a, ha, rfl⟩, (hfo a ha).1⟩⟩ (by exact hm.at_ 0 rfl)
  rw [S_eq HS.out] at hfl
  have hown := hm.freshG 0 1 rfl rfl
  have h4 := HG4.out
  subst h4
  refine AcRes.mac HE.out HS.out H1.out HWD.out (by dsimp only; rw [HBL.out, Nat.add_sub_cancel]) (by rw [List.length_take, HBL.out]; omega) hown ⟨_, hfl⟩ hon (by
    rintro q (hq | ⟨a, ha, rfl⟩)
    · exact .inl hq
    · exact .inr (hfo a ha).2.2) (by
    rintro q (hq | ⟨a, ha, rfl⟩) e
    · have := HLT.out q hq; have := (hown.lt q e).1; omega
    · exact far_two2 hm 1 2 (by decide) rfl rfl (by omega) ha e)
set_option maxRecDepth 100000 in
theorem acc_bad (w0 : World) (g : Nat) (F : Nat → Prop) (s : Sec.S) (a : ChS) (H : ChAt w0 g F s a) (hcnt : s.cnt < 1000000) (cla ins p1 p2 : Int) (A : Option Addr) (dn c : Nat) (b : List UInt8) (h : Byt w0 w0.heap.size A dn c b) (hfar : ∀ a, A = some a → 0 < dn → ¬ F a.block) (hdn : dn ≤ 70000) (le : Int) (long : Bool) (hs : s.shut = false) (hc : Apd.chk cla ins p1 p2 dn le long = 0) (hk : Apd.cok cla = true) (h16 : ¬ cla / 16 % 2 = 1) (h4 : cla / 4 % 2 = 1) (h1 : Sec.hb s.lvl 1 = true) (h8 : 8 ≤ dn) (hq : b.drop (dn - 8) = Sec.cmac s cla ins p1 p2 le (b.take (dn - 8))) (h2 : Sec.hb s.lvl 2 = true) (hsh : Sec.show? { s with cnt := s.cnt + 1 } false (b.take (dn - 8)) = none) :
    Calls Tryz.prog 40 #[.pointer (some ⟨g, 0, none⟩), cmdV cla ins p1 p2 A dn c le long] w0 (AcRes w0 g F s a ⟨cla, ins, p1, p2, b, le, long⟩) := by
  have hbl := h.1
  obtain ⟨b0, o0, hA0, hb0⟩ := h.at_ (by omega)
  subst hA0
  obtain ⟨k, hk8⟩ : ∃ k, dn = k + 8 := ⟨dn - 8, by omega⟩
  subst hk8
  rw [Nat.add_sub_cancel] at hq hsh
  have hle := h.2.1
  have i1 : ¬ c = k := by omega
  have i3 : (k : Int) ≤ (k : Int) + 8 := by omega
  have i2 : k ≤ c := by omega
  have i4 : decide ((k : Int) + 8 < 8) = false := decide_eq_false (by omega)
  have i5 : decide (k + 8 < 8) = false := decide_eq_false (by omega)
  have i6 : decide (((k + 8 : Nat) : Int) < 8) = false := decide_eq_false (by omega)
  have hu := uw_mac (x := ⟨cla, ins, p1, p2, b, le, long⟩) hs (by show Apd.chk cla ins p1 p2 b.length le long = 0; rw [hbl]; exact hc) hk h16 h1
  dsimp only at hu
  rw [hbl, Nat.add_sub_cancel, if_neg (by omega)] at hu
  rw [if_neg (fun e => e hq)] at hu
  have hsm : Oct.same (b.drop k) (Sec.cmac s cla ins p1 p2 le (b.take k)) = true := (Oct.same_iff _ _).2 hq
  rw [if_pos ⟨h2, hsh⟩] at hu
  have HE := Lib.hid hu
  have hle2 := chk_le hc
  have HLE := Lib.hid hle2
  have hcl := fun u => apdu_Class cla u
  rw [cls_sec hk h4 h16, hk] at hcl
  have HCL := Lib.hid hcl
  have hby := fun u => apdu_Byte (cla % 4) false false (cla / 128 == 1) u
  rw [(cby_sub hk h4 h16).1, (cby_sub hk h4 h16).2] at hby
  have HBY := Lib.hid hby
  have HSM := Lib.hid hsm
  have HBL := Lib.hid hbl
  have H1 := Lib.hid h1
  clear hcl hby hsm hle2 hle hu h16 hk h4 hbl
  have hck := fun u => apdu_Check cla ins p1 p2 (some ⟨b0, o0, none⟩) (k + 8) c le long u
  rw [hc] at hck
  have HCK := Lib.hid hck
  have HH := Lib.hid (⟨a, H⟩ : ChAt' w0 g F s)
  have HB := Lib.hid h
  have HFR := Lib.hid hfar
  have HLT := Lib.hid H.lt
  have HA := Lib.hid H
  have HS := Lib.hid hs
  have HOK := Lib.hid H.ok
  have HB1 := Lib.hid (has_cells (g := g) HOK.out.lvl 1 (.inl rfl) h1)
  have HB2 := Lib.hid (has_cells (g := g) HOK.out.lvl 2 (.inr (.inl rfl)) h2)
  have HWD : Hid (Sec.unwrapD s ⟨cla, ins, p1, p2, b, le, long⟩ = []) := Lib.hid (by unfold Sec.unwrapD; rw [h2]; dsimp only; rw [HBL.out, Nat.add_sub_cancel]; rw [hsh]; rfl)
  clear h2
  have HSH := Lib.hid hsh
  clear hsh
  have HQ := Lib.hid hq
  clear h1 hq
  clear hck hc h hfar
  have hm := H.mem
  have hK := H.blk
  rw [hs] at hm hK
  have HK := Lib.hid hK
  clear H hs hK
  obtain ⟨E, ce, M, cm, R, cr, D, cd, C, cc⟩ := a
  simp only [cch] at hm HK
  unfold cmdV
  have hki : ((s.cnt : Int) + 1) = ((s.cnt + 1 : Nat) : Int) := by omega
  have HKI := Lib.hid hki
  have hci : 0 ≤ (s.cnt : Int) ∧ (s.cnt : Int) < 1000000 := by omega
  obtain ⟨hci0, hci1⟩ := hci
  have HCNT := Lib.hid hcnt
  clear hcnt hki
  generalize hgi : (s.cnt : Int) = ci at *
  have HGI := Lib.hid hgi
  clear hgi
  unfold infoV at HCL HBY
  generalize (cla / 128 == 1) = o128 at *
  generalize hg4 : cla - 4 = cla4 at *
  have HG4 := Lib.hid hg4
  clear hg4
  go_enter Tryz.func40, Tryz.ntmps40
  go_wp2_with (first | go_skip | ((with_reducible show wpList _ _ _ _ _ (World.alloc _ _)); refine wpList_up hm ?_; clear hm; intro n w hn hn2 hk hm hd hd2 ho; (try rw [← hn]); replace hn := Nat.le_of_eq hn.symm) | ((first | ((with_reducible show wpList _ _ _ (Oper.mk _ (Op.box _ _) _ _ _ _ :: _) _ _); (refine bxA hm ?_; clear hm; intro n w hn hz hm ho; (try simp only [List.cons_append, List.nil_append] at hm))) | ((with_reducible show wpList _ _ _ (Oper.mk _ (Op.load _ _) _ _ _ _ :: _) _ _); first | (refine ldA hm ?_) | (refine laA hm ?_)) | ((with_reducible show wpList _ _ _ (Oper.mk _ (Op.store _ _ _) _ _ _ _ :: _) _ _); (refine stA hm ?_; clear hm; intro w hz hm ho)) | ((with_reducible show wpList _ _ _ (Oper.mk _ (Op.alloc _) _ _ _ _ :: _) _ _); (refine alA hm ?_; clear hm; intro n w hn hz hm ho; (try simp only [List.cons_append, List.nil_append] at hm)))); try simp only [Act.put, sxQ]) | (go_at_call 31; refine (HCK.out _).mono ?_; rintro e w2 ⟨rfl, hbl⟩; replace hm := hm.below hbl) | (go_at_call 32; refine (HCL.out _).mono ?_; rintro e w2 ⟨rfl, hbl⟩; replace hm := hm.below hbl) | (go_at_call 33; refine (HB1.out _ _ _ _ _ _ _ _ _ (by exact hm.at_ 0 rfl)).mono ?_; rintro e w2 ⟨rfl, rfl⟩))
  refine wp_region_noPanic ?_
  refine wp_region_held_drew (S := MemS _ _ _ _) (by kernel_rfl) (MemS.of hm.drew) (fun hHeld => ?_)
  refine wpAnyH_fresh (by repeat (first | apply Fresh.a | apply Fresh.b)) ?_
  replace hm := hm.drew
  iterate 10 (first | (refine takeN 0 hHeld ?_) | (refine takeY 0 ?_ hHeld ?_ ?_; rotate_left 1; (first | (intro w9 h9; (with_reducible show (execOp _ (Oper.mk _ (Op.load _ _) _ _ _ _)).run _ _ = _); first | exact h9.ldA) | focus (intro w9 hSw; go_simp; (try (with_reducible rfl)); done))); try simp only [Act.put, sxQ])
  refine wpAnyH_done (by kernel_rfl) ?_ _
  refine NoPanic.normal ?_
  go_wp2_with (first | go_skip | ((with_reducible show wpList _ _ _ _ _ (World.alloc _ _)); refine wpList_up hm ?_; clear hm; intro n w hn hn2 hk hm hd hd2 ho; (try rw [← hn]); replace hn := Nat.le_of_eq hn.symm) | ((first | ((with_reducible show wpList _ _ _ (Oper.mk _ (Op.box _ _) _ _ _ _ :: _) _ _); (refine bxA hm ?_; clear hm; intro n w hn hz hm ho; (try simp only [List.cons_append, List.nil_append] at hm))) | ((with_reducible show wpList _ _ _ (Oper.mk _ (Op.load _ _) _ _ _ _ :: _) _ _); first | (refine ldA hm ?_) | (refine laA hm ?_)) | ((with_reducible show wpList _ _ _ (Oper.mk _ (Op.store _ _ _) _ _ _ _ :: _) _ _); (refine stA hm ?_; clear hm; intro w hz hm ho)) | ((with_reducible show wpList _ _ _ (Oper.mk _ (Op.alloc _) _ _ _ _ :: _) _ _); (refine alA hm ?_; clear hm; intro n w hn hz hm ho; (try simp only [List.cons_append, List.nil_append] at hm)))); try simp only [Act.put, sxQ]))
  go_at_call 38
  refine (ch_cmac _ g F s (ChAt'.away HH.out (R := fun _ => False) (Only.of_below (hm.still 0 rfl HK.out)) (fun _ _ e => e)) cla ins p1 p2 (some ⟨b0, o0, none⟩) (k + 8) c le long HLE.out (some ⟨b0, o0, none⟩) k c (b.take k) (by exact (byt_cut (HB.out.only hm.only (fun a e hn hq => HFR.out a e hn (by rw [hq]; exact HA.out.fg)))).1) (by omega)).mono ?_
  intro e w2 hor
  obtain ⟨A5, c5, rfl, hown, hbl⟩ := hor.len (n := 8) (Sec.cmac_length _ _ _ _ _ _ _ HOK.out)
  clear hor
  replace hm := hm.got hbl hown
  clear hown
  simp only [List.nil_append, List.cons_append] at hm
  go_wp2_with (first | go_skip | ((with_reducible show wpList _ _ _ _ _ (World.alloc _ _)); refine wpList_up hm ?_; clear hm; intro n w hn hn2 hk hm hd hd2 ho; (try rw [← hn]); replace hn := Nat.le_of_eq hn.symm) | ((first | ((with_reducible show wpList _ _ _ (Oper.mk _ (Op.box _ _) _ _ _ _ :: _) _ _); (refine bxA hm ?_; clear hm; intro n w hn hz hm ho; (try simp only [List.cons_append, List.nil_append] at hm))) | ((with_reducible show wpList _ _ _ (Oper.mk _ (Op.load _ _) _ _ _ _ :: _) _ _); first | (refine ldA hm ?_) | (refine laA hm ?_)) | ((with_reducible show wpList _ _ _ (Oper.mk _ (Op.store _ _ _) _ _ _ _ :: _) _ _); (refine stA hm ?_; clear hm; intro w hz hm ho)) | ((with_reducible show wpList _ _ _ (Oper.mk _ (Op.alloc _) _ _ _ _ :: _) _ _); (refine alA hm ?_; clear hm; intro n w hn hz hm ho; (try simp only [List.cons_append, List.nil_append] at hm)))); try simp only [Act.put, sxQ]))
  go_at_call 63
  refine (bytes_Equal (some ⟨b0, o0 + k, none⟩) A5 8 8 (c - k) c5 (b.drop k) (Sec.cmac s cla ins p1 p2 le (b.take k)) _ (by exact (byt_cut (HB.out.only hm.only (fun a e hn hq => HFR.out a e hn (by rw [hq]; exact HA.out.fg)))).2) (by exact (hm.sl_ 0 rfl).byt (Nat.le_refl _))).mono ?_
  rw [HSM.out]
  rintro e w2 ⟨rfl, rfl⟩
  go_wp2_with (first | go_skip | ((with_reducible show wpList _ _ _ _ _ (World.alloc _ _)); refine wpList_up hm ?_; clear hm; intro n w hn hn2 hk hm hd hd2 ho; (try rw [← hn]); replace hn := Nat.le_of_eq hn.symm) | ((first | ((with_reducible show wpList _ _ _ (Oper.mk _ (Op.box _ _) _ _ _ _ :: _) _ _); (refine bxA hm ?_; clear hm; intro n w hn hz hm ho; (try simp only [List.cons_append, List.nil_append] at hm))) | ((with_reducible show wpList _ _ _ (Oper.mk _ (Op.load _ _) _ _ _ _ :: _) _ _); first | (refine ldA hm ?_) | (refine laA hm ?_)) | ((with_reducible show wpList _ _ _ (Oper.mk _ (Op.store _ _ _) _ _ _ _ :: _) _ _); (refine stA hm ?_; clear hm; intro w hz hm ho)) | ((with_reducible show wpList _ _ _ (Oper.mk _ (Op.alloc _) _ _ _ _ :: _) _ _); (refine alA hm ?_; clear hm; intro n w hn hz hm ho; (try simp only [List.cons_append, List.nil_append] at hm)))); try simp only [Act.put, sxQ]))
  go_at_call 36
  refine (HBY.out _).mono ?_
  rintro e w2 ⟨rfl, hbl⟩
  replace hm := hm.below hbl
  go_wp2_with (first | go_skip | ((with_reducible show wpList _ _ _ _ _ (World.alloc _ _)); refine wpList_up hm ?_; clear hm; intro n w hn hn2 hk hm hd hd2 ho; (try rw [← hn]); replace hn := Nat.le_of_eq hn.symm) | ((first | ((with_reducible show wpList _ _ _ (Oper.mk _ (Op.box _ _) _ _ _ _ :: _) _ _); (refine bxA hm ?_; clear hm; intro n w hn hz hm ho; (try simp only [List.cons_append, List.nil_append] at hm))) | ((with_reducible show wpList _ _ _ (Oper.mk _ (Op.load _ _) _ _ _ _ :: _) _ _); first | (refine ldA hm ?_) | (refine laA hm ?_)) | ((with_reducible show wpList _ _ _ (Oper.mk _ (Op.store _ _ _) _ _ _ _ :: _) _ _); (refine stA hm ?_; clear hm; intro w hz hm ho)) | ((with_reducible show wpList _ _ _ (Oper.mk _ (Op.alloc _) _ _ _ _ :: _) _ _); (refine alA hm ?_; clear hm; intro n w hn hz hm ho; (try simp only [List.cons_append, List.nil_append] at hm)))); try simp only [Act.put, sxQ]))
  go_at_call 11
  refine (slices_Clone (some ⟨b0, o0, none⟩) k c (b.take k) _ (by exact (byt_cut (HB.out.only hm.only (fun a e hn hq => HFR.out a e hn (by rw [hq]; exact HA.out.fg)))).1) (by omega)).mono ?_
  rintro e w2 ⟨A6, c6, rfl, hown, hbl⟩
  replace hm := hm.got hbl hown
  clear hown
  simp only [List.nil_append, List.cons_append] at hm
  go_wp2_with (first | go_skip | ((with_reducible show wpList _ _ _ _ _ (World.alloc _ _)); refine wpList_up hm ?_; clear hm; intro n w hn hn2 hk hm hd hd2 ho; (try rw [← hn]); replace hn := Nat.le_of_eq hn.symm) | ((first | ((with_reducible show wpList _ _ _ (Oper.mk _ (Op.box _ _) _ _ _ _ :: _) _ _); (refine bxA hm ?_; clear hm; intro n w hn hz hm ho; (try simp only [List.cons_append, List.nil_append] at hm))) | ((with_reducible show wpList _ _ _ (Oper.mk _ (Op.load _ _) _ _ _ _ :: _) _ _); first | (refine ldA hm ?_) | (refine laA hm ?_)) | ((with_reducible show wpList _ _ _ (Oper.mk _ (Op.store _ _ _) _ _ _ _ :: _) _ _); (refine stA hm ?_; clear hm; intro w hz hm ho)) | ((with_reducible show wpList _ _ _ (Oper.mk _ (Op.alloc _) _ _ _ _ :: _) _ _); (refine alA hm ?_; clear hm; intro n w hn hz hm ho; (try simp only [List.cons_append, List.nil_append] at hm)))); try simp only [Act.put, sxQ]))
  go_at_call 33
  refine (HB2.out _ _ _ _ _ _ _ _ _ (by exact hm.at_ 0 rfl)).mono ?_
  rintro e w2 ⟨rfl, rfl⟩
  go_wp2_with (first | go_skip | ((with_reducible show wpList _ _ _ _ _ (World.alloc _ _)); refine wpList_up hm ?_; clear hm; intro n w hn hn2 hk hm hd hd2 ho; (try rw [← hn]); replace hn := Nat.le_of_eq hn.symm) | ((first | ((with_reducible show wpList _ _ _ (Oper.mk _ (Op.box _ _) _ _ _ _ :: _) _ _); (refine bxA hm ?_; clear hm; intro n w hn hz hm ho; (try simp only [List.cons_append, List.nil_append] at hm))) | ((with_reducible show wpList _ _ _ (Oper.mk _ (Op.load _ _) _ _ _ _ :: _) _ _); first | (refine ldA hm ?_) | (refine laA hm ?_)) | ((with_reducible show wpList _ _ _ (Oper.mk _ (Op.store _ _ _) _ _ _ _ :: _) _ _); (refine stA hm ?_; clear hm; intro w hz hm ho)) | ((with_reducible show wpList _ _ _ (Oper.mk _ (Op.alloc _) _ _ _ _ :: _) _ _); (refine alA hm ?_; clear hm; intro n w hn hz hm ho; (try simp only [List.cons_append, List.nil_append] at hm)))); try simp only [Act.put, sxQ]))
  rw [HKI.out] at hm
  have hfl := HA.out.flags hm.only (cnt := s.cnt + 1) (exp := s.exp) (shut := false) (by exact hm.at_ 0 rfl)
  rw [S_eq2 HS.out] at hfl
  go_at_call 64
  refine (ch_decrypt _ g F { s with cnt := s.cnt + 1 } ⟨_, hfl⟩ (by have := HCNT.out; show s.cnt + 1 ≤ 1000000; omega) (some ⟨b0, o0, none⟩) k c (b.take k) (by exact (byt_cut (HB.out.only hm.only (fun a e hn hq => HFR.out a e hn (by rw [hq]; exact HA.out.fg)))).1) (by omega) false).mono ?_
  rw [HSH.out]
  clear hfl
  rintro e w2 ⟨hbl, ⟨_, rfl⟩ | ⟨d, A7, n7, c7, e2, _⟩⟩
  rotate_left 1
  · cases e2
  replace hm := hm.below hbl
  go_wp2_with (first | go_skip | ((with_reducible show wpList _ _ _ _ _ (World.alloc _ _)); refine wpList_up hm ?_; clear hm; intro n w hn hn2 hk hm hd hd2 ho; (try rw [← hn]); replace hn := Nat.le_of_eq hn.symm) | ((first | ((with_reducible show wpList _ _ _ (Oper.mk _ (Op.box _ _) _ _ _ _ :: _) _ _); (refine bxA hm ?_; clear hm; intro n w hn hz hm ho; (try simp only [List.cons_append, List.nil_append] at hm))) | ((with_reducible show wpList _ _ _ (Oper.mk _ (Op.load _ _) _ _ _ _ :: _) _ _); first | (refine ldA hm ?_) | (refine laA hm ?_)) | ((with_reducible show wpList _ _ _ (Oper.mk _ (Op.store _ _ _) _ _ _ _ :: _) _ _); (refine stA hm ?_; clear hm; intro w hz hm ho)) | ((with_reducible show wpList _ _ _ (Oper.mk _ (Op.alloc _) _ _ _ _ :: _) _ _); (refine alA hm ?_; clear hm; intro n w hn hz hm ho; (try simp only [List.cons_append, List.nil_append] at hm)))); try simp only [Act.put, sxQ]))
  refine bodyPost_ret (results_row_tmp rfl _ _ _ 28 _ (0, 0) _ rfl (by exact hm.at_ 2 rfl) Tryz.underlying28 rfl (by kernel_rfl)) rfl ?_
  have hfl := HA.out.flags hm.only (cnt := s.cnt + 1) (exp := s.exp) (shut := false) (by exact hm.at_ 0 rfl)
  rw [S_eq2 HS.out] at hfl
  exact AcRes.bad2 HE.out (by decide) hm.only hfl
set_option maxRecDepth 100000 in
theorem acc_enc (w0 : World) (g : Nat) (F : Nat → Prop) (s : Sec.S) (a : ChS) (H : ChAt w0 g F s a) (hcnt : s.cnt < 1000000) (cla ins p1 p2 : Int) (A : Option Addr) (dn c : Nat) (b : List UInt8) (h : Byt w0 w0.heap.size A dn c b) (hfar : ∀ a, A = some a → 0 < dn → ¬ F a.block) (hdn : dn ≤ 70000) (le : Int) (long : Bool) (hs : s.shut = false) (hc : Apd.chk cla ins p1 p2 dn le long = 0) (hk : Apd.cok cla = true) (h16 : ¬ cla / 16 % 2 = 1) (h4 : cla / 4 % 2 = 1) (h1 : Sec.hb s.lvl 1 = true) (h8 : 8 ≤ dn) (hq : b.drop (dn - 8) = Sec.cmac s cla ins p1 p2 le (b.take (dn - 8))) (h2 : Sec.hb s.lvl 2 = true) (d : List UInt8) (hsh : Sec.show? { s with cnt := s.cnt + 1 } false (b.take (dn - 8)) = some d) :
    Calls Tryz.prog 40 #[.pointer (some ⟨g, 0, none⟩), cmdV cla ins p1 p2 A dn c le long] w0 (AcRes w0 g F s a ⟨cla, ins, p1, p2, b, le, long⟩) := by
  have hbl := h.1
  obtain ⟨b0, o0, hA0, hb0⟩ := h.at_ (by omega)
  subst hA0
  obtain ⟨k, hk8⟩ : ∃ k, dn = k + 8 := ⟨dn - 8, by omega⟩
  subst hk8
  rw [Nat.add_sub_cancel] at hq hsh
  have hle := h.2.1
  have i1 : ¬ c = k := by omega
  have i3 : (k : Int) ≤ (k : Int) + 8 := by omega
  have i2 : k ≤ c := by omega
  have i4 : decide ((k : Int) + 8 < 8) = false := decide_eq_false (by omega)
  have i5 : decide (k + 8 < 8) = false := decide_eq_false (by omega)
  have i6 : decide (((k + 8 : Nat) : Int) < 8) = false := decide_eq_false (by omega)
  have hu := uw_mac (x := ⟨cla, ins, p1, p2, b, le, long⟩) hs (by show Apd.chk cla ins p1 p2 b.length le long = 0; rw [hbl]; exact hc) hk h16 h1
  dsimp only at hu
  rw [hbl, Nat.add_sub_cancel, if_neg (by omega)] at hu
  rw [if_neg (fun e => e hq)] at hu
  have hsm : Oct.same (b.drop k) (Sec.cmac s cla ins p1 p2 le (b.take k)) = true := (Oct.same_iff _ _).2 hq
  rw [if_neg (by rw [hsh]; exact fun e => by cases e.2)] at hu
  have HE := Lib.hid hu
  have hle2 := chk_le hc
  have HLE := Lib.hid hle2
  have hcl := fun u => apdu_Class cla u
  rw [cls_sec hk h4 h16, hk] at hcl
  have HCL := Lib.hid hcl
  have hby := fun u => apdu_Byte (cla % 4) false false (cla / 128 == 1) u
  rw [(cby_sub hk h4 h16).1, (cby_sub hk h4 h16).2] at hby
  have HBY := Lib.hid hby
  have HSM := Lib.hid hsm
  have HBL := Lib.hid hbl
  have H1 := Lib.hid h1
  clear hcl hby hsm hle2 hle hu h16 hk h4 hbl
  have hck := fun u => apdu_Check cla ins p1 p2 (some ⟨b0, o0, none⟩) (k + 8) c le long u
  rw [hc] at hck
  have HCK := Lib.hid hck
  have HH := Lib.hid (⟨a, H⟩ : ChAt' w0 g F s)
  have HB := Lib.hid h
  have HFR := Lib.hid hfar
  have HLT := Lib.hid H.lt
  have HA := Lib.hid H
  have HS := Lib.hid hs
  have HOK := Lib.hid H.ok
  have HB1 := Lib.hid (has_cells (g := g) HOK.out.lvl 1 (.inl rfl) h1)
  have HB2 := Lib.hid (has_cells (g := g) HOK.out.lvl 2 (.inr (.inl rfl)) h2)
  have HWD : Hid (Sec.unwrapD s ⟨cla, ins, p1, p2, b, le, long⟩ = d) := Lib.hid (by unfold Sec.unwrapD; rw [h2]; dsimp only; rw [HBL.out, Nat.add_sub_cancel]; rw [hsh]; rfl)
  clear h2
  have HSH := Lib.hid hsh
  clear hsh
  have HQ := Lib.hid hq
  clear h1 hq
  clear hck hc h hfar
  have hm := H.mem
  have hK := H.blk
  rw [hs] at hm hK
  have HK := Lib.hid hK
  clear H hs hK
  obtain ⟨E, ce, M, cm, R, cr, D, cd, C, cc⟩ := a
  simp only [cch] at hm HK
  unfold cmdV
  have hki : ((s.cnt : Int) + 1) = ((s.cnt + 1 : Nat) : Int) := by omega
  have HKI := Lib.hid hki
  have hci : 0 ≤ (s.cnt : Int) ∧ (s.cnt : Int) < 1000000 := by omega
  obtain ⟨hci0, hci1⟩ := hci
  have HCNT := Lib.hid hcnt
  clear hcnt hki
  generalize hgi : (s.cnt : Int) = ci at *
  have HGI := Lib.hid hgi
  clear hgi
  unfold infoV at HCL HBY
  generalize (cla / 128 == 1) = o128 at *
  generalize hg4 : cla - 4 = cla4 at *
  have HG4 := Lib.hid hg4
  clear hg4
  go_enter Tryz.func40, Tryz.ntmps40
  go_wp2_with (first | go_skip | ((with_reducible show wpList _ _ _ _ _ (World.alloc _ _)); refine wpList_up hm ?_; clear hm; intro n w hn hn2 hk hm hd hd2 ho; (try rw [← hn]); replace hn := Nat.le_of_eq hn.symm) | ((first | ((with_reducible show wpList _ _ _ (Oper.mk _ (Op.box _ _) _ _ _ _ :: _) _ _); (refine bxA hm ?_; clear hm; intro n w hn hz hm ho; (try simp only [List.cons_append, List.nil_append] at hm))) | ((with_reducible show wpList _ _ _ (Oper.mk _ (Op.load _ _) _ _ _ _ :: _) _ _); first | (refine ldA hm ?_) | (refine laA hm ?_)) | ((with_reducible show wpList _ _ _ (Oper.mk _ (Op.store _ _ _) _ _ _ _ :: _) _ _); (refine stA hm ?_; clear hm; intro w hz hm ho)) | ((with_reducible show wpList _ _ _ (Oper.mk _ (Op.alloc _) _ _ _ _ :: _) _ _); (refine alA hm ?_; clear hm; intro n w hn hz hm ho; (try simp only [List.cons_append, List.nil_append] at hm)))); try simp only [Act.put, sxQ]) | (go_at_call 31; refine (HCK.out _).mono ?_; rintro e w2 ⟨rfl, hbl⟩; replace hm := hm.below hbl) | (go_at_call 32; refine (HCL.out _).mono ?_; rintro e w2 ⟨rfl, hbl⟩; replace hm := hm.below hbl) | (go_at_call 33; refine (HB1.out _ _ _ _ _ _ _ _ _ (by exact hm.at_ 0 rfl)).mono ?_; rintro e w2 ⟨rfl, rfl⟩))
  refine wp_region_noPanic ?_
  refine wp_region_held_drew (S := MemS _ _ _ _) (by kernel_rfl) (MemS.of hm.drew) (fun hHeld => ?_)
  refine wpAnyH_fresh (by repeat (first | apply Fresh.a | apply Fresh.b)) ?_
  replace hm := hm.drew
  iterate 10 (first | (refine takeN 0 hHeld ?_) | (refine takeY 0 ?_ hHeld ?_ ?_; rotate_left 1; (first | (intro w9 h9; (with_reducible show (execOp _ (Oper.mk _ (Op.load _ _) _ _ _ _)).run _ _ = _); first | exact h9.ldA) | focus (intro w9 hSw; go_simp; (try (with_reducible rfl)); done))); try simp only [Act.put, sxQ])
  refine wpAnyH_done (by kernel_rfl) ?_ _
  refine NoPanic.normal ?_
  go_wp2_with (first | go_skip | ((with_reducible show wpList _ _ _ _ _ (World.alloc _ _)); refine wpList_up hm ?_; clear hm; intro n w hn hn2 hk hm hd hd2 ho; (try rw [← hn]); replace hn := Nat.le_of_eq hn.symm) | ((first | ((with_reducible show wpList _ _ _ (Oper.mk _ (Op.box _ _) _ _ _ _ :: _) _ _); (refine bxA hm ?_; clear hm; intro n w hn hz hm ho; (try simp only [List.cons_append, List.nil_append] at hm))) | ((with_reducible show wpList _ _ _ (Oper.mk _ (Op.load _ _) _ _ _ _ :: _) _ _); first | (refine ldA hm ?_) | (refine laA hm ?_)) | ((with_reducible show wpList _ _ _ (Oper.mk _ (Op.store _ _ _) _ _ _ _ :: _) _ _); (refine stA hm ?_; clear hm; intro w hz hm ho)) | ((with_reducible show wpList _ _ _ (Oper.mk _ (Op.alloc _) _ _ _ _ :: _) _ _); (refine alA hm ?_; clear hm; intro n w hn hz hm ho; (try simp only [List.cons_append, List.nil_append] at hm)))); try simp only [Act.put, sxQ]))
  go_at_call 38
  refine (ch_cmac _ g F s (ChAt'.away HH.out (R := fun _ => False) (Only.of_below (hm.still 0 rfl HK.out)) (fun _ _ e => e)) cla ins p1 p2 (some ⟨b0, o0, none⟩) (k + 8) c le long HLE.out (some ⟨b0, o0, none⟩) k c (b.take k) (by exact (byt_cut (HB.out.only hm.only (fun a e hn hq => HFR.out a e hn (by rw [hq]; exact HA.out.fg)))).1) (by omega)).mono ?_
  intro e w2 hor
  obtain ⟨A5, c5, rfl, hown, hbl⟩ := hor.len (n := 8) (Sec.cmac_length _ _ _ _ _ _ _ HOK.out)
  clear hor
  replace hm := hm.got hbl hown
  clear hown
  simp only [List.nil_append, List.cons_append] at hm
  go_wp2_with (first | go_skip | ((with_reducible show wpList _ _ _ _ _ (World.alloc _ _)); refine wpList_up hm ?_; clear hm; intro n w hn hn2 hk hm hd hd2 ho; (try rw [← hn]); replace hn := Nat.le_of_eq hn.symm) | ((first | ((with_reducible show wpList _ _ _ (Oper.mk _ (Op.box _ _) _ _ _ _ :: _) _ _); (refine bxA hm ?_; clear hm; intro n w hn hz hm ho; (try simp only [List.cons_append, List.nil_append] at hm))) | ((with_reducible show wpList _ _ _ (Oper.mk _ (Op.load _ _) _ _ _ _ :: _) _ _); first | (refine ldA hm ?_) | (refine laA hm ?_)) | ((with_reducible show wpList _ _ _ (Oper.mk _ (Op.store _ _ _) _ _ _ _ :: _) _ _); (refine stA hm ?_; clear hm; intro w hz hm ho)) | ((with_reducible show wpList _ _ _ (Oper.mk _ (Op.alloc _) _ _ _ _ :: _) _ _); (refine alA hm ?_; clear hm; intro n w hn hz hm ho; (try simp only [List.cons_append, List.nil_append] at hm)))); try simp only [Act.put, sxQ]))
  go_at_call 63
  refine (bytes_Equal (some ⟨b0, o0 + k, none⟩) A5 8 8 (c - k) c5 (b.drop k) (Sec.cmac s cla ins p1 p2 le (b.take k)) _ (by exact (byt_cut (HB.out.only hm.only (fun a e hn hq => HFR.out a e hn (by rw [hq]; exact HA.out.fg)))).2) (by exact (hm.sl_ 0 rfl).byt (Nat.le_refl _))).mono ?_
  rw [HSM.out]
  rintro e w2 ⟨rfl, rfl⟩
  go_wp2_with (first | go_skip | ((with_reducible show wpList _ _ _ _ _ (World.alloc _ _)); refine wpList_up hm ?_; clear hm; intro n w hn hn2 hk hm hd hd2 ho; (try rw [← hn]); replace hn := Nat.le_of_eq hn.symm) | ((first | ((with_reducible show wpList _ _ _ (Oper.mk _ (Op.box _ _) _ _ _ _ :: _) _ _); (refine bxA hm ?_; clear hm; intro n w hn hz hm ho; (try simp only [List.cons_append, List.nil_append] at hm))) | ((with_reducible show wpList _ _ _ (Oper.mk _ (Op.load _ _) _ _ _ _ :: _) _ _); first | (refine ldA hm ?_) | (refine laA hm ?_)) | ((with_reducible show wpList _ _ _ (Oper.mk _ (Op.store _ _ _) _ _ _ _ :: _) _ _); (refine stA hm ?_; clear hm; intro w hz hm ho)) | ((with_reducible show wpList _ _ _ (Oper.mk _ (Op.alloc _) _ _ _ _ :: _) _ _); (refine alA hm ?_; clear hm; intro n w hn hz hm ho; (try simp only [List.cons_append, List.nil_append] at hm)))); try simp only [Act.put, sxQ]))
  go_at_call 36
  refine (HBY.out _).mono ?_
  rintro e w2 ⟨rfl, hbl⟩
  replace hm := hm.below hbl
  go_wp2_with (first | go_skip | ((with_reducible show wpList _ _ _ _ _ (World.alloc _ _)); refine wpList_up hm ?_; clear hm; intro n w hn hn2 hk hm hd hd2 ho; (try rw [← hn]); replace hn := Nat.le_of_eq hn.symm) | ((first | ((with_reducible show wpList _ _ _ (Oper.mk _ (Op.box _ _) _ _ _ _ :: _) _ _); (refine bxA hm ?_; clear hm; intro n w hn hz hm ho; (try simp only [List.cons_append, List.nil_append] at hm))) | ((with_reducible show wpList _ _ _ (Oper.mk _ (Op.load _ _) _ _ _ _ :: _) _ _); first | (refine ldA hm ?_) | (refine laA hm ?_)) | ((with_reducible show wpList _ _ _ (Oper.mk _ (Op.store _ _ _) _ _ _ _ :: _) _ _); (refine stA hm ?_; clear hm; intro w hz hm ho)) | ((with_reducible show wpList _ _ _ (Oper.mk _ (Op.alloc _) _ _ _ _ :: _) _ _); (refine alA hm ?_; clear hm; intro n w hn hz hm ho; (try simp only [List.cons_append, List.nil_append] at hm)))); try simp only [Act.put, sxQ]))
  go_at_call 11
  refine (slices_Clone (some ⟨b0, o0, none⟩) k c (b.take k) _ (by exact (byt_cut (HB.out.only hm.only (fun a e hn hq => HFR.out a e hn (by rw [hq]; exact HA.out.fg)))).1) (by omega)).mono ?_
  rintro e w2 ⟨A6, c6, rfl, hown, hbl⟩
  replace hm := hm.got hbl hown
  clear hown
  simp only [List.nil_append, List.cons_append] at hm
  go_wp2_with (first | go_skip | ((with_reducible show wpList _ _ _ _ _ (World.alloc _ _)); refine wpList_up hm ?_; clear hm; intro n w hn hn2 hk hm hd hd2 ho; (try rw [← hn]); replace hn := Nat.le_of_eq hn.symm) | ((first | ((with_reducible show wpList _ _ _ (Oper.mk _ (Op.box _ _) _ _ _ _ :: _) _ _); (refine bxA hm ?_; clear hm; intro n w hn hz hm ho; (try simp only [List.cons_append, List.nil_append] at hm))) | ((with_reducible show wpList _ _ _ (Oper.mk _ (Op.load _ _) _ _ _ _ :: _) _ _); first | (refine ldA hm ?_) | (refine laA hm ?_)) | ((with_reducible show wpList _ _ _ (Oper.mk _ (Op.store _ _ _) _ _ _ _ :: _) _ _); (refine stA hm ?_; clear hm; intro w hz hm ho)) | ((with_reducible show wpList _ _ _ (Oper.mk _ (Op.alloc _) _ _ _ _ :: _) _ _); (refine alA hm ?_; clear hm; intro n w hn hz hm ho; (try simp only [List.cons_append, List.nil_append] at hm)))); try simp only [Act.put, sxQ]))
  go_at_call 33
  refine (HB2.out _ _ _ _ _ _ _ _ _ (by exact hm.at_ 0 rfl)).mono ?_
  rintro e w2 ⟨rfl, rfl⟩
  go_wp2_with (first | go_skip | ((with_reducible show wpList _ _ _ _ _ (World.alloc _ _)); refine wpList_up hm ?_; clear hm; intro n w hn hn2 hk hm hd hd2 ho; (try rw [← hn]); replace hn := Nat.le_of_eq hn.symm) | ((first | ((with_reducible show wpList _ _ _ (Oper.mk _ (Op.box _ _) _ _ _ _ :: _) _ _); (refine bxA hm ?_; clear hm; intro n w hn hz hm ho; (try simp only [List.cons_append, List.nil_append] at hm))) | ((with_reducible show wpList _ _ _ (Oper.mk _ (Op.load _ _) _ _ _ _ :: _) _ _); first | (refine ldA hm ?_) | (refine laA hm ?_)) | ((with_reducible show wpList _ _ _ (Oper.mk _ (Op.store _ _ _) _ _ _ _ :: _) _ _); (refine stA hm ?_; clear hm; intro w hz hm ho)) | ((with_reducible show wpList _ _ _ (Oper.mk _ (Op.alloc _) _ _ _ _ :: _) _ _); (refine alA hm ?_; clear hm; intro n w hn hz hm ho; (try simp only [List.cons_append, List.nil_append] at hm)))); try simp only [Act.put, sxQ]))
  rw [HKI.out] at hm
  have hfl := HA.out.flags hm.only (cnt := s.cnt + 1) (exp := s.exp) (shut := false) (by exact hm.at_ 0 rfl)
  rw [S_eq2 HS.out] at hfl
  go_at_call 64
  refine (ch_decrypt _ g F { s with cnt := s.cnt + 1 } ⟨_, hfl⟩ (by have := HCNT.out; show s.cnt + 1 ≤ 1000000; omega) (some ⟨b0, o0, none⟩) k c (b.take k) (by exact (byt_cut (HB.out.only hm.only (fun a e hn hq => HFR.out a e hn (by rw [hq]; exact HA.out.fg)))).1) (by omega) false).mono ?_
  rw [HSH.out]
  clear hfl
  rintro e w2 ⟨hbl, ⟨e2, _⟩ | ⟨d2, A7, n7, c7, e2, hn7, rfl, hown⟩⟩
  · cases e2
  injection e2 with e2
  subst e2
  replace hm := hm.got hbl hown
  clear hown
  simp only [List.nil_append, List.cons_append] at hm
  go_wp2_with (first | go_skip | ((with_reducible show wpList _ _ _ _ _ (World.alloc _ _)); refine wpList_up hm ?_; clear hm; intro n w hn hn2 hk hm hd hd2 ho; (try rw [← hn]); replace hn := Nat.le_of_eq hn.symm) | ((first | ((with_reducible show wpList _ _ _ (Oper.mk _ (Op.box _ _) _ _ _ _ :: _) _ _); (refine bxA hm ?_; clear hm; intro n w hn hz hm ho; (try simp only [List.cons_append, List.nil_append] at hm))) | ((with_reducible show wpList _ _ _ (Oper.mk _ (Op.load _ _) _ _ _ _ :: _) _ _); first | (refine ldA hm ?_) | (refine laA hm ?_)) | ((with_reducible show wpList _ _ _ (Oper.mk _ (Op.store _ _ _) _ _ _ _ :: _) _ _); (refine stA hm ?_; clear hm; intro w hz hm ho)) | ((with_reducible show wpList _ _ _ (Oper.mk _ (Op.alloc _) _ _ _ _ :: _) _ _); (refine alA hm ?_; clear hm; intro n w hn hz hm ho; (try simp only [List.cons_append, List.nil_append] at hm)))); try simp only [Act.put, sxQ]))
  go_at_call 11
  refine (slices_Clone (some ⟨b0, o0 + k, none⟩) 8 (c - k) (b.drop k) _ (by exact (byt_cut (HB.out.only hm.only (fun a e hn hq => HFR.out a e hn (by rw [hq]; exact HA.out.fg)))).2) (by omega)).mono ?_
  rintro e w2 ⟨A8, c8, rfl, hown, hbl⟩
  replace hm := hm.got hbl hown
  clear hown
  simp only [List.nil_append, List.cons_append] at hm
  go_wp2_with (first | go_skip | ((with_reducible show wpList _ _ _ _ _ (World.alloc _ _)); refine wpList_up hm ?_; clear hm; intro n w hn hn2 hk hm hd hd2 ho; (try rw [← hn]); replace hn := Nat.le_of_eq hn.symm) | ((first | ((with_reducible show wpList _ _ _ (Oper.mk _ (Op.box _ _) _ _ _ _ :: _) _ _); (refine bxA hm ?_; clear hm; intro n w hn hz hm ho; (try simp only [List.cons_append, List.nil_append] at hm))) | ((with_reducible show wpList _ _ _ (Oper.mk _ (Op.load _ _) _ _ _ _ :: _) _ _); first | (refine ldA hm ?_) | (refine laA hm ?_)) | ((with_reducible show wpList _ _ _ (Oper.mk _ (Op.store _ _ _) _ _ _ _ :: _) _ _); (refine stA hm ?_; clear hm; intro w hz hm ho)) | ((with_reducible show wpList _ _ _ (Oper.mk _ (Op.alloc _) _ _ _ _ :: _) _ _); (refine alA hm ?_; clear hm; intro n w hn hz hm ho; (try simp only [List.cons_append, List.nil_append] at hm)))); try simp only [Act.put, sxQ]))
  refine bodyPost_ret (results_row_tmp rfl _ _ _ 28 _ (0, 0) _ rfl (by exact hm.at_ 2 rfl) Tryz.underlying28 rfl (by kernel_rfl)) rfl ?_
  have hon := hm.only
  have hfo := far_of hm 0 3 rfl rfl (by omega)
  have hl8 : (b.drop k).length = 8 := by rw [List.length_drop, HBL.out, Nat.add_sub_cancel_left]
  have hfl := HA.out.chained hon (cnt := s.cnt + 1) (exp := true) (shut := false) (C := A8) (cc := c8) (F' := fun q => F q ∨ ∃ a, A8 = some a ∧ q = a.block) (m := b.drop k) (fun q hq => .inl hq) (by
    rintro q (hq | ⟨a, ha, rfl⟩)
    · exact Nat.lt_of_lt_of_le (HLT.out q hq) hon.size
    · exact (hfo a ha).2.1) hl8 ⟨(hm.sl_ 3 rfl).byt (Nat.le_refl _), fun a ha => ⟨.inr ⟨a, ha, rfl⟩, (hfo a ha).1⟩⟩ (by exact hm.at_ 0 rfl)
  rw [S_eq HS.out] at hfl
  have hown := hm.freshG 0 2 rfl rfl
  have h4 := HG4.out
  subst h4
  refine AcRes.mac HE.out HS.out H1.out HWD.out (by dsimp only; rw [HBL.out, Nat.add_sub_cancel]) hn7 hown ⟨_, hfl⟩ hon (by
    rintro q (hq | ⟨a, ha, rfl⟩)
    · exact .inl hq
    · exact .inr (hfo a ha).2.2) (by
    rintro q (hq | ⟨a, ha, rfl⟩) e
    · have := HLT.out q hq; have := (hown.lt q e).1; omega
    · exact far_two2 hm 2 3 (by decide) rfl rfl (by omega) ha e)
end Go.Proofs.YtibaibdgpnkdnaaGreatDoor
