/-
  awake: the laws' own example.
-/
import Derived.Test.YtibaibdgpnkdnaaGreatDoorZ1
import Derived.Test.YtibaibdgpnkdnaaGreatDoorSecH
namespace Go.Proofs.YtibaibdgpnkdnaaGreatDoor
set_option maxRecDepth 100000
set_option linter.unusedSimpArgs false
set_option linter.unusedVariables false
open Go.RowKit
set_option maxHeartbeats 8000000

def Sec.s0 : Sec.S := ⟨List.replicate 16 1, List.replicate 16 2, List.replicate 16 3, List.replicate 16 4, 1, zs 8, 0, false, false⟩
def Sec.x0 : Apd.Cmd := ⟨0, 176, 0, 0, [], 4, false⟩
theorem Sec.s0_ok : Sec.Ok Sec.s0 := { enc := rfl, mac := rfl, rmac := rfl, dat := rfl, lvl := rfl, chain := rfl }
theorem Sec.x0_wrap : Sec.wrapE Sec.s0 Sec.x0 = 0 := by decide +kernel
theorem Sec.x0_facts : ∃ s1 M, M.length = 8 ∧ Sec.wrap Sec.s0 Sec.x0 = (s1, ⟨4, 176, 0, 0, M, 4, false⟩) ∧ s1.cnt = 1 ∧ s1.lvl = 1 ∧ s1.shut = false ∧ Sec.unwrapE Sec.s0 ⟨4, 176, 0, 0, M, 4, false⟩ = 0 ∧ Sec.unwrap Sec.s0 ⟨4, 176, 0, 0, M, 4, false⟩ = (s1, Sec.x0) := by
  have h1 : Sec.hb Sec.s0.lvl 1 = true := by decide
  have h2 := Sec.wrap_mac Sec.x0_wrap h1
  have hl : (Sec.wrapM Sec.s0 Sec.x0).length = 8 := Sec.cmac_length _ _ _ _ _ _ _ Sec.s0_ok
  have hd : Sec.wrapD Sec.s0 Sec.x0 = [] := by unfold Sec.wrapD; rw [if_neg (by decide)]; rfl
  rw [hd, List.nil_append, hl] at h2
  have h3 := Sec.unwrap_wrap Sec.s0_ok Sec.x0 Sec.x0_wrap
  rw [h2] at h3
  refine ⟨_, Sec.wrapM Sec.s0 Sec.x0, hl, h2, rfl, rfl, rfl, h3.1, ?_⟩
  exact Prod.ext h3.2.1 h3.2.2
set_option maxRecDepth 100000 in
theorem law24_awake (w0 : World) (hg : HasEt w0) : Calls Tryz.prog 7 #[] w0 fun e w' => e = .returned (.bool true) ∧ Below w0.heap.size w0 w' := by
  have HG := Lib.hid hg
  have HP := Lib.hid hg.pos
  clear hg
  have HK1 := Lib.hid (fun u => law_key 1 u)
  have HK2 := Lib.hid (fun u => law_key 2 u)
  have HK3 := Lib.hid (fun u => law_key 3 u)
  have HK4 := Lib.hid (fun u => law_key 4 u)
  have m8 : ∀ u : World, (Instr.makeSlice 22 (.int .i64 8) (.int .i64 8)).run Tryz.prog u = .ok (.slice (some ⟨u.heap.size, 0, none⟩) 8 8) (u.alloc (.cells (zc 8) 5)) := fun _ => by kernel_rfl
  obtain ⟨s1, Mc, hM, hwr, hc1, hl1, hs1, hue, hun⟩ := Sec.x0_facts
  have HM := Lib.hid hM
  have HWR := Lib.hid hwr
  have HC1 := Lib.hid hc1
  have HL1 := Lib.hid hl1
  have HS1 := Lib.hid hs1
  have HUE := Lib.hid hue
  have HUN := Lib.hid hun
  clear hM hwr hc1 hl1 hs1 hue hun
  have HC := Lib.hid (Scn.start w0)
  have hm := HC.out.rebase
  go_enter Tryz.func7, Tryz.ntmps7
  go_wp2_with (first | go_skip | ((with_reducible show wpList _ _ _ _ _ (World.alloc _ _)); refine wpList_up hm ?_; clear hm; intro n w hn hn2 hk hm hd hd2 ho; (try rw [← hn]); replace hn := Nat.le_of_eq hn.symm) | ((first | ((with_reducible show wpList _ _ _ (Oper.mk _ (Op.box _ _) _ _ _ _ :: _) _ _); (refine bxA hm ?_; clear hm; intro n w hn hz hm ho; (try simp only [List.cons_append, List.nil_append] at hm))) | ((with_reducible show wpList _ _ _ (Oper.mk _ (Op.load _ _) _ _ _ _ :: _) _ _); first | (refine ldA hm ?_) | (refine laA hm ?_)) | ((with_reducible show wpList _ _ _ (Oper.mk _ (Op.store _ _ _) _ _ _ _ :: _) _ _); (refine stA hm ?_; clear hm; intro w hz hm ho)) | ((with_reducible show wpList _ _ _ (Oper.mk _ (Op.alloc _) _ _ _ _ :: _) _ _); (refine alA hm ?_; clear hm; intro n w hn hz hm ho; (try simp only [List.cons_append, List.nil_append] at hm)))); try simp only [Act.put, sxQ]))
  go_at_call 13
  refine (HK1.out _).mono ?_
  intro e w2 hor
  obtain ⟨A1, c1, rfl, hown, hbl⟩ := hor.len (n := 16) (by simp)
  have hc2 := (HC.out.resync hm).got hbl hown
  clear hor hown hbl
  clear HC hm
  simp only [List.nil_append, List.cons_append, List.set_cons_zero, List.set_cons_succ] at hc2
  have HC := Lib.hid hc2
  clear hc2
  have hm := HC.out.rebase
  go_wp2_with (first | go_skip | ((with_reducible show wpList _ _ _ _ _ (World.alloc _ _)); refine wpList_up hm ?_; clear hm; intro n w hn hn2 hk hm hd hd2 ho; (try rw [← hn]); replace hn := Nat.le_of_eq hn.symm) | ((first | ((with_reducible show wpList _ _ _ (Oper.mk _ (Op.box _ _) _ _ _ _ :: _) _ _); (refine bxA hm ?_; clear hm; intro n w hn hz hm ho; (try simp only [List.cons_append, List.nil_append] at hm))) | ((with_reducible show wpList _ _ _ (Oper.mk _ (Op.load _ _) _ _ _ _ :: _) _ _); first | (refine ldA hm ?_) | (refine laA hm ?_)) | ((with_reducible show wpList _ _ _ (Oper.mk _ (Op.store _ _ _) _ _ _ _ :: _) _ _); (refine stA hm ?_; clear hm; intro w hz hm ho)) | ((with_reducible show wpList _ _ _ (Oper.mk _ (Op.alloc _) _ _ _ _ :: _) _ _); (refine alA hm ?_; clear hm; intro n w hn hz hm ho; (try simp only [List.cons_append, List.nil_append] at hm)))); try simp only [Act.put, sxQ]))
  go_at_call 13
  refine (HK2.out _).mono ?_
  intro e w2 hor
  obtain ⟨A2, c2, rfl, hown, hbl⟩ := hor.len (n := 16) (by simp)
  have hc2 := (HC.out.resync hm).got hbl hown
  clear hor hown hbl
  clear HC hm
  simp only [List.nil_append, List.cons_append, List.set_cons_zero, List.set_cons_succ] at hc2
  have HC := Lib.hid hc2
  clear hc2
  have hm := HC.out.rebase
  go_wp2_with (first | go_skip | ((with_reducible show wpList _ _ _ _ _ (World.alloc _ _)); refine wpList_up hm ?_; clear hm; intro n w hn hn2 hk hm hd hd2 ho; (try rw [← hn]); replace hn := Nat.le_of_eq hn.symm) | ((first | ((with_reducible show wpList _ _ _ (Oper.mk _ (Op.box _ _) _ _ _ _ :: _) _ _); (refine bxA hm ?_; clear hm; intro n w hn hz hm ho; (try simp only [List.cons_append, List.nil_append] at hm))) | ((with_reducible show wpList _ _ _ (Oper.mk _ (Op.load _ _) _ _ _ _ :: _) _ _); first | (refine ldA hm ?_) | (refine laA hm ?_)) | ((with_reducible show wpList _ _ _ (Oper.mk _ (Op.store _ _ _) _ _ _ _ :: _) _ _); (refine stA hm ?_; clear hm; intro w hz hm ho)) | ((with_reducible show wpList _ _ _ (Oper.mk _ (Op.alloc _) _ _ _ _ :: _) _ _); (refine alA hm ?_; clear hm; intro n w hn hz hm ho; (try simp only [List.cons_append, List.nil_append] at hm)))); try simp only [Act.put, sxQ]))
  go_at_call 13
  refine (HK3.out _).mono ?_
  intro e w2 hor
  obtain ⟨A3, c3, rfl, hown, hbl⟩ := hor.len (n := 16) (by simp)
  have hc2 := (HC.out.resync hm).got hbl hown
  clear hor hown hbl
  clear HC hm
  simp only [List.nil_append, List.cons_append, List.set_cons_zero, List.set_cons_succ] at hc2
  have HC := Lib.hid hc2
  clear hc2
  have hm := HC.out.rebase
  go_wp2_with (first | go_skip | ((with_reducible show wpList _ _ _ _ _ (World.alloc _ _)); refine wpList_up hm ?_; clear hm; intro n w hn hn2 hk hm hd hd2 ho; (try rw [← hn]); replace hn := Nat.le_of_eq hn.symm) | ((first | ((with_reducible show wpList _ _ _ (Oper.mk _ (Op.box _ _) _ _ _ _ :: _) _ _); (refine bxA hm ?_; clear hm; intro n w hn hz hm ho; (try simp only [List.cons_append, List.nil_append] at hm))) | ((with_reducible show wpList _ _ _ (Oper.mk _ (Op.load _ _) _ _ _ _ :: _) _ _); first | (refine ldA hm ?_) | (refine laA hm ?_)) | ((with_reducible show wpList _ _ _ (Oper.mk _ (Op.store _ _ _) _ _ _ _ :: _) _ _); (refine stA hm ?_; clear hm; intro w hz hm ho)) | ((with_reducible show wpList _ _ _ (Oper.mk _ (Op.alloc _) _ _ _ _ :: _) _ _); (refine alA hm ?_; clear hm; intro n w hn hz hm ho; (try simp only [List.cons_append, List.nil_append] at hm)))); try simp only [Act.put, sxQ]))
  go_at_call 13
  refine (HK4.out _).mono ?_
  intro e w2 hor
  obtain ⟨A4, c4, rfl, hown, hbl⟩ := hor.len (n := 16) (by simp)
  have hc2 := (HC.out.resync hm).got hbl hown
  clear hor hown hbl
  clear HC hm
  simp only [List.nil_append, List.cons_append, List.set_cons_zero, List.set_cons_succ] at hc2
  have HC := Lib.hid hc2
  clear hc2
  have hm := HC.out.rebase
  go_wp2_with (first | go_skip | ((with_reducible show wpList _ _ _ _ _ (World.alloc _ _)); refine wpList_up hm ?_; clear hm; intro n w hn hn2 hk hm hd hd2 ho; (try rw [← hn]); replace hn := Nat.le_of_eq hn.symm) | ((first | ((with_reducible show wpList _ _ _ (Oper.mk _ (Op.box _ _) _ _ _ _ :: _) _ _); (refine bxA hm ?_; clear hm; intro n w hn hz hm ho; (try simp only [List.cons_append, List.nil_append] at hm))) | ((with_reducible show wpList _ _ _ (Oper.mk _ (Op.load _ _) _ _ _ _ :: _) _ _); first | (refine ldA hm ?_) | (refine laA hm ?_)) | ((with_reducible show wpList _ _ _ (Oper.mk _ (Op.store _ _ _) _ _ _ _ :: _) _ _); (refine stA hm ?_; clear hm; intro w hz hm ho)) | ((with_reducible show wpList _ _ _ (Oper.mk _ (Op.alloc _) _ _ _ _ :: _) _ _); (refine alA hm ?_; clear hm; intro n w hn hz hm ho; (try simp only [List.cons_append, List.nil_append] at hm)))); try simp only [Act.put, sxQ]))
  refine wp_region_noPanic ?_
  refine wp_region_held_drew (S := KnS _ _) (by kernel_rfl) (KnS.of hm.drew (Rngs.nil _)) (fun hHeld => ?_)
  refine wpAnyH_fresh (by repeat (first | apply Fresh.a | apply Fresh.b)) ?_
  replace hm := hm.drew
  iterate 1 (first | (refine takeN 0 hHeld ?_) | (refine takeY 0 ?_ hHeld ?_ ?_; rotate_left 1; (first | (intro w9 h9; (with_reducible show (execOp _ (Oper.mk _ (Op.load _ _) _ _ _ _)).run _ _ = _); first | exact h9.ldA | exact h9.lcA | exact h9.laA | exact h9.lrA) | focus (intro w9 hSw; go_simp; (try (with_reducible rfl)); done))); try simp only [Act.put, sxQ])
  refine wpAnyH_ready (rs := [1]) (by kernel_rfl) (by simp) ?_
  refine AllReadyH.cons2 (by simp only [sxN]; first | done | exact rfl) (fun K hK => ?_)
  rw [if_pos (by rfl)]
  go_simp
  refine K_up hm ?_
  intro n5 w5 hn hn5s hn5 hm1 hn5d hn5d2 hb1
  first | rw [← hn] | rw [← (show n5 = w.heap.size from hn)] | rw [← (show n5 = w2.heap.size from hn)]
  clear hn hm
  have hm := hm1.row hn5 hn5s hn5d hn5d2 1 8 (bcells (zs 8)) rfl rfl (by unfold maxLen; omega)
  clear hm1 hn5 hn5d hn5d2
  refine hK.out _ _ (KnS.of hm (Rngs.nil _)) (fun hHeld => ?_)
  clear hK K
  try simp only [Act.put, sxQ]
  refine wpAnyH_ready (rs := [2]) (by kernel_rfl) (by simp) ?_
  refine AllReadyH.cons2 (by simp only [sxN]; first | done | exact rfl) (fun K hK => ?_)
  rw [if_pos (by rfl)]
  go_simp
  have hc2 := HC.out.resync hm
  clear HC hm
  simp only [List.nil_append, List.cons_append, List.set_cons_zero, List.set_cons_succ] at hc2
  have HC := Lib.hid hc2
  clear hc2
  have hm := HC.out.rebase
  refine (SnAt.new (a := ⟨A1, 16, c1, A2, 16, c2, A3, 16, c3, A4, 16, c4⟩) (s := ⟨List.replicate 16 1, List.replicate 16 2, List.replicate 16 3, List.replicate 16 4, 1, zs 8, 0, false, false⟩) { enc := (HC.out.resync hm).byt 0 rfl, mac := (HC.out.resync hm).byt 1 rfl, rmac := (HC.out.resync hm).byt 2 rfl, dat := (HC.out.resync hm).byt 3 rfl, chain := (HC.out.resync hm).byt 4 rfl, lvl := by decide, cnt := rfl, exp := rfl, shut := rfl }).mono ?_
  rw [show okSn ⟨A1, 16, c1, A2, 16, c2, A3, 16, c3, A4, 16, c4⟩ 1 8 = true by rfl]
  rintro e w2 ⟨hbl, ⟨hv, _⟩ | ⟨_, g1, F1, rfl, hch, hF⟩⟩
  · cases hv
  have hc2 := (HC.out.resync hm).born hbl hch.sup hF
  clear hch hF hbl
  clear HC hm
  simp only [List.nil_append, List.cons_append, List.set_cons_zero, List.set_cons_succ] at hc2
  have HC := Lib.hid hc2
  clear hc2
  have hm := HC.out.rebase
  go_simp
  refine hK.out _ _ (KnS.of hm (Rngs.nil _)) (fun hHeld => ?_)
  clear hK K
  try simp only [Act.put, sxQ]
  iterate 1 (first | (refine takeN 3 hHeld ?_) | (refine takeY 3 ?_ hHeld ?_ ?_; rotate_left 1; (first | (intro w9 h9; (with_reducible show (execOp _ (Oper.mk _ (Op.load _ _) _ _ _ _)).run _ _ = _); first | exact h9.ldA | exact h9.lcA | exact h9.laA | exact h9.lrA) | focus (intro w9 hSw; go_simp; (try (with_reducible rfl)); done))); try simp only [Act.put, sxQ])
  refine wpAnyH_done (by kernel_rfl) ?_ _
  refine NoPanic.normal ?_
  go_wp2_with (first | go_skip | ((with_reducible show wpList _ _ _ _ _ (World.alloc _ _)); refine wpList_up hm ?_; clear hm; intro n w hn hn2 hk hm hd hd2 ho; (try rw [← hn]); replace hn := Nat.le_of_eq hn.symm) | ((first | ((with_reducible show wpList _ _ _ (Oper.mk _ (Op.box _ _) _ _ _ _ :: _) _ _); (refine bxA hm ?_; clear hm; intro n w hn hz hm ho; (try simp only [List.cons_append, List.nil_append] at hm))) | ((with_reducible show wpList _ _ _ (Oper.mk _ (Op.load _ _) _ _ _ _ :: _) _ _); first | (refine ldA hm ?_) | (refine laA hm ?_)) | ((with_reducible show wpList _ _ _ (Oper.mk _ (Op.store _ _ _) _ _ _ _ :: _) _ _); (refine stA hm ?_; clear hm; intro w hz hm ho)) | ((with_reducible show wpList _ _ _ (Oper.mk _ (Op.alloc _) _ _ _ _ :: _) _ _); (refine alA hm ?_; clear hm; intro n w hn hz hm ho; (try simp only [List.cons_append, List.nil_append] at hm)))); try simp only [Act.put, sxQ]))
  refine wp_region_noPanic ?_
  refine wp_region_held_drew (S := KnS _ _) (by kernel_rfl) (KnS.of hm.drew (Rngs.nil _)) (fun hHeld => ?_)
  refine wpAnyH_fresh (by repeat (first | apply Fresh.a | apply Fresh.b)) ?_
  replace hm := hm.drew
  iterate 1 (first | (refine takeN 0 hHeld ?_) | (refine takeY 0 ?_ hHeld ?_ ?_; rotate_left 1; (first | (intro w9 h9; (with_reducible show (execOp _ (Oper.mk _ (Op.load _ _) _ _ _ _)).run _ _ = _); first | exact h9.ldA | exact h9.lcA | exact h9.laA | exact h9.lrA) | focus (intro w9 hSw; go_simp; (try (with_reducible rfl)); done))); try simp only [Act.put, sxQ])
  refine wpAnyH_ready (rs := [1]) (by kernel_rfl) (by simp) ?_
  refine AllReadyH.cons2 (by simp only [sxN]; first | done | exact rfl) (fun K hK => ?_)
  rw [if_pos (by rfl)]
  go_simp
  refine K_up hm ?_
  intro n5 w5 hn hn5s hn5 hm1 hn5d hn5d2 hb1
  first | rw [← hn] | rw [← (show n5 = w.heap.size from hn)] | rw [← (show n5 = w2.heap.size from hn)]
  clear hn hm
  have hm := hm1.row hn5 hn5s hn5d hn5d2 1 8 (bcells (zs 8)) rfl rfl (by unfold maxLen; omega)
  clear hm1 hn5 hn5d hn5d2
  refine hK.out _ _ (KnS.of hm (Rngs.nil _)) (fun hHeld => ?_)
  clear hK K
  try simp only [Act.put, sxQ]
  refine wpAnyH_ready (rs := [2]) (by kernel_rfl) (by simp) ?_
  refine AllReadyH.cons2 (by simp only [sxN]; first | done | exact rfl) (fun K hK => ?_)
  rw [if_pos (by rfl)]
  go_simp
  have hc2 := HC.out.resync hm
  clear HC hm
  simp only [List.nil_append, List.cons_append, List.set_cons_zero, List.set_cons_succ] at hc2
  have HC := Lib.hid hc2
  clear hc2
  have hm := HC.out.rebase
  refine (SnAt.new (a := ⟨A1, 16, c1, A2, 16, c2, A3, 16, c3, A4, 16, c4⟩) (s := ⟨List.replicate 16 1, List.replicate 16 2, List.replicate 16 3, List.replicate 16 4, 1, zs 8, 0, false, false⟩) { enc := (HC.out.resync hm).byt 0 rfl, mac := (HC.out.resync hm).byt 1 rfl, rmac := (HC.out.resync hm).byt 2 rfl, dat := (HC.out.resync hm).byt 3 rfl, chain := (HC.out.resync hm).byt 5 rfl, lvl := by decide, cnt := rfl, exp := rfl, shut := rfl }).mono ?_
  rw [show okSn ⟨A1, 16, c1, A2, 16, c2, A3, 16, c3, A4, 16, c4⟩ 1 8 = true by rfl]
  rintro e w2 ⟨hbl, ⟨hv, _⟩ | ⟨_, g2, F2, rfl, hch, hF⟩⟩
  · cases hv
  have hc2 := (HC.out.resync hm).born hbl hch.sup hF
  clear hch hF hbl
  clear HC hm
  simp only [List.nil_append, List.cons_append, List.set_cons_zero, List.set_cons_succ] at hc2
  have HC := Lib.hid hc2
  clear hc2
  have hm := HC.out.rebase
  go_simp
  refine hK.out _ _ (KnS.of hm (Rngs.nil _)) (fun hHeld => ?_)
  clear hK K
  try simp only [Act.put, sxQ]
  iterate 1 (first | (refine takeN 3 hHeld ?_) | (refine takeY 3 ?_ hHeld ?_ ?_; rotate_left 1; (first | (intro w9 h9; (with_reducible show (execOp _ (Oper.mk _ (Op.load _ _) _ _ _ _)).run _ _ = _); first | exact h9.ldA | exact h9.lcA | exact h9.laA | exact h9.lrA) | focus (intro w9 hSw; go_simp; (try (with_reducible rfl)); done))); try simp only [Act.put, sxQ])
  refine wpAnyH_done (by kernel_rfl) ?_ _
  refine NoPanic.normal ?_
  go_wp2_with (first | go_skip | ((with_reducible show wpList _ _ _ _ _ (World.alloc _ _)); refine wpList_up hm ?_; clear hm; intro n w hn hn2 hk hm hd hd2 ho; (try rw [← hn]); replace hn := Nat.le_of_eq hn.symm) | ((first | ((with_reducible show wpList _ _ _ (Oper.mk _ (Op.box _ _) _ _ _ _ :: _) _ _); (refine bxA hm ?_; clear hm; intro n w hn hz hm ho; (try simp only [List.cons_append, List.nil_append] at hm))) | ((with_reducible show wpList _ _ _ (Oper.mk _ (Op.load _ _) _ _ _ _ :: _) _ _); first | (refine ldA hm ?_) | (refine laA hm ?_)) | ((with_reducible show wpList _ _ _ (Oper.mk _ (Op.store _ _ _) _ _ _ _ :: _) _ _); (refine stA hm ?_; clear hm; intro w hz hm ho)) | ((with_reducible show wpList _ _ _ (Oper.mk _ (Op.alloc _) _ _ _ _ :: _) _ _); (refine alA hm ?_; clear hm; intro n w hn hz hm ho; (try simp only [List.cons_append, List.nil_append] at hm)))); try simp only [Act.put, sxQ]))
  go_at_call 14
  refine (ch_wrap _ g1 F1 Sec.s0 ((HC.out.resync hm).obj 0 rfl) (by decide) 0 176 0 0 none 0 0 [] ⟨rfl, Nat.le_refl _, Row.nil _ _ _⟩ (fun a e => by cases e) (by omega) 4 false).mono ?_
  intro e w3 hres
  have hres : WrRes _ g1 F1 Sec.s0 Sec.x0 e w3 := hres
  unfold WrRes at hres
  rw [HWR.out, Sec.x0_wrap] at hres
  obtain ⟨A6, c6, F3, rfl, hown, hch, hon, hF, hd⟩ := hres
  dsimp only at hown hch
  rw [HM.out] at hown
  have hc2 := (HC.out.resync hm).turned 0 rfl hon hF hch.sup hown hd
  clear hown hch hon hF hd
  clear HC hm
  simp only [List.nil_append, List.cons_append, List.set_cons_zero, List.set_cons_succ] at hc2
  have HC := Lib.hid hc2
  clear hc2
  have hm := HC.out.rebase
  dsimp only
  rw [HM.out]
  unfold cmdV
  go_wp2_with (first | go_skip | ((with_reducible show wpList _ _ _ _ _ (World.alloc _ _)); refine wpList_up hm ?_; clear hm; intro n w hn hn2 hk hm hd hd2 ho; (try rw [← hn]); replace hn := Nat.le_of_eq hn.symm) | ((first | ((with_reducible show wpList _ _ _ (Oper.mk _ (Op.box _ _) _ _ _ _ :: _) _ _); (refine bxA hm ?_; clear hm; intro n w hn hz hm ho; (try simp only [List.cons_append, List.nil_append] at hm))) | ((with_reducible show wpList _ _ _ (Oper.mk _ (Op.load _ _) _ _ _ _ :: _) _ _); first | (refine ldA hm ?_) | (refine laA hm ?_)) | ((with_reducible show wpList _ _ _ (Oper.mk _ (Op.store _ _ _) _ _ _ _ :: _) _ _); (refine stA hm ?_; clear hm; intro w hz hm ho)) | ((with_reducible show wpList _ _ _ (Oper.mk _ (Op.alloc _) _ _ _ _ :: _) _ _); (refine alA hm ?_; clear hm; intro n w hn hz hm ho; (try simp only [List.cons_append, List.nil_append] at hm)))); try simp only [Act.put, sxQ]))
  go_at_call 15
  have hby := (HC.out.resync hm).bytO 6 1 rfl rfl
  refine (ch_unwrap _ g2 F2 Sec.s0 ((HC.out.resync hm).obj 1 rfl) (HG.out.below (HC.out.resync hm).low HP.out) (fun h => by have := (HC.out.resync hm).lo 1 rfl 0 h; have := HP.out; omega) (by decide) 4 176 0 0 A6 8 c6 Mc hby.1 hby.2 (by omega) 4 false).mono ?_
  clear hby
  intro e w4 hres
  unfold UnRes at hres
  rw [HUN.out, HUE.out] at hres
  obtain ⟨A7, c7, F4, rfl, hown, hch, hon, hF, hd⟩ := hres
  have hc2 := (HC.out.resync hm).turned 1 rfl hon hF hch.sup hown hd
  clear hown hch hon hF hd
  clear HC hm
  simp only [List.nil_append, List.cons_append, List.set_cons_zero, List.set_cons_succ] at hc2
  have HC := Lib.hid hc2
  clear hc2
  have hm := HC.out.rebase
  unfold Sec.x0
  dsimp only
  unfold cmdV
  go_wp2_with (first | go_skip | ((with_reducible show wpList _ _ _ _ _ (World.alloc _ _)); refine wpList_up hm ?_; clear hm; intro n w hn hn2 hk hm hd hd2 ho; (try rw [← hn]); replace hn := Nat.le_of_eq hn.symm) | ((first | ((with_reducible show wpList _ _ _ (Oper.mk _ (Op.box _ _) _ _ _ _ :: _) _ _); (refine bxA hm ?_; clear hm; intro n w hn hz hm ho; (try simp only [List.cons_append, List.nil_append] at hm))) | ((with_reducible show wpList _ _ _ (Oper.mk _ (Op.load _ _) _ _ _ _ :: _) _ _); first | (refine ldA hm ?_) | (refine laA hm ?_)) | ((with_reducible show wpList _ _ _ (Oper.mk _ (Op.store _ _ _) _ _ _ _ :: _) _ _); (refine stA hm ?_; clear hm; intro w hz hm ho)) | ((with_reducible show wpList _ _ _ (Oper.mk _ (Op.alloc _) _ _ _ _ :: _) _ _); (refine alA hm ?_; clear hm; intro n w hn hz hm ho; (try simp only [List.cons_append, List.nil_append] at hm)))); try simp only [Act.put, sxQ]) | (go_at_call 16; have hcc := ch_count _ g2 F4 s1 ((HC.out.resync hm).obj 1 rfl); rw [HC1.out] at hcc; refine hcc.mono ?_; clear hcc; rintro e w5 ⟨rfl, rfl⟩) | (go_at_call 17; have hcc := ch_level _ g2 F4 s1 ((HC.out.resync hm).obj 1 rfl); rw [HL1.out, if_neg (by rw [HS1.out]; decide)] at hcc; refine hcc.mono ?_; clear hcc; rintro e w5 ⟨rfl, rfl⟩))
  go_ret
  exact ⟨rfl, (HC.out.resync hm).low⟩
end Go.Proofs.YtibaibdgpnkdnaaGreatDoor
