/-
  PageFixes: one wrong bit in each of any words.
-/
import Derived.Test.YtnlhammgcemchaaZ0
import Derived.Test.YtnlhammgcemchaaPgAJ
namespace Go.Proofs.Ytnlhammgcemchaa
set_option maxRecDepth 100000
set_option linter.unusedSimpArgs false
set_option linter.unusedVariables false
open Go.RowKit
set_option maxHeartbeats 8000000

set_option maxRecDepth 100000 in
theorem law_PageFixes_go (nw : Nat) (A : Option Addr) (m c : Nat) (l : List POp) (FA : Option Addr) (fm fc : Nat) (fs : List UInt32) (w0 : World) (h : POps w0 A m c l) (hf : Wds w0 w0.heap.size FA fm fc fs) (h1 : 240 ≤ nw) (h2 : nw ≤ 1024) (hsh : Pg.shortB l = true) (h3 : fm ≤ 300) :
    Calls Try.prog 6 #[.int .i64 (nw : Int), .slice A m c, .slice FA fm fc] w0 fun e w' => e = .returned (.bool true) ∧ Below w0.heap.size w0 w' := by
  have HH := Lib.hid h
  have hm120 : m ≤ 120 := by
    have h9 := h.len
    unfold Pg.shortB at hsh
    simp at hsh
    omega
  have HO := Lib.hid (fun u => law11_open nw u h1 (by omega))
  have HF := Lib.hid (fun (u : World) => ref11_First nw h1 (by omega) u)
  have HS := Lib.hid hsh
  have d1 : decide ((nw : Int) < 240) = false := decide_eq_false (by omega)
  have d2 : decide ((1024 : Int) < (nw : Int)) = false := decide_eq_false (by omega)
  have HFL := Lib.hid hf
  have d3 : decide ((300 : Int) < (fm : Int)) = false := decide_eq_false (by omega)
  have mkb : ∀ u : World, (Instr.makeSlice 58 (.int .i64 (nw : Int)) (.int .i64 (nw : Int))).run Try.prog u = .ok (.slice (some ⟨u.heap.size, 0, none⟩) nw nw) (u.alloc (.cells (Array.replicate nw (Value.bool false)) 4)) := fun u => by
    obtain ⟨ti, hi0, hz0, hz1, hz2⟩ := info_parts (show (Try.prog.info? 4).map (fun i => (i.zero, i.size, i.bytes)) = some (some (.bool false), 1, 1) by kernel_rfl)
    have h := run_make (P := Try.prog) u 58 4 ti (.bool false) Try.underlying58 hi0 hz0 .i64 .i64 (nw : Int) (nw : Int) (by omega) (Int.le_refl _) (by rw [hz2]; omega) (by omega)
    rw [← List.toArray_replicate, ← made_bools]
    simpa [hz1, Value.cells] using h
  clear hf
  have HC := Lib.hid (Scn.start w0)
  have hm := HC.out.rebase
  clear h hsh
  go_enter Try.func6, Try.ntmps6
  go_wp2_with (first | go_skip | ((with_reducible show wpList _ _ _ _ _ (World.alloc _ _)); refine wpList_up hm ?_; clear hm; intro n w hn hn2 hk hm hd hd2 ho; (try rw [← hn]); replace hn := Nat.le_of_eq hn.symm) | ((first | ((with_reducible show wpList _ _ _ (Oper.mk _ (Op.box _ _) _ _ _ _ :: _) _ _); (refine bxA hm ?_; clear hm; intro n w hn hz hm ho; (try simp only [List.cons_append, List.nil_append] at hm))) | ((with_reducible show wpList _ _ _ (Oper.mk _ (Op.load _ _) _ _ _ _ :: _) _ _); first | (refine ldA hm ?_) | (refine laA hm ?_)) | ((with_reducible show wpList _ _ _ (Oper.mk _ (Op.store _ _ _) _ _ _ _ :: _) _ _); (refine stA hm ?_; clear hm; intro w hz hm ho)) | ((with_reducible show wpList _ _ _ (Oper.mk _ (Op.alloc _) _ _ _ _ :: _) _ _); (refine alA hm ?_; clear hm; intro n w hn hz hm ho; (try simp only [List.cons_append, List.nil_append] at hm)))); try simp only [Act.put, sxQ]))
  go_at_call 9
  refine (law11_short A m c l _ HH.out).mono ?_
  rw [HS.out]
  rintro e w1 ⟨rfl, hb1⟩
  have hc2 := (HC.out.resync hm).below hb1
  clear hb1
  clear HC hm
  simp only [List.nil_append, List.cons_append, List.set_cons_zero, List.set_cons_succ] at hc2
  have HC := Lib.hid hc2
  clear hc2
  have hm := HC.out.rebase
  go_wp2_with (first | go_skip | ((with_reducible show wpList _ _ _ _ _ (World.alloc _ _)); refine wpList_up hm ?_; clear hm; intro n w hn hn2 hk hm hd hd2 ho; (try rw [← hn]); replace hn := Nat.le_of_eq hn.symm) | ((first | ((with_reducible show wpList _ _ _ (Oper.mk _ (Op.box _ _) _ _ _ _ :: _) _ _); (refine bxA hm ?_; clear hm; intro n w hn hz hm ho; (try simp only [List.cons_append, List.nil_append] at hm))) | ((with_reducible show wpList _ _ _ (Oper.mk _ (Op.load _ _) _ _ _ _ :: _) _ _); first | (refine ldA hm ?_) | (refine laA hm ?_)) | ((with_reducible show wpList _ _ _ (Oper.mk _ (Op.store _ _ _) _ _ _ _ :: _) _ _); (refine stA hm ?_; clear hm; intro w hz hm ho)) | ((with_reducible show wpList _ _ _ (Oper.mk _ (Op.alloc _) _ _ _ _ :: _) _ _); (refine alA hm ?_; clear hm; intro n w hn hz hm ho; (try simp only [List.cons_append, List.nil_append] at hm)))); try simp only [Act.put, sxQ]))
  go_at_call 22
  refine (HO.out _).mono ?_
  rintro e w2 ⟨hb2, gm, g, G, s, p, rfl, hp, hgm, hsn, hL, hpm, hfx, hG⟩
  have hc2 := (HC.out.resync hm).born hb2 hp.sup hG
  have HL := Lib.hid hL
  have HPM := Lib.hid hpm
  have HGM := Lib.hid hgm
  clear hL hpm hfx hG hp hb2 hsn hgm
  clear HC hm
  simp only [List.nil_append, List.cons_append, List.set_cons_zero, List.set_cons_succ] at hc2
  have HC := Lib.hid hc2
  clear hc2
  have hm := HC.out.rebase
  go_wp2_with (first | go_skip | ((with_reducible show wpList _ _ _ _ _ (World.alloc _ _)); refine wpList_up hm ?_; clear hm; intro n w hn hn2 hk hm hd hd2 ho; (try rw [← hn]); replace hn := Nat.le_of_eq hn.symm) | ((first | ((with_reducible show wpList _ _ _ (Oper.mk _ (Op.box _ _) _ _ _ _ :: _) _ _); (refine bxA hm ?_; clear hm; intro n w hn hz hm ho; (try simp only [List.cons_append, List.nil_append] at hm))) | ((with_reducible show wpList _ _ _ (Oper.mk _ (Op.load _ _) _ _ _ _ :: _) _ _); first | (refine ldA hm ?_) | (refine laA hm ?_)) | ((with_reducible show wpList _ _ _ (Oper.mk _ (Op.store _ _ _) _ _ _ _ :: _) _ _); (refine stA hm ?_; clear hm; intro w hz hm ho)) | ((with_reducible show wpList _ _ _ (Oper.mk _ (Op.alloc _) _ _ _ _ :: _) _ _); (refine alA hm ?_; clear hm; intro n w hn hz hm ho; (try simp only [List.cons_append, List.nil_append] at hm)))); try simp only [Act.put, sxQ]))
  go_at_call 13
  refine (HF.out _).mono ?_
  rintro e w4 ⟨A4, n4, c4, vs4, G4, rfl, hr4, hv4, hn4, hG4, hb4⟩
  have hc2 := (HC.out.resync hm).fresh hb4 hr4.sup (fun q hq => .inl (hG4 q hq))
  have HV4 := Lib.hid hv4
  have HN4 := Lib.hid (show n4 ≤ 100000 by omega)
  clear hr4 hv4 hG4 hb4 hn4
  clear HC hm
  simp only [List.nil_append, List.cons_append, List.set_cons_zero, List.set_cons_succ] at hc2
  have HC := Lib.hid hc2
  clear hc2
  have hm := HC.out.rebase
  go_wp2_with (first | go_skip | ((with_reducible show wpList _ _ _ _ _ (World.alloc _ _)); refine wpList_up hm ?_; clear hm; intro n w hn hn2 hk hm hd hd2 ho; (try rw [← hn]); replace hn := Nat.le_of_eq hn.symm) | ((first | ((with_reducible show wpList _ _ _ (Oper.mk _ (Op.box _ _) _ _ _ _ :: _) _ _); (refine bxA hm ?_; clear hm; intro n w hn hz hm ho; (try simp only [List.cons_append, List.nil_append] at hm))) | ((with_reducible show wpList _ _ _ (Oper.mk _ (Op.load _ _) _ _ _ _ :: _) _ _); first | (refine ldA hm ?_) | (refine laA hm ?_)) | ((with_reducible show wpList _ _ _ (Oper.mk _ (Op.store _ _ _) _ _ _ _ :: _) _ _); (refine stA hm ?_; clear hm; intro w hz hm ho)) | ((with_reducible show wpList _ _ _ (Oper.mk _ (Op.alloc _) _ _ _ _ :: _) _ _); (refine alA hm ?_; clear hm; intro n w hn hz hm ho; (try simp only [List.cons_append, List.nil_append] at hm)))); try simp only [Act.put, sxQ]))
  obtain ⟨n10, h9⟩ := hm.nm 0 rfl
  dsimp only at h9
  subst h9
  have hinv : WLInv 70000 (fun p => Pg.Coded p.m.words) w0 n10 gm nw g 0 w := ⟨G, s, p, _, _, A4, n4, c4, vs4, G4, HGM.out, HL.out, by rw [HPM.out]; rfl, by show Pg.Coded p.m.words; rw [HPM.out]; exact Pg.new_coded _ _, by rw [HPM.out]; simp [Cel.Mem.new], HV4.out, HN4.out, HC.out.resync hm⟩
  clear HC hm HL HPM HGM HV4 HN4

  go_loopg [12] m (fun j v12 wr => ∃ k, k + j = m ∧ v12 = .int .i64 (k : Int) ∧ WLInv 70000 (fun p => Pg.Coded p.m.words) w0 n10 gm nw g k wr)
  case atStart => exact ⟨0, by omega, rfl, hinv⟩
  case round =>
    clear hinv
    obtain ⟨k, hkg, rfl, G1, s1, p1, fr1, st1, A1, n1, c1, vs1, GR1, hgm, hL, hpd, hcd, hwl, hsv, hn1, hsc⟩ := hrel
    have HC := Lib.hid hsc
    have HGM := Lib.hid hgm
    have HL := Lib.hid hL
    have HPD := Lib.hid hpd
    have HCD := Lib.hid hcd
    have HWL := Lib.hid hwl
    have HN1 := Lib.hid hn1
    subst hsv
    have hm := HC.out.rebase
    clear hsc hgm hL hpd hcd hwl hn1
    cases gk with
    | succ j =>
      --@roundA{
      have hkn : k < m := by omega
      have ik : decide ((k : Int) < (m : Int)) = true := decide_eq_true (by omega)
      obtain ⟨bb, oo, y, hA, hyb, hyl, RK⟩ := HH.out.keeps hkn
      subst hA
      have HY := Lib.hid hyb
      obtain ⟨re, ex, yi, yj, yA, yn, yc, ys⟩ := y
      unfold POp.cells at RK
      clear hyb hyl
      have HRL := Lib.hid (Pg.rwrite_length (svs vs1) yi (POp.data ⟨re, ex, yi, yj, yA, yn, yc, ys⟩))
      generalize hdt : POp.data ⟨re, ex, yi, yj, yA, yn, yc, ys⟩ = dt at *
      have HDT := Lib.hid hdt
      clear hdt
      have RK2 : Hid (∀ u : World, Below w0.heap.size w0 u → Rngs [⟨bb, oo + k * 5, [.bool re, .bool ex, .int .i64 yi, .int .i64 yj, .slice yA yn yc]⟩, ⟨bb, oo + k * 5 + 2, [.int .i64 yi]⟩] u) := Lib.hid fun u hu r hr => by
        rcases List.mem_cons.1 hr with rfl | hr
        · exact RK.out u hu _ List.mem_cons_self
        · obtain rfl := List.mem_singleton.1 hr
          intro q v hv
          cases q with
          | zero => cases hv; exact RK.out u hu _ (List.mem_singleton.2 rfl) 2 _ rfl
          | succ q => simp at hv
      go_wp2_with (first | go_skip | ((with_reducible show wpList _ _ _ _ _ (World.alloc _ _)); refine wpList_up hm ?_; clear hm; intro n w hn hn2 hk hm hd hd2 ho; (try rw [← hn]); replace hn := Nat.le_of_eq hn.symm) | ((first | ((with_reducible show wpList _ _ _ (Oper.mk _ (Op.box _ _) _ _ _ _ :: _) _ _); (refine bxA hm ?_; clear hm; intro n w hn hz hm ho; (try simp only [List.cons_append, List.nil_append] at hm))) | ((with_reducible show wpList _ _ _ (Oper.mk _ (Op.load _ _) _ _ _ _ :: _) _ _); first | (refine ldA hm ?_) | (refine laA hm ?_) | (refine lcA (RK2.out _ (HC.out.resync hm).low) ?_) | (refine lrA (RK2.out _ (HC.out.resync hm).low) ?_)) | ((with_reducible show wpList _ _ _ (Oper.mk _ (Op.store _ _ _) _ _ _ _ :: _) _ _); (refine stA hm ?_; clear hm; intro w hz hm ho)) | ((with_reducible show wpList _ _ _ (Oper.mk _ (Op.alloc _) _ _ _ _ :: _) _ _); (refine alA hm ?_; clear hm; intro n w hn hz hm ho; (try simp only [List.cons_append, List.nil_append] at hm)))); try simp only [Act.put, sxQ]))
      refine wp_region_noPanic ?_
      refine wp_region_held_drew (S := KnS _ _) (by kernel_rfl) (KnS.of hm.drew (RK2.out _ (HC.out.resync hm.drew).low)) (fun hHeld => ?_)
      refine wpAnyH_fresh (by repeat (first | apply Fresh.a | apply Fresh.b)) ?_
      replace hm := hm.drew
      iterate 10 (first | (refine takeN 0 hHeld ?_) | (refine takeY 0 ?_ hHeld ?_ ?_; rotate_left 1; (first | (intro w9 h9; (with_reducible show (execOp _ (Oper.mk _ (Op.load _ _) _ _ _ _)).run _ _ = _); first | exact h9.ldA | exact h9.lcA | exact h9.laA | exact h9.lrA) | focus (intro w9 hSw; go_simp; (try (with_reducible rfl)); done))); try simp only [Act.put, sxQ])
      refine wpAnyH_ready (rs := [10]) (by kernel_rfl) (by simp) ?_
      refine AllReadyH.cons2 (by simp only [sxN]; first | done | exact rfl) (fun K hK => ?_)
      rw [if_pos (by rfl)]
      go_simp
      refine (law11_data ⟨re, ex, yi, yj, yA, yn, yc, ys⟩ _ ((HC.out.resync hm).old HY.out)).mono ?_
      rw [HDT.out]
      rintro e w5 ⟨A5, n5, c5, rfl, hb5, hap5, hl5⟩
      have hap : ∀ a, A5 = some a → 0 < n5 → ¬ G1 a.block := fun a e hn hq => by
        rcases hap5 with ⟨r1, r2⟩ | h
        · exact ((HC.out.resync hm).oldO 0 rfl HY.out).2 a (r1.symm.trans e) (by have r3 : n5 = yn := r2; omega) hq
        · have := h a e; have := ((HC.out.resync hm).lt 0 rfl) _ hq; omega
      have HB5 := Lib.hid (And.intro hb5 hap)
      have hc2 := (HC.out.resync hm).below hl5
      clear hb5 hap5 hl5 hap
      clear HC hm
      simp only [List.nil_append, List.cons_append, List.set_cons_zero, List.set_cons_succ] at hc2
      have HC := Lib.hid hc2
      clear hc2
      have hm := HC.out.rebase
      go_simp
      refine hK.out _ _ (KnS.of hm (RK2.out _ (HC.out.resync hm).low)) (fun hHeld => ?_)
      clear hK K
      try simp only [Act.put, sxQ]
      refine wpAnyH_ready (rs := [11]) (by kernel_rfl) (by simp) ?_
      refine AllReadyH.cons2 (by simp only [sxN]; first | done | exact rfl) (fun K hK => ?_)
      rw [if_pos (by rfl)]
      go_simp
      refine (live_WriteC ((HC.out.resync hm).obj 0 rfl) HL.out (by omega) HPD.out yi A5 n5 c5 dt HB5.out).mono ?_
      rintro e w6 ⟨p6, fr6, G6, s6, rfl, hp6, hL6, hpd6, hwl6, _, _, hF6, ho6, hmm6, he6⟩
      have hc2 := (HC.out.resync hm).turn 0 rfl ho6 hF6 hp6.sup
      have HCD6 := Lib.hid (HL.out.writes_coded (by omega) HCD.out yi dt he6)
      have HL6 := Lib.hid hL6
      have HPD6 := Lib.hid hpd6
      have HWL6 := Lib.hid (hwl6.trans HWL.out)
      have HM6 := Lib.hid (show s6.gm = gm by simp only [PgS.mm, Prod.mk.injEq] at hmm6; exact hmm6.1.trans HGM.out)
      clear hL6 hpd6 hwl6 hF6 ho6 hmm6 hp6 he6
      clear HC hm
      simp only [List.nil_append, List.cons_append, List.set_cons_zero, List.set_cons_succ] at hc2
      have HC := Lib.hid hc2
      clear hc2
      have hm := HC.out.rebase
      go_simp
      refine hK.out _ _ (KnS.of hm (RK2.out _ (HC.out.resync hm).low)) (fun hHeld => ?_)
      clear hK K
      try simp only [Act.put, sxQ]
      by_cases hz : (Pg.rwrite (svs vs1) yi dt).2 = 0
      · have hz2 : ((Pg.rwrite (svs vs1) yi dt).2 == 0) = true := by rw [beq_iff_eq]; exact hz
        clear hz
        iterate 1 (first | (refine takeN 12 hHeld ?_) | (refine takeY 12 ?_ hHeld ?_ ?_; rotate_left 1; (first | (intro w9 h9; (with_reducible show (execOp _ (Oper.mk _ (Op.load _ _) _ _ _ _)).run _ _ = _); first | exact h9.ldA | exact h9.lcA | exact h9.laA | exact h9.lrA) | focus (intro w9 hSw; go_simp; (try (with_reducible rfl)); done))); try simp only [Act.put, sxQ])
        refine wpAnyH_done (by kernel_rfl) ?_ _
        refine NoPanic.normal ?_
        go_wp2_with (first | go_skip | ((with_reducible show wpList _ _ _ _ _ (World.alloc _ _)); refine wpList_up hm ?_; clear hm; intro n w hn hn2 hk hm hd hd2 ho; (try rw [← hn]); replace hn := Nat.le_of_eq hn.symm) | ((first | ((with_reducible show wpList _ _ _ (Oper.mk _ (Op.box _ _) _ _ _ _ :: _) _ _); (refine bxA hm ?_; clear hm; intro n w hn hz hm ho; (try simp only [List.cons_append, List.nil_append] at hm))) | ((with_reducible show wpList _ _ _ (Oper.mk _ (Op.load _ _) _ _ _ _ :: _) _ _); first | (refine ldA hm ?_) | (refine laA hm ?_) | (refine lcA (RK2.out _ (HC.out.resync hm).low) ?_) | (refine lrA (RK2.out _ (HC.out.resync hm).low) ?_)) | ((with_reducible show wpList _ _ _ (Oper.mk _ (Op.store _ _ _) _ _ _ _ :: _) _ _); (refine stA hm ?_; clear hm; intro w hz hm ho)) | ((with_reducible show wpList _ _ _ (Oper.mk _ (Op.alloc _) _ _ _ _ :: _) _ _); (refine alA hm ?_; clear hm; intro n w hn hz hm ho; (try simp only [List.cons_append, List.nil_append] at hm)))); try simp only [Act.put, sxQ]))
        refine wp_region_noPanic ?_
        refine wp_region_phase (S := KnS _ _) [15] (by kernel_rfl) (KnS.of hm.drew (RK2.out _ (HC.out.resync hm.drew).low)) (fun hHeld => ?_)
        refine wpAnyP_fresh (by repeat (first | apply Fresh.a | apply Fresh.b)) ?_
        replace hm := hm.drew
        iterate 10 (first | (refine takePN 0 hHeld ?_) | (refine takePY 0 ?_ hHeld ?_ ?_; rotate_left 1; (first | (intro w9 h9; (with_reducible show (execOp _ (Oper.mk _ (Op.load _ _) _ _ _ _)).run _ _ = _); first | exact h9.ldA | exact h9.lcA | exact h9.laA | exact h9.lrA) | focus (intro w9 hSw; go_simp; (try (with_reducible rfl)); done))); try simp only [Act.put, sxQ])
        refine wpAnyP_one 10 (by kernel_rfl) (by simp only [sxN]; first | done | exact rfl) (fun K hK => ?_)
        rw [if_pos (by rfl)]
        go_simp
        refine (law11_data ⟨re, ex, yi, yj, yA, yn, yc, ys⟩ _ ((HC.out.resync hm).old HY.out)).mono ?_
        rw [HDT.out]
        rintro e w7 ⟨A7, n7, c7, rfl, hb7, _, hl7⟩
        have HB7 := Lib.hid hb7
        have hc2 := (HC.out.resync hm).below hl7
        clear hb7 hl7
        clear HC hm
        simp only [List.nil_append, List.cons_append, List.set_cons_zero, List.set_cons_succ] at hc2
        have HC := Lib.hid hc2
        clear hc2
        have hm := HC.out.rebase
        go_simp
        refine hK.out _ _ (KnS.of hm (RK2.out _ (HC.out.resync hm).low)) (fun hHeld => ?_)
        clear hK K
        try simp only [Act.put, sxQ]
        refine wpAnyP_one 11 (by kernel_rfl) (by simp only [sxN]; first | done | exact rfl) (fun K hK => ?_)
        rw [if_pos (by rfl)]
        go_simp
        refine (ref11_Write A1 n1 c1 vs1 GR1 yi A7 n7 c7 dt _ ((HC.out.resync hm).val 0 rfl) HB7.out HN1.out).mono ?_
        rintro e w8 ⟨A8, n8, c8, vs8, GR8, rfl, hr8, hv8, hG8, hb8⟩
        have hc2 := (HC.out.resync hm).nextG 0 rfl hb8 hG8 hr8.sup
        have HV8 := Lib.hid hv8
        have HN8 := Lib.hid (show n8 ≤ 100000 by
          have q1 := congrArg List.length hv8
          rw [HRL.out, svs, svs, List.length_map, List.length_map, hr8.len, ((HC.out.resync hm).val 0 rfl).len] at q1
          have := HN1.out; omega)
        clear hr8 hv8 hG8 hb8
        clear HC hm
        simp only [List.nil_append, List.cons_append, List.set_cons_zero, List.set_cons_succ] at hc2
        have HC := Lib.hid hc2
        clear hc2
        have hm := HC.out.rebase
        go_simp
        refine hK.out _ _ (KnS.of hm (RK2.out _ (HC.out.resync hm).low)) (fun hHeld => ?_)
        clear hK K
        try simp only [Act.put, sxQ]
        iterate 1 (refine wpAnyP_takeP (b := 12) (by repeat (first | apply Seek.a | apply Seek.b | apply Seek.c)) (by simp only [sxN]; first | done | exact rfl) ⟨?_, by kernel_rfl, by kernel_rfl, by kernel_rfl, by kernel_rfl, fun _ _ _ h => h, Or.inl ⟨by rfl, ?_⟩, (by first | exact Early.of hHeld | exact Early.off (by kernel_rfl)), ?_⟩; rotate_left 1; focus (intro w9 hSw; go_simp; (try (with_reducible rfl)); done); try simp only [Act.put, sxQ])
        try simp only [Act.put, sxQ]
        iterate 1 (refine wpAnyP_takeP (b := 13) (by repeat (first | apply Seek.a | apply Seek.b | apply Seek.c)) (by simp only [sxN]; first | done | exact rfl) ⟨?_, by kernel_rfl, by kernel_rfl, by kernel_rfl, by kernel_rfl, fun _ _ _ h => h, Or.inl ⟨by rfl, ?_⟩, (by first | exact Early.of hHeld | exact Early.off (by kernel_rfl)), ?_⟩; rotate_left 1; focus (intro w9 hSw; go_simp; (try (with_reducible rfl)); done); try simp only [Act.put, sxQ])
        try simp only [Act.put, sxQ]
        iterate 1 (refine wpAnyP_takeP (b := 14) (by repeat (first | apply Seek.a | apply Seek.b | apply Seek.c)) (by simp only [sxN]; first | done | exact rfl) ⟨?_, by kernel_rfl, by kernel_rfl, by kernel_rfl, by kernel_rfl, fun _ _ _ h => h, Or.inl ⟨by rfl, ?_⟩, (by first | exact Early.of hHeld | exact Early.off (by kernel_rfl)), ?_⟩; rotate_left 1; focus (intro w9 hSw; go_simp; (try (with_reducible rfl)); done); try simp only [Act.put, sxQ])
        try simp only [Act.put, sxQ]
        refine wpAnyP_last 15 (by kernel_rfl) (by simp only [sxN]; first | done | exact rfl) (by kernel_rfl) (fun K hK => ?_)
        refine stB hm ?_
        clear hm; intro w hz hm ho
        refine hK.out _ _ ?_
        clear hK K
        try simp only [Act.put, sxQ]
        refine wpAnyP_done (by kernel_rfl) ?_ _
        refine NoPanic.normal ?_
        go_wp2_with (first | go_skip | ((with_reducible show wpList _ _ _ _ _ (World.alloc _ _)); refine wpList_up hm ?_; clear hm; intro n w hn hn2 hk hm hd hd2 ho; (try rw [← hn]); replace hn := Nat.le_of_eq hn.symm) | ((first | ((with_reducible show wpList _ _ _ (Oper.mk _ (Op.box _ _) _ _ _ _ :: _) _ _); (refine bxA hm ?_; clear hm; intro n w hn hz hm ho; (try simp only [List.cons_append, List.nil_append] at hm))) | ((with_reducible show wpList _ _ _ (Oper.mk _ (Op.load _ _) _ _ _ _ :: _) _ _); first | (refine ldA hm ?_) | (refine laA hm ?_) | (refine lcA (RK2.out _ (HC.out.resync hm).low) ?_) | (refine lrA (RK2.out _ (HC.out.resync hm).low) ?_)) | ((with_reducible show wpList _ _ _ (Oper.mk _ (Op.store _ _ _) _ _ _ _ :: _) _ _); (refine stA hm ?_; clear hm; intro w hz hm ho)) | ((with_reducible show wpList _ _ _ (Oper.mk _ (Op.alloc _) _ _ _ _ :: _) _ _); (refine alA hm ?_; clear hm; intro n w hn hz hm ho; (try simp only [List.cons_append, List.nil_append] at hm)))); try simp only [Act.put, sxQ]))
        go_roundg j
        case measure => omega
        case rel => exact ⟨k + 1, by omega, by go_num, G6, s6, p6, fr6, svs vs8, A8, n8, c8, vs8, GR8, HM6.out, by rw [HV8.out]; exact HL6.out.mono (by omega), HPD6.out, HCD6.out, HWL6.out, rfl, HN8.out, (HC.out.resync hm).keep 1 0 1⟩
      · have hz2 : ((Pg.rwrite (svs vs1) yi dt).2 == 0) = false := by rw [beq_eq_false_iff_ne]; exact hz
        have hsame : (Pg.rwrite (svs vs1) yi dt).1 = svs vs1 := by
          unfold Pg.rwrite at hz ⊢
          split
          · rfl
          · split
            · rfl
            · rename_i q1 q2; rw [if_neg q1, if_neg q2] at hz; exact absurd rfl hz
        have HSM := Lib.hid hsame
        clear hsame hz
        generalize Pg.rwrite (svs vs1) yi dt = ry at *
        iterate 1 (first | (refine takeN 12 hHeld ?_) | (refine takeY 12 ?_ hHeld ?_ ?_; rotate_left 1; (first | (intro w9 h9; (with_reducible show (execOp _ (Oper.mk _ (Op.load _ _) _ _ _ _)).run _ _ = _); first | exact h9.ldA | exact h9.lcA | exact h9.laA | exact h9.lrA) | focus (intro w9 hSw; go_simp; (try (with_reducible rfl)); done))); try simp only [Act.put, sxQ])
        refine wpAnyH_done (by kernel_rfl) ?_ _
        refine NoPanic.normal ?_
        go_wp2_with (first | go_skip | ((with_reducible show wpList _ _ _ _ _ (World.alloc _ _)); refine wpList_up hm ?_; clear hm; intro n w hn hn2 hk hm hd hd2 ho; (try rw [← hn]); replace hn := Nat.le_of_eq hn.symm) | ((first | ((with_reducible show wpList _ _ _ (Oper.mk _ (Op.box _ _) _ _ _ _ :: _) _ _); (refine bxA hm ?_; clear hm; intro n w hn hz hm ho; (try simp only [List.cons_append, List.nil_append] at hm))) | ((with_reducible show wpList _ _ _ (Oper.mk _ (Op.load _ _) _ _ _ _ :: _) _ _); first | (refine ldA hm ?_) | (refine laA hm ?_) | (refine lcA (RK2.out _ (HC.out.resync hm).low) ?_) | (refine lrA (RK2.out _ (HC.out.resync hm).low) ?_)) | ((with_reducible show wpList _ _ _ (Oper.mk _ (Op.store _ _ _) _ _ _ _ :: _) _ _); (refine stA hm ?_; clear hm; intro w hz hm ho)) | ((with_reducible show wpList _ _ _ (Oper.mk _ (Op.alloc _) _ _ _ _ :: _) _ _); (refine alA hm ?_; clear hm; intro n w hn hz hm ho; (try simp only [List.cons_append, List.nil_append] at hm)))); try simp only [Act.put, sxQ]))
        go_roundg j
        case measure => omega
        case rel => exact ⟨k + 1, by omega, by go_num, G6, s6, p6, fr6, svs vs1, A1, n1, c1, vs1, GR1, HM6.out, by rw [← HSM.out]; exact HL6.out.mono (by omega), HPD6.out, HCD6.out, HWL6.out, rfl, HN1.out, (HC.out.resync hm).keep 1 0 0⟩
      --@}
    | zero =>
      obtain rfl : m = k := by omega
      have ik : decide ((m : Int) < (m : Int)) = false := decide_eq_false (by omega)
      clear hkg
      --@restA{
      go_wp2_with (first | go_skip | ((with_reducible show wpList _ _ _ _ _ (World.alloc _ _)); refine wpList_up hm ?_; clear hm; intro n w hn hn2 hk hm hd hd2 ho; (try rw [← hn]); replace hn := Nat.le_of_eq hn.symm) | ((first | ((with_reducible show wpList _ _ _ (Oper.mk _ (Op.box _ _) _ _ _ _ :: _) _ _); (refine bxA hm ?_; clear hm; intro n w hn hz hm ho; (try simp only [List.cons_append, List.nil_append] at hm))) | ((with_reducible show wpList _ _ _ (Oper.mk _ (Op.load _ _) _ _ _ _ :: _) _ _); first | (refine ldA hm ?_) | (refine laA hm ?_)) | ((with_reducible show wpList _ _ _ (Oper.mk _ (Op.store _ _ _) _ _ _ _ :: _) _ _); (refine stA hm ?_; clear hm; intro w hz hm ho)) | ((with_reducible show wpList _ _ _ (Oper.mk _ (Op.alloc _) _ _ _ _ :: _) _ _); (refine alA hm ?_; clear hm; intro n w hn hz hm ho; (try simp only [List.cons_append, List.nil_append] at hm)))); try simp only [Act.put, sxQ]))
      --!0
      replace hm := hm.made 4 (Array.replicate nw (Value.bool false))
      generalize wr.alloc (.cells (Array.replicate nw (Value.bool false)) 4) = w at hm ⊢
      have hc2 := HC.out.resync hm
      clear HC hm
      simp only [List.nil_append, List.cons_append, List.set_cons_zero, List.set_cons_succ] at hc2
      have HC := Lib.hid hc2
      clear hc2
      have hm := HC.out.rebase
      generalize wr.heap.size = n13 at HC hm ⊢
      --!1
      have hfi : ∃ vs fl, fl.length = nw ∧ Pg.Flp p1.m.words vs fl ∧ Scn w0 w [⟨n13, 4, (fl.map Value.bool).toArray⟩, ⟨n10, 36, #[.slice A1 n1 c1]⟩] [] [⟨G1, fun u => PAt u g G1 s1 (p1.wd vs)⟩] [⟨GR1, fun u => RfAt u A1 n1 c1 vs1 GR1⟩] :=
        ⟨p1.m.words, List.replicate nw false, by simp, Pg.Flp.start _ _, by rw [List.map_replicate, List.toArray_replicate]; exact HC.out.resync hm⟩
      clear HC hm
      go_loopg [14] fm (fun j v14 wr => ∃ k2, k2 + j = fm ∧ v14 = .int .i64 (k2 : Int) ∧ ∃ vs fl, fl.length = nw ∧ Pg.Flp p1.m.words vs fl ∧ Scn w0 wr [⟨n13, 4, (fl.map Value.bool).toArray⟩, ⟨n10, 36, #[.slice A1 n1 c1]⟩] [] [⟨G1, fun u => PAt u g G1 s1 (p1.wd vs)⟩] [⟨GR1, fun u => RfAt u A1 n1 c1 vs1 GR1⟩])
      case atStart => exact ⟨0, by omega, rfl, hfi⟩
      case round =>
        clear hfi
        obtain ⟨k2, hkg, rfl, vs, fl, hfl, hflp, hsc⟩ := hrel
        have HC := Lib.hid hsc
        have HFP := Lib.hid hflp
        have hm := HC.out.rebase
        clear hsc hflp
        cases gk with
        | succ j =>
          --@flip{
          have hkn : k2 < fm := by omega
          have ik2 : decide ((k2 : Int) < (fm : Int)) = true := decide_eq_true (by omega)
          obtain ⟨bb, oo, hFA, hlt, hce⟩ := HFL.out.at_ hkn
          subst hFA
          generalize fs.getD k2 0 = y at hce
          have hy := y.toNat_lt
          have RK : Hid (∀ u : World, Below w0.heap.size w0 u → Rngs [⟨bb, oo + k2, [.int .u32 (y.toNat : Int)]⟩] u) := Lib.hid fun u hu => by
            refine Rngs.below (w := w0) ?_ hu
            intro r hr
            obtain rfl := List.mem_singleton.1 hr
            intro q v hv
            cases q with
            | zero => cases hv; exact hce
            | succ q => simp at hv
          clear hce
          have t0 : ¬ nw = 0 := by omega
          obtain ⟨a, ha0⟩ : ∃ a, a = y.toNat / 32 % nw := ⟨_, rfl⟩
          obtain ⟨b, hb0⟩ : ∃ b, b = y.toNat % 32 := ⟨_, rfl⟩
          have ha : a < nw := by rw [ha0]; exact Nat.mod_lt _ (by omega)
          have hi : b < 32 := by omega
          have u1 : IntKind.u32.wrap ((y.toNat : Int).tdiv 32) = ((y.toNat / 32 : Nat) : Int) := by
            rw [Int.tdiv_eq_ediv_of_nonneg (by omega)]
            have e : (y.toNat : Int) / 32 = ((y.toNat / 32 : Nat) : Int) := rfl
            rw [e, IntKind.wrap_u32']
            omega
          have u2 : IntKind.i64.wrap ((y.toNat / 32 : Nat) : Int) = ((y.toNat / 32 : Nat) : Int) := IntWalk.i64_in _ (by omega)
          have u3 : (y.toNat : Int) / 32 % (nw : Int) = (a : Int) := by rw [ha0]; rfl
          have u4 : (y.toNat : Int) % 32 = (b : Int) := by rw [hb0]; rfl
          have HAB := Lib.hid (And.intro ha hi)
          clear ha0 hb0
          --!2
          go_upto_region 17 with (first | go_skip | ((with_reducible show wpList _ _ _ _ _ (World.alloc _ _)); refine wpList_up hm ?_; clear hm; intro n w hn hn2 hk hm hd hd2 ho; (try rw [← hn]); replace hn := Nat.le_of_eq hn.symm) | ((first | ((with_reducible show wpList _ _ _ (Oper.mk _ (Op.box _ _) _ _ _ _ :: _) _ _); (refine bxA hm ?_; clear hm; intro n w hn hz hm ho; (try simp only [List.cons_append, List.nil_append] at hm))) | ((with_reducible show wpList _ _ _ (Oper.mk _ (Op.load _ _) _ _ _ _ :: _) _ _); first | (refine ldA hm ?_) | (refine laA hm ?_) | (refine lcA (RK.out _ (HC.out.resync hm).low) ?_) | (refine lrA (RK.out _ (HC.out.resync hm).low) ?_)) | ((with_reducible show wpList _ _ _ (Oper.mk _ (Op.store _ _ _) _ _ _ _ :: _) _ _); (refine stA hm ?_; clear hm; intro w hz hm ho)) | ((with_reducible show wpList _ _ _ (Oper.mk _ (Op.alloc _) _ _ _ _ :: _) _ _); (refine alA hm ?_; clear hm; intro n w hn hz hm ho; (try simp only [List.cons_append, List.nil_append] at hm)))); try simp only [Act.put, sxQ]))
          simp only [u3]
          --!3
          clear u1 u2 u3
          have hnear := HFP.out.near
          have hwl : p1.m.words.length = nw := HWL.out
          have hvl : vs.length = nw := hnear.1.trans hwl
          cases hb : fl.getD a false with
          | true =>
            have hcell := bool_at fl a (by omega) _ hb
            go_wp2_with (first | (refine ldA hm ?_ (hv := hcell)) | ((with_reducible show wpList _ _ _ (Oper.mk _ (Op.store _ (Operand.tmp 118) _) _ _ _ _ :: _) _ _); refine stA hm ?_ (hcs := take_bools fl a (by omega) true) (hin := by simp; omega); clear hm; intro w hz hm ho; (try simp only [Act.put, sxQ])) | go_skip | ((with_reducible show wpList _ _ _ _ _ (World.alloc _ _)); refine wpList_up hm ?_; clear hm; intro n w hn hn2 hk hm hd hd2 ho; (try rw [← hn]); replace hn := Nat.le_of_eq hn.symm) | ((first | ((with_reducible show wpList _ _ _ (Oper.mk _ (Op.box _ _) _ _ _ _ :: _) _ _); (refine bxA hm ?_; clear hm; intro n w hn hz hm ho; (try simp only [List.cons_append, List.nil_append] at hm))) | ((with_reducible show wpList _ _ _ (Oper.mk _ (Op.load _ _) _ _ _ _ :: _) _ _); first | (refine ldA hm ?_) | (refine laA hm ?_) | (refine lcA (RK.out _ (HC.out.resync hm).low) ?_) | (refine lrA (RK.out _ (HC.out.resync hm).low) ?_)) | ((with_reducible show wpList _ _ _ (Oper.mk _ (Op.store _ _ _) _ _ _ _ :: _) _ _); (refine stA hm ?_; clear hm; intro w hz hm ho)) | ((with_reducible show wpList _ _ _ (Oper.mk _ (Op.alloc _) _ _ _ _ :: _) _ _); (refine alA hm ?_; clear hm; intro n w hn hz hm ho; (try simp only [List.cons_append, List.nil_append] at hm)))); try simp only [Act.put, sxQ]))
            --!4
            go_roundg j
            case measure => omega
            case rel => exact ⟨k2 + 1, by omega, by go_num, vs, fl.set a true, by rw [List.length_set]; exact hfl, HFP.out.told (by omega), HC.out.resync hm⟩
          | false =>
            have hcell := bool_at fl a (by omega) _ hb
            have u5 : IntKind.u32.wrap ((y.toNat : Int).tmod 32) = (b : Int) := by
              rw [Int.tmod_eq_emod_of_nonneg (by omega), u4, IntKind.wrap_u32']
              omega
            go_wp2_with (first | (refine ldA hm ?_ (hv := hcell)) | go_skip | ((with_reducible show wpList _ _ _ _ _ (World.alloc _ _)); refine wpList_up hm ?_; clear hm; intro n w hn hn2 hk hm hd hd2 ho; (try rw [← hn]); replace hn := Nat.le_of_eq hn.symm) | ((first | ((with_reducible show wpList _ _ _ (Oper.mk _ (Op.box _ _) _ _ _ _ :: _) _ _); (refine bxA hm ?_; clear hm; intro n w hn hz hm ho; (try simp only [List.cons_append, List.nil_append] at hm))) | ((with_reducible show wpList _ _ _ (Oper.mk _ (Op.load _ _) _ _ _ _ :: _) _ _); first | (refine ldA hm ?_) | (refine laA hm ?_) | (refine lcA (RK.out _ (HC.out.resync hm).low) ?_) | (refine lrA (RK.out _ (HC.out.resync hm).low) ?_)) | ((with_reducible show wpList _ _ _ (Oper.mk _ (Op.store _ _ _) _ _ _ _ :: _) _ _); (refine stA hm ?_; clear hm; intro w hz hm ho)) | ((with_reducible show wpList _ _ _ (Oper.mk _ (Op.alloc _) _ _ _ _ :: _) _ _); (refine alA hm ?_; clear hm; intro n w hn hz hm ho; (try simp only [List.cons_append, List.nil_append] at hm)))); try simp only [Act.put, sxQ]))
            --!5
            go_at_call 27
            have hP := (HC.out.resync hm).obj 0 rfl
            have hfe := Pg.flip_eq (p1.wd vs).m a b (by show a < vs.length; omega) hi
            have hcf := cell_Flip hP.mem (a : Int) (b : Int)
            rw [HGM.out, hfe] at hcf
            refine hcf.mono ?_
            rintro e w2 ⟨rfl, hm2, ho2⟩
            have hc2 := (HC.out.resync hm).turn 0 rfl (ho2.mono fun q _ hq => hP.memR (by rw [HGM.out]; exact hq)) (fun q hq => .inl hq) (hP.memd (by rw [HGM.out]; exact ho2) (by rw [HGM.out]; exact hm2)).sup
            clear hm2 ho2 hcf hP hfe
            clear HC hm
            simp only [List.nil_append, List.cons_append, List.set_cons_zero, List.set_cons_succ] at hc2
            have HC := Lib.hid hc2
            clear hc2
            have hm := HC.out.rebase
            --!6
            go_wp2_with (first | ((with_reducible show wpList _ _ _ (Oper.mk _ (Op.store _ (Operand.tmp 118) _) _ _ _ _ :: _) _ _); refine stA hm ?_ (hcs := take_bools fl a (by omega) true) (hin := by simp; omega); clear hm; intro w hz hm ho; (try simp only [Act.put, sxQ])) | go_skip | ((with_reducible show wpList _ _ _ _ _ (World.alloc _ _)); refine wpList_up hm ?_; clear hm; intro n w hn hn2 hk hm hd hd2 ho; (try rw [← hn]); replace hn := Nat.le_of_eq hn.symm) | ((first | ((with_reducible show wpList _ _ _ (Oper.mk _ (Op.box _ _) _ _ _ _ :: _) _ _); (refine bxA hm ?_; clear hm; intro n w hn hz hm ho; (try simp only [List.cons_append, List.nil_append] at hm))) | ((with_reducible show wpList _ _ _ (Oper.mk _ (Op.load _ _) _ _ _ _ :: _) _ _); first | (refine ldA hm ?_) | (refine laA hm ?_) | (refine lcA (RK.out _ (HC.out.resync hm).low) ?_) | (refine lrA (RK.out _ (HC.out.resync hm).low) ?_)) | ((with_reducible show wpList _ _ _ (Oper.mk _ (Op.store _ _ _) _ _ _ _ :: _) _ _); (refine stA hm ?_; clear hm; intro w hz hm ho)) | ((with_reducible show wpList _ _ _ (Oper.mk _ (Op.alloc _) _ _ _ _ :: _) _ _); (refine alA hm ?_; clear hm; intro n w hn hz hm ho; (try simp only [List.cons_append, List.nil_append] at hm)))); try simp only [Act.put, sxQ]))
            --!7
            go_roundg j
            case measure => omega
            case rel => exact ⟨k2 + 1, by omega, by go_num, vs.set a (vs.getD a 0 ^^^ Cel.bit b), fl.set a true, by rw [List.length_set]; exact hfl, HFP.out.flip (by omega) (by omega) hi hb, HC.out.resync hm⟩
          --@}
        | zero =>
          obtain rfl : fm = k2 := by omega
          have ik2 : decide ((fm : Int) < (fm : Int)) = false := decide_eq_false (by omega)
          clear hkg
          --@after{
          have HL2 := Lib.hid (show Pg.Live (70000 + 5000 * m) fr1 (p1.wd vs) (svs vs1) from HL.out.near HCD.out HFP.out.near)
          have HPD2 := Lib.hid (show (p1.wd vs).m.pending = false from HPD.out)
          have HWL2 := Lib.hid (show (p1.wd vs).m.words.length = nw from HFP.out.near.1.trans HWL.out)
          clear HL HPD HCD HWL HFP hfl
          generalize p1.wd vs = p2 at *
          have hcnt : (svs vs1).length ≤ 42 := by
            have q1 := HL2.out.len
            have q2 := HL2.out.inv.cnt
            rw [HWL2.out] at q2
            omega
          go_wp2_with (first | go_skip | ((with_reducible show wpList _ _ _ _ _ (World.alloc _ _)); refine wpList_up hm ?_; clear hm; intro n w hn hn2 hk hm hd hd2 ho; (try rw [← hn]); replace hn := Nat.le_of_eq hn.symm) | ((first | ((with_reducible show wpList _ _ _ (Oper.mk _ (Op.box _ _) _ _ _ _ :: _) _ _); (refine bxA hm ?_; clear hm; intro n w hn hz hm ho; (try simp only [List.cons_append, List.nil_append] at hm))) | ((with_reducible show wpList _ _ _ (Oper.mk _ (Op.load _ _) _ _ _ _ :: _) _ _); first | (refine ldA hm ?_) | (refine laA hm ?_)) | ((with_reducible show wpList _ _ _ (Oper.mk _ (Op.store _ _ _) _ _ _ _ :: _) _ _); (refine stA hm ?_; clear hm; intro w hz hm ho)) | ((with_reducible show wpList _ _ _ (Oper.mk _ (Op.alloc _) _ _ _ _ :: _) _ _); (refine alA hm ?_; clear hm; intro n w hn hz hm ho; (try simp only [List.cons_append, List.nil_append] at hm)))); try simp only [Act.put, sxQ]))
          --!10
          go_at_call 21
          refine (law11_shows ((HC.out.resync hm).obj 0 rfl) HL2.out (by omega) A1 n1 c1 vs1 GR1 ((HC.out.resync hm).val 0 rfl) (((HC.out.resync hm).vs _ List.mem_cons_self).2.1 _ List.mem_cons_self) rfl).mono ?_
          rintro e w5 ⟨rfl, c5, hp5, hL5, _, hon5⟩
          have hc2 := (HC.out.resync hm).turn 0 rfl hon5 (fun q h => .inl h) hp5.sup
          have HL5 := Lib.hid (hL5.mono (show _ ≤ 900000 by omega))
          clear hp5 hon5 hL5
          clear HC hm
          simp only [List.nil_append, List.cons_append, List.set_cons_zero, List.set_cons_succ] at hc2
          have HC := Lib.hid hc2
          clear hc2
          have hm := HC.out.rebase

          go_wp2_with (first | go_skip | ((with_reducible show wpList _ _ _ _ _ (World.alloc _ _)); refine wpList_up hm ?_; clear hm; intro n w hn hn2 hk hm hd hd2 ho; (try rw [← hn]); replace hn := Nat.le_of_eq hn.symm) | ((first | ((with_reducible show wpList _ _ _ (Oper.mk _ (Op.box _ _) _ _ _ _ :: _) _ _); (refine bxA hm ?_; clear hm; intro n w hn hz hm ho; (try simp only [List.cons_append, List.nil_append] at hm))) | ((with_reducible show wpList _ _ _ (Oper.mk _ (Op.load _ _) _ _ _ _ :: _) _ _); first | (refine ldA hm ?_) | (refine laA hm ?_)) | ((with_reducible show wpList _ _ _ (Oper.mk _ (Op.store _ _ _) _ _ _ _ :: _) _ _); (refine stA hm ?_; clear hm; intro w hz hm ho)) | ((with_reducible show wpList _ _ _ (Oper.mk _ (Op.alloc _) _ _ _ _ :: _) _ _); (refine alA hm ?_; clear hm; intro n w hn hz hm ho; (try simp only [List.cons_append, List.nil_append] at hm)))); try simp only [Act.put, sxQ]))
          --!11
          go_at_call 12
          have hmm := (HC.out.resync hm).obj 0 rfl
          have hco := page_Open_can hmm.mem HL5.out.off HL5.out.can (by omega)
          rw [HGM.out] at hco
          refine hco.mono ?_
          rintro e w3 ⟨hb3, g2, G2, s2, p3, rfl, hL3, hpm3, _, hp3, e1, e2, e3, e4, e5, e6, hG2⟩
          have hc2 := (HC.out.resync hm).turn 0 rfl (Only.of_below hb3) (fun q hq => by
            rcases hG2 q hq with h | h | h | h
            · exact .inl (hmm.memR (.inl (h.trans HGM.out.symm)))
            · exact .inl (hmm.memR (.inr (.inl h)))
            · exact .inl (hmm.memR (.inr (.inr h)))
            · exact .inr h) hp3.sup
          have HL3 := Lib.hid hL3
          have HGM3 := Lib.hid e1
          have HPD3 := Lib.hid (show p3.m.pending = false by rw [hpm3]; exact HPD2.out)
          have HWL3 := Lib.hid (show p3.m.words.length = nw by rw [hpm3]; exact HWL2.out)
          clear hL3 hpm3 hp3 e1 e2 e3 e4 e5 e6 hG2 hb3 hco hmm
          clear HC hm
          simp only [List.nil_append, List.cons_append, List.set_cons_zero, List.set_cons_succ] at hc2
          have HC := Lib.hid hc2
          clear hc2
          have hm := HC.out.rebase
          --!12
          go_wp2_with (first | go_skip | ((with_reducible show wpList _ _ _ _ _ (World.alloc _ _)); refine wpList_up hm ?_; clear hm; intro n w hn hn2 hk hm hd hd2 ho; (try rw [← hn]); replace hn := Nat.le_of_eq hn.symm) | ((first | ((with_reducible show wpList _ _ _ (Oper.mk _ (Op.box _ _) _ _ _ _ :: _) _ _); (refine bxA hm ?_; clear hm; intro n w hn hz hm ho; (try simp only [List.cons_append, List.nil_append] at hm))) | ((with_reducible show wpList _ _ _ (Oper.mk _ (Op.load _ _) _ _ _ _ :: _) _ _); first | (refine ldA hm ?_) | (refine laA hm ?_)) | ((with_reducible show wpList _ _ _ (Oper.mk _ (Op.store _ _ _) _ _ _ _ :: _) _ _); (refine stA hm ?_; clear hm; intro w hz hm ho)) | ((with_reducible show wpList _ _ _ (Oper.mk _ (Op.alloc _) _ _ _ _ :: _) _ _); (refine alA hm ?_; clear hm; intro n w hn hz hm ho; (try simp only [List.cons_append, List.nil_append] at hm)))); try simp only [Act.put, sxQ]))
          --!13
          go_at_call 21
          refine (law11_shows ((HC.out.resync hm).obj 0 rfl) HL3.out (by omega) A1 n1 c1 vs1 GR1 ((HC.out.resync hm).val 0 rfl) (((HC.out.resync hm).vs _ List.mem_cons_self).2.1 _ List.mem_cons_self) rfl).mono ?_
          rintro e w6 ⟨rfl, c6, hp6, hL6, _, hon6⟩
          have hc2 := (HC.out.resync hm).turn 0 rfl hon6 (fun q h => .inl h) hp6.sup
          have HL6 := Lib.hid (hL6.mono (show _ ≤ 1000000 by omega))
          clear hp6 hon6 hL6
          clear HC hm
          simp only [List.nil_append, List.cons_append, List.set_cons_zero, List.set_cons_succ] at hc2
          have HC := Lib.hid hc2
          clear hc2
          have hm := HC.out.rebase

          go_wp2_with (first | go_skip | ((with_reducible show wpList _ _ _ _ _ (World.alloc _ _)); refine wpList_up hm ?_; clear hm; intro n w hn hn2 hk hm hd hd2 ho; (try rw [← hn]); replace hn := Nat.le_of_eq hn.symm) | ((first | ((with_reducible show wpList _ _ _ (Oper.mk _ (Op.box _ _) _ _ _ _ :: _) _ _); (refine bxA hm ?_; clear hm; intro n w hn hz hm ho; (try simp only [List.cons_append, List.nil_append] at hm))) | ((with_reducible show wpList _ _ _ (Oper.mk _ (Op.load _ _) _ _ _ _ :: _) _ _); first | (refine ldA hm ?_) | (refine laA hm ?_)) | ((with_reducible show wpList _ _ _ (Oper.mk _ (Op.store _ _ _) _ _ _ _ :: _) _ _); (refine stA hm ?_; clear hm; intro w hz hm ho)) | ((with_reducible show wpList _ _ _ (Oper.mk _ (Op.alloc _) _ _ _ _ :: _) _ _); (refine alA hm ?_; clear hm; intro n w hn hz hm ho; (try simp only [List.cons_append, List.nil_append] at hm)))); try simp only [Act.put, sxQ]))
          --!14
          have hinv : WLInv 1000000 (fun _ => True) w0 n10 gm nw g2 0 w6 := ⟨_, s2, _, _, _, A1, n1, c1, vs1, GR1, HGM3.out, HL6.out, HPD3.out, trivial, HWL3.out, rfl, HN1.out, (HC.out.resync hm).lone 1 0 rfl rfl⟩
          clear HC hm HL2 HL3 HL5 HL6 HPD2 HPD3 HWL2 HWL3 HGM HGM3 HN1 hcnt
          go_loopg [18] m (fun j v18 wr => ∃ k, k + j = m ∧ v18 = .int .i64 (k : Int) ∧ WLInv 1000000 (fun _ => True) w0 n10 gm nw g2 k wr)
          case atStart => exact ⟨0, by omega, rfl, hinv⟩
          case round =>
            clear hinv
            obtain ⟨k, hkg, rfl, G1, s1, p1, fr1, st1, A1, n1, c1, vs1, GR1, hgm, hL, hpd, hcd, hwl, hsv, hn1, hsc⟩ := hrel
            have HC := Lib.hid hsc
            have HGM := Lib.hid hgm
            have HL := Lib.hid hL
            have HPD := Lib.hid hpd
            have HCD := Lib.hid hcd
            have HWL := Lib.hid hwl
            have HN1 := Lib.hid hn1
            subst hsv
            have hm := HC.out.rebase
            clear hsc hgm hL hpd hcd hwl hn1
            cases gk with
            | succ j =>
              --@roundB{
              have hkn : k < m := by omega
              have ik : decide ((k : Int) < (m : Int)) = true := decide_eq_true (by omega)
              obtain ⟨bb, oo, y, hA, hyb, hyl, RK⟩ := HH.out.keeps hkn
              subst hA
              have HY := Lib.hid hyb
              obtain ⟨re, ex, yi, yj, yA, yn, yc, ys⟩ := y
              unfold POp.cells at RK
              clear hyb hyl
              have HRL := Lib.hid (Pg.rwrite_length (svs vs1) yi (POp.data ⟨re, ex, yi, yj, yA, yn, yc, ys⟩))
              generalize hdt : POp.data ⟨re, ex, yi, yj, yA, yn, yc, ys⟩ = dt at *
              have HDT := Lib.hid hdt
              clear hdt
              have RK2 : Hid (∀ u : World, Below w0.heap.size w0 u → Rngs [⟨bb, oo + k * 5, [.bool re, .bool ex, .int .i64 yi, .int .i64 yj, .slice yA yn yc]⟩, ⟨bb, oo + k * 5 + 2, [.int .i64 yi]⟩] u) := Lib.hid fun u hu r hr => by
                rcases List.mem_cons.1 hr with rfl | hr
                · exact RK.out u hu _ List.mem_cons_self
                · obtain rfl := List.mem_singleton.1 hr
                  intro q v hv
                  cases q with
                  | zero => cases hv; exact RK.out u hu _ (List.mem_singleton.2 rfl) 2 _ rfl
                  | succ q => simp at hv
              go_wp2_with (first | go_skip | ((with_reducible show wpList _ _ _ _ _ (World.alloc _ _)); refine wpList_up hm ?_; clear hm; intro n w hn hn2 hk hm hd hd2 ho; (try rw [← hn]); replace hn := Nat.le_of_eq hn.symm) | ((first | ((with_reducible show wpList _ _ _ (Oper.mk _ (Op.box _ _) _ _ _ _ :: _) _ _); (refine bxA hm ?_; clear hm; intro n w hn hz hm ho; (try simp only [List.cons_append, List.nil_append] at hm))) | ((with_reducible show wpList _ _ _ (Oper.mk _ (Op.load _ _) _ _ _ _ :: _) _ _); first | (refine ldA hm ?_) | (refine laA hm ?_) | (refine lcA (RK2.out _ (HC.out.resync hm).low) ?_) | (refine lrA (RK2.out _ (HC.out.resync hm).low) ?_)) | ((with_reducible show wpList _ _ _ (Oper.mk _ (Op.store _ _ _) _ _ _ _ :: _) _ _); (refine stA hm ?_; clear hm; intro w hz hm ho)) | ((with_reducible show wpList _ _ _ (Oper.mk _ (Op.alloc _) _ _ _ _ :: _) _ _); (refine alA hm ?_; clear hm; intro n w hn hz hm ho; (try simp only [List.cons_append, List.nil_append] at hm)))); try simp only [Act.put, sxQ]))
              refine wp_region_noPanic ?_
              refine wp_region_held_drew (S := KnS _ _) (by kernel_rfl) (KnS.of hm.drew (RK2.out _ (HC.out.resync hm.drew).low)) (fun hHeld => ?_)
              refine wpAnyH_fresh (by repeat (first | apply Fresh.a | apply Fresh.b)) ?_
              replace hm := hm.drew
              iterate 10 (first | (refine takeN 0 hHeld ?_) | (refine takeY 0 ?_ hHeld ?_ ?_; rotate_left 1; (first | (intro w9 h9; (with_reducible show (execOp _ (Oper.mk _ (Op.load _ _) _ _ _ _)).run _ _ = _); first | exact h9.ldA | exact h9.lcA | exact h9.laA | exact h9.lrA) | focus (intro w9 hSw; go_simp; (try (with_reducible rfl)); done))); try simp only [Act.put, sxQ])
              refine wpAnyH_ready (rs := [10]) (by kernel_rfl) (by simp) ?_
              refine AllReadyH.cons2 (by simp only [sxN]; first | done | exact rfl) (fun K hK => ?_)
              rw [if_pos (by rfl)]
              go_simp
              refine (law11_data ⟨re, ex, yi, yj, yA, yn, yc, ys⟩ _ ((HC.out.resync hm).old HY.out)).mono ?_
              rw [HDT.out]
              rintro e w5 ⟨A5, n5, c5, rfl, hb5, hap5, hl5⟩
              have hap : ∀ a, A5 = some a → 0 < n5 → ¬ G1 a.block := fun a e hn hq => by
                rcases hap5 with ⟨r1, r2⟩ | h
                · exact ((HC.out.resync hm).oldO 0 rfl HY.out).2 a (r1.symm.trans e) (by have r3 : n5 = yn := r2; omega) hq
                · have := h a e; have := ((HC.out.resync hm).lt 0 rfl) _ hq; omega
              have HB5 := Lib.hid (And.intro hb5 hap)
              have hc2 := (HC.out.resync hm).below hl5
              clear hb5 hap5 hl5 hap
              clear HC hm
              simp only [List.nil_append, List.cons_append, List.set_cons_zero, List.set_cons_succ] at hc2
              have HC := Lib.hid hc2
              clear hc2
              have hm := HC.out.rebase
              go_simp
              refine hK.out _ _ (KnS.of hm (RK2.out _ (HC.out.resync hm).low)) (fun hHeld => ?_)
              clear hK K
              try simp only [Act.put, sxQ]
              refine wpAnyH_ready (rs := [11]) (by kernel_rfl) (by simp) ?_
              refine AllReadyH.cons2 (by simp only [sxN]; first | done | exact rfl) (fun K hK => ?_)
              rw [if_pos (by rfl)]
              go_simp
              refine (live_WriteC ((HC.out.resync hm).obj 0 rfl) HL.out (by omega) HPD.out yi A5 n5 c5 dt HB5.out).mono ?_
              rintro e w6 ⟨p6, fr6, G6, s6, rfl, hp6, hL6, hpd6, hwl6, _, _, hF6, ho6, hmm6, he6⟩
              have hc2 := (HC.out.resync hm).turn 0 rfl ho6 hF6 hp6.sup
              have HCD6 := Lib.hid (True.intro)
              have HL6 := Lib.hid hL6
              have HPD6 := Lib.hid hpd6
              have HWL6 := Lib.hid (hwl6.trans HWL.out)
              have HM6 := Lib.hid (show s6.gm = gm by simp only [PgS.mm, Prod.mk.injEq] at hmm6; exact hmm6.1.trans HGM.out)
              clear hL6 hpd6 hwl6 hF6 ho6 hmm6 hp6 he6
              clear HC hm
              simp only [List.nil_append, List.cons_append, List.set_cons_zero, List.set_cons_succ] at hc2
              have HC := Lib.hid hc2
              clear hc2
              have hm := HC.out.rebase
              go_simp
              refine hK.out _ _ (KnS.of hm (RK2.out _ (HC.out.resync hm).low)) (fun hHeld => ?_)
              clear hK K
              try simp only [Act.put, sxQ]
              by_cases hz : (Pg.rwrite (svs vs1) yi dt).2 = 0
              · have hz2 : ((Pg.rwrite (svs vs1) yi dt).2 == 0) = true := by rw [beq_iff_eq]; exact hz
                clear hz
                iterate 1 (first | (refine takeN 12 hHeld ?_) | (refine takeY 12 ?_ hHeld ?_ ?_; rotate_left 1; (first | (intro w9 h9; (with_reducible show (execOp _ (Oper.mk _ (Op.load _ _) _ _ _ _)).run _ _ = _); first | exact h9.ldA | exact h9.lcA | exact h9.laA | exact h9.lrA) | focus (intro w9 hSw; go_simp; (try (with_reducible rfl)); done))); try simp only [Act.put, sxQ])
                refine wpAnyH_done (by kernel_rfl) ?_ _
                refine NoPanic.normal ?_
                go_wp2_with (first | go_skip | ((with_reducible show wpList _ _ _ _ _ (World.alloc _ _)); refine wpList_up hm ?_; clear hm; intro n w hn hn2 hk hm hd hd2 ho; (try rw [← hn]); replace hn := Nat.le_of_eq hn.symm) | ((first | ((with_reducible show wpList _ _ _ (Oper.mk _ (Op.box _ _) _ _ _ _ :: _) _ _); (refine bxA hm ?_; clear hm; intro n w hn hz hm ho; (try simp only [List.cons_append, List.nil_append] at hm))) | ((with_reducible show wpList _ _ _ (Oper.mk _ (Op.load _ _) _ _ _ _ :: _) _ _); first | (refine ldA hm ?_) | (refine laA hm ?_) | (refine lcA (RK2.out _ (HC.out.resync hm).low) ?_) | (refine lrA (RK2.out _ (HC.out.resync hm).low) ?_)) | ((with_reducible show wpList _ _ _ (Oper.mk _ (Op.store _ _ _) _ _ _ _ :: _) _ _); (refine stA hm ?_; clear hm; intro w hz hm ho)) | ((with_reducible show wpList _ _ _ (Oper.mk _ (Op.alloc _) _ _ _ _ :: _) _ _); (refine alA hm ?_; clear hm; intro n w hn hz hm ho; (try simp only [List.cons_append, List.nil_append] at hm)))); try simp only [Act.put, sxQ]))
                refine wp_region_noPanic ?_
                refine wp_region_phase (S := KnS _ _) [15] (by kernel_rfl) (KnS.of hm.drew (RK2.out _ (HC.out.resync hm.drew).low)) (fun hHeld => ?_)
                refine wpAnyP_fresh (by repeat (first | apply Fresh.a | apply Fresh.b)) ?_
                replace hm := hm.drew
                iterate 10 (first | (refine takePN 0 hHeld ?_) | (refine takePY 0 ?_ hHeld ?_ ?_; rotate_left 1; (first | (intro w9 h9; (with_reducible show (execOp _ (Oper.mk _ (Op.load _ _) _ _ _ _)).run _ _ = _); first | exact h9.ldA | exact h9.lcA | exact h9.laA | exact h9.lrA) | focus (intro w9 hSw; go_simp; (try (with_reducible rfl)); done))); try simp only [Act.put, sxQ])
                refine wpAnyP_one 10 (by kernel_rfl) (by simp only [sxN]; first | done | exact rfl) (fun K hK => ?_)
                rw [if_pos (by rfl)]
                go_simp
                refine (law11_data ⟨re, ex, yi, yj, yA, yn, yc, ys⟩ _ ((HC.out.resync hm).old HY.out)).mono ?_
                rw [HDT.out]
                rintro e w7 ⟨A7, n7, c7, rfl, hb7, _, hl7⟩
                have HB7 := Lib.hid hb7
                have hc2 := (HC.out.resync hm).below hl7
                clear hb7 hl7
                clear HC hm
                simp only [List.nil_append, List.cons_append, List.set_cons_zero, List.set_cons_succ] at hc2
                have HC := Lib.hid hc2
                clear hc2
                have hm := HC.out.rebase
                go_simp
                refine hK.out _ _ (KnS.of hm (RK2.out _ (HC.out.resync hm).low)) (fun hHeld => ?_)
                clear hK K
                try simp only [Act.put, sxQ]
                refine wpAnyP_one 11 (by kernel_rfl) (by simp only [sxN]; first | done | exact rfl) (fun K hK => ?_)
                rw [if_pos (by rfl)]
                go_simp
                refine (ref11_Write A1 n1 c1 vs1 GR1 yi A7 n7 c7 dt _ ((HC.out.resync hm).val 0 rfl) HB7.out HN1.out).mono ?_
                rintro e w8 ⟨A8, n8, c8, vs8, GR8, rfl, hr8, hv8, hG8, hb8⟩
                have hc2 := (HC.out.resync hm).nextG 0 rfl hb8 hG8 hr8.sup
                have HV8 := Lib.hid hv8
                have HN8 := Lib.hid (show n8 ≤ 100000 by
                  have q1 := congrArg List.length hv8
                  rw [HRL.out, svs, svs, List.length_map, List.length_map, hr8.len, ((HC.out.resync hm).val 0 rfl).len] at q1
                  have := HN1.out; omega)
                clear hr8 hv8 hG8 hb8
                clear HC hm
                simp only [List.nil_append, List.cons_append, List.set_cons_zero, List.set_cons_succ] at hc2
                have HC := Lib.hid hc2
                clear hc2
                have hm := HC.out.rebase
                go_simp
                refine hK.out _ _ (KnS.of hm (RK2.out _ (HC.out.resync hm).low)) (fun hHeld => ?_)
                clear hK K
                try simp only [Act.put, sxQ]
                iterate 1 (refine wpAnyP_takeP (b := 12) (by repeat (first | apply Seek.a | apply Seek.b | apply Seek.c)) (by simp only [sxN]; first | done | exact rfl) ⟨?_, by kernel_rfl, by kernel_rfl, by kernel_rfl, by kernel_rfl, fun _ _ _ h => h, Or.inl ⟨by rfl, ?_⟩, (by first | exact Early.of hHeld | exact Early.off (by kernel_rfl)), ?_⟩; rotate_left 1; focus (intro w9 hSw; go_simp; (try (with_reducible rfl)); done); try simp only [Act.put, sxQ])
                try simp only [Act.put, sxQ]
                iterate 1 (refine wpAnyP_takeP (b := 13) (by repeat (first | apply Seek.a | apply Seek.b | apply Seek.c)) (by simp only [sxN]; first | done | exact rfl) ⟨?_, by kernel_rfl, by kernel_rfl, by kernel_rfl, by kernel_rfl, fun _ _ _ h => h, Or.inl ⟨by rfl, ?_⟩, (by first | exact Early.of hHeld | exact Early.off (by kernel_rfl)), ?_⟩; rotate_left 1; focus (intro w9 hSw; go_simp; (try (with_reducible rfl)); done); try simp only [Act.put, sxQ])
                try simp only [Act.put, sxQ]
                iterate 1 (refine wpAnyP_takeP (b := 14) (by repeat (first | apply Seek.a | apply Seek.b | apply Seek.c)) (by simp only [sxN]; first | done | exact rfl) ⟨?_, by kernel_rfl, by kernel_rfl, by kernel_rfl, by kernel_rfl, fun _ _ _ h => h, Or.inl ⟨by rfl, ?_⟩, (by first | exact Early.of hHeld | exact Early.off (by kernel_rfl)), ?_⟩; rotate_left 1; focus (intro w9 hSw; go_simp; (try (with_reducible rfl)); done); try simp only [Act.put, sxQ])
                try simp only [Act.put, sxQ]
                refine wpAnyP_last 15 (by kernel_rfl) (by simp only [sxN]; first | done | exact rfl) (by kernel_rfl) (fun K hK => ?_)
                refine stB hm ?_
                clear hm; intro w hz hm ho
                refine hK.out _ _ ?_
                clear hK K
                try simp only [Act.put, sxQ]
                refine wpAnyP_done (by kernel_rfl) ?_ _
                refine NoPanic.normal ?_
                go_wp2_with (first | go_skip | ((with_reducible show wpList _ _ _ _ _ (World.alloc _ _)); refine wpList_up hm ?_; clear hm; intro n w hn hn2 hk hm hd hd2 ho; (try rw [← hn]); replace hn := Nat.le_of_eq hn.symm) | ((first | ((with_reducible show wpList _ _ _ (Oper.mk _ (Op.box _ _) _ _ _ _ :: _) _ _); (refine bxA hm ?_; clear hm; intro n w hn hz hm ho; (try simp only [List.cons_append, List.nil_append] at hm))) | ((with_reducible show wpList _ _ _ (Oper.mk _ (Op.load _ _) _ _ _ _ :: _) _ _); first | (refine ldA hm ?_) | (refine laA hm ?_) | (refine lcA (RK2.out _ (HC.out.resync hm).low) ?_) | (refine lrA (RK2.out _ (HC.out.resync hm).low) ?_)) | ((with_reducible show wpList _ _ _ (Oper.mk _ (Op.store _ _ _) _ _ _ _ :: _) _ _); (refine stA hm ?_; clear hm; intro w hz hm ho)) | ((with_reducible show wpList _ _ _ (Oper.mk _ (Op.alloc _) _ _ _ _ :: _) _ _); (refine alA hm ?_; clear hm; intro n w hn hz hm ho; (try simp only [List.cons_append, List.nil_append] at hm)))); try simp only [Act.put, sxQ]))
                go_roundg j
                case measure => omega
                case rel => exact ⟨k + 1, by omega, by go_num, G6, s6, p6, fr6, svs vs8, A8, n8, c8, vs8, GR8, HM6.out, by rw [HV8.out]; exact HL6.out.mono (by omega), HPD6.out, HCD6.out, HWL6.out, rfl, HN8.out, (HC.out.resync hm).keep 1 0 1⟩
              · have hz2 : ((Pg.rwrite (svs vs1) yi dt).2 == 0) = false := by rw [beq_eq_false_iff_ne]; exact hz
                have hsame : (Pg.rwrite (svs vs1) yi dt).1 = svs vs1 := by
                  unfold Pg.rwrite at hz ⊢
                  split
                  · rfl
                  · split
                    · rfl
                    · rename_i q1 q2; rw [if_neg q1, if_neg q2] at hz; exact absurd rfl hz
                have HSM := Lib.hid hsame
                clear hsame hz
                generalize Pg.rwrite (svs vs1) yi dt = ry at *
                iterate 1 (first | (refine takeN 12 hHeld ?_) | (refine takeY 12 ?_ hHeld ?_ ?_; rotate_left 1; (first | (intro w9 h9; (with_reducible show (execOp _ (Oper.mk _ (Op.load _ _) _ _ _ _)).run _ _ = _); first | exact h9.ldA | exact h9.lcA | exact h9.laA | exact h9.lrA) | focus (intro w9 hSw; go_simp; (try (with_reducible rfl)); done))); try simp only [Act.put, sxQ])
                refine wpAnyH_done (by kernel_rfl) ?_ _
                refine NoPanic.normal ?_
                go_wp2_with (first | go_skip | ((with_reducible show wpList _ _ _ _ _ (World.alloc _ _)); refine wpList_up hm ?_; clear hm; intro n w hn hn2 hk hm hd hd2 ho; (try rw [← hn]); replace hn := Nat.le_of_eq hn.symm) | ((first | ((with_reducible show wpList _ _ _ (Oper.mk _ (Op.box _ _) _ _ _ _ :: _) _ _); (refine bxA hm ?_; clear hm; intro n w hn hz hm ho; (try simp only [List.cons_append, List.nil_append] at hm))) | ((with_reducible show wpList _ _ _ (Oper.mk _ (Op.load _ _) _ _ _ _ :: _) _ _); first | (refine ldA hm ?_) | (refine laA hm ?_) | (refine lcA (RK2.out _ (HC.out.resync hm).low) ?_) | (refine lrA (RK2.out _ (HC.out.resync hm).low) ?_)) | ((with_reducible show wpList _ _ _ (Oper.mk _ (Op.store _ _ _) _ _ _ _ :: _) _ _); (refine stA hm ?_; clear hm; intro w hz hm ho)) | ((with_reducible show wpList _ _ _ (Oper.mk _ (Op.alloc _) _ _ _ _ :: _) _ _); (refine alA hm ?_; clear hm; intro n w hn hz hm ho; (try simp only [List.cons_append, List.nil_append] at hm)))); try simp only [Act.put, sxQ]))
                go_roundg j
                case measure => omega
                case rel => exact ⟨k + 1, by omega, by go_num, G6, s6, p6, fr6, svs vs1, A1, n1, c1, vs1, GR1, HM6.out, by rw [← HSM.out]; exact HL6.out.mono (by omega), HPD6.out, HCD6.out, HWL6.out, rfl, HN1.out, (HC.out.resync hm).keep 1 0 0⟩
              --@}
            | zero =>
              obtain rfl : m = k := by omega
              have ik : decide ((m : Int) < (m : Int)) = false := decide_eq_false (by omega)
              clear hkg
              --@restB{
              have hcnt : (svs vs1).length ≤ 42 := by
                have q1 := HL.out.len
                have q2 := HL.out.inv.cnt
                rw [HWL.out] at q2
                omega
              go_wp2_with (first | go_skip | ((with_reducible show wpList _ _ _ _ _ (World.alloc _ _)); refine wpList_up hm ?_; clear hm; intro n w hn hn2 hk hm hd hd2 ho; (try rw [← hn]); replace hn := Nat.le_of_eq hn.symm) | ((first | ((with_reducible show wpList _ _ _ (Oper.mk _ (Op.box _ _) _ _ _ _ :: _) _ _); (refine bxA hm ?_; clear hm; intro n w hn hz hm ho; (try simp only [List.cons_append, List.nil_append] at hm))) | ((with_reducible show wpList _ _ _ (Oper.mk _ (Op.load _ _) _ _ _ _ :: _) _ _); first | (refine ldA hm ?_) | (refine laA hm ?_)) | ((with_reducible show wpList _ _ _ (Oper.mk _ (Op.store _ _ _) _ _ _ _ :: _) _ _); (refine stA hm ?_; clear hm; intro w hz hm ho)) | ((with_reducible show wpList _ _ _ (Oper.mk _ (Op.alloc _) _ _ _ _ :: _) _ _); (refine alA hm ?_; clear hm; intro n w hn hz hm ho; (try simp only [List.cons_append, List.nil_append] at hm)))); try simp only [Act.put, sxQ]))
              go_at_call 21
              refine (law11_shows ((HC.out.resync hm).obj 0 rfl) HL.out (by omega) A1 n1 c1 vs1 GR1 ((HC.out.resync hm).val 0 rfl) (((HC.out.resync hm).vs _ List.mem_cons_self).2.1 _ List.mem_cons_self) rfl).mono ?_
              rintro e w5 ⟨rfl, c5, hp5, hL5, _, hon5⟩
              have hc2 := (HC.out.resync hm).turn 0 rfl hon5 (fun q h => .inl h) hp5.sup
              have HL5 := Lib.hid (hL5.mono (show _ ≤ 2000000 by omega))
              clear hp5 hon5 hL5
              clear HC hm
              simp only [List.nil_append, List.cons_append, List.set_cons_zero, List.set_cons_succ] at hc2
              have HC := Lib.hid hc2
              clear hc2
              have hm := HC.out.rebase

              go_wp2_with (first | go_skip | ((with_reducible show wpList _ _ _ _ _ (World.alloc _ _)); refine wpList_up hm ?_; clear hm; intro n w hn hn2 hk hm hd hd2 ho; (try rw [← hn]); replace hn := Nat.le_of_eq hn.symm) | ((first | ((with_reducible show wpList _ _ _ (Oper.mk _ (Op.box _ _) _ _ _ _ :: _) _ _); (refine bxA hm ?_; clear hm; intro n w hn hz hm ho; (try simp only [List.cons_append, List.nil_append] at hm))) | ((with_reducible show wpList _ _ _ (Oper.mk _ (Op.load _ _) _ _ _ _ :: _) _ _); first | (refine ldA hm ?_) | (refine laA hm ?_)) | ((with_reducible show wpList _ _ _ (Oper.mk _ (Op.store _ _ _) _ _ _ _ :: _) _ _); (refine stA hm ?_; clear hm; intro w hz hm ho)) | ((with_reducible show wpList _ _ _ (Oper.mk _ (Op.alloc _) _ _ _ _ :: _) _ _); (refine alA hm ?_; clear hm; intro n w hn hz hm ho; (try simp only [List.cons_append, List.nil_append] at hm)))); try simp only [Act.put, sxQ]))
              go_at_call 10
              refine (law11_works _).mono ?_
              rintro e w8 ⟨rfl, hb8⟩
              go_wp2_with (first | go_skip | ((with_reducible show wpList _ _ _ _ _ (World.alloc _ _)); refine wpList_up hm ?_; clear hm; intro n w hn hn2 hk hm hd hd2 ho; (try rw [← hn]); replace hn := Nat.le_of_eq hn.symm) | ((first | ((with_reducible show wpList _ _ _ (Oper.mk _ (Op.box _ _) _ _ _ _ :: _) _ _); (refine bxA hm ?_; clear hm; intro n w hn hz hm ho; (try simp only [List.cons_append, List.nil_append] at hm))) | ((with_reducible show wpList _ _ _ (Oper.mk _ (Op.load _ _) _ _ _ _ :: _) _ _); first | (refine ldA hm ?_) | (refine laA hm ?_)) | ((with_reducible show wpList _ _ _ (Oper.mk _ (Op.store _ _ _) _ _ _ _ :: _) _ _); (refine stA hm ?_; clear hm; intro w hz hm ho)) | ((with_reducible show wpList _ _ _ (Oper.mk _ (Op.alloc _) _ _ _ _ :: _) _ _); (refine alA hm ?_; clear hm; intro n w hn hz hm ho; (try simp only [List.cons_append, List.nil_append] at hm)))); try simp only [Act.put, sxQ]))
              go_ret
              have hb9 := (HC.out.resync hm).low
              exact ⟨rfl, hb9.trans (hb8.mono hb9.size)⟩
              --@}
          --@}
      --@}
end Go.Proofs.Ytnlhammgcemchaa
