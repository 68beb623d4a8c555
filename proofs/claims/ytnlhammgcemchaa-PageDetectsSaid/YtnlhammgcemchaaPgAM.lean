/-
  PageDetects: whatever bits are wrong, nothing but the bytes of the page is read.
-/
import Derived.Test.YtnlhammgcemchaaZ0
import Derived.Test.YtnlhammgcemchaaPgAO
namespace Go.Proofs.Ytnlhammgcemchaa
set_option maxRecDepth 100000
set_option linter.unusedSimpArgs false
set_option linter.unusedVariables false
open Go.RowKit
set_option maxHeartbeats 8000000

/-- At the start of a round, or after some reads. -/
def DtInv (B : Nat) (d : Prop) (w0 : World) (n14 gm g : Nat) (A : Option Addr) (n c : Nat) (vs : List SV) (GR : Nat → Prop) (wr : World) : Prop :=
  ∃ G s p fr, s.gm = gm ∧ Pg.Hurt B fr p (svs vs) ∧ (d → Pg.Live B fr p (svs vs)) ∧
    Scn w0 wr [⟨n14, 36, #[.slice A n c]⟩] [] [⟨G, fun u => PAt u g G s p⟩] [⟨GR, fun u => RfAt u A n c vs GR⟩]
set_option maxRecDepth 100000 in
theorem law_PageDetects_go (nw : Nat) (A : Option Addr) (m c : Nat) (l : List POp) (a b1 b2 : Nat) (w0 : World) (h : POps w0 A m c l) (h1 : 240 ≤ nw) (h2 : nw ≤ 1024) (hsh : Pg.shortB l = true) (ha : a < nw) (hb1 : b1 < 32) (hb2 : b2 < 32) :
    Calls Try.prog 7 #[.int .i64 (nw : Int), .slice A m c, .int .i64 (a : Int), .int .i64 (b1 : Int), .int .i64 (b2 : Int)] w0 fun e w' => e = .returned (.bool true) ∧ Below w0.heap.size w0 w' := by
  have HH := Lib.hid h
  have hm120 : m ≤ 120 := by
    have h9 := h.len
    unfold Pg.shortB at hsh
    simp at hsh
    omega
  have HO := Lib.hid (fun u => law11_open nw u h1 (by omega))
  have HF := Lib.hid (fun (u : World) => ref11_First nw h1 (by omega) u)
  have HS := Lib.hid hsh
  have d1 : decide ((nw : Int) < 240) = false := decide_eq_false (by omega)
  have d2 : decide ((1024 : Int) < (nw : Int)) = false := decide_eq_false (by omega)
  have HAB := Lib.hid (And.intro ha (And.intro hb1 hb2))
  have d3 : decide ((a : Int) < 0) = false := decide_eq_false (by omega)
  have d4 : decide (nw ≤ a) = false := decide_eq_false (by omega)
  have d5 : decide ((b1 : Int) < 0) = false := decide_eq_false (by omega)
  have d6 : decide ((31 : Int) < (b1 : Int)) = false := decide_eq_false (by omega)
  have d7 : decide ((b2 : Int) < 0) = false := decide_eq_false (by omega)
  have d8 : decide ((31 : Int) < (b2 : Int)) = false := decide_eq_false (by omega)
  clear ha hb1 hb2
  have HC := Lib.hid (Scn.start w0)
  have hm := HC.out.rebase
  clear h hsh
  go_enter Try.func7, Try.ntmps7
  go_wp2_with (first | go_skip | ((with_reducible show wpList _ _ _ _ _ (World.alloc _ _)); refine wpList_up hm ?_; clear hm; intro n w hn hn2 hk hm hd hd2 ho; (try rw [← hn]); replace hn := Nat.le_of_eq hn.symm) | ((first | ((with_reducible show wpList _ _ _ (Oper.mk _ (Op.box _ _) _ _ _ _ :: _) _ _); (refine bxA hm ?_; clear hm; intro n w hn hz hm ho; (try simp only [List.cons_append, List.nil_append] at hm))) | ((with_reducible show wpList _ _ _ (Oper.mk _ (Op.load _ _) _ _ _ _ :: _) _ _); first | (refine ldA hm ?_) | (refine laA hm ?_)) | ((with_reducible show wpList _ _ _ (Oper.mk _ (Op.store _ _ _) _ _ _ _ :: _) _ _); (refine stA hm ?_; clear hm; intro w hz hm ho)) | ((with_reducible show wpList _ _ _ (Oper.mk _ (Op.alloc _) _ _ _ _ :: _) _ _); (refine alA hm ?_; clear hm; intro n w hn hz hm ho; (try simp only [List.cons_append, List.nil_append] at hm)))); try simp only [Act.put, sxQ]))
  go_at_call 9
  refine (law11_short A m c l _ HH.out).mono ?_
  rw [HS.out]
  rintro e w1 ⟨rfl, hb1⟩
  have hc2 := (HC.out.resync hm).below hb1
  clear hb1
  clear HC hm
  simp only [List.nil_append, List.cons_append, List.set_cons_zero, List.set_cons_succ] at hc2
  have HC := Lib.hid hc2
  clear hc2
  have hm := HC.out.rebase
  go_wp2_with (first | go_skip | ((with_reducible show wpList _ _ _ _ _ (World.alloc _ _)); refine wpList_up hm ?_; clear hm; intro n w hn hn2 hk hm hd hd2 ho; (try rw [← hn]); replace hn := Nat.le_of_eq hn.symm) | ((first | ((with_reducible show wpList _ _ _ (Oper.mk _ (Op.box _ _) _ _ _ _ :: _) _ _); (refine bxA hm ?_; clear hm; intro n w hn hz hm ho; (try simp only [List.cons_append, List.nil_append] at hm))) | ((with_reducible show wpList _ _ _ (Oper.mk _ (Op.load _ _) _ _ _ _ :: _) _ _); first | (refine ldA hm ?_) | (refine laA hm ?_)) | ((with_reducible show wpList _ _ _ (Oper.mk _ (Op.store _ _ _) _ _ _ _ :: _) _ _); (refine stA hm ?_; clear hm; intro w hz hm ho)) | ((with_reducible show wpList _ _ _ (Oper.mk _ (Op.alloc _) _ _ _ _ :: _) _ _); (refine alA hm ?_; clear hm; intro n w hn hz hm ho; (try simp only [List.cons_append, List.nil_append] at hm)))); try simp only [Act.put, sxQ]))
  go_at_call 22
  refine (HO.out _).mono ?_
  rintro e w2 ⟨hb2, gm, g, G, s, p, rfl, hp, hgm, hsn, hL, hpm, hfx, hG⟩
  have hc2 := (HC.out.resync hm).born hb2 hp.sup hG
  have HL := Lib.hid hL
  have HPM := Lib.hid hpm
  have HGM := Lib.hid hgm
  clear hL hpm hfx hG hp hb2 hsn hgm
  clear HC hm
  simp only [List.nil_append, List.cons_append, List.set_cons_zero, List.set_cons_succ] at hc2
  have HC := Lib.hid hc2
  clear hc2
  have hm := HC.out.rebase
  go_wp2_with (first | go_skip | ((with_reducible show wpList _ _ _ _ _ (World.alloc _ _)); refine wpList_up hm ?_; clear hm; intro n w hn hn2 hk hm hd hd2 ho; (try rw [← hn]); replace hn := Nat.le_of_eq hn.symm) | ((first | ((with_reducible show wpList _ _ _ (Oper.mk _ (Op.box _ _) _ _ _ _ :: _) _ _); (refine bxA hm ?_; clear hm; intro n w hn hz hm ho; (try simp only [List.cons_append, List.nil_append] at hm))) | ((with_reducible show wpList _ _ _ (Oper.mk _ (Op.load _ _) _ _ _ _ :: _) _ _); first | (refine ldA hm ?_) | (refine laA hm ?_)) | ((with_reducible show wpList _ _ _ (Oper.mk _ (Op.store _ _ _) _ _ _ _ :: _) _ _); (refine stA hm ?_; clear hm; intro w hz hm ho)) | ((with_reducible show wpList _ _ _ (Oper.mk _ (Op.alloc _) _ _ _ _ :: _) _ _); (refine alA hm ?_; clear hm; intro n w hn hz hm ho; (try simp only [List.cons_append, List.nil_append] at hm)))); try simp only [Act.put, sxQ]))
  go_at_call 13
  refine (HF.out _).mono ?_
  rintro e w4 ⟨A4, n4, c4, vs4, G4, rfl, hr4, hv4, hn4, hG4, hb4⟩
  have hc2 := (HC.out.resync hm).fresh hb4 hr4.sup (fun q hq => .inl (hG4 q hq))
  have HV4 := Lib.hid hv4
  have HN4 := Lib.hid (show n4 ≤ 100000 by omega)
  clear hr4 hv4 hG4 hb4 hn4
  clear HC hm
  simp only [List.nil_append, List.cons_append, List.set_cons_zero, List.set_cons_succ] at hc2
  have HC := Lib.hid hc2
  clear hc2
  have hm := HC.out.rebase
  go_wp2_with (first | go_skip | ((with_reducible show wpList _ _ _ _ _ (World.alloc _ _)); refine wpList_up hm ?_; clear hm; intro n w hn hn2 hk hm hd hd2 ho; (try rw [← hn]); replace hn := Nat.le_of_eq hn.symm) | ((first | ((with_reducible show wpList _ _ _ (Oper.mk _ (Op.box _ _) _ _ _ _ :: _) _ _); (refine bxA hm ?_; clear hm; intro n w hn hz hm ho; (try simp only [List.cons_append, List.nil_append] at hm))) | ((with_reducible show wpList _ _ _ (Oper.mk _ (Op.load _ _) _ _ _ _ :: _) _ _); first | (refine ldA hm ?_) | (refine laA hm ?_)) | ((with_reducible show wpList _ _ _ (Oper.mk _ (Op.store _ _ _) _ _ _ _ :: _) _ _); (refine stA hm ?_; clear hm; intro w hz hm ho)) | ((with_reducible show wpList _ _ _ (Oper.mk _ (Op.alloc _) _ _ _ _ :: _) _ _); (refine alA hm ?_; clear hm; intro n w hn hz hm ho; (try simp only [List.cons_append, List.nil_append] at hm)))); try simp only [Act.put, sxQ]))
  obtain ⟨n10, h9⟩ := hm.nm 0 rfl
  dsimp only at h9
  subst h9
  have hinv : WLInv 70000 (fun p => Pg.Coded p.m.words) w0 n10 gm nw g 0 w := ⟨G, s, p, _, _, A4, n4, c4, vs4, G4, HGM.out, HL.out, by rw [HPM.out]; rfl, by show Pg.Coded p.m.words; rw [HPM.out]; exact Pg.new_coded _ _, by rw [HPM.out]; simp [Cel.Mem.new], HV4.out, HN4.out, HC.out.resync hm⟩
  clear HC hm HL HPM HGM HV4 HN4

  go_loopg [16] m (fun j v16 wr => ∃ k, k + j = m ∧ v16 = .int .i64 (k : Int) ∧ WLInv 70000 (fun p => Pg.Coded p.m.words) w0 n10 gm nw g k wr)
  case atStart => exact ⟨0, by omega, rfl, hinv⟩
  case round =>
    clear hinv
    obtain ⟨k, hkg, rfl, G1, s1, p1, fr1, st1, A1, n1, c1, vs1, GR1, hgm, hL, hpd, hcd, hwl, hsv, hn1, hsc⟩ := hrel
    have HC := Lib.hid hsc
    have HGM := Lib.hid hgm
    have HL := Lib.hid hL
    have HPD := Lib.hid hpd
    have HCD := Lib.hid hcd
    have HWL := Lib.hid hwl
    have HN1 := Lib.hid hn1
    subst hsv
    have hm := HC.out.rebase
    clear hsc hgm hL hpd hcd hwl hn1
    cases gk with
    | succ j =>
      --@roundA{
      have hkn : k < m := by omega
      have ik : decide ((k : Int) < (m : Int)) = true := decide_eq_true (by omega)
      obtain ⟨bb, oo, y, hA, hyb, hyl, RK⟩ := HH.out.keeps hkn
      subst hA
      have HY := Lib.hid hyb
      obtain ⟨re, ex, yi, yj, yA, yn, yc, ys⟩ := y
      unfold POp.cells at RK
      clear hyb hyl
      have HRL := Lib.hid (Pg.rwrite_length (svs vs1) yi (POp.data ⟨re, ex, yi, yj, yA, yn, yc, ys⟩))
      generalize hdt : POp.data ⟨re, ex, yi, yj, yA, yn, yc, ys⟩ = dt at *
      have HDT := Lib.hid hdt
      clear hdt
      have RK2 : Hid (∀ u : World, Below w0.heap.size w0 u → Rngs [⟨bb, oo + k * 5, [.bool re, .bool ex, .int .i64 yi, .int .i64 yj, .slice yA yn yc]⟩, ⟨bb, oo + k * 5 + 2, [.int .i64 yi]⟩] u) := Lib.hid fun u hu r hr => by
        rcases List.mem_cons.1 hr with rfl | hr
        · exact RK.out u hu _ List.mem_cons_self
        · obtain rfl := List.mem_singleton.1 hr
          intro q v hv
          cases q with
          | zero => cases hv; exact RK.out u hu _ (List.mem_singleton.2 rfl) 2 _ rfl
          | succ q => simp at hv
      go_wp2_with (first | go_skip | ((with_reducible show wpList _ _ _ _ _ (World.alloc _ _)); refine wpList_up hm ?_; clear hm; intro n w hn hn2 hk hm hd hd2 ho; (try rw [← hn]); replace hn := Nat.le_of_eq hn.symm) | ((first | ((with_reducible show wpList _ _ _ (Oper.mk _ (Op.box _ _) _ _ _ _ :: _) _ _); (refine bxA hm ?_; clear hm; intro n w hn hz hm ho; (try simp only [List.cons_append, List.nil_append] at hm))) | ((with_reducible show wpList _ _ _ (Oper.mk _ (Op.load _ _) _ _ _ _ :: _) _ _); first | (refine ldA hm ?_) | (refine laA hm ?_) | (refine lcA (RK2.out _ (HC.out.resync hm).low) ?_) | (refine lrA (RK2.out _ (HC.out.resync hm).low) ?_)) | ((with_reducible show wpList _ _ _ (Oper.mk _ (Op.store _ _ _) _ _ _ _ :: _) _ _); (refine stA hm ?_; clear hm; intro w hz hm ho)) | ((with_reducible show wpList _ _ _ (Oper.mk _ (Op.alloc _) _ _ _ _ :: _) _ _); (refine alA hm ?_; clear hm; intro n w hn hz hm ho; (try simp only [List.cons_append, List.nil_append] at hm)))); try simp only [Act.put, sxQ]))
      refine wp_region_noPanic ?_
      refine wp_region_held_drew (S := KnS _ _) (by kernel_rfl) (KnS.of hm.drew (RK2.out _ (HC.out.resync hm.drew).low)) (fun hHeld => ?_)
      refine wpAnyH_fresh (by repeat (first | apply Fresh.a | apply Fresh.b)) ?_
      replace hm := hm.drew
      iterate 10 (first | (refine takeN 0 hHeld ?_) | (refine takeY 0 ?_ hHeld ?_ ?_; rotate_left 1; (first | (intro w9 h9; (with_reducible show (execOp _ (Oper.mk _ (Op.load _ _) _ _ _ _)).run _ _ = _); first | exact h9.ldA | exact h9.lcA | exact h9.laA | exact h9.lrA) | focus (intro w9 hSw; go_simp; (try (with_reducible rfl)); done))); try simp only [Act.put, sxQ])
      refine wpAnyH_ready (rs := [10]) (by kernel_rfl) (by simp) ?_
      refine AllReadyH.cons2 (by simp only [sxN]; first | done | exact rfl) (fun K hK => ?_)
      rw [if_pos (by rfl)]
      go_simp
      refine (law11_data ⟨re, ex, yi, yj, yA, yn, yc, ys⟩ _ ((HC.out.resync hm).old HY.out)).mono ?_
      rw [HDT.out]
      rintro e w5 ⟨A5, n5, c5, rfl, hb5, hap5, hl5⟩
      have hap : ∀ a, A5 = some a → 0 < n5 → ¬ G1 a.block := fun a e hn hq => by
        rcases hap5 with ⟨r1, r2⟩ | h
        · exact ((HC.out.resync hm).oldO 0 rfl HY.out).2 a (r1.symm.trans e) (by have r3 : n5 = yn := r2; omega) hq
        · have := h a e; have := ((HC.out.resync hm).lt 0 rfl) _ hq; omega
      have HB5 := Lib.hid (And.intro hb5 hap)
      have hc2 := (HC.out.resync hm).below hl5
      clear hb5 hap5 hl5 hap
      clear HC hm
      simp only [List.nil_append, List.cons_append, List.set_cons_zero, List.set_cons_succ] at hc2
      have HC := Lib.hid hc2
      clear hc2
      have hm := HC.out.rebase
      go_simp
      refine hK.out _ _ (KnS.of hm (RK2.out _ (HC.out.resync hm).low)) (fun hHeld => ?_)
      clear hK K
      try simp only [Act.put, sxQ]
      refine wpAnyH_ready (rs := [11]) (by kernel_rfl) (by simp) ?_
      refine AllReadyH.cons2 (by simp only [sxN]; first | done | exact rfl) (fun K hK => ?_)
      rw [if_pos (by rfl)]
      go_simp
      refine (live_WriteC ((HC.out.resync hm).obj 0 rfl) HL.out (by omega) HPD.out yi A5 n5 c5 dt HB5.out).mono ?_
      rintro e w6 ⟨p6, fr6, G6, s6, rfl, hp6, hL6, hpd6, hwl6, _, _, hF6, ho6, hmm6, he6⟩
      have hc2 := (HC.out.resync hm).turn 0 rfl ho6 hF6 hp6.sup
      have HCD6 := Lib.hid (HL.out.writes_coded (by omega) HCD.out yi dt he6)
      have HL6 := Lib.hid hL6
      have HPD6 := Lib.hid hpd6
      have HWL6 := Lib.hid (hwl6.trans HWL.out)
      have HM6 := Lib.hid (show s6.gm = gm by simp only [PgS.mm, Prod.mk.injEq] at hmm6; exact hmm6.1.trans HGM.out)
      clear hL6 hpd6 hwl6 hF6 ho6 hmm6 hp6 he6
      clear HC hm
      simp only [List.nil_append, List.cons_append, List.set_cons_zero, List.set_cons_succ] at hc2
      have HC := Lib.hid hc2
      clear hc2
      have hm := HC.out.rebase
      go_simp
      refine hK.out _ _ (KnS.of hm (RK2.out _ (HC.out.resync hm).low)) (fun hHeld => ?_)
      clear hK K
      try simp only [Act.put, sxQ]
      by_cases hz : (Pg.rwrite (svs vs1) yi dt).2 = 0
      · have hz2 : ((Pg.rwrite (svs vs1) yi dt).2 == 0) = true := by rw [beq_iff_eq]; exact hz
        clear hz
        iterate 1 (first | (refine takeN 12 hHeld ?_) | (refine takeY 12 ?_ hHeld ?_ ?_; rotate_left 1; (first | (intro w9 h9; (with_reducible show (execOp _ (Oper.mk _ (Op.load _ _) _ _ _ _)).run _ _ = _); first | exact h9.ldA | exact h9.lcA | exact h9.laA | exact h9.lrA) | focus (intro w9 hSw; go_simp; (try (with_reducible rfl)); done))); try simp only [Act.put, sxQ])
        refine wpAnyH_done (by kernel_rfl) ?_ _
        refine NoPanic.normal ?_
        go_wp2_with (first | go_skip | ((with_reducible show wpList _ _ _ _ _ (World.alloc _ _)); refine wpList_up hm ?_; clear hm; intro n w hn hn2 hk hm hd hd2 ho; (try rw [← hn]); replace hn := Nat.le_of_eq hn.symm) | ((first | ((with_reducible show wpList _ _ _ (Oper.mk _ (Op.box _ _) _ _ _ _ :: _) _ _); (refine bxA hm ?_; clear hm; intro n w hn hz hm ho; (try simp only [List.cons_append, List.nil_append] at hm))) | ((with_reducible show wpList _ _ _ (Oper.mk _ (Op.load _ _) _ _ _ _ :: _) _ _); first | (refine ldA hm ?_) | (refine laA hm ?_) | (refine lcA (RK2.out _ (HC.out.resync hm).low) ?_) | (refine lrA (RK2.out _ (HC.out.resync hm).low) ?_)) | ((with_reducible show wpList _ _ _ (Oper.mk _ (Op.store _ _ _) _ _ _ _ :: _) _ _); (refine stA hm ?_; clear hm; intro w hz hm ho)) | ((with_reducible show wpList _ _ _ (Oper.mk _ (Op.alloc _) _ _ _ _ :: _) _ _); (refine alA hm ?_; clear hm; intro n w hn hz hm ho; (try simp only [List.cons_append, List.nil_append] at hm)))); try simp only [Act.put, sxQ]))
        refine wp_region_noPanic ?_
        refine wp_region_phase (S := KnS _ _) [15] (by kernel_rfl) (KnS.of hm.drew (RK2.out _ (HC.out.resync hm.drew).low)) (fun hHeld => ?_)
        refine wpAnyP_fresh (by repeat (first | apply Fresh.a | apply Fresh.b)) ?_
        replace hm := hm.drew
        iterate 10 (first | (refine takePN 0 hHeld ?_) | (refine takePY 0 ?_ hHeld ?_ ?_; rotate_left 1; (first | (intro w9 h9; (with_reducible show (execOp _ (Oper.mk _ (Op.load _ _) _ _ _ _)).run _ _ = _); first | exact h9.ldA | exact h9.lcA | exact h9.laA | exact h9.lrA) | focus (intro w9 hSw; go_simp; (try (with_reducible rfl)); done))); try simp only [Act.put, sxQ])
        refine wpAnyP_one 10 (by kernel_rfl) (by simp only [sxN]; first | done | exact rfl) (fun K hK => ?_)
        rw [if_pos (by rfl)]
        go_simp
        refine (law11_data ⟨re, ex, yi, yj, yA, yn, yc, ys⟩ _ ((HC.out.resync hm).old HY.out)).mono ?_
        rw [HDT.out]
        rintro e w7 ⟨A7, n7, c7, rfl, hb7, _, hl7⟩
        have HB7 := Lib.hid hb7
        have hc2 := (HC.out.resync hm).below hl7
        clear hb7 hl7
        clear HC hm
        simp only [List.nil_append, List.cons_append, List.set_cons_zero, List.set_cons_succ] at hc2
        have HC := Lib.hid hc2
        clear hc2
        have hm := HC.out.rebase
        go_simp
        refine hK.out _ _ (KnS.of hm (RK2.out _ (HC.out.resync hm).low)) (fun hHeld => ?_)
        clear hK K
        try simp only [Act.put, sxQ]
        refine wpAnyP_one 11 (by kernel_rfl) (by simp only [sxN]; first | done | exact rfl) (fun K hK => ?_)
        rw [if_pos (by rfl)]
        go_simp
        refine (ref11_Write A1 n1 c1 vs1 GR1 yi A7 n7 c7 dt _ ((HC.out.resync hm).val 0 rfl) HB7.out HN1.out).mono ?_
        rintro e w8 ⟨A8, n8, c8, vs8, GR8, rfl, hr8, hv8, hG8, hb8⟩
        have hc2 := (HC.out.resync hm).nextG 0 rfl hb8 hG8 hr8.sup
        have HV8 := Lib.hid hv8
        have HN8 := Lib.hid (show n8 ≤ 100000 by
          have q1 := congrArg List.length hv8
          rw [HRL.out, svs, svs, List.length_map, List.length_map, hr8.len, ((HC.out.resync hm).val 0 rfl).len] at q1
          have := HN1.out; omega)
        clear hr8 hv8 hG8 hb8
        clear HC hm
        simp only [List.nil_append, List.cons_append, List.set_cons_zero, List.set_cons_succ] at hc2
        have HC := Lib.hid hc2
        clear hc2
        have hm := HC.out.rebase
        go_simp
        refine hK.out _ _ (KnS.of hm (RK2.out _ (HC.out.resync hm).low)) (fun hHeld => ?_)
        clear hK K
        try simp only [Act.put, sxQ]
        iterate 1 (refine wpAnyP_takeP (b := 12) (by repeat (first | apply Seek.a | apply Seek.b | apply Seek.c)) (by simp only [sxN]; first | done | exact rfl) ⟨?_, by kernel_rfl, by kernel_rfl, by kernel_rfl, by kernel_rfl, fun _ _ _ h => h, Or.inl ⟨by rfl, ?_⟩, (by first | exact Early.of hHeld | exact Early.off (by kernel_rfl)), ?_⟩; rotate_left 1; focus (intro w9 hSw; go_simp; (try (with_reducible rfl)); done); try simp only [Act.put, sxQ])
        try simp only [Act.put, sxQ]
        iterate 1 (refine wpAnyP_takeP (b := 13) (by repeat (first | apply Seek.a | apply Seek.b | apply Seek.c)) (by simp only [sxN]; first | done | exact rfl) ⟨?_, by kernel_rfl, by kernel_rfl, by kernel_rfl, by kernel_rfl, fun _ _ _ h => h, Or.inl ⟨by rfl, ?_⟩, (by first | exact Early.of hHeld | exact Early.off (by kernel_rfl)), ?_⟩; rotate_left 1; focus (intro w9 hSw; go_simp; (try (with_reducible rfl)); done); try simp only [Act.put, sxQ])
        try simp only [Act.put, sxQ]
        iterate 1 (refine wpAnyP_takeP (b := 14) (by repeat (first | apply Seek.a | apply Seek.b | apply Seek.c)) (by simp only [sxN]; first | done | exact rfl) ⟨?_, by kernel_rfl, by kernel_rfl, by kernel_rfl, by kernel_rfl, fun _ _ _ h => h, Or.inl ⟨by rfl, ?_⟩, (by first | exact Early.of hHeld | exact Early.off (by kernel_rfl)), ?_⟩; rotate_left 1; focus (intro w9 hSw; go_simp; (try (with_reducible rfl)); done); try simp only [Act.put, sxQ])
        try simp only [Act.put, sxQ]
        refine wpAnyP_last 15 (by kernel_rfl) (by simp only [sxN]; first | done | exact rfl) (by kernel_rfl) (fun K hK => ?_)
        refine stB hm ?_
        clear hm; intro w hz hm ho
        refine hK.out _ _ ?_
        clear hK K
        try simp only [Act.put, sxQ]
        refine wpAnyP_done (by kernel_rfl) ?_ _
        refine NoPanic.normal ?_
        go_wp2_with (first | go_skip | ((with_reducible show wpList _ _ _ _ _ (World.alloc _ _)); refine wpList_up hm ?_; clear hm; intro n w hn hn2 hk hm hd hd2 ho; (try rw [← hn]); replace hn := Nat.le_of_eq hn.symm) | ((first | ((with_reducible show wpList _ _ _ (Oper.mk _ (Op.box _ _) _ _ _ _ :: _) _ _); (refine bxA hm ?_; clear hm; intro n w hn hz hm ho; (try simp only [List.cons_append, List.nil_append] at hm))) | ((with_reducible show wpList _ _ _ (Oper.mk _ (Op.load _ _) _ _ _ _ :: _) _ _); first | (refine ldA hm ?_) | (refine laA hm ?_) | (refine lcA (RK2.out _ (HC.out.resync hm).low) ?_) | (refine lrA (RK2.out _ (HC.out.resync hm).low) ?_)) | ((with_reducible show wpList _ _ _ (Oper.mk _ (Op.store _ _ _) _ _ _ _ :: _) _ _); (refine stA hm ?_; clear hm; intro w hz hm ho)) | ((with_reducible show wpList _ _ _ (Oper.mk _ (Op.alloc _) _ _ _ _ :: _) _ _); (refine alA hm ?_; clear hm; intro n w hn hz hm ho; (try simp only [List.cons_append, List.nil_append] at hm)))); try simp only [Act.put, sxQ]))
        go_roundg j
        case measure => omega
        case rel => exact ⟨k + 1, by omega, by go_num, G6, s6, p6, fr6, svs vs8, A8, n8, c8, vs8, GR8, HM6.out, by rw [HV8.out]; exact HL6.out.mono (by omega), HPD6.out, HCD6.out, HWL6.out, rfl, HN8.out, (HC.out.resync hm).keep 1 0 1⟩
      · have hz2 : ((Pg.rwrite (svs vs1) yi dt).2 == 0) = false := by rw [beq_eq_false_iff_ne]; exact hz
        have hsame : (Pg.rwrite (svs vs1) yi dt).1 = svs vs1 := by
          unfold Pg.rwrite at hz ⊢
          split
          · rfl
          · split
            · rfl
            · rename_i q1 q2; rw [if_neg q1, if_neg q2] at hz; exact absurd rfl hz
        have HSM := Lib.hid hsame
        clear hsame hz
        generalize Pg.rwrite (svs vs1) yi dt = ry at *
        iterate 1 (first | (refine takeN 12 hHeld ?_) | (refine takeY 12 ?_ hHeld ?_ ?_; rotate_left 1; (first | (intro w9 h9; (with_reducible show (execOp _ (Oper.mk _ (Op.load _ _) _ _ _ _)).run _ _ = _); first | exact h9.ldA | exact h9.lcA | exact h9.laA | exact h9.lrA) | focus (intro w9 hSw; go_simp; (try (with_reducible rfl)); done))); try simp only [Act.put, sxQ])
        refine wpAnyH_done (by kernel_rfl) ?_ _
        refine NoPanic.normal ?_
        go_wp2_with (first | go_skip | ((with_reducible show wpList _ _ _ _ _ (World.alloc _ _)); refine wpList_up hm ?_; clear hm; intro n w hn hn2 hk hm hd hd2 ho; (try rw [← hn]); replace hn := Nat.le_of_eq hn.symm) | ((first | ((with_reducible show wpList _ _ _ (Oper.mk _ (Op.box _ _) _ _ _ _ :: _) _ _); (refine bxA hm ?_; clear hm; intro n w hn hz hm ho; (try simp only [List.cons_append, List.nil_append] at hm))) | ((with_reducible show wpList _ _ _ (Oper.mk _ (Op.load _ _) _ _ _ _ :: _) _ _); first | (refine ldA hm ?_) | (refine laA hm ?_) | (refine lcA (RK2.out _ (HC.out.resync hm).low) ?_) | (refine lrA (RK2.out _ (HC.out.resync hm).low) ?_)) | ((with_reducible show wpList _ _ _ (Oper.mk _ (Op.store _ _ _) _ _ _ _ :: _) _ _); (refine stA hm ?_; clear hm; intro w hz hm ho)) | ((with_reducible show wpList _ _ _ (Oper.mk _ (Op.alloc _) _ _ _ _ :: _) _ _); (refine alA hm ?_; clear hm; intro n w hn hz hm ho; (try simp only [List.cons_append, List.nil_append] at hm)))); try simp only [Act.put, sxQ]))
        go_roundg j
        case measure => omega
        case rel => exact ⟨k + 1, by omega, by go_num, G6, s6, p6, fr6, svs vs1, A1, n1, c1, vs1, GR1, HM6.out, by rw [← HSM.out]; exact HL6.out.mono (by omega), HPD6.out, HCD6.out, HWL6.out, rfl, HN1.out, (HC.out.resync hm).keep 1 0 0⟩
      --@}
    | zero =>
      obtain rfl : m = k := by omega
      have ik : decide ((m : Int) < (m : Int)) = false := decide_eq_false (by omega)
      clear hkg
      --@restA{
      obtain ⟨m1, m2, e1, e2⟩ := Pg.flip_two p1.m a b1 b2 (by rw [HWL.out]; exact HAB.out.1) HAB.out.2.1 HAB.out.2.2
      have HFL := Lib.hid (HL.out.flips HCD.out (by rw [HWL.out]; exact HAB.out.1) HAB.out.2.1 HAB.out.2.2 e1 e2)
      have hcnt : (svs vs1).length ≤ 42 := by
        have q1 := HL.out.len
        have q2 := HL.out.inv.cnt
        rw [HWL.out] at q2
        omega
      have E1 := Lib.hid e1
      have E2 := Lib.hid e2
      clear e1 e2
      go_wp2_with (first | go_skip | ((with_reducible show wpList _ _ _ _ _ (World.alloc _ _)); refine wpList_up hm ?_; clear hm; intro n w hn hn2 hk hm hd hd2 ho; (try rw [← hn]); replace hn := Nat.le_of_eq hn.symm) | ((first | ((with_reducible show wpList _ _ _ (Oper.mk _ (Op.box _ _) _ _ _ _ :: _) _ _); (refine bxA hm ?_; clear hm; intro n w hn hz hm ho; (try simp only [List.cons_append, List.nil_append] at hm))) | ((with_reducible show wpList _ _ _ (Oper.mk _ (Op.load _ _) _ _ _ _ :: _) _ _); first | (refine ldA hm ?_) | (refine laA hm ?_)) | ((with_reducible show wpList _ _ _ (Oper.mk _ (Op.store _ _ _) _ _ _ _ :: _) _ _); (refine stA hm ?_; clear hm; intro w hz hm ho)) | ((with_reducible show wpList _ _ _ (Oper.mk _ (Op.alloc _) _ _ _ _ :: _) _ _); (refine alA hm ?_; clear hm; intro n w hn hz hm ho; (try simp only [List.cons_append, List.nil_append] at hm)))); try simp only [Act.put, sxQ]))
      --!1
      go_at_call 27
      have hP := (HC.out.resync hm).obj 0 rfl
      have hcf := cell_Flip hP.mem (a : Int) (b1 : Int)
      rw [HGM.out, E1.out] at hcf
      refine hcf.mono ?_
      rintro e w2 ⟨rfl, hm2, ho2⟩
      have hc2 := (HC.out.resync hm).turn 0 rfl (ho2.mono fun q _ hq => hP.memR (by rw [HGM.out]; exact hq)) (fun q hq => .inl hq) (show PAt w2 g G1 s1 (p1.wm m1) from hP.memd (by rw [HGM.out]; exact ho2) (by rw [HGM.out]; exact hm2)).sup
      clear hm2 ho2 hcf hP
      clear HC hm
      simp only [List.nil_append, List.cons_append, List.set_cons_zero, List.set_cons_succ] at hc2
      have HC := Lib.hid hc2
      clear hc2
      have hm := HC.out.rebase
      go_wp2_with (first | go_skip | ((with_reducible show wpList _ _ _ _ _ (World.alloc _ _)); refine wpList_up hm ?_; clear hm; intro n w hn hn2 hk hm hd hd2 ho; (try rw [← hn]); replace hn := Nat.le_of_eq hn.symm) | ((first | ((with_reducible show wpList _ _ _ (Oper.mk _ (Op.box _ _) _ _ _ _ :: _) _ _); (refine bxA hm ?_; clear hm; intro n w hn hz hm ho; (try simp only [List.cons_append, List.nil_append] at hm))) | ((with_reducible show wpList _ _ _ (Oper.mk _ (Op.load _ _) _ _ _ _ :: _) _ _); first | (refine ldA hm ?_) | (refine laA hm ?_)) | ((with_reducible show wpList _ _ _ (Oper.mk _ (Op.store _ _ _) _ _ _ _ :: _) _ _); (refine stA hm ?_; clear hm; intro w hz hm ho)) | ((with_reducible show wpList _ _ _ (Oper.mk _ (Op.alloc _) _ _ _ _ :: _) _ _); (refine alA hm ?_; clear hm; intro n w hn hz hm ho; (try simp only [List.cons_append, List.nil_append] at hm)))); try simp only [Act.put, sxQ]))
      --!2
      go_at_call 27
      have hP := (HC.out.resync hm).obj 0 rfl
      have hcf := cell_Flip hP.mem (a : Int) (b2 : Int)
      rw [HGM.out, show (p1.wm m1).m = m1 from rfl, E2.out] at hcf
      refine hcf.mono ?_
      rintro e w3 ⟨rfl, hm2, ho2⟩
      have hc2 := (HC.out.resync hm).turn 0 rfl (ho2.mono fun q _ hq => hP.memR (by rw [HGM.out]; exact hq)) (fun q hq => .inl hq) (show PAt w3 g G1 s1 (p1.wm m2) from hP.memd (by rw [HGM.out]; exact ho2) (by rw [HGM.out]; exact hm2)).sup
      clear hm2 ho2 hcf hP
      clear HC hm
      simp only [List.nil_append, List.cons_append, List.set_cons_zero, List.set_cons_succ] at hc2
      have HC := Lib.hid hc2
      clear hc2
      have hm := HC.out.rebase
      go_wp2_with (first | go_skip | ((with_reducible show wpList _ _ _ _ _ (World.alloc _ _)); refine wpList_up hm ?_; clear hm; intro n w hn hn2 hk hm hd hd2 ho; (try rw [← hn]); replace hn := Nat.le_of_eq hn.symm) | ((first | ((with_reducible show wpList _ _ _ (Oper.mk _ (Op.box _ _) _ _ _ _ :: _) _ _); (refine bxA hm ?_; clear hm; intro n w hn hz hm ho; (try simp only [List.cons_append, List.nil_append] at hm))) | ((with_reducible show wpList _ _ _ (Oper.mk _ (Op.load _ _) _ _ _ _ :: _) _ _); first | (refine ldA hm ?_) | (refine laA hm ?_)) | ((with_reducible show wpList _ _ _ (Oper.mk _ (Op.store _ _ _) _ _ _ _ :: _) _ _); (refine stA hm ?_; clear hm; intro w hz hm ho)) | ((with_reducible show wpList _ _ _ (Oper.mk _ (Op.alloc _) _ _ _ _ :: _) _ _); (refine alA hm ?_; clear hm; intro n w hn hz hm ho; (try simp only [List.cons_append, List.nil_append] at hm)))); try simp only [Act.put, sxQ]))
      --!3
      have hD : DtInv 1000000 (b1 = b2) w0 n10 gm g A1 n1 c1 vs1 GR1 w3 := ⟨G1, s1, p1.wm m2, fr1, HGM.out, HFL.out.1.mono (by omega), fun h => (HFL.out.2 h).mono (by omega), HC.out.resync hm⟩
      clear HC hm HFL HL HCD HPD HWL HGM E1 E2 HN1
      go_loopg [12, 17] 2 (fun j v12 v17 wr => ∃ (k2 g' : Nat), k2 + j = 2 ∧ v17 = .int .i64 (k2 : Int) ∧ v12 = .pointer (some ⟨g', 0, none⟩) ∧ DtInv (1000000 + 100000 * k2) (b1 = b2) w0 n10 gm g' A1 n1 c1 vs1 GR1 wr)
      case atStart => exact ⟨0, g, by omega, rfl, rfl, hD⟩
      case round =>
        clear hD
        obtain ⟨k2, g', hkg, rfl, rfl, hD⟩ := hrel
        cases gk with
        | zero =>
          obtain rfl : k2 = 2 := by omega
          have ik2 : decide (((2 : Nat) : Int) < 2) = false := by decide
          --@end{
          go_wp2_with fail
          go_at_call 10
          refine (law11_works _).mono ?_
          rintro e w8 ⟨rfl, hb8⟩
          go_wp2_with fail
          go_ret
          obtain ⟨_, _, _, _, _, _, _, hsc⟩ := hD
          have hb9 := hsc.low
          exact ⟨rfl, hb9.trans (hb8.mono hb9.size)⟩
          --@}
        | succ j =>
          have hk2 : k2 < 2 := by omega
          have ik2 : decide ((k2 : Int) < 2) = true := decide_eq_true (by omega)
          go_wp2_with fail
          --!4
          go_loopg [18] (svs vs1).length (fun j2 v18 wr => ∃ q, q + j2 = (svs vs1).length ∧ v18 = .int .i64 (q : Int) ∧ DtInv (1000000 + 100000 * k2 + 1000 * q) (b1 = b2) w0 n10 gm g' A1 n1 c1 vs1 GR1 wr)
          case atStart => exact ⟨0, by omega, rfl, hD⟩
          case round =>
            clear hD
            obtain ⟨q, hqg, rfl, G, s, p, fr, hgm, hH, hd, hsc⟩ := hrel
            have HC := Lib.hid hsc
            have HGM := Lib.hid hgm
            have HH2 := Lib.hid hH
            have HD := Lib.hid hd
            have hm := HC.out.rebase
            clear hsc hgm hH hd
            cases gk with
            | zero =>
              obtain rfl : q = (svs vs1).length := by omega
              have iq : decide (((svs vs1).length : Int) < ((svs vs1).length : Int)) = false := decide_eq_false (by omega)
              --@open{
              go_wp2_with (first | go_skip | ((with_reducible show wpList _ _ _ _ _ (World.alloc _ _)); refine wpList_up hm ?_; clear hm; intro n w hn hn2 hk hm hd hd2 ho; (try rw [← hn]); replace hn := Nat.le_of_eq hn.symm) | ((first | ((with_reducible show wpList _ _ _ (Oper.mk _ (Op.box _ _) _ _ _ _ :: _) _ _); (refine bxA hm ?_; clear hm; intro n w hn hz hm ho; (try simp only [List.cons_append, List.nil_append] at hm))) | ((with_reducible show wpList _ _ _ (Oper.mk _ (Op.load _ _) _ _ _ _ :: _) _ _); first | (refine ldA hm ?_) | (refine laA hm ?_)) | ((with_reducible show wpList _ _ _ (Oper.mk _ (Op.store _ _ _) _ _ _ _ :: _) _ _); (refine stA hm ?_; clear hm; intro w hz hm ho)) | ((with_reducible show wpList _ _ _ (Oper.mk _ (Op.alloc _) _ _ _ _ :: _) _ _); (refine alA hm ?_; clear hm; intro n w hn hz hm ho; (try simp only [List.cons_append, List.nil_append] at hm)))); try simp only [Act.put, sxQ]))
              go_at_call 24
              refine (hurt_Count ((HC.out.resync hm).obj 0 rfl) HH2.out).mono ?_
              rintro e w4 ⟨rfl, hb4⟩
              have hc2 := (HC.out.resync hm).below hb4
              clear hb4
              clear HC hm
              simp only [List.nil_append, List.cons_append, List.set_cons_zero, List.set_cons_succ] at hc2
              have HC := Lib.hid hc2
              clear hc2
              have hm := HC.out.rebase

              go_wp2_with (first | go_skip | ((with_reducible show wpList _ _ _ _ _ (World.alloc _ _)); refine wpList_up hm ?_; clear hm; intro n w hn hn2 hk hm hd hd2 ho; (try rw [← hn]); replace hn := Nat.le_of_eq hn.symm) | ((first | ((with_reducible show wpList _ _ _ (Oper.mk _ (Op.box _ _) _ _ _ _ :: _) _ _); (refine bxA hm ?_; clear hm; intro n w hn hz hm ho; (try simp only [List.cons_append, List.nil_append] at hm))) | ((with_reducible show wpList _ _ _ (Oper.mk _ (Op.load _ _) _ _ _ _ :: _) _ _); first | (refine ldA hm ?_) | (refine laA hm ?_)) | ((with_reducible show wpList _ _ _ (Oper.mk _ (Op.store _ _ _) _ _ _ _ :: _) _ _); (refine stA hm ?_; clear hm; intro w hz hm ho)) | ((with_reducible show wpList _ _ _ (Oper.mk _ (Op.alloc _) _ _ _ _ :: _) _ _); (refine alA hm ?_; clear hm; intro n w hn hz hm ho; (try simp only [List.cons_append, List.nil_append] at hm)))); try simp only [Act.put, sxQ]))
              --!10
              go_at_call 12
              have hco := hurt_Open ((HC.out.resync hm).obj 0 rfl) HH2.out (by omega) HD.out
              rw [HGM.out] at hco
              refine hco.mono ?_
              rintro e w5 ⟨hb5, ⟨hnd, rfl⟩ | ⟨g2, G2, s2, p2, rfl, hL2, hp2, e1, hG2⟩⟩
              · have hc2 := (HC.out.resync hm).below hb5
                have hne : ((b1 : Int) != (b2 : Int)) = true := by rw [bne_iff_ne]; intro h; exact hnd (by omega)
                clear hb5 hco hnd
                clear HC hm
                simp only [List.nil_append, List.cons_append, List.set_cons_zero, List.set_cons_succ] at hc2
                have HC := Lib.hid hc2
                clear hc2
                have hm := HC.out.rebase
                go_wp2_with (first | go_skip | ((with_reducible show wpList _ _ _ _ _ (World.alloc _ _)); refine wpList_up hm ?_; clear hm; intro n w hn hn2 hk hm hd hd2 ho; (try rw [← hn]); replace hn := Nat.le_of_eq hn.symm) | ((first | ((with_reducible show wpList _ _ _ (Oper.mk _ (Op.box _ _) _ _ _ _ :: _) _ _); (refine bxA hm ?_; clear hm; intro n w hn hz hm ho; (try simp only [List.cons_append, List.nil_append] at hm))) | ((with_reducible show wpList _ _ _ (Oper.mk _ (Op.load _ _) _ _ _ _ :: _) _ _); first | (refine ldA hm ?_) | (refine laA hm ?_)) | ((with_reducible show wpList _ _ _ (Oper.mk _ (Op.store _ _ _) _ _ _ _ :: _) _ _); (refine stA hm ?_; clear hm; intro w hz hm ho)) | ((with_reducible show wpList _ _ _ (Oper.mk _ (Op.alloc _) _ _ _ _ :: _) _ _); (refine alA hm ?_; clear hm; intro n w hn hz hm ho; (try simp only [List.cons_append, List.nil_append] at hm)))); try simp only [Act.put, sxQ]))
                --!11
                go_at_call 10
                refine (law11_works _).mono ?_
                rintro e w8 ⟨rfl, hb8⟩
                go_wp2_with (first | go_skip | ((with_reducible show wpList _ _ _ _ _ (World.alloc _ _)); refine wpList_up hm ?_; clear hm; intro n w hn hn2 hk hm hd hd2 ho; (try rw [← hn]); replace hn := Nat.le_of_eq hn.symm) | ((first | ((with_reducible show wpList _ _ _ (Oper.mk _ (Op.box _ _) _ _ _ _ :: _) _ _); (refine bxA hm ?_; clear hm; intro n w hn hz hm ho; (try simp only [List.cons_append, List.nil_append] at hm))) | ((with_reducible show wpList _ _ _ (Oper.mk _ (Op.load _ _) _ _ _ _ :: _) _ _); first | (refine ldA hm ?_) | (refine laA hm ?_)) | ((with_reducible show wpList _ _ _ (Oper.mk _ (Op.store _ _ _) _ _ _ _ :: _) _ _); (refine stA hm ?_; clear hm; intro w hz hm ho)) | ((with_reducible show wpList _ _ _ (Oper.mk _ (Op.alloc _) _ _ _ _ :: _) _ _); (refine alA hm ?_; clear hm; intro n w hn hz hm ho; (try simp only [List.cons_append, List.nil_append] at hm)))); try simp only [Act.put, sxQ]))
                go_ret
                have hb9 := (HC.out.resync hm).low
                exact ⟨rfl, hb9.trans (hb8.mono hb9.size)⟩
              · have hc2 := (HC.out.resync hm).turn 0 rfl (Only.of_below hb5) hG2 hp2.sup
                have HL2 := Lib.hid hL2
                have HG2 := Lib.hid e1
                clear hb5 hco hL2 hp2 e1 hG2
                clear HC hm
                simp only [List.nil_append, List.cons_append, List.set_cons_zero, List.set_cons_succ] at hc2
                have HC := Lib.hid hc2
                clear hc2
                have hm := HC.out.rebase
                go_wp2_with (first | go_skip | ((with_reducible show wpList _ _ _ _ _ (World.alloc _ _)); refine wpList_up hm ?_; clear hm; intro n w hn hn2 hk hm hd hd2 ho; (try rw [← hn]); replace hn := Nat.le_of_eq hn.symm) | ((first | ((with_reducible show wpList _ _ _ (Oper.mk _ (Op.box _ _) _ _ _ _ :: _) _ _); (refine bxA hm ?_; clear hm; intro n w hn hz hm ho; (try simp only [List.cons_append, List.nil_append] at hm))) | ((with_reducible show wpList _ _ _ (Oper.mk _ (Op.load _ _) _ _ _ _ :: _) _ _); first | (refine ldA hm ?_) | (refine laA hm ?_)) | ((with_reducible show wpList _ _ _ (Oper.mk _ (Op.store _ _ _) _ _ _ _ :: _) _ _); (refine stA hm ?_; clear hm; intro w hz hm ho)) | ((with_reducible show wpList _ _ _ (Oper.mk _ (Op.alloc _) _ _ _ _ :: _) _ _); (refine alA hm ?_; clear hm; intro n w hn hz hm ho; (try simp only [List.cons_append, List.nil_append] at hm)))); try simp only [Act.put, sxQ]))
                --!12
                go_roundg j
                case measure => omega
                case rel => exact ⟨k2 + 1, g2, by omega, by go_num, rfl, G2, s2, p2, fr, HG2.out.trans rfl, HL2.out.hurt.mono (by omega), fun _ => HL2.out.mono (by omega), HC.out.resync hm⟩
              --@}
            | succ j2 =>
              have hqn : q < (svs vs1).length := by omega
              have iq : decide ((q : Int) < ((svs vs1).length : Int)) = true := decide_eq_true (by omega)
              --@read{
              go_wp2_with (first | go_skip | ((with_reducible show wpList _ _ _ _ _ (World.alloc _ _)); refine wpList_up hm ?_; clear hm; intro n w hn hn2 hk hm hd hd2 ho; (try rw [← hn]); replace hn := Nat.le_of_eq hn.symm) | ((first | ((with_reducible show wpList _ _ _ (Oper.mk _ (Op.box _ _) _ _ _ _ :: _) _ _); (refine bxA hm ?_; clear hm; intro n w hn hz hm ho; (try simp only [List.cons_append, List.nil_append] at hm))) | ((with_reducible show wpList _ _ _ (Oper.mk _ (Op.load _ _) _ _ _ _ :: _) _ _); first | (refine ldA hm ?_) | (refine laA hm ?_)) | ((with_reducible show wpList _ _ _ (Oper.mk _ (Op.store _ _ _) _ _ _ _ :: _) _ _); (refine stA hm ?_; clear hm; intro w hz hm ho)) | ((with_reducible show wpList _ _ _ (Oper.mk _ (Op.alloc _) _ _ _ _ :: _) _ _); (refine alA hm ?_; clear hm; intro n w hn hz hm ho; (try simp only [List.cons_append, List.nil_append] at hm)))); try simp only [Act.put, sxQ]))
              go_at_call 24
              refine (hurt_Count ((HC.out.resync hm).obj 0 rfl) HH2.out).mono ?_
              rintro e w4 ⟨rfl, hb4⟩
              have hc2 := (HC.out.resync hm).below hb4
              clear hb4
              clear HC hm
              simp only [List.nil_append, List.cons_append, List.set_cons_zero, List.set_cons_succ] at hc2
              have HC := Lib.hid hc2
              clear hc2
              have hm := HC.out.rebase

              go_wp2_with (first | go_skip | ((with_reducible show wpList _ _ _ _ _ (World.alloc _ _)); refine wpList_up hm ?_; clear hm; intro n w hn hn2 hk hm hd hd2 ho; (try rw [← hn]); replace hn := Nat.le_of_eq hn.symm) | ((first | ((with_reducible show wpList _ _ _ (Oper.mk _ (Op.box _ _) _ _ _ _ :: _) _ _); (refine bxA hm ?_; clear hm; intro n w hn hz hm ho; (try simp only [List.cons_append, List.nil_append] at hm))) | ((with_reducible show wpList _ _ _ (Oper.mk _ (Op.load _ _) _ _ _ _ :: _) _ _); first | (refine ldA hm ?_) | (refine laA hm ?_)) | ((with_reducible show wpList _ _ _ (Oper.mk _ (Op.store _ _ _) _ _ _ _ :: _) _ _); (refine stA hm ?_; clear hm; intro w hz hm ho)) | ((with_reducible show wpList _ _ _ (Oper.mk _ (Op.alloc _) _ _ _ _ :: _) _ _); (refine alA hm ?_; clear hm; intro n w hn hz hm ho; (try simp only [List.cons_append, List.nil_append] at hm)))); try simp only [Act.put, sxQ]))
              --!20
              go_at_call 17
              refine (hurt_Read ((HC.out.resync hm).obj 0 rfl) HH2.out (by omega) HD.out q hqn).mono ?_
              rintro e w9 ⟨A9, k9, m9, c9, bs9, er9, rfl, hk9, ho9, hc9, hp9, hon9, hr9⟩
              have hc2 := (HC.out.resync hm).turned 0 rfl hon9 (fun q h => .inl h) hp9.sup ho9 (fun q hq e => by have := ((HC.out.resync hm).lt 0 rfl) q hq; have := (ho9.lt _ e).1; omega)
              have HH9 := Lib.hid (HH2.out.more (c := c9) (by omega))
              have HD9 := Lib.hid (fun h => (HD.out h).more (c := c9) (by omega))
              have HR9 := Lib.hid hr9
              clear hk9 ho9 hc9 hp9 hon9 hr9
              clear HC hm
              simp only [List.nil_append, List.cons_append, List.set_cons_zero, List.set_cons_succ] at hc2
              have HC := Lib.hid hc2
              clear hc2
              have hm := HC.out.rebase
              go_wp2_with (first | go_skip | ((with_reducible show wpList _ _ _ _ _ (World.alloc _ _)); refine wpList_up hm ?_; clear hm; intro n w hn hn2 hk hm hd hd2 ho; (try rw [← hn]); replace hn := Nat.le_of_eq hn.symm) | ((first | ((with_reducible show wpList _ _ _ (Oper.mk _ (Op.box _ _) _ _ _ _ :: _) _ _); (refine bxA hm ?_; clear hm; intro n w hn hz hm ho; (try simp only [List.cons_append, List.nil_append] at hm))) | ((with_reducible show wpList _ _ _ (Oper.mk _ (Op.load _ _) _ _ _ _ :: _) _ _); first | (refine ldA hm ?_) | (refine laA hm ?_)) | ((with_reducible show wpList _ _ _ (Oper.mk _ (Op.store _ _ _) _ _ _ _ :: _) _ _); (refine stA hm ?_; clear hm; intro w hz hm ho)) | ((with_reducible show wpList _ _ _ (Oper.mk _ (Op.alloc _) _ _ _ _ :: _) _ _); (refine alA hm ?_; clear hm; intro n w hn hz hm ho; (try simp only [List.cons_append, List.nil_append] at hm)))); try simp only [Act.put, sxQ]))
              --!21
              go_at_call 18
              refine (ref11_Read A1 n1 c1 vs1 GR1 q _ ((HC.out.resync hm).val 0 rfl)).mono ?_
              rintro e w10 ⟨A10, k10, m10, rfl, hk10, ho10, hb10⟩
              have hc2 := (HC.out.resync hm).got hb10 ho10
              clear hk10 ho10 hb10
              clear HC hm
              simp only [List.nil_append, List.cons_append, List.set_cons_zero, List.set_cons_succ] at hc2
              have HC := Lib.hid hc2
              clear hc2
              have hm := HC.out.rebase
              have hs9 := byt_str ((HC.out.resync hm).byt 0 rfl)
              have hs10 := byt_str ((HC.out.resync hm).byt 1 rfl)
              have hrr : Pg.rread (svs vs1) q = ((svs vs1).getD q [], 0) := by
                unfold Pg.rread
                rw [if_neg (by omega), Int.toNat_natCast]
              rw [hrr] at hs10 ⊢
              dsimp only at hs10 ⊢
              clear hrr
              --!22
              rcases HR9.out with ⟨rfl, rfl⟩ | ⟨hnd, rfl, rfl⟩
              · generalize (svs vs1).getD q [] = bs at *
                generalize strOf bs = sx at *
                --!23
                go_wp2_with (first | go_skip | ((with_reducible show wpList _ _ _ _ _ (World.alloc _ _)); refine wpList_up hm ?_; clear hm; intro n w hn hn2 hk hm hd hd2 ho; (try rw [← hn]); replace hn := Nat.le_of_eq hn.symm) | ((first | ((with_reducible show wpList _ _ _ (Oper.mk _ (Op.box _ _) _ _ _ _ :: _) _ _); (refine bxA hm ?_; clear hm; intro n w hn hz hm ho; (try simp only [List.cons_append, List.nil_append] at hm))) | ((with_reducible show wpList _ _ _ (Oper.mk _ (Op.load _ _) _ _ _ _ :: _) _ _); first | (refine ldA hm ?_) | (refine laA hm ?_)) | ((with_reducible show wpList _ _ _ (Oper.mk _ (Op.store _ _ _) _ _ _ _ :: _) _ _); (refine stA hm ?_; clear hm; intro w hz hm ho)) | ((with_reducible show wpList _ _ _ (Oper.mk _ (Op.alloc _) _ _ _ _ :: _) _ _); (refine alA hm ?_; clear hm; intro n w hn hz hm ho; (try simp only [List.cons_append, List.nil_append] at hm)))); try simp only [Act.put, sxQ]))
                --!24
                go_roundg j2
                case measure => omega
                case rel => exact ⟨q + 1, by omega, by go_num, G, s, p.more c9, fr, HGM.out, HH9.out.mono (by omega), fun h => (HD9.out h).mono (by omega), (HC.out.resync hm).keep 1 0 0⟩
              · have hne : ((b1 : Int) == (b2 : Int)) = false := by rw [beq_eq_false_iff_ne]; intro h; exact hnd (by omega)
                clear hnd
                --!25
                go_wp2_with (first | go_skip | ((with_reducible show wpList _ _ _ _ _ (World.alloc _ _)); refine wpList_up hm ?_; clear hm; intro n w hn hn2 hk hm hd hd2 ho; (try rw [← hn]); replace hn := Nat.le_of_eq hn.symm) | ((first | ((with_reducible show wpList _ _ _ (Oper.mk _ (Op.box _ _) _ _ _ _ :: _) _ _); (refine bxA hm ?_; clear hm; intro n w hn hz hm ho; (try simp only [List.cons_append, List.nil_append] at hm))) | ((with_reducible show wpList _ _ _ (Oper.mk _ (Op.load _ _) _ _ _ _ :: _) _ _); first | (refine ldA hm ?_) | (refine laA hm ?_)) | ((with_reducible show wpList _ _ _ (Oper.mk _ (Op.store _ _ _) _ _ _ _ :: _) _ _); (refine stA hm ?_; clear hm; intro w hz hm ho)) | ((with_reducible show wpList _ _ _ (Oper.mk _ (Op.alloc _) _ _ _ _ :: _) _ _); (refine alA hm ?_; clear hm; intro n w hn hz hm ho; (try simp only [List.cons_append, List.nil_append] at hm)))); try simp only [Act.put, sxQ]))
                --!26
                go_roundg j2
                case measure => omega
                case rel => exact ⟨q + 1, by omega, by go_num, G, s, p.more c9, fr, HGM.out, HH9.out.mono (by omega), fun h => (HD9.out h).mono (by omega), (HC.out.resync hm).keep 1 0 0⟩
              --@}
      --@}
end Go.Proofs.Ytnlhammgcemchaa
