/-
  PageCuts: the power is cut in any action.
-/
import Derived.Test.YtnlhammgcemchaaZ0
import Derived.Test.YtnlhammgcemchaaPgAQ
import Derived.Test.YtnlhammgcemchaaPgAF
import Derived.Test.YtnlhammgcemchaaZ1
namespace Go.Proofs.Ytnlhammgcemchaa
set_option maxRecDepth 100000
set_option linter.unusedSimpArgs false
set_option linter.unusedVariables false
open Go.RowKit
set_option maxHeartbeats 8000000

/-- After K actions. -/
def CtInv (w0 : World) (n10 gm : Nat) (K : Nat) (v8 : Value) (wr : World) : Prop :=
  ∃ g G s p fr A n c vs GR, v8 = .pointer (some ⟨g, 0, none⟩) ∧ s.gm = gm ∧ Pg.Live (70000 + 60000 * K) fr p (svs vs) ∧ n ≤ 100000 ∧ (svs vs).length ≤ 42 ∧
    Scn w0 wr [⟨n10, 36, #[.slice A n c]⟩] [] [⟨G, fun u => PAt u g G s p⟩] [⟨GR, fun u => RfAt u A n c vs GR⟩]
theorem tmod7 (z : Int) (h0 : -9223372036854775808 ≤ z) (h1 : z ≤ 9223372036854775807) : IntKind.i64.wrap (z.tmod 7) = z.tmod 7 ∧ z.tmod 7 ≤ 9223372036854775807 := by
  have h2 : z.tmod 7 ≤ 7 ∧ -7 ≤ z.tmod 7 := by
    have := Int.tmod_lt_of_pos z (show (0 : Int) < 7 by omega)
    have := Int.lt_tmod_of_pos z (show (0 : Int) < 7 by omega)
    omega
  exact ⟨IntWalk.i64_in _ (by omega), by omega⟩
set_option maxRecDepth 100000 in
theorem law_PageCuts_go (nw : Nat) (A : Option Addr) (m c : Nat) (l : List POp) (CA : Option Addr) (cm cc : Nat) (zs : List Int) (w0 : World) (h : POps w0 A m c l) (hz : Ints w0 w0.heap.size CA cm cc zs ∧ ∀ z ∈ zs, (Lit.int .i64 z).wf = true) (h1 : 240 ≤ nw) (h2 : nw ≤ 1024) (hsh : Pg.shortB l = true) (h3 : m ≤ 60) :
    Calls Try.prog 8 #[.int .i64 (nw : Int), .slice A m c, .slice CA cm cc] w0 fun e w' => e = .returned (.bool true) ∧ Below w0.heap.size w0 w' := by
  have HH := Lib.hid h
  have hm120 : m ≤ 120 := by
    have h9 := h.len
    unfold Pg.shortB at hsh
    simp at hsh
    omega
  have HO := Lib.hid (fun u => law11_open nw u h1 (by omega))
  have HF := Lib.hid (fun (u : World) => ref11_First nw h1 (by omega) u)
  have HS := Lib.hid hsh
  have d1 : decide ((nw : Int) < 240) = false := decide_eq_false (by omega)
  have d2 : decide ((1024 : Int) < (nw : Int)) = false := decide_eq_false (by omega)
  have HZ := Lib.hid hz.1
  have HZW := Lib.hid (fun k (hk : k < cm) => show -9223372036854775808 ≤ zs.getD k 0 ∧ zs.getD k 0 ≤ 9223372036854775807 by
    have hl : k < zs.length := by rw [hz.1.1]; exact hk
    have := hz.2 _ (List.getElem_mem hl)
    rw [List.getD, List.getElem?_eq_getElem hl]
    simpa [Lit.wf, IntKind.min, IntKind.max, IntKind.signed, IntKind.bits] using this)
  have d3 : decide ((60 : Int) < (m : Int)) = false := decide_eq_false (by omega)
  clear hz
  have HC := Lib.hid (Scn.start w0)
  have hm := HC.out.rebase
  clear h hsh
  go_enter Try.func8, Try.ntmps8
  go_wp2_with (first | go_skip | ((with_reducible show wpList _ _ _ _ _ (World.alloc _ _)); refine wpList_up hm ?_; clear hm; intro n w hn hn2 hk hm hd hd2 ho; (try rw [← hn]); replace hn := Nat.le_of_eq hn.symm) | ((first | ((with_reducible show wpList _ _ _ (Oper.mk _ (Op.box _ _) _ _ _ _ :: _) _ _); (refine bxA hm ?_; clear hm; intro n w hn hz hm ho; (try simp only [List.cons_append, List.nil_append] at hm))) | ((with_reducible show wpList _ _ _ (Oper.mk _ (Op.load _ _) _ _ _ _ :: _) _ _); first | (refine ldA hm ?_) | (refine laA hm ?_)) | ((with_reducible show wpList _ _ _ (Oper.mk _ (Op.store _ _ _) _ _ _ _ :: _) _ _); (refine stA hm ?_; clear hm; intro w hz hm ho)) | ((with_reducible show wpList _ _ _ (Oper.mk _ (Op.alloc _) _ _ _ _ :: _) _ _); (refine alA hm ?_; clear hm; intro n w hn hz hm ho; (try simp only [List.cons_append, List.nil_append] at hm)))); try simp only [Act.put, sxQ]))
  go_at_call 9
  refine (law11_short A m c l _ HH.out).mono ?_
  rw [HS.out]
  rintro e w1 ⟨rfl, hb1⟩
  have hc2 := (HC.out.resync hm).below hb1
  clear hb1
  clear HC hm
  simp only [List.nil_append, List.cons_append, List.set_cons_zero, List.set_cons_succ] at hc2
  have HC := Lib.hid hc2
  clear hc2
  have hm := HC.out.rebase
  go_wp2_with (first | go_skip | ((with_reducible show wpList _ _ _ _ _ (World.alloc _ _)); refine wpList_up hm ?_; clear hm; intro n w hn hn2 hk hm hd hd2 ho; (try rw [← hn]); replace hn := Nat.le_of_eq hn.symm) | ((first | ((with_reducible show wpList _ _ _ (Oper.mk _ (Op.box _ _) _ _ _ _ :: _) _ _); (refine bxA hm ?_; clear hm; intro n w hn hz hm ho; (try simp only [List.cons_append, List.nil_append] at hm))) | ((with_reducible show wpList _ _ _ (Oper.mk _ (Op.load _ _) _ _ _ _ :: _) _ _); first | (refine ldA hm ?_) | (refine laA hm ?_)) | ((with_reducible show wpList _ _ _ (Oper.mk _ (Op.store _ _ _) _ _ _ _ :: _) _ _); (refine stA hm ?_; clear hm; intro w hz hm ho)) | ((with_reducible show wpList _ _ _ (Oper.mk _ (Op.alloc _) _ _ _ _ :: _) _ _); (refine alA hm ?_; clear hm; intro n w hn hz hm ho; (try simp only [List.cons_append, List.nil_append] at hm)))); try simp only [Act.put, sxQ]))
  go_at_call 22
  refine (HO.out _).mono ?_
  rintro e w2 ⟨hb2, gm, g, G, s, p, rfl, hp, hgm, hsn, hL, hpm, hfx, hG⟩
  have hc2 := (HC.out.resync hm).born hb2 hp.sup hG
  have HL := Lib.hid hL
  have HPM := Lib.hid hpm
  have HGM := Lib.hid hgm
  clear hL hpm hfx hG hp hb2 hsn hgm
  clear HC hm
  simp only [List.nil_append, List.cons_append, List.set_cons_zero, List.set_cons_succ] at hc2
  have HC := Lib.hid hc2
  clear hc2
  have hm := HC.out.rebase
  go_wp2_with (first | go_skip | ((with_reducible show wpList _ _ _ _ _ (World.alloc _ _)); refine wpList_up hm ?_; clear hm; intro n w hn hn2 hk hm hd hd2 ho; (try rw [← hn]); replace hn := Nat.le_of_eq hn.symm) | ((first | ((with_reducible show wpList _ _ _ (Oper.mk _ (Op.box _ _) _ _ _ _ :: _) _ _); (refine bxA hm ?_; clear hm; intro n w hn hz hm ho; (try simp only [List.cons_append, List.nil_append] at hm))) | ((with_reducible show wpList _ _ _ (Oper.mk _ (Op.load _ _) _ _ _ _ :: _) _ _); first | (refine ldA hm ?_) | (refine laA hm ?_)) | ((with_reducible show wpList _ _ _ (Oper.mk _ (Op.store _ _ _) _ _ _ _ :: _) _ _); (refine stA hm ?_; clear hm; intro w hz hm ho)) | ((with_reducible show wpList _ _ _ (Oper.mk _ (Op.alloc _) _ _ _ _ :: _) _ _); (refine alA hm ?_; clear hm; intro n w hn hz hm ho; (try simp only [List.cons_append, List.nil_append] at hm)))); try simp only [Act.put, sxQ]))
  go_at_call 13
  refine (HF.out _).mono ?_
  rintro e w4 ⟨A4, n4, c4, vs4, G4, rfl, hr4, hv4, hn4, hG4, hb4⟩
  have hc2 := (HC.out.resync hm).fresh hb4 hr4.sup (fun q hq => .inl (hG4 q hq))
  have HV4 := Lib.hid hv4
  have HN4 := Lib.hid (show n4 ≤ 100000 by omega)
  clear hr4 hv4 hG4 hb4 hn4
  clear HC hm
  simp only [List.nil_append, List.cons_append, List.set_cons_zero, List.set_cons_succ] at hc2
  have HC := Lib.hid hc2
  clear hc2
  have hm := HC.out.rebase
  go_wp2_with (first | go_skip | ((with_reducible show wpList _ _ _ _ _ (World.alloc _ _)); refine wpList_up hm ?_; clear hm; intro n w hn hn2 hk hm hd hd2 ho; (try rw [← hn]); replace hn := Nat.le_of_eq hn.symm) | ((first | ((with_reducible show wpList _ _ _ (Oper.mk _ (Op.box _ _) _ _ _ _ :: _) _ _); (refine bxA hm ?_; clear hm; intro n w hn hz hm ho; (try simp only [List.cons_append, List.nil_append] at hm))) | ((with_reducible show wpList _ _ _ (Oper.mk _ (Op.load _ _) _ _ _ _ :: _) _ _); first | (refine ldA hm ?_) | (refine laA hm ?_)) | ((with_reducible show wpList _ _ _ (Oper.mk _ (Op.store _ _ _) _ _ _ _ :: _) _ _); (refine stA hm ?_; clear hm; intro w hz hm ho)) | ((with_reducible show wpList _ _ _ (Oper.mk _ (Op.alloc _) _ _ _ _ :: _) _ _); (refine alA hm ?_; clear hm; intro n w hn hz hm ho; (try simp only [List.cons_append, List.nil_append] at hm)))); try simp only [Act.put, sxQ]))
  obtain ⟨n10, h9⟩ := hm.nm 0 rfl
  dsimp only at h9
  subst h9
  have hinv : CtInv w0 n10 gm 0 (.pointer (some ⟨g, 0, none⟩)) w := ⟨g, G, s, p, Pg.noFr, A4, n4, c4, vs4, G4, rfl, HGM.out, by rw [HV4.out]; exact HL.out, HN4.out, by rw [HV4.out]; show (Pg.zeros nw).length ≤ 42; simp [Pg.zeros]; omega, HC.out.resync hm⟩
  clear HC hm HL HPM HGM HV4 HN4
  go_loopg [8, 12] m (fun j v8 v12 wr => ∃ k, k + j = m ∧ v12 = .int .i64 (k : Int) ∧ CtInv w0 n10 gm k v8 wr)
  case atStart => exact ⟨0, by omega, rfl, hinv⟩
  case round =>
    clear hinv
    obtain ⟨k, hkg, rfl, g1, G1, s1, p1, fr1, A1, n1, c1, vs1, GR1, rfl, hgm, hL, hn1, hlen, hsc⟩ := hrel
    have HC := Lib.hid hsc
    have HGM := Lib.hid hgm
    have HL := Lib.hid hL
    have HN1 := Lib.hid hn1
    have HLN := Lib.hid hlen
    have hm := HC.out.rebase
    clear hsc hgm hL hn1 hlen
    cases gk with
    | zero =>
      obtain rfl : m = k := by omega
      have ik : decide ((m : Int) < (m : Int)) = false := decide_eq_false (by omega)
      clear hkg
      as_aux_lemma =>
        have HCR := Lib.hid HL.out.can.restore
        go_wp2_with (first | go_skip | ((with_reducible show wpList _ _ _ _ _ (World.alloc _ _)); refine wpList_up hm ?_; clear hm; intro n w hn hn2 hk hm hd hd2 ho; (try rw [← hn]); replace hn := Nat.le_of_eq hn.symm) | ((first | ((with_reducible show wpList _ _ _ (Oper.mk _ (Op.box _ _) _ _ _ _ :: _) _ _); (refine bxA hm ?_; clear hm; intro n w hn hz hm ho; (try simp only [List.cons_append, List.nil_append] at hm))) | ((with_reducible show wpList _ _ _ (Oper.mk _ (Op.load _ _) _ _ _ _ :: _) _ _); first | (refine ldA hm ?_) | (refine laA hm ?_)) | ((with_reducible show wpList _ _ _ (Oper.mk _ (Op.store _ _ _) _ _ _ _ :: _) _ _); (refine stA hm ?_; clear hm; intro w hz hm ho)) | ((with_reducible show wpList _ _ _ (Oper.mk _ (Op.alloc _) _ _ _ _ :: _) _ _); (refine alA hm ?_; clear hm; intro n w hn hz hm ho; (try simp only [List.cons_append, List.nil_append] at hm)))); try simp only [Act.put, sxQ]))
        go_at_call 29
        have hco := page_Restore ((HC.out.resync hm).obj 0 rfl)
        rw [HGM.out] at hco
        refine hco.mono ?_
        rintro e w15 ⟨rfl, hp15, ho15⟩
        have hc2 := (HC.out.resync hm).turn 0 rfl ho15 (fun q h => .inl h) hp15.sup
        clear hp15 ho15 hco
        clear HC hm
        simp only [List.nil_append, List.cons_append, List.set_cons_zero, List.set_cons_succ] at hc2
        have HC := Lib.hid hc2
        clear hc2
        have hm := HC.out.rebase
        go_wp2_with (first | go_skip | ((with_reducible show wpList _ _ _ _ _ (World.alloc _ _)); refine wpList_up hm ?_; clear hm; intro n w hn hn2 hk hm hd hd2 ho; (try rw [← hn]); replace hn := Nat.le_of_eq hn.symm) | ((first | ((with_reducible show wpList _ _ _ (Oper.mk _ (Op.box _ _) _ _ _ _ :: _) _ _); (refine bxA hm ?_; clear hm; intro n w hn hz hm ho; (try simp only [List.cons_append, List.nil_append] at hm))) | ((with_reducible show wpList _ _ _ (Oper.mk _ (Op.load _ _) _ _ _ _ :: _) _ _); first | (refine ldA hm ?_) | (refine laA hm ?_)) | ((with_reducible show wpList _ _ _ (Oper.mk _ (Op.store _ _ _) _ _ _ _ :: _) _ _); (refine stA hm ?_; clear hm; intro w hz hm ho)) | ((with_reducible show wpList _ _ _ (Oper.mk _ (Op.alloc _) _ _ _ _ :: _) _ _); (refine alA hm ?_; clear hm; intro n w hn hz hm ho; (try simp only [List.cons_append, List.nil_append] at hm)))); try simp only [Act.put, sxQ]))

        go_at_call 12
        have hco := page_OpenP ((HC.out.resync hm).obj 0 rfl) rfl HCR.out (by omega)
        rw [HGM.out] at hco
        refine hco.mono ?_

        rintro e w20 ⟨hb20, g2, G2, s2, p9, rfl, hL9, hp9, e9, hG9⟩
        have hc2 := (HC.out.resync hm).turn 0 rfl (Only.of_below hb20) hG9 hp9.sup
        have HL9 := Lib.hid hL9
        clear hb20 hco hL9 hp9 e9 hG9
        clear HC hm
        simp only [List.nil_append, List.cons_append, List.set_cons_zero, List.set_cons_succ] at hc2
        have HC := Lib.hid hc2
        clear hc2
        have hm := HC.out.rebase
        go_wp2_with (first | go_skip | ((with_reducible show wpList _ _ _ _ _ (World.alloc _ _)); refine wpList_up hm ?_; clear hm; intro n w hn hn2 hk hm hd hd2 ho; (try rw [← hn]); replace hn := Nat.le_of_eq hn.symm) | ((first | ((with_reducible show wpList _ _ _ (Oper.mk _ (Op.box _ _) _ _ _ _ :: _) _ _); (refine bxA hm ?_; clear hm; intro n w hn hz hm ho; (try simp only [List.cons_append, List.nil_append] at hm))) | ((with_reducible show wpList _ _ _ (Oper.mk _ (Op.load _ _) _ _ _ _ :: _) _ _); first | (refine ldA hm ?_) | (refine laA hm ?_)) | ((with_reducible show wpList _ _ _ (Oper.mk _ (Op.store _ _ _) _ _ _ _ :: _) _ _); (refine stA hm ?_; clear hm; intro w hz hm ho)) | ((with_reducible show wpList _ _ _ (Oper.mk _ (Op.alloc _) _ _ _ _ :: _) _ _); (refine alA hm ?_; clear hm; intro n w hn hz hm ho; (try simp only [List.cons_append, List.nil_append] at hm)))); try simp only [Act.put, sxQ]))

        go_at_call 21
        refine (law11_shows ((HC.out.resync hm).obj 0 rfl) HL9.out (by omega) A1 n1 c1 vs1 GR1 ((HC.out.resync hm).val 0 rfl) (((HC.out.resync hm).vs _ List.mem_cons_self).2.1 _ List.mem_cons_self) rfl).mono ?_
        rintro e w21 ⟨rfl, c21, hp21, hL21, _, hon21⟩
        have hc2 := (HC.out.resync hm).turn 0 rfl hon21 (fun q h => .inl h) hp21.sup
        have HL21 := Lib.hid hL21
        clear hp21 hon21 hL21
        clear HC hm
        simp only [List.nil_append, List.cons_append, List.set_cons_zero, List.set_cons_succ] at hc2
        have HC := Lib.hid hc2
        clear hc2
        have hm := HC.out.rebase

        go_wp2_with (first | go_skip | ((with_reducible show wpList _ _ _ _ _ (World.alloc _ _)); refine wpList_up hm ?_; clear hm; intro n w hn hn2 hk hm hd hd2 ho; (try rw [← hn]); replace hn := Nat.le_of_eq hn.symm) | ((first | ((with_reducible show wpList _ _ _ (Oper.mk _ (Op.box _ _) _ _ _ _ :: _) _ _); (refine bxA hm ?_; clear hm; intro n w hn hz hm ho; (try simp only [List.cons_append, List.nil_append] at hm))) | ((with_reducible show wpList _ _ _ (Oper.mk _ (Op.load _ _) _ _ _ _ :: _) _ _); first | (refine ldA hm ?_) | (refine laA hm ?_)) | ((with_reducible show wpList _ _ _ (Oper.mk _ (Op.store _ _ _) _ _ _ _ :: _) _ _); (refine stA hm ?_; clear hm; intro w hz hm ho)) | ((with_reducible show wpList _ _ _ (Oper.mk _ (Op.alloc _) _ _ _ _ :: _) _ _); (refine alA hm ?_; clear hm; intro n w hn hz hm ho; (try simp only [List.cons_append, List.nil_append] at hm)))); try simp only [Act.put, sxQ]))
        go_at_call 10
        refine (law11_works _).mono ?_
        rintro e w8 ⟨rfl, hb8⟩
        go_wp2_with (first | go_skip | ((with_reducible show wpList _ _ _ _ _ (World.alloc _ _)); refine wpList_up hm ?_; clear hm; intro n w hn hn2 hk hm hd hd2 ho; (try rw [← hn]); replace hn := Nat.le_of_eq hn.symm) | ((first | ((with_reducible show wpList _ _ _ (Oper.mk _ (Op.box _ _) _ _ _ _ :: _) _ _); (refine bxA hm ?_; clear hm; intro n w hn hz hm ho; (try simp only [List.cons_append, List.nil_append] at hm))) | ((with_reducible show wpList _ _ _ (Oper.mk _ (Op.load _ _) _ _ _ _ :: _) _ _); first | (refine ldA hm ?_) | (refine laA hm ?_)) | ((with_reducible show wpList _ _ _ (Oper.mk _ (Op.store _ _ _) _ _ _ _ :: _) _ _); (refine stA hm ?_; clear hm; intro w hz hm ho)) | ((with_reducible show wpList _ _ _ (Oper.mk _ (Op.alloc _) _ _ _ _ :: _) _ _); (refine alA hm ?_; clear hm; intro n w hn hz hm ho; (try simp only [List.cons_append, List.nil_append] at hm)))); try simp only [Act.put, sxQ]))
        go_ret
        have hb9 := (HC.out.resync hm).low
        exact ⟨rfl, hb9.trans (hb8.mono hb9.size)⟩
    | succ j =>
      have hkn : k < m := by omega
      have ik : decide ((k : Int) < (m : Int)) = true := decide_eq_true (by omega)
      obtain ⟨bb, oo, y, hA, hyb, hyl, RK⟩ := HH.out.keeps hkn
      subst hA
      have HY := Lib.hid hyb
      obtain ⟨re, ex, yi, yj, yA, yn, yc, ys⟩ := y
      unfold POp.cells at RK
      clear hyb hyl
      go_upto_region 11 with (first | go_skip | ((with_reducible show wpList _ _ _ _ _ (World.alloc _ _)); refine wpList_up hm ?_; clear hm; intro n w hn hn2 hk hm hd hd2 ho; (try rw [← hn]); replace hn := Nat.le_of_eq hn.symm) | ((first | ((with_reducible show wpList _ _ _ (Oper.mk _ (Op.box _ _) _ _ _ _ :: _) _ _); (refine bxA hm ?_; clear hm; intro n w hn hz hm ho; (try simp only [List.cons_append, List.nil_append] at hm))) | ((with_reducible show wpList _ _ _ (Oper.mk _ (Op.load _ _) _ _ _ _ :: _) _ _); first | (refine ldA hm ?_) | (refine laA hm ?_) | (refine lcA (RK.out _ (HC.out.resync hm).low) ?_) | (refine lrA (RK.out _ (HC.out.resync hm).low) ?_)) | ((with_reducible show wpList _ _ _ (Oper.mk _ (Op.store _ _ _) _ _ _ _ :: _) _ _); (refine stA hm ?_; clear hm; intro w hz hm ho)) | ((with_reducible show wpList _ _ _ (Oper.mk _ (Op.alloc _) _ _ _ _ :: _) _ _); (refine alA hm ?_; clear hm; intro n w hn hz hm ho; (try simp only [List.cons_append, List.nil_append] at hm)))); try simp only [Act.put, sxQ]))
      obtain ⟨n13, h9⟩ := hm.nm 1 rfl
      dsimp only at h9
      subst h9
      have hc2 := HC.out.resync hm
      clear HC hm
      simp only [List.nil_append, List.cons_append, List.set_cons_zero, List.set_cons_succ] at hc2
      have HC := Lib.hid hc2
      clear hc2
      have hm := HC.out.rebase
      go_cut [88] (fun v88 wx => v88 = .bool false ∧ ∃ p2, Pg.Live (70000 + 60000 * k) fr1 p2 (svs vs1) ∧ Scn w0 wx [⟨n10, 36, #[.slice A1 n1 c1]⟩, ⟨n13, 41, #[.bool re, .bool ex, .int .i64 yi, .int .i64 yj, .slice yA yn yc]⟩] [] [⟨G1, fun u => PAt u g1 G1 s1 p2⟩] [⟨GR1, fun u => RfAt u A1 n1 c1 vs1 GR1⟩])
      case first =>
        as_aux_lemma =>
          by_cases hkc : k < cm
          · have dk : decide ((k : Int) < (cm : Int)) = true := decide_eq_true (by omega)
            obtain ⟨zb, zo, hZA, _, hzc⟩ := HZ.out.at_ hkc
            have hzw := HZW.out k hkc
            subst hZA
            generalize zs.getD k 0 = z at *
            have RKz : Hid (∀ u : World, Below w0.heap.size w0 u → Rngs [⟨zb, zo + k, [.int .i64 z]⟩] u) := Lib.hid fun u hu => by
              refine Rngs.below (w := w0) ?_ hu
              intro r hr
              obtain rfl := List.mem_singleton.1 hr
              intro q v hv
              cases q with
              | zero => cases hv; exact hzc
              | succ q => simp at hv
            clear hzc
            by_cases hz0 : 0 ≤ z
            · have dz : decide (0 ≤ z) = true := decide_eq_true hz0
              obtain ⟨hce, hcl⟩ := HL.out.cut hz0 hzw.2
              have HCL := Lib.hid hcl
              have HCE := Lib.hid hce
              clear hcl hce hz0 hzw
              go_wp2_with (first | go_skip | ((with_reducible show wpList _ _ _ _ _ (World.alloc _ _)); refine wpList_up hm ?_; clear hm; intro n w hn hn2 hk hm hd hd2 ho; (try rw [← hn]); replace hn := Nat.le_of_eq hn.symm) | ((first | ((with_reducible show wpList _ _ _ (Oper.mk _ (Op.box _ _) _ _ _ _ :: _) _ _); (refine bxA hm ?_; clear hm; intro n w hn hz hm ho; (try simp only [List.cons_append, List.nil_append] at hm))) | ((with_reducible show wpList _ _ _ (Oper.mk _ (Op.load _ _) _ _ _ _ :: _) _ _); first | (refine ldA hm ?_) | (refine laA hm ?_) | (refine lcA (RKz.out _ (HC.out.resync hm).low) ?_) | (refine lrA (RKz.out _ (HC.out.resync hm).low) ?_)) | ((with_reducible show wpList _ _ _ (Oper.mk _ (Op.store _ _ _) _ _ _ _ :: _) _ _); (refine stA hm ?_; clear hm; intro w hz hm ho)) | ((with_reducible show wpList _ _ _ (Oper.mk _ (Op.alloc _) _ _ _ _ :: _) _ _); (refine alA hm ?_; clear hm; intro n w hn hz hm ho; (try simp only [List.cons_append, List.nil_append] at hm)))); try simp only [Act.put, sxQ]))
              go_at_call 28
              have hcc := page_Cut ((HC.out.resync hm).obj 0 rfl) z
              rw [HGM.out, HCE.out] at hcc
              refine hcc.mono ?_
              rintro e w2 ⟨rfl, hp2, ho2⟩
              have hc2 := (HC.out.resync hm).turn 0 rfl ho2 (fun q h => .inl h) hp2.sup
              clear hcc hp2 ho2
              clear HC hm
              simp only [List.nil_append, List.cons_append, List.set_cons_zero, List.set_cons_succ] at hc2
              have HC := Lib.hid hc2
              clear hc2
              have hm := HC.out.rebase
              go_wp2_with (first | go_skip | ((with_reducible show wpList _ _ _ _ _ (World.alloc _ _)); refine wpList_up hm ?_; clear hm; intro n w hn hn2 hk hm hd hd2 ho; (try rw [← hn]); replace hn := Nat.le_of_eq hn.symm) | ((first | ((with_reducible show wpList _ _ _ (Oper.mk _ (Op.box _ _) _ _ _ _ :: _) _ _); (refine bxA hm ?_; clear hm; intro n w hn hz hm ho; (try simp only [List.cons_append, List.nil_append] at hm))) | ((with_reducible show wpList _ _ _ (Oper.mk _ (Op.load _ _) _ _ _ _ :: _) _ _); first | (refine ldA hm ?_) | (refine laA hm ?_) | (refine lcA (RKz.out _ (HC.out.resync hm).low) ?_) | (refine lrA (RKz.out _ (HC.out.resync hm).low) ?_)) | ((with_reducible show wpList _ _ _ (Oper.mk _ (Op.store _ _ _) _ _ _ _ :: _) _ _); (refine stA hm ?_; clear hm; intro w hz hm ho)) | ((with_reducible show wpList _ _ _ (Oper.mk _ (Op.alloc _) _ _ _ _ :: _) _ _); (refine alA hm ?_; clear hm; intro n w hn hz hm ho; (try simp only [List.cons_append, List.nil_append] at hm)))); try simp only [Act.put, sxQ]))
              go_meet
              exact ⟨rfl, _, HCL.out, HC.out.resync hm⟩
            · have dz : decide (0 ≤ z) = false := decide_eq_false hz0
              clear hz0 hzw
              go_wp2_with (first | go_skip | ((with_reducible show wpList _ _ _ _ _ (World.alloc _ _)); refine wpList_up hm ?_; clear hm; intro n w hn hn2 hk hm hd hd2 ho; (try rw [← hn]); replace hn := Nat.le_of_eq hn.symm) | ((first | ((with_reducible show wpList _ _ _ (Oper.mk _ (Op.box _ _) _ _ _ _ :: _) _ _); (refine bxA hm ?_; clear hm; intro n w hn hz hm ho; (try simp only [List.cons_append, List.nil_append] at hm))) | ((with_reducible show wpList _ _ _ (Oper.mk _ (Op.load _ _) _ _ _ _ :: _) _ _); first | (refine ldA hm ?_) | (refine laA hm ?_) | (refine lcA (RKz.out _ (HC.out.resync hm).low) ?_) | (refine lrA (RKz.out _ (HC.out.resync hm).low) ?_)) | ((with_reducible show wpList _ _ _ (Oper.mk _ (Op.store _ _ _) _ _ _ _ :: _) _ _); (refine stA hm ?_; clear hm; intro w hz hm ho)) | ((with_reducible show wpList _ _ _ (Oper.mk _ (Op.alloc _) _ _ _ _ :: _) _ _); (refine alA hm ?_; clear hm; intro n w hn hz hm ho; (try simp only [List.cons_append, List.nil_append] at hm)))); try simp only [Act.put, sxQ]))
              go_meet
              exact ⟨rfl, _, HL.out, HC.out.resync hm⟩
          · have dk : decide ((k : Int) < (cm : Int)) = false := decide_eq_false (by omega)
            go_wp2_with (first | go_skip | ((with_reducible show wpList _ _ _ _ _ (World.alloc _ _)); refine wpList_up hm ?_; clear hm; intro n w hn hn2 hk hm hd hd2 ho; (try rw [← hn]); replace hn := Nat.le_of_eq hn.symm) | ((first | ((with_reducible show wpList _ _ _ (Oper.mk _ (Op.box _ _) _ _ _ _ :: _) _ _); (refine bxA hm ?_; clear hm; intro n w hn hz hm ho; (try simp only [List.cons_append, List.nil_append] at hm))) | ((with_reducible show wpList _ _ _ (Oper.mk _ (Op.load _ _) _ _ _ _ :: _) _ _); first | (refine ldA hm ?_) | (refine laA hm ?_)) | ((with_reducible show wpList _ _ _ (Oper.mk _ (Op.store _ _ _) _ _ _ _ :: _) _ _); (refine stA hm ?_; clear hm; intro w hz hm ho)) | ((with_reducible show wpList _ _ _ (Oper.mk _ (Op.alloc _) _ _ _ _ :: _) _ _); (refine alA hm ?_; clear hm; intro n w hn hz hm ho; (try simp only [List.cons_append, List.nil_append] at hm)))); try simp only [Act.put, sxQ]))
            go_meet
            exact ⟨rfl, _, HL.out, HC.out.resync hm⟩
      case rest =>
        obtain ⟨rfl, p2, hL2, hsc⟩ := hcut
        clear HC hm HL
        have HC := Lib.hid hsc
        have HL := Lib.hid hL2
        have hm := HC.out.rebase
        clear hsc hL2
        have HRL := Lib.hid (Pg.rwrite_length (svs vs1) yi (POp.data ⟨re, ex, yi, yj, yA, yn, yc, ys⟩))
        generalize hdt : POp.data ⟨re, ex, yi, yj, yA, yn, yc, ys⟩ = dt at *
        have HDT := Lib.hid hdt
        clear hdt
        go_wp2_with (first | go_skip | ((with_reducible show wpList _ _ _ _ _ (World.alloc _ _)); refine wpList_up hm ?_; clear hm; intro n w hn hn2 hk hm hd hd2 ho; (try rw [← hn]); replace hn := Nat.le_of_eq hn.symm) | ((first | ((with_reducible show wpList _ _ _ (Oper.mk _ (Op.box _ _) _ _ _ _ :: _) _ _); (refine bxA hm ?_; clear hm; intro n w hn hz hm ho; (try simp only [List.cons_append, List.nil_append] at hm))) | ((with_reducible show wpList _ _ _ (Oper.mk _ (Op.load _ _) _ _ _ _ :: _) _ _); first | (refine ldA hm ?_) | (refine laA hm ?_)) | ((with_reducible show wpList _ _ _ (Oper.mk _ (Op.store _ _ _) _ _ _ _ :: _) _ _); (refine stA hm ?_; clear hm; intro w hz hm ho)) | ((with_reducible show wpList _ _ _ (Oper.mk _ (Op.alloc _) _ _ _ _ :: _) _ _); (refine alA hm ?_; clear hm; intro n w hn hz hm ho; (try simp only [List.cons_append, List.nil_append] at hm)))); try simp only [Act.put, sxQ]))
        refine wp_region_noPanic ?_
        refine wp_region_held_drew (S := KnS _ _) (by kernel_rfl) (KnS.of hm.drew (Rngs.nil _)) (fun hHeld => ?_)
        refine wpAnyH_fresh (by repeat (first | apply Fresh.a | apply Fresh.b)) ?_
        replace hm := hm.drew
        iterate 4 (first | (refine takeN 0 hHeld ?_) | (refine takeY 0 ?_ hHeld ?_ ?_; rotate_left 1; (first | (intro w9 h9; (with_reducible show (execOp _ (Oper.mk _ (Op.load _ _) _ _ _ _)).run _ _ = _); first | exact h9.ldA | exact h9.lcA | exact h9.laA | exact h9.lrA) | focus (intro w9 hSw; go_simp; (try (with_reducible rfl)); done))); try simp only [Act.put, sxQ])
        refine wpAnyH_ready (rs := [4]) (by kernel_rfl) (by simp) ?_
        refine AllReadyH.cons2 (by simp only [sxN]; first | done | exact rfl) (fun K hK => ?_)
        rw [if_pos (by rfl)]
        go_simp
        refine (law11_data ⟨re, ex, yi, yj, yA, yn, yc, ys⟩ _ ((HC.out.resync hm).old HY.out)).mono ?_
        rw [HDT.out]
        rintro e w5 ⟨A5, n5, c5, rfl, hb5, hap5, hl5⟩
        have hap : ∀ a, A5 = some a → 0 < n5 → ¬ G1 a.block := fun a e hn hq => by
          rcases hap5 with ⟨r1, r2⟩ | h
          · exact ((HC.out.resync hm).oldO 0 rfl HY.out).2 a (r1.symm.trans e) (by have r3 : n5 = yn := r2; omega) hq
          · have := h a e; have := ((HC.out.resync hm).lt 0 rfl) _ hq; omega
        have HB5 := Lib.hid (And.intro hb5 hap)
        have hc2 := (HC.out.resync hm).below hl5
        clear hb5 hap5 hl5 hap
        clear HC hm
        simp only [List.nil_append, List.cons_append, List.set_cons_zero, List.set_cons_succ] at hc2
        have HC := Lib.hid hc2
        clear hc2
        have hm := HC.out.rebase
        go_simp
        refine hK.out _ _ (KnS.of hm (Rngs.nil _)) (fun hHeld => ?_)
        clear hK K
        try simp only [Act.put, sxQ]
        refine wpAnyH_ready (rs := [5]) (by kernel_rfl) (by simp) ?_
        refine AllReadyH.cons2 (by simp only [sxN]; first | done | exact rfl) (fun K hK => ?_)
        rw [if_pos (by rfl)]
        go_simp
        refine (live_WriteD ((HC.out.resync hm).obj 0 rfl) HL.out (by omega) yi A5 n5 c5 dt HB5.out).mono ?_
        rintro e w6 ⟨p6, G6, s6, er, rfl, hp6, hwd6, hF6, ho6, hgm6⟩
        have hc2 := (HC.out.resync hm).turn 0 rfl ho6 hF6 hp6.sup
        have HWD := Lib.hid hwd6
        have HM6 := Lib.hid (hgm6.trans HGM.out)
        clear hwd6 hF6 ho6 hgm6 hp6
        clear HC hm
        simp only [List.nil_append, List.cons_append, List.set_cons_zero, List.set_cons_succ] at hc2
        have HC := Lib.hid hc2
        clear hc2
        have hm := HC.out.rebase
        go_simp
        refine hK.out _ _ (KnS.of hm (Rngs.nil _)) (fun hHeld => ?_)
        clear hK K
        try simp only [Act.put, sxQ]
        iterate 1 (first | (refine takeN 6 hHeld ?_) | (refine takeY 6 ?_ hHeld ?_ ?_; rotate_left 1; (first | (intro w9 h9; (with_reducible show (execOp _ (Oper.mk _ (Op.load _ _) _ _ _ _)).run _ _ = _); first | exact h9.ldA | exact h9.lcA | exact h9.laA | exact h9.lrA) | focus (intro w9 hSw; go_simp; (try (with_reducible rfl)); done))); try simp only [Act.put, sxQ])
        refine wpAnyH_done (by kernel_rfl) ?_ _
        refine NoPanic.normal ?_
        go_wp2_with (first | go_skip | ((with_reducible show wpList _ _ _ _ _ (World.alloc _ _)); refine wpList_up hm ?_; clear hm; intro n w hn hn2 hk hm hd hd2 ho; (try rw [← hn]); replace hn := Nat.le_of_eq hn.symm) | ((first | ((with_reducible show wpList _ _ _ (Oper.mk _ (Op.box _ _) _ _ _ _ :: _) _ _); (refine bxA hm ?_; clear hm; intro n w hn hz hm ho; (try simp only [List.cons_append, List.nil_append] at hm))) | ((with_reducible show wpList _ _ _ (Oper.mk _ (Op.load _ _) _ _ _ _ :: _) _ _); first | (refine ldA hm ?_) | (refine laA hm ?_)) | ((with_reducible show wpList _ _ _ (Oper.mk _ (Op.store _ _ _) _ _ _ _ :: _) _ _); (refine stA hm ?_; clear hm; intro w hz hm ho)) | ((with_reducible show wpList _ _ _ (Oper.mk _ (Op.alloc _) _ _ _ _ :: _) _ _); (refine alA hm ?_; clear hm; intro n w hn hz hm ho; (try simp only [List.cons_append, List.nil_append] at hm)))); try simp only [Act.put, sxQ]))
        go_cut [15, 16] (fun v15 v16 wx => PCut w0 n10 n13 g1 G6 s6 p6 A1 n1 c1 vs1 GR1 yi dt [.bool re, .bool ex, .int .i64 yi, .int .i64 yj, .slice yA yn yc] v15 v16 wx)
        case first =>
          as_aux_lemma =>
            refine wp_region_noPanic ?_
            refine wp_region_held_drew (S := KnS _ _) (by kernel_rfl) (KnS.of hm.drew (Rngs.nil _)) (fun hHeld => ?_)
            refine wpAnyH_fresh (by repeat (first | apply Fresh.a | apply Fresh.b)) ?_
            replace hm := hm.drew
            iterate 4 (first | (refine takeN 0 hHeld ?_) | (refine takeY 0 ?_ hHeld ?_ ?_; rotate_left 1; (first | (intro w9 h9; (with_reducible show (execOp _ (Oper.mk _ (Op.load _ _) _ _ _ _)).run _ _ = _); first | exact h9.ldA | exact h9.lcA | exact h9.laA | exact h9.lrA) | focus (intro w9 hSw; go_simp; (try (with_reducible rfl)); done))); try simp only [Act.put, sxQ])
            refine wpAnyH_ready (rs := [4, 9]) (by kernel_rfl) (by simp) ?_
            refine AllReadyH.cons3 (by simp only [sxN]; first | done | exact rfl) (fun K hK => ?_) (AllReadyH.cons2 (by simp only [sxN]; first | done | exact rfl) (fun K hK => ?_))
            · skip
              rw [if_pos (by rfl)]
              go_simp
              refine (law11_data ⟨re, ex, yi, yj, yA, yn, yc, ys⟩ _ ((HC.out.resync hm).old HY.out)).mono ?_
              rw [HDT.out]
              rintro e w7 ⟨A7, n7, c7, rfl, hb7, _, hl7⟩
              have HB7 := Lib.hid hb7
              have hc2 := (HC.out.resync hm).below hl7
              clear hb7 hl7
              clear HC hm
              simp only [List.nil_append, List.cons_append, List.set_cons_zero, List.set_cons_succ] at hc2
              have HC := Lib.hid hc2
              clear hc2
              have hm := HC.out.rebase
              go_simp
              refine hK.out _ _ (KnS.of (hm.takeL 2) (Rngs.nil _)) (fun hHeld => ?_)
              clear hK K
              try simp only [Act.put, sxQ]
              refine wpAnyH_ready (rs := [5, 9]) (by kernel_rfl) (by simp) ?_
              refine AllReadyH.cons3 (by simp only [sxN]; first | done | exact rfl) (fun K hK => ?_) (AllReadyH.cons2 (by simp only [sxN]; first | done | exact rfl) (fun K hK => ?_))
              · skip
                rw [if_pos (by rfl)]
                go_simp
                refine (ref11_Write A1 n1 c1 vs1 GR1 yi A7 n7 c7 dt _ ((HC.out.resync hm).val 0 rfl) HB7.out HN1.out).mono ?_
                rintro e w8 ⟨A8, n8, c8, vs8, GR8, rfl, hr8, hv8, hG8, hb8⟩
                have hc2 := (HC.out.resync hm).nextG 0 rfl hb8 hG8 hr8.sup
                have HV8 := Lib.hid hv8
                have HN8 := Lib.hid (show n8 ≤ 100000 by
                  have q1 := congrArg List.length hv8
                  rw [HRL.out, svs, svs, List.length_map, List.length_map, hr8.len, ((HC.out.resync hm).val 0 rfl).len] at q1
                  have := HN1.out; omega)
                clear hr8 hv8 hG8 hb8
                clear HC hm
                simp only [List.nil_append, List.cons_append, List.set_cons_zero, List.set_cons_succ] at hc2
                have HC := Lib.hid hc2
                clear hc2
                have hm := HC.out.rebase
                go_simp
                refine hK.out _ _ (KnS.of (hm.takeL 2) (Rngs.nil _)) (fun hHeld => ?_)
                clear hK K
                try simp only [Act.put, sxQ]
                iterate 3 (first | (refine takeN 6 hHeld ?_) | (refine takeY 6 ?_ hHeld ?_ ?_; rotate_left 1; (first | (intro w9 h9; (with_reducible show (execOp _ (Oper.mk _ (Op.load _ _) _ _ _ _)).run _ _ = _); first | exact h9.ldA | exact h9.lcA | exact h9.laA | exact h9.lrA) | focus (intro w9 hSw; go_simp; (try (with_reducible rfl)); done))); try simp only [Act.put, sxQ])
                refine wpAnyH_ready (rs := [9]) (by kernel_rfl) (by simp) ?_
                refine AllReadyH.cons2 (by simp only [sxN]; first | done | exact rfl) (fun K hK => ?_)
                refine step_al (by rfl) _ rfl _ rfl _ (by simp only [Value.cells]; first | done | exact rfl) hm ?_; clear hm; intro n w hn hz hm ho; (try simp only [List.cons_append, List.nil_append] at hm)
                refine hK.out _ _ (KnS.of (hm.takeL 2) (Rngs.nil _)) (fun hHeld => ?_)
                clear hK K
                try simp only [Act.put, sxQ]
                refine wpAnyH_ready (rs := [10]) (by kernel_rfl) (by simp) ?_
                refine AllReadyH.cons2 (by simp only [sxN]; first | done | exact rfl) (fun K hK => ?_)
                refine stB hm ?_
                clear hm; intro w hz hm ho
                refine hK.out _ _ (KnS.of (hm.takeL 2) (Rngs.nil _)) (fun hHeld => ?_)
                clear hK K
                try simp only [Act.put, sxQ]
                iterate 1 (first | (refine takeN 11 hHeld ?_) | (refine takeY 11 ?_ hHeld ?_ ?_; rotate_left 1; (first | (intro w9 h9; (with_reducible show (execOp _ (Oper.mk _ (Op.load _ _) _ _ _ _)).run _ _ = _); first | exact h9.ldA | exact h9.lcA | exact h9.laA | exact h9.lrA) | focus (intro w9 hSw; go_simp; (try (with_reducible rfl)); done))); try simp only [Act.put, sxQ])
                refine wpAnyH_done (by kernel_rfl) ?_ _
                refine NoPanic.normal ?_
                go_wp2_with fail
                go_meet
                exact ⟨_, A8, n8, c8, vs8, GR8, rfl, rfl, HV8.out, HN8.out, HC.out.resync hm⟩
              · skip
                refine step_al (by rfl) _ rfl _ rfl _ (by simp only [Value.cells]; first | done | exact rfl) hm ?_; clear hm; intro n w hn hz hm ho; (try simp only [List.cons_append, List.nil_append] at hm)
                refine hK.out _ _ (KnS.of (hm.takeL 2) (Rngs.nil _)) (fun hHeld => ?_)
                clear hK K
                try simp only [Act.put, sxQ]
                refine wpAnyH_ready (rs := [5]) (by kernel_rfl) (by simp) ?_
                refine AllReadyH.cons2 (by simp only [sxN]; first | done | exact rfl) (fun K hK => ?_)
                rw [if_pos (by rfl)]
                go_simp
                refine (ref11_Write A1 n1 c1 vs1 GR1 yi A7 n7 c7 dt _ ((HC.out.resync hm).val 0 rfl) ((HB7.out.below ho).more ho.size) HN1.out).mono ?_
                rintro e w8 ⟨A8, n8, c8, vs8, GR8, rfl, hr8, hv8, hG8, hb8⟩
                have hc2 := (HC.out.resync hm).nextG 0 rfl hb8 hG8 hr8.sup
                have HV8 := Lib.hid hv8
                have HN8 := Lib.hid (show n8 ≤ 100000 by
                  have q1 := congrArg List.length hv8
                  rw [HRL.out, svs, svs, List.length_map, List.length_map, hr8.len, ((HC.out.resync hm).val 0 rfl).len] at q1
                  have := HN1.out; omega)
                clear hr8 hv8 hG8 hb8
                clear HC hm
                simp only [List.nil_append, List.cons_append, List.set_cons_zero, List.set_cons_succ] at hc2
                have HC := Lib.hid hc2
                clear hc2
                have hm := HC.out.rebase
                go_simp
                refine hK.out _ _ (KnS.of (hm.takeL 2) (Rngs.nil _)) (fun hHeld => ?_)
                clear hK K
                try simp only [Act.put, sxQ]
                iterate 3 (first | (refine takeN 6 hHeld ?_) | (refine takeY 6 ?_ hHeld ?_ ?_; rotate_left 1; (first | (intro w9 h9; (with_reducible show (execOp _ (Oper.mk _ (Op.load _ _) _ _ _ _)).run _ _ = _); first | exact h9.ldA | exact h9.lcA | exact h9.laA | exact h9.lrA) | focus (intro w9 hSw; go_simp; (try (with_reducible rfl)); done))); try simp only [Act.put, sxQ])
                refine wpAnyH_ready (rs := [10]) (by kernel_rfl) (by simp) ?_
                refine AllReadyH.cons2 (by simp only [sxN]; first | done | exact rfl) (fun K hK => ?_)
                refine stB hm ?_
                clear hm; intro w hz hm ho
                refine hK.out _ _ (KnS.of (hm.takeL 2) (Rngs.nil _)) (fun hHeld => ?_)
                clear hK K
                try simp only [Act.put, sxQ]
                iterate 1 (first | (refine takeN 11 hHeld ?_) | (refine takeY 11 ?_ hHeld ?_ ?_; rotate_left 1; (first | (intro w9 h9; (with_reducible show (execOp _ (Oper.mk _ (Op.load _ _) _ _ _ _)).run _ _ = _); first | exact h9.ldA | exact h9.lcA | exact h9.laA | exact h9.lrA) | focus (intro w9 hSw; go_simp; (try (with_reducible rfl)); done))); try simp only [Act.put, sxQ])
                refine wpAnyH_done (by kernel_rfl) ?_ _
                refine NoPanic.normal ?_
                go_wp2_with fail
                go_meet
                exact ⟨_, A8, n8, c8, vs8, GR8, rfl, rfl, HV8.out, HN8.out, HC.out.resync hm⟩
            · skip
              refine step_al (by rfl) _ rfl _ rfl _ (by simp only [Value.cells]; first | done | exact rfl) hm ?_; clear hm; intro n w hn hz hm ho; (try simp only [List.cons_append, List.nil_append] at hm)
              refine hK.out _ _ (KnS.of (hm.takeL 2) (Rngs.nil _)) (fun hHeld => ?_)
              clear hK K
              try simp only [Act.put, sxQ]
              refine wpAnyH_ready (rs := [4]) (by kernel_rfl) (by simp) ?_
              refine AllReadyH.cons2 (by simp only [sxN]; first | done | exact rfl) (fun K hK => ?_)
              rw [if_pos (by rfl)]
              go_simp
              refine (law11_data ⟨re, ex, yi, yj, yA, yn, yc, ys⟩ _ ((HC.out.resync hm).old HY.out)).mono ?_
              rw [HDT.out]
              rintro e w7 ⟨A7, n7, c7, rfl, hb7, _, hl7⟩
              have HB7 := Lib.hid hb7
              have hc2 := (HC.out.resync hm).below hl7
              clear hb7 hl7
              clear HC hm
              simp only [List.nil_append, List.cons_append, List.set_cons_zero, List.set_cons_succ] at hc2
              have HC := Lib.hid hc2
              clear hc2
              have hm := HC.out.rebase
              go_simp
              refine hK.out _ _ (KnS.of (hm.takeL 2) (Rngs.nil _)) (fun hHeld => ?_)
              clear hK K
              try simp only [Act.put, sxQ]
              refine wpAnyH_ready (rs := [5]) (by kernel_rfl) (by simp) ?_
              refine AllReadyH.cons2 (by simp only [sxN]; first | done | exact rfl) (fun K hK => ?_)
              rw [if_pos (by rfl)]
              go_simp
              refine (ref11_Write A1 n1 c1 vs1 GR1 yi A7 n7 c7 dt _ ((HC.out.resync hm).val 0 rfl) HB7.out HN1.out).mono ?_
              rintro e w8 ⟨A8, n8, c8, vs8, GR8, rfl, hr8, hv8, hG8, hb8⟩
              have hc2 := (HC.out.resync hm).nextG 0 rfl hb8 hG8 hr8.sup
              have HV8 := Lib.hid hv8
              have HN8 := Lib.hid (show n8 ≤ 100000 by
                have q1 := congrArg List.length hv8
                rw [HRL.out, svs, svs, List.length_map, List.length_map, hr8.len, ((HC.out.resync hm).val 0 rfl).len] at q1
                have := HN1.out; omega)
              clear hr8 hv8 hG8 hb8
              clear HC hm
              simp only [List.nil_append, List.cons_append, List.set_cons_zero, List.set_cons_succ] at hc2
              have HC := Lib.hid hc2
              clear hc2
              have hm := HC.out.rebase
              go_simp
              refine hK.out _ _ (KnS.of (hm.takeL 2) (Rngs.nil _)) (fun hHeld => ?_)
              clear hK K
              try simp only [Act.put, sxQ]
              iterate 3 (first | (refine takeN 6 hHeld ?_) | (refine takeY 6 ?_ hHeld ?_ ?_; rotate_left 1; (first | (intro w9 h9; (with_reducible show (execOp _ (Oper.mk _ (Op.load _ _) _ _ _ _)).run _ _ = _); first | exact h9.ldA | exact h9.lcA | exact h9.laA | exact h9.lrA) | focus (intro w9 hSw; go_simp; (try (with_reducible rfl)); done))); try simp only [Act.put, sxQ])
              refine wpAnyH_ready (rs := [10]) (by kernel_rfl) (by simp) ?_
              refine AllReadyH.cons2 (by simp only [sxN]; first | done | exact rfl) (fun K hK => ?_)
              refine stB hm ?_
              clear hm; intro w hz hm ho
              refine hK.out _ _ (KnS.of (hm.takeL 2) (Rngs.nil _)) (fun hHeld => ?_)
              clear hK K
              try simp only [Act.put, sxQ]
              iterate 1 (first | (refine takeN 11 hHeld ?_) | (refine takeY 11 ?_ hHeld ?_ ?_; rotate_left 1; (first | (intro w9 h9; (with_reducible show (execOp _ (Oper.mk _ (Op.load _ _) _ _ _ _)).run _ _ = _); first | exact h9.ldA | exact h9.lcA | exact h9.laA | exact h9.lrA) | focus (intro w9 hSw; go_simp; (try (with_reducible rfl)); done))); try simp only [Act.put, sxQ])
              refine wpAnyH_done (by kernel_rfl) ?_ _
              refine NoPanic.normal ?_
              go_wp2_with fail
              go_meet
              exact ⟨_, A8, n8, c8, vs8, GR8, rfl, rfl, HV8.out, HN8.out, HC.out.resync hm⟩
        case rest =>
          obtain ⟨n15, A8, n8, c8, vs8, GR8, rfl, rfl, hv8, hn8, hsc⟩ := hcut
          clear HC hm
          have HC := Lib.hid hsc
          have HV8 := Lib.hid hv8
          have HN8 := Lib.hid hn8
          clear hsc hv8 hn8
          have hm := HC.out.rebase
          clear HL HB5 HDT
          generalize hry : Pg.rwrite (svs vs1) yi dt = ry at *
          go_wp2_with (first | go_skip | ((with_reducible show wpList _ _ _ _ _ (World.alloc _ _)); refine wpList_up hm ?_; clear hm; intro n w hn hn2 hk hm hd hd2 ho; (try rw [← hn]); replace hn := Nat.le_of_eq hn.symm) | ((first | ((with_reducible show wpList _ _ _ (Oper.mk _ (Op.box _ _) _ _ _ _ :: _) _ _); (refine bxA hm ?_; clear hm; intro n w hn hz hm ho; (try simp only [List.cons_append, List.nil_append] at hm))) | ((with_reducible show wpList _ _ _ (Oper.mk _ (Op.load _ _) _ _ _ _ :: _) _ _); first | (refine ldA hm ?_) | (refine laA hm ?_)) | ((with_reducible show wpList _ _ _ (Oper.mk _ (Op.store _ _ _) _ _ _ _ :: _) _ _); (refine stA hm ?_; clear hm; intro w hz hm ho)) | ((with_reducible show wpList _ _ _ (Oper.mk _ (Op.alloc _) _ _ _ _ :: _) _ _); (refine alA hm ?_; clear hm; intro n w hn hz hm ho; (try simp only [List.cons_append, List.nil_append] at hm)))); try simp only [Act.put, sxQ]))
          go_at_call 20
          refine (page_Alive ((HC.out.resync hm).obj 0 rfl)).mono ?_
          obtain ⟨fr7, ⟨he7, hL7⟩ | ⟨he7, hD7⟩⟩ := HWD.out
          · rw [hL7.alive]
            rw [hry] at he7 hL7
            subst he7
            rintro e w9 ⟨rfl, hb9⟩
            have hc2 := (HC.out.resync hm).below hb9
            have HL7 := Lib.hid hL7
            clear hb9 hL7 HWD hry
            clear HC hm
            simp only [List.nil_append, List.cons_append, List.set_cons_zero, List.set_cons_succ] at hc2
            have HC := Lib.hid hc2
            clear hc2
            have hm := HC.out.rebase
            go_wp2_with (first | go_skip | ((with_reducible show wpList _ _ _ _ _ (World.alloc _ _)); refine wpList_up hm ?_; clear hm; intro n w hn hn2 hk hm hd hd2 ho; (try rw [← hn]); replace hn := Nat.le_of_eq hn.symm) | ((first | ((with_reducible show wpList _ _ _ (Oper.mk _ (Op.box _ _) _ _ _ _ :: _) _ _); (refine bxA hm ?_; clear hm; intro n w hn hz hm ho; (try simp only [List.cons_append, List.nil_append] at hm))) | ((with_reducible show wpList _ _ _ (Oper.mk _ (Op.load _ _) _ _ _ _ :: _) _ _); first | (refine ldA hm ?_) | (refine laA hm ?_)) | ((with_reducible show wpList _ _ _ (Oper.mk _ (Op.store _ _ _) _ _ _ _ :: _) _ _); (refine stA hm ?_; clear hm; intro w hz hm ho)) | ((with_reducible show wpList _ _ _ (Oper.mk _ (Op.alloc _) _ _ _ _ :: _) _ _); (refine alA hm ?_; clear hm; intro n w hn hz hm ho; (try simp only [List.cons_append, List.nil_append] at hm)))); try simp only [Act.put, sxQ]))
            go_roundg j
            case measure => omega
            case rel => exact ⟨k + 1, by omega, by go_num, g1, G6, s6, p6, fr7, A8, n8, c8, vs8, GR8, rfl, HM6.out, by rw [HV8.out]; exact HL7.out.mono (by omega), HN8.out, by rw [HV8.out, HRL.out]; exact HLN.out, (HC.out.resync hm).keep 1 0 1⟩
          · rw [hD7.alive]
            subst he7
            rintro e w9 ⟨rfl, hb9⟩
            have hc2 := (HC.out.resync hm).below hb9
            have HD7 := Lib.hid hD7
            clear hb9 hD7 HWD hry
            clear HC hm
            simp only [List.nil_append, List.cons_append, List.set_cons_zero, List.set_cons_succ] at hc2
            have HC := Lib.hid hc2
            clear hc2
            have hm := HC.out.rebase
            as_aux_lemma =>
              have HCN := Lib.hid (show (p6.count : Int) = (n1 : Int) by
                have q1 := HD7.out.len
                have q2 := ((HC.out.resync hm).val 0 rfl).len
                have q3 : (svs vs1).length = vs1.length := by simp [svs]
                omega)
              have HCR := Lib.hid HD7.out.can.restore
              have HMM := Lib.hid HM6.out
              go_wp2_with (first | go_skip | ((with_reducible show wpList _ _ _ _ _ (World.alloc _ _)); refine wpList_up hm ?_; clear hm; intro n w hn hn2 hk hm hd hd2 ho; (try rw [← hn]); replace hn := Nat.le_of_eq hn.symm) | ((first | ((with_reducible show wpList _ _ _ (Oper.mk _ (Op.box _ _) _ _ _ _ :: _) _ _); (refine bxA hm ?_; clear hm; intro n w hn hz hm ho; (try simp only [List.cons_append, List.nil_append] at hm))) | ((with_reducible show wpList _ _ _ (Oper.mk _ (Op.load _ _) _ _ _ _ :: _) _ _); first | (refine ldA hm ?_) | (refine laA hm ?_)) | ((with_reducible show wpList _ _ _ (Oper.mk _ (Op.store _ _ _) _ _ _ _ :: _) _ _); (refine stA hm ?_; clear hm; intro w hz hm ho)) | ((with_reducible show wpList _ _ _ (Oper.mk _ (Op.alloc _) _ _ _ _ :: _) _ _); (refine alA hm ?_; clear hm; intro n w hn hz hm ho; (try simp only [List.cons_append, List.nil_append] at hm)))); try simp only [Act.put, sxQ]))

              go_at_call 17
              refine (page_Read_no ((HC.out.resync hm).obj 0 rfl) HD7.out.alive 0).mono ?_
              rintro e w10 ⟨rfl, hb10⟩
              have hc2 := (HC.out.resync hm).below hb10
              clear hb10
              clear HC hm
              simp only [List.nil_append, List.cons_append, List.set_cons_zero, List.set_cons_succ] at hc2
              have HC := Lib.hid hc2
              clear hc2
              have hm := HC.out.rebase

              go_wp2_with (first | go_skip | ((with_reducible show wpList _ _ _ _ _ (World.alloc _ _)); refine wpList_up hm ?_; clear hm; intro n w hn hn2 hk hm hd hd2 ho; (try rw [← hn]); replace hn := Nat.le_of_eq hn.symm) | ((first | ((with_reducible show wpList _ _ _ (Oper.mk _ (Op.box _ _) _ _ _ _ :: _) _ _); (refine bxA hm ?_; clear hm; intro n w hn hz hm ho; (try simp only [List.cons_append, List.nil_append] at hm))) | ((with_reducible show wpList _ _ _ (Oper.mk _ (Op.load _ _) _ _ _ _ :: _) _ _); first | (refine ldA hm ?_) | (refine laA hm ?_)) | ((with_reducible show wpList _ _ _ (Oper.mk _ (Op.store _ _ _) _ _ _ _ :: _) _ _); (refine stA hm ?_; clear hm; intro w hz hm ho)) | ((with_reducible show wpList _ _ _ (Oper.mk _ (Op.alloc _) _ _ _ _ :: _) _ _); (refine alA hm ?_; clear hm; intro n w hn hz hm ho; (try simp only [List.cons_append, List.nil_append] at hm)))); try simp only [Act.put, sxQ]))
              refine wp_region_noPanic ?_
              refine wp_region_held_drew (S := KnS _ _) (by kernel_rfl) (KnS.of hm.drew (Rngs.nil _)) (fun hHeld => ?_)
              refine wpAnyH_fresh (by repeat (first | apply Fresh.a | apply Fresh.b)) ?_
              replace hm := hm.drew
              iterate 8 (first | (refine takeN 0 hHeld ?_) | (refine takeY 0 ?_ hHeld ?_ ?_; rotate_left 1; (first | (intro w9 h9; (with_reducible show (execOp _ (Oper.mk _ (Op.load _ _) _ _ _ _)).run _ _ = _); first | exact h9.ldA | exact h9.lcA | exact h9.laA | exact h9.lrA) | focus (intro w9 hSw; go_simp; (try (with_reducible rfl)); done))); try simp only [Act.put, sxQ])
              refine wpAnyH_ready (rs := [8]) (by kernel_rfl) (by simp) ?_
              refine AllReadyH.cons2 (by simp only [sxN]; first | done | exact rfl) (fun K hK => ?_)
              rw [if_pos (by rfl)]
              go_simp
              refine (law11_block none 0 0 [] _ ⟨rfl, Nat.le_refl _, Row.nil _ _ _⟩).mono ?_
              rintro e w11 ⟨q11, rfl, ho11, hb11⟩
              have hc2 := (HC.out.resync hm).got hb11 ho11
              clear hb11 ho11
              clear HC hm
              simp only [List.nil_append, List.cons_append, List.set_cons_zero, List.set_cons_succ] at hc2
              have HC := Lib.hid hc2
              clear hc2
              have hm := HC.out.rebase
              go_simp
              refine hK.out _ _ (KnS.of hm (Rngs.nil _)) (fun hHeld => ?_)
              clear hK K
              try simp only [Act.put, sxQ]
              refine wpAnyH_ready (rs := [9]) (by kernel_rfl) (by simp) ?_
              refine AllReadyH.cons2 (by simp only [sxN]; first | done | exact rfl) (fun K hK => ?_)
              rw [if_pos (by rfl)]
              go_simp
              refine (page_Write_no ((HC.out.resync hm).obj 0 rfl) HD7.out.alive 0 _ _).mono ?_
              rintro e w12 ⟨rfl, hb12⟩
              have hc2 := (HC.out.resync hm).below hb12
              clear hb12
              clear HC hm
              simp only [List.nil_append, List.cons_append, List.set_cons_zero, List.set_cons_succ] at hc2
              have HC := Lib.hid hc2
              clear hc2
              have hm := HC.out.rebase
              go_simp
              refine hK.out _ _ (KnS.of hm (Rngs.nil _)) (fun hHeld => ?_)
              clear hK K
              try simp only [Act.put, sxQ]
              iterate 4 (first | (refine takeN 10 hHeld ?_) | (refine takeY 10 ?_ hHeld ?_ ?_; rotate_left 1; (first | (intro w9 h9; (with_reducible show (execOp _ (Oper.mk _ (Op.load _ _) _ _ _ _)).run _ _ = _); first | exact h9.ldA | exact h9.lcA | exact h9.laA | exact h9.lrA) | focus (intro w9 hSw; go_simp; (try (with_reducible rfl)); done))); try simp only [Act.put, sxQ])
              iterate 3 (first | (refine takeN 15 hHeld ?_) | (refine takeY 15 ?_ hHeld ?_ ?_; rotate_left 1; (first | (intro w9 h9; (with_reducible show (execOp _ (Oper.mk _ (Op.load _ _) _ _ _ _)).run _ _ = _); first | exact h9.ldA | exact h9.lcA | exact h9.laA | exact h9.lrA) | focus (intro w9 hSw; go_simp; (try (with_reducible rfl)); done))); try simp only [Act.put, sxQ])
              refine wpAnyH_ready (rs := [14]) (by kernel_rfl) (by simp) ?_
              refine AllReadyH.cons2 (by simp only [sxN]; first | done | exact rfl) (fun K hK => ?_)
              rw [if_pos (by rfl)]
              go_simp
              have hcc := page_Count ((HC.out.resync hm).obj 0 rfl)
              rw [HCN.out] at hcc
              refine hcc.mono ?_
              rintro e w13 ⟨rfl, hb13⟩
              have hc2 := (HC.out.resync hm).below hb13
              clear hb13 hcc
              clear HC hm
              simp only [List.nil_append, List.cons_append, List.set_cons_zero, List.set_cons_succ] at hc2
              have HC := Lib.hid hc2
              clear hc2
              have hm := HC.out.rebase
              go_simp
              refine hK.out _ _ (KnS.of hm (Rngs.nil _)) (fun hHeld => ?_)
              clear hK K
              try simp only [Act.put, sxQ]
              iterate 2 (first | (refine takeN 18 hHeld ?_) | (refine takeY 18 ?_ hHeld ?_ ?_; rotate_left 1; (first | (intro w9 h9; (with_reducible show (execOp _ (Oper.mk _ (Op.load _ _) _ _ _ _)).run _ _ = _); first | exact h9.ldA | exact h9.lcA | exact h9.laA | exact h9.lrA) | focus (intro w9 hSw; go_simp; (try (with_reducible rfl)); done))); try simp only [Act.put, sxQ])
              refine wpAnyH_done (by kernel_rfl) ?_ _
              refine NoPanic.normal ?_
              go_wp2_with (first | go_skip | ((with_reducible show wpList _ _ _ _ _ (World.alloc _ _)); refine wpList_up hm ?_; clear hm; intro n w hn hn2 hk hm hd hd2 ho; (try rw [← hn]); replace hn := Nat.le_of_eq hn.symm) | ((first | ((with_reducible show wpList _ _ _ (Oper.mk _ (Op.box _ _) _ _ _ _ :: _) _ _); (refine bxA hm ?_; clear hm; intro n w hn hz hm ho; (try simp only [List.cons_append, List.nil_append] at hm))) | ((with_reducible show wpList _ _ _ (Oper.mk _ (Op.load _ _) _ _ _ _ :: _) _ _); first | (refine ldA hm ?_) | (refine laA hm ?_)) | ((with_reducible show wpList _ _ _ (Oper.mk _ (Op.store _ _ _) _ _ _ _ :: _) _ _); (refine stA hm ?_; clear hm; intro w hz hm ho)) | ((with_reducible show wpList _ _ _ (Oper.mk _ (Op.alloc _) _ _ _ _ :: _) _ _); (refine alA hm ?_; clear hm; intro n w hn hz hm ho; (try simp only [List.cons_append, List.nil_append] at hm)))); try simp only [Act.put, sxQ]))
              go_at_call 12
              have hco := page_OpenOff ((HC.out.resync hm).obj 0 rfl) HD7.out.off
              rw [HM6.out] at hco
              refine hco.mono ?_
              rintro e w14 ⟨rfl, hb14⟩
              have hc2 := (HC.out.resync hm).below hb14
              clear hb14 hco
              clear HC hm
              simp only [List.nil_append, List.cons_append, List.set_cons_zero, List.set_cons_succ] at hc2
              have HC := Lib.hid hc2
              clear hc2
              have hm := HC.out.rebase
              go_wp2_with (first | go_skip | ((with_reducible show wpList _ _ _ _ _ (World.alloc _ _)); refine wpList_up hm ?_; clear hm; intro n w hn hn2 hk hm hd hd2 ho; (try rw [← hn]); replace hn := Nat.le_of_eq hn.symm) | ((first | ((with_reducible show wpList _ _ _ (Oper.mk _ (Op.box _ _) _ _ _ _ :: _) _ _); (refine bxA hm ?_; clear hm; intro n w hn hz hm ho; (try simp only [List.cons_append, List.nil_append] at hm))) | ((with_reducible show wpList _ _ _ (Oper.mk _ (Op.load _ _) _ _ _ _ :: _) _ _); first | (refine ldA hm ?_) | (refine laA hm ?_)) | ((with_reducible show wpList _ _ _ (Oper.mk _ (Op.store _ _ _) _ _ _ _ :: _) _ _); (refine stA hm ?_; clear hm; intro w hz hm ho)) | ((with_reducible show wpList _ _ _ (Oper.mk _ (Op.alloc _) _ _ _ _ :: _) _ _); (refine alA hm ?_; clear hm; intro n w hn hz hm ho; (try simp only [List.cons_append, List.nil_append] at hm)))); try simp only [Act.put, sxQ]))
              go_at_call 29
              have hco := page_Restore ((HC.out.resync hm).obj 0 rfl)
              rw [HM6.out] at hco
              refine hco.mono ?_
              rintro e w15 ⟨rfl, hp15, ho15⟩
              have hc2 := (HC.out.resync hm).turn 0 rfl ho15 (fun q h => .inl h) hp15.sup
              clear hp15 ho15 hco
              clear HC hm
              simp only [List.nil_append, List.cons_append, List.set_cons_zero, List.set_cons_succ] at hc2
              have HC := Lib.hid hc2
              clear hc2
              have hm := HC.out.rebase
              go_wp2_with (first | go_skip | ((with_reducible show wpList _ _ _ _ _ (World.alloc _ _)); refine wpList_up hm ?_; clear hm; intro n w hn hn2 hk hm hd hd2 ho; (try rw [← hn]); replace hn := Nat.le_of_eq hn.symm) | ((first | ((with_reducible show wpList _ _ _ (Oper.mk _ (Op.box _ _) _ _ _ _ :: _) _ _); (refine bxA hm ?_; clear hm; intro n w hn hz hm ho; (try simp only [List.cons_append, List.nil_append] at hm))) | ((with_reducible show wpList _ _ _ (Oper.mk _ (Op.load _ _) _ _ _ _ :: _) _ _); first | (refine ldA hm ?_) | (refine laA hm ?_)) | ((with_reducible show wpList _ _ _ (Oper.mk _ (Op.store _ _ _) _ _ _ _ :: _) _ _); (refine stA hm ?_; clear hm; intro w hz hm ho)) | ((with_reducible show wpList _ _ _ (Oper.mk _ (Op.alloc _) _ _ _ _ :: _) _ _); (refine alA hm ?_; clear hm; intro n w hn hz hm ho; (try simp only [List.cons_append, List.nil_append] at hm)))); try simp only [Act.put, sxQ]))

              go_at_call 17
              refine (page_Read_no ((HC.out.resync hm).obj 0 rfl) HD7.out.after 0).mono ?_
              rintro e w16 ⟨rfl, hb16⟩
              have hc2 := (HC.out.resync hm).below hb16
              clear hb16
              clear HC hm
              simp only [List.nil_append, List.cons_append, List.set_cons_zero, List.set_cons_succ] at hc2
              have HC := Lib.hid hc2
              clear hc2
              have hm := HC.out.rebase

              go_upto_region 29 with (first | go_skip | ((with_reducible show wpList _ _ _ _ _ (World.alloc _ _)); refine wpList_up hm ?_; clear hm; intro n w hn hn2 hk hm hd hd2 ho; (try rw [← hn]); replace hn := Nat.le_of_eq hn.symm) | ((first | ((with_reducible show wpList _ _ _ (Oper.mk _ (Op.box _ _) _ _ _ _ :: _) _ _); (refine bxA hm ?_; clear hm; intro n w hn hz hm ho; (try simp only [List.cons_append, List.nil_append] at hm))) | ((with_reducible show wpList _ _ _ (Oper.mk _ (Op.load _ _) _ _ _ _ :: _) _ _); first | (refine ldA hm ?_) | (refine laA hm ?_)) | ((with_reducible show wpList _ _ _ (Oper.mk _ (Op.store _ _ _) _ _ _ _ :: _) _ _); (refine stA hm ?_; clear hm; intro w hz hm ho)) | ((with_reducible show wpList _ _ _ (Oper.mk _ (Op.alloc _) _ _ _ _ :: _) _ _); (refine alA hm ?_; clear hm; intro n w hn hz hm ho; (try simp only [List.cons_append, List.nil_append] at hm)))); try simp only [Act.put, sxQ]))
              go_cut [168] (fun v168 wx => ∃ (b : Bool) (m2 : Cel.Mem), v168 = .bool b ∧ m2.off = false ∧ Pg.Can (71200 + 60000 * k) fr7 m2 (svs vs1) ∧ Scn w0 wx [⟨n10, 36, #[.slice A1 n1 c1]⟩, ⟨n13, 41, #[.bool re, .bool ex, .int .i64 yi, .int .i64 yj, .slice yA yn yc]⟩, ⟨n15, 36, #[.slice A8 n8 c8]⟩] [] [⟨G6, fun u => PAt u g1 G6 s6 (p6.wm m2)⟩] [⟨GR1, fun u => RfAt u A1 n1 c1 vs1 GR1⟩, ⟨GR8, fun u => RfAt u A8 n8 c8 vs8 GR8⟩])
              case first =>
                cases re with
                | false =>
                  go_wp2_with (first | go_skip | ((with_reducible show wpList _ _ _ _ _ (World.alloc _ _)); refine wpList_up hm ?_; clear hm; intro n w hn hn2 hk hm hd hd2 ho; (try rw [← hn]); replace hn := Nat.le_of_eq hn.symm) | ((first | ((with_reducible show wpList _ _ _ (Oper.mk _ (Op.box _ _) _ _ _ _ :: _) _ _); (refine bxA hm ?_; clear hm; intro n w hn hz hm ho; (try simp only [List.cons_append, List.nil_append] at hm))) | ((with_reducible show wpList _ _ _ (Oper.mk _ (Op.load _ _) _ _ _ _ :: _) _ _); first | (refine ldA hm ?_) | (refine laA hm ?_)) | ((with_reducible show wpList _ _ _ (Oper.mk _ (Op.store _ _ _) _ _ _ _ :: _) _ _); (refine stA hm ?_; clear hm; intro w hz hm ho)) | ((with_reducible show wpList _ _ _ (Oper.mk _ (Op.alloc _) _ _ _ _ :: _) _ _); (refine alA hm ?_; clear hm; intro n w hn hz hm ho; (try simp only [List.cons_append, List.nil_append] at hm)))); try simp only [Act.put, sxQ]))
                  go_meet
                  exact ⟨false, p6.m.restore, rfl, rfl, HCR.out.mono (by omega), (HC.out.resync hm).keep 3 0 0⟩
                | true =>
                  by_cases hkc : k < cm
                  · have dk : decide ((k : Int) < (cm : Int)) = true := decide_eq_true (by omega)
                    obtain ⟨zb, zo, hZA, _, hzc⟩ := HZ.out.at_ hkc
                    have hzw := HZW.out k hkc
                    subst hZA
                    generalize zs.getD k 0 = z at *
                    have RKz : Hid (∀ u : World, Below w0.heap.size w0 u → Rngs [⟨zb, zo + k, [.int .i64 z]⟩] u) := Lib.hid fun u hu => by
                      refine Rngs.below (w := w0) ?_ hu
                      intro r hr
                      obtain rfl := List.mem_singleton.1 hr
                      intro q v hv
                      cases q with
                      | zero => cases hv; exact hzc
                      | succ q => simp at hv
                    clear hzc
                    obtain ⟨u1, hz7⟩ := tmod7 z hzw.1 hzw.2
                    have HZ7 := Lib.hid hz7
                    clear hzw hz7
                    go_wp2_with (first | go_skip | ((with_reducible show wpList _ _ _ _ _ (World.alloc _ _)); refine wpList_up hm ?_; clear hm; intro n w hn hn2 hk hm hd hd2 ho; (try rw [← hn]); replace hn := Nat.le_of_eq hn.symm) | ((first | ((with_reducible show wpList _ _ _ (Oper.mk _ (Op.box _ _) _ _ _ _ :: _) _ _); (refine bxA hm ?_; clear hm; intro n w hn hz hm ho; (try simp only [List.cons_append, List.nil_append] at hm))) | ((with_reducible show wpList _ _ _ (Oper.mk _ (Op.load _ _) _ _ _ _ :: _) _ _); first | (refine ldA hm ?_) | (refine laA hm ?_) | (refine lcA (RKz.out _ (HC.out.resync hm).low) ?_) | (refine lrA (RKz.out _ (HC.out.resync hm).low) ?_)) | ((with_reducible show wpList _ _ _ (Oper.mk _ (Op.store _ _ _) _ _ _ _ :: _) _ _); (refine stA hm ?_; clear hm; intro w hz hm ho)) | ((with_reducible show wpList _ _ _ (Oper.mk _ (Op.alloc _) _ _ _ _ :: _) _ _); (refine alA hm ?_; clear hm; intro n w hn hz hm ho; (try simp only [List.cons_append, List.nil_append] at hm)))); try simp only [Act.put, sxQ]))
                    go_at_call 28
                    have hcc := page_Cut ((HC.out.resync hm).obj 0 rfl) (z.tmod 7)
                    rw [HM6.out] at hcc
                    refine hcc.mono ?_
                    rintro e w17 ⟨rfl, hp17, ho17⟩
                    have hc2 := (HC.out.resync hm).turn 0 rfl ho17 (fun q h => .inl h) hp17.sup
                    clear hcc hp17 ho17
                    clear HC hm
                    simp only [List.nil_append, List.cons_append, List.set_cons_zero, List.set_cons_succ] at hc2
                    have HC := Lib.hid hc2
                    clear hc2
                    have hm := HC.out.rebase
                    go_wp2_with (first | go_skip | ((with_reducible show wpList _ _ _ _ _ (World.alloc _ _)); refine wpList_up hm ?_; clear hm; intro n w hn hn2 hk hm hd hd2 ho; (try rw [← hn]); replace hn := Nat.le_of_eq hn.symm) | ((first | ((with_reducible show wpList _ _ _ (Oper.mk _ (Op.box _ _) _ _ _ _ :: _) _ _); (refine bxA hm ?_; clear hm; intro n w hn hz hm ho; (try simp only [List.cons_append, List.nil_append] at hm))) | ((with_reducible show wpList _ _ _ (Oper.mk _ (Op.load _ _) _ _ _ _ :: _) _ _); first | (refine ldA hm ?_) | (refine laA hm ?_) | (refine lcA (RKz.out _ (HC.out.resync hm).low) ?_) | (refine lrA (RKz.out _ (HC.out.resync hm).low) ?_)) | ((with_reducible show wpList _ _ _ (Oper.mk _ (Op.store _ _ _) _ _ _ _ :: _) _ _); (refine stA hm ?_; clear hm; intro w hz hm ho)) | ((with_reducible show wpList _ _ _ (Oper.mk _ (Op.alloc _) _ _ _ _ :: _) _ _); (refine alA hm ?_; clear hm; intro n w hn hz hm ho; (try simp only [List.cons_append, List.nil_append] at hm)))); try simp only [Act.put, sxQ]))
                    go_meet
                    exact ⟨_, ((p6.wm p6.m.restore).m.cut (z.tmod 7)).1, rfl, Cel.Mem.cut_on rfl _, (Pg.Can.cut (m := p6.m.restore) (HCR.out.mono (by omega)) HZ7.out), (HC.out.resync hm).keep 3 0 0⟩
                  · have dk : decide ((k : Int) < (cm : Int)) = false := decide_eq_false (by omega)
                    go_wp2_with (first | go_skip | ((with_reducible show wpList _ _ _ _ _ (World.alloc _ _)); refine wpList_up hm ?_; clear hm; intro n w hn hn2 hk hm hd hd2 ho; (try rw [← hn]); replace hn := Nat.le_of_eq hn.symm) | ((first | ((with_reducible show wpList _ _ _ (Oper.mk _ (Op.box _ _) _ _ _ _ :: _) _ _); (refine bxA hm ?_; clear hm; intro n w hn hz hm ho; (try simp only [List.cons_append, List.nil_append] at hm))) | ((with_reducible show wpList _ _ _ (Oper.mk _ (Op.load _ _) _ _ _ _ :: _) _ _); first | (refine ldA hm ?_) | (refine laA hm ?_)) | ((with_reducible show wpList _ _ _ (Oper.mk _ (Op.store _ _ _) _ _ _ _ :: _) _ _); (refine stA hm ?_; clear hm; intro w hz hm ho)) | ((with_reducible show wpList _ _ _ (Oper.mk _ (Op.alloc _) _ _ _ _ :: _) _ _); (refine alA hm ?_; clear hm; intro n w hn hz hm ho; (try simp only [List.cons_append, List.nil_append] at hm)))); try simp only [Act.put, sxQ]))
                    go_meet
                    exact ⟨false, p6.m.restore, rfl, rfl, HCR.out.mono (by omega), (HC.out.resync hm).keep 3 0 0⟩
              case rest =>
                obtain ⟨b, m2, rfl, hm2, hcan, hsc⟩ := hcut
                clear HC hm
                have HC := Lib.hid hsc
                have HM2 := Lib.hid (And.intro hm2 hcan)
                clear hsc hm2 hcan
                have hm := HC.out.rebase
                go_upto_if 168 with fail
                go_cut [] (fun wx => ∃ (m2 : Cel.Mem), m2.off = false ∧ Pg.Can (71200 + 60000 * k) fr7 m2 (svs vs1) ∧ Scn w0 wx [⟨n10, 36, #[.slice A1 n1 c1]⟩, ⟨n13, 41, #[.bool re, .bool ex, .int .i64 yi, .int .i64 yj, .slice yA yn yc]⟩, ⟨n15, 36, #[.slice A8 n8 c8]⟩] [] [⟨G6, fun u => PAt u g1 G6 s6 (p6.wm m2)⟩] [⟨GR1, fun u => RfAt u A1 n1 c1 vs1 GR1⟩, ⟨GR8, fun u => RfAt u A8 n8 c8 vs8 GR8⟩])
                case first =>
                  cases b with
                  | false =>
                    go_wp2_with (first | go_skip | ((with_reducible show wpList _ _ _ _ _ (World.alloc _ _)); refine wpList_up hm ?_; clear hm; intro n w hn hn2 hk hm hd hd2 ho; (try rw [← hn]); replace hn := Nat.le_of_eq hn.symm) | ((first | ((with_reducible show wpList _ _ _ (Oper.mk _ (Op.box _ _) _ _ _ _ :: _) _ _); (refine bxA hm ?_; clear hm; intro n w hn hz hm ho; (try simp only [List.cons_append, List.nil_append] at hm))) | ((with_reducible show wpList _ _ _ (Oper.mk _ (Op.load _ _) _ _ _ _ :: _) _ _); first | (refine ldA hm ?_) | (refine laA hm ?_)) | ((with_reducible show wpList _ _ _ (Oper.mk _ (Op.store _ _ _) _ _ _ _ :: _) _ _); (refine stA hm ?_; clear hm; intro w hz hm ho)) | ((with_reducible show wpList _ _ _ (Oper.mk _ (Op.alloc _) _ _ _ _ :: _) _ _); (refine alA hm ?_; clear hm; intro n w hn hz hm ho; (try simp only [List.cons_append, List.nil_append] at hm)))); try simp only [Act.put, sxQ]))
                    go_meet
                    exact ⟨m2, HM2.out.1, HM2.out.2, HC.out.resync hm⟩
                  | true =>
                    go_wp2_with (first | go_skip | ((with_reducible show wpList _ _ _ _ _ (World.alloc _ _)); refine wpList_up hm ?_; clear hm; intro n w hn hn2 hk hm hd hd2 ho; (try rw [← hn]); replace hn := Nat.le_of_eq hn.symm) | ((first | ((with_reducible show wpList _ _ _ (Oper.mk _ (Op.box _ _) _ _ _ _ :: _) _ _); (refine bxA hm ?_; clear hm; intro n w hn hz hm ho; (try simp only [List.cons_append, List.nil_append] at hm))) | ((with_reducible show wpList _ _ _ (Oper.mk _ (Op.load _ _) _ _ _ _ :: _) _ _); first | (refine ldA hm ?_) | (refine laA hm ?_)) | ((with_reducible show wpList _ _ _ (Oper.mk _ (Op.store _ _ _) _ _ _ _ :: _) _ _); (refine stA hm ?_; clear hm; intro w hz hm ho)) | ((with_reducible show wpList _ _ _ (Oper.mk _ (Op.alloc _) _ _ _ _ :: _) _ _); (refine alA hm ?_; clear hm; intro n w hn hz hm ho; (try simp only [List.cons_append, List.nil_append] at hm)))); try simp only [Act.put, sxQ]))
                    go_at_call 12
                    have hco := page_OpenP ((HC.out.resync hm).obj 0 rfl) HM2.out.1 HM2.out.2 (by omega)
                    rw [HM6.out] at hco
                    refine hco.mono ?_

                    rintro e w18 ⟨hb18, g2, G2, s2, p8, rfl, -⟩
                    have hc2 := (HC.out.resync hm).below hb18
                    clear hb18 hco
                    clear HC hm
                    simp only [List.nil_append, List.cons_append, List.set_cons_zero, List.set_cons_succ] at hc2
                    have HC := Lib.hid hc2
                    clear hc2
                    have hm := HC.out.rebase
                    go_wp2_with (first | go_skip | ((with_reducible show wpList _ _ _ _ _ (World.alloc _ _)); refine wpList_up hm ?_; clear hm; intro n w hn hn2 hk hm hd hd2 ho; (try rw [← hn]); replace hn := Nat.le_of_eq hn.symm) | ((first | ((with_reducible show wpList _ _ _ (Oper.mk _ (Op.box _ _) _ _ _ _ :: _) _ _); (refine bxA hm ?_; clear hm; intro n w hn hz hm ho; (try simp only [List.cons_append, List.nil_append] at hm))) | ((with_reducible show wpList _ _ _ (Oper.mk _ (Op.load _ _) _ _ _ _ :: _) _ _); first | (refine ldA hm ?_) | (refine laA hm ?_)) | ((with_reducible show wpList _ _ _ (Oper.mk _ (Op.store _ _ _) _ _ _ _ :: _) _ _); (refine stA hm ?_; clear hm; intro w hz hm ho)) | ((with_reducible show wpList _ _ _ (Oper.mk _ (Op.alloc _) _ _ _ _ :: _) _ _); (refine alA hm ?_; clear hm; intro n w hn hz hm ho; (try simp only [List.cons_append, List.nil_append] at hm)))); try simp only [Act.put, sxQ]))
                    go_at_call 29
                    have hco := page_Restore ((HC.out.resync hm).obj 0 rfl)
                    rw [HM6.out] at hco
                    refine hco.mono ?_
                    rintro e w19 ⟨rfl, hp19, ho19⟩
                    have hc2 := (HC.out.resync hm).turn 0 rfl ho19 (fun q h => .inl h) hp19.sup
                    clear hp19 ho19 hco
                    clear HC hm
                    simp only [List.nil_append, List.cons_append, List.set_cons_zero, List.set_cons_succ] at hc2
                    have HC := Lib.hid hc2
                    clear hc2
                    have hm := HC.out.rebase
                    go_wp2_with (first | go_skip | ((with_reducible show wpList _ _ _ _ _ (World.alloc _ _)); refine wpList_up hm ?_; clear hm; intro n w hn hn2 hk hm hd hd2 ho; (try rw [← hn]); replace hn := Nat.le_of_eq hn.symm) | ((first | ((with_reducible show wpList _ _ _ (Oper.mk _ (Op.box _ _) _ _ _ _ :: _) _ _); (refine bxA hm ?_; clear hm; intro n w hn hz hm ho; (try simp only [List.cons_append, List.nil_append] at hm))) | ((with_reducible show wpList _ _ _ (Oper.mk _ (Op.load _ _) _ _ _ _ :: _) _ _); first | (refine ldA hm ?_) | (refine laA hm ?_)) | ((with_reducible show wpList _ _ _ (Oper.mk _ (Op.store _ _ _) _ _ _ _ :: _) _ _); (refine stA hm ?_; clear hm; intro w hz hm ho)) | ((with_reducible show wpList _ _ _ (Oper.mk _ (Op.alloc _) _ _ _ _ :: _) _ _); (refine alA hm ?_; clear hm; intro n w hn hz hm ho; (try simp only [List.cons_append, List.nil_append] at hm)))); try simp only [Act.put, sxQ]))
                    go_meet
                    exact ⟨m2.restore, rfl, HM2.out.2.restore, HC.out.resync hm⟩
                case rest =>
                  obtain ⟨m3, hm3, hcan, hsc⟩ := hcut
                  clear HC hm HM2
                  have HC := Lib.hid hsc
                  have HM3 := Lib.hid (And.intro hm3 hcan)
                  clear hsc hm3 hcan
                  have hm := HC.out.rebase
                  go_wp2_with (first | go_skip | ((with_reducible show wpList _ _ _ _ _ (World.alloc _ _)); refine wpList_up hm ?_; clear hm; intro n w hn hn2 hk hm hd hd2 ho; (try rw [← hn]); replace hn := Nat.le_of_eq hn.symm) | ((first | ((with_reducible show wpList _ _ _ (Oper.mk _ (Op.box _ _) _ _ _ _ :: _) _ _); (refine bxA hm ?_; clear hm; intro n w hn hz hm ho; (try simp only [List.cons_append, List.nil_append] at hm))) | ((with_reducible show wpList _ _ _ (Oper.mk _ (Op.load _ _) _ _ _ _ :: _) _ _); first | (refine ldA hm ?_) | (refine laA hm ?_)) | ((with_reducible show wpList _ _ _ (Oper.mk _ (Op.store _ _ _) _ _ _ _ :: _) _ _); (refine stA hm ?_; clear hm; intro w hz hm ho)) | ((with_reducible show wpList _ _ _ (Oper.mk _ (Op.alloc _) _ _ _ _ :: _) _ _); (refine alA hm ?_; clear hm; intro n w hn hz hm ho; (try simp only [List.cons_append, List.nil_append] at hm)))); try simp only [Act.put, sxQ]))

                  go_at_call 12
                  have hco := page_OpenP ((HC.out.resync hm).obj 0 rfl) HM3.out.1 HM3.out.2 (by omega)
                  rw [HM6.out] at hco
                  refine hco.mono ?_

                  rintro e w20 ⟨hb20, g2, G2, s2, p9, rfl, hL9, hp9, e9, hG9⟩
                  have hc2 := (HC.out.resync hm).turn 0 rfl (Only.of_below hb20) hG9 hp9.sup
                  have HL9 := Lib.hid hL9
                  have HM9 := Lib.hid e9
                  clear hb20 hco hL9 hp9 e9 hG9
                  clear HC hm
                  simp only [List.nil_append, List.cons_append, List.set_cons_zero, List.set_cons_succ] at hc2
                  have HC := Lib.hid hc2
                  clear hc2
                  have hm := HC.out.rebase
                  go_wp2_with (first | go_skip | ((with_reducible show wpList _ _ _ _ _ (World.alloc _ _)); refine wpList_up hm ?_; clear hm; intro n w hn hn2 hk hm hd hd2 ho; (try rw [← hn]); replace hn := Nat.le_of_eq hn.symm) | ((first | ((with_reducible show wpList _ _ _ (Oper.mk _ (Op.box _ _) _ _ _ _ :: _) _ _); (refine bxA hm ?_; clear hm; intro n w hn hz hm ho; (try simp only [List.cons_append, List.nil_append] at hm))) | ((with_reducible show wpList _ _ _ (Oper.mk _ (Op.load _ _) _ _ _ _ :: _) _ _); first | (refine ldA hm ?_) | (refine laA hm ?_)) | ((with_reducible show wpList _ _ _ (Oper.mk _ (Op.store _ _ _) _ _ _ _ :: _) _ _); (refine stA hm ?_; clear hm; intro w hz hm ho)) | ((with_reducible show wpList _ _ _ (Oper.mk _ (Op.alloc _) _ _ _ _ :: _) _ _); (refine alA hm ?_; clear hm; intro n w hn hz hm ho; (try simp only [List.cons_append, List.nil_append] at hm)))); try simp only [Act.put, sxQ]))

                  go_at_call 21
                  refine (law11_shows ((HC.out.resync hm).obj 0 rfl) HL9.out (by omega) A1 n1 c1 vs1 GR1 ((HC.out.resync hm).val 0 rfl) (((HC.out.resync hm).vs _ List.mem_cons_self).2.1 _ List.mem_cons_self) rfl).mono ?_
                  rintro e w21 ⟨rfl, c21, hp21, hL21, _, hon21⟩
                  have hc2 := (HC.out.resync hm).turn 0 rfl hon21 (fun q h => .inl h) hp21.sup
                  have HL21 := Lib.hid hL21
                  clear hp21 hon21 hL21
                  clear HC hm
                  simp only [List.nil_append, List.cons_append, List.set_cons_zero, List.set_cons_succ] at hc2
                  have HC := Lib.hid hc2
                  clear hc2
                  have hm := HC.out.rebase

                  go_wp2_with (first | go_skip | ((with_reducible show wpList _ _ _ _ _ (World.alloc _ _)); refine wpList_up hm ?_; clear hm; intro n w hn hn2 hk hm hd hd2 ho; (try rw [← hn]); replace hn := Nat.le_of_eq hn.symm) | ((first | ((with_reducible show wpList _ _ _ (Oper.mk _ (Op.box _ _) _ _ _ _ :: _) _ _); (refine bxA hm ?_; clear hm; intro n w hn hz hm ho; (try simp only [List.cons_append, List.nil_append] at hm))) | ((with_reducible show wpList _ _ _ (Oper.mk _ (Op.load _ _) _ _ _ _ :: _) _ _); first | (refine ldA hm ?_) | (refine laA hm ?_)) | ((with_reducible show wpList _ _ _ (Oper.mk _ (Op.store _ _ _) _ _ _ _ :: _) _ _); (refine stA hm ?_; clear hm; intro w hz hm ho)) | ((with_reducible show wpList _ _ _ (Oper.mk _ (Op.alloc _) _ _ _ _ :: _) _ _); (refine alA hm ?_; clear hm; intro n w hn hz hm ho; (try simp only [List.cons_append, List.nil_append] at hm)))); try simp only [Act.put, sxQ]))
                  have hl42 := HLN.out
                  go_roundg j
                  case measure => omega
                  case rel => exact ⟨k + 1, by omega, by go_num, g2, G2, s2, p9.more c21, fr7, A1, n1, c1, vs1, GR1, rfl, HM9.out, HL21.out.mono (by omega), HN1.out, HLN.out, (HC.out.resync hm).lone 0 0 rfl rfl⟩
end Go.Proofs.Ytnlhammgcemchaa
