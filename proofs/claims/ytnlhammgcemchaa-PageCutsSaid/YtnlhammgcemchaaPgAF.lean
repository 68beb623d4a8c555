/-
  PagePlays: any actions on the pages of a memory.
-/
import Derived.Test.YtnlhammgcemchaaZ0
import Derived.Test.YtnlhammgcemchaaPgAE
namespace Go.Proofs.Ytnlhammgcemchaa
set_option maxRecDepth 100000
set_option linter.unusedSimpArgs false
set_option linter.unusedVariables false
open Go.RowKit
set_option maxHeartbeats 8000000

/-- A new value: its blocks are an elder value's, or new. -/
theorem Scn.nextG {w0 w w' : World} {L : List Ent} {O : List Osl} {Fs Vs : List Thing} {G G' : Nat → Prop} {p0 p' : World → Prop} (h : Scn w0 w L O Fs Vs) (k : Nat) (hk : Vs[k]? = some ⟨G, p0⟩) (hb : Below w.heap.size w w') (hf : ∀ q, G' q → G q ∨ w.heap.size ≤ q) (hs : Sup w' G' p') : Scn w0 w' L O Fs (Vs ++ [⟨G', p'⟩]) := by
  have h2 := h.below hb
  refine ⟨h2.cal, h2.fs, fun x hx => ?_⟩
  rcases List.mem_append.1 hx with hx | hx
  · exact h2.vs x hx
  · obtain rfl := List.mem_singleton.1 hx
    obtain ⟨h3, h4, h5⟩ := h.vs _ (List.mem_of_getElem? hk)
    refine ⟨hs, fun y hy q hy2 hq2 => ?_, fun e he hq2 => ?_⟩
    · rcases hf q hq2 with h6 | h6
      · exact h4 y hy q hy2 h6
      · have := (h.fs y hy).lt q hy2; omega
    · rcases hf _ hq2 with h6 | h6
      · exact h5 e he h6
      · have := h.cal.mem.lt he; omega
/-- After k actions. -/
def PInv (w0 : World) (n9 gm nw : Nat) (K : Nat) (v7 : Value) (wr : World) : Prop :=
  ∃ g G s p fr st A n c vs GR, v7 = .pointer (some ⟨g, 0, none⟩) ∧ s.gm = gm ∧ Pg.Live (70000 + 5000 * K) fr p st ∧ p.m.pending = false ∧ Pg.Exact p.m.words ∧ p.fixed = 0 ∧ svs vs = st ∧ n ≤ 100000 ∧
    Scn w0 wr [⟨n9, 36, #[.slice A n c]⟩] [] [⟨G, fun u => PAt u g G s p⟩] [⟨GR, fun u => RfAt u A n c vs GR⟩]
/-- Behind the reference's Write. -/
def PCut (w0 : World) (n9 n12 g : Nat) (G : Nat → Prop) (s : PgS) (p : Pg.P) (A : Option Addr) (n c : Nat) (vs : List SV) (GR : Nat → Prop) (i : Int) (dt : List UInt8) (cx : List Value) (v14 v15 : Value) (wx : World) : Prop :=
  ∃ n14 A8 n8 c8 vs8 GR8, v14 = .pointer (some ⟨n14, 0, none⟩) ∧ v15 = .int .i64 (Pg.rwrite (svs vs) i dt).2 ∧ svs vs8 = (Pg.rwrite (svs vs) i dt).1 ∧ n8 ≤ 100000 ∧
    Scn w0 wx [⟨n9, 36, #[.slice A n c]⟩, ⟨n12, 41, cx.toArray⟩, ⟨n14, 36, #[.slice A8 n8 c8]⟩] [] [⟨G, fun u => PAt u g G s p⟩] [⟨GR, fun u => RfAt u A n c vs GR⟩, ⟨GR8, fun u => RfAt u A8 n8 c8 vs8 GR8⟩]
set_option maxRecDepth 100000 in
theorem law_PagePlays_go (nw : Nat) (A : Option Addr) (m c : Nat) (l : List POp) (w0 : World) (h : POps w0 A m c l) (h1 : 240 ≤ nw) (h2 : nw ≤ 2048) (hsh : Pg.shortB l = true) :
    Calls Try.prog 3 #[.int .i64 (nw : Int), .slice A m c] w0 fun e w' => e = .returned (.bool true) ∧ Below w0.heap.size w0 w' := by
  have HH := Lib.hid h
  have hm120 : m ≤ 120 := by
    have h9 := h.len
    unfold Pg.shortB at hsh
    simp at hsh
    omega
  have HSH := Lib.hid (fun u (hu : Below w0.heap.size w0 u) => law11_short A m c l)
  have HNC := Lib.hid (Pg.new_can nw h1 (by omega))
  have hoff : (Cel.Mem.new nw 1073741824).off = false := rfl
  have HN := Lib.hid (fun (u : World) => cell_New nw 1073741824 u (by omega) (by omega) (by omega))
  have HF := Lib.hid (fun (u : World) => ref11_First nw h1 (by omega) u)
  have HS := Lib.hid hsh
  have d1 : decide ((nw : Int) < 1) = false := decide_eq_false (by omega)
  have d2 : decide ((2048 : Int) < (nw : Int)) = false := decide_eq_false (by omega)
  have HC := Lib.hid (Scn.start w0)
  have hm := HC.out.rebase
  clear h hsh HSH
  go_enter Try.func3, Try.ntmps3
  go_wp2_with (first | go_skip | ((with_reducible show wpList _ _ _ _ _ (World.alloc _ _)); refine wpList_up hm ?_; clear hm; intro n w hn hn2 hk hm hd hd2 ho; (try rw [← hn]); replace hn := Nat.le_of_eq hn.symm) | ((first | ((with_reducible show wpList _ _ _ (Oper.mk _ (Op.box _ _) _ _ _ _ :: _) _ _); (refine bxA hm ?_; clear hm; intro n w hn hz hm ho; (try simp only [List.cons_append, List.nil_append] at hm))) | ((with_reducible show wpList _ _ _ (Oper.mk _ (Op.load _ _) _ _ _ _ :: _) _ _); first | (refine ldA hm ?_) | (refine laA hm ?_)) | ((with_reducible show wpList _ _ _ (Oper.mk _ (Op.store _ _ _) _ _ _ _ :: _) _ _); (refine stA hm ?_; clear hm; intro w hz hm ho)) | ((with_reducible show wpList _ _ _ (Oper.mk _ (Op.alloc _) _ _ _ _ :: _) _ _); (refine alA hm ?_; clear hm; intro n w hn hz hm ho; (try simp only [List.cons_append, List.nil_append] at hm)))); try simp only [Act.put, sxQ]))
  go_at_call 9
  refine (law11_short A m c l _ HH.out).mono ?_
  rw [HS.out]
  rintro e w1 ⟨rfl, hb1⟩
  have hc2 := (HC.out.resync hm).below hb1
  clear hb1
  clear HC hm
  simp only [List.nil_append, List.cons_append, List.set_cons_zero, List.set_cons_succ] at hc2
  have HC := Lib.hid hc2
  clear hc2
  have hm := HC.out.rebase
  go_wp2_with (first | go_skip | ((with_reducible show wpList _ _ _ _ _ (World.alloc _ _)); refine wpList_up hm ?_; clear hm; intro n w hn hn2 hk hm hd hd2 ho; (try rw [← hn]); replace hn := Nat.le_of_eq hn.symm) | ((first | ((with_reducible show wpList _ _ _ (Oper.mk _ (Op.box _ _) _ _ _ _ :: _) _ _); (refine bxA hm ?_; clear hm; intro n w hn hz hm ho; (try simp only [List.cons_append, List.nil_append] at hm))) | ((with_reducible show wpList _ _ _ (Oper.mk _ (Op.load _ _) _ _ _ _ :: _) _ _); first | (refine ldA hm ?_) | (refine laA hm ?_)) | ((with_reducible show wpList _ _ _ (Oper.mk _ (Op.store _ _ _) _ _ _ _ :: _) _ _); (refine stA hm ?_; clear hm; intro w hz hm ho)) | ((with_reducible show wpList _ _ _ (Oper.mk _ (Op.alloc _) _ _ _ _ :: _) _ _); (refine alA hm ?_; clear hm; intro n w hn hz hm ho; (try simp only [List.cons_append, List.nil_append] at hm)))); try simp only [Act.put, sxQ]))
  go_at_call 11
  refine (HN.out _).mono ?_
  rintro e w2 ⟨gm, gw, gv, rfl, hmem, hg1, hg2, hg3, hb2⟩
  have hc2 := (HC.out.resync hm).born hb2 hmem.sup (fun q hq => by rcases hq with rfl | rfl | rfl <;> assumption)
  clear hmem hb2 hg1 hg2 hg3
  clear HC hm
  simp only [List.nil_append, List.cons_append, List.set_cons_zero, List.set_cons_succ] at hc2
  have HC := Lib.hid hc2
  clear hc2
  have hm := HC.out.rebase
  go_wp2_with (first | go_skip | ((with_reducible show wpList _ _ _ _ _ (World.alloc _ _)); refine wpList_up hm ?_; clear hm; intro n w hn hn2 hk hm hd hd2 ho; (try rw [← hn]); replace hn := Nat.le_of_eq hn.symm) | ((first | ((with_reducible show wpList _ _ _ (Oper.mk _ (Op.box _ _) _ _ _ _ :: _) _ _); (refine bxA hm ?_; clear hm; intro n w hn hz hm ho; (try simp only [List.cons_append, List.nil_append] at hm))) | ((with_reducible show wpList _ _ _ (Oper.mk _ (Op.load _ _) _ _ _ _ :: _) _ _); first | (refine ldA hm ?_) | (refine laA hm ?_)) | ((with_reducible show wpList _ _ _ (Oper.mk _ (Op.store _ _ _) _ _ _ _ :: _) _ _); (refine stA hm ?_; clear hm; intro w hz hm ho)) | ((with_reducible show wpList _ _ _ (Oper.mk _ (Op.alloc _) _ _ _ _ :: _) _ _); (refine alA hm ?_; clear hm; intro n w hn hz hm ho; (try simp only [List.cons_append, List.nil_append] at hm)))); try simp only [Act.put, sxQ]))
  go_at_call 12
  refine (page_Open_can (HC.out.obj 0 rfl) hoff HNC.out.1 (by omega)).mono ?_
  rintro e w3 ⟨hb3, g, G, s, p, rfl, hL, hpm, hfx, hp, e1, e2, e3, e4, e5, e6, hG⟩
  have hc2 := (HC.out.resync hm).turn 0 rfl (Only.of_below hb3) (fun q hq => by
    rcases hG q hq with h | h | h | h
    · exact .inl (.inl h)
    · exact .inl (.inr (.inl h))
    · exact .inl (.inr (.inr h))
    · exact .inr h) hp.sup
  have HL := Lib.hid hL
  have HPM := Lib.hid hpm
  have HFX := Lib.hid (hfx HNC.out.2)
  have HGM := Lib.hid e1
  clear hL hpm hfx hp e1 e2 e3 e4 e5 e6 hG hb3
  clear HC hm
  simp only [List.nil_append, List.cons_append, List.set_cons_zero, List.set_cons_succ] at hc2
  have HC := Lib.hid hc2
  clear hc2
  have hm := HC.out.rebase
  go_wp2_with (first | go_skip | ((with_reducible show wpList _ _ _ _ _ (World.alloc _ _)); refine wpList_up hm ?_; clear hm; intro n w hn hn2 hk hm hd hd2 ho; (try rw [← hn]); replace hn := Nat.le_of_eq hn.symm) | ((first | ((with_reducible show wpList _ _ _ (Oper.mk _ (Op.box _ _) _ _ _ _ :: _) _ _); (refine bxA hm ?_; clear hm; intro n w hn hz hm ho; (try simp only [List.cons_append, List.nil_append] at hm))) | ((with_reducible show wpList _ _ _ (Oper.mk _ (Op.load _ _) _ _ _ _ :: _) _ _); first | (refine ldA hm ?_) | (refine laA hm ?_)) | ((with_reducible show wpList _ _ _ (Oper.mk _ (Op.store _ _ _) _ _ _ _ :: _) _ _); (refine stA hm ?_; clear hm; intro w hz hm ho)) | ((with_reducible show wpList _ _ _ (Oper.mk _ (Op.alloc _) _ _ _ _ :: _) _ _); (refine alA hm ?_; clear hm; intro n w hn hz hm ho; (try simp only [List.cons_append, List.nil_append] at hm)))); try simp only [Act.put, sxQ]))
  go_at_call 13
  refine (HF.out _).mono ?_
  rintro e w4 ⟨A4, n4, c4, vs4, G4, rfl, hr4, hv4, hn4, hG4, hb4⟩
  have hc2 := (HC.out.resync hm).fresh hb4 hr4.sup (fun q hq => .inl (hG4 q hq))
  have HV4 := Lib.hid hv4
  have HN4 := Lib.hid (show n4 ≤ 100000 by omega)
  clear hr4 hv4 hG4 hb4 hn4
  clear HC hm
  simp only [List.nil_append, List.cons_append, List.set_cons_zero, List.set_cons_succ] at hc2
  have HC := Lib.hid hc2
  clear hc2
  have hm := HC.out.rebase
  go_wp2_with (first | go_skip | ((with_reducible show wpList _ _ _ _ _ (World.alloc _ _)); refine wpList_up hm ?_; clear hm; intro n w hn hn2 hk hm hd hd2 ho; (try rw [← hn]); replace hn := Nat.le_of_eq hn.symm) | ((first | ((with_reducible show wpList _ _ _ (Oper.mk _ (Op.box _ _) _ _ _ _ :: _) _ _); (refine bxA hm ?_; clear hm; intro n w hn hz hm ho; (try simp only [List.cons_append, List.nil_append] at hm))) | ((with_reducible show wpList _ _ _ (Oper.mk _ (Op.load _ _) _ _ _ _ :: _) _ _); first | (refine ldA hm ?_) | (refine laA hm ?_)) | ((with_reducible show wpList _ _ _ (Oper.mk _ (Op.store _ _ _) _ _ _ _ :: _) _ _); (refine stA hm ?_; clear hm; intro w hz hm ho)) | ((with_reducible show wpList _ _ _ (Oper.mk _ (Op.alloc _) _ _ _ _ :: _) _ _); (refine alA hm ?_; clear hm; intro n w hn hz hm ho; (try simp only [List.cons_append, List.nil_append] at hm)))); try simp only [Act.put, sxQ]))
  obtain ⟨n9, h9⟩ := hm.nm 0 rfl
  dsimp only at h9
  subst h9
  have hinv : PInv w0 n9 gm nw 0 (.pointer (some ⟨g, 0, none⟩)) w := ⟨g, G, s, p, _, _, A4, n4, c4, vs4, G4, rfl, HGM.out, HL.out, by rw [HPM.out]; rfl, by rw [HPM.out]; exact HNC.out.2, HFX.out, HV4.out, HN4.out, HC.out.resync hm⟩
  clear HC hm HL HPM HFX HGM HV4 HN4
  go_loopg [7, 11] m (fun j v7 v11 wr => ∃ k, k + j = m ∧ v11 = .int .i64 (k : Int) ∧ PInv w0 n9 gm nw k v7 wr)
  case atStart => exact ⟨0, by omega, rfl, hinv⟩
  case round =>
    clear hinv
    obtain ⟨k, hkg, rfl, g1, G1, s1, p1, fr1, st1, A1, n1, c1, vs1, GR1, rfl, hgm, hL, hpd, hex, hfx, hsv, hn1, hsc⟩ := hrel
    have HC := Lib.hid hsc
    have HGM := Lib.hid hgm
    have HL := Lib.hid hL
    have HPD := Lib.hid hpd
    have HEX := Lib.hid hex
    have HFX := Lib.hid hfx
    have HSV := Lib.hid hsv
    have HN1 := Lib.hid hn1
    have hm := HC.out.rebase
    clear hsc hgm hL hpd hex hfx hsv hn1
    cases gk with
    | zero =>
      obtain rfl : k = m := by omega
      have ik : decide ((k : Int) < (k : Int)) = false := decide_eq_false (by omega)
      go_wp2_with (first | go_skip | ((with_reducible show wpList _ _ _ _ _ (World.alloc _ _)); refine wpList_up hm ?_; clear hm; intro n w hn hn2 hk hm hd hd2 ho; (try rw [← hn]); replace hn := Nat.le_of_eq hn.symm) | ((first | ((with_reducible show wpList _ _ _ (Oper.mk _ (Op.box _ _) _ _ _ _ :: _) _ _); (refine bxA hm ?_; clear hm; intro n w hn hz hm ho; (try simp only [List.cons_append, List.nil_append] at hm))) | ((with_reducible show wpList _ _ _ (Oper.mk _ (Op.load _ _) _ _ _ _ :: _) _ _); first | (refine ldA hm ?_) | (refine laA hm ?_)) | ((with_reducible show wpList _ _ _ (Oper.mk _ (Op.store _ _ _) _ _ _ _ :: _) _ _); (refine stA hm ?_; clear hm; intro w hz hm ho)) | ((with_reducible show wpList _ _ _ (Oper.mk _ (Op.alloc _) _ _ _ _ :: _) _ _); (refine alA hm ?_; clear hm; intro n w hn hz hm ho; (try simp only [List.cons_append, List.nil_append] at hm)))); try simp only [Act.put, sxQ]))
      refine (law11_shows ((HC.out.resync hm).obj 0 rfl) HL.out (by omega) A1 n1 c1 vs1 GR1 ((HC.out.resync hm).val 0 rfl) (((HC.out.resync hm).vs _ List.mem_cons_self).2.1 _ List.mem_cons_self) HSV.out).mono ?_
      rintro e w5 ⟨rfl, c5, hp5, _, _, hon5⟩
      have hc2 := (HC.out.resync hm).turn 0 rfl hon5 (fun q h => .inl h) hp5.sup
      clear hp5 hon5
      clear HC hm
      simp only [List.nil_append, List.cons_append, List.set_cons_zero, List.set_cons_succ] at hc2
      have HC := Lib.hid hc2
      clear hc2
      have hm := HC.out.rebase
      go_wp2_with (first | go_skip | ((with_reducible show wpList _ _ _ _ _ (World.alloc _ _)); refine wpList_up hm ?_; clear hm; intro n w hn hn2 hk hm hd hd2 ho; (try rw [← hn]); replace hn := Nat.le_of_eq hn.symm) | ((first | ((with_reducible show wpList _ _ _ (Oper.mk _ (Op.box _ _) _ _ _ _ :: _) _ _); (refine bxA hm ?_; clear hm; intro n w hn hz hm ho; (try simp only [List.cons_append, List.nil_append] at hm))) | ((with_reducible show wpList _ _ _ (Oper.mk _ (Op.load _ _) _ _ _ _ :: _) _ _); first | (refine ldA hm ?_) | (refine laA hm ?_)) | ((with_reducible show wpList _ _ _ (Oper.mk _ (Op.store _ _ _) _ _ _ _ :: _) _ _); (refine stA hm ?_; clear hm; intro w hz hm ho)) | ((with_reducible show wpList _ _ _ (Oper.mk _ (Op.alloc _) _ _ _ _ :: _) _ _); (refine alA hm ?_; clear hm; intro n w hn hz hm ho; (try simp only [List.cons_append, List.nil_append] at hm)))); try simp only [Act.put, sxQ]))
      go_at_call 10
      refine (law11_works _).mono ?_
      rintro e w8 ⟨rfl, hb8⟩
      go_wp2_with (first | go_skip | ((with_reducible show wpList _ _ _ _ _ (World.alloc _ _)); refine wpList_up hm ?_; clear hm; intro n w hn hn2 hk hm hd hd2 ho; (try rw [← hn]); replace hn := Nat.le_of_eq hn.symm) | ((first | ((with_reducible show wpList _ _ _ (Oper.mk _ (Op.box _ _) _ _ _ _ :: _) _ _); (refine bxA hm ?_; clear hm; intro n w hn hz hm ho; (try simp only [List.cons_append, List.nil_append] at hm))) | ((with_reducible show wpList _ _ _ (Oper.mk _ (Op.load _ _) _ _ _ _ :: _) _ _); first | (refine ldA hm ?_) | (refine laA hm ?_)) | ((with_reducible show wpList _ _ _ (Oper.mk _ (Op.store _ _ _) _ _ _ _ :: _) _ _); (refine stA hm ?_; clear hm; intro w hz hm ho)) | ((with_reducible show wpList _ _ _ (Oper.mk _ (Op.alloc _) _ _ _ _ :: _) _ _); (refine alA hm ?_; clear hm; intro n w hn hz hm ho; (try simp only [List.cons_append, List.nil_append] at hm)))); try simp only [Act.put, sxQ]))
      go_ret
      have hb9 := (HC.out.resync hm).low
      exact ⟨rfl, hb9.trans (hb8.mono hb9.size)⟩
    | succ j =>
      have hkn : k < m := by omega
      have ik : decide ((k : Int) < (m : Int)) = true := decide_eq_true (by omega)
      obtain ⟨bb, oo, y, hA, hyb, hyl, RK⟩ := HH.out.keeps hkn
      subst hA
      have HY := Lib.hid hyb
      obtain ⟨re, ex, yi, yj, yA, yn, yc, ys⟩ := y
      unfold POp.cells at RK
      clear hyb hyl
      cases re with
      | true =>
        go_wp2_with (first | go_skip | ((with_reducible show wpList _ _ _ _ _ (World.alloc _ _)); refine wpList_up hm ?_; clear hm; intro n w hn hn2 hk hm hd hd2 ho; (try rw [← hn]); replace hn := Nat.le_of_eq hn.symm) | ((first | ((with_reducible show wpList _ _ _ (Oper.mk _ (Op.box _ _) _ _ _ _ :: _) _ _); (refine bxA hm ?_; clear hm; intro n w hn hz hm ho; (try simp only [List.cons_append, List.nil_append] at hm))) | ((with_reducible show wpList _ _ _ (Oper.mk _ (Op.load _ _) _ _ _ _ :: _) _ _); first | (refine ldA hm ?_) | (refine laA hm ?_) | (refine lcA (RK.out _ (HC.out.resync hm).low) ?_) | (refine lrA (RK.out _ (HC.out.resync hm).low) ?_)) | ((with_reducible show wpList _ _ _ (Oper.mk _ (Op.store _ _ _) _ _ _ _ :: _) _ _); (refine stA hm ?_; clear hm; intro w hz hm ho)) | ((with_reducible show wpList _ _ _ (Oper.mk _ (Op.alloc _) _ _ _ _ :: _) _ _); (refine alA hm ?_; clear hm; intro n w hn hz hm ho; (try simp only [List.cons_append, List.nil_append] at hm)))); try simp only [Act.put, sxQ]))
        go_at_call 12
        have hmm := (HC.out.resync hm).obj 0 rfl
        have hco := page_Open_can hmm.mem HL.out.off HL.out.can (by omega)
        rw [HGM.out] at hco
        refine hco.mono ?_
        rintro e w3 ⟨hb3, g2, G2, s2, p2, rfl, hL2, hpm2, hfx2, hp2, e1, e2, e3, e4, e5, e6, hG2⟩
        have hc2 := (HC.out.resync hm).turn 0 rfl (Only.of_below hb3) (fun q hq => by
          rcases hG2 q hq with h | h | h | h
          · exact .inl (hmm.memR (.inl (h.trans HGM.out.symm)))
          · exact .inl (hmm.memR (.inr (.inl h)))
          · exact .inl (hmm.memR (.inr (.inr h)))
          · exact .inr h) hp2.sup
        have HL2 := Lib.hid hL2
        have HP2 := Lib.hid (And.intro hpm2 (And.intro (hfx2 HEX.out) e1))
        clear hL2 hpm2 hfx2 hp2 e1 e2 e3 e4 e5 e6 hG2 hb3 hco hmm
        clear HC hm
        simp only [List.nil_append, List.cons_append, List.set_cons_zero, List.set_cons_succ] at hc2
        have HC := Lib.hid hc2
        clear hc2
        have hm := HC.out.rebase
        go_wp2_with (first | go_skip | ((with_reducible show wpList _ _ _ _ _ (World.alloc _ _)); refine wpList_up hm ?_; clear hm; intro n w hn hn2 hk hm hd hd2 ho; (try rw [← hn]); replace hn := Nat.le_of_eq hn.symm) | ((first | ((with_reducible show wpList _ _ _ (Oper.mk _ (Op.box _ _) _ _ _ _ :: _) _ _); (refine bxA hm ?_; clear hm; intro n w hn hz hm ho; (try simp only [List.cons_append, List.nil_append] at hm))) | ((with_reducible show wpList _ _ _ (Oper.mk _ (Op.load _ _) _ _ _ _ :: _) _ _); first | (refine ldA hm ?_) | (refine laA hm ?_) | (refine lcA (RK.out _ (HC.out.resync hm).low) ?_) | (refine lrA (RK.out _ (HC.out.resync hm).low) ?_)) | ((with_reducible show wpList _ _ _ (Oper.mk _ (Op.store _ _ _) _ _ _ _ :: _) _ _); (refine stA hm ?_; clear hm; intro w hz hm ho)) | ((with_reducible show wpList _ _ _ (Oper.mk _ (Op.alloc _) _ _ _ _ :: _) _ _); (refine alA hm ?_; clear hm; intro n w hn hz hm ho; (try simp only [List.cons_append, List.nil_append] at hm)))); try simp only [Act.put, sxQ]))
        go_roundg j
        case measure => omega
        case rel => exact ⟨k + 1, by omega, by go_num, g2, G2, s2, p2, _, _, A1, n1, c1, vs1, GR1, rfl, HP2.out.2.2, HL2.out.mono (by omega), by rw [HP2.out.1]; exact HPD.out, by rw [HP2.out.1]; exact HEX.out, HP2.out.2.1, HSV.out, HN1.out, (HC.out.resync hm).keep 1 0 0⟩
      | false =>
        go_wp2_with (first | go_skip | ((with_reducible show wpList _ _ _ _ _ (World.alloc _ _)); refine wpList_up hm ?_; clear hm; intro n w hn hn2 hk hm hd hd2 ho; (try rw [← hn]); replace hn := Nat.le_of_eq hn.symm) | ((first | ((with_reducible show wpList _ _ _ (Oper.mk _ (Op.box _ _) _ _ _ _ :: _) _ _); (refine bxA hm ?_; clear hm; intro n w hn hz hm ho; (try simp only [List.cons_append, List.nil_append] at hm))) | ((with_reducible show wpList _ _ _ (Oper.mk _ (Op.load _ _) _ _ _ _ :: _) _ _); first | (refine ldA hm ?_) | (refine laA hm ?_) | (refine lcA (RK.out _ (HC.out.resync hm).low) ?_) | (refine lrA (RK.out _ (HC.out.resync hm).low) ?_)) | ((with_reducible show wpList _ _ _ (Oper.mk _ (Op.store _ _ _) _ _ _ _ :: _) _ _); (refine stA hm ?_; clear hm; intro w hz hm ho)) | ((with_reducible show wpList _ _ _ (Oper.mk _ (Op.alloc _) _ _ _ _ :: _) _ _); (refine alA hm ?_; clear hm; intro n w hn hz hm ho; (try simp only [List.cons_append, List.nil_append] at hm)))); try simp only [Act.put, sxQ]))
        have hsv := HSV.out
        subst hsv
        have HRL := Lib.hid (Pg.rwrite_length (svs vs1) yi (POp.data ⟨false, ex, yi, yj, yA, yn, yc, ys⟩))
        generalize hdt : POp.data ⟨false, ex, yi, yj, yA, yn, yc, ys⟩ = dt at *
        have HDT := Lib.hid hdt
        clear hdt
        refine wp_region_noPanic ?_
        refine wp_region_held_drew (S := KnS _ _) (by kernel_rfl) (KnS.of hm.drew (Rngs.nil _)) (fun hHeld => ?_)
        refine wpAnyH_fresh (by repeat (first | apply Fresh.a | apply Fresh.b)) ?_
        replace hm := hm.drew
        iterate 4 (first | (refine takeN 0 hHeld ?_) | (refine takeY 0 ?_ hHeld ?_ ?_; rotate_left 1; (first | (intro w9 h9; (with_reducible show (execOp _ (Oper.mk _ (Op.load _ _) _ _ _ _)).run _ _ = _); first | exact h9.ldA | exact h9.lcA | exact h9.laA | exact h9.lrA) | focus (intro w9 hSw; go_simp; (try (with_reducible rfl)); done))); try simp only [Act.put, sxQ])
        refine wpAnyH_ready (rs := [4]) (by kernel_rfl) (by simp) ?_
        refine AllReadyH.cons2 (by simp only [sxN]; first | done | exact rfl) (fun K hK => ?_)
        rw [if_pos (by rfl)]
        go_simp
        refine (law11_data ⟨false, ex, yi, yj, yA, yn, yc, ys⟩ _ ((HC.out.resync hm).old HY.out)).mono ?_
        rw [HDT.out]
        rintro e w5 ⟨A5, n5, c5, rfl, hb5, hap5, hl5⟩
        have hap : ∀ a, A5 = some a → 0 < n5 → ¬ G1 a.block := fun a e hn hq => by
          rcases hap5 with ⟨r1, r2⟩ | h
          · exact ((HC.out.resync hm).oldO 0 rfl HY.out).2 a (r1.symm.trans e) (by have r3 : n5 = yn := r2; omega) hq
          · have := h a e; have := ((HC.out.resync hm).lt 0 rfl) _ hq; omega
        have HB5 := Lib.hid (And.intro hb5 hap)
        have hc2 := (HC.out.resync hm).below hl5
        clear hb5 hap5 hl5 hap
        clear HC hm
        simp only [List.nil_append, List.cons_append, List.set_cons_zero, List.set_cons_succ] at hc2
        have HC := Lib.hid hc2
        clear hc2
        have hm := HC.out.rebase
        go_simp
        refine hK.out _ _ (KnS.of hm (Rngs.nil _)) (fun hHeld => ?_)
        clear hK K
        try simp only [Act.put, sxQ]
        refine wpAnyH_ready (rs := [5]) (by kernel_rfl) (by simp) ?_
        refine AllReadyH.cons2 (by simp only [sxN]; first | done | exact rfl) (fun K hK => ?_)
        rw [if_pos (by rfl)]
        go_simp
        refine (live_WriteC ((HC.out.resync hm).obj 0 rfl) HL.out (by omega) HPD.out yi A5 n5 c5 dt HB5.out).mono ?_
        rintro e w6 ⟨p6, fr6, G6, s6, rfl, hp6, hL6, hpd6, _, _, hex6, hF6, ho6, hmm6, _⟩
        have hc2 := (HC.out.resync hm).turn 0 rfl ho6 hF6 hp6.sup
        have HL6 := Lib.hid hL6
        have HPD6 := Lib.hid hpd6
        have HEX6 := Lib.hid (hex6 HEX.out)
        have HM6 := Lib.hid (show s6.gm = gm by simp only [PgS.mm, Prod.mk.injEq] at hmm6; exact hmm6.1.trans HGM.out)
        clear hL6 hpd6 hex6 hF6 ho6 hmm6 hp6
        clear HC hm
        simp only [List.nil_append, List.cons_append, List.set_cons_zero, List.set_cons_succ] at hc2
        have HC := Lib.hid hc2
        clear hc2
        have hm := HC.out.rebase
        go_simp
        refine hK.out _ _ (KnS.of hm (Rngs.nil _)) (fun hHeld => ?_)
        clear hK K
        try simp only [Act.put, sxQ]
        iterate 1 (first | (refine takeN 6 hHeld ?_) | (refine takeY 6 ?_ hHeld ?_ ?_; rotate_left 1; (first | (intro w9 h9; (with_reducible show (execOp _ (Oper.mk _ (Op.load _ _) _ _ _ _)).run _ _ = _); first | exact h9.ldA | exact h9.lcA | exact h9.laA | exact h9.lrA) | focus (intro w9 hSw; go_simp; (try (with_reducible rfl)); done))); try simp only [Act.put, sxQ])
        refine wpAnyH_done (by kernel_rfl) ?_ _
        refine NoPanic.normal ?_
        go_wp2_with (first | go_skip | ((with_reducible show wpList _ _ _ _ _ (World.alloc _ _)); refine wpList_up hm ?_; clear hm; intro n w hn hn2 hk hm hd hd2 ho; (try rw [← hn]); replace hn := Nat.le_of_eq hn.symm) | ((first | ((with_reducible show wpList _ _ _ (Oper.mk _ (Op.box _ _) _ _ _ _ :: _) _ _); (refine bxA hm ?_; clear hm; intro n w hn hz hm ho; (try simp only [List.cons_append, List.nil_append] at hm))) | ((with_reducible show wpList _ _ _ (Oper.mk _ (Op.load _ _) _ _ _ _ :: _) _ _); first | (refine ldA hm ?_) | (refine laA hm ?_) | (refine lcA (RK.out _ (HC.out.resync hm).low) ?_) | (refine lrA (RK.out _ (HC.out.resync hm).low) ?_)) | ((with_reducible show wpList _ _ _ (Oper.mk _ (Op.store _ _ _) _ _ _ _ :: _) _ _); (refine stA hm ?_; clear hm; intro w hz hm ho)) | ((with_reducible show wpList _ _ _ (Oper.mk _ (Op.alloc _) _ _ _ _ :: _) _ _); (refine alA hm ?_; clear hm; intro n w hn hz hm ho; (try simp only [List.cons_append, List.nil_append] at hm)))); try simp only [Act.put, sxQ]))
        obtain ⟨n12, h9⟩ := hm.nm 1 rfl
        dsimp only at h9
        subst h9
        go_cut [14, 15] (fun v14 v15 wx => PCut w0 n9 n12 g1 G6 s6 p6 A1 n1 c1 vs1 GR1 yi dt [.bool false, .bool ex, .int .i64 yi, .int .i64 yj, .slice yA yn yc] v14 v15 wx)
        case first =>
          refine wp_region_noPanic ?_
          refine wp_region_held_drew (S := KnS _ _) (by kernel_rfl) (KnS.of hm.drew (Rngs.nil _)) (fun hHeld => ?_)
          refine wpAnyH_fresh (by repeat (first | apply Fresh.a | apply Fresh.b)) ?_
          replace hm := hm.drew
          iterate 4 (first | (refine takeN 0 hHeld ?_) | (refine takeY 0 ?_ hHeld ?_ ?_; rotate_left 1; (first | (intro w9 h9; (with_reducible show (execOp _ (Oper.mk _ (Op.load _ _) _ _ _ _)).run _ _ = _); first | exact h9.ldA | exact h9.lcA | exact h9.laA | exact h9.lrA) | focus (intro w9 hSw; go_simp; (try (with_reducible rfl)); done))); try simp only [Act.put, sxQ])
          refine wpAnyH_ready (rs := [4, 9]) (by kernel_rfl) (by simp) ?_
          refine AllReadyH.cons3 (by simp only [sxN]; first | done | exact rfl) (fun K hK => ?_) (AllReadyH.cons2 (by simp only [sxN]; first | done | exact rfl) (fun K hK => ?_))
          · skip
            rw [if_pos (by rfl)]
            go_simp
            refine (law11_data ⟨false, ex, yi, yj, yA, yn, yc, ys⟩ _ ((HC.out.resync hm).old HY.out)).mono ?_
            rw [HDT.out]
            rintro e w7 ⟨A7, n7, c7, rfl, hb7, _, hl7⟩
            have HB7 := Lib.hid hb7
            have hc2 := (HC.out.resync hm).below hl7
            clear hb7 hl7
            clear HC hm
            simp only [List.nil_append, List.cons_append, List.set_cons_zero, List.set_cons_succ] at hc2
            have HC := Lib.hid hc2
            clear hc2
            have hm := HC.out.rebase
            go_simp
            refine hK.out _ _ (KnS.of (hm.takeL 2) (Rngs.nil _)) (fun hHeld => ?_)
            clear hK K
            try simp only [Act.put, sxQ]
            refine wpAnyH_ready (rs := [5, 9]) (by kernel_rfl) (by simp) ?_
            refine AllReadyH.cons3 (by simp only [sxN]; first | done | exact rfl) (fun K hK => ?_) (AllReadyH.cons2 (by simp only [sxN]; first | done | exact rfl) (fun K hK => ?_))
            · skip
              rw [if_pos (by rfl)]
              go_simp
              refine (ref11_Write A1 n1 c1 vs1 GR1 yi A7 n7 c7 dt _ ((HC.out.resync hm).val 0 rfl) HB7.out HN1.out).mono ?_
              rintro e w8 ⟨A8, n8, c8, vs8, GR8, rfl, hr8, hv8, hG8, hb8⟩
              have hc2 := (HC.out.resync hm).nextG 0 rfl hb8 hG8 hr8.sup
              have HV8 := Lib.hid hv8
              have HN8 := Lib.hid (show n8 ≤ 100000 by
                have q1 := congrArg List.length hv8
                rw [HRL.out, svs, svs, List.length_map, List.length_map, hr8.len, ((HC.out.resync hm).val 0 rfl).len] at q1
                have := HN1.out; omega)
              clear hr8 hv8 hG8 hb8
              clear HC hm
              simp only [List.nil_append, List.cons_append, List.set_cons_zero, List.set_cons_succ] at hc2
              have HC := Lib.hid hc2
              clear hc2
              have hm := HC.out.rebase
              go_simp
              refine hK.out _ _ (KnS.of (hm.takeL 2) (Rngs.nil _)) (fun hHeld => ?_)
              clear hK K
              try simp only [Act.put, sxQ]
              iterate 3 (first | (refine takeN 6 hHeld ?_) | (refine takeY 6 ?_ hHeld ?_ ?_; rotate_left 1; (first | (intro w9 h9; (with_reducible show (execOp _ (Oper.mk _ (Op.load _ _) _ _ _ _)).run _ _ = _); first | exact h9.ldA | exact h9.lcA | exact h9.laA | exact h9.lrA) | focus (intro w9 hSw; go_simp; (try (with_reducible rfl)); done))); try simp only [Act.put, sxQ])
              refine wpAnyH_ready (rs := [9]) (by kernel_rfl) (by simp) ?_
              refine AllReadyH.cons2 (by simp only [sxN]; first | done | exact rfl) (fun K hK => ?_)
              refine step_al (by rfl) _ rfl _ rfl _ (by simp only [Value.cells]; first | done | exact rfl) hm ?_; clear hm; intro n w hn hz hm ho; (try simp only [List.cons_append, List.nil_append] at hm)
              refine hK.out _ _ (KnS.of (hm.takeL 2) (Rngs.nil _)) (fun hHeld => ?_)
              clear hK K
              try simp only [Act.put, sxQ]
              refine wpAnyH_ready (rs := [10]) (by kernel_rfl) (by simp) ?_
              refine AllReadyH.cons2 (by simp only [sxN]; first | done | exact rfl) (fun K hK => ?_)
              refine stB hm ?_
              clear hm; intro w hz hm ho
              refine hK.out _ _ (KnS.of (hm.takeL 2) (Rngs.nil _)) (fun hHeld => ?_)
              clear hK K
              try simp only [Act.put, sxQ]
              iterate 1 (first | (refine takeN 11 hHeld ?_) | (refine takeY 11 ?_ hHeld ?_ ?_; rotate_left 1; (first | (intro w9 h9; (with_reducible show (execOp _ (Oper.mk _ (Op.load _ _) _ _ _ _)).run _ _ = _); first | exact h9.ldA | exact h9.lcA | exact h9.laA | exact h9.lrA) | focus (intro w9 hSw; go_simp; (try (with_reducible rfl)); done))); try simp only [Act.put, sxQ])
              refine wpAnyH_done (by kernel_rfl) ?_ _
              refine NoPanic.normal ?_
              go_wp2_with fail
              go_meet
              exact ⟨_, A8, n8, c8, vs8, GR8, rfl, rfl, HV8.out, HN8.out, HC.out.resync hm⟩
            · skip
              refine step_al (by rfl) _ rfl _ rfl _ (by simp only [Value.cells]; first | done | exact rfl) hm ?_; clear hm; intro n w hn hz hm ho; (try simp only [List.cons_append, List.nil_append] at hm)
              refine hK.out _ _ (KnS.of (hm.takeL 2) (Rngs.nil _)) (fun hHeld => ?_)
              clear hK K
              try simp only [Act.put, sxQ]
              refine wpAnyH_ready (rs := [5]) (by kernel_rfl) (by simp) ?_
              refine AllReadyH.cons2 (by simp only [sxN]; first | done | exact rfl) (fun K hK => ?_)
              rw [if_pos (by rfl)]
              go_simp
              refine (ref11_Write A1 n1 c1 vs1 GR1 yi A7 n7 c7 dt _ ((HC.out.resync hm).val 0 rfl) ((HB7.out.below ho).more ho.size) HN1.out).mono ?_
              rintro e w8 ⟨A8, n8, c8, vs8, GR8, rfl, hr8, hv8, hG8, hb8⟩
              have hc2 := (HC.out.resync hm).nextG 0 rfl hb8 hG8 hr8.sup
              have HV8 := Lib.hid hv8
              have HN8 := Lib.hid (show n8 ≤ 100000 by
                have q1 := congrArg List.length hv8
                rw [HRL.out, svs, svs, List.length_map, List.length_map, hr8.len, ((HC.out.resync hm).val 0 rfl).len] at q1
                have := HN1.out; omega)
              clear hr8 hv8 hG8 hb8
              clear HC hm
              simp only [List.nil_append, List.cons_append, List.set_cons_zero, List.set_cons_succ] at hc2
              have HC := Lib.hid hc2
              clear hc2
              have hm := HC.out.rebase
              go_simp
              refine hK.out _ _ (KnS.of (hm.takeL 2) (Rngs.nil _)) (fun hHeld => ?_)
              clear hK K
              try simp only [Act.put, sxQ]
              iterate 3 (first | (refine takeN 6 hHeld ?_) | (refine takeY 6 ?_ hHeld ?_ ?_; rotate_left 1; (first | (intro w9 h9; (with_reducible show (execOp _ (Oper.mk _ (Op.load _ _) _ _ _ _)).run _ _ = _); first | exact h9.ldA | exact h9.lcA | exact h9.laA | exact h9.lrA) | focus (intro w9 hSw; go_simp; (try (with_reducible rfl)); done))); try simp only [Act.put, sxQ])
              refine wpAnyH_ready (rs := [10]) (by kernel_rfl) (by simp) ?_
              refine AllReadyH.cons2 (by simp only [sxN]; first | done | exact rfl) (fun K hK => ?_)
              refine stB hm ?_
              clear hm; intro w hz hm ho
              refine hK.out _ _ (KnS.of (hm.takeL 2) (Rngs.nil _)) (fun hHeld => ?_)
              clear hK K
              try simp only [Act.put, sxQ]
              iterate 1 (first | (refine takeN 11 hHeld ?_) | (refine takeY 11 ?_ hHeld ?_ ?_; rotate_left 1; (first | (intro w9 h9; (with_reducible show (execOp _ (Oper.mk _ (Op.load _ _) _ _ _ _)).run _ _ = _); first | exact h9.ldA | exact h9.lcA | exact h9.laA | exact h9.lrA) | focus (intro w9 hSw; go_simp; (try (with_reducible rfl)); done))); try simp only [Act.put, sxQ])
              refine wpAnyH_done (by kernel_rfl) ?_ _
              refine NoPanic.normal ?_
              go_wp2_with fail
              go_meet
              exact ⟨_, A8, n8, c8, vs8, GR8, rfl, rfl, HV8.out, HN8.out, HC.out.resync hm⟩
          · skip
            refine step_al (by rfl) _ rfl _ rfl _ (by simp only [Value.cells]; first | done | exact rfl) hm ?_; clear hm; intro n w hn hz hm ho; (try simp only [List.cons_append, List.nil_append] at hm)
            refine hK.out _ _ (KnS.of (hm.takeL 2) (Rngs.nil _)) (fun hHeld => ?_)
            clear hK K
            try simp only [Act.put, sxQ]
            refine wpAnyH_ready (rs := [4]) (by kernel_rfl) (by simp) ?_
            refine AllReadyH.cons2 (by simp only [sxN]; first | done | exact rfl) (fun K hK => ?_)
            rw [if_pos (by rfl)]
            go_simp
            refine (law11_data ⟨false, ex, yi, yj, yA, yn, yc, ys⟩ _ ((HC.out.resync hm).old HY.out)).mono ?_
            rw [HDT.out]
            rintro e w7 ⟨A7, n7, c7, rfl, hb7, _, hl7⟩
            have HB7 := Lib.hid hb7
            have hc2 := (HC.out.resync hm).below hl7
            clear hb7 hl7
            clear HC hm
            simp only [List.nil_append, List.cons_append, List.set_cons_zero, List.set_cons_succ] at hc2
            have HC := Lib.hid hc2
            clear hc2
            have hm := HC.out.rebase
            go_simp
            refine hK.out _ _ (KnS.of (hm.takeL 2) (Rngs.nil _)) (fun hHeld => ?_)
            clear hK K
            try simp only [Act.put, sxQ]
            refine wpAnyH_ready (rs := [5]) (by kernel_rfl) (by simp) ?_
            refine AllReadyH.cons2 (by simp only [sxN]; first | done | exact rfl) (fun K hK => ?_)
            rw [if_pos (by rfl)]
            go_simp
            refine (ref11_Write A1 n1 c1 vs1 GR1 yi A7 n7 c7 dt _ ((HC.out.resync hm).val 0 rfl) HB7.out HN1.out).mono ?_
            rintro e w8 ⟨A8, n8, c8, vs8, GR8, rfl, hr8, hv8, hG8, hb8⟩
            have hc2 := (HC.out.resync hm).nextG 0 rfl hb8 hG8 hr8.sup
            have HV8 := Lib.hid hv8
            have HN8 := Lib.hid (show n8 ≤ 100000 by
              have q1 := congrArg List.length hv8
              rw [HRL.out, svs, svs, List.length_map, List.length_map, hr8.len, ((HC.out.resync hm).val 0 rfl).len] at q1
              have := HN1.out; omega)
            clear hr8 hv8 hG8 hb8
            clear HC hm
            simp only [List.nil_append, List.cons_append, List.set_cons_zero, List.set_cons_succ] at hc2
            have HC := Lib.hid hc2
            clear hc2
            have hm := HC.out.rebase
            go_simp
            refine hK.out _ _ (KnS.of (hm.takeL 2) (Rngs.nil _)) (fun hHeld => ?_)
            clear hK K
            try simp only [Act.put, sxQ]
            iterate 3 (first | (refine takeN 6 hHeld ?_) | (refine takeY 6 ?_ hHeld ?_ ?_; rotate_left 1; (first | (intro w9 h9; (with_reducible show (execOp _ (Oper.mk _ (Op.load _ _) _ _ _ _)).run _ _ = _); first | exact h9.ldA | exact h9.lcA | exact h9.laA | exact h9.lrA) | focus (intro w9 hSw; go_simp; (try (with_reducible rfl)); done))); try simp only [Act.put, sxQ])
            refine wpAnyH_ready (rs := [10]) (by kernel_rfl) (by simp) ?_
            refine AllReadyH.cons2 (by simp only [sxN]; first | done | exact rfl) (fun K hK => ?_)
            refine stB hm ?_
            clear hm; intro w hz hm ho
            refine hK.out _ _ (KnS.of (hm.takeL 2) (Rngs.nil _)) (fun hHeld => ?_)
            clear hK K
            try simp only [Act.put, sxQ]
            iterate 1 (first | (refine takeN 11 hHeld ?_) | (refine takeY 11 ?_ hHeld ?_ ?_; rotate_left 1; (first | (intro w9 h9; (with_reducible show (execOp _ (Oper.mk _ (Op.load _ _) _ _ _ _)).run _ _ = _); first | exact h9.ldA | exact h9.lcA | exact h9.laA | exact h9.lrA) | focus (intro w9 hSw; go_simp; (try (with_reducible rfl)); done))); try simp only [Act.put, sxQ])
            refine wpAnyH_done (by kernel_rfl) ?_ _
            refine NoPanic.normal ?_
            go_wp2_with fail
            go_meet
            exact ⟨_, A8, n8, c8, vs8, GR8, rfl, rfl, HV8.out, HN8.out, HC.out.resync hm⟩
        case rest =>
          obtain ⟨n14, A8, n8, c8, vs8, GR8, rfl, rfl, hv8, hn8, hsc⟩ := hcut
          clear HC hm
          have HC := Lib.hid hsc
          have HV8 := Lib.hid hv8
          have HN8 := Lib.hid hn8
          clear hsc hv8 hn8
          have hm := HC.out.rebase
          go_wp2_with (first | go_skip | ((with_reducible show wpList _ _ _ _ _ (World.alloc _ _)); refine wpList_up hm ?_; clear hm; intro n w hn hn2 hk hm hd hd2 ho; (try rw [← hn]); replace hn := Nat.le_of_eq hn.symm) | ((first | ((with_reducible show wpList _ _ _ (Oper.mk _ (Op.box _ _) _ _ _ _ :: _) _ _); (refine bxA hm ?_; clear hm; intro n w hn hz hm ho; (try simp only [List.cons_append, List.nil_append] at hm))) | ((with_reducible show wpList _ _ _ (Oper.mk _ (Op.load _ _) _ _ _ _ :: _) _ _); first | (refine ldA hm ?_) | (refine laA hm ?_)) | ((with_reducible show wpList _ _ _ (Oper.mk _ (Op.store _ _ _) _ _ _ _ :: _) _ _); (refine stA hm ?_; clear hm; intro w hz hm ho)) | ((with_reducible show wpList _ _ _ (Oper.mk _ (Op.alloc _) _ _ _ _ :: _) _ _); (refine alA hm ?_; clear hm; intro n w hn hz hm ho; (try simp only [List.cons_append, List.nil_append] at hm)))); try simp only [Act.put, sxQ]))
          go_at_call 17
          refine (live_Read ((HC.out.resync hm).obj 0 rfl) HL6.out (by omega) yj).mono ?_
          rw [← HV8.out]
          rintro e w9 ⟨A9, k9, m9, c9, rfl, hk9, ho9, hc9, hx9, hp9, hon9⟩
          have hc2 := (HC.out.resync hm).turned 0 rfl hon9 (fun q h => .inl h) hp9.sup ho9 (fun q hq e => by have := ((HC.out.resync hm).lt 0 rfl) q hq; have := (ho9.lt _ e).1; omega)
          have HL9 := Lib.hid (HL6.out.more (c := c9) (by omega))
          have HX9 := Lib.hid (hx9 HEX6.out.1)
          have HK9 := Lib.hid hk9
          clear hk9 ho9 hc9 hx9 hp9 hon9
          clear HC hm
          simp only [List.nil_append, List.cons_append, List.set_cons_zero, List.set_cons_succ] at hc2
          have HC := Lib.hid hc2
          clear hc2
          have hm := HC.out.rebase
          go_wp2_with (first | go_skip | ((with_reducible show wpList _ _ _ _ _ (World.alloc _ _)); refine wpList_up hm ?_; clear hm; intro n w hn hn2 hk hm hd hd2 ho; (try rw [← hn]); replace hn := Nat.le_of_eq hn.symm) | ((first | ((with_reducible show wpList _ _ _ (Oper.mk _ (Op.box _ _) _ _ _ _ :: _) _ _); (refine bxA hm ?_; clear hm; intro n w hn hz hm ho; (try simp only [List.cons_append, List.nil_append] at hm))) | ((with_reducible show wpList _ _ _ (Oper.mk _ (Op.load _ _) _ _ _ _ :: _) _ _); first | (refine ldA hm ?_) | (refine laA hm ?_)) | ((with_reducible show wpList _ _ _ (Oper.mk _ (Op.store _ _ _) _ _ _ _ :: _) _ _); (refine stA hm ?_; clear hm; intro w hz hm ho)) | ((with_reducible show wpList _ _ _ (Oper.mk _ (Op.alloc _) _ _ _ _ :: _) _ _); (refine alA hm ?_; clear hm; intro n w hn hz hm ho; (try simp only [List.cons_append, List.nil_append] at hm)))); try simp only [Act.put, sxQ]))
          go_at_call 18
          refine (ref11_Read A8 n8 c8 vs8 GR8 yj _ ((HC.out.resync hm).val 1 rfl)).mono ?_
          rintro e w10 ⟨A10, k10, m10, rfl, hk10, ho10, hb10⟩
          have hc2 := (HC.out.resync hm).got hb10 ho10
          have HK10 := Lib.hid hk10
          clear hk10 ho10 hb10
          clear HC hm
          simp only [List.nil_append, List.cons_append, List.set_cons_zero, List.set_cons_succ] at hc2
          have HC := Lib.hid hc2
          clear hc2
          have hm := HC.out.rebase
          have hs9 := byt_str ((HC.out.resync hm).byt 0 rfl)
          have hs10 := byt_str ((HC.out.resync hm).byt 1 rfl)
          have HZ := Lib.hid (show (p6.more c9).fixed = 0 by
            show p6.fixed + c9 = 0
            rw [HEX6.out.2, HFX.out, HX9.out])
          generalize strOf (Pg.rread (svs vs8) yj).1 = sx at *
          generalize Pg.rread (svs vs8) yj = rx at *
          generalize Pg.rwrite (svs vs1) yi dt = ry at *
          go_wp2_with (first | go_skip | ((with_reducible show wpList _ _ _ _ _ (World.alloc _ _)); refine wpList_up hm ?_; clear hm; intro n w hn hn2 hk hm hd hd2 ho; (try rw [← hn]); replace hn := Nat.le_of_eq hn.symm) | ((first | ((with_reducible show wpList _ _ _ (Oper.mk _ (Op.box _ _) _ _ _ _ :: _) _ _); (refine bxA hm ?_; clear hm; intro n w hn hz hm ho; (try simp only [List.cons_append, List.nil_append] at hm))) | ((with_reducible show wpList _ _ _ (Oper.mk _ (Op.load _ _) _ _ _ _ :: _) _ _); first | (refine ldA hm ?_) | (refine laA hm ?_)) | ((with_reducible show wpList _ _ _ (Oper.mk _ (Op.store _ _ _) _ _ _ _ :: _) _ _); (refine stA hm ?_; clear hm; intro w hz hm ho)) | ((with_reducible show wpList _ _ _ (Oper.mk _ (Op.alloc _) _ _ _ _ :: _) _ _); (refine alA hm ?_; clear hm; intro n w hn hz hm ho; (try simp only [List.cons_append, List.nil_append] at hm)))); try simp only [Act.put, sxQ]))
          go_at_call 19
          refine (page_Fixed ((HC.out.resync hm).obj 0 rfl)).mono ?_
          rw [HZ.out]
          rintro e w11 ⟨rfl, hb11⟩
          have hc2 := (HC.out.resync hm).below hb11
          clear hb11 hs9 hs10
          clear HC hm
          simp only [List.nil_append, List.cons_append, List.set_cons_zero, List.set_cons_succ] at hc2
          have HC := Lib.hid hc2
          clear hc2
          have hm := HC.out.rebase
          go_wp2_with (first | go_skip | ((with_reducible show wpList _ _ _ _ _ (World.alloc _ _)); refine wpList_up hm ?_; clear hm; intro n w hn hn2 hk hm hd hd2 ho; (try rw [← hn]); replace hn := Nat.le_of_eq hn.symm) | ((first | ((with_reducible show wpList _ _ _ (Oper.mk _ (Op.box _ _) _ _ _ _ :: _) _ _); (refine bxA hm ?_; clear hm; intro n w hn hz hm ho; (try simp only [List.cons_append, List.nil_append] at hm))) | ((with_reducible show wpList _ _ _ (Oper.mk _ (Op.load _ _) _ _ _ _ :: _) _ _); first | (refine ldA hm ?_) | (refine laA hm ?_)) | ((with_reducible show wpList _ _ _ (Oper.mk _ (Op.store _ _ _) _ _ _ _ :: _) _ _); (refine stA hm ?_; clear hm; intro w hz hm ho)) | ((with_reducible show wpList _ _ _ (Oper.mk _ (Op.alloc _) _ _ _ _ :: _) _ _); (refine alA hm ?_; clear hm; intro n w hn hz hm ho; (try simp only [List.cons_append, List.nil_append] at hm)))); try simp only [Act.put, sxQ]))
          go_at_call 20
          refine (live_Alive ((HC.out.resync hm).obj 0 rfl) HL9.out).mono ?_
          rintro e w12 ⟨rfl, hb12⟩
          have hc2 := (HC.out.resync hm).below hb12
          clear hb12
          clear HC hm
          simp only [List.nil_append, List.cons_append, List.set_cons_zero, List.set_cons_succ] at hc2
          have HC := Lib.hid hc2
          clear hc2
          have hm := HC.out.rebase
          go_wp2_with (first | go_skip | ((with_reducible show wpList _ _ _ _ _ (World.alloc _ _)); refine wpList_up hm ?_; clear hm; intro n w hn hn2 hk hm hd hd2 ho; (try rw [← hn]); replace hn := Nat.le_of_eq hn.symm) | ((first | ((with_reducible show wpList _ _ _ (Oper.mk _ (Op.box _ _) _ _ _ _ :: _) _ _); (refine bxA hm ?_; clear hm; intro n w hn hz hm ho; (try simp only [List.cons_append, List.nil_append] at hm))) | ((with_reducible show wpList _ _ _ (Oper.mk _ (Op.load _ _) _ _ _ _ :: _) _ _); first | (refine ldA hm ?_) | (refine laA hm ?_)) | ((with_reducible show wpList _ _ _ (Oper.mk _ (Op.store _ _ _) _ _ _ _ :: _) _ _); (refine stA hm ?_; clear hm; intro w hz hm ho)) | ((with_reducible show wpList _ _ _ (Oper.mk _ (Op.alloc _) _ _ _ _ :: _) _ _); (refine alA hm ?_; clear hm; intro n w hn hz hm ho; (try simp only [List.cons_append, List.nil_append] at hm)))); try simp only [Act.put, sxQ]))
          go_roundg j
          case measure => omega
          case rel => exact ⟨k + 1, by omega, by go_num, g1, G6, s6, p6.more c9, fr6, svs vs8, A8, n8, c8, vs8, GR8, rfl, HM6.out, by rw [HV8.out]; exact HL9.out.mono (by omega), HPD6.out, HEX6.out.1, HZ.out, rfl, HN8.out, (HC.out.resync hm).keep 1 0 1⟩
end Go.Proofs.Ytnlhammgcemchaa
