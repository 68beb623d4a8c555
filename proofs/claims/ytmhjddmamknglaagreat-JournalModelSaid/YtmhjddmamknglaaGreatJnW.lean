/-
  The journal: changed's iterator.
-/
import Derived.Test.YtmhjddmamknglaaGreatZ0
import Derived.Test.YtmhjddmamknglaaGreatJnV
namespace Go.Proofs.YtmhjddmamknglaaGreat
set_option maxRecDepth 100000
set_option linter.unusedSimpArgs false
set_option linter.unusedVariables false
open Go.RowKit
set_option maxHeartbeats 8000000

structure YS where
  k : Nat
  mb : Nat
  E : List PE
  oA : Option Addr
  oc : Nat
def YS.args (y : YS) : Array Value := #[.int .i64 (((y.E.map (·.i)).getD y.k 0 : Nat) : Int), match y.E[y.k]? with
  | some x => x.val
  | none => undef]
theorem fill_facts (off j a d i0 at0 yn n : Nat) (ha : a = off + j) (hd : d = a / 48) (hi0 : i0 = 32 + d) (hat : at0 = a % 48) (hj : j < yn) (hin : off + yn ≤ 48 * (n - 32)) (hn : n ≤ 2730) :
    wrap64 ((off : Int) + (j : Int)) = (a : Int) ∧ wrap64 ((a : Int) / 48) = (d : Int) ∧ wrap64 (32 + (d : Int)) = (i0 : Int) ∧ wrap64 ((a : Int) % 48) = (at0 : Int) ∧ a < 48 * (n - 32) ∧ (a : Int) % 48 = (at0 : Int) ∧ at0 < 48 := by
  refine ⟨wr_add off j a ha (by omega), wr_div a d hd (by omega), ?_, wr_mod a at0 hat, by omega, by omega, by omega⟩
  rw [IntWalk.wrap64_in _ (by omega)]; omega
theorem ord_len {P : Jn.Pr} {n : Nat} (h : ∀ z ∈ P, z.1 < 48 * (n - 32)) (hb : 32 < n) (hn : n ≤ 2730) : (Jn.ord P).length ≤ 2730 :=
  Nat.le_trans (Jn.nodup_le n _ (Jn.ord_nodup P) (fun i hi => by have := Jn.ord_lt h i hi; omega)) hn
theorem wr_succ (j : Nat) (h : j < 1000000) : wrap64 ((j : Int) + 1) = ((j + 1 : Nat) : Int) := by rw [IntWalk.wrap64_in _ (by omega)]; omega
theorem fill_j {off j yn n : Nat} (hj : j < yn) (hin : off + yn ≤ 48 * (n - 32)) (hn : n ≤ 2730) : j < 1000000 := by omega
theorem wf_nat (i : Nat) (h : i < 1000000) : (Lit.int .i64 (i : Int)).wf = true := by
  have h1 : (i : Int) ≤ 9223372036854775807 := by omega
  have h2 : (-9223372036854775808 : Int) ≤ (i : Int) := by omega
  simp only [Lit.wf, Bool.and_eq_true, decide_eq_true_eq]
  exact ⟨h2, h1⟩
theorem fill_small (off j a d i0 at0 yn n : Nat) (h : a = off + j ∧ d = a / 48 ∧ i0 = 32 + d ∧ at0 = a % 48 ∧ a < 48 * (n - 32)) (hn : n ≤ 2730) : i0 < 1000000 ∧ i0 < n := by omega
section
variable (w0 : World) (Gp : Nat → Prop) (k : MkP) (B gm BB : Nat) (q : Prop) (st : List (List UInt8)) (P : Jn.Pr)
def MkI0 (W : World) : Prop := ∃ G s p, MkW w0 Gp B gm k k.vs G s p 0 W ∧ PL q BB p st
/-- After m writes. -/
def MkIn (y : YS) (m : Nat) (W : World) : Prop := ∃ G s p, MkW w0 Gp B gm k (k.vs ++ [oslT (ordO y.oA y.oc (Jn.ord P)), mapT (Jn.appB P (Jn.flat st)) y.mb y.E]) G s p 0 W ∧ y.E.map (·.i) = Jn.ord P ∧ B + 2 ≤ W.heap.size ∧ m ≤ (Jn.ord P).length ∧
  PL q (BB + 1000 * (Jn.ord P).length + 2000 * m) p (Jn.stM st (Jn.appB P (Jn.flat st)) ((Jn.ord P).take m))
def MkE (W : World) : Prop := ∃ G s p, MkW w0 Gp B gm k k.vs G s p 0 W ∧ PL q (BB + 3000 * (Jn.ord P).length) p (Jn.stM st (Jn.appB P (Jn.flat st)) (Jn.ord P))
theorem vs_sub {Vs : List Thing} (k : MkP) : ∀ x ∈ k.vs, x ∈ k.vs ++ Vs := fun x hx => List.mem_append_left _ hx
theorem mkIn_at {y : YS} {W : World} (h : MkIn w0 Gp k B gm BB q st P y y.k W) (hk : y.k < (Jn.ord P).length) (hn : ∀ i ∈ Jn.ord P, i < 1000000) : ∃ ob x, y.oA = some ⟨ob, 0, none⟩ ∧ (∀ u : World, Only (fun _ => False) W u → Rngs [⟨ob, y.k, [.int .i64 (x : PE).i]⟩] u) ∧
    (Instr.lookup 107 (.map (some y.mb)) (.int .i64 (x.i : Int)) false).run Tryz.prog W = .ok x.val W ∧ y.args = #[.int .i64 (x.i : Int), x.val] := by
  obtain ⟨G, s, p, hW, hE, _, _, _⟩ := h
  have hlE : y.E.length = (Jn.ord P).length := by rw [← hE, List.length_map]
  have hx : y.E[y.k]? = some y.E[y.k] := List.getElem?_eq_getElem (by omega)
  have hos : (Jn.ord P)[y.k]? = some (y.E[y.k]).i := by rw [← hE, List.getElem?_map, hx]; rfl
  generalize hxx : y.E[y.k] = x at *
  have hO : Own W 0 3 1 y.oA (Jn.ord P).length y.oc (ordC (Jn.ord P)) := hW.val (x := oslT (ordO y.oA y.oc (Jn.ord P))) (by simp) (Only.refl _ W)
  obtain ⟨ob, cur, e, _, hb, hs, ht⟩ := hO.2.2.2 (by have := hO.2.1; omega)
  have hM : PMap (Jn.appB P (Jn.flat st)) y.mb y.E W := hW.val (x := mapT (Jn.appB P (Jn.flat st)) y.mb y.E) (by simp) (Only.refl _ W)
  have hmem : x ∈ y.E := List.mem_of_getElem? hx
  obtain ⟨x2, hx2, hxi, hxa⟩ := PE.find y.E (List.mem_map.2 ⟨x, hmem, rfl⟩)
  obtain rfl := ents_same hE x2 hx2 x hmem hxi
  refine ⟨ob, x2, e, fun u hu r hr => ?_, ?_, ?_⟩
  · obtain rfl := List.mem_singleton.1 hr
    intro j v hv
    cases j with
    | succ j => simp at hv
    | zero =>
      cases hv
      have hbu : Blk u ob 3 cur := Blk.only hb hu (fun e => e)
      rw [hbu.cell]
      have h1 : (cur.toList.take ((Jn.ord P).length * 1))[y.k]? = some (.int .i64 (x2.i : Int)) := by rw [ht, ordC, List.getElem?_map, hos]; rfl
      rw [List.getElem?_take, if_pos (by omega)] at h1
      simpa using h1
  · have hzero : (zeroValue 33).run Tryz.prog W = .ok (.slice none 0 0) W := by kernel_rfl
    have hlk := run_lookupI hM.map (P := Tryz.prog) (t := 107) Tryz.underlying107 Tryz.underlying3 hzero (x2.i : Int) (wf_nat _ (hn _ (List.mem_of_getElem? hos))) false
    rw [hxa] at hlk
    exact hlk
  · unfold YS.args
    rw [hx]
    have : (y.E.map (·.i)).getD y.k 0 = x2.i := by simp [List.getD, hx]
    rw [this]
theorem jn_iter (Ix : Code → World → Prop) (hP : P = Jn.pairs (JC.plains k.l)) (hok : Jn.Ok st) (hw : Jn.Within (48 * (st.length - 32)) (JC.plains k.l)) (hoff : ∀ y ∈ k.l, 0 ≤ y.off) (hBB : BB ≤ 800000000) (hkn : k.n ≤ 100000) :
    IterL Tryz.prog 70 #[.pointer (some ⟨k.b4, 0, none⟩), .pointer (some ⟨k.b3, 0, none⟩), .pointer (some ⟨k.b5, 0, none⟩)] YS.args B (MkI0 w0 Gp k B gm BB q st) (MkE w0 Gp k B gm BB q st P) (fun y W => y.k < (Jn.ord P).length ∧ MkIn w0 Gp k B gm BB q st P y y.k W) (fun y W => MkIn w0 Gp k B gm BB q st P y (y.k + 1) W) Ix := by
  intro l Y Z W1 hBl hB2 hY hr hI hY1
  obtain ⟨G, s, p, hW, hpl⟩ := hI
  have HW := Lib.hid hW
  have HC := Lib.hid hW.sc.enter
  have hm := HC.out.rebase
  have HYK := Lib.hid hY
  have HR := Lib.hid hr
  have HY1 := Lib.hid hY1
  have HPL := Lib.hid hpl
  have RK := Lib.hid (hW.rngs (fun _ h => h))
  clear hW hY hr hY1
  refine callsIn_of_wp Tryz.func70 rfl trivial ((wpIn_wide (n := 0)).2 ?_) rfl
  simp only [Tryz.ntmps70, List.size_toArray, List.length_cons, List.length_nil, Nat.reduceAdd, Nat.reduceSub, Array.replicate_succ, Array.replicate_zero, List.push_toArray, List.append_toArray, List.nil_append, List.cons_append]
  go_upto_region 1 with (first | go_skip | ((with_reducible show wpList _ _ _ _ _ (World.alloc _ _)); refine wpList_up hm ?_; clear hm; intro n w hn hn2 hk hm hd hd2 ho; (try rw [← hn]); replace hn := Nat.le_of_eq hn.symm) | ((first | ((with_reducible show wpList _ _ _ (Oper.mk _ (Op.box _ _) _ _ _ _ :: _) _ _); (refine bxA hm ?_; clear hm; intro n w hn hz hm ho; (try simp only [List.cons_append, List.nil_append] at hm))) | ((with_reducible show wpList _ _ _ (Oper.mk _ (Op.load _ _) _ _ _ _ :: _) _ _); first | (refine ldA hm ?_) | (refine laA hm ?_) | (refine lcA (RK.out _ (HC.out.resync hm).low) ?_) | (refine lrA (RK.out _ (HC.out.resync hm).low) ?_)) | ((with_reducible show wpList _ _ _ (Oper.mk _ (Op.store _ _ _) _ _ _ _ :: _) _ _); (refine stA hm ?_; clear hm; intro w hz hm ho)) | ((with_reducible show wpList _ _ _ (Oper.mk _ (Op.alloc _) _ _ _ _ :: _) _ _); (refine alA hm ?_; clear hm; intro n w hn hz hm ho; (try simp only [List.cons_append, List.nil_append] at hm)))); try simp only [Act.put, sxQ]))
  go_wp2_with (first | go_skip | ((with_reducible show wpList _ _ _ _ _ (World.alloc _ _)); refine wpList_up hm ?_; clear hm; intro n w hn hn2 hk hm hd hd2 ho; (try rw [← hn]); replace hn := Nat.le_of_eq hn.symm) | ((first | ((with_reducible show wpList _ _ _ (Oper.mk _ (Op.box _ _) _ _ _ _ :: _) _ _); (refine bxA hm ?_; clear hm; intro n w hn hz hm ho; (try simp only [List.cons_append, List.nil_append] at hm))) | ((with_reducible show wpList _ _ _ (Oper.mk _ (Op.load _ _) _ _ _ _ :: _) _ _); first | (refine ldA hm ?_) | (refine laA hm ?_) | (refine lcA (RK.out _ (HC.out.resync hm).low) ?_) | (refine lrA (RK.out _ (HC.out.resync hm).low) ?_)) | ((with_reducible show wpList _ _ _ (Oper.mk _ (Op.store _ _ _) _ _ _ _ :: _) _ _); (refine stA hm ?_; clear hm; intro w hz hm ho)) | ((with_reducible show wpList _ _ _ (Oper.mk _ (Op.alloc _) _ _ _ _ :: _) _ _); (refine alA hm ?_; clear hm; intro n w hn hz hm ho; (try simp only [List.cons_append, List.nil_append] at hm)))); try simp only [Act.put, sxQ]))
  simp only [execOp, Oper.upon, run_makeMap]
  simp only [Result.andThen]
  have hbl : Below W1.heap.size W1 (W1.alloc (.map #[] 0)) := (Below.refl _ _).alloc (Nat.le_refl _) _
  have hmp : PMap (Jn.appB [] (Jn.flat st)) W1.heap.size [] (W1.alloc (.map #[] 0)) := ⟨MapI.made W1, fun _ h => (by cases h), fun _ h => (by cases h), .nil⟩
  have hc2 := (HC.out.resync hm).born hbl hmp.sup (fun q hq => hq.elim (fun e => Nat.le_of_eq e.symm) (fun ⟨_, h, _⟩ => (by cases h)))
  generalize W1.alloc (.map #[] 0) = w2 at *
  clear HC hm
  simp only [List.nil_append, List.cons_append, List.set_cons_zero, List.set_cons_succ] at hc2
  have HC := Lib.hid hc2
  clear hc2
  have hm := HC.out.rebase
  go_wp2_with (first | go_skip | ((with_reducible show wpList _ _ _ _ _ (World.alloc _ _)); refine wpList_up hm ?_; clear hm; intro n w hn hn2 hk hm hd hd2 ho; (try rw [← hn]); replace hn := Nat.le_of_eq hn.symm) | ((first | ((with_reducible show wpList _ _ _ (Oper.mk _ (Op.box _ _) _ _ _ _ :: _) _ _); (refine bxA hm ?_; clear hm; intro n w hn hz hm ho; (try simp only [List.cons_append, List.nil_append] at hm))) | ((with_reducible show wpList _ _ _ (Oper.mk _ (Op.load _ _) _ _ _ _ :: _) _ _); first | (refine ldA hm ?_) | (refine laA hm ?_) | (refine lcA (RK.out _ (HC.out.resync hm).low) ?_) | (refine lrA (RK.out _ (HC.out.resync hm).low) ?_)) | ((with_reducible show wpList _ _ _ (Oper.mk _ (Op.store _ _ _) _ _ _ _ :: _) _ _); (refine stA hm ?_; clear hm; intro w hz hm ho)) | ((with_reducible show wpList _ _ _ (Oper.mk _ (Op.alloc _) _ _ _ _ :: _) _ _); (refine alA hm ?_; clear hm; intro n w hn hz hm ho; (try simp only [List.cons_append, List.nil_append] at hm)))); try simp only [Act.put, sxQ]))
  have hc2 := (HC.out.resync hm).resync (((HC.out.resync hm).rebase).empty 3 1 none)
  clear hm
  obtain ⟨mb, hmb⟩ : ∃ mb, mb = W1.heap.size := ⟨_, rfl⟩
  rw [← hmb] at hc2 ⊢
  clear hmb hmp hbl
  obtain ⟨l2, hl2⟩ : ∃ l2, l2 = JC.plains k.l := ⟨_, rfl⟩
  have e0 : Jn.far l2 0 0 = [] := by rw [Jn.far_zero]; rfl
  have hF0 : FillS k W1 w2 [] q BB st (Jn.far l2 0 0) (Jn.far l2 0 0) G s p 0 mb [] none 0 := by rw [e0]; exact ⟨hc2, rfl, HPL.out⟩
  have HL2 := Lib.hid hl2
  have HPP := Lib.hid hP
  have hlen : k.l.length = k.n := (HW.out.chs (fun _ h => h) _ (Only.refl _ _)).len
  have HLEN := Lib.hid hlen
  have HST := Lib.hid hok
  have HPB := Lib.hid (show st.length ≤ 2730 from hpl.pos.2)
  have HWI := Lib.hid hw
  have HOFF := Lib.hid hoff
  have HV : Hid (∀ x ∈ k.vs, ∀ q, x.G q → q < W1.heap.size) := Lib.hid fun x hx q hq => (HW.out.sc.vs x hx).1.lt q hq
  clear hc2 hlen hl2 e0 hP hok hw hoff hpl
  go_loopg [5, 19] k.n (fun gk v5 v19 wr => ∃ i cc E oA oc, i + gk = k.n ∧ v19 = .int .i64 (i : Int) ∧ v5 = .slice oA (Jn.ord (Jn.far l2 i 0)).length oc ∧ FillS k W1 wr [] q BB st (Jn.far l2 i 0) (Jn.far l2 i 0) G s p cc mb E oA oc)
  case atStart => exact ⟨0, 0, [], none, 0, Nat.zero_add _, rfl, rfl, hF0⟩
  case round =>
    clear hF0 HPL HC
    obtain ⟨i, cc, E, oA, oc, hig, rfl, rfl, hF⟩ := hrel
    have HF := Lib.hid hF
    have HC := Lib.hid hF.scn
    have hm := HC.out.rebase
    clear hF
    cases gk with
    | zero =>
      obtain rfl : i = k.n := by omega
      have hfar : Jn.far l2 k.n 0 = P := by
        have e : l2.length = k.n := by rw [HL2.out, JC.plains, List.length_map]; exact HLEN.out
        rw [← e, Jn.far_all, HPP.out, HL2.out]
      rw [hfar] at HF HC
      rw [hfar]
      have ik : decide ((k.n : Int) < (k.n : Int)) = false := decide_eq_false (by omega)
      have hWr := HW.out.next hB2 HF.out.scn HW.out.gm
      have hKr := HW.out.keeps hB2 HF.out.scn
      have hI0 : MkIn w0 Gp k B gm BB q st P ⟨0, mb, E, oA, oc⟩ 0 wr := ⟨G, s, p.more cc, (by rw [List.append_assoc] at hWr; exact hWr), HF.out.ord, Nat.le_trans hB2 hKr.size, Nat.zero_le _, HF.out.live⟩
      have hYr := HYK.out _ _ HY1.out hKr
      have HPN := Lib.hid (ord_len (P := P) (by rw [← hfar]; exact Jn.far_lt (by rw [HL2.out]; exact HWI.out) k.n 0) HST.out.big HPB.out)
      have HOI : Hid (∀ i ∈ Jn.ord P, i < 1000000) := Lib.hid fun i hi => by
        have h1 := Jn.ord_lt (P := P) (n := st.length - 32) (by rw [← hfar]; exact Jn.far_lt (by rw [HL2.out]; exact HWI.out) k.n 0) i hi
        have := HPB.out; omega
      clear hfar hWr hKr
      go_wp2_with (first | go_skip | ((with_reducible show wpList _ _ _ _ _ (World.alloc _ _)); refine wpList_up hm ?_; clear hm; intro n w hn hn2 hk hm hd hd2 ho; (try rw [← hn]); replace hn := Nat.le_of_eq hn.symm) | ((first | ((with_reducible show wpList _ _ _ (Oper.mk _ (Op.box _ _) _ _ _ _ :: _) _ _); (refine bxA hm ?_; clear hm; intro n w hn hz hm ho; (try simp only [List.cons_append, List.nil_append] at hm))) | ((with_reducible show wpList _ _ _ (Oper.mk _ (Op.load _ _) _ _ _ _ :: _) _ _); first | (refine ldA hm ?_) | (refine laA hm ?_)) | ((with_reducible show wpList _ _ _ (Oper.mk _ (Op.store _ _ _) _ _ _ _ :: _) _ _); (refine stA hm ?_; clear hm; intro w hz hm ho)) | ((with_reducible show wpList _ _ _ (Oper.mk _ (Op.alloc _) _ _ _ _ :: _) _ _); (refine alA hm ?_; clear hm; intro n w hn hz hm ho; (try simp only [List.cons_append, List.nil_append] at hm)))); try simp only [Act.put, sxQ]))
      clear hm HC HF HW RK HY1 HL2 HV HLEN HPP
      obtain ⟨nP, hnP⟩ : ∃ nP, nP = (Jn.ord P).length := ⟨_, rfl⟩
      rw [← hnP] at HPN ⊢
      have HNP := Lib.hid hnP
      clear hnP
      go_loopg [79] nP (fun gk v79 wr => ∃ kk, kk + gk = nP ∧ v79 = .int .i64 (kk : Int) ∧ MkIn w0 Gp k B gm BB q st P ⟨kk, mb, E, oA, oc⟩ kk wr ∧ Y wr)
      case atStart => exact ⟨0, Nat.zero_add _, rfl, hI0, hYr⟩
      case round =>
        clear hI0 hYr
        obtain ⟨kk, hkg, rfl, hIn, hYr⟩ := hrel
        cases gk with
        | zero =>
          obtain rfl : kk = nP := by omega
          have ik2 : decide ((kk : Int) < (kk : Int)) = false := decide_eq_false (by omega)
          go_wp2_with fail
          go_end0
          obtain ⟨G5, s5, p5, h1, h2, h3, h4, h5⟩ := hIn
          rw [HNP.out, List.take_length] at h5
          exact ⟨⟨_, rfl⟩, .inl ⟨⟨G5, s5, p5, h1.few (vs_sub k), h5.mono (by omega)⟩, hYr⟩⟩
        | succ gj =>
          have hkk : kk < nP := by omega
          have ik2 : decide ((kk : Int) < (nP : Int)) = true := decide_eq_true (by omega)
          obtain ⟨ob, x, hA, hRo, hlk, hargs⟩ := mkIn_at w0 Gp k B gm BB q st P hIn (by rw [← HNP.out]; exact hkk) HOI.out
          have hy := HR.out ⟨kk, mb, E, oA, oc⟩ wr ⟨by rw [← HNP.out]; exact hkk, hIn⟩ hYr
          rw [hargs] at hy
          have RKO := Lib.hid hRo
          have HYD := Lib.hid hy
          clear hRo hy hargs hIn hYr
          obtain rfl : oA = some ⟨ob, 0, none⟩ := hA
          have HC := Lib.hid (Mth.enter wr (fun _ => False) [] [] (fun x h => (by cases h)) .nil (fun x h => (by cases h)) (fun x h => (by cases h)))
          have hm := HC.out.rebase
          obtain ⟨xi, xb, xc⟩ := x
          dsimp only [PE.val] at hlk HYD RKO
          go_upto_region 21 with (first | go_skip | ((with_reducible show wpList _ _ _ _ _ (World.alloc _ _)); refine wpList_up hm ?_; clear hm; intro n w hn hn2 hk hm hd hd2 ho; (try rw [← hn]); replace hn := Nat.le_of_eq hn.symm) | ((first | ((with_reducible show wpList _ _ _ (Oper.mk _ (Op.box _ _) _ _ _ _ :: _) _ _); (refine bxA hm ?_; clear hm; intro n w hn hz hm ho; (try simp only [List.cons_append, List.nil_append] at hm))) | ((with_reducible show wpList _ _ _ (Oper.mk _ (Op.load _ _) _ _ _ _ :: _) _ _); first | (refine ldA hm ?_) | (refine laA hm ?_) | (refine lcA (RKO.out _ (HC.out.resync hm).low) ?_) | (refine lrA (RKO.out _ (HC.out.resync hm).low) ?_)) | ((with_reducible show wpList _ _ _ (Oper.mk _ (Op.store _ _ _) _ _ _ _ :: _) _ _); (refine stA hm ?_; clear hm; intro w hz hm ho)) | ((with_reducible show wpList _ _ _ (Oper.mk _ (Op.alloc _) _ _ _ _ :: _) _ _); (refine alA hm ?_; clear hm; intro n w hn hz hm ho; (try simp only [List.cons_append, List.nil_append] at hm)))); try simp only [Act.put, sxQ]))
          refine (wpIn_wide (n := 0)).1 (wpIn_region_lit ?_)
          refine list_in_split 5 (by kernel_rfl) ?_
          simp only [List.take_succ_cons, List.take_zero, List.drop_succ_cons, List.drop_zero]
          go_wp2_with (first | go_skip | ((with_reducible show wpList _ _ _ _ _ (World.alloc _ _)); refine wpList_up hm ?_; clear hm; intro n w hn hn2 hk hm hd hd2 ho; (try rw [← hn]); replace hn := Nat.le_of_eq hn.symm) | ((first | ((with_reducible show wpList _ _ _ (Oper.mk _ (Op.box _ _) _ _ _ _ :: _) _ _); (refine bxA hm ?_; clear hm; intro n w hn hz hm ho; (try simp only [List.cons_append, List.nil_append] at hm))) | ((with_reducible show wpList _ _ _ (Oper.mk _ (Op.load _ _) _ _ _ _ :: _) _ _); first | (refine ldA hm ?_) | (refine laA hm ?_)) | ((with_reducible show wpList _ _ _ (Oper.mk _ (Op.store _ _ _) _ _ _ _ :: _) _ _); (refine stA hm ?_; clear hm; intro w hz hm ho)) | ((with_reducible show wpList _ _ _ (Oper.mk _ (Op.alloc _) _ _ _ _ :: _) _ _); (refine alA hm ?_; clear hm; intro n w hn hz hm ho; (try simp only [List.cons_append, List.nil_append] at hm)))); try simp only [Act.put, sxQ]))
          obtain ⟨fn, tm, asg, bdy, hy, hRd⟩ := HYD.out
          have HRD := Lib.hid hRd
          clear hRd
          unfold Upto
          gi_wp2
          refine ⟨rfl, HRD.out.mono ?_⟩
          clear hy HRD hm HC hlk RKO
          rintro e W4 (⟨rfl, hI4, hY4⟩ | ⟨rfl, c4, hX4, hZ4⟩)
          · gi_wp2
            go_wp2_with fail
            go_roundg gj
            case measure => omega
            case rel => exact ⟨kk + 1, by omega, by rw [wr_succ kk (by have := HPN.out; omega)], hI4, hY4⟩
          · gi_wp2
            go_wp2_with fail
            refine bodyPost_ret (results_none rfl _ _ _) rfl ?_
            exact ⟨⟨_, rfl⟩, .inr ⟨c4, hX4, hZ4⟩⟩
    | succ gi =>
      have hi : i < k.n := by omega
      have ik : decide ((i : Int) < (k.n : Int)) = true := decide_eq_true (by omega)
      obtain ⟨cb, co, y, hA, hyi, hyn, hRc, hyb⟩ := HW.out.chg (fun _ h => h) hi
      have hmem := List.mem_of_getElem? hyi
      have hof := HOFF.out y hmem
      have hw1 := HWI.out y.plain (List.mem_map.2 ⟨y, hmem, rfl⟩)
      have hl2i : l2[i]? = some y.plain := by rw [HL2.out, JC.plains, List.getElem?_map, hyi]; rfl
      obtain ⟨z0, yA, yn, yc, ybs⟩ := y
      dsimp only [JC.plain] at hyn hRc hyb hof hw1 hl2i
      obtain ⟨off, rfl⟩ : ∃ off : Nat, z0 = (off : Int) := ⟨z0.toNat, by omega⟩
      rw [Int.toNat_natCast] at hw1 hl2i
      have RKC := Lib.hid hRc
      have HYB := Lib.hid hyb
      have HLI := Lib.hid hl2i
      have HYN := Lib.hid hyn
      have HIN := Lib.hid (show off + yn ≤ 48 * (st.length - 32) by rw [hyn]; exact hw1)
      rw [hA]
      clear hRc hyb hyi hyn hmem hof hw1 hl2i
      go_wp2_with (first | go_skip | ((with_reducible show wpList _ _ _ _ _ (World.alloc _ _)); refine wpList_up hm ?_; clear hm; intro n w hn hn2 hk hm hd hd2 ho; (try rw [← hn]); replace hn := Nat.le_of_eq hn.symm) | ((first | ((with_reducible show wpList _ _ _ (Oper.mk _ (Op.box _ _) _ _ _ _ :: _) _ _); (refine bxA hm ?_; clear hm; intro n w hn hz hm ho; (try simp only [List.cons_append, List.nil_append] at hm))) | ((with_reducible show wpList _ _ _ (Oper.mk _ (Op.load _ _) _ _ _ _ :: _) _ _); first | (refine ldA hm ?_) | (refine laA hm ?_) | (refine lcA (RKC.out _ (HC.out.resync hm).low) ?_) | (refine lrA (RKC.out _ (HC.out.resync hm).low) ?_)) | ((with_reducible show wpList _ _ _ (Oper.mk _ (Op.store _ _ _) _ _ _ _ :: _) _ _); (refine stA hm ?_; clear hm; intro w hz hm ho)) | ((with_reducible show wpList _ _ _ (Oper.mk _ (Op.alloc _) _ _ _ _ :: _) _ _); (refine alA hm ?_; clear hm; intro n w hn hz hm ho; (try simp only [List.cons_append, List.nil_append] at hm)))); try simp only [Act.put, sxQ]))
      have hc2 := HC.out.resync hm
      clear HC hm
      simp only [List.nil_append, List.cons_append, List.set_cons_zero, List.set_cons_succ] at hc2
      have HC := Lib.hid hc2
      clear hc2
      have hm := HC.out.rebase
      obtain ⟨n8, h9⟩ := hm.nm 0 rfl
      dsimp only at h9
      subst h9
      have HFi : FillS k W1 w [⟨n8, 58, #[.int .i64 (off : Int), .slice yA yn yc]⟩] q BB st (Jn.far l2 i 0) (Jn.far l2 i 0) G s p cc mb E oA oc := ⟨HC.out, HF.out.ord, HF.out.live⟩
      go_loopg [5, 26] yn (fun gk v5 v26 wr => ∃ j cc E oA oc, j + gk = yn ∧ v26 = .int .i64 (j : Int) ∧ v5 = .slice oA (Jn.ord (Jn.far l2 i j)).length oc ∧ FillS k W1 wr [⟨n8, 58, #[.int .i64 (off : Int), .slice yA yn yc]⟩] q BB st (Jn.far l2 i j) (Jn.far l2 i j) G s p cc mb E oA oc)
      case atStart => exact ⟨0, cc, E, oA, oc, Nat.zero_add _, rfl, rfl, HFi⟩
      case round =>
        clear HFi HC HF hm
        obtain ⟨j, cc, E, oA, oc, hjg, rfl, rfl, hF⟩ := hrel
        have HF := Lib.hid hF
        have HC := Lib.hid hF.scn
        have hm := HC.out.rebase
        clear hF
        cases gk with
        | zero =>
          obtain rfl : j = yn := by omega
          have ij : decide ((j : Int) < (j : Int)) = false := decide_eq_false (by omega)
          go_wp2_with (first | go_skip | ((with_reducible show wpList _ _ _ _ _ (World.alloc _ _)); refine wpList_up hm ?_; clear hm; intro n w hn hn2 hk hm hd hd2 ho; (try rw [← hn]); replace hn := Nat.le_of_eq hn.symm) | ((first | ((with_reducible show wpList _ _ _ (Oper.mk _ (Op.box _ _) _ _ _ _ :: _) _ _); (refine bxA hm ?_; clear hm; intro n w hn hz hm ho; (try simp only [List.cons_append, List.nil_append] at hm))) | ((with_reducible show wpList _ _ _ (Oper.mk _ (Op.load _ _) _ _ _ _ :: _) _ _); first | (refine ldA hm ?_) | (refine laA hm ?_)) | ((with_reducible show wpList _ _ _ (Oper.mk _ (Op.store _ _ _) _ _ _ _ :: _) _ _); (refine stA hm ?_; clear hm; intro w hz hm ho)) | ((with_reducible show wpList _ _ _ (Oper.mk _ (Op.alloc _) _ _ _ _ :: _) _ _); (refine alA hm ?_; clear hm; intro n w hn hz hm ho; (try simp only [List.cons_append, List.nil_append] at hm)))); try simp only [Act.put, sxQ]))
          have hc2 := HC.out.resync hm
          have hnx : Jn.far l2 i j = Jn.far l2 (i + 1) 0 := by have := Jn.far_next HLI.out; rw [← HYN.out] at this; exact this
          rw [hnx] at HF ⊢
          rw [← hA]
          go_roundg gi
          case measure => omega
          case rel => exact ⟨i + 1, cc, E, oA, oc, by omega, by go_num, rfl, HF.out.keepL 0⟩
        | succ gj =>
          have hj : j < yn := by omega
          have ij : decide ((j : Int) < (yn : Int)) = true := decide_eq_true (by omega)
          obtain ⟨yb, yo, hYA, hjc, hRb⟩ := HYB.out j hj
          subst hYA
          obtain ⟨v, hv⟩ : ∃ v, v = ybs.getD j 0 := ⟨_, rfl⟩
          rw [← hv] at hRb
          have RKB := Lib.hid hRb
          have RKE : Hid (∀ u : World, Only (allG (k.fs G s p 0)) W1 u → Rngs [⟨k.b5, 0, [.pointer (some ⟨k.ce, 0, none⟩)]⟩, ⟨k.b3, 0, [.pointer (some ⟨k.gj, 0, none⟩)]⟩, ⟨k.gj, 0, [.pointer (some ⟨k.g, 0, none⟩)]⟩] u) := Lib.hid fun u hu r hr => RK.out u hu r (by simp only [List.mem_cons, List.not_mem_nil, or_false] at hr ⊢; rcases hr with h | h | h <;> simp only [h, true_or, or_true])
          clear hRb
          obtain ⟨a, ha⟩ : ∃ a, a = off + j := ⟨_, rfl⟩
          obtain ⟨d, hd⟩ : ∃ d, d = a / 48 := ⟨_, rfl⟩
          obtain ⟨i0, hi0⟩ : ∃ i0, i0 = 32 + d := ⟨_, rfl⟩
          obtain ⟨at0, hat⟩ : ∃ at0, at0 = a % 48 := ⟨_, rfl⟩
          obtain ⟨u1, u2, u3, u4, ha48, hI2, hsl⟩ := fill_facts off j a d i0 at0 yn st.length ha hd hi0 hat hj HIN.out HPB.out
          have HA := Lib.hid (And.intro ha (And.intro hd (And.intro hi0 (And.intro hat ha48))))
          have hstep : Jn.far l2 i (j + 1) = Jn.far l2 i j ++ [(a, v)] := by have := Jn.far_byte HLI.out (k := j) (by rw [← HYN.out]; exact hj); rw [ha, hv]; exact this
          have HSTEP := Lib.hid hstep
          have HPL2 := Lib.hid (show ∀ z ∈ Jn.far l2 i j ++ [(a, v)], z.1 < 48 * (st.length - 32) by rw [← hstep]; exact Jn.far_lt (by rw [HL2.out]; exact HWI.out) i (j + 1))
          clear ha hd hi0 hat hstep ha48 hv
          go_upto_region 9 with (first | go_skip | ((with_reducible show wpList _ _ _ _ _ (World.alloc _ _)); refine wpList_up hm ?_; clear hm; intro n w hn hn2 hk hm hd hd2 ho; (try rw [← hn]); replace hn := Nat.le_of_eq hn.symm) | ((first | ((with_reducible show wpList _ _ _ (Oper.mk _ (Op.box _ _) _ _ _ _ :: _) _ _); (refine bxA hm ?_; clear hm; intro n w hn hz hm ho; (try simp only [List.cons_append, List.nil_append] at hm))) | ((with_reducible show wpList _ _ _ (Oper.mk _ (Op.load _ _) _ _ _ _ :: _) _ _); first | (refine ldA hm ?_) | (refine laA hm ?_) | (refine lcA (RKB.out _ (HC.out.resync hm).low) ?_) | (refine lrA (RKB.out _ (HC.out.resync hm).low) ?_)) | ((with_reducible show wpList _ _ _ (Oper.mk _ (Op.store _ _ _) _ _ _ _ :: _) _ _); (refine stA hm ?_; clear hm; intro w hz hm ho)) | ((with_reducible show wpList _ _ _ (Oper.mk _ (Op.alloc _) _ _ _ _ :: _) _ _); (refine alA hm ?_; clear hm; intro n w hn hz hm ho; (try simp only [List.cons_append, List.nil_append] at hm)))); try simp only [Act.put, sxQ]))
          have hwf := wf_nat i0 (fill_small off j a d i0 at0 yn st.length HA.out HPB.out).1
          have hPM : PMap (Jn.appB (Jn.far l2 i j) (Jn.flat st)) mb E wr := HF.out.scn.obj 2 rfl
          have hzero : (zeroValue 33).run Tryz.prog wr = .ok (.slice none 0 0) wr := by kernel_rfl
          have hlk := run_lookupI hPM.map (P := Tryz.prog) (t := 107) Tryz.underlying107 Tryz.underlying3 hzero (i0 : Int) hwf true
          clear hzero hPM hwf
          by_cases hin : i0 ∈ Jn.ord (Jn.far l2 i j)
          · obtain ⟨x, hx, hxi, hxa⟩ := PE.find E (by rw [HF.out.ord]; exact hin)
            rw [hxa] at hlk
            simp only [if_true] at hlk
            obtain ⟨xi, xb, xc⟩ := x
            dsimp only at hxi
            subst hxi
            dsimp only [PE.val] at hlk
            have ho : Jn.ord (Jn.far l2 i j ++ [(a, v)]) = Jn.ord (Jn.far l2 i j) := Jn.ord_old (by rw [← HA.out.2.1, ← HA.out.2.2.1]; exact hin)
            have hF := HF.out
            have HF2 := Lib.hid (show FillS k W1 wr [⟨n8, 58, #[.int .i64 (off : Int), .slice (some ⟨yb, yo, none⟩) yn yc]⟩] q BB st (Jn.far l2 i j) (Jn.far l2 i j ++ [(a, v)]) G s p cc mb E oA oc from ⟨by rw [ho]; exact hF.scn, by rw [ho]; exact hF.ord, by rw [ho]; exact hF.live⟩)
            have HX := Lib.hid hx
            have HO := Lib.hid ho
            clear hin hxa hx ho hF
            go_upto_region 15 with (first | go_skip | ((with_reducible show wpList _ _ _ _ _ (World.alloc _ _)); refine wpList_up hm ?_; clear hm; intro n w hn hn2 hk hm hd hd2 ho; (try rw [← hn]); replace hn := Nat.le_of_eq hn.symm) | ((first | ((with_reducible show wpList _ _ _ (Oper.mk _ (Op.box _ _) _ _ _ _ :: _) _ _); (refine bxA hm ?_; clear hm; intro n w hn hz hm ho; (try simp only [List.cons_append, List.nil_append] at hm))) | ((with_reducible show wpList _ _ _ (Oper.mk _ (Op.load _ _) _ _ _ _ :: _) _ _); first | (refine ldA hm ?_) | (refine laA hm ?_)) | ((with_reducible show wpList _ _ _ (Oper.mk _ (Op.store _ _ _) _ _ _ _ :: _) _ _); (refine stA hm ?_; clear hm; intro w hz hm ho)) | ((with_reducible show wpList _ _ _ (Oper.mk _ (Op.alloc _) _ _ _ _ :: _) _ _); (refine alA hm ?_; clear hm; intro n w hn hz hm ho; (try simp only [List.cons_append, List.nil_append] at hm)))); try simp only [Act.put, sxQ]))
            clear hlk
            obtain ⟨cur, hcb, hcs, hput⟩ := HF2.out.put HX.out HST.out HPL2.out (by show xi = _; rw [HA.out.2.2.1, HA.out.2.1])
            have hm1 : Mem (fun q => q = xb) wr wr [⟨xb, 5, cur⟩] [] := Mem.one hcb rfl
            have HPUT := Lib.hid hput
            have hat2 : at0 + 1 ≤ cur.size := Nat.le_trans hsl hcs
            clear hput hcb hcs
            go_wp2_with (first | ((with_reducible show wpList _ _ _ (Oper.mk _ (Op.store _ (Operand.tmp 74) _) _ _ _ _ :: _) _ _); refine stA hm1 ?_ (hin := hat2) (hcs := rfl); intro w5 hz5 hm5 ho5; (try simp only [Act.put, sxQ])) | go_skip | ((with_reducible show wpList _ _ _ _ _ (World.alloc _ _)); refine wpList_up hm ?_; clear hm; intro n w hn hn2 hk hm hd hd2 ho; (try rw [← hn]); replace hn := Nat.le_of_eq hn.symm) | ((first | ((with_reducible show wpList _ _ _ (Oper.mk _ (Op.box _ _) _ _ _ _ :: _) _ _); (refine bxA hm ?_; clear hm; intro n w hn hz hm ho; (try simp only [List.cons_append, List.nil_append] at hm))) | ((with_reducible show wpList _ _ _ (Oper.mk _ (Op.load _ _) _ _ _ _ :: _) _ _); first | (refine ldA hm ?_) | (refine laA hm ?_)) | ((with_reducible show wpList _ _ _ (Oper.mk _ (Op.store _ _ _) _ _ _ _ :: _) _ _); (refine stA hm ?_; clear hm; intro w hz hm ho)) | ((with_reducible show wpList _ _ _ (Oper.mk _ (Op.alloc _) _ _ _ _ :: _) _ _); (refine alA hm ?_; clear hm; intro n w hn hz hm ho; (try simp only [List.cons_append, List.nil_append] at hm)))); try simp only [Act.put, sxQ]))
            have hF5 := HPUT.out w5 ho5 (by rw [← HA.out.2.2.2.1]; exact hm5.at_ 0 rfl)
            rw [← HSTEP.out] at hF5
            rw [← HO.out, ← HSTEP.out]
            go_roundg gj
            case measure => omega
            case rel => exact ⟨j + 1, cc, E, oA, oc, by omega, by rw [wr_succ j (fill_j hj HIN.out HPB.out)], rfl, hF5⟩
          · have hxa := PE.miss E (i := i0) (by rw [HF.out.ord]; exact hin)
            rw [hxa] at hlk
            simp only [if_true] at hlk
            have HN := Lib.hid hin
            have HXA := Lib.hid hxa
            clear hin hxa
            go_upto_region 11 with (first | go_skip | ((with_reducible show wpList _ _ _ _ _ (World.alloc _ _)); refine wpList_up hm ?_; clear hm; intro n w hn hn2 hk hm hd hd2 ho; (try rw [← hn]); replace hn := Nat.le_of_eq hn.symm) | ((first | ((with_reducible show wpList _ _ _ (Oper.mk _ (Op.box _ _) _ _ _ _ :: _) _ _); (refine bxA hm ?_; clear hm; intro n w hn hz hm ho; (try simp only [List.cons_append, List.nil_append] at hm))) | ((with_reducible show wpList _ _ _ (Oper.mk _ (Op.load _ _) _ _ _ _ :: _) _ _); first | (refine ldA hm ?_) | (refine laA hm ?_)) | ((with_reducible show wpList _ _ _ (Oper.mk _ (Op.store _ _ _) _ _ _ _ :: _) _ _); (refine stA hm ?_; clear hm; intro w hz hm ho)) | ((with_reducible show wpList _ _ _ (Oper.mk _ (Op.alloc _) _ _ _ _ :: _) _ _); (refine alA hm ?_; clear hm; intro n w hn hz hm ho; (try simp only [List.cons_append, List.nil_append] at hm)))); try simp only [Act.put, sxQ]))
            clear hlk
            have HOL := Lib.hid (ord_len (P := Jn.far l2 i j) (fun z hz => HPL2.out z (List.mem_append_left _ hz)) HST.out.big HPB.out)
            refine wp_region_noPanic ?_
            refine wp_region_phase (S := KnS _ _) [12] (by kernel_rfl) (KnS.of hm.drew (RKE.out _ (HC.out.resync hm.drew).low)) (fun hHeld => ?_)
            refine wpAnyP_fresh (by repeat (first | apply Fresh.a | apply Fresh.b)) ?_
            replace hm := hm.drew
            iterate 6 (first | (refine takePN 0 hHeld ?_) | (refine takePY 0 ?_ hHeld ?_ ?_; rotate_left 1; (first | (intro w9 h9; (with_reducible show (execOp _ (Oper.mk _ (Op.load _ _) _ _ _ _)).run _ _ = _); first | exact h9.ldA | exact h9.lcA | exact h9.laA | exact h9.lrA) | focus (intro w9 hSw; go_simp; (try (with_reducible rfl)); done))); try simp only [Act.put, sxQ])
            refine wpAnyP_one 6 (by kernel_rfl) (by simp only [sxN]; first | done | exact rfl) (fun K hK => ?_)
            rw [if_pos (by rfl)]
            go_simp
            refine (jp_Read ((HC.out.resync hm).obj 0 rfl) HF.out.live (by have := HOL.out; omega) i0 (fill_small off j a d i0 at0 yn st.length HA.out HPB.out).2).mono ?_
            rintro e w6 ⟨A6, m6, c6, rfl, ho6, hc6, hL6, hp6, hon6⟩
            rw [more_more] at hL6 hp6
            have hc2 := (HC.out.resync hm).turned 0 rfl hon6 (fun q h => .inl h) hp6.sup ho6 (fun q hq e => by have := ((HC.out.resync hm).lt 0 rfl) q hq; have := (ho6.lt _ e).1; omega)
            have HL6 := Lib.hid hL6
            have hA6 : ∃ q6, A6 = some ⟨q6, 0, none⟩ := by
              obtain ⟨q6, _, e6, _⟩ := ho6.2.2.2 (by have := ho6.2.1; omega)
              exact ⟨q6, e6⟩
            obtain ⟨q6, rfl⟩ := hA6
            clear hL6 hon6 hp6 ho6
            clear HC hm
            simp only [List.nil_append, List.cons_append, List.set_cons_zero, List.set_cons_succ] at hc2
            have HC := Lib.hid hc2
            clear hc2
            have hm := HC.out.rebase
            go_simp
            refine hK.out _ _ (KnS.of hm (RKE.out _ (HC.out.resync hm).low)) (fun hHeld => ?_)
            clear hK K
            try simp only [Act.put, sxQ]
            iterate 5 (refine wpAnyP_takeP (b := 7) (by repeat (first | apply Seek.a | apply Seek.b | apply Seek.c)) (by simp only [sxN]; first | done | exact rfl) ⟨?_, by kernel_rfl, by kernel_rfl, by kernel_rfl, by kernel_rfl, fun _ _ _ h => h, Or.inl ⟨by rfl, ?_⟩, (by first | exact Early.of hHeld | exact Early.off (by kernel_rfl)), ?_⟩; rotate_left 1; focus (intro w9 hSw; go_simp; (try (with_reducible rfl)); done); try simp only [Act.put, sxQ])
            try simp only [Act.put, sxQ]
            refine wpAnyP_last 12 (by kernel_rfl) (by simp only [sxN]; first | done | exact rfl) (by kernel_rfl) (fun K hK => ?_)
            have hm1 : Mem (fun q => q = k.ce) w6 w6 [⟨k.ce, 38, #[.int .i64 0]⟩] [] := Mem.one (HC.out.obj 1 rfl) rfl
            refine stB hm1 ?_
            intro w7 hz7 hm7 ho7
            have hb7 : Blk w7 k.ce 38 #[.int .i64 0] := hm7.at_ 0 rfl
            have hc2 := (HC.out.resync hm).turn 1 rfl ho7 (fun q h => .inl h) (p' := fun u => Blk u k.ce 38 #[.int .i64 0]) ⟨hb7, fun q e => by have e : q = k.ce := e; rw [e]; exact hb7.lt, fun _ _ ho hd => hb7.only ho (hd k.ce rfl)⟩
            clear hm1 hm7 ho7
            clear HC hm
            simp only [List.nil_append, List.cons_append, List.set_cons_zero, List.set_cons_succ] at hc2
            have HC := Lib.hid hc2
            clear hc2
            have hm := HC.out.rebase
            have CE : Hid (∀ u, Below w7.heap.size w7 u → u.cell? ⟨k.ce, 0, none⟩ = some (.int .i64 0)) := Lib.hid fun u hu => (hb7.only (R := fun _ => False) (Only.of_below hu) (fun e => e)).cell 0
            clear hb7
            refine hK.out _ _ ?_
            clear hK K
            try simp only [Act.put, sxQ]
            refine wpAnyP_done (by kernel_rfl) ?_ _
            refine NoPanic.normal ?_
            go_upto_region 14 with (first | (refine wpList_lc (by rfl) _ _ rfl _ rfl (by decide +kernel) _ (CE.out _ (Below.refl _ _)) ?_) | ((with_reducible show wpList _ _ _ (Oper.mk _ (Op.call { callee := Callee.builtin Builtin.append, args := _, argTypes := _ }) _ _ _ _ :: _) _ _); refine wpList_apI rfl (.tmp 60) (.tmp 62) rfl oA oc _ rfl (HC.out.resync hm) 0 rfl (fun x hx q hq => HV.out x hx q hq) _ _ _ i0 rfl (Blk.row hk) (by have := HOL.out; omega) ?_; clear hm hk hd hd2; intro A5 c5 w8 hc2; clear HC; (try simp only [Act.put, sxQ]); simp only [List.nil_append, List.cons_append, List.set_cons_zero] at hc2; have HC := Lib.hid hc2; clear hc2; have hm := HC.out.rebase) | go_skip | ((with_reducible show wpList _ _ _ _ _ (World.alloc _ _)); refine wpList_up hm ?_; clear hm; intro n w hn hn2 hk hm hd hd2 ho; (try rw [← hn]); replace hn := Nat.le_of_eq hn.symm) | ((first | ((with_reducible show wpList _ _ _ (Oper.mk _ (Op.box _ _) _ _ _ _ :: _) _ _); (refine bxA hm ?_; clear hm; intro n w hn hz hm ho; (try simp only [List.cons_append, List.nil_append] at hm))) | ((with_reducible show wpList _ _ _ (Oper.mk _ (Op.load _ _) _ _ _ _ :: _) _ _); first | (refine ldA hm ?_) | (refine laA hm ?_) | (refine lcA (RKE.out _ (HC.out.resync hm).low) ?_) | (refine lrA (RKE.out _ (HC.out.resync hm).low) ?_)) | ((with_reducible show wpList _ _ _ (Oper.mk _ (Op.store _ _ _) _ _ _ _ :: _) _ _); (refine stA hm ?_; clear hm; intro w hz hm ho)) | ((with_reducible show wpList _ _ _ (Oper.mk _ (Op.alloc _) _ _ _ _ :: _) _ _); (refine alA hm ?_; clear hm; intro n w hn hz hm ho; (try simp only [List.cons_append, List.nil_append] at hm)))); try simp only [Act.put, sxQ]))
            have hwf2 := wf_nat i0 (fill_small off j a d i0 at0 yn st.length HA.out HPB.out).1
            have hPM8 : PMap (Jn.appB (Jn.far l2 i j) (Jn.flat st)) mb E w8 := HC.out.obj 2 rfl
            obtain ⟨w9, hrun, hmp9, hg9⟩ := run_updateI hPM8.map (P := Tryz.prog) (t := 107) Tryz.underlying107 Tryz.underlying3 (i0 : Int) hwf2 HXA.out (.slice (some ⟨q6, 0, none⟩) 48 m6)
            have hF9 := FillS.add (v := v) (a := a) (p := p) (cc := cc + c6) (G := G) (s := s) (by exact HC.out) HF.out.ord (by rw [Nat.mul_add, Nat.mul_one, ← Nat.add_assoc]; exact HL6.out) HST.out HA.out.2.2.2.2 (by rw [HA.out.2.2.1, HA.out.2.1]) HN.out HV.out hmp9 hg9
            have HF2 := Lib.hid (hF9.keepL 1)
            clear hF9 hPM8 hwf2 hmp9 hg9
            go_upto_region 15 with (first | go_skip | ((with_reducible show wpList _ _ _ _ _ (World.alloc _ _)); refine wpList_up hm ?_; clear hm; intro n w hn hn2 hk hm hd hd2 ho; (try rw [← hn]); replace hn := Nat.le_of_eq hn.symm) | ((first | ((with_reducible show wpList _ _ _ (Oper.mk _ (Op.box _ _) _ _ _ _ :: _) _ _); (refine bxA hm ?_; clear hm; intro n w hn hz hm ho; (try simp only [List.cons_append, List.nil_append] at hm))) | ((with_reducible show wpList _ _ _ (Oper.mk _ (Op.load _ _) _ _ _ _ :: _) _ _); first | (refine ldA hm ?_) | (refine laA hm ?_)) | ((with_reducible show wpList _ _ _ (Oper.mk _ (Op.store _ _ _) _ _ _ _ :: _) _ _); (refine stA hm ?_; clear hm; intro w hz hm ho)) | ((with_reducible show wpList _ _ _ (Oper.mk _ (Op.alloc _) _ _ _ _ :: _) _ _); (refine alA hm ?_; clear hm; intro n w hn hz hm ho; (try simp only [List.cons_append, List.nil_append] at hm)))); try simp only [Act.put, sxQ]))
            clear hrun hm HC
            have HC := Lib.hid HF2.out.scn
            have hm := HC.out.rebase
            simp only [List.take_succ_cons, List.take_zero] at hm
            obtain ⟨cur, hcb, hcs, hput⟩ := HF2.out.put (x := ⟨i0, q6, m6⟩) (by simp) HST.out HPL2.out (by show i0 = _; rw [HA.out.2.2.1, HA.out.2.1])
            have hm1 : Mem (fun q => q = q6) w9 w9 [⟨q6, 5, cur⟩] [] := Mem.one hcb rfl
            have HPUT := Lib.hid hput
            have hat2 : at0 + 1 ≤ cur.size := Nat.le_trans hsl hcs
            clear hput hcb hcs
            go_wp2_with (first | ((with_reducible show wpList _ _ _ (Oper.mk _ (Op.store _ (Operand.tmp 74) _) _ _ _ _ :: _) _ _); refine stA hm1 ?_ (hin := hat2) (hcs := rfl); intro w5 hz5 hm5 ho5; (try simp only [Act.put, sxQ])) | go_skip | ((with_reducible show wpList _ _ _ _ _ (World.alloc _ _)); refine wpList_up hm ?_; clear hm; intro n w hn hn2 hk hm hd hd2 ho; (try rw [← hn]); replace hn := Nat.le_of_eq hn.symm) | ((first | ((with_reducible show wpList _ _ _ (Oper.mk _ (Op.box _ _) _ _ _ _ :: _) _ _); (refine bxA hm ?_; clear hm; intro n w hn hz hm ho; (try simp only [List.cons_append, List.nil_append] at hm))) | ((with_reducible show wpList _ _ _ (Oper.mk _ (Op.load _ _) _ _ _ _ :: _) _ _); first | (refine ldA hm ?_) | (refine laA hm ?_)) | ((with_reducible show wpList _ _ _ (Oper.mk _ (Op.store _ _ _) _ _ _ _ :: _) _ _); (refine stA hm ?_; clear hm; intro w hz hm ho)) | ((with_reducible show wpList _ _ _ (Oper.mk _ (Op.alloc _) _ _ _ _ :: _) _ _); (refine alA hm ?_; clear hm; intro n w hn hz hm ho; (try simp only [List.cons_append, List.nil_append] at hm)))); try simp only [Act.put, sxQ]))
            have hF5 := HPUT.out w5 ho5 (by rw [← HA.out.2.2.2.1]; exact hm5.at_ 0 rfl)
            have hon : Jn.ord (Jn.far l2 i j ++ [(a, v)]) = Jn.ord (Jn.far l2 i j) ++ [i0] := by have := HN.out; rw [HA.out.2.2.1, HA.out.2.1] at this ⊢; exact Jn.ord_new this
            have hlen : (Jn.ord (Jn.far l2 i j)).length + 1 = (Jn.ord (Jn.far l2 i j ++ [(a, v)])).length := by rw [hon]; simp
            rw [hlen]
            rw [← HSTEP.out] at hF5 ⊢
            simp only [List.take_succ_cons, List.take_zero] at hF5
            go_roundg gj
            case measure => omega
            case rel => exact ⟨j + 1, cc + c6, E ++ [⟨i0, q6, m6⟩], A5, c5, by omega, by rw [wr_succ j (fill_j hj HIN.out HPB.out)], rfl, hF5⟩
end
end Go.Proofs.YtmhjddmamknglaaGreat
