/-
  The journal: repeat.
-/
import Derived.Test.YtmhjddmamknglaaGreatZ0
import Derived.Test.YtmhjddmamknglaaGreatJnX
import Derived.Test.YtmhjddmamknglaaGreatJnK
namespace Go.Proofs.YtmhjddmamknglaaGreat
set_option maxRecDepth 100000
set_option linter.unusedSimpArgs false
set_option linter.unusedVariables false
open Go.RowKit
set_option maxHeartbeats 8000000

namespace Jn
theorem span_log {st : St} {l : List C} (ho : Ok st) (h : Logged st l) : span st 1 0 (enc l).length = enc l := by
  have hb := ho.big
  have hle := h.le
  have hF := flatten_length _ (ho.drop 1)
  rw [List.length_drop] at hF
  apply ext_getD
  · unfold span; rw [List.length_take, List.length_drop, hF]; omega
  · intro a ha
    have ha2 : a < (enc l).length := by unfold span at ha; rw [List.length_take] at ha; omega
    rw [← h.log a ha2]
    unfold span logOf
    simp only [List.getD]
    rw [List.getElem?_take, if_pos ha2, List.drop_zero]
theorem enc_mem {l : List C} {x : C} (h : x ∈ l) : 8 + x.data.length ≤ (enc l).length := by
  induction l with
  | nil => cases h
  | cons y l ih =>
    rw [enc_cons, List.length_append, encC_length]
    rcases List.mem_cons.1 h with rfl | h
    · omega
    · have := ih h; omega
theorem enc_len8 (l : List C) : 8 * l.length ≤ (enc l).length := by
  induction l with
  | nil => exact Nat.le_refl _
  | cons y l ih => rw [enc_cons, List.length_append, encC_length, List.length_cons]; omega
end Jn
theorem cellsL_at {l : List JC} {k j : Nat} {x : JC} {v : Value} (hx : l[k]? = some x) (hv : (JC.cells x)[j]? = some v) : (JC.cellsL l)[k * 2 + j]? = some v := by
  induction l generalizing k with
  | nil => simp at hx
  | cons y l ih =>
    have hj : j < 2 := by have := (List.getElem?_eq_some_iff.1 hv).1; simpa [JC.cells] using this
    have e : JC.cellsL (y :: l) = JC.cells y ++ JC.cellsL l := by simp [JC.cellsL]
    rw [e]
    cases k with
    | zero =>
      simp at hx; subst hx
      rw [List.getElem?_append_left (by simp [JC.cells]; omega), Nat.zero_mul, Nat.zero_add]; exact hv
    | succ k =>
      rw [List.getElem?_append_right (by simp [JC.cells]; omega)]
      have := ih (k := k) (by simpa using hx)
      rw [← this]; congr 1; simp [JC.cells]; omega
theorem DecR.chs {w w' : World} {A : Option Addr} {L : List Jn.C} {A2 : Option Addr} {k2 c2 : Nat} {l : List JC} (h : DecR w w' A L A2 k2 c2 l) : Chs w' w'.heap.size A2 k2 c2 l := by
  refine ⟨h.len, h.own.2.1, fun hn => ?_, fun y hy => (h.ok y hy).1⟩
  obtain ⟨g, cur, e, _, hb, hs, ht⟩ := h.own.2.2.2 (by have := h.own.2.1; have := h.len; omega)
  refine ⟨g, 0, e, (Array.getElem?_eq_some_iff.1 hb).1, fun k x hx j v hv => ?_⟩
  have h1 := cellsL_at hx hv
  have hk := (List.getElem?_eq_some_iff.1 hx).1
  have hj : j < 2 := by have := (List.getElem?_eq_some_iff.1 hv).1; simpa [JC.cells] using this
  rw [← ht, List.getElem?_take, if_pos (by have := h.len; omega)] at h1
  rw [Nat.zero_add, Blk.cell (show Blk w' g 58 cur from hb)]
  simpa using h1
theorem MakR.mono {q : Prop} {B B' : Nat} {st : List (List UInt8)} {S : List UInt8} {p' : Pg.P} {er : Int} (h : MakR q B st S p' er) (hB : B ≤ B') : MakR q B' st S p' er :=
  h.imp (fun ⟨h1, st', h2, h3⟩ => ⟨h1, st', h2.mono hB, h3⟩) (fun ⟨h1, st', h2, h3⟩ => ⟨h1, st', h2.mono hB, h3⟩)
section
variable {w0 : World} {g gj B : Nat} {G : Nat → Prop} {s : PgS} {p : Pg.P} {st : List (List UInt8)} {q : Prop}
theorem jn_repeat (hj : JAt w0 gj g) (hd : ¬ G gj) (H : PAt w0 g G s p) (L : PL q B p st) (hB : B ≤ 700000000) (hok : Jn.Ok st) (l : List Jn.C) (hlog : Jn.Logged st l) (m0 : Nat) (hm0 : m0 = (Jn.enc l).length) :
    Calls Tryz.prog 46 #[.pointer (some ⟨gj, 0, none⟩), .int .i64 (m0 : Int)] w0 (JpR w0 g B G s q (MakR q (B + 11000000) st (Jn.appB (Jn.pairs l) (Jn.flat st)))) := by
  have HC := Lib.hid (Mth.jn hj hd H)
  have RKJ := Lib.hid (JAt.rng hj hd)
  have hm := HC.out.rebase
  have HL := Lib.hid L
  have HLG := Lib.hid hlog
  have HOK := Lib.hid hok
  have HD := Lib.hid hd
  have HM0 := Lib.hid hm0
  have hle : m0 ≤ 1024 := by rw [hm0]; exact hlog.le
  have HSP := Lib.hid (show Jn.span st 1 0 m0 = Jn.enc l by rw [hm0]; exact Jn.span_log hok hlog)
  have HBG := Lib.hid hok.big
  have HPS := Lib.hid L.pos.2
  have hmf : ∀ (fn : Fn) (a b : Array Value) (u : World), (Instr.makeFunc fn a b).run Tryz.prog u = .ok (.func fn a b) u := make_func
  have i1 : decide (1488 < (m0 : Int)) = false := decide_eq_false (by omega)
  clear hj hd H L hlog hok hm0
  go_enter Tryz.func46, Tryz.ntmps46
  go_wp2_with (first | go_skip | ((with_reducible show wpList _ _ _ _ _ (World.alloc _ _)); refine wpList_up hm ?_; clear hm; intro n w hn hn2 hk hm hd hd2 ho; (try rw [← hn]); replace hn := Nat.le_of_eq hn.symm) | ((first | ((with_reducible show wpList _ _ _ (Oper.mk _ (Op.box _ _) _ _ _ _ :: _) _ _); (refine bxA hm ?_; clear hm; intro n w hn hz hm ho; (try simp only [List.cons_append, List.nil_append] at hm))) | ((with_reducible show wpList _ _ _ (Oper.mk _ (Op.load _ _) _ _ _ _ :: _) _ _); first | (refine ldA hm ?_) | (refine laA hm ?_)) | ((with_reducible show wpList _ _ _ (Oper.mk _ (Op.store _ _ _) _ _ _ _ :: _) _ _); (refine stA hm ?_; clear hm; intro w hz hm ho)) | ((with_reducible show wpList _ _ _ (Oper.mk _ (Op.alloc _) _ _ _ _ :: _) _ _); (refine alA hm ?_; clear hm; intro n w hn hz hm ho; (try simp only [List.cons_append, List.nil_append] at hm)))); try simp only [Act.put, sxQ]))
  obtain ⟨nb, h9⟩ := hm.nm 0 rfl
  dsimp only at h9
  subst h9
  go_at_call 48
  refine (jn_pages ((HC.out.resync hm).val 0 rfl) HD.out ((HC.out.resync hm).obj 0 rfl) HL.out 1 0 m0 (by omega) (by have := HBG.out; omega)).mono ?_
  rintro e w2 ⟨A1, m1, c1, rfl, ho1, hp1, hL1, hon1⟩
  rw [HSP.out] at ho1
  have hsz1 := hon1.size
  have hc2 := (HC.out.resync hm).turned 0 rfl hon1 (fun q h => .inl h) hp1.sup ho1 (fun q hq e => by have := ((HC.out.resync hm).lt 0 rfl) q hq; have := (ho1.lt _ e).1; omega)
  have HL1 := Lib.hid hL1
  have HG1 := Lib.hid (show ∀ q, G q → q < w.heap.size from fun q hq => ((HC.out.resync hm).lt 0 rfl) q hq)
  have HO1 := Lib.hid (show ∀ q, ownAt A1 m1 = some q → w.heap.size ≤ q from fun q e => (ho1.lt q e).1)
  have HN1 := Lib.hid (show 0 < m1 from Nat.lt_of_lt_of_le (by rw [HM0.out]; exact HLG.out.pos) ho1.2.1)
  clear ho1 hp1 hL1 hon1
  clear HC hm
  simp only [List.nil_append, List.cons_append, List.set_cons_zero, List.set_cons_succ] at hc2
  have HC := Lib.hid hc2
  clear hc2
  have hm := HC.out.rebase
  go_wp2_with (first | go_skip | ((with_reducible show wpList _ _ _ _ _ (World.alloc _ _)); refine wpList_up hm ?_; clear hm; intro n w hn hn2 hk hm hd hd2 ho; (try rw [← hn]); replace hn := Nat.le_of_eq hn.symm) | ((first | ((with_reducible show wpList _ _ _ (Oper.mk _ (Op.box _ _) _ _ _ _ :: _) _ _); (refine bxA hm ?_; clear hm; intro n w hn hz hm ho; (try simp only [List.cons_append, List.nil_append] at hm))) | ((with_reducible show wpList _ _ _ (Oper.mk _ (Op.load _ _) _ _ _ _ :: _) _ _); first | (refine ldA hm ?_) | (refine laA hm ?_)) | ((with_reducible show wpList _ _ _ (Oper.mk _ (Op.store _ _ _) _ _ _ _ :: _) _ _); (refine stA hm ?_; clear hm; intro w hz hm ho)) | ((with_reducible show wpList _ _ _ (Oper.mk _ (Op.alloc _) _ _ _ _ :: _) _ _); (refine alA hm ?_; clear hm; intro n w hn hz hm ho; (try simp only [List.cons_append, List.nil_append] at hm)))); try simp only [Act.put, sxQ]))
  go_at_call 65
  refine (jn_decode (L := l) (HC.out.byt 0 rfl) (fun x hx => by
    have h1 := HLG.out.inn x hx
    have h2 := Jn.enc_mem hx
    have h3 := HPS.out
    have h4 := HLG.out.le
    omega) (by omega)).mono ?_
  rintro e w3 ⟨A2, k2, c2, l2, rfl, hdec, hb3⟩
  have hsc3 := HC.out.below hb3
  have HDEC := Lib.hid hdec
  have HCH := Lib.hid hdec.chs
  have hk2 : k2 ≤ 1024 := by
    have h1 := Jn.enc_len8 l
    have h2 := HLG.out.le
    have h3 : l2.length = l.length := by rw [← hdec.plain, JC.plains, List.length_map]
    have h4 := hdec.len
    omega
  have hsz3 := hb3.size
  have HG3 : Hid (∀ q, chsG A2 k2 l2 q → ¬ G q) := Lib.hid fun q hq hg => by
    have h1 := HG1.out q hg
    rcases hq with ⟨hn, a, e, rfl⟩ | ⟨y, hy, hn, a, e, rfl⟩
    · have := (hdec.own.lt a.block (ownAt_some (by have := hdec.own.2.1; omega) e)).1
      omega
    · obtain ⟨a0, e0, hb0⟩ := (hdec.ok y hy).2 a e hn
      have := HO1.out a.block (by rw [← hb0]; exact ownAt_some HN1.out e0)
      omega
  clear hdec hb3 hm
  have hc2 := hsc3
  clear HC hsc3
  have HC := Lib.hid hc2
  clear hc2
  have hm := HC.out.rebase
  go_wp2_with (first | go_skip | ((with_reducible show wpList _ _ _ _ _ (World.alloc _ _)); refine wpList_up hm ?_; clear hm; intro n w hn hn2 hk hm hd hd2 ho; (try rw [← hn]); replace hn := Nat.le_of_eq hn.symm) | ((first | ((with_reducible show wpList _ _ _ (Oper.mk _ (Op.box _ _) _ _ _ _ :: _) _ _); (refine bxA hm ?_; clear hm; intro n w hn hz hm ho; (try simp only [List.cons_append, List.nil_append] at hm))) | ((with_reducible show wpList _ _ _ (Oper.mk _ (Op.load _ _) _ _ _ _ :: _) _ _); first | (refine ldA hm ?_) | (refine laA hm ?_)) | ((with_reducible show wpList _ _ _ (Oper.mk _ (Op.store _ _ _) _ _ _ _ :: _) _ _); (refine stA hm ?_; clear hm; intro w hz hm ho)) | ((with_reducible show wpList _ _ _ (Oper.mk _ (Op.alloc _) _ _ _ _ :: _) _ _); (refine alA hm ?_; clear hm; intro n w hn hz hm ho; (try simp only [List.cons_append, List.nil_append] at hm)))); try simp only [Act.put, sxQ]))
  go_at_call 28
  refine (slices_ContainsFuncR (.pointer (some ⟨nb, 0, none⟩)) (fun y => !y.inB (48 * (st.length - 32))) HCH.out (by omega) (fun y hy u hu => jn_repeat1 nb ((HC.out.below hu).ent 0 rfl) ((HC.out.below hu).val 0 rfl) ((HC.out.below hu).obj 0 rfl) HL1.out y (by have := HDEC.out.off y hy; omega) (by have := HDEC.out.off y hy; omega))).mono ?_
  rintro e w4 ⟨rfl, hb4⟩
  have hany : (l2.any fun y => !y.inB (48 * (st.length - 32))) = false := by
    rw [List.any_eq_false]
    intro y hy
    have h1 := HLG.out.inn y.plain (by rw [← HDEC.out.plain]; exact List.mem_map.2 ⟨y, hy, rfl⟩)
    have h2 := (HCH.out.ok y hy).1
    have h3 := (HDEC.out.off y hy).1
    have h4 : y.plain.off = y.off.toNat := rfl
    have h5 : y.plain.data = y.bs := rfl
    rw [h4, h5, h2] at h1
    have h6 : y.inB (48 * (st.length - 32)) = true := by unfold JC.inB; exact decide_eq_true ⟨h3, by omega⟩
    rw [h6]; decide
  rw [hany]
  have hsc4 := HC.out.below hb4
  have HCH4 := Lib.hid ((HCH.out.below hb4).more hb4.size)
  clear hany HCH hb4 hm
  have hc2 := hsc4
  clear HC hsc4
  have HC := Lib.hid hc2
  clear hc2
  have hm := HC.out.rebase
  go_wp2_with (first | go_skip | ((with_reducible show wpList _ _ _ _ _ (World.alloc _ _)); refine wpList_up hm ?_; clear hm; intro n w hn hn2 hk hm hd hd2 ho; (try rw [← hn]); replace hn := Nat.le_of_eq hn.symm) | ((first | ((with_reducible show wpList _ _ _ (Oper.mk _ (Op.box _ _) _ _ _ _ :: _) _ _); (refine bxA hm ?_; clear hm; intro n w hn hz hm ho; (try simp only [List.cons_append, List.nil_append] at hm))) | ((with_reducible show wpList _ _ _ (Oper.mk _ (Op.load _ _) _ _ _ _ :: _) _ _); first | (refine ldA hm ?_) | (refine laA hm ?_)) | ((with_reducible show wpList _ _ _ (Oper.mk _ (Op.store _ _ _) _ _ _ _ :: _) _ _); (refine stA hm ?_; clear hm; intro w hz hm ho)) | ((with_reducible show wpList _ _ _ (Oper.mk _ (Op.alloc _) _ _ _ _ :: _) _ _); (refine alA hm ?_; clear hm; intro n w hn hz hm ho; (try simp only [List.cons_append, List.nil_append] at hm)))); try simp only [Act.put, sxQ]))
  go_at_call 35
  refine (jn_make ((HC.out.resync hm).val 0 rfl) HD.out ((HC.out.resync hm).obj 0 rfl) HL1.out (by omega) A2 k2 c2 l2 HCH4.out HG3.out (by omega) HOK.out (by rw [HDEC.out.plain]; exact HLG.out) (fun y hy => (HDEC.out.off y hy).1)).mono ?_
  rw [HDEC.out.plain]
  rintro e w5 ⟨p', G', s', er, rfl, hp5, hR5, hG5, ho5, hgm5⟩
  have hlow := (HC.out.resync hm).low
  clear hm HC
  go_wp2_with fail
  go_ret
  exact ⟨p', G', s', er, rfl, hp5, hR5.mono (by omega), fun q hq => (hG5 q hq).imp id (fun h => Nat.le_trans hlow.size h), hlow.more ho5 (fun q _ hq => .inl hq), hgm5⟩
end
end Go.Proofs.YtmhjddmamknglaaGreat
