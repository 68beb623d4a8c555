/-
  The journal: make.
-/
import Derived.Test.YtmhjddmamknglaaGreatZ0
import Derived.Test.YtmhjddmamknglaaGreatJnW
namespace Go.Proofs.YtmhjddmamknglaaGreat
set_option maxRecDepth 100000
set_option linter.unusedSimpArgs false
set_option linter.unusedVariables false
open Go.RowKit
set_option maxHeartbeats 8000000

/-- The changes are made, or the power was cut. -/
def MakR (q : Prop) (B : Nat) (st : List (List UInt8)) (S : List UInt8) (p' : Pg.P) (er : Int) : Prop :=
  (er = 0 ∧ ∃ st', PL q B p' st' ∧ Jn.Clean st' S ∧ st'.length = st.length) ∨ (er = 7 ∧ ∃ st', PD q B p' st' ∧ Jn.Means st' S ∧ st'.length = st.length)
section
variable (w0 : World) (Gp : Nat → Prop) (k : MkP) (B gm BB : Nat) (q : Prop) (st : List (List UInt8)) (P : Jn.Pr)
/-- Where make leaves within its loop. -/
def MkX (c : Code) (W : World) : Prop := c = .ret ∧ ∃ G s p m, MkW w0 Gp B gm k k.vs G s p 7 W ∧ PD q (BB + 3000 * (Jn.ord P).length) p (Jn.stM st (Jn.appB P (Jn.flat st)) ((Jn.ord P).take m))
theorem mkI0_own : OwnL B (fun _ : Unit => MkI0 w0 Gp k B gm BB q st) := fun _ W W' row ⟨G, s, p, h, hL⟩ hg hr => ⟨G, s, p, h.own hg hr, hL⟩
theorem mkE_own : OwnL B (fun _ : Unit => MkE w0 Gp k B gm BB q st P) := fun _ W W' row ⟨G, s, p, h, hL⟩ hg hr => ⟨G, s, p, h.own hg hr, hL⟩
theorem mkIn_own : OwnL B (fun y W => MkIn w0 Gp k B gm BB q st P y (y.k + 1) W) := fun y W W' row ⟨G, s, p, h, h1, h2, h3, hL⟩ hg hr => ⟨G, s, p, h.own hg hr, h1, Nat.le_trans h2 hg.size, h3, hL⟩
theorem mkX_own : OwnL B (MkX w0 Gp k B gm BB q st P) := fun c W W' row ⟨hc, G, s, p, m, h, hL⟩ hg hr => ⟨hc, G, s, p, m, h.own hg hr, hL⟩
variable {w0 k B gm BB q st P} {Gp : Nat → Prop}
theorem mkIn_page {y : YS} {W : World} (hE : y.E.map (·.i) = Jn.ord P) (hk : y.k < (Jn.ord P).length) : ∃ x, x ∈ y.E ∧ (Jn.ord P)[y.k]? = some (x : PE).i ∧ y.args = #[.int .i64 (x.i : Int), x.val] := by
  have hlE : y.E.length = (Jn.ord P).length := by rw [← hE, List.length_map]
  have hx : y.E[y.k]? = some y.E[y.k] := List.getElem?_eq_getElem (by omega)
  have hos : (Jn.ord P)[y.k]? = some (y.E[y.k]).i := by rw [← hE, List.getElem?_map, hx]; rfl
  refine ⟨y.E[y.k], List.mem_of_getElem? hx, hos, ?_⟩
  unfold YS.args
  rw [hx]
  have : (y.E.map (·.i)).getD y.k 0 = (y.E[y.k]).i := by simp [List.getD, hx]
  rw [this]
theorem MkW.behind {Vs : List Thing} {G : Nat → Prop} {s : PgS} {p : Pg.P} {er : Int} {W w' : World} (h : MkW w0 Gp B gm k Vs G s p er W) (hb : BehindL B W w') : MkW w0 Gp B gm k Vs G s p er w' := by
  obtain ⟨r, x, o', rfl, h1, h2⟩ := hb
  exact h.own (grownBy_putObj' _ _ _) (fun q e => by cases e; exact ⟨h1, x, h2⟩)
end
section
variable {w0 : World} {G : Nat → Prop} {s : PgS} {p : Pg.P}
theorem MkW.start {w8 : World} {k : MkP} {B8 : Nat} (hb : Below w0.heap.size w0 w8) (hj : JAt w0 k.gj k.g) (hd : ¬ G k.gj) (H : PAt w0 k.g G s p) (hc : Chs w0 w0.heap.size k.A k.n k.c k.l) (hcd : ∀ q, chsG k.A k.n k.l q → ¬ G q)
    (hce : Blk w8 k.ce 38 #[.int .i64 0]) (h0 : w0.heap.size ≤ k.ce) (hbj : Blk w8 k.bj 28 #[.pointer (some ⟨k.gj, 0, none⟩)]) (h1 : w0.heap.size ≤ k.bj) (h2 : k.ce ≠ k.bj) (hB : ChB w8 B8 k.gj k.A k.n k.c k.ce k.b3 k.b4 k.b5) (h3 : k.ce < B8) : MkW w0 G w8.heap.size s.gm k k.vs G s p 0 w8 := by
  have hl : ∀ q, G q → q < w0.heap.size := H.lt
  have hgj : k.gj < w0.heap.size := hj.lt
  have hsz := hb.size
  have hlo := hB.lo
  have one : ∀ {b : Nat} {t : TypeId} {v : Array Value}, Blk w8 b t v → Sup w8 (fun q => q = b) (fun u => Blk u b t v) := fun {b t v} hb => ⟨hb, fun q e => e ▸ hb.lt, fun _ _ ho hd => hb.only ho (hd b rfl)⟩
  have hchs : Sup w8 (chsG k.A k.n k.l) (fun u => Chs u u.heap.size k.A k.n k.c k.l) := ((Chs.sup hc).below hb)
  have hchl : ∀ q, chsG k.A k.n k.l q → q < w0.heap.size := (Chs.sup hc).lt
  have hV : ∀ x ∈ k.vs, Sup w8 x.G x.p ∧ ∀ q, x.G q → ¬ G q ∧ q ≠ k.ce := fun x hx => by
    simp only [MkP.vs, List.mem_cons, List.not_mem_nil, or_false] at hx
    rcases hx with rfl | rfl | rfl | rfl | rfl | rfl
    · exact ⟨hj.sup.below hb, fun q e => by have e : q = k.gj := e; subst e; exact ⟨hd, by omega⟩⟩
    · exact ⟨hchs, fun q hq => ⟨hcd q hq, by have := hchl q hq; omega⟩⟩
    · exact ⟨one hB.jj, fun q e => by have e : q = k.b3 := e; exact ⟨fun hg => by have := hl q hg; omega, by omega⟩⟩
    · exact ⟨one hB.ll, fun q e => by have e : q = k.b4 := e; exact ⟨fun hg => by have := hl q hg; omega, by omega⟩⟩
    · exact ⟨one hB.ee, fun q e => by have e : q = k.b5 := e; exact ⟨fun hg => by have := hl q hg; omega, by omega⟩⟩
    · exact ⟨one hbj, fun q e => by have e : q = k.bj := e; exact ⟨fun hg => by have := hl q hg; omega, by omega⟩⟩
  have hF : ∀ x ∈ k.fs G s p 0, Sup w8 x.G x.p := fun x hx => by
    simp only [MkP.fs, List.mem_cons, List.not_mem_nil, or_false] at hx
    rcases hx with rfl | rfl
    · exact H.sup.below hb
    · exact one hce
  refine { sc := ⟨hF, ?_, fun x hx => ⟨(hV x hx).1, fun y hy q hq hq2 => ?_⟩⟩, low := Only.of_below hb, new := fun q hq => .inl hq, ce := h0, gm := rfl, base := hsz, apart := fun x hx q hq => .inl ?_ }
  · simp only [MkP.fs, List.pairwise_cons, List.mem_cons, List.not_mem_nil, or_false, List.Pairwise.nil, and_true, false_imp_iff, implies_true, forall_eq]
    exact fun q hq e => by have := hl q hq; have e : q = k.ce := e; omega
  · simp only [MkP.fs, List.mem_cons, List.not_mem_nil, or_false] at hy
    rcases hy with rfl | rfl
    · exact ((hV x hx).2 q hq2).1 hq
    · exact ((hV x hx).2 q hq2).2 hq
  · rcases List.mem_append.1 hx with hx | hx
    · exact (hF x hx).lt q hq
    · exact (hV x hx).1.lt q hq
variable {g gj B : Nat} {st : List (List UInt8)} {q : Prop}
theorem jn_make (hj : JAt w0 gj g) (hd : ¬ G gj) (H : PAt w0 g G s p) (L : PL q B p st) (hB : B ≤ 800000000) (A : Option Addr) (m c : Nat) (l : List JC) (hc : Chs w0 w0.heap.size A m c l) (hcd : ∀ q, chsG A m l q → ¬ G q) (hm : m ≤ 100000)
    (hok : Jn.Ok st) (hlog : Jn.Logged st (JC.plains l)) (hoff : ∀ y ∈ l, 0 ≤ y.off) :
    Calls Tryz.prog 35 #[.pointer (some ⟨gj, 0, none⟩), .slice A m c] w0 (JpR w0 g B G s q (MakR q (B + 9000000) st (Jn.appB (Jn.pairs (JC.plains l)) (Jn.flat st)))) := by
  have HJ := Lib.hid hj
  have HD := Lib.hid hd
  have HH := Lib.hid H
  have HL := Lib.hid L
  have HCH := Lib.hid hc
  have HCD := Lib.hid hcd
  have HOK := Lib.hid hok
  have HLG := Lib.hid hlog
  have HOF := Lib.hid hoff
  have HM := Lib.hid hm
  obtain ⟨P, hP⟩ : ∃ P, P = Jn.pairs (JC.plains l) := ⟨_, rfl⟩
  rw [← hP]
  have HP := Lib.hid hP
  have HPO := Lib.hid (ord_len (P := P) (n := st.length) (by rw [hP]; exact hlog.inn.pairs) hok.big L.pos.2)
  clear hj hd H L hc hcd hok hlog hoff hm hP
  have hmf : ∀ (fn : Fn) (a b : Array Value) (u : World), (Instr.makeFunc fn a b).run Tryz.prog u = .ok (.func fn a b) u := make_func
  have hm := Mem.nil (fun _ => False) w0
  refine calls_marks Tryz.func35 rfl ?_
  simp only [Tryz.ntmps35, List.size_toArray, List.length_cons, List.length_nil, Nat.reduceAdd, Nat.reduceSub, Array.replicate_succ, Array.replicate_zero, List.push_toArray, List.append_toArray, List.nil_append, List.cons_append]
  go_wp2_with (first | go_skip | ((with_reducible show wpList _ _ _ _ _ (World.alloc _ _)); refine wpList_up hm ?_; clear hm; intro n w hn hn2 hk hm hd hd2 ho; (try rw [← hn]); replace hn := Nat.le_of_eq hn.symm) | ((first | ((with_reducible show wpList _ _ _ (Oper.mk _ (Op.box _ _) _ _ _ _ :: _) _ _); (refine bxA hm ?_; clear hm; intro n w hn hz hm ho; (try simp only [List.cons_append, List.nil_append] at hm))) | ((with_reducible show wpList _ _ _ (Oper.mk _ (Op.load _ _) _ _ _ _ :: _) _ _); first | (refine ldA hm ?_) | (refine laA hm ?_)) | ((with_reducible show wpList _ _ _ (Oper.mk _ (Op.store _ _ _) _ _ _ _ :: _) _ _); (refine stA hm ?_; clear hm; intro w hz hm ho)) | ((with_reducible show wpList _ _ _ (Oper.mk _ (Op.alloc _) _ _ _ _ :: _) _ _); (refine alA hm ?_; clear hm; intro n w hn hz hm ho; (try simp only [List.cons_append, List.nil_append] at hm)))); try simp only [Act.put, sxQ]))
  obtain ⟨bj, h9⟩ := hm.nm 0 rfl
  dsimp only at h9
  subst h9
  obtain ⟨ce, h9⟩ := hm.nm 1 rfl
  dsimp only at h9
  subst h9
  go_at_call 56
  refine (jn_changed _ gj ce A m c).mono ?_
  rintro e w8 ⟨b3, b4, b5, rfl, hCB, hb8⟩
  have hm8 := hm.below hb8
  have hW8 : MkW w0 G w8.heap.size s.gm ⟨g, gj, ce, bj, b3, b4, b5, A, m, c, l⟩ (MkP.vs ⟨g, gj, ce, bj, b3, b4, b5, A, m, c, l⟩) G s p 0 w8 :=
    MkW.start hm8.low HJ.out HD.out HH.out HCH.out HCD.out (hm8.at_ 1 rfl) ((hm8.own _ (List.mem_of_getElem? (i := 1) rfl)).resolve_left id) (hm8.at_ 0 rfl) ((hm8.own _ (List.mem_of_getElem? (i := 0) rfl)).resolve_left id) (hm8.apart 1 0 (by decide) rfl rfl) hCB (hm.lt (List.mem_of_getElem? (i := 1) rfl))
  have HCE := Lib.hid (show ce < w8.heap.size from hm8.lt (List.mem_of_getElem? (i := 1) rfl))
  have HNE := Lib.hid (show ce ≠ bj from hm8.apart 1 0 (by decide) rfl rfl)
  clear hm8 hb8 hCB hm
  go_wp2_with fail
  refine wp_rangeL rfl (enters_of Tryz.func70 (by kernel_rfl) rfl) (fun y => rfl) (jn_iter w0 G ⟨g, gj, ce, bj, b3, b4, b5, A, m, c, l⟩ w8.heap.size s.gm B q st P (MkX w0 G ⟨g, gj, ce, bj, b3, b4, b5, A, m, c, l⟩ w8.heap.size s.gm B q st P) HP.out HOK.out HLG.out.inn HOF.out hB HM.out) (mkI0_own _ _ _ _ _ _ _ _) (mkE_own _ _ _ _ _ _ _ _ _) (mkIn_own _ _ _ _ _ _ _ _ _) (mkX_own _ _ _ _ _ _ _ _ _) ⟨G, s, p, hW8, HL.out⟩ ?round ?done ?stop
  case round =>
    rintro l1 y W ⟨hk, G1, s1, p1, hW, hE, hsz, hkn, hLv⟩
    obtain ⟨x, hxE, hxi, hargs⟩ := mkIn_page (W := W) hE hk
    rw [hargs]
    obtain ⟨xi, xb, xc⟩ := x
    dsimp only [PE.val] at hxi ⊢
    have hm := Mem.nil (fun _ => False) W
    clear hW8
    gi_step
    refine region_in (by kernel_rfl) (fun _ _ h => h) ?_
    go_wp2_with (first | go_skip | ((with_reducible show wpList _ _ _ _ _ (World.alloc _ _)); refine wpList_up hm ?_; clear hm; intro n w hn hn2 hk hm hd hd2 ho; (try rw [← hn]); replace hn := Nat.le_of_eq hn.symm) | ((first | ((with_reducible show wpList _ _ _ (Oper.mk _ (Op.box _ _) _ _ _ _ :: _) _ _); (refine bxA hm ?_; clear hm; intro n w hn hz hm ho; (try simp only [List.cons_append, List.nil_append] at hm))) | ((with_reducible show wpList _ _ _ (Oper.mk _ (Op.load _ _) _ _ _ _ :: _) _ _); first | (refine ldA hm ?_) | (refine laA hm ?_)) | ((with_reducible show wpList _ _ _ (Oper.mk _ (Op.store _ _ _) _ _ _ _ :: _) _ _); (refine stA hm ?_; clear hm; intro w hz hm ho)) | ((with_reducible show wpList _ _ _ (Oper.mk _ (Op.alloc _) _ _ _ _ :: _) _ _); (refine alA hm ?_; clear hm; intro n w hn hz hm ho; (try simp only [List.cons_append, List.nil_append] at hm)))); try simp only [Act.put, sxQ]))
    refine region_in (by kernel_rfl) (fun _ _ h => h) ?_
    go_wp2_with (first | go_skip | ((with_reducible show wpList _ _ _ _ _ (World.alloc _ _)); refine wpList_up hm ?_; clear hm; intro n w hn hn2 hk hm hd hd2 ho; (try rw [← hn]); replace hn := Nat.le_of_eq hn.symm) | ((first | ((with_reducible show wpList _ _ _ (Oper.mk _ (Op.box _ _) _ _ _ _ :: _) _ _); (refine bxA hm ?_; clear hm; intro n w hn hz hm ho; (try simp only [List.cons_append, List.nil_append] at hm))) | ((with_reducible show wpList _ _ _ (Oper.mk _ (Op.load _ _) _ _ _ _ :: _) _ _); first | (refine ldA hm ?_) | (refine laA hm ?_)) | ((with_reducible show wpList _ _ _ (Oper.mk _ (Op.store _ _ _) _ _ _ _ :: _) _ _); (refine stA hm ?_; clear hm; intro w hz hm ho)) | ((with_reducible show wpList _ _ _ (Oper.mk _ (Op.alloc _) _ _ _ _ :: _) _ _); (refine alA hm ?_; clear hm; intro n w hn hz hm ho; (try simp only [List.cons_append, List.nil_append] at hm)))); try simp only [Act.put, sxQ]))
    refine ⟨KeepsL.refl _ _, fun W₂ hbh => ?_⟩
    have HW := Lib.hid (hW.behind hbh)
    have hsz2 : w8.heap.size + 2 ≤ W₂.heap.size := Nat.le_trans hsz hbh.only.size
    clear hW hsz hbh hm hargs
    have HC := Lib.hid HW.out.sc.enter
    have hm := HC.out.rebase
    have hRB := HW.out.rngs (vs_sub _)
    dsimp only at hRB
    have RKB : Hid (∀ u : World, Only (allG (MkP.fs ⟨g, gj, ce, bj, b3, b4, b5, A, m, c, l⟩ G1 s1 p1 0)) W₂ u → Rngs [⟨bj, 0, [.pointer (some ⟨gj, 0, none⟩)]⟩, ⟨gj, 0, [.pointer (some ⟨g, 0, none⟩)]⟩] u) := Lib.hid fun u hu r hr => hRB u hu r (by simp only [List.mem_cons, List.not_mem_nil, or_false] at hr ⊢; rcases hr with h | h <;> simp only [h, true_or, or_true])
    have CE : Hid (∀ u, Below W₂.heap.size W₂ u → u.cell? ⟨ce, 0, none⟩ = some (.int .i64 0)) := Lib.hid fun u hu => (Blk.only (R := fun _ => False) (HC.out.obj 1 rfl) (Only.of_below hu) (fun e => e)).cell 0
    clear hRB
    gi_step
    gi_step
    gi_step
    refine region_in (by kernel_rfl) (fun _ _ h => h) ?_
    go_wp2_with (first | (refine wpList_lc (by rfl) _ _ rfl _ rfl (by decide +kernel) _ (CE.out _ (Below.refl _ _)) ?_) | go_skip | ((with_reducible show wpList _ _ _ _ _ (World.alloc _ _)); refine wpList_up hm ?_; clear hm; intro n w hn hn2 hk hm hd hd2 ho; (try rw [← hn]); replace hn := Nat.le_of_eq hn.symm) | ((first | ((with_reducible show wpList _ _ _ (Oper.mk _ (Op.box _ _) _ _ _ _ :: _) _ _); (refine bxA hm ?_; clear hm; intro n w hn hz hm ho; (try simp only [List.cons_append, List.nil_append] at hm))) | ((with_reducible show wpList _ _ _ (Oper.mk _ (Op.load _ _) _ _ _ _ :: _) _ _); first | (refine ldA hm ?_) | (refine laA hm ?_)) | ((with_reducible show wpList _ _ _ (Oper.mk _ (Op.store _ _ _) _ _ _ _ :: _) _ _); (refine stA hm ?_; clear hm; intro w hz hm ho)) | ((with_reducible show wpList _ _ _ (Oper.mk _ (Op.alloc _) _ _ _ _ :: _) _ _); (refine alA hm ?_; clear hm; intro n w hn hz hm ho; (try simp only [List.cons_append, List.nil_append] at hm)))); try simp only [Act.put, sxQ]))
    gi_step
    gi_step
    gi_step
    gi_step
    have hPM : PMap (Jn.appB P (Jn.flat st)) y.mb y.E W₂ := HW.out.val (x := mapT (Jn.appB P (Jn.flat st)) y.mb y.E) (by simp) (Only.refl _ W₂)
    have hown := hPM.own _ hxE
    have hnG : ¬ G1 xb := fun hG => (HW.out.sc.vs (mapT (Jn.appB P (Jn.flat st)) y.mb y.E) (by simp)).2 _ List.mem_cons_self xb hG (.inr ⟨_, hxE, rfl⟩)
    dsimp only at hown
    obtain ⟨st1, hst1⟩ : ∃ st1, st1 = Jn.stM st (Jn.appB P (Jn.flat st)) ((Jn.ord P).take y.k) := ⟨_, rfl⟩
    rw [← hst1] at hLv
    have hxl : xi < st1.length := by
      rw [hst1, Jn.stM_length]
      have h1 := Jn.ord_lt (P := P) (n := st.length - 32) (by rw [HP.out]; exact HLG.out.inn.pairs) xi (List.mem_of_getElem? hxi)
      have := HOK.out.big; omega
    have HWR := Lib.hid (fun (u : World) (h1 : PAt u g G1 s1 p1) (h2 : Byt u u.heap.size (some ⟨xb, 0, none⟩) 48 xc (Jn.pg (Jn.appB P (Jn.flat st)) xi)) => jp_Write h1 hLv (by have := HPO.out; omega) xi hxl _ xc _ ⟨h2, fun a e hG => by cases e; exact hnG hG⟩)
    have HBY := Lib.hid (show Byt W₂ W₂.heap.size (some ⟨xb, 0, none⟩) 48 xc (Jn.pg (Jn.appB P (Jn.flat st)) xi) from hown.byt (Nat.le_refl _))
    have HST1 := Lib.hid hst1
    have HXI := Lib.hid hxi
    have HE := Lib.hid hE
    clear hPM hown hnG hLv hxl hst1 hxi hE hxE
    gi_step
    refine region_in (by kernel_rfl) (fun _ _ h => h) ?_
    go_wp2_with (first | go_skip | ((with_reducible show wpList _ _ _ _ _ (World.alloc _ _)); refine wpList_up hm ?_; clear hm; intro n w hn hn2 hk hm hd hd2 ho; (try rw [← hn]); replace hn := Nat.le_of_eq hn.symm) | ((first | ((with_reducible show wpList _ _ _ (Oper.mk _ (Op.box _ _) _ _ _ _ :: _) _ _); (refine bxA hm ?_; clear hm; intro n w hn hz hm ho; (try simp only [List.cons_append, List.nil_append] at hm))) | ((with_reducible show wpList _ _ _ (Oper.mk _ (Op.load _ _) _ _ _ _ :: _) _ _); first | (refine ldA hm ?_) | (refine laA hm ?_) | (refine lcA (RKB.out _ (HC.out.resync hm).low) ?_) | (refine lrA (RKB.out _ (HC.out.resync hm).low) ?_)) | ((with_reducible show wpList _ _ _ (Oper.mk _ (Op.store _ _ _) _ _ _ _ :: _) _ _); (refine stA hm ?_; clear hm; intro w hz hm ho)) | ((with_reducible show wpList _ _ _ (Oper.mk _ (Op.alloc _) _ _ _ _ :: _) _ _); (refine alA hm ?_; clear hm; intro n w hn hz hm ho; (try simp only [List.cons_append, List.nil_append] at hm)))); try simp only [Act.put, sxQ]))
    go_at_call 51
    refine (HWR.out _ ((HC.out.resync hm).obj 0 rfl) HBY.out).mono ?_
    rintro e w4 ⟨p', G', s', er, rfl, hp4, hPW, hG4, ho4, hgm4⟩
    have hc2 := (HC.out.resync hm).turn 0 rfl ho4 hG4 hp4.sup
    clear HC hm
    simp only [List.nil_append, List.cons_append, List.set_cons_zero, List.set_cons_succ] at hc2
    have HC := Lib.hid hc2
    clear hc2
    have hm := HC.out.rebase
    have hm1 : Mem (fun q => q = ce) w4 w4 [⟨ce, 38, #[.int .i64 0]⟩] [] := Mem.one (HC.out.obj 1 rfl) rfl
    clear hp4 hG4 ho4
    go_wp2_with (first | ((with_reducible show wpList _ _ _ (Oper.mk _ (Op.store _ (Operand.tmp 4) _) _ _ _ _ :: _) _ _); refine stA hm1 ?_; intro w5 hz5 hm5 ho5; (try simp only [Act.put, sxQ])) | go_skip | ((with_reducible show wpList _ _ _ _ _ (World.alloc _ _)); refine wpList_up hm ?_; clear hm; intro n w hn hn2 hk hm hd hd2 ho; (try rw [← hn]); replace hn := Nat.le_of_eq hn.symm) | ((first | ((with_reducible show wpList _ _ _ (Oper.mk _ (Op.box _ _) _ _ _ _ :: _) _ _); (refine bxA hm ?_; clear hm; intro n w hn hz hm ho; (try simp only [List.cons_append, List.nil_append] at hm))) | ((with_reducible show wpList _ _ _ (Oper.mk _ (Op.load _ _) _ _ _ _ :: _) _ _); first | (refine ldA hm ?_) | (refine laA hm ?_)) | ((with_reducible show wpList _ _ _ (Oper.mk _ (Op.store _ _ _) _ _ _ _ :: _) _ _); (refine stA hm ?_; clear hm; intro w hz hm ho)) | ((with_reducible show wpList _ _ _ (Oper.mk _ (Op.alloc _) _ _ _ _ :: _) _ _); (refine alA hm ?_; clear hm; intro n w hn hz hm ho; (try simp only [List.cons_append, List.nil_append] at hm)))); try simp only [Act.put, sxQ]))
    have hb5 : Blk w5 ce 38 #[.int .i64 er] := hm5.at_ 0 rfl
    have hc2 := (HC.out.resync hm).turn 1 rfl ho5 (fun q h => .inl h) (p' := fun u => Blk u ce 38 #[.int .i64 er]) ⟨hb5, fun q e => by have e : q = ce := e; rw [e]; exact hb5.lt, fun _ _ ho hd => hb5.only ho (hd ce rfl)⟩
    clear hm1 hm5 ho5
    clear HC hm
    simp only [List.nil_append, List.cons_append, List.set_cons_zero, List.set_cons_succ] at hc2
    have HC := Lib.hid hc2
    clear hc2
    have hm := HC.out.rebase
    have CF : Hid (∀ u, Below w5.heap.size w5 u → u.cell? ⟨ce, 0, none⟩ = some (.int .i64 er)) := Lib.hid fun u hu => (hb5.only (R := fun _ => False) (Only.of_below hu) (fun e => e)).cell 0
    clear hb5 CE
    rcases hPW with ⟨rfl, hL5⟩ | ⟨rfl, hD5⟩
    · have HL5 := Lib.hid hL5
      clear hL5
      gi_step
      refine region_in (by kernel_rfl) (fun _ _ h => h) ?_
      go_wp2_with (first | ((refine wpList_lc (by rfl) _ _ rfl _ rfl (by decide +kernel) _ (CF.out _ (Below.refl _ _)) ?_); (try simp only [Act.put, sxQ])) | go_skip | ((with_reducible show wpList _ _ _ _ _ (World.alloc _ _)); refine wpList_up hm ?_; clear hm; intro n w hn hn2 hk hm hd hd2 ho; (try rw [← hn]); replace hn := Nat.le_of_eq hn.symm) | ((first | ((with_reducible show wpList _ _ _ (Oper.mk _ (Op.box _ _) _ _ _ _ :: _) _ _); (refine bxA hm ?_; clear hm; intro n w hn hz hm ho; (try simp only [List.cons_append, List.nil_append] at hm))) | ((with_reducible show wpList _ _ _ (Oper.mk _ (Op.load _ _) _ _ _ _ :: _) _ _); first | (refine ldA hm ?_) | (refine laA hm ?_)) | ((with_reducible show wpList _ _ _ (Oper.mk _ (Op.store _ _ _) _ _ _ _ :: _) _ _); (refine stA hm ?_; clear hm; intro w hz hm ho)) | ((with_reducible show wpList _ _ _ (Oper.mk _ (Op.alloc _) _ _ _ _ :: _) _ _); (refine alA hm ?_; clear hm; intro n w hn hz hm ho; (try simp only [List.cons_append, List.nil_append] at hm)))); try simp only [Act.put, sxQ]))
      gi_step
      gi_step
      gi_step
      have hsc := HC.out.resync hm
      have hN := HW.out.next (er' := 0) (G' := G') (s' := s') (p' := p') (X := []) hsz2 (by exact hsc) (hgm4.trans HW.out.gm)
      have hK := HW.out.keeps hsz2 hsc
      simp only [List.map_nil, List.append_nil] at hN
      refine ⟨hK, G', s', p', hN, HE.out, Nat.le_trans hsz2 hK.size, hk, ?_⟩
      rw [List.take_add_one, HXI.out]
      have := HL5.out.mono (show _ ≤ B + 1000 * (Jn.ord P).length + 2000 * (y.k + 1) by omega)
      rw [HST1.out] at this
      rw [Option.toList_some, Jn.stM_snoc]
      exact this
    · have HD5 := Lib.hid hD5
      clear hD5
      gi_step
      refine region_in (by kernel_rfl) (fun _ _ h => h) ?_
      go_wp2_with (first | ((refine wpList_lc (by rfl) _ _ rfl _ rfl (by decide +kernel) _ (CF.out _ (Below.refl _ _)) ?_); (try simp only [Act.put, sxQ])) | go_skip | ((with_reducible show wpList _ _ _ _ _ (World.alloc _ _)); refine wpList_up hm ?_; clear hm; intro n w hn hn2 hk hm hd hd2 ho; (try rw [← hn]); replace hn := Nat.le_of_eq hn.symm) | ((first | ((with_reducible show wpList _ _ _ (Oper.mk _ (Op.box _ _) _ _ _ _ :: _) _ _); (refine bxA hm ?_; clear hm; intro n w hn hz hm ho; (try simp only [List.cons_append, List.nil_append] at hm))) | ((with_reducible show wpList _ _ _ (Oper.mk _ (Op.load _ _) _ _ _ _ :: _) _ _); first | (refine ldA hm ?_) | (refine laA hm ?_)) | ((with_reducible show wpList _ _ _ (Oper.mk _ (Op.store _ _ _) _ _ _ _ :: _) _ _); (refine stA hm ?_; clear hm; intro w hz hm ho)) | ((with_reducible show wpList _ _ _ (Oper.mk _ (Op.alloc _) _ _ _ _ :: _) _ _); (refine alA hm ?_; clear hm; intro n w hn hz hm ho; (try simp only [List.cons_append, List.nil_append] at hm)))); try simp only [Act.put, sxQ]))
      gi_step
      gi_step
      refine region_in (by kernel_rfl) (fun _ _ h => h) ?_
      have hm1 : Mem (fun q => q = ce) w5 w5 [⟨ce, 38, #[.int .i64 7]⟩] [] := Mem.one (HC.out.obj 1 rfl) rfl
      go_wp2_with (first | ((with_reducible show wpList _ _ _ (Oper.mk _ (Op.store _ (Operand.tmp 4) _) _ _ _ _ :: _) _ _); refine stA hm1 ?_; intro w6 hz6 hm6 ho6; (try simp only [Act.put, sxQ])) | ((refine wpList_lc (by rfl) _ _ rfl _ rfl (by decide +kernel) _ (CF.out _ (Below.refl _ _)) ?_); (try simp only [Act.put, sxQ])) | go_skip | ((with_reducible show wpList _ _ _ _ _ (World.alloc _ _)); refine wpList_up hm ?_; clear hm; intro n w hn hn2 hk hm hd hd2 ho; (try rw [← hn]); replace hn := Nat.le_of_eq hn.symm) | ((first | ((with_reducible show wpList _ _ _ (Oper.mk _ (Op.box _ _) _ _ _ _ :: _) _ _); (refine bxA hm ?_; clear hm; intro n w hn hz hm ho; (try simp only [List.cons_append, List.nil_append] at hm))) | ((with_reducible show wpList _ _ _ (Oper.mk _ (Op.load _ _) _ _ _ _ :: _) _ _); first | (refine ldA hm ?_) | (refine laA hm ?_)) | ((with_reducible show wpList _ _ _ (Oper.mk _ (Op.store _ _ _) _ _ _ _ :: _) _ _); (refine stA hm ?_; clear hm; intro w hz hm ho)) | ((with_reducible show wpList _ _ _ (Oper.mk _ (Op.alloc _) _ _ _ _ :: _) _ _); (refine alA hm ?_; clear hm; intro n w hn hz hm ho; (try simp only [List.cons_append, List.nil_append] at hm)))); try simp only [Act.put, sxQ]))
      have hb6 : Blk w6 ce 38 #[.int .i64 7] := hm6.at_ 0 rfl
      have hc2 := (HC.out.resync hm).turn 1 rfl ho6 (fun q h => .inl h) (p' := fun u => Blk u ce 38 #[.int .i64 7]) ⟨hb6, fun q e => by have e : q = ce := e; rw [e]; exact hb6.lt, fun _ _ ho hd => hb6.only ho (hd ce rfl)⟩
      gi_step
      have hN := HW.out.next (er' := 7) (G' := G') (s' := s') (p' := p') (X := []) hsz2 (by exact hc2) (hgm4.trans HW.out.gm)
      have hK := HW.out.keeps hsz2 hc2
      simp only [List.map_nil, List.append_nil] at hN
      refine ⟨hK, rfl, G', s', p', y.k, hN.few (vs_sub _), ?_⟩
      have := HD5.out.mono (show _ ≤ B + 3000 * (Jn.ord P).length by omega)
      rw [HST1.out] at this
      exact this
  case done =>
    rintro D W rfl ⟨G1, s1, p1, hW, hLv⟩ hKD
    clear hW8
    have HW := Lib.hid hW
    have HC := Lib.hid hW.sc.enter
    have hm := HC.out.rebase
    have hm1 : Mem (fun q => q = ce) W W [⟨ce, 38, #[.int .i64 0]⟩] [] := Mem.one (HC.out.obj 1 rfl) rfl
    have CF : Hid (∀ u, Below W.heap.size W u → u.cell? ⟨ce, 0, none⟩ = some (.int .i64 0)) := Lib.hid fun u hu => (Blk.only (R := fun _ => False) (HC.out.obj 1 rfl) (Only.of_below hu) (fun e => e)).cell 0
    have HKD := Lib.hid hKD
    have HLv := Lib.hid hLv
    clear hW hKD hLv
    go_wp2_with (first | ((with_reducible show wpList _ _ _ (Oper.mk _ (Op.store _ (Operand.tmp 4) _) _ _ _ _ :: _) _ _); refine stA hm1 ?_; intro w6 hz6 hm6 ho6; (try simp only [Act.put, sxQ])) | ((refine wpList_lc (by rfl) _ _ rfl _ rfl (by decide +kernel) _ (CF.out _ (Below.refl _ _)) ?_); (try simp only [Act.put, sxQ])) | go_skip | ((with_reducible show wpList _ _ _ _ _ (World.alloc _ _)); refine wpList_up hm ?_; clear hm; intro n w hn hn2 hk hm hd hd2 ho; (try rw [← hn]); replace hn := Nat.le_of_eq hn.symm) | ((first | ((with_reducible show wpList _ _ _ (Oper.mk _ (Op.box _ _) _ _ _ _ :: _) _ _); (refine bxA hm ?_; clear hm; intro n w hn hz hm ho; (try simp only [List.cons_append, List.nil_append] at hm))) | ((with_reducible show wpList _ _ _ (Oper.mk _ (Op.load _ _) _ _ _ _ :: _) _ _); first | (refine ldA hm ?_) | (refine laA hm ?_)) | ((with_reducible show wpList _ _ _ (Oper.mk _ (Op.store _ _ _) _ _ _ _ :: _) _ _); (refine stA hm ?_; clear hm; intro w hz hm ho)) | ((with_reducible show wpList _ _ _ (Oper.mk _ (Op.alloc _) _ _ _ _ :: _) _ _); (refine alA hm ?_; clear hm; intro n w hn hz hm ho; (try simp only [List.cons_append, List.nil_append] at hm)))); try simp only [Act.put, sxQ]))
    have hb6 : Blk w6 ce 38 #[.int .i64 0] := hm6.at_ 0 rfl
    have hc2 := (HC.out.resync hm).turn 1 rfl ho6 (fun q h => .inl h) (p' := fun u => Blk u ce 38 #[.int .i64 0]) ⟨hb6, fun q e => by have e : q = ce := e; rw [e]; exact hb6.lt, fun _ _ ho hd => hb6.only ho (hd ce rfl)⟩
    have hce8 := HCE.out
    have hKE : w6.heap[w8.heap.size]? = some (.deferred (some [])) := (ho6.block _ (Array.getElem?_eq_some_iff.1 HKD.out).1 (by omega)).trans HKD.out
    refine ⟨by simp, .inl ⟨_, _, rfl, run_takeDeferred hKE, ?_⟩⟩
    have hW6 : MkW w0 G w8.heap.size s.gm ⟨g, gj, ce, bj, b3, b4, b5, A, m, c, l⟩ (MkP.vs ⟨g, gj, ce, bj, b3, b4, b5, A, m, c, l⟩) G1 s1 p1 0 w6 := { HW.out with sc := hc2.sc, low := HW.out.low.more ho6 (fun q _ e => .inr (by have e : q = ce := e; rw [e]; exact HW.out.ce)) }
    have HW9 := Lib.hid (hW6.putB (.deferred none))
    clear hc2 hW6 hKE hb6 ho6 hm1 hm6
    generalize w6.putObj w8.heap.size (.deferred none) = w9 at *
    refine ⟨by simp, .inr ⟨fun h => (by cases h), _, _, _, _, rfl, rfl, fun _ _ => trivial, ?_⟩⟩
    have hsc := HW9.out.sc
    have hd9 : ∀ x ∈ MkP.vs ⟨g, gj, ce, bj, b3, b4, b5, A, m, c, l⟩, ∀ q, G1 q → ¬ x.G q := fun x hx q hq => (hsc.vs x hx).2 ⟨G1, fun u => PAt u g G1 s1 p1⟩ (by simp [MkP.fs]) q hq
    have hce9 : ¬ G1 ce := fun hq => (List.pairwise_cons.1 hsc.df).1 ⟨fun q => q = ce, fun u => Blk u ce 38 #[.int .i64 0]⟩ (by simp) ce hq rfl
    have hbj9 : Blk w9 bj 28 #[.pointer (some ⟨gj, 0, none⟩)] := (hsc.vs ⟨fun q => q = bj, fun u => Blk u bj 28 #[.pointer (some ⟨gj, 0, none⟩)]⟩ (by simp only [MkP.vs, List.mem_cons, true_or, or_true])).1.now
    have hj9 : JAt w9 gj g := (hsc.vs ⟨fun q => q = gj, fun u => JAt u gj g⟩ (by simp only [MkP.vs, List.mem_cons, true_or])).1.now
    have hgb9 : ¬ G1 bj := fun hq => hd9 ⟨fun q => q = bj, fun u => Blk u bj 28 #[.pointer (some ⟨gj, 0, none⟩)]⟩ (by simp only [MkP.vs, List.mem_cons, true_or, or_true]) bj hq rfl
    have hgj9 : ¬ G1 gj := fun hq => hd9 ⟨fun q => q = gj, fun u => JAt u gj g⟩ (by simp only [MkP.vs, List.mem_cons, true_or]) gj hq rfl
    refine (jn_make1_ok (u := .returning) (hsc.enter.obj 1 rfl) hbj9 HNE.out hce9 hgb9 hj9 hgj9 (hsc.enter.obj 0 rfl) HLv.out (by have := HPO.out; omega)).mono ?_
    rintro e u' w' ⟨rfl, p', G', s', er, rfl, hb, hp, hPW, hG, hO, hgm⟩
    have hcell := hb.cell 0
    refine ⟨.int .i64 er, by simp [results, Tryz.f35, go_sem, hcell], p', G', s', er, rfl, hp, ?_, fun q hq => ?_, HW9.out.low.more hO (fun q _ hq => ?_), hgm.trans HW9.out.gm⟩
    · --!24
      rcases hPW with ⟨rfl, hL⟩ | ⟨rfl, hD⟩
      · refine .inl ⟨rfl, _, hL.mono (by have := HPO.out; omega), ?_, by rw [List.length_set, Jn.stM_length]⟩
        rw [HP.out]; exact HLG.out.whole HOK.out
      · refine .inr ⟨rfl, _, hD.mono (by have := HPO.out; omega), ?_, Jn.stM_length _ _ _⟩
        rw [HP.out]; exact HLG.out.part HOK.out _ (fun _ h => h)
    · rcases hG q hq with h1 | h1
      · exact HW9.out.new q h1
      · exact .inr (Nat.le_trans HW9.out.low.size h1)
    · rcases hq with h1 | h1
      · exact HW9.out.new q h1
      · exact .inr (by rw [h1]; exact HW9.out.ce)
  case stop =>
    rintro D cd W rfl ⟨rfl, G1, s1, p1, m1, hW, hDv⟩ hKD
    go_wp2_with fail
    refine ⟨by simp, .inl ⟨_, _, rfl, run_takeDeferred hKD, ?_⟩⟩
    have HW := Lib.hid (hW.putB (.deferred none))
    generalize W.putObj w8.heap.size (.deferred none) = w9 at *
    refine ⟨by simp, .inr ⟨fun h => (by cases h), _, _, _, _, rfl, rfl, fun _ _ => trivial, ?_⟩⟩
    refine (jn_make1_bad (u := .returning) (er := 7) (HW.out.sc.enter.obj 1 rfl) (by decide)).mono ?_
    rintro e u' w' ⟨rfl, rfl, hb⟩
    have hW' := HW.out.quiet hb
    have hbc : Blk w' ce 38 #[.int .i64 7] := hW'.sc.enter.obj 1 rfl
    have hcell := hbc.cell 0
    refine ⟨.int .i64 7, by simp [results, Tryz.f35, go_sem, hcell], p1, G1, s1, 7, rfl, hW'.sc.enter.obj 0 rfl, ?_, hW'.new, hW'.low, hW'.gm⟩
    refine .inr ⟨rfl, _, hDv.mono (by have := HPO.out; omega), ?_, Jn.stM_length _ _ _⟩
    rw [HP.out]; exact HLG.out.part HOK.out _ (fun i hi => List.mem_of_mem_take hi)
end
end Go.Proofs.YtmhjddmamknglaaGreat
