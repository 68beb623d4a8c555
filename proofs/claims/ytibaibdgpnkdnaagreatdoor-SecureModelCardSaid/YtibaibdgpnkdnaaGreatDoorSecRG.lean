/-
  A call on a side and on a state: do.
-/
import Derived.Test.YtibaibdgpnkdnaaGreatDoorZ1
import Derived.Test.YtibaibdgpnkdnaaGreatDoorSecRF
import Derived.Test.YtibaibdgpnkdnaaGreatDoorSecC
import Derived.Test.YtibaibdgpnkdnaaGreatDoorSecBO
namespace Go.Proofs.YtibaibdgpnkdnaaGreatDoor
set_option maxRecDepth 100000
set_option linter.unusedSimpArgs false
set_option linter.unusedVariables false
open Go.RowKit
set_option maxHeartbeats 8000000

/-- A value that a call has handed out: its blocks are elder values', or new, or lay there at first. -/
theorem Scn.plus {w0 w w' : World} {L : List Ent} {O O' : List Osl} {Fs Vs Vs' : List Thing} {G : Nat → Prop} {p : World → Prop} (h : Scn w0 w L O Fs Vs) (h' : Scn w0 w' L O' Fs Vs') (hs : Sup w' G p) (hf : ∀ q, G q → (∃ y ∈ Vs, y.G q) ∨ w.heap.size ≤ q ∨ q < w0.heap.size) : Scn w0 w' L O' Fs (Vs' ++ [⟨G, p⟩]) := by
  refine ⟨h'.cal, h'.fs, fun x hx => ?_⟩
  rcases List.mem_append.1 hx with hx | hx
  · exact h'.vs x hx
  obtain rfl := List.mem_singleton.1 hx
  refine ⟨hs, fun y hy q hy2 hq2 => ?_, fun e he hq2 => ?_⟩
  · rcases hf q hq2 with ⟨v, hv, hvq⟩ | h6 | h6
    · exact (h.vs v hv).2.1 y hy q hy2 hvq
    · have := (h.fs y hy).lt q hy2; omega
    · have := h.cal.lo _ (List.mem_map.2 ⟨y, hy, rfl⟩) q hy2; omega
  · rcases hf _ hq2 with ⟨v, hv, hvq⟩ | h6 | h6
    · exact (h.vs v hv).2.2 e he hvq
    · have := h.cal.mem.lt he; omega
    · rcases h.cal.mem.own e he with h7 | h7
      · exact h7
      · omega
theorem byt_blks {w : World} {A : Option Addr} {n c : Nat} {bs : List UInt8} (h : Byt w w.heap.size A n c bs) {R : Nat → Prop} {w' : World} (ho : Only R w w') {cs : Array Value} (hm : Value.slice A n c ∈ cs.toList) (hd : ∀ q, blks cs q → ¬ R q) : Byt w' w'.heap.size A n c bs :=
  h.only ho fun a e hn => hd _ ⟨A, n, c, a, hm, hn, e, rfl⟩
theorem RSt.sup {w : World} {a : ChS} {s : Sec.S} (h : RSt w a s) : Sup w (blks (rst a s)) (fun u => RSt u a s) := by
  refine ⟨h, fun q hq => ?_, fun R w' ho hd => ⟨h.ok, byt_blks h.enc ho (by simp [rst, cch]) hd, byt_blks h.mac ho (by simp [rst, cch]) hd, byt_blks h.rmac ho (by simp [rst, cch]) hd, byt_blks h.dat ho (by simp [rst, cch]) hd, byt_blks h.chain ho (by simp [rst, cch]) hd⟩⟩
  obtain ⟨A, n, c, x, hm, hn, e, rfl⟩ := hq
  have key : ∀ {A : Option Addr} {n c : Nat} {bs : List UInt8}, Byt w w.heap.size A n c bs → 0 < n → A = some x → x.block < w.heap.size := fun hb hn e => by
    obtain ⟨b, o, e2, hlt⟩ := hb.at_ hn
    rw [e] at e2; injection e2 with e2; subst e2
    exact hlt
  simp [rst, cch] at hm
  rcases hm with ⟨rfl, rfl, rfl⟩ | ⟨rfl, rfl, rfl⟩ | ⟨rfl, rfl, rfl⟩ | ⟨rfl, rfl, rfl⟩ | ⟨rfl, rfl, rfl⟩
  · exact key h.enc hn e
  · exact key h.mac hn e
  · exact key h.rmac hn e
  · exact key h.dat hn e
  · exact key h.chain hn e
theorem Trn.sup {w : World} {x : Trn} (h : Trn.ok w x) : Sup w (blks x.cells.toArray) (fun u => Trn.ok u x) := by
  refine ⟨h, fun q hq => ?_, fun R w' ho hd => ⟨byt_blks h.1 ho (by simp [Trn.cells]) hd, byt_blks h.2 ho (by simp [Trn.cells]) hd⟩⟩
  obtain ⟨A, n, c, y, hm, hn, e, rfl⟩ := hq
  have key : ∀ {A : Option Addr} {n c : Nat} {bs : List UInt8}, Byt w w.heap.size A n c bs → 0 < n → A = some y → y.block < w.heap.size := fun hb hn e => by
    obtain ⟨b, o, e2, hlt⟩ := hb.at_ hn
    rw [e] at e2; injection e2 with e2; subst e2
    exact hlt
  simp [Trn.cells] at hm
  rcases hm with ⟨rfl, rfl, rfl⟩ | ⟨rfl, rfl, rfl⟩
  · exact key h.1 hn e
  · exact key h.2 hn e
/-- The parts of a value, apart from an object. -/
theorem Scn.trnV {w0 w : World} {L : List Ent} {O : List Osl} {Fs Vs : List Thing} (h : Scn w0 w L O Fs Vs) (i k : Nat) {x : Thing} (hk : Fs[k]? = some x) {y : Trn} (hi : Vs[i]? = some ⟨blks y.cells.toArray, fun u => Trn.ok u y⟩) :
    Trn.ok w y ∧ (∀ a, y.A = some a → 0 < y.dn → ¬ x.G a.block) ∧ ∀ a, y.A' = some a → 0 < y.n' → ¬ x.G a.block :=
  ⟨h.val i hi, fun a e hn hq => (h.vs _ (List.mem_of_getElem? hi)).2.1 x (List.mem_of_getElem? hk) a.block hq ⟨y.A, y.dn, y.dc, a, by simp [Trn.cells], hn, e, rfl⟩,
    fun a e hn hq => (h.vs _ (List.mem_of_getElem? hi)).2.1 x (List.mem_of_getElem? hk) a.block hq ⟨y.A', y.n', y.c', a, by simp [Trn.cells], hn, e, rfl⟩⟩
theorem blks_trn {x : Trn} {q : Nat} (h : blks x.cells.toArray q) : (∃ a, x.A = some a ∧ 0 < x.dn ∧ a.block = q) ∨ ∃ a, x.A' = some a ∧ 0 < x.n' ∧ a.block = q := by
  obtain ⟨A, n, c, a, hm, hn, e, rfl⟩ := h
  simp [Trn.cells] at hm
  rcases hm with ⟨rfl, rfl, rfl⟩ | ⟨rfl, rfl, rfl⟩
  · exact .inl ⟨a, e, hn, rfl⟩
  · exact .inr ⟨a, e, hn, rfl⟩
theorem trn_blks1 {x : Trn} {a : Addr} (e : x.A = some a) (hn : 0 < x.dn) : blks x.cells.toArray a.block := ⟨x.A, x.dn, x.dc, a, by simp [Trn.cells], hn, e, rfl⟩
theorem trn_blks2 {x : Trn} {a : Addr} (e : x.A' = some a) (hn : 0 < x.n') : blks x.cells.toArray a.block := ⟨x.A', x.n', x.c', a, by simp [Trn.cells], hn, e, rfl⟩
theorem byt_old {w : World} {A : Option Addr} {n c : Nat} {bs : List UInt8} (h : Byt w w.heap.size A n c bs) : FarS (fun q => q < w.heap.size) A n := fun hn x e => by
  obtain ⟨b, o, e2, hlt⟩ := h.at_ hn
  rw [e] at e2; injection e2 with e2; subst e2
  exact hlt
theorem smB_refl (a b c d : Int) (x : List UInt8) (e : Int) (l : Bool) : Apd.smB a b c d x e l a b c d x e l = true := by unfold Apd.smB; simp [Oct.same_refl]
theorem srB_refl (x : List UInt8) (e : Int) : Apd.srB x e x e = true := by unfold Apd.srB; simp [Oct.same_refl]
/-! Counts and sizes. -/
theorem Sec.wrap_more {s : Sec.S} (hk : Sec.Ok s) (x : Apd.Cmd) : (Sec.wrap s x).1.cnt ≤ s.cnt + 1 ∧ (Sec.wrap s x).2.d.length ≤ x.d.length + 16 := by
  have hM : (Sec.wrapM s x).length = 8 := Sec.cmac_length _ _ _ _ _ _ _ hk
  have hD := Sec.wrapD_length s x hk.enc
  have hsz : ∀ v, Sec.sz x.d.length v ≤ x.d.length + 8 := fun v => by unfold Sec.sz; split <;> omega
  have := hsz (Sec.hb s.lvl 2)
  unfold Sec.wrap
  split
  · exact ⟨by simp, by simp [Sec.cz]⟩
  split
  · exact ⟨by simp, by simp⟩
  · exact ⟨by simp, by simp [hM, hD]; omega⟩
theorem Sec.unwrap_more {s : Sec.S} (x : Apd.Cmd) : (Sec.unwrap s x).1.cnt ≤ s.cnt + 1 := by
  unfold Sec.unwrap
  split
  · simp
  split
  · simp
  split <;> simp
theorem unpR_len : ∀ (l d : List UInt8), Oct.unpR l = some d → d.length ≤ l.length
  | [], d, h => by simp [Oct.unpR] at h
  | x :: l, d, h => by
    unfold Oct.unpR at h
    split at h
    · have := unpR_len l d h; simp; omega
    · split at h
      · cases h; simp
      · cases h
theorem unp_len9 {l d : List UInt8} (h : Oct.unp l = some d) : d.length ≤ l.length := by have := unpR_len _ _ h; simpa using this
theorem Sec.show_len {s : Sec.S} (hk : Sec.Ok s) (r : Bool) (b d : List UInt8) (h : Sec.show? s r b = some d) : d.length ≤ b.length := by
  unfold Sec.show? at h
  split at h
  · cases h; simp
  split at h
  · have hu := unp_len9 h
    have hc : (Mod.cbB s.enc (Sec.iv s r) b true).length ≤ b.length := by
      by_cases hok : Mod.ok s.enc (Sec.iv s r) b = true
      · rw [Mod.cbB_length _ _ _ _ hok]; exact Nat.le_refl _
      · unfold Mod.cbB; rw [if_neg hok]; exact Nat.zero_le _
    omega
  · cases h
theorem Sec.unwrap_len {s : Sec.S} (hk : Sec.Ok s) (x : Apd.Cmd) : (Sec.unwrap s x).2.d.length ≤ x.d.length := by
  unfold Sec.unwrap
  split
  · simp [Sec.cz]
  split
  · simp [Sec.cz]
  split
  · simp
  · show (Sec.unwrapD s x).length ≤ _
    unfold Sec.unwrapD
    split
    · cases hd : Sec.show? { s with cnt := s.cnt + 1 } false (x.d.take (x.d.length - 8)) with
      | none => simp
      | some d =>
        have := Sec.show_len (s := { s with cnt := s.cnt + 1 }) { hk with } false _ d hd
        simp at this ⊢
        omega
    · simp
theorem Sec.opn_len {s : Sec.S} (hk : Sec.Ok s) (d : List UInt8) (sw : Int) : (Sec.opn s d sw).2.1.length ≤ d.length := by
  unfold Sec.opn
  split
  · simp
  split
  · simp
  · show (Sec.openD s d).length ≤ _
    unfold Sec.openD
    split
    · simp
    split
    · cases hd : Sec.show? s true (d.take (d.length - 8)) with
      | none => simp
      | some e =>
        have := Sec.show_len hk true _ e hd
        simp at this ⊢
        omega
    · simp
theorem Sec.sea_more {s : Sec.S} (hk : Sec.Ok s) (d : List UInt8) (sw : Int) : (Sec.sea s d sw).1.cnt ≤ s.cnt + 1 ∧ (Sec.sea s d sw).2.1.length ≤ d.length + 16 := by
  have hM : (Sec.rmc s (Sec.sealD s d) sw).length = 8 := Sec.rmc_length _ _ _ hk
  have hD : (Sec.sealD s d).length ≤ d.length + 8 := by
    unfold Sec.sealD
    split
    · rw [Sec.hide_length s true d hk.enc]; split <;> omega
    · omega
  unfold Sec.sea
  split
  · exact ⟨by simp, by simp⟩
  split
  · exact ⟨by simp, by simp⟩
  · exact ⟨by simp, by simp [hM]; omega⟩
theorem Sec.opn_more {s : Sec.S} (d : List UInt8) (sw : Int) : (Sec.opn s d sw).1.cnt ≤ s.cnt + 1 := by
  unfold Sec.opn
  split
  · simp
  split <;> simp
/-- What do leaves. -/
def DoRes (w00 : World) (g : Nat) (cnt : Nat) (L : List Ent) (e : Ending) (w' : World) : Prop :=
  ∃ (s' : Sec.S) (a' : ChS) (l' : Trn) (F' : Nat → Prop), e = .returned (.tuple #[.agg (rst a' s'), .agg l'.cells.toArray, .bool true]) ∧ s'.cnt ≤ cnt + 1 ∧ l'.dn ≤ 700 ∧ l'.n' ≤ 700 ∧
    Scn w00 w' L [] [⟨F', fun u => ChAt' u g F' s'⟩] [⟨blks (rst a' s'), fun u => RSt u a' s'⟩, ⟨blks l'.cells.toArray, fun u => Trn.ok u l'⟩]
theorem results_do {P : Program} {fn : Func} {p q u : Tmp} {ty tz : TypeId} (h : fn.results = #[.cell p ty, .cell q tz, .tmp u]) (tmps : Array Value) (w : World) (g : Nat) (t : TypeId) (cs : Array Value) (d : TypeDesc)
    (hp : tmps.getD p undef = .pointer (some ⟨g, 0, none⟩)) (hg : Blk w g t cs)
    (hu : P.underlying ty = some d) (hd : (match d with | .struct _ | .array _ _ => true | _ => false) = true) (hi : (P.info? ty).map (·.size) = some cs.size)
    (g' : Nat) (t' : TypeId) (cs' : Array Value) (d' : TypeDesc) (hp' : tmps.getD q undef = .pointer (some ⟨g', 0, none⟩)) (hg' : Blk w g' t' cs')
    (hu' : P.underlying tz = some d') (hd' : (match d' with | .struct _ | .array _ _ => true | _ => false) = true) (hi' : (P.info? tz).map (·.size) = some cs'.size) :
    (results fn tmps).run P w = .ok (.tuple #[.agg cs, .agg cs', tmps.getD u undef]) w := results_row_row_tmp h tmps w g t cs (0, 0) d hp hg hu hd hi g' t' cs' (0, 0) d' hp' hg' hu' hd' hi'
set_option maxRecDepth 100000 in
theorem do_wrap (w00 w : World) (g : Nat) (F : Nat → Prop) (s : Sec.S) (a : ChS) (l : Trn) (e3 e9 e11 : Ent) (HS : Scn w00 w [e3, e9, e11] [] [⟨F, fun u => ChAt' u g F s⟩] [⟨blks (rst a s), fun u => RSt u a s⟩, ⟨blks l.cells.toArray, fun u => Trn.ok u l⟩]) (hg : HasEt w00) (hc : s.cnt < 100)
    (k : Int) (x : Trn) (hx : Trn.ok w00 x) (hx1 : x.dn ≤ 600) (hx2 : x.n' ≤ 600) (hl1 : l.dn ≤ 700) (hl2 : l.n' ≤ 700) (hk : k = 0) :
    Calls Tryz.prog 8 #[.pointer (some ⟨g, 0, none⟩), .agg (rst a s), .agg (.int .i64 k :: x.cells).toArray, .agg l.cells.toArray] w (DoRes w00 g s.cnt [e3, e9, e11]) := by
  subst hk
  have HG := Lib.hid hg
  have HP := Lib.hid hg.pos
  have HC := Lib.hid HS
  have hm := HC.out.rebase
  have HOK := Lib.hid (HS.val 0 rfl).ok
  have HX1 := Lib.hid hx.1
  have HX2 := Lib.hid hx.2
  have HCN := Lib.hid hc
  clear HS hg hx hc
  obtain ⟨cla, ins, p1, p2, A4, dn, dc, b, le, long, A5, rn, rc, rb, sw⟩ := x
  obtain ⟨lcla, lins, lp1, lp2, LA, ln, lc, lb, lle, llong, LB, lm, lk, lrb, lsw⟩ := l
  dsimp only [Trn.cells] at HX1 HX2 hx1 hx2 hl1 hl2 ⊢
  unfold rst cch
  generalize hwp : Sec.wrap s ⟨cla, ins, p1, p2, b, le, long⟩ = r at *
  obtain ⟨s1, y0, y1, y2, y3, yd, yle, ylong⟩ := r
  have hmr := Sec.wrap_more HOK.out ⟨cla, ins, p1, p2, b, le, long⟩
  rw [hwp] at hmr
  obtain ⟨hmr1, hmr2⟩ := hmr
  dsimp only at hmr1 hmr2
  rw [HX1.out.1] at hmr2
  have HM1 := Lib.hid hmr1
  clear hmr1
  obtain ⟨er, her⟩ : ∃ er, Sec.wrapE s ⟨cla, ins, p1, p2, b, le, long⟩ = er := ⟨_, rfl⟩
  have HWP := Lib.hid hwp
  have HER := Lib.hid her
  generalize hyn : yd.length = yn at *
  have HYN := Lib.hid hyn
  clear hwp her hyn
  go_enter Tryz.func8, Tryz.ntmps8
  go_wp2_with (first | go_skip | ((with_reducible show wpList _ _ _ _ _ (World.alloc _ _)); refine wpList_up hm ?_; clear hm; intro n w hn hn2 hk hm hd hd2 ho; (try rw [← hn]); replace hn := Nat.le_of_eq hn.symm) | ((first | ((with_reducible show wpList _ _ _ (Oper.mk _ (Op.box _ _) _ _ _ _ :: _) _ _); (refine bxA hm ?_; clear hm; intro n w hn hz hm ho; (try simp only [List.cons_append, List.nil_append] at hm))) | ((with_reducible show wpList _ _ _ (Oper.mk _ (Op.load _ _) _ _ _ _ :: _) _ _); first | (refine ldA hm ?_) | (refine laA hm ?_)) | ((with_reducible show wpList _ _ _ (Oper.mk _ (Op.store _ _ _) _ _ _ _ :: _) _ _); (refine stA hm ?_; clear hm; intro w hz hm ho)) | ((with_reducible show wpList _ _ _ (Oper.mk _ (Op.alloc _) _ _ _ _ :: _) _ _); (refine alA hm ?_; clear hm; intro n w hn hz hm ho; (try simp only [List.cons_append, List.nil_append] at hm)))); try simp only [Act.put, sxQ]))
  go_at_call 14
  have hby := (HC.out.resync hm).oldO 0 rfl HX1.out
  refine (ch_wrap _ g F s ((HC.out.resync hm).obj 0 rfl) (by have h := HCN.out; omega) cla ins p1 p2 A4 dn dc b hby.1 hby.2 (by omega) le long).mono ?_
  clear hby
  intro e w3 hres
  unfold WrRes at hres
  rw [HWP.out, HER.out] at hres
  obtain ⟨A6, c6, F3, rfl, hown, hch, hon, hF, hd6⟩ := hres
  dsimp only at hown hch
  rw [HYN.out] at hown
  have hc2 := (HC.out.resync hm).turned 0 rfl hon hF hch.sup hown hd6
  clear hown hch hon hF hd6
  clear HC hm
  simp only [List.nil_append, List.cons_append, List.set_cons_zero, List.set_cons_succ] at hc2
  have HC := Lib.hid hc2
  clear hc2
  have hm := HC.out.rebase
  dsimp only
  rw [HYN.out]
  unfold cmdV
  go_wp2_with (first | go_skip | ((with_reducible show wpList _ _ _ _ _ (World.alloc _ _)); refine wpList_up hm ?_; clear hm; intro n w hn hn2 hk hm hd hd2 ho; (try rw [← hn]); replace hn := Nat.le_of_eq hn.symm) | ((first | ((with_reducible show wpList _ _ _ (Oper.mk _ (Op.box _ _) _ _ _ _ :: _) _ _); (refine bxA hm ?_; clear hm; intro n w hn hz hm ho; (try simp only [List.cons_append, List.nil_append] at hm))) | ((with_reducible show wpList _ _ _ (Oper.mk _ (Op.load _ _) _ _ _ _ :: _) _ _); first | (refine ldA hm ?_) | (refine laA hm ?_)) | ((with_reducible show wpList _ _ _ (Oper.mk _ (Op.store _ _ _) _ _ _ _ :: _) _ _); (refine stA hm ?_; clear hm; intro w hz hm ho)) | ((with_reducible show wpList _ _ _ (Oper.mk _ (Op.alloc _) _ _ _ _ :: _) _ _); (refine alA hm ?_; clear hm; intro n w hn hz hm ho; (try simp only [List.cons_append, List.nil_append] at hm)))); try simp only [Act.put, sxQ]))
  go_at_call 18
  have hsc := HC.out.resync hm
  refine (ref24_Wrap _ a s (hsc.val 0 rfl) (by have h := HCN.out; omega) cla ins p1 p2 A4 dn dc b (hsc.old HX1.out) (by omega) le long).mono ?_
  intro e w4 hres
  unfold RWr at hres
  rw [HWP.out, HER.out] at hres
  obtain ⟨a2, A7, c7, rfl, hR, hb, hfS, hfA, hbl⟩ := hres
  dsimp only at hb hfA
  rw [HYN.out] at hb hfA
  have hl9 := (hsc.below hbl).val 1 rfl
  have hc2 := hsc.plus (hsc.below hbl) hR.sup (fun q hq => by
    rcases (hfS _ (Far.blks _)).sub q hq with h9 | h9
    · exact .inl ⟨_, List.mem_of_getElem? (i := 0) rfl, h9⟩
    · exact .inr (.inl h9))
  have hc2 := hsc.plus hc2 (Trn.sup (x := ⟨y0, y1, y2, y3, A7, yn, c7, yd, yle, ylong, LB, lm, lk, lrb, lsw⟩) ⟨hb, hl9.2⟩) (fun q hq => by
    rcases blks_trn hq with ⟨x, e, hn, rfl⟩ | ⟨x, e, hn, rfl⟩
    · rcases hfA _ (byt_old HX1.out) hn x e with h9 | h9
      · exact .inr (.inr h9)
      · exact .inr (.inl h9)
    · exact .inl ⟨_, List.mem_of_getElem? (i := 1) rfl, trn_blks2 (x := ⟨lcla, lins, lp1, lp2, LA, ln, lc, lb, lle, llong, LB, lm, lk, lrb, lsw⟩) e hn⟩)
  clear hsc hR hb hfS hfA hl9
  clear HC hm
  simp only [List.nil_append, List.cons_append, List.set_cons_zero, List.set_cons_succ] at hc2
  have HC := Lib.hid hc2
  clear hc2
  have hm := HC.out.rebase
  dsimp only
  rw [HYN.out]
  unfold rst cch cmdV
  go_wp2_with (first | go_skip | ((with_reducible show wpList _ _ _ _ _ (World.alloc _ _)); refine wpList_up hm ?_; clear hm; intro n w hn hn2 hk hm hd hd2 ho; (try rw [← hn]); replace hn := Nat.le_of_eq hn.symm) | ((first | ((with_reducible show wpList _ _ _ (Oper.mk _ (Op.box _ _) _ _ _ _ :: _) _ _); (refine bxA hm ?_; clear hm; intro n w hn hz hm ho; (try simp only [List.cons_append, List.nil_append] at hm))) | ((with_reducible show wpList _ _ _ (Oper.mk _ (Op.load _ _) _ _ _ _ :: _) _ _); first | (refine ldA hm ?_) | (refine laA hm ?_)) | ((with_reducible show wpList _ _ _ (Oper.mk _ (Op.store _ _ _) _ _ _ _ :: _) _ _); (refine stA hm ?_; clear hm; intro w hz hm ho)) | ((with_reducible show wpList _ _ _ (Oper.mk _ (Op.alloc _) _ _ _ _ :: _) _ _); (refine alA hm ?_; clear hm; intro n w hn hz hm ho; (try simp only [List.cons_append, List.nil_append] at hm)))); try simp only [Act.put, sxQ]))
  have hw9 := (hm.drew.wo 7).wo 6
  simp only [List.eraseIdx_cons_zero, List.eraseIdx_cons_succ] at hw9
  refine wp_region_noPanic ?_
  refine wp_region_held_drew (S := MemS _ _ _ _) (by kernel_rfl) (MemS.of hw9) (fun hHeld => ?_)
  refine wpAnyH_fresh (by repeat (first | apply Fresh.a | apply Fresh.b)) ?_
  clear hw9
  replace hm := hm.drew
  iterate 8 (first | (refine takeN 0 hHeld ?_) | (refine takeY 0 ?_ hHeld ?_ ?_; rotate_left 1; (first | (intro w9 h9; (with_reducible show (execOp _ (Oper.mk _ (Op.load _ _) _ _ _ _)).run _ _ = _); first | exact h9.ldA | exact h9.laA) | focus (intro w9 hSw; go_simp; (try (with_reducible rfl)); done))); try simp only [Act.put, sxQ])
  refine wpAnyH_ready (rs := [8]) (by kernel_rfl) (by simp) ?_
  refine AllReadyH.cons2 (by simp only [sxN]; first | done | exact rfl) (fun K hK => ?_)
  rw [if_pos (by rfl)]
  go_simp
  refine (ref04_Same y0 y1 y2 y3 A6 yn c6 yd yle ylong y0 y1 y2 y3 A7 yn c7 yd yle ylong _ ((HC.out.resync hm).byt 0 rfl) ((HC.out.resync hm).val 3 rfl).1 (by omega) (by omega)).mono ?_
  rw [smB_refl]
  rintro e w9 ⟨rfl, hbl⟩
  replace hm := hm.below hbl
  go_simp
  refine hK.out _ _ (MemS.of ((hm.wo 7).wo 6)) (fun hHeld => ?_)
  clear hK K
  try simp only [Act.put, sxQ]
  iterate 1 (first | (refine takeN 9 hHeld ?_) | (refine takeY 9 ?_ hHeld ?_ ?_; rotate_left 1; (first | (intro w9 h9; (with_reducible show (execOp _ (Oper.mk _ (Op.load _ _) _ _ _ _)).run _ _ = _); first | exact h9.ldA) | focus (intro w9 hSw; go_simp; (try (with_reducible rfl)); done))); try simp only [Act.put, sxQ])
  refine wpAnyH_ready (rs := [10]) (by kernel_rfl) (by simp) ?_
  refine AllReadyH.cons2 (by simp only [sxN]; first | done | exact rfl) (fun K hK => ?_)
  refine stB hm ?_
  clear hm; intro w hz hm ho
  refine hK.out _ _ (MemS.of ((hm.wo 7).wo 6)) (fun hHeld => ?_)
  clear hK K
  try simp only [Act.put, sxQ]
  refine wpAnyH_ready (rs := [11]) (by kernel_rfl) (by simp) ?_
  refine AllReadyH.cons2 (by simp only [sxN]; first | done | exact rfl) (fun K hK => ?_)
  refine stB hm ?_
  clear hm; intro w hz hm ho
  refine hK.out _ _ (MemS.of ((hm.wo 7).wo 6)) (fun hHeld => ?_)
  clear hK K
  try simp only [Act.put, sxQ]
  iterate 1 (first | (refine takeN 12 hHeld ?_) | (refine takeY 12 ?_ hHeld ?_ ?_; rotate_left 1; (first | (intro w9 h9; (with_reducible show (execOp _ (Oper.mk _ (Op.load _ _) _ _ _ _)).run _ _ = _); first | exact h9.ldA) | focus (intro w9 hSw; go_simp; (try (with_reducible rfl)); done))); try simp only [Act.put, sxQ])
  refine wpAnyH_done (by kernel_rfl) ?_ _
  refine NoPanic.normal ?_
  go_wp2_with fail
  refine bodyPost_ret (results_do rfl _ _ _ 36 _ _ rfl (by exact hm.at_ 6 rfl) Tryz.underlying36 rfl (by kernel_rfl) _ 41 _ _ rfl (by exact hm.at_ 7 rfl) Tryz.underlying41 rfl (by kernel_rfl)) rfl ?_
  exact ⟨s1, a2, ⟨y0, y1, y2, y3, A7, yn, c7, yd, yle, ylong, LB, lm, lk, lrb, lsw⟩, F3, rfl, HM1.out, (by show yn ≤ 700; omega), hl2, (HC.out.resync hm).part (.cons_cons _ (.cons_cons _ (.cons_cons _ (List.nil_sublist _)))) (List.nil_sublist _) (.cons _ (.cons _ (List.Sublist.refl _)))⟩
set_option maxRecDepth 100000 in
theorem do_unw (w00 w : World) (g : Nat) (F : Nat → Prop) (s : Sec.S) (a : ChS) (l : Trn) (e3 e9 e11 : Ent) (HS : Scn w00 w [e3, e9, e11] [] [⟨F, fun u => ChAt' u g F s⟩] [⟨blks (rst a s), fun u => RSt u a s⟩, ⟨blks l.cells.toArray, fun u => Trn.ok u l⟩]) (hg : HasEt w00) (hc : s.cnt < 100)
    (k : Int) (x : Trn) (hx : Trn.ok w00 x) (hx1 : x.dn ≤ 600) (hx2 : x.n' ≤ 600) (hl1 : l.dn ≤ 700) (hl2 : l.n' ≤ 700) (hk : k = 1) :
    Calls Tryz.prog 8 #[.pointer (some ⟨g, 0, none⟩), .agg (rst a s), .agg (.int .i64 k :: x.cells).toArray, .agg l.cells.toArray] w (DoRes w00 g s.cnt [e3, e9, e11]) := by
  subst hk
  have HG := Lib.hid hg
  have HP := Lib.hid hg.pos
  have HC := Lib.hid HS
  have hm := HC.out.rebase
  have HOK := Lib.hid (HS.val 0 rfl).ok
  have HX1 := Lib.hid hx.1
  have HX2 := Lib.hid hx.2
  have HCN := Lib.hid hc
  clear HS hg hx hc
  obtain ⟨cla, ins, p1, p2, A4, dn, dc, b, le, long, A5, rn, rc, rb, sw⟩ := x
  obtain ⟨lcla, lins, lp1, lp2, LA, ln, lc, lb, lle, llong, LB, lm, lk, lrb, lsw⟩ := l
  dsimp only [Trn.cells] at HX1 HX2 hx1 hx2 hl1 hl2 ⊢
  unfold rst cch
  generalize hwp : Sec.unwrap s ⟨cla, ins, p1, p2, b, le, long⟩ = r at *
  obtain ⟨s1, y0, y1, y2, y3, yd, yle, ylong⟩ := r
  have hmr := Sec.unwrap_more (s := s) ⟨cla, ins, p1, p2, b, le, long⟩
  have hml := Sec.unwrap_len HOK.out ⟨cla, ins, p1, p2, b, le, long⟩
  rw [hwp] at hmr hml
  dsimp only at hmr hml
  have HM1 := Lib.hid hmr
  have hbn : b.length ≤ 700 := by rw [HX1.out.1]; omega
  have hmr2 : yd.length ≤ 70000 := by omega
  clear hmr hml
  obtain ⟨er, her⟩ : ∃ er, Sec.unwrapE s ⟨cla, ins, p1, p2, b, le, long⟩ = er := ⟨_, rfl⟩
  have HWP := Lib.hid hwp
  have HER := Lib.hid her
  generalize hyn : yd.length = yn at *
  have HYN := Lib.hid hyn
  clear hwp her hyn
  go_enter Tryz.func8, Tryz.ntmps8
  go_wp2_with (first | go_skip | ((with_reducible show wpList _ _ _ _ _ (World.alloc _ _)); refine wpList_up hm ?_; clear hm; intro n w hn hn2 hk hm hd hd2 ho; (try rw [← hn]); replace hn := Nat.le_of_eq hn.symm) | ((first | ((with_reducible show wpList _ _ _ (Oper.mk _ (Op.box _ _) _ _ _ _ :: _) _ _); (refine bxA hm ?_; clear hm; intro n w hn hz hm ho; (try simp only [List.cons_append, List.nil_append] at hm))) | ((with_reducible show wpList _ _ _ (Oper.mk _ (Op.load _ _) _ _ _ _ :: _) _ _); first | (refine ldA hm ?_) | (refine laA hm ?_)) | ((with_reducible show wpList _ _ _ (Oper.mk _ (Op.store _ _ _) _ _ _ _ :: _) _ _); (refine stA hm ?_; clear hm; intro w hz hm ho)) | ((with_reducible show wpList _ _ _ (Oper.mk _ (Op.alloc _) _ _ _ _ :: _) _ _); (refine alA hm ?_; clear hm; intro n w hn hz hm ho; (try simp only [List.cons_append, List.nil_append] at hm)))); try simp only [Act.put, sxQ]))
  go_at_call 15
  have hby := (HC.out.resync hm).oldO 0 rfl HX1.out
  refine (ch_unwrap _ g F s ((HC.out.resync hm).obj 0 rfl) (HG.out.below (HC.out.resync hm).low HP.out) (fun h => by have := (HC.out.resync hm).lo 0 rfl 0 h; have := HP.out; omega) (by have h := HCN.out; omega) cla ins p1 p2 A4 dn dc b hby.1 hby.2 (by omega) le long).mono ?_
  clear hby
  intro e w3 hres
  unfold UnRes at hres
  rw [HWP.out, HER.out] at hres
  obtain ⟨A6, c6, F3, rfl, hown, hch, hon, hF, hd6⟩ := hres
  dsimp only at hown hch
  rw [HYN.out] at hown
  have hc2 := (HC.out.resync hm).turned 0 rfl hon hF hch.sup hown hd6
  clear hown hch hon hF hd6
  clear HC hm
  simp only [List.nil_append, List.cons_append, List.set_cons_zero, List.set_cons_succ] at hc2
  have HC := Lib.hid hc2
  clear hc2
  have hm := HC.out.rebase
  dsimp only
  rw [HYN.out]
  unfold cmdV
  go_wp2_with (first | go_skip | ((with_reducible show wpList _ _ _ _ _ (World.alloc _ _)); refine wpList_up hm ?_; clear hm; intro n w hn hn2 hk hm hd hd2 ho; (try rw [← hn]); replace hn := Nat.le_of_eq hn.symm) | ((first | ((with_reducible show wpList _ _ _ (Oper.mk _ (Op.box _ _) _ _ _ _ :: _) _ _); (refine bxA hm ?_; clear hm; intro n w hn hz hm ho; (try simp only [List.cons_append, List.nil_append] at hm))) | ((with_reducible show wpList _ _ _ (Oper.mk _ (Op.load _ _) _ _ _ _ :: _) _ _); first | (refine ldA hm ?_) | (refine laA hm ?_)) | ((with_reducible show wpList _ _ _ (Oper.mk _ (Op.store _ _ _) _ _ _ _ :: _) _ _); (refine stA hm ?_; clear hm; intro w hz hm ho)) | ((with_reducible show wpList _ _ _ (Oper.mk _ (Op.alloc _) _ _ _ _ :: _) _ _); (refine alA hm ?_; clear hm; intro n w hn hz hm ho; (try simp only [List.cons_append, List.nil_append] at hm)))); try simp only [Act.put, sxQ]))
  go_at_call 20
  have hsc := HC.out.resync hm
  refine (ref24_Unwrap _ a s (hsc.val 0 rfl) (by have h := HCN.out; omega) cla ins p1 p2 A4 dn dc b (hsc.old HX1.out) (by omega) le long).mono ?_
  intro e w4 hres
  unfold RWr at hres
  rw [HWP.out, HER.out] at hres
  obtain ⟨a2, A7, c7, rfl, hR, hb, hfS, hfA, hbl⟩ := hres
  dsimp only at hb hfA
  rw [HYN.out] at hb hfA
  have hl9 := (hsc.below hbl).val 1 rfl
  have hc2 := hsc.plus (hsc.below hbl) hR.sup (fun q hq => by
    rcases (hfS _ (Far.blks _)).sub q hq with h9 | h9
    · exact .inl ⟨_, List.mem_of_getElem? (i := 0) rfl, h9⟩
    · exact .inr (.inl h9))
  have hc2 := hsc.plus hc2 (bytSup hb) (fun q hq => by
    obtain ⟨_, _, _, x, hm9, hn, e, rfl⟩ := hq
    simp at hm9
    obtain ⟨rfl, rfl, rfl⟩ := hm9
    rcases hfA _ (byt_old HX1.out) hn x e with h9 | h9
    · exact .inr (.inr h9)
    · exact .inr (.inl h9))
  have hc2 := hsc.plus hc2 (Trn.sup (x := ⟨lcla, lins, lp1, lp2, LA, ln, lc, lb, lle, llong, LB, lm, lk, lrb, lsw⟩) hl9) (fun q hq => .inl ⟨_, List.mem_of_getElem? (i := 1) rfl, hq⟩)
  clear hsc hR hb hfS hfA hl9
  clear HC hm
  simp only [List.nil_append, List.cons_append, List.set_cons_zero, List.set_cons_succ] at hc2
  have HC := Lib.hid hc2
  clear hc2
  have hm := HC.out.rebase
  dsimp only
  rw [HYN.out]
  unfold rst cch cmdV
  go_wp2_with (first | go_skip | ((with_reducible show wpList _ _ _ _ _ (World.alloc _ _)); refine wpList_up hm ?_; clear hm; intro n w hn hn2 hk hm hd hd2 ho; (try rw [← hn]); replace hn := Nat.le_of_eq hn.symm) | ((first | ((with_reducible show wpList _ _ _ (Oper.mk _ (Op.box _ _) _ _ _ _ :: _) _ _); (refine bxA hm ?_; clear hm; intro n w hn hz hm ho; (try simp only [List.cons_append, List.nil_append] at hm))) | ((with_reducible show wpList _ _ _ (Oper.mk _ (Op.load _ _) _ _ _ _ :: _) _ _); first | (refine ldA hm ?_) | (refine laA hm ?_)) | ((with_reducible show wpList _ _ _ (Oper.mk _ (Op.store _ _ _) _ _ _ _ :: _) _ _); (refine stA hm ?_; clear hm; intro w hz hm ho)) | ((with_reducible show wpList _ _ _ (Oper.mk _ (Op.alloc _) _ _ _ _ :: _) _ _); (refine alA hm ?_; clear hm; intro n w hn hz hm ho; (try simp only [List.cons_append, List.nil_append] at hm)))); try simp only [Act.put, sxQ]))
  have hw9 := (hm.drew.wo 7).wo 6
  simp only [List.eraseIdx_cons_zero, List.eraseIdx_cons_succ] at hw9
  refine wp_region_noPanic ?_
  refine wp_region_held_drew (S := MemS _ _ _ _) (by kernel_rfl) (MemS.of hw9) (fun hHeld => ?_)
  refine wpAnyH_fresh (by repeat (first | apply Fresh.a | apply Fresh.b)) ?_
  clear hw9
  replace hm := hm.drew
  iterate 8 (first | (refine takeN 0 hHeld ?_) | (refine takeY 0 ?_ hHeld ?_ ?_; rotate_left 1; (first | (intro w9 h9; (with_reducible show (execOp _ (Oper.mk _ (Op.load _ _) _ _ _ _)).run _ _ = _); first | exact h9.ldA | exact h9.laA) | focus (intro w9 hSw; go_simp; (try (with_reducible rfl)); done))); try simp only [Act.put, sxQ])
  refine wpAnyH_ready (rs := [8]) (by kernel_rfl) (by simp) ?_
  refine AllReadyH.cons2 (by simp only [sxN]; first | done | exact rfl) (fun K hK => ?_)
  rw [if_pos (by rfl)]
  go_simp
  refine (ref04_Same y0 y1 y2 y3 A6 yn c6 yd yle ylong y0 y1 y2 y3 A7 yn c7 yd yle ylong _ ((HC.out.resync hm).byt 0 rfl) ((HC.out.resync hm).val 3 rfl) (by omega) (by omega)).mono ?_
  rw [smB_refl]
  rintro e w9 ⟨rfl, hbl⟩
  replace hm := hm.below hbl
  go_simp
  refine hK.out _ _ (MemS.of ((hm.wo 7).wo 6)) (fun hHeld => ?_)
  clear hK K
  try simp only [Act.put, sxQ]
  iterate 1 (first | (refine takeN 9 hHeld ?_) | (refine takeY 9 ?_ hHeld ?_ ?_; rotate_left 1; (first | (intro w9 h9; (with_reducible show (execOp _ (Oper.mk _ (Op.load _ _) _ _ _ _)).run _ _ = _); first | exact h9.ldA) | focus (intro w9 hSw; go_simp; (try (with_reducible rfl)); done))); try simp only [Act.put, sxQ])
  refine wpAnyH_ready (rs := [10]) (by kernel_rfl) (by simp) ?_
  refine AllReadyH.cons2 (by simp only [sxN]; first | done | exact rfl) (fun K hK => ?_)
  refine stB hm ?_
  clear hm; intro w hz hm ho
  refine hK.out _ _ (MemS.of ((hm.wo 7).wo 6)) (fun hHeld => ?_)
  clear hK K
  try simp only [Act.put, sxQ]
  refine wpAnyH_ready (rs := [11]) (by kernel_rfl) (by simp) ?_
  refine AllReadyH.cons2 (by simp only [sxN]; first | done | exact rfl) (fun K hK => ?_)
  refine stB hm ?_
  clear hm; intro w hz hm ho
  refine hK.out _ _ (MemS.of ((hm.wo 7).wo 6)) (fun hHeld => ?_)
  clear hK K
  try simp only [Act.put, sxQ]
  iterate 1 (first | (refine takeN 12 hHeld ?_) | (refine takeY 12 ?_ hHeld ?_ ?_; rotate_left 1; (first | (intro w9 h9; (with_reducible show (execOp _ (Oper.mk _ (Op.load _ _) _ _ _ _)).run _ _ = _); first | exact h9.ldA) | focus (intro w9 hSw; go_simp; (try (with_reducible rfl)); done))); try simp only [Act.put, sxQ])
  refine wpAnyH_done (by kernel_rfl) ?_ _
  refine NoPanic.normal ?_
  go_wp2_with fail
  refine bodyPost_ret (results_do rfl _ _ _ 36 _ _ rfl (by exact hm.at_ 6 rfl) Tryz.underlying36 rfl (by kernel_rfl) _ 41 _ _ rfl (by exact hm.at_ 7 rfl) Tryz.underlying41 rfl (by kernel_rfl)) rfl ?_
  exact ⟨s1, a2, ⟨lcla, lins, lp1, lp2, LA, ln, lc, lb, lle, llong, LB, lm, lk, lrb, lsw⟩, F3, rfl, HM1.out, hl1, hl2, (HC.out.resync hm).part (.cons_cons _ (.cons_cons _ (.cons_cons _ (List.nil_sublist _)))) (List.nil_sublist _) (.cons _ (.cons _ (.cons_cons _ (.cons _ (List.Sublist.refl _)))))⟩
set_option maxRecDepth 100000 in
theorem do_unw4 (w00 w : World) (g : Nat) (F : Nat → Prop) (s : Sec.S) (a : ChS) (l : Trn) (e3 e9 e11 : Ent) (HS : Scn w00 w [e3, e9, e11] [] [⟨F, fun u => ChAt' u g F s⟩] [⟨blks (rst a s), fun u => RSt u a s⟩, ⟨blks l.cells.toArray, fun u => Trn.ok u l⟩]) (hg : HasEt w00) (hc : s.cnt < 100)
    (k : Int) (x : Trn) (hx : Trn.ok w00 x) (hx1 : x.dn ≤ 600) (hx2 : x.n' ≤ 600) (hl1 : l.dn ≤ 700) (hl2 : l.n' ≤ 700) (hk : k = 4) :
    Calls Tryz.prog 8 #[.pointer (some ⟨g, 0, none⟩), .agg (rst a s), .agg (.int .i64 k :: x.cells).toArray, .agg l.cells.toArray] w (DoRes w00 g s.cnt [e3, e9, e11]) := by
  subst hk
  have HG := Lib.hid hg
  have HP := Lib.hid hg.pos
  have HC := Lib.hid HS
  have hm := HC.out.rebase
  have HOK := Lib.hid (HS.val 0 rfl).ok
  have HX1 := Lib.hid hx.1
  have HX2 := Lib.hid hx.2
  have HCN := Lib.hid hc
  clear HS hg hx hc
  obtain ⟨cla, ins, p1, p2, A4, dn, dc, b, le, long, A5, rn, rc, rb, sw⟩ := x
  obtain ⟨lcla, lins, lp1, lp2, LA, ln, lc, lb, lle, llong, LB, lm, lk, lrb, lsw⟩ := l
  dsimp only [Trn.cells] at HX1 HX2 hx1 hx2 hl1 hl2 ⊢
  unfold rst cch
  generalize hwp : Sec.unwrap s ⟨lcla, lins, lp1, lp2, lb, lle, llong⟩ = r at *
  obtain ⟨s1, y0, y1, y2, y3, yd, yle, ylong⟩ := r
  have hmr := Sec.unwrap_more (s := s) ⟨lcla, lins, lp1, lp2, lb, lle, llong⟩
  have hml := Sec.unwrap_len HOK.out ⟨lcla, lins, lp1, lp2, lb, lle, llong⟩
  rw [hwp] at hmr hml
  dsimp only at hmr hml
  have HM1 := Lib.hid hmr
  have hbn : lb.length ≤ 700 := by rw [(HC.out.val 1 rfl : Trn.ok _ _).1.1]; omega
  have hmr2 : yd.length ≤ 70000 := by omega
  clear hmr hml
  obtain ⟨er, her⟩ : ∃ er, Sec.unwrapE s ⟨lcla, lins, lp1, lp2, lb, lle, llong⟩ = er := ⟨_, rfl⟩
  have HWP := Lib.hid hwp
  have HER := Lib.hid her
  generalize hyn : yd.length = yn at *
  have HYN := Lib.hid hyn
  clear hwp her hyn
  go_enter Tryz.func8, Tryz.ntmps8
  go_wp2_with (first | go_skip | ((with_reducible show wpList _ _ _ _ _ (World.alloc _ _)); refine wpList_up hm ?_; clear hm; intro n w hn hn2 hk hm hd hd2 ho; (try rw [← hn]); replace hn := Nat.le_of_eq hn.symm) | ((first | ((with_reducible show wpList _ _ _ (Oper.mk _ (Op.box _ _) _ _ _ _ :: _) _ _); (refine bxA hm ?_; clear hm; intro n w hn hz hm ho; (try simp only [List.cons_append, List.nil_append] at hm))) | ((with_reducible show wpList _ _ _ (Oper.mk _ (Op.load _ _) _ _ _ _ :: _) _ _); first | (refine ldA hm ?_) | (refine laA hm ?_)) | ((with_reducible show wpList _ _ _ (Oper.mk _ (Op.store _ _ _) _ _ _ _ :: _) _ _); (refine stA hm ?_; clear hm; intro w hz hm ho)) | ((with_reducible show wpList _ _ _ (Oper.mk _ (Op.alloc _) _ _ _ _ :: _) _ _); (refine alA hm ?_; clear hm; intro n w hn hz hm ho; (try simp only [List.cons_append, List.nil_append] at hm)))); try simp only [Act.put, sxQ]))
  go_at_call 15
  have ht9 := (HC.out.resync hm).trnV 1 0 rfl rfl
  have hby := And.intro ht9.1.1 ht9.2.1
  clear ht9
  refine (ch_unwrap _ g F s ((HC.out.resync hm).obj 0 rfl) (HG.out.below (HC.out.resync hm).low HP.out) (fun h => by have := (HC.out.resync hm).lo 0 rfl 0 h; have := HP.out; omega) (by have h := HCN.out; omega) lcla lins lp1 lp2 LA ln lc lb hby.1 hby.2 (by omega) lle llong).mono ?_
  clear hby
  intro e w3 hres
  unfold UnRes at hres
  rw [HWP.out, HER.out] at hres
  obtain ⟨A6, c6, F3, rfl, hown, hch, hon, hF, hd6⟩ := hres
  dsimp only at hown hch
  rw [HYN.out] at hown
  have hc2 := (HC.out.resync hm).turned 0 rfl hon hF hch.sup hown hd6
  clear hown hch hon hF hd6
  clear HC hm
  simp only [List.nil_append, List.cons_append, List.set_cons_zero, List.set_cons_succ] at hc2
  have HC := Lib.hid hc2
  clear hc2
  have hm := HC.out.rebase
  dsimp only
  rw [HYN.out]
  unfold cmdV
  go_wp2_with (first | go_skip | ((with_reducible show wpList _ _ _ _ _ (World.alloc _ _)); refine wpList_up hm ?_; clear hm; intro n w hn hn2 hk hm hd hd2 ho; (try rw [← hn]); replace hn := Nat.le_of_eq hn.symm) | ((first | ((with_reducible show wpList _ _ _ (Oper.mk _ (Op.box _ _) _ _ _ _ :: _) _ _); (refine bxA hm ?_; clear hm; intro n w hn hz hm ho; (try simp only [List.cons_append, List.nil_append] at hm))) | ((with_reducible show wpList _ _ _ (Oper.mk _ (Op.load _ _) _ _ _ _ :: _) _ _); first | (refine ldA hm ?_) | (refine laA hm ?_)) | ((with_reducible show wpList _ _ _ (Oper.mk _ (Op.store _ _ _) _ _ _ _ :: _) _ _); (refine stA hm ?_; clear hm; intro w hz hm ho)) | ((with_reducible show wpList _ _ _ (Oper.mk _ (Op.alloc _) _ _ _ _ :: _) _ _); (refine alA hm ?_; clear hm; intro n w hn hz hm ho; (try simp only [List.cons_append, List.nil_append] at hm)))); try simp only [Act.put, sxQ]))
  go_at_call 20
  have hsc := HC.out.resync hm
  refine (ref24_Unwrap _ a s (hsc.val 0 rfl) (by have h := HCN.out; omega) lcla lins lp1 lp2 LA ln lc lb (hsc.val 1 rfl).1 (by omega) lle llong).mono ?_
  intro e w4 hres
  unfold RWr at hres
  rw [HWP.out, HER.out] at hres
  obtain ⟨a2, A7, c7, rfl, hR, hb, hfS, hfA, hbl⟩ := hres
  dsimp only at hb hfA
  rw [HYN.out] at hb hfA
  have hl9 := (hsc.below hbl).val 1 rfl
  have hc2 := hsc.plus (hsc.below hbl) hR.sup (fun q hq => by
    rcases (hfS _ (Far.blks _)).sub q hq with h9 | h9
    · exact .inl ⟨_, List.mem_of_getElem? (i := 0) rfl, h9⟩
    · exact .inr (.inl h9))
  have hc2 := hsc.plus hc2 (bytSup hb) (fun q hq => by
    obtain ⟨_, _, _, x, hm9, hn, e, rfl⟩ := hq
    simp at hm9
    obtain ⟨rfl, rfl, rfl⟩ := hm9
    rcases hfA (blks (⟨lcla, lins, lp1, lp2, LA, ln, lc, lb, lle, llong, LB, lm, lk, lrb, lsw⟩ : Trn).cells.toArray) (fun hn x e => trn_blks1 (x := ⟨lcla, lins, lp1, lp2, LA, ln, lc, lb, lle, llong, LB, lm, lk, lrb, lsw⟩) e hn) hn x e with h9 | h9
    · exact .inl ⟨_, List.mem_of_getElem? (i := 1) rfl, h9⟩
    · exact .inr (.inl h9))
  have hc2 := hsc.plus hc2 (Trn.sup (x := ⟨lcla, lins, lp1, lp2, LA, ln, lc, lb, lle, llong, LB, lm, lk, lrb, lsw⟩) hl9) (fun q hq => .inl ⟨_, List.mem_of_getElem? (i := 1) rfl, hq⟩)
  clear hsc hR hb hfS hfA hl9
  clear HC hm
  simp only [List.nil_append, List.cons_append, List.set_cons_zero, List.set_cons_succ] at hc2
  have HC := Lib.hid hc2
  clear hc2
  have hm := HC.out.rebase
  dsimp only
  rw [HYN.out]
  unfold rst cch cmdV
  go_wp2_with (first | go_skip | ((with_reducible show wpList _ _ _ _ _ (World.alloc _ _)); refine wpList_up hm ?_; clear hm; intro n w hn hn2 hk hm hd hd2 ho; (try rw [← hn]); replace hn := Nat.le_of_eq hn.symm) | ((first | ((with_reducible show wpList _ _ _ (Oper.mk _ (Op.box _ _) _ _ _ _ :: _) _ _); (refine bxA hm ?_; clear hm; intro n w hn hz hm ho; (try simp only [List.cons_append, List.nil_append] at hm))) | ((with_reducible show wpList _ _ _ (Oper.mk _ (Op.load _ _) _ _ _ _ :: _) _ _); first | (refine ldA hm ?_) | (refine laA hm ?_)) | ((with_reducible show wpList _ _ _ (Oper.mk _ (Op.store _ _ _) _ _ _ _ :: _) _ _); (refine stA hm ?_; clear hm; intro w hz hm ho)) | ((with_reducible show wpList _ _ _ (Oper.mk _ (Op.alloc _) _ _ _ _ :: _) _ _); (refine alA hm ?_; clear hm; intro n w hn hz hm ho; (try simp only [List.cons_append, List.nil_append] at hm)))); try simp only [Act.put, sxQ]))
  have hw9 := (hm.drew.wo 7).wo 6
  simp only [List.eraseIdx_cons_zero, List.eraseIdx_cons_succ] at hw9
  refine wp_region_noPanic ?_
  refine wp_region_held_drew (S := MemS _ _ _ _) (by kernel_rfl) (MemS.of hw9) (fun hHeld => ?_)
  refine wpAnyH_fresh (by repeat (first | apply Fresh.a | apply Fresh.b)) ?_
  clear hw9
  replace hm := hm.drew
  iterate 8 (first | (refine takeN 0 hHeld ?_) | (refine takeY 0 ?_ hHeld ?_ ?_; rotate_left 1; (first | (intro w9 h9; (with_reducible show (execOp _ (Oper.mk _ (Op.load _ _) _ _ _ _)).run _ _ = _); first | exact h9.ldA | exact h9.laA) | focus (intro w9 hSw; go_simp; (try (with_reducible rfl)); done))); try simp only [Act.put, sxQ])
  refine wpAnyH_ready (rs := [8]) (by kernel_rfl) (by simp) ?_
  refine AllReadyH.cons2 (by simp only [sxN]; first | done | exact rfl) (fun K hK => ?_)
  rw [if_pos (by rfl)]
  go_simp
  refine (ref04_Same y0 y1 y2 y3 A6 yn c6 yd yle ylong y0 y1 y2 y3 A7 yn c7 yd yle ylong _ ((HC.out.resync hm).byt 0 rfl) ((HC.out.resync hm).val 3 rfl) (by omega) (by omega)).mono ?_
  rw [smB_refl]
  rintro e w9 ⟨rfl, hbl⟩
  replace hm := hm.below hbl
  go_simp
  refine hK.out _ _ (MemS.of ((hm.wo 7).wo 6)) (fun hHeld => ?_)
  clear hK K
  try simp only [Act.put, sxQ]
  iterate 1 (first | (refine takeN 9 hHeld ?_) | (refine takeY 9 ?_ hHeld ?_ ?_; rotate_left 1; (first | (intro w9 h9; (with_reducible show (execOp _ (Oper.mk _ (Op.load _ _) _ _ _ _)).run _ _ = _); first | exact h9.ldA) | focus (intro w9 hSw; go_simp; (try (with_reducible rfl)); done))); try simp only [Act.put, sxQ])
  refine wpAnyH_ready (rs := [10]) (by kernel_rfl) (by simp) ?_
  refine AllReadyH.cons2 (by simp only [sxN]; first | done | exact rfl) (fun K hK => ?_)
  refine stB hm ?_
  clear hm; intro w hz hm ho
  refine hK.out _ _ (MemS.of ((hm.wo 7).wo 6)) (fun hHeld => ?_)
  clear hK K
  try simp only [Act.put, sxQ]
  refine wpAnyH_ready (rs := [11]) (by kernel_rfl) (by simp) ?_
  refine AllReadyH.cons2 (by simp only [sxN]; first | done | exact rfl) (fun K hK => ?_)
  refine stB hm ?_
  clear hm; intro w hz hm ho
  refine hK.out _ _ (MemS.of ((hm.wo 7).wo 6)) (fun hHeld => ?_)
  clear hK K
  try simp only [Act.put, sxQ]
  iterate 1 (first | (refine takeN 12 hHeld ?_) | (refine takeY 12 ?_ hHeld ?_ ?_; rotate_left 1; (first | (intro w9 h9; (with_reducible show (execOp _ (Oper.mk _ (Op.load _ _) _ _ _ _)).run _ _ = _); first | exact h9.ldA) | focus (intro w9 hSw; go_simp; (try (with_reducible rfl)); done))); try simp only [Act.put, sxQ])
  refine wpAnyH_done (by kernel_rfl) ?_ _
  refine NoPanic.normal ?_
  go_wp2_with fail
  refine bodyPost_ret (results_do rfl _ _ _ 36 _ _ rfl (by exact hm.at_ 6 rfl) Tryz.underlying36 rfl (by kernel_rfl) _ 41 _ _ rfl (by exact hm.at_ 7 rfl) Tryz.underlying41 rfl (by kernel_rfl)) rfl ?_
  exact ⟨s1, a2, ⟨lcla, lins, lp1, lp2, LA, ln, lc, lb, lle, llong, LB, lm, lk, lrb, lsw⟩, F3, rfl, HM1.out, hl1, hl2, (HC.out.resync hm).part (.cons_cons _ (.cons_cons _ (.cons_cons _ (List.nil_sublist _)))) (List.nil_sublist _) (.cons _ (.cons _ (.cons_cons _ (.cons _ (List.Sublist.refl _)))))⟩
set_option maxRecDepth 100000 in
theorem do_seal (w00 w : World) (g : Nat) (F : Nat → Prop) (s : Sec.S) (a : ChS) (l : Trn) (e3 e9 e11 : Ent) (HS : Scn w00 w [e3, e9, e11] [] [⟨F, fun u => ChAt' u g F s⟩] [⟨blks (rst a s), fun u => RSt u a s⟩, ⟨blks l.cells.toArray, fun u => Trn.ok u l⟩]) (hg : HasEt w00) (hc : s.cnt < 100)
    (k : Int) (x : Trn) (hx : Trn.ok w00 x) (hx1 : x.dn ≤ 600) (hx2 : x.n' ≤ 600) (hl1 : l.dn ≤ 700) (hl2 : l.n' ≤ 700) (hk : k = 2) :
    Calls Tryz.prog 8 #[.pointer (some ⟨g, 0, none⟩), .agg (rst a s), .agg (.int .i64 k :: x.cells).toArray, .agg l.cells.toArray] w (DoRes w00 g s.cnt [e3, e9, e11]) := by
  subst hk
  have HG := Lib.hid hg
  have HP := Lib.hid hg.pos
  have HC := Lib.hid HS
  have hm := HC.out.rebase
  have HOK := Lib.hid (HS.val 0 rfl).ok
  have HX1 := Lib.hid hx.1
  have HX2 := Lib.hid hx.2
  have HCN := Lib.hid hc
  clear HS hg hx hc
  obtain ⟨cla, ins, p1, p2, A4, dn, dc, b, le, long, A5, rn, rc, rb, sw⟩ := x
  obtain ⟨lcla, lins, lp1, lp2, LA, ln, lc, lb, lle, llong, LB, lm, lk, lrb, lsw⟩ := l
  dsimp only [Trn.cells] at HX1 HX2 hx1 hx2 hl1 hl2 ⊢
  unfold rst cch
  generalize hwp : Sec.sea s rb sw = r at *
  obtain ⟨s1, yd, ysw⟩ := r
  have hmr := Sec.sea_more HOK.out rb sw
  rw [hwp] at hmr
  obtain ⟨hmr1, hmr2⟩ := hmr
  dsimp only at hmr1 hmr2
  rw [HX2.out.1] at hmr2
  have HM1 := Lib.hid hmr1
  clear hmr1
  obtain ⟨er, her⟩ : ∃ er, Sec.sealE s rb sw = er := ⟨_, rfl⟩
  have HWP := Lib.hid hwp
  have HER := Lib.hid her
  generalize hyn : yd.length = yn at *
  have HYN := Lib.hid hyn
  clear hwp her hyn
  go_enter Tryz.func8, Tryz.ntmps8
  go_wp2_with (first | go_skip | ((with_reducible show wpList _ _ _ _ _ (World.alloc _ _)); refine wpList_up hm ?_; clear hm; intro n w hn hn2 hk hm hd hd2 ho; (try rw [← hn]); replace hn := Nat.le_of_eq hn.symm) | ((first | ((with_reducible show wpList _ _ _ (Oper.mk _ (Op.box _ _) _ _ _ _ :: _) _ _); (refine bxA hm ?_; clear hm; intro n w hn hz hm ho; (try simp only [List.cons_append, List.nil_append] at hm))) | ((with_reducible show wpList _ _ _ (Oper.mk _ (Op.load _ _) _ _ _ _ :: _) _ _); first | (refine ldA hm ?_) | (refine laA hm ?_)) | ((with_reducible show wpList _ _ _ (Oper.mk _ (Op.store _ _ _) _ _ _ _ :: _) _ _); (refine stA hm ?_; clear hm; intro w hz hm ho)) | ((with_reducible show wpList _ _ _ (Oper.mk _ (Op.alloc _) _ _ _ _ :: _) _ _); (refine alA hm ?_; clear hm; intro n w hn hz hm ho; (try simp only [List.cons_append, List.nil_append] at hm)))); try simp only [Act.put, sxQ]))
  go_at_call 21
  have hby := (HC.out.resync hm).oldO 0 rfl HX2.out
  refine (ch_seal _ g F s ((HC.out.resync hm).obj 0 rfl) (by have h := HCN.out; omega) A5 rn rc rb hby.1 hby.2 (by omega) sw).mono ?_
  clear hby
  intro e w3 hres
  unfold SaRes at hres
  rw [HWP.out, HER.out] at hres
  obtain ⟨A6, c6, rfl, hown, hch, hon⟩ := hres
  dsimp only at hown hch
  rw [HYN.out] at hown
  have hd8 : ∀ q, F q → ownAt A6 c6 ≠ some q := fun q hq e => by have h1 := (hown.lt q e).1; have h2 := (HC.out.resync hm).lt 0 rfl q hq; omega
  have hc2 := (HC.out.resync hm).turned 0 rfl hon (fun q hq => .inl hq) hch.sup hown hd8
  clear hown hch hon hd8
  clear HC hm
  simp only [List.nil_append, List.cons_append, List.set_cons_zero, List.set_cons_succ] at hc2
  have HC := Lib.hid hc2
  clear hc2
  have hm := HC.out.rebase
  dsimp only
  rw [HYN.out]
  unfold rspV
  go_wp2_with (first | go_skip | ((with_reducible show wpList _ _ _ _ _ (World.alloc _ _)); refine wpList_up hm ?_; clear hm; intro n w hn hn2 hk hm hd hd2 ho; (try rw [← hn]); replace hn := Nat.le_of_eq hn.symm) | ((first | ((with_reducible show wpList _ _ _ (Oper.mk _ (Op.box _ _) _ _ _ _ :: _) _ _); (refine bxA hm ?_; clear hm; intro n w hn hz hm ho; (try simp only [List.cons_append, List.nil_append] at hm))) | ((with_reducible show wpList _ _ _ (Oper.mk _ (Op.load _ _) _ _ _ _ :: _) _ _); first | (refine ldA hm ?_) | (refine laA hm ?_)) | ((with_reducible show wpList _ _ _ (Oper.mk _ (Op.store _ _ _) _ _ _ _ :: _) _ _); (refine stA hm ?_; clear hm; intro w hz hm ho)) | ((with_reducible show wpList _ _ _ (Oper.mk _ (Op.alloc _) _ _ _ _ :: _) _ _); (refine alA hm ?_; clear hm; intro n w hn hz hm ho; (try simp only [List.cons_append, List.nil_append] at hm)))); try simp only [Act.put, sxQ]))
  go_at_call 22
  have hsc := HC.out.resync hm
  refine (ref24_Seal _ a s (hsc.val 0 rfl) (by have h := HCN.out; omega) A5 rn rc rb (hsc.old HX2.out) (by omega) sw).mono ?_
  intro e w4 hres
  unfold RRs at hres
  rw [HWP.out, HER.out] at hres
  obtain ⟨A7, c7, rfl, hR, hb, hfA, hbl⟩ := hres
  dsimp only at hb hfA
  rw [HYN.out] at hb hfA
  have hl9 := (hsc.below hbl).val 1 rfl
  have hc2 := hsc.plus (hsc.below hbl) hR.sup (fun q hq => by
    have hq : blks (rst a s) q := by
      obtain ⟨A, n, c, x, hm9, hn, e, rfl⟩ := hq
      exact ⟨A, n, c, x, by simpa [rst, cch] using hm9, hn, e, rfl⟩
    exact .inl ⟨_, List.mem_of_getElem? (i := 0) rfl, hq⟩)
  have hc2 := hsc.plus hc2 (Trn.sup (x := ⟨lcla, lins, lp1, lp2, LA, ln, lc, lb, lle, llong, A7, yn, c7, yd, ysw⟩) ⟨hl9.1, hb⟩) (fun q hq => by
    rcases blks_trn hq with ⟨x, e, hn, rfl⟩ | ⟨x, e, hn, rfl⟩
    · exact .inl ⟨_, List.mem_of_getElem? (i := 1) rfl, trn_blks1 (x := ⟨lcla, lins, lp1, lp2, LA, ln, lc, lb, lle, llong, LB, lm, lk, lrb, lsw⟩) e hn⟩
    · rcases hfA _ (byt_old HX2.out) hn x e with h9 | h9
      · exact .inr (.inr h9)
      · exact .inr (.inl h9))
  clear hsc hR hb hfA hl9
  clear HC hm
  simp only [List.nil_append, List.cons_append, List.set_cons_zero, List.set_cons_succ] at hc2
  have HC := Lib.hid hc2
  clear hc2
  have hm := HC.out.rebase
  dsimp only
  rw [HYN.out]
  unfold rst cch rspV
  go_wp2_with (first | go_skip | ((with_reducible show wpList _ _ _ _ _ (World.alloc _ _)); refine wpList_up hm ?_; clear hm; intro n w hn hn2 hk hm hd hd2 ho; (try rw [← hn]); replace hn := Nat.le_of_eq hn.symm) | ((first | ((with_reducible show wpList _ _ _ (Oper.mk _ (Op.box _ _) _ _ _ _ :: _) _ _); (refine bxA hm ?_; clear hm; intro n w hn hz hm ho; (try simp only [List.cons_append, List.nil_append] at hm))) | ((with_reducible show wpList _ _ _ (Oper.mk _ (Op.load _ _) _ _ _ _ :: _) _ _); first | (refine ldA hm ?_) | (refine laA hm ?_)) | ((with_reducible show wpList _ _ _ (Oper.mk _ (Op.store _ _ _) _ _ _ _ :: _) _ _); (refine stA hm ?_; clear hm; intro w hz hm ho)) | ((with_reducible show wpList _ _ _ (Oper.mk _ (Op.alloc _) _ _ _ _ :: _) _ _); (refine alA hm ?_; clear hm; intro n w hn hz hm ho; (try simp only [List.cons_append, List.nil_append] at hm)))); try simp only [Act.put, sxQ]))
  have hw9 := (hm.drew.wo 7).wo 6
  simp only [List.eraseIdx_cons_zero, List.eraseIdx_cons_succ] at hw9
  refine wp_region_noPanic ?_
  refine wp_region_held_drew (S := MemS _ _ _ _) (by kernel_rfl) (MemS.of hw9) (fun hHeld => ?_)
  refine wpAnyH_fresh (by repeat (first | apply Fresh.a | apply Fresh.b)) ?_
  clear hw9
  replace hm := hm.drew
  iterate 8 (first | (refine takeN 0 hHeld ?_) | (refine takeY 0 ?_ hHeld ?_ ?_; rotate_left 1; (first | (intro w9 h9; (with_reducible show (execOp _ (Oper.mk _ (Op.load _ _) _ _ _ _)).run _ _ = _); first | exact h9.ldA | exact h9.laA) | focus (intro w9 hSw; go_simp; (try (with_reducible rfl)); done))); try simp only [Act.put, sxQ])
  refine wpAnyH_ready (rs := [8]) (by kernel_rfl) (by simp) ?_
  refine AllReadyH.cons2 (by simp only [sxN]; first | done | exact rfl) (fun K hK => ?_)
  rw [if_pos (by rfl)]
  go_simp
  refine (ref04_SameResponse A6 yn c6 yd ysw A7 yn c7 yd ysw _ ((HC.out.resync hm).byt 0 rfl) (((HC.out.resync hm).val 3 rfl).2) (by omega) (by omega)).mono ?_
  rw [srB_refl]
  rintro e w9 ⟨rfl, hbl⟩
  replace hm := hm.below hbl
  go_simp
  refine hK.out _ _ (MemS.of ((hm.wo 7).wo 6)) (fun hHeld => ?_)
  clear hK K
  try simp only [Act.put, sxQ]
  iterate 1 (first | (refine takeN 9 hHeld ?_) | (refine takeY 9 ?_ hHeld ?_ ?_; rotate_left 1; (first | (intro w9 h9; (with_reducible show (execOp _ (Oper.mk _ (Op.load _ _) _ _ _ _)).run _ _ = _); first | exact h9.ldA) | focus (intro w9 hSw; go_simp; (try (with_reducible rfl)); done))); try simp only [Act.put, sxQ])
  refine wpAnyH_ready (rs := [10]) (by kernel_rfl) (by simp) ?_
  refine AllReadyH.cons2 (by simp only [sxN]; first | done | exact rfl) (fun K hK => ?_)
  refine stB hm ?_
  clear hm; intro w hz hm ho
  refine hK.out _ _ (MemS.of ((hm.wo 7).wo 6)) (fun hHeld => ?_)
  clear hK K
  try simp only [Act.put, sxQ]
  refine wpAnyH_ready (rs := [11]) (by kernel_rfl) (by simp) ?_
  refine AllReadyH.cons2 (by simp only [sxN]; first | done | exact rfl) (fun K hK => ?_)
  refine stB hm ?_
  clear hm; intro w hz hm ho
  refine hK.out _ _ (MemS.of ((hm.wo 7).wo 6)) (fun hHeld => ?_)
  clear hK K
  try simp only [Act.put, sxQ]
  iterate 1 (first | (refine takeN 12 hHeld ?_) | (refine takeY 12 ?_ hHeld ?_ ?_; rotate_left 1; (first | (intro w9 h9; (with_reducible show (execOp _ (Oper.mk _ (Op.load _ _) _ _ _ _)).run _ _ = _); first | exact h9.ldA) | focus (intro w9 hSw; go_simp; (try (with_reducible rfl)); done))); try simp only [Act.put, sxQ])
  refine wpAnyH_done (by kernel_rfl) ?_ _
  refine NoPanic.normal ?_
  go_wp2_with fail
  refine bodyPost_ret (results_do rfl _ _ _ 36 _ _ rfl (by exact hm.at_ 6 rfl) Tryz.underlying36 rfl (by kernel_rfl) _ 41 _ _ rfl (by exact hm.at_ 7 rfl) Tryz.underlying41 rfl (by kernel_rfl)) rfl ?_
  exact ⟨s1, a, ⟨lcla, lins, lp1, lp2, LA, ln, lc, lb, lle, llong, A7, yn, c7, yd, ysw⟩, F, rfl, HM1.out, hl1, (by show yn ≤ 700; omega), (HC.out.resync hm).part (.cons_cons _ (.cons_cons _ (.cons_cons _ (List.nil_sublist _)))) (List.nil_sublist _) (.cons _ (.cons _ (List.Sublist.refl _)))⟩
set_option maxRecDepth 100000 in
theorem do_open (w00 w : World) (g : Nat) (F : Nat → Prop) (s : Sec.S) (a : ChS) (l : Trn) (e3 e9 e11 : Ent) (HS : Scn w00 w [e3, e9, e11] [] [⟨F, fun u => ChAt' u g F s⟩] [⟨blks (rst a s), fun u => RSt u a s⟩, ⟨blks l.cells.toArray, fun u => Trn.ok u l⟩]) (hg : HasEt w00) (hc : s.cnt < 100)
    (k : Int) (x : Trn) (hx : Trn.ok w00 x) (hx1 : x.dn ≤ 600) (hx2 : x.n' ≤ 600) (hl1 : l.dn ≤ 700) (hl2 : l.n' ≤ 700) (hk : k = 3) :
    Calls Tryz.prog 8 #[.pointer (some ⟨g, 0, none⟩), .agg (rst a s), .agg (.int .i64 k :: x.cells).toArray, .agg l.cells.toArray] w (DoRes w00 g s.cnt [e3, e9, e11]) := by
  subst hk
  have HG := Lib.hid hg
  have HP := Lib.hid hg.pos
  have HC := Lib.hid HS
  have hm := HC.out.rebase
  have HOK := Lib.hid (HS.val 0 rfl).ok
  have HX1 := Lib.hid hx.1
  have HX2 := Lib.hid hx.2
  have HCN := Lib.hid hc
  clear HS hg hx hc
  obtain ⟨cla, ins, p1, p2, A4, dn, dc, b, le, long, A5, rn, rc, rb, sw⟩ := x
  obtain ⟨lcla, lins, lp1, lp2, LA, ln, lc, lb, lle, llong, LB, lm, lk, lrb, lsw⟩ := l
  dsimp only [Trn.cells] at HX1 HX2 hx1 hx2 hl1 hl2 ⊢
  unfold rst cch
  generalize hwp : Sec.opn s rb sw = r at *
  obtain ⟨s1, yd, ysw⟩ := r
  have hmr := Sec.opn_more (s := s) rb sw
  have hml := Sec.opn_len HOK.out rb sw
  rw [hwp] at hmr hml
  dsimp only at hmr hml
  have hbn : rb.length ≤ 700 := by rw [HX2.out.1]; omega
  have HM1 := Lib.hid hmr
  have hmr2 : yd.length ≤ 70000 := by omega
  clear hmr hml
  obtain ⟨er, her⟩ : ∃ er, Sec.openE s rb sw = er := ⟨_, rfl⟩
  have HWP := Lib.hid hwp
  have HER := Lib.hid her
  generalize hyn : yd.length = yn at *
  have HYN := Lib.hid hyn
  clear hwp her hyn
  go_enter Tryz.func8, Tryz.ntmps8
  go_wp2_with (first | go_skip | ((with_reducible show wpList _ _ _ _ _ (World.alloc _ _)); refine wpList_up hm ?_; clear hm; intro n w hn hn2 hk hm hd hd2 ho; (try rw [← hn]); replace hn := Nat.le_of_eq hn.symm) | ((first | ((with_reducible show wpList _ _ _ (Oper.mk _ (Op.box _ _) _ _ _ _ :: _) _ _); (refine bxA hm ?_; clear hm; intro n w hn hz hm ho; (try simp only [List.cons_append, List.nil_append] at hm))) | ((with_reducible show wpList _ _ _ (Oper.mk _ (Op.load _ _) _ _ _ _ :: _) _ _); first | (refine ldA hm ?_) | (refine laA hm ?_)) | ((with_reducible show wpList _ _ _ (Oper.mk _ (Op.store _ _ _) _ _ _ _ :: _) _ _); (refine stA hm ?_; clear hm; intro w hz hm ho)) | ((with_reducible show wpList _ _ _ (Oper.mk _ (Op.alloc _) _ _ _ _ :: _) _ _); (refine alA hm ?_; clear hm; intro n w hn hz hm ho; (try simp only [List.cons_append, List.nil_append] at hm)))); try simp only [Act.put, sxQ]))
  go_at_call 24
  have hby := (HC.out.resync hm).oldO 0 rfl HX2.out
  refine (ch_open _ g F s ((HC.out.resync hm).obj 0 rfl) (HG.out.below (HC.out.resync hm).low HP.out) (fun h => by have := (HC.out.resync hm).lo 0 rfl 0 h; have := HP.out; omega) (by have h := HCN.out; omega) A5 rn rc rb hby.1 (by omega) sw).mono ?_
  clear hby
  intro e w3 hres
  unfold OpRes at hres
  rw [HWP.out, HER.out] at hres
  obtain ⟨A6, c6, rfl, hown, hch, hon⟩ := hres
  dsimp only at hown hch
  rw [HYN.out] at hown
  have hd8 : ∀ q, F q → ownAt A6 c6 ≠ some q := fun q hq e => by have h1 := (hown.lt q e).1; have h2 := (HC.out.resync hm).lt 0 rfl q hq; omega
  have hc2 := (HC.out.resync hm).turned 0 rfl hon (fun q hq => .inl hq) hch.sup hown hd8
  clear hown hch hon hd8
  clear HC hm
  simp only [List.nil_append, List.cons_append, List.set_cons_zero, List.set_cons_succ] at hc2
  have HC := Lib.hid hc2
  clear hc2
  have hm := HC.out.rebase
  dsimp only
  rw [HYN.out]
  unfold rspV
  go_wp2_with (first | go_skip | ((with_reducible show wpList _ _ _ _ _ (World.alloc _ _)); refine wpList_up hm ?_; clear hm; intro n w hn hn2 hk hm hd hd2 ho; (try rw [← hn]); replace hn := Nat.le_of_eq hn.symm) | ((first | ((with_reducible show wpList _ _ _ (Oper.mk _ (Op.box _ _) _ _ _ _ :: _) _ _); (refine bxA hm ?_; clear hm; intro n w hn hz hm ho; (try simp only [List.cons_append, List.nil_append] at hm))) | ((with_reducible show wpList _ _ _ (Oper.mk _ (Op.load _ _) _ _ _ _ :: _) _ _); first | (refine ldA hm ?_) | (refine laA hm ?_)) | ((with_reducible show wpList _ _ _ (Oper.mk _ (Op.store _ _ _) _ _ _ _ :: _) _ _); (refine stA hm ?_; clear hm; intro w hz hm ho)) | ((with_reducible show wpList _ _ _ (Oper.mk _ (Op.alloc _) _ _ _ _ :: _) _ _); (refine alA hm ?_; clear hm; intro n w hn hz hm ho; (try simp only [List.cons_append, List.nil_append] at hm)))); try simp only [Act.put, sxQ]))
  go_at_call 25
  have hsc := HC.out.resync hm
  refine (ref24_Open _ a s (hsc.val 0 rfl) (by have h := HCN.out; omega) A5 rn rc rb (hsc.old HX2.out) (by omega) sw).mono ?_
  intro e w4 hres
  unfold RRs at hres
  rw [HWP.out, HER.out] at hres
  obtain ⟨A7, c7, rfl, hR, hb, hfA, hbl⟩ := hres
  dsimp only at hb hfA
  rw [HYN.out] at hb hfA
  have hl9 := (hsc.below hbl).val 1 rfl
  have hc2 := hsc.plus (hsc.below hbl) hR.sup (fun q hq => by
    have hq : blks (rst a s) q := by
      obtain ⟨A, n, c, x, hm9, hn, e, rfl⟩ := hq
      exact ⟨A, n, c, x, by simpa [rst, cch] using hm9, hn, e, rfl⟩
    exact .inl ⟨_, List.mem_of_getElem? (i := 0) rfl, hq⟩)
  have hc2 := hsc.plus hc2 (bytSup hb) (fun q hq => by
    obtain ⟨_, _, _, x, hm9, hn, e, rfl⟩ := hq
    simp at hm9
    obtain ⟨rfl, rfl, rfl⟩ := hm9
    rcases hfA _ (byt_old HX2.out) hn x e with h9 | h9
    · exact .inr (.inr h9)
    · exact .inr (.inl h9))
  have hc2 := hsc.plus hc2 (Trn.sup (x := ⟨lcla, lins, lp1, lp2, LA, ln, lc, lb, lle, llong, LB, lm, lk, lrb, lsw⟩) hl9) (fun q hq => .inl ⟨_, List.mem_of_getElem? (i := 1) rfl, hq⟩)
  clear hsc hR hb hfA hl9
  clear HC hm
  simp only [List.nil_append, List.cons_append, List.set_cons_zero, List.set_cons_succ] at hc2
  have HC := Lib.hid hc2
  clear hc2
  have hm := HC.out.rebase
  dsimp only
  rw [HYN.out]
  unfold rst cch rspV
  go_wp2_with (first | go_skip | ((with_reducible show wpList _ _ _ _ _ (World.alloc _ _)); refine wpList_up hm ?_; clear hm; intro n w hn hn2 hk hm hd hd2 ho; (try rw [← hn]); replace hn := Nat.le_of_eq hn.symm) | ((first | ((with_reducible show wpList _ _ _ (Oper.mk _ (Op.box _ _) _ _ _ _ :: _) _ _); (refine bxA hm ?_; clear hm; intro n w hn hz hm ho; (try simp only [List.cons_append, List.nil_append] at hm))) | ((with_reducible show wpList _ _ _ (Oper.mk _ (Op.load _ _) _ _ _ _ :: _) _ _); first | (refine ldA hm ?_) | (refine laA hm ?_)) | ((with_reducible show wpList _ _ _ (Oper.mk _ (Op.store _ _ _) _ _ _ _ :: _) _ _); (refine stA hm ?_; clear hm; intro w hz hm ho)) | ((with_reducible show wpList _ _ _ (Oper.mk _ (Op.alloc _) _ _ _ _ :: _) _ _); (refine alA hm ?_; clear hm; intro n w hn hz hm ho; (try simp only [List.cons_append, List.nil_append] at hm)))); try simp only [Act.put, sxQ]))
  have hw9 := (hm.drew.wo 7).wo 6
  simp only [List.eraseIdx_cons_zero, List.eraseIdx_cons_succ] at hw9
  refine wp_region_noPanic ?_
  refine wp_region_held_drew (S := MemS _ _ _ _) (by kernel_rfl) (MemS.of hw9) (fun hHeld => ?_)
  refine wpAnyH_fresh (by repeat (first | apply Fresh.a | apply Fresh.b)) ?_
  clear hw9
  replace hm := hm.drew
  iterate 8 (first | (refine takeN 0 hHeld ?_) | (refine takeY 0 ?_ hHeld ?_ ?_; rotate_left 1; (first | (intro w9 h9; (with_reducible show (execOp _ (Oper.mk _ (Op.load _ _) _ _ _ _)).run _ _ = _); first | exact h9.ldA | exact h9.laA) | focus (intro w9 hSw; go_simp; (try (with_reducible rfl)); done))); try simp only [Act.put, sxQ])
  refine wpAnyH_ready (rs := [8]) (by kernel_rfl) (by simp) ?_
  refine AllReadyH.cons2 (by simp only [sxN]; first | done | exact rfl) (fun K hK => ?_)
  rw [if_pos (by rfl)]
  go_simp
  refine (ref04_SameResponse A6 yn c6 yd ysw A7 yn c7 yd ysw _ ((HC.out.resync hm).byt 0 rfl) ((HC.out.resync hm).val 3 rfl) (by omega) (by omega)).mono ?_
  rw [srB_refl]
  rintro e w9 ⟨rfl, hbl⟩
  replace hm := hm.below hbl
  go_simp
  refine hK.out _ _ (MemS.of ((hm.wo 7).wo 6)) (fun hHeld => ?_)
  clear hK K
  try simp only [Act.put, sxQ]
  iterate 1 (first | (refine takeN 9 hHeld ?_) | (refine takeY 9 ?_ hHeld ?_ ?_; rotate_left 1; (first | (intro w9 h9; (with_reducible show (execOp _ (Oper.mk _ (Op.load _ _) _ _ _ _)).run _ _ = _); first | exact h9.ldA) | focus (intro w9 hSw; go_simp; (try (with_reducible rfl)); done))); try simp only [Act.put, sxQ])
  refine wpAnyH_ready (rs := [10]) (by kernel_rfl) (by simp) ?_
  refine AllReadyH.cons2 (by simp only [sxN]; first | done | exact rfl) (fun K hK => ?_)
  refine stB hm ?_
  clear hm; intro w hz hm ho
  refine hK.out _ _ (MemS.of ((hm.wo 7).wo 6)) (fun hHeld => ?_)
  clear hK K
  try simp only [Act.put, sxQ]
  refine wpAnyH_ready (rs := [11]) (by kernel_rfl) (by simp) ?_
  refine AllReadyH.cons2 (by simp only [sxN]; first | done | exact rfl) (fun K hK => ?_)
  refine stB hm ?_
  clear hm; intro w hz hm ho
  refine hK.out _ _ (MemS.of ((hm.wo 7).wo 6)) (fun hHeld => ?_)
  clear hK K
  try simp only [Act.put, sxQ]
  iterate 1 (first | (refine takeN 12 hHeld ?_) | (refine takeY 12 ?_ hHeld ?_ ?_; rotate_left 1; (first | (intro w9 h9; (with_reducible show (execOp _ (Oper.mk _ (Op.load _ _) _ _ _ _)).run _ _ = _); first | exact h9.ldA) | focus (intro w9 hSw; go_simp; (try (with_reducible rfl)); done))); try simp only [Act.put, sxQ])
  refine wpAnyH_done (by kernel_rfl) ?_ _
  refine NoPanic.normal ?_
  go_wp2_with fail
  refine bodyPost_ret (results_do rfl _ _ _ 36 _ _ rfl (by exact hm.at_ 6 rfl) Tryz.underlying36 rfl (by kernel_rfl) _ 41 _ _ rfl (by exact hm.at_ 7 rfl) Tryz.underlying41 rfl (by kernel_rfl)) rfl ?_
  exact ⟨s1, a, ⟨lcla, lins, lp1, lp2, LA, ln, lc, lb, lle, llong, LB, lm, lk, lrb, lsw⟩, F, rfl, HM1.out, hl1, hl2, (HC.out.resync hm).part (.cons_cons _ (.cons_cons _ (.cons_cons _ (List.nil_sublist _)))) (List.nil_sublist _) (.cons _ (.cons _ (.cons_cons _ (.cons _ (List.Sublist.refl _)))))⟩
set_option maxRecDepth 100000 in
theorem do_open5 (w00 w : World) (g : Nat) (F : Nat → Prop) (s : Sec.S) (a : ChS) (l : Trn) (e3 e9 e11 : Ent) (HS : Scn w00 w [e3, e9, e11] [] [⟨F, fun u => ChAt' u g F s⟩] [⟨blks (rst a s), fun u => RSt u a s⟩, ⟨blks l.cells.toArray, fun u => Trn.ok u l⟩]) (hg : HasEt w00) (hc : s.cnt < 100)
    (k : Int) (x : Trn) (hx : Trn.ok w00 x) (hx1 : x.dn ≤ 600) (hx2 : x.n' ≤ 600) (hl1 : l.dn ≤ 700) (hl2 : l.n' ≤ 700) (hk : k = 5) :
    Calls Tryz.prog 8 #[.pointer (some ⟨g, 0, none⟩), .agg (rst a s), .agg (.int .i64 k :: x.cells).toArray, .agg l.cells.toArray] w (DoRes w00 g s.cnt [e3, e9, e11]) := by
  subst hk
  have HG := Lib.hid hg
  have HP := Lib.hid hg.pos
  have HC := Lib.hid HS
  have hm := HC.out.rebase
  have HOK := Lib.hid (HS.val 0 rfl).ok
  have HX1 := Lib.hid hx.1
  have HX2 := Lib.hid hx.2
  have HCN := Lib.hid hc
  clear HS hg hx hc
  obtain ⟨cla, ins, p1, p2, A4, dn, dc, b, le, long, A5, rn, rc, rb, sw⟩ := x
  obtain ⟨lcla, lins, lp1, lp2, LA, ln, lc, lb, lle, llong, LB, lm, lk, lrb, lsw⟩ := l
  dsimp only [Trn.cells] at HX1 HX2 hx1 hx2 hl1 hl2 ⊢
  unfold rst cch
  generalize hwp : Sec.opn s lrb lsw = r at *
  obtain ⟨s1, yd, ysw⟩ := r
  have hmr := Sec.opn_more (s := s) lrb lsw
  have hml := Sec.opn_len HOK.out lrb lsw
  rw [hwp] at hmr hml
  dsimp only at hmr hml
  have hbn : lrb.length ≤ 700 := by rw [(HC.out.val 1 rfl : Trn.ok _ _).2.1]; omega
  have HM1 := Lib.hid hmr
  have hmr2 : yd.length ≤ 70000 := by omega
  clear hmr hml
  obtain ⟨er, her⟩ : ∃ er, Sec.openE s lrb lsw = er := ⟨_, rfl⟩
  have HWP := Lib.hid hwp
  have HER := Lib.hid her
  generalize hyn : yd.length = yn at *
  have HYN := Lib.hid hyn
  clear hwp her hyn
  go_enter Tryz.func8, Tryz.ntmps8
  go_wp2_with (first | go_skip | ((with_reducible show wpList _ _ _ _ _ (World.alloc _ _)); refine wpList_up hm ?_; clear hm; intro n w hn hn2 hk hm hd hd2 ho; (try rw [← hn]); replace hn := Nat.le_of_eq hn.symm) | ((first | ((with_reducible show wpList _ _ _ (Oper.mk _ (Op.box _ _) _ _ _ _ :: _) _ _); (refine bxA hm ?_; clear hm; intro n w hn hz hm ho; (try simp only [List.cons_append, List.nil_append] at hm))) | ((with_reducible show wpList _ _ _ (Oper.mk _ (Op.load _ _) _ _ _ _ :: _) _ _); first | (refine ldA hm ?_) | (refine laA hm ?_)) | ((with_reducible show wpList _ _ _ (Oper.mk _ (Op.store _ _ _) _ _ _ _ :: _) _ _); (refine stA hm ?_; clear hm; intro w hz hm ho)) | ((with_reducible show wpList _ _ _ (Oper.mk _ (Op.alloc _) _ _ _ _ :: _) _ _); (refine alA hm ?_; clear hm; intro n w hn hz hm ho; (try simp only [List.cons_append, List.nil_append] at hm)))); try simp only [Act.put, sxQ]))
  go_at_call 24
  have ht9 := (HC.out.resync hm).trnV 1 0 rfl rfl
  have hby := And.intro ht9.1.2 ht9.2.2
  clear ht9
  refine (ch_open _ g F s ((HC.out.resync hm).obj 0 rfl) (HG.out.below (HC.out.resync hm).low HP.out) (fun h => by have := (HC.out.resync hm).lo 0 rfl 0 h; have := HP.out; omega) (by have h := HCN.out; omega) LB lm lk lrb hby.1 (by omega) lsw).mono ?_
  clear hby
  intro e w3 hres
  unfold OpRes at hres
  rw [HWP.out, HER.out] at hres
  obtain ⟨A6, c6, rfl, hown, hch, hon⟩ := hres
  dsimp only at hown hch
  rw [HYN.out] at hown
  have hd8 : ∀ q, F q → ownAt A6 c6 ≠ some q := fun q hq e => by have h1 := (hown.lt q e).1; have h2 := (HC.out.resync hm).lt 0 rfl q hq; omega
  have hc2 := (HC.out.resync hm).turned 0 rfl hon (fun q hq => .inl hq) hch.sup hown hd8
  clear hown hch hon hd8
  clear HC hm
  simp only [List.nil_append, List.cons_append, List.set_cons_zero, List.set_cons_succ] at hc2
  have HC := Lib.hid hc2
  clear hc2
  have hm := HC.out.rebase
  dsimp only
  rw [HYN.out]
  unfold rspV
  go_wp2_with (first | go_skip | ((with_reducible show wpList _ _ _ _ _ (World.alloc _ _)); refine wpList_up hm ?_; clear hm; intro n w hn hn2 hk hm hd hd2 ho; (try rw [← hn]); replace hn := Nat.le_of_eq hn.symm) | ((first | ((with_reducible show wpList _ _ _ (Oper.mk _ (Op.box _ _) _ _ _ _ :: _) _ _); (refine bxA hm ?_; clear hm; intro n w hn hz hm ho; (try simp only [List.cons_append, List.nil_append] at hm))) | ((with_reducible show wpList _ _ _ (Oper.mk _ (Op.load _ _) _ _ _ _ :: _) _ _); first | (refine ldA hm ?_) | (refine laA hm ?_)) | ((with_reducible show wpList _ _ _ (Oper.mk _ (Op.store _ _ _) _ _ _ _ :: _) _ _); (refine stA hm ?_; clear hm; intro w hz hm ho)) | ((with_reducible show wpList _ _ _ (Oper.mk _ (Op.alloc _) _ _ _ _ :: _) _ _); (refine alA hm ?_; clear hm; intro n w hn hz hm ho; (try simp only [List.cons_append, List.nil_append] at hm)))); try simp only [Act.put, sxQ]))
  go_at_call 25
  have hsc := HC.out.resync hm
  refine (ref24_Open _ a s (hsc.val 0 rfl) (by have h := HCN.out; omega) LB lm lk lrb (hsc.val 1 rfl).2 (by omega) lsw).mono ?_
  intro e w4 hres
  unfold RRs at hres
  rw [HWP.out, HER.out] at hres
  obtain ⟨A7, c7, rfl, hR, hb, hfA, hbl⟩ := hres
  dsimp only at hb hfA
  rw [HYN.out] at hb hfA
  have hl9 := (hsc.below hbl).val 1 rfl
  have hc2 := hsc.plus (hsc.below hbl) hR.sup (fun q hq => by
    have hq : blks (rst a s) q := by
      obtain ⟨A, n, c, x, hm9, hn, e, rfl⟩ := hq
      exact ⟨A, n, c, x, by simpa [rst, cch] using hm9, hn, e, rfl⟩
    exact .inl ⟨_, List.mem_of_getElem? (i := 0) rfl, hq⟩)
  have hc2 := hsc.plus hc2 (bytSup hb) (fun q hq => by
    obtain ⟨_, _, _, x, hm9, hn, e, rfl⟩ := hq
    simp at hm9
    obtain ⟨rfl, rfl, rfl⟩ := hm9
    rcases hfA (blks (⟨lcla, lins, lp1, lp2, LA, ln, lc, lb, lle, llong, LB, lm, lk, lrb, lsw⟩ : Trn).cells.toArray) (fun hn x e => trn_blks2 (x := ⟨lcla, lins, lp1, lp2, LA, ln, lc, lb, lle, llong, LB, lm, lk, lrb, lsw⟩) e hn) hn x e with h9 | h9
    · exact .inl ⟨_, List.mem_of_getElem? (i := 1) rfl, h9⟩
    · exact .inr (.inl h9))
  have hc2 := hsc.plus hc2 (Trn.sup (x := ⟨lcla, lins, lp1, lp2, LA, ln, lc, lb, lle, llong, LB, lm, lk, lrb, lsw⟩) hl9) (fun q hq => .inl ⟨_, List.mem_of_getElem? (i := 1) rfl, hq⟩)
  clear hsc hR hb hfA hl9
  clear HC hm
  simp only [List.nil_append, List.cons_append, List.set_cons_zero, List.set_cons_succ] at hc2
  have HC := Lib.hid hc2
  clear hc2
  have hm := HC.out.rebase
  dsimp only
  rw [HYN.out]
  unfold rst cch rspV
  go_wp2_with (first | go_skip | ((with_reducible show wpList _ _ _ _ _ (World.alloc _ _)); refine wpList_up hm ?_; clear hm; intro n w hn hn2 hk hm hd hd2 ho; (try rw [← hn]); replace hn := Nat.le_of_eq hn.symm) | ((first | ((with_reducible show wpList _ _ _ (Oper.mk _ (Op.box _ _) _ _ _ _ :: _) _ _); (refine bxA hm ?_; clear hm; intro n w hn hz hm ho; (try simp only [List.cons_append, List.nil_append] at hm))) | ((with_reducible show wpList _ _ _ (Oper.mk _ (Op.load _ _) _ _ _ _ :: _) _ _); first | (refine ldA hm ?_) | (refine laA hm ?_)) | ((with_reducible show wpList _ _ _ (Oper.mk _ (Op.store _ _ _) _ _ _ _ :: _) _ _); (refine stA hm ?_; clear hm; intro w hz hm ho)) | ((with_reducible show wpList _ _ _ (Oper.mk _ (Op.alloc _) _ _ _ _ :: _) _ _); (refine alA hm ?_; clear hm; intro n w hn hz hm ho; (try simp only [List.cons_append, List.nil_append] at hm)))); try simp only [Act.put, sxQ]))
  have hw9 := (hm.drew.wo 7).wo 6
  simp only [List.eraseIdx_cons_zero, List.eraseIdx_cons_succ] at hw9
  refine wp_region_noPanic ?_
  refine wp_region_held_drew (S := MemS _ _ _ _) (by kernel_rfl) (MemS.of hw9) (fun hHeld => ?_)
  refine wpAnyH_fresh (by repeat (first | apply Fresh.a | apply Fresh.b)) ?_
  clear hw9
  replace hm := hm.drew
  iterate 8 (first | (refine takeN 0 hHeld ?_) | (refine takeY 0 ?_ hHeld ?_ ?_; rotate_left 1; (first | (intro w9 h9; (with_reducible show (execOp _ (Oper.mk _ (Op.load _ _) _ _ _ _)).run _ _ = _); first | exact h9.ldA | exact h9.laA) | focus (intro w9 hSw; go_simp; (try (with_reducible rfl)); done))); try simp only [Act.put, sxQ])
  refine wpAnyH_ready (rs := [8]) (by kernel_rfl) (by simp) ?_
  refine AllReadyH.cons2 (by simp only [sxN]; first | done | exact rfl) (fun K hK => ?_)
  rw [if_pos (by rfl)]
  go_simp
  refine (ref04_SameResponse A6 yn c6 yd ysw A7 yn c7 yd ysw _ ((HC.out.resync hm).byt 0 rfl) ((HC.out.resync hm).val 3 rfl) (by omega) (by omega)).mono ?_
  rw [srB_refl]
  rintro e w9 ⟨rfl, hbl⟩
  replace hm := hm.below hbl
  go_simp
  refine hK.out _ _ (MemS.of ((hm.wo 7).wo 6)) (fun hHeld => ?_)
  clear hK K
  try simp only [Act.put, sxQ]
  iterate 1 (first | (refine takeN 9 hHeld ?_) | (refine takeY 9 ?_ hHeld ?_ ?_; rotate_left 1; (first | (intro w9 h9; (with_reducible show (execOp _ (Oper.mk _ (Op.load _ _) _ _ _ _)).run _ _ = _); first | exact h9.ldA) | focus (intro w9 hSw; go_simp; (try (with_reducible rfl)); done))); try simp only [Act.put, sxQ])
  refine wpAnyH_ready (rs := [10]) (by kernel_rfl) (by simp) ?_
  refine AllReadyH.cons2 (by simp only [sxN]; first | done | exact rfl) (fun K hK => ?_)
  refine stB hm ?_
  clear hm; intro w hz hm ho
  refine hK.out _ _ (MemS.of ((hm.wo 7).wo 6)) (fun hHeld => ?_)
  clear hK K
  try simp only [Act.put, sxQ]
  refine wpAnyH_ready (rs := [11]) (by kernel_rfl) (by simp) ?_
  refine AllReadyH.cons2 (by simp only [sxN]; first | done | exact rfl) (fun K hK => ?_)
  refine stB hm ?_
  clear hm; intro w hz hm ho
  refine hK.out _ _ (MemS.of ((hm.wo 7).wo 6)) (fun hHeld => ?_)
  clear hK K
  try simp only [Act.put, sxQ]
  iterate 1 (first | (refine takeN 12 hHeld ?_) | (refine takeY 12 ?_ hHeld ?_ ?_; rotate_left 1; (first | (intro w9 h9; (with_reducible show (execOp _ (Oper.mk _ (Op.load _ _) _ _ _ _)).run _ _ = _); first | exact h9.ldA) | focus (intro w9 hSw; go_simp; (try (with_reducible rfl)); done))); try simp only [Act.put, sxQ])
  refine wpAnyH_done (by kernel_rfl) ?_ _
  refine NoPanic.normal ?_
  go_wp2_with fail
  refine bodyPost_ret (results_do rfl _ _ _ 36 _ _ rfl (by exact hm.at_ 6 rfl) Tryz.underlying36 rfl (by kernel_rfl) _ 41 _ _ rfl (by exact hm.at_ 7 rfl) Tryz.underlying41 rfl (by kernel_rfl)) rfl ?_
  exact ⟨s1, a, ⟨lcla, lins, lp1, lp2, LA, ln, lc, lb, lle, llong, LB, lm, lk, lrb, lsw⟩, F, rfl, HM1.out, hl1, hl2, (HC.out.resync hm).part (.cons_cons _ (.cons_cons _ (.cons_cons _ (List.nil_sublist _)))) (List.nil_sublist _) (.cons _ (.cons _ (.cons_cons _ (.cons _ (List.Sublist.refl _)))))⟩
set_option maxRecDepth 100000 in
theorem do_none (w00 w : World) (g : Nat) (F : Nat → Prop) (s : Sec.S) (a : ChS) (l : Trn) (e3 e9 e11 : Ent) (HS : Scn w00 w [e3, e9, e11] [] [⟨F, fun u => ChAt' u g F s⟩] [⟨blks (rst a s), fun u => RSt u a s⟩, ⟨blks l.cells.toArray, fun u => Trn.ok u l⟩]) (hg : HasEt w00) (hc : s.cnt < 100)
    (k : Int) (x : Trn) (hx : Trn.ok w00 x) (hx1 : x.dn ≤ 600) (hx2 : x.n' ≤ 600) (hl1 : l.dn ≤ 700) (hl2 : l.n' ≤ 700) (hk : ¬ (k = 0 ∨ k = 1 ∨ k = 2 ∨ k = 3 ∨ k = 4 ∨ k = 5)) :
    Calls Tryz.prog 8 #[.pointer (some ⟨g, 0, none⟩), .agg (rst a s), .agg (.int .i64 k :: x.cells).toArray, .agg l.cells.toArray] w (DoRes w00 g s.cnt [e3, e9, e11]) := by
  have i0 : (k == 0) = false := beq_eq_false_iff_ne.2 (fun e => hk (by simp [e]))
  have i1 : (k == 1) = false := beq_eq_false_iff_ne.2 (fun e => hk (by simp [e]))
  have i2 : (k == 2) = false := beq_eq_false_iff_ne.2 (fun e => hk (by simp [e]))
  have i3 : (k == 3) = false := beq_eq_false_iff_ne.2 (fun e => hk (by simp [e]))
  have i4 : (k == 4) = false := beq_eq_false_iff_ne.2 (fun e => hk (by simp [e]))
  have i5 : (k == 5) = false := beq_eq_false_iff_ne.2 (fun e => hk (by simp [e]))
  clear hk
  have HG := Lib.hid hg
  have HP := Lib.hid hg.pos
  have HC := Lib.hid HS
  have hm := HC.out.rebase
  have HOK := Lib.hid (HS.val 0 rfl).ok
  have HX1 := Lib.hid hx.1
  have HX2 := Lib.hid hx.2
  have HCN := Lib.hid hc
  clear HS hg hx hc
  obtain ⟨cla, ins, p1, p2, A4, dn, dc, b, le, long, A5, rn, rc, rb, sw⟩ := x
  obtain ⟨lcla, lins, lp1, lp2, LA, ln, lc, lb, lle, llong, LB, lm, lk, lrb, lsw⟩ := l
  dsimp only [Trn.cells] at HX1 HX2 hx1 hx2 hl1 hl2 ⊢
  unfold rst cch
  go_enter Tryz.func8, Tryz.ntmps8
  go_wp2_with (first | go_skip | ((with_reducible show wpList _ _ _ _ _ (World.alloc _ _)); refine wpList_up hm ?_; clear hm; intro n w hn hn2 hk hm hd hd2 ho; (try rw [← hn]); replace hn := Nat.le_of_eq hn.symm) | ((first | ((with_reducible show wpList _ _ _ (Oper.mk _ (Op.box _ _) _ _ _ _ :: _) _ _); (refine bxA hm ?_; clear hm; intro n w hn hz hm ho; (try simp only [List.cons_append, List.nil_append] at hm))) | ((with_reducible show wpList _ _ _ (Oper.mk _ (Op.load _ _) _ _ _ _ :: _) _ _); first | (refine ldA hm ?_) | (refine laA hm ?_)) | ((with_reducible show wpList _ _ _ (Oper.mk _ (Op.store _ _ _) _ _ _ _ :: _) _ _); (refine stA hm ?_; clear hm; intro w hz hm ho)) | ((with_reducible show wpList _ _ _ (Oper.mk _ (Op.alloc _) _ _ _ _ :: _) _ _); (refine alA hm ?_; clear hm; intro n w hn hz hm ho; (try simp only [List.cons_append, List.nil_append] at hm)))); try simp only [Act.put, sxQ]))
  have hw9 := (hm.drew.wo 7).wo 6
  simp only [List.eraseIdx_cons_zero, List.eraseIdx_cons_succ] at hw9
  refine wp_region_noPanic ?_
  refine wp_region_held_drew (S := MemS _ _ _ _) (by kernel_rfl) (MemS.of hw9) (fun hHeld => ?_)
  refine wpAnyH_fresh (by repeat (first | apply Fresh.a | apply Fresh.b)) ?_
  clear hw9
  replace hm := hm.drew
  iterate 2 (first | (refine takeN 0 hHeld ?_) | (refine takeY 0 ?_ hHeld ?_ ?_; rotate_left 1; (first | (intro w9 h9; (with_reducible show (execOp _ (Oper.mk _ (Op.load _ _) _ _ _ _)).run _ _ = _); first | exact h9.ldA | exact h9.laA) | focus (intro w9 hSw; go_simp; (try (with_reducible rfl)); done))); try simp only [Act.put, sxQ])
  refine wpAnyH_ready (rs := [2]) (by kernel_rfl) (by simp) ?_
  refine AllReadyH.cons2 (by simp only [sxN]; first | done | exact rfl) (fun K hK => ?_)
  refine stB hm ?_
  clear hm; intro w hz hm ho
  refine hK.out _ _ (MemS.of ((hm.wo 7).wo 6)) (fun hHeld => ?_)
  clear hK K
  try simp only [Act.put, sxQ]
  refine wpAnyH_ready (rs := [3]) (by kernel_rfl) (by simp) ?_
  refine AllReadyH.cons2 (by simp only [sxN]; first | done | exact rfl) (fun K hK => ?_)
  refine stB hm ?_
  clear hm; intro w hz hm ho
  refine hK.out _ _ (MemS.of ((hm.wo 7).wo 6)) (fun hHeld => ?_)
  clear hK K
  try simp only [Act.put, sxQ]
  iterate 1 (first | (refine takeN 4 hHeld ?_) | (refine takeY 4 ?_ hHeld ?_ ?_; rotate_left 1; (first | (intro w9 h9; (with_reducible show (execOp _ (Oper.mk _ (Op.load _ _) _ _ _ _)).run _ _ = _); first | exact h9.ldA) | focus (intro w9 hSw; go_simp; (try (with_reducible rfl)); done))); try simp only [Act.put, sxQ])
  refine wpAnyH_done (by kernel_rfl) ?_ _
  refine NoPanic.normal ?_
  go_wp2_with fail
  refine bodyPost_ret (results_do rfl _ _ _ 36 _ _ rfl (by exact hm.at_ 6 rfl) Tryz.underlying36 rfl (by kernel_rfl) _ 41 _ _ rfl (by exact hm.at_ 7 rfl) Tryz.underlying41 rfl (by kernel_rfl)) rfl ?_
  exact ⟨s, a, ⟨lcla, lins, lp1, lp2, LA, ln, lc, lb, lle, llong, LB, lm, lk, lrb, lsw⟩, F, rfl, Nat.le_succ _, hl1, hl2, (HC.out.resync hm).part (.cons_cons _ (.cons_cons _ (.cons_cons _ (List.nil_sublist _)))) (List.nil_sublist _) (List.Sublist.refl _)⟩
set_option maxRecDepth 100000 in
theorem law24_do (w00 w : World) (g : Nat) (F : Nat → Prop) (s : Sec.S) (a : ChS) (l : Trn) (e3 e9 e11 : Ent) (HS : Scn w00 w [e3, e9, e11] [] [⟨F, fun u => ChAt' u g F s⟩] [⟨blks (rst a s), fun u => RSt u a s⟩, ⟨blks l.cells.toArray, fun u => Trn.ok u l⟩]) (hg : HasEt w00) (hc : s.cnt < 100)
    (k : Int) (x : Trn) (hx : Trn.ok w00 x) (hx1 : x.dn ≤ 600) (hx2 : x.n' ≤ 600) (hl1 : l.dn ≤ 700) (hl2 : l.n' ≤ 700)  :
    Calls Tryz.prog 8 #[.pointer (some ⟨g, 0, none⟩), .agg (rst a s), .agg (.int .i64 k :: x.cells).toArray, .agg l.cells.toArray] w (DoRes w00 g s.cnt [e3, e9, e11]) := by
  by_cases h0 : k = 0
  · exact do_wrap w00 w g F s a l e3 e9 e11 HS hg hc k x hx hx1 hx2 hl1 hl2 h0
  by_cases h1 : k = 1
  · exact do_unw w00 w g F s a l e3 e9 e11 HS hg hc k x hx hx1 hx2 hl1 hl2 h1
  by_cases h2 : k = 2
  · exact do_seal w00 w g F s a l e3 e9 e11 HS hg hc k x hx hx1 hx2 hl1 hl2 h2
  by_cases h3 : k = 3
  · exact do_open w00 w g F s a l e3 e9 e11 HS hg hc k x hx hx1 hx2 hl1 hl2 h3
  by_cases h4 : k = 4
  · exact do_unw4 w00 w g F s a l e3 e9 e11 HS hg hc k x hx hx1 hx2 hl1 hl2 h4
  by_cases h5 : k = 5
  · exact do_open5 w00 w g F s a l e3 e9 e11 HS hg hc k x hx hx1 hx2 hl1 hl2 h5
  · exact do_none w00 w g F s a l e3 e9 e11 HS hg hc k x hx hx1 hx2 hl1 hl2 (by rintro (h | h | h | h | h | h) <;> contradiction)
end Go.Proofs.YtibaibdgpnkdnaaGreatDoor
