/-
  The journal: what make and its iterator know of each other.
-/
import Derived.Test.YtmhjddmamknglaaGreatJnU
import Derived.Test.YtmhjddmamknglaaGreatSc
namespace Go.Proofs.YtmhjddmamknglaaGreat
set_option maxRecDepth 100000
set_option linter.unusedSimpArgs false
set_option linter.unusedVariables false
open Go.RowKit
set_option maxHeartbeats 8000000

/-- Where all lies. -/
structure MkP where
  g : Nat
  gj : Nat
  ce : Nat
  bj : Nat
  b3 : Nat
  b4 : Nat
  b5 : Nat
  A : Option Addr
  n : Nat
  c : Nat
  l : List JC
/-- What does not turn. -/
def MkP.vs (k : MkP) : List Thing :=
  [⟨fun q => q = k.gj, fun u => JAt u k.gj k.g⟩, ⟨chsG k.A k.n k.l, fun u => Chs u u.heap.size k.A k.n k.c k.l⟩, ⟨fun q => q = k.b3, fun u => Blk u k.b3 28 #[.pointer (some ⟨k.gj, 0, none⟩)]⟩,
    ⟨fun q => q = k.b4, fun u => Blk u k.b4 22 #[.slice k.A k.n k.c]⟩, ⟨fun q => q = k.b5, fun u => Blk u k.b5 95 #[.pointer (some ⟨k.ce, 0, none⟩)]⟩, ⟨fun q => q = k.bj, fun u => Blk u k.bj 28 #[.pointer (some ⟨k.gj, 0, none⟩)]⟩]
/-- What does: the pages, and the named result. -/
def MkP.fs (k : MkP) (G : Nat → Prop) (s : PgS) (p : Pg.P) (er : Int) : List Thing := [⟨G, fun u => PAt u k.g G s p⟩, ⟨fun q => q = k.ce, fun u => Blk u k.ce 38 #[.int .i64 er]⟩]
/-- The iterator's own: the map with its pages. -/
def mapT (F : List UInt8) (mb : Nat) (E : List PE) : Thing := ⟨PE.G mb E, PMap F mb E⟩
/-- The numbers of the pages, in order. -/
def ordC (os : List Nat) : List Value := os.map fun (i : Nat) => Value.int .i64 (i : Int)
def ordO (oA : Option Addr) (oc : Nat) (os : List Nat) : Osl := ⟨3, 1, oA, os.length, oc, ordC os⟩
/-- All lies well, and apart from the loop's record. -/
structure MkW (w0 : World) (Gp : Nat → Prop) (B gm : Nat) (k : MkP) (Vs : List Thing) (G : Nat → Prop) (s : PgS) (p : Pg.P) (er : Int) (W : World) : Prop where
  sc : Sc W (k.fs G s p er) Vs
  low : Only Gp w0 W
  new : ∀ q, G q → Gp q ∨ w0.heap.size ≤ q
  ce : w0.heap.size ≤ k.ce
  gm : s.gm = gm
  base : w0.heap.size ≤ B
  apart : ∀ x ∈ k.fs G s p er ++ Vs, ∀ q, x.G q → q < B ∨ B + 2 ≤ q
section
variable {w0 W w' : World} {Gp : Nat → Prop} {B gm : Nat} {k : MkP} {Vs Vs2 : List Thing} {G G' : Nat → Prop} {s s' : PgS} {p p' : Pg.P} {er er' : Int}
theorem MkW.allG (h : MkW w0 Gp B gm k Vs G s p er W) (q : Nat) (hq : allG (k.fs G s p er) q) : Gp q ∨ w0.heap.size ≤ q := by
  obtain ⟨x, hx, hq⟩ := hq
  simp only [MkP.fs, List.mem_cons, List.not_mem_nil, or_false] at hx
  rcases hx with rfl | rfl
  · exact h.new q hq
  · obtain rfl : q = k.ce := hq
    exact .inr h.ce
theorem MkW.aG (h : MkW w0 Gp B gm k Vs G s p er W) (q : Nat) (hq : Proofs.YtmhjddmamknglaaGreat.allG (k.fs G s p er) q) : q < B ∨ B + 2 ≤ q := by
  obtain ⟨x, hx, hq⟩ := hq
  exact h.apart x (List.mem_append_left _ hx) q hq
theorem MkW.keeps {L : List Ent} {O : List Osl} {Fs : List Thing} (h : MkW w0 Gp B gm k Vs G s p er W) (hB : B + 2 ≤ W.heap.size) (hm : Mth (Proofs.YtmhjddmamknglaaGreat.allG (k.fs G s p er)) W w' L O Fs Vs2) : KeepsL B W w' := KeepsL.only hm.low hB h.aG
theorem MkW.next {L : List Ent} {O : List Osl} {X : List Thing} (h : MkW w0 Gp B gm k Vs G s p er W) (hB : B + 2 ≤ W.heap.size) (hm : Mth (Proofs.YtmhjddmamknglaaGreat.allG (k.fs G s p er)) W w' L O (k.fs G' s' p' er' ++ X) Vs) (hg : s'.gm = gm) : MkW w0 Gp B gm k (Vs ++ O.map oslT ++ X) G' s' p' er' w' := by
  have hnew : ∀ x ∈ k.fs G' s' p' er' ++ X, ∀ q, x.G q → (Gp q ∨ w0.heap.size ≤ q) ∧ (q < B ∨ B + 2 ≤ q) := fun x hx q hq => by
    rcases hm.fold x hx q hq with h1 | h1
    · exact ⟨h.allG q h1, h.aG q h1⟩
    · have := h.low.size
      exact ⟨.inr (Nat.le_trans this h1), .inr (Nat.le_trans hB h1)⟩
  refine { sc := hm.scO.stays, low := h.low.more hm.low (fun q _ hq => h.allG q hq), new := fun q hq => (hnew ⟨G', fun u => PAt u k.g G' s' p'⟩ (by simp [MkP.fs]) q hq).1, ce := h.ce, gm := hg, base := h.base, apart := fun x hx q hq => ?_ }
  rcases List.mem_append.1 hx with hx | hx
  · exact (hnew x (List.mem_append_left _ hx) q hq).2
  · rcases List.mem_append.1 hx with hx | hx
    · rcases List.mem_append.1 hx with hx | hx
      · exact h.apart x (List.mem_append_right _ hx) q hq
      · obtain ⟨y, hy, rfl⟩ := List.mem_map.1 hx
        have := hm.onew y hy q hq
        exact .inr (Nat.le_trans hB this)
    · exact (hnew x (List.mem_append_right _ hx) q hq).2
theorem MkW.few (h : MkW w0 Gp B gm k Vs G s p er W) (hs : ∀ x ∈ Vs2, x ∈ Vs) : MkW w0 Gp B gm k Vs2 G s p er W :=
  { h with sc := h.sc.few hs, apart := fun x hx => h.apart x ((List.mem_append.1 hx).elim (fun e => List.mem_append_left _ e) (fun e => List.mem_append_right _ (hs x e))) }
theorem MkW.onlyB (h : MkW w0 Gp B gm k Vs G s p er W) (ho : Only (fun q => B ≤ q ∧ q < B + 2) W w') : MkW w0 Gp B gm k Vs G s p er w' := by
  refine { h with sc := h.sc.only ho (fun x hx q hq e => ?_) (fun x hx q hq e => ?_), low := h.low.more ho (fun q _ hq => .inr (Nat.le_trans h.base hq.1)) }
  · have := h.apart x (List.mem_append_left _ hx) q hq; omega
  · have := h.apart x (List.mem_append_right _ hx) q hq; omega
theorem MkW.own {row : Option Nat} (h : MkW w0 Gp B gm k Vs G s p er W) (hg : W.grownBy w' row) (hr : ∀ r, row = some r → (B ≤ r ∧ r < B + 2) ∧ ∃ x, W.heap[r]? = some (.loop x)) : MkW w0 Gp B gm k Vs G s p er w' := h.onlyB (only_ownL hg hr)
theorem MkW.quiet (h : MkW w0 Gp B gm k Vs G s p er W) (hb : Below W.heap.size W w') : MkW w0 Gp B gm k Vs G s p er w' :=
  { h with sc := h.sc.only (R := fun _ => False) (Only.of_below hb) (fun _ _ _ _ e => e) (fun _ _ _ _ e => e), low := h.low.more (R' := fun _ => False) (Only.of_below hb) (fun _ _ e => e.elim) }
theorem MkW.putB (h : MkW w0 Gp B gm k Vs G s p er W) (o : Obj) : MkW w0 Gp B gm k Vs G s p er (W.putObj B o) :=
  have hg := grownBy_putObj' W B o
  h.onlyB ⟨hg.os, hg.tape, hg.output, hg.size, fun q _ hn => World.putObj_heap_other (fun e => hn (by omega))⟩
/-! What may be read, whatever the objects do. -/
theorem MkW.val (h : MkW w0 Gp B gm k Vs G s p er W) {x : Thing} (hx : x ∈ Vs) {u : World} (hu : Only (Proofs.YtmhjddmamknglaaGreat.allG (k.fs G s p er)) W u) : x.p u :=
  (h.sc.vs x hx).1.on _ u hu (fun q hq ⟨y, hy, hq2⟩ => (h.sc.vs x hx).2 y hy q hq2 hq)
theorem MkW.rngs (h : MkW w0 Gp B gm k Vs G s p er W) (hv : ∀ x ∈ k.vs, x ∈ Vs) (u : World) (hu : Only (Proofs.YtmhjddmamknglaaGreat.allG (k.fs G s p er)) W u) :
    Rngs [⟨k.b4, 0, [.slice k.A k.n k.c]⟩, ⟨k.b3, 0, [.pointer (some ⟨k.gj, 0, none⟩)]⟩, ⟨k.b5, 0, [.pointer (some ⟨k.ce, 0, none⟩)]⟩, ⟨k.gj, 0, [.pointer (some ⟨k.g, 0, none⟩)]⟩, ⟨k.bj, 0, [.pointer (some ⟨k.gj, 0, none⟩)]⟩] u := by
  have hj : JAt u k.gj k.g := h.val (hv ⟨fun q => q = k.gj, fun u => JAt u k.gj k.g⟩ (by simp only [MkP.vs, List.mem_cons, true_or])) hu
  have h3 : Blk u k.b3 28 #[.pointer (some ⟨k.gj, 0, none⟩)] := h.val (hv ⟨fun q => q = k.b3, fun u => Blk u k.b3 28 #[.pointer (some ⟨k.gj, 0, none⟩)]⟩ (by simp only [MkP.vs, List.mem_cons, true_or, or_true])) hu
  have h4 : Blk u k.b4 22 #[.slice k.A k.n k.c] := h.val (hv ⟨fun q => q = k.b4, fun u => Blk u k.b4 22 #[.slice k.A k.n k.c]⟩ (by simp only [MkP.vs, List.mem_cons, true_or, or_true])) hu
  have h5 : Blk u k.b5 95 #[.pointer (some ⟨k.ce, 0, none⟩)] := h.val (hv ⟨fun q => q = k.b5, fun u => Blk u k.b5 95 #[.pointer (some ⟨k.ce, 0, none⟩)]⟩ (by simp only [MkP.vs, List.mem_cons, true_or, or_true])) hu
  have hb : Blk u k.bj 28 #[.pointer (some ⟨k.gj, 0, none⟩)] := h.val (hv ⟨fun q => q = k.bj, fun u => Blk u k.bj 28 #[.pointer (some ⟨k.gj, 0, none⟩)]⟩ (by simp only [MkP.vs, List.mem_cons, true_or, or_true])) hu
  have one : ∀ {b : Nat} {t : TypeId} {v : Value}, Blk u b t #[v] → u.rangeAt b 0 [v] := fun {b t v} hb j x hx => by
    cases j with
    | zero => cases hx; exact hb.cell 0
    | succ j => simp at hx
  intro r hr
  simp only [List.mem_cons, List.not_mem_nil, or_false] at hr
  rcases hr with rfl | rfl | rfl | rfl | rfl
  · exact one h4
  · exact one h3
  · exact one h5
  · exact one hj
  · exact one hb
theorem MkW.chs (h : MkW w0 Gp B gm k Vs G s p er W) (hv : ∀ x ∈ k.vs, x ∈ Vs) (u : World) (hu : Only (Proofs.YtmhjddmamknglaaGreat.allG (k.fs G s p er)) W u) : Chs u u.heap.size k.A k.n k.c k.l :=
  h.val (x := ⟨chsG k.A k.n k.l, fun u => Chs u u.heap.size k.A k.n k.c k.l⟩) (hv _ (by simp only [MkP.vs, List.mem_cons, true_or, or_true])) hu
theorem MkW.chg (h : MkW w0 Gp B gm k Vs G s p er W) (hv : ∀ x ∈ k.vs, x ∈ Vs) {i : Nat} (hi : i < k.n) : ∃ (b o : Nat) (y : JC), k.A = some ⟨b, o, none⟩ ∧ k.l[i]? = some y ∧ y.n = y.bs.length ∧
    (∀ u : World, Only (Proofs.YtmhjddmamknglaaGreat.allG (k.fs G s p er)) W u → Rngs [⟨b, o + i * 2, [.int .i64 y.off, .slice y.A y.n y.c]⟩] u) ∧
    ∀ j, j < y.n → ∃ yb yo, y.A = some ⟨yb, yo, none⟩ ∧ j < y.c ∧ ∀ u : World, Only (Proofs.YtmhjddmamknglaaGreat.allG (k.fs G s p er)) W u → Rngs [⟨yb, yo + j, [.int .u8 (y.bs.getD j 0).toNat]⟩] u := by
  have hc := h.chs hv W (Only.refl _ _)
  obtain ⟨b, o, y, hA, _, hy, hyi, _⟩ := hc.at_ hi
  refine ⟨b, o, y, hA, hyi, ((hc.ok y hy).1).symm, fun u hu r hr => ?_, fun j hj => ?_⟩
  · obtain rfl := List.mem_singleton.1 hr
    obtain ⟨b2, o2, y2, hA2, _, _, hyi2, hr2⟩ := (h.chs hv u hu).at_ hi
    rw [hA] at hA2; cases hA2
    rw [hyi] at hyi2; cases hyi2
    exact hr2
  · obtain ⟨yb, yo, e, _⟩ := (hc.ok y hy).at_ (by omega)
    refine ⟨yb, yo, e, Nat.lt_of_lt_of_le hj (hc.ok y hy).2.1, fun u hu r hr => ?_⟩
    obtain rfl := List.mem_singleton.1 hr
    have hby := (h.chs hv u hu).ok y hy
    rw [e] at hby
    have h1 := Row.byte hby.2.2 j (by rw [hby.1]; exact hj)
    intro i2 v hv2
    cases i2 with
    | zero => cases hv2; exact h1
    | succ i2 => simp at hv2
end
/-- Between the fill's steps: the pairs P are in; the pages of P2 are there. -/
structure FillS (k : MkP) (W1 w : World) (L : List Ent) (q : Prop) (B : Nat) (st : List (List UInt8)) (P P2 : Jn.Pr) (G : Nat → Prop) (s : PgS) (p : Pg.P) (cc mb : Nat) (E : List PE) (oA : Option Addr) (oc : Nat) : Prop where
  scn : Mth (allG (k.fs G s p 0)) W1 w L [ordO oA oc (Jn.ord P2)] (k.fs G s (p.more cc) 0 ++ [mapT (Jn.appB P (Jn.flat st)) mb E]) k.vs
  ord : E.map (·.i) = Jn.ord P2
  live : PL q (B + 1000 * (Jn.ord P2).length) (p.more cc) st
theorem ents_same {P : Jn.Pr} {E : List PE} (h : E.map (·.i) = Jn.ord P) : ∀ y ∈ E, ∀ z ∈ E, y.i = z.i → y = z := by
  have hn : (E.map (·.i)).Nodup := by rw [h]; exact Jn.ord_nodup P
  clear h
  induction E with
  | nil => intro y hy; cases hy
  | cons x E ih =>
    rw [List.map_cons, List.nodup_cons] at hn
    intro y hy z hz e
    rcases List.mem_cons.1 hy with h1 | hy
    · rcases List.mem_cons.1 hz with h2 | hz
      · exact h1.trans h2.symm
      · exact absurd (List.mem_map.2 ⟨z, hz, by rw [← h1]; exact e.symm⟩) hn.1
    · rcases List.mem_cons.1 hz with h2 | hz
      · exact absurd (List.mem_map.2 ⟨y, hy, by rw [← h2]; exact e⟩) hn.1
      · exact ih hn.2 y hy z hz e
/-- A cell of a slice of one's own is stored to. -/
theorem own_put {w : World} {b c n i : Nat} {cs : List Value} (h : Own w 0 5 1 (some ⟨b, 0, none⟩) n c cs) (hi : i < n) : ∃ cur, Blk w b 5 cur ∧ n ≤ cur.size ∧ ∀ (w' : World) (v : Value), Blk w' b 5 (spl cur i #[v]) → Own w' 0 5 1 (some ⟨b, 0, none⟩) n c (cs.set i v) := by
  obtain ⟨h1, h2, h3, h4⟩ := h
  obtain ⟨g, cur, e, _, h5, h6, h7⟩ := h4 (by omega)
  cases e
  refine ⟨cur, h5, by omega, fun w' v hb => ⟨by rw [List.length_set]; exact h1, h2, h3, fun _ => ⟨b, _, rfl, Nat.zero_le _, hb, ?_, ?_⟩⟩⟩
  · simp [spl]; omega
  · have e : (spl cur i #[v]).toList = cur.toList.set i v := by
      rw [List.set_eq_take_append_cons_drop, if_pos (by simp; omega)]; simp [spl]
    rw [e, ← h7, List.take_set]
section
variable {k : MkP} {W1 w w' : World} {L : List Ent} {q : Prop} {B : Nat} {st : List (List UInt8)} {P P2 : Jn.Pr} {G : Nat → Prop} {s : PgS} {p : Pg.P} {cc mb a : Nat} {v : UInt8} {E : List PE} {oA : Option Addr} {oc : Nat}
theorem FillS.put (h : FillS k W1 w L q B st P (P ++ [(a, v)]) G s p cc mb E oA oc) {x : PE} (hx : x ∈ E) (hst : Jn.Ok st) (hP : ∀ z ∈ P ++ [(a, v)], z.1 < 48 * (st.length - 32)) (hi : x.i = 32 + a / 48) :
    ∃ cur, Blk w x.b 5 cur ∧ 48 ≤ cur.size ∧ ∀ w', Only (fun q => q = x.b) w w' → Blk w' x.b 5 (spl cur (a % 48) #[.int .u8 v.toNat]) → FillS k W1 w' L q B st (P ++ [(a, v)]) (P ++ [(a, v)]) G s p cc mb E oA oc := by
  have ha := hP (a, v) (by simp)
  have hPM : PMap (Jn.appB P (Jn.flat st)) mb E w := h.scn.obj 2 rfl
  obtain ⟨cur, h1, h2, h3⟩ := own_put (i := a % 48) (hPM.own x hx) (by omega)
  refine ⟨cur, h1, h2, fun w' ho hb => ?_⟩
  have hl : (Jn.appB P (Jn.flat st)).length = 48 * (st.length - 32) := by rw [Jn.appB_length]; exact hst.flat_length
  have hE : ∀ y ∈ E, 32 ≤ y.i ∧ y.i - 32 < st.length - 32 := fun y hy => by
    have := Jn.ord_lt hP y.i (by rw [← h.ord]; exact List.mem_map.2 ⟨y, hy, rfl⟩)
    omega
  have h4 := hPM.put hl ha hE (ents_same h.ord) hx hi v (h3 w' _ hb) ho
  rw [← Jn.appB_snoc] at h4
  exact ⟨h.scn.turn 2 rfl (ho.mono fun q _ e => .inr ⟨x, hx, e⟩) (fun q hq => .inl hq) h4.sup, h.ord, h.live⟩
/-- A page more, read and put into the map. -/
theorem FillS.add {A2 : Option Addr} {c2 b c i0 : Nat} (hs : Mth (allG (k.fs G s p 0)) W1 w L [ordO A2 c2 (Jn.ord P ++ [i0]), ⟨5, 1, some ⟨b, 0, none⟩, 48, c, bcells (st.getD i0 [])⟩] (k.fs G s (p.more cc) 0 ++ [mapT (Jn.appB P (Jn.flat st)) mb E]) k.vs) (ho : E.map (·.i) = Jn.ord P) (hl : PL q (B + 1000 * ((Jn.ord P).length + 1)) (p.more cc) st)
    (hst : Jn.Ok st) (ha : a < 48 * (st.length - 32)) (hi : i0 = 32 + a / 48) (hn : i0 ∉ Jn.ord P) (hV : ∀ x ∈ k.vs, ∀ q, x.G q → q < W1.heap.size)
    (hm : MapI w' mb (PE.ents E ++ [((i0 : Int), .slice (some ⟨b, 0, none⟩) 48 c)])) (hg : w.grownBy w' (some mb)) : FillS k W1 w' L q B st P (P ++ [(a, v)]) G s p cc mb (E ++ [⟨i0, b, c⟩]) A2 c2 := by
  have e2 : Jn.ord (P ++ [(a, v)]) = Jn.ord P ++ [i0] := by rw [Jn.ord_new (by rw [← hi]; exact hn), hi]
  have hO : Only (fun q => q = mb) w w' := (Only.refl _ w).grown hg (fun q e => by cases e; rfl)
  have hPM : PMap (Jn.appB P (Jn.flat st)) mb E w := hs.obj 2 rfl
  have hc : 48 ≤ c := (hs.own 1 rfl).2.1
  have hat : ownAt (some ⟨b, 0, none⟩) c = some b := ownAt_some (a := ⟨b, 0, none⟩) (by omega) rfl
  have hd : ¬ PE.G mb E b := fun hq => hs.scn.cal.ds (PE.G mb E) (by simp [mapT]) _ (List.mem_cons_of_mem _ List.mem_cons_self) b hat hq
  have hbig := hst.big
  have hpg : bcells (st.getD i0 []) = bcells (Jn.pg (Jn.appB P (Jn.flat st)) i0) := by
    rw [Jn.pg_fresh hst.flat_length (by omega) (by omega) hn, hst.pg_flat (by omega) (by omega)]
  have hown : Own w 0 5 1 (some ⟨b, 0, none⟩) 48 c (bcells (Jn.pg (Jn.appB P (Jn.flat st)) i0)) := by
    rw [← hpg]; exact (hs.own 1 rfl).mono (Nat.zero_le _)
  have hadd := hPM.add ⟨i0, b, c⟩ hown (fun e => hd (.inl e)) (fun y hy e => hd (.inr ⟨y, hy, e.symm⟩)) hm hO
  refine ⟨?_, ?_, ?_⟩
  · rw [e2]
    exact Mth.absorb (O := [_]) hs (hO.mono fun q _ e => .inl e) (fun q hq => by
      rcases hq with h1 | ⟨y, hy, h1⟩
      · exact .inl (.inl h1)
      · rcases List.mem_append.1 hy with hy | hy
        · exact .inl (.inr ⟨y, hy, h1⟩)
        · obtain rfl := List.mem_singleton.1 hy
          exact .inr (.inl (by rw [h1]; exact hat))) hadd.sup hV
  · rw [List.map_append, ho, e2]; rfl
  · rw [e2, List.length_append]; exact hl
end
theorem o_intJ : (Tryz.prog.info? 3).map (fun i => (i.zero, i.size, i.bytes)) = some (some (.int .i64 0), 1, 8) := by kernel_rfl
/-- A number is appended. -/
theorem wpList_apI {ops : Array Oper} {rest : List Oper} {o : Oper} {a : Act} {w0 w : World} {Q : Exit → Act → World → Prop} {G0 : Nat → Prop} {L : List Ent} {O : List Osl} {Fs Vs : List Thing} (hgd : o.guard = none) (x y : Operand)
    (ho : o.op = .call { callee := .builtin .append, args := #[x, y], argTypes := #[64, 64] })
    (A : Option Addr) (c : Nat) (os : List Nat) (hx : a.eval x = .slice A os.length c) (hm : Mth G0 w0 w L O Fs Vs) (k : Nat) (hk : O[k]? = some (ordO A c os)) (hV : ∀ x ∈ Vs, ∀ q, x.G q → q < w0.heap.size)
    (B : Nat) (A' : Option Addr) (c' i0 : Nat) (hy : a.eval y = .slice A' 1 c') (hr : Row w B A' [.int .i64 (i0 : Int)]) (hsz : os.length + 1 ≤ 1000000)
    (h : ∀ A2 c2 w1, Mth G0 w0 w1 L (O.set k (ordO A2 c2 (os ++ [i0]))) Fs Vs → wpList Tryz.prog ops Q rest (a.put o.dst (.slice A2 (os.length + 1) c2)) w1) : wpList Tryz.prog ops Q (o :: rest) a w := by
  obtain ⟨ti, hti, hz0, hz1, hz2⟩ := info_parts o_intJ
  refine wpList_append w hgd x y 64 ho 0 3 ti _ 1 8 Tryz.underlying64 hti hz0 hz1 hz2 rfl (by omega) A os.length c (ordC os) hx (hm.scn.cal.mem.sl _ (List.mem_of_getElem? hk)) B A' 1 c' _ hy hr rfl (fun v hv => by
    obtain rfl := List.mem_singleton.1 hv; rfl) (by unfold maxLen; omega) (by omega) (Nat.zero_le _) ?_
  intro A2 c2 w1 h1 h2 h3
  have e : ordO A2 c2 (os ++ [i0]) = ⟨3, 1, A2, os.length + 1, c2, ordC os ++ [.int .i64 (i0 : Int)]⟩ := by simp [ordO, ordC]
  refine h A2 c2 w1 ?_
  rw [e]
  exact hm.app k hk h1 h2 h3 hV
theorem FillS.keepL {k : MkP} {W1 w : World} {L : List Ent} {q : Prop} {B : Nat} {st : List (List UInt8)} {P P2 : Jn.Pr} {G : Nat → Prop} {s : PgS} {p : Pg.P} {cc mb : Nat} {E : List PE} {oA : Option Addr} {oc : Nat} (h : FillS k W1 w L q B st P P2 G s p cc mb E oA oc) (i : Nat) : FillS k W1 w (L.take i) q B st P P2 G s p cc mb E oA oc :=
  ⟨h.scn.part (List.take_sublist _ _) (List.Sublist.refl _) (List.Sublist.refl _), h.ord, h.live⟩
end Go.Proofs.YtmhjddmamknglaaGreat
