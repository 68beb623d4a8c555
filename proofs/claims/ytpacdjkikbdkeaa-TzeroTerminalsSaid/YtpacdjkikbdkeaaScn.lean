/-
  A caller's scene: variables, slices of its own, objects that calls turn, and values that stay. Nothing here names a program.
-/
import Derived.Test.YtpacdjkikbdkeaaZ1
import Derived.Test.YtpacdjkikbdkeaaZ0
namespace Go.Proofs.Ytpacdjkikbdkeaa
set_option maxRecDepth 100000
set_option linter.unusedSimpArgs false
set_option linter.unusedVariables false
open Go.RowKit

/-- p holds, and goes on to hold as long as no block of G turns. -/
structure Sup (w : World) (G : Nat → Prop) (p : World → Prop) : Prop where
  now : p w
  lt : ∀ q, G q → q < w.heap.size
  on : ∀ R w', Only R w w' → (∀ q, G q → ¬ R q) → p w'
structure Thing where
  G : Nat → Prop
  p : World → Prop
section
variable {w0 w w' : World} {G R : Nat → Prop} {p p' : World → Prop}
theorem Sup.only (h : Sup w G p) (ho : Only R w w') (hd : ∀ q, G q → ¬ R q) : Sup w' G p :=
  ⟨h.on R w' ho hd, fun q hq => Nat.lt_of_lt_of_le (h.lt q hq) ho.size, fun R2 w2 ho2 hd2 => h.on (fun q => R q ∨ R2 q) w2 ((ho.mono fun _ _ e => .inl e).trans (ho2.mono fun _ _ e => .inr e)) (fun q hq e => e.elim (hd q hq) (hd2 q hq))⟩
theorem Sup.below (h : Sup w G p) (hb : Below w.heap.size w w') : Sup w' G p := h.only (R := fun _ => False) (Only.of_below hb) (fun _ _ e => e)
theorem Sup.imp (h : Sup w G p) (hp : ∀ u, p u → p' u) : Sup w G p' := ⟨hp _ h.now, h.lt, fun R w' ho hd => hp _ (h.on R w' ho hd)⟩
/-- The blocks in which the slices among the cells of a struct lie. -/
def blks (cs : Array Value) (q : Nat) : Prop := ∃ A n c a, Value.slice A n c ∈ cs.toList ∧ 0 < n ∧ A = some a ∧ a.block = q
theorem Far.blks (cs : Array Value) : Far (blks cs) cs := fun A n c hm hn a e => ⟨A, n, c, a, hm, hn, e, rfl⟩
theorem Far.sub {F : Nat → Prop} {cs : Array Value} (h : Far F cs) (q : Nat) (hq : Proofs.Ytpacdjkikbdkeaa.blks cs q) : F q := by
  obtain ⟨A, n, c, a, hm, hn, e, rfl⟩ := hq
  exact h A n c hm hn a e

theorem ownAt_some {A : Option Addr} {a : Addr} {c : Nat} (hc : 0 < c) (e : A = some a) : ownAt A c = some a.block := by
  unfold ownAt
  rw [if_neg (by omega), e]
  rfl
structure Scn (w0 w : World) (L : List Ent) (O : List Osl) (Fs Vs : List Thing) : Prop where
  cal : Cal w0 w L O (Fs.map (·.G))
  fs : ∀ x ∈ Fs, Sup w x.G x.p
  vs : ∀ x ∈ Vs, Sup w x.G x.p ∧ (∀ y ∈ Fs, ∀ q, y.G q → ¬ x.G q) ∧ ∀ e ∈ L, ¬ x.G e.g
variable {L L2 : List Ent} {O O2 : List Osl} {Fs Fs2 Vs Vs2 : List Thing}
theorem Scn.start (w0 : World) : Scn w0 w0 [] [] [] [] := ⟨Cal.start w0, fun x h => (by cases h), fun x h => (by cases h)⟩
theorem Scn.low (h : Scn w0 w L O Fs Vs) : Below w0.heap.size w0 w := h.cal.low
theorem Scn.size (h : Scn w0 w L O Fs Vs) : w0.heap.size ≤ w.heap.size := h.cal.size
theorem Scn.rebase (h : Scn w0 w L O Fs Vs) : Mem (fun q => ∃ e ∈ L, q = e.g) w w L [] := h.cal.rebase
theorem Scn.obj (h : Scn w0 w L O Fs Vs) (k : Nat) {x : Thing} (hk : Fs[k]? = some x) : x.p w := (h.fs x (List.mem_of_getElem? hk)).now
theorem Scn.val (h : Scn w0 w L O Fs Vs) (k : Nat) {x : Thing} (hk : Vs[k]? = some x) : x.p w := (h.vs x (List.mem_of_getElem? hk)).1.now
theorem Scn.lo (h : Scn w0 w L O Fs Vs) (k : Nat) {x : Thing} (hk : Fs[k]? = some x) (q : Nat) (hq : x.G q) : w0.heap.size ≤ q := h.cal.lo _ (List.mem_map.2 ⟨x, List.mem_of_getElem? hk, rfl⟩) q hq
theorem Scn.lt (h : Scn w0 w L O Fs Vs) (k : Nat) {x : Thing} (hk : Fs[k]? = some x) (q : Nat) (hq : x.G q) : q < w.heap.size := h.cal.lt _ (List.mem_map.2 ⟨x, List.mem_of_getElem? hk, rfl⟩) q hq
theorem Scn.ent (h : Scn w0 w L O Fs Vs) (k : Nat) {e : Ent} (hk : L[k]? = some e) : Blk w e.g e.t e.cs := h.cal.mem.at_ k hk
theorem Scn.byt {A : Option Addr} {n c : Nat} {t : TypeId} {bs : List UInt8} (h : Scn w0 w L O Fs Vs) (k : Nat) (hk : O[k]? = some ⟨t, 1, A, n, c, bcells bs⟩) : Byt w w.heap.size A n c bs := h.cal.byt k hk
/-- What lay there at first lies there still. -/
theorem Scn.old (h : Scn w0 w L O Fs Vs) {A : Option Addr} {n c : Nat} {bs : List UInt8} (hb : Byt w0 w0.heap.size A n c bs) : Byt w w.heap.size A n c bs := (hb.below h.low).more h.size
/-- .. apart from an object. -/
theorem Scn.oldO (h : Scn w0 w L O Fs Vs) (k : Nat) {x : Thing} (hk : Fs[k]? = some x) {A : Option Addr} {n c : Nat} {bs : List UInt8} (hb : Byt w0 w0.heap.size A n c bs) : Byt w w.heap.size A n c bs ∧ ∀ a, A = some a → 0 < n → ¬ x.G a.block :=
  ⟨h.old hb, fun a e hn hq => by
    obtain ⟨b, o, e2, hlt⟩ := hb.at_ hn
    rw [e] at e2; injection e2 with e2; subst e2
    have := h.lo k hk _ hq
    have this : w0.heap.size ≤ b := this
    omega⟩
/-- A slice of the caller's own, apart from an object. -/
theorem Scn.bytO (h : Scn w0 w L O Fs Vs) (i k : Nat) {x : Thing} (hk : Fs[k]? = some x) {A : Option Addr} {n c : Nat} {t : TypeId} {bs : List UInt8} (hi : O[i]? = some ⟨t, 1, A, n, c, bcells bs⟩) : Byt w w.heap.size A n c bs ∧ ∀ a, A = some a → 0 < n → ¬ x.G a.block :=
  ⟨h.byt i hi, fun a e hn hq => by
    have hl := (h.byt i hi).2.1
    exact h.cal.ds _ (List.mem_map.2 ⟨x, List.mem_of_getElem? hk, rfl⟩) _ (List.mem_of_getElem? hi) a.block (ownAt_some (Nat.lt_of_lt_of_le hn hl) e) hq⟩
/-- Behind steps of the caller's own. -/
theorem Scn.resync (h : Scn w0 w L O Fs Vs) (hm : Mem (fun q => ∃ e ∈ L, q = e.g) w w' L2 O2) : Scn w0 w' L2 (O ++ O2) Fs Vs :=
  { cal := h.cal.resync hm
    fs := fun x hx => (h.fs x hx).only hm.only (fun q hq ⟨e, he, e2⟩ => h.cal.dl _ (List.mem_map.2 ⟨x, hx, rfl⟩) e he (e2 ▸ hq))
    vs := fun x hx => by
      obtain ⟨h1, h2, h3⟩ := h.vs x hx
      refine ⟨h1.only hm.only (fun q hq ⟨e, he, e2⟩ => h3 e he (e2 ▸ hq)), h2, fun e he hq => ?_⟩
      rcases hm.own e he with ⟨e2, he2, e3⟩ | h4
      · exact h3 e2 he2 (e3 ▸ hq)
      · have := h1.lt _ hq; omega }
theorem Scn.below (h : Scn w0 w L O Fs Vs) (hb : Below w.heap.size w w') : Scn w0 w' L O Fs Vs :=
  ⟨h.cal.below hb, fun x hx => (h.fs x hx).below hb, fun x hx => ⟨(h.vs x hx).1.below hb, (h.vs x hx).2⟩⟩
/-- A slice that a call has made. -/
theorem Scn.got {t : TypeId} {k : Nat} {A : Option Addr} {n c : Nat} {cs : List Value} (h : Scn w0 w L O Fs Vs) (hb : Below w.heap.size w w') (hx : Own w' w.heap.size t k A n c cs) : Scn w0 w' L (O ++ [⟨t, k, A, n, c, cs⟩]) Fs Vs :=
  ⟨h.cal.got hb hx, (h.below hb).fs, (h.below hb).vs⟩
/-- A new object. -/
theorem Scn.born (h : Scn w0 w L O Fs Vs) (hb : Below w.heap.size w w') (hs : Sup w' G p) (hF : ∀ q, G q → w.heap.size ≤ q) : Scn w0 w' L O (Fs ++ [⟨G, p⟩]) Vs := by
  have h2 := h.below hb
  refine ⟨?_, fun x hx => ?_, fun x hx => ?_⟩
  · rw [List.map_append]
    exact h.cal.born hb hF hs.lt
  · rcases List.mem_append.1 hx with hx | hx
    · exact h2.fs x hx
    · obtain rfl := List.mem_singleton.1 hx; exact hs
  · obtain ⟨h3, h4, h5⟩ := h2.vs x hx
    refine ⟨h3, fun y hy q hq hq2 => ?_, h5⟩
    rcases List.mem_append.1 hy with hy | hy
    · exact h4 y hy q hq hq2
    · obtain rfl := List.mem_singleton.1 hy
      have := hF q hq; have := (h.vs x hx).1.lt q hq2; omega
theorem Scn.turn_aux (h : Scn w0 w L O Fs Vs) (i : Nat) (hi : Fs[i]? = some ⟨G, p⟩) {G' : Nat → Prop} (ho : Only G w w') (hF : ∀ q, G' q → G q ∨ w.heap.size ≤ q) (hs : Sup w' G' p') :
    (∀ x ∈ Fs.set i ⟨G', p'⟩, Sup w' x.G x.p) ∧ ∀ x ∈ Vs, Sup w' x.G x.p ∧ (∀ y ∈ Fs.set i ⟨G', p'⟩, ∀ q, y.G q → ¬ x.G q) ∧ ∀ e ∈ L, ¬ x.G e.g := by
  have hmem := List.mem_of_getElem? hi
  have hil := (List.getElem?_eq_some_iff.1 hi).1
  refine ⟨fun x hx => ?_, fun x hx => ?_⟩
  · obtain ⟨j, hj, rfl⟩ := List.getElem_of_mem hx
    rw [List.getElem_set]
    split
    · exact hs
    · rename_i hij
      have hj2 : j < Fs.length := by simpa using hj
      refine (h.fs _ (List.getElem_mem hj2)).only ho (fun q hq hq2 => ?_)
      exact h.cal.other j i (fun e => hij e.symm) (by rw [List.getElem?_map, List.getElem?_eq_getElem hj2]; rfl) (by rw [List.getElem?_map, hi]; rfl) q hq hq2
  · obtain ⟨h3, h4, h5⟩ := h.vs x hx
    refine ⟨h3.only ho (fun q hq hq2 => h4 _ hmem q hq2 hq), fun y hy q hq hq2 => ?_, h5⟩
    rcases List.mem_or_eq_of_mem_set hy with hy | rfl
    · exact h4 y hy q hq hq2
    · rcases hF q hq with h6 | h6
      · exact h4 _ hmem q h6 hq2
      · have := h3.lt q hq2; omega
/-- A call of an object. -/
theorem Scn.turn (h : Scn w0 w L O Fs Vs) (i : Nat) (hi : Fs[i]? = some ⟨G, p⟩) {G' : Nat → Prop} (ho : Only G w w') (hF : ∀ q, G' q → G q ∨ w.heap.size ≤ q) (hs : Sup w' G' p') : Scn w0 w' L O (Fs.set i ⟨G', p'⟩) Vs := by
  obtain ⟨h1, h2⟩ := h.turn_aux i hi ho hF hs
  refine ⟨?_, h1, h2⟩
  rw [List.map_set]
  exact h.cal.turn i (by rw [List.getElem?_map, hi]; rfl) ho hF hs.lt
/-- .. that hands back a slice of the caller's own. -/
theorem Scn.turned {t : TypeId} {k : Nat} {A : Option Addr} {n c : Nat} {cs : List Value} (h : Scn w0 w L O Fs Vs) (i : Nat) (hi : Fs[i]? = some ⟨G, p⟩) {G' : Nat → Prop} (ho : Only G w w') (hF : ∀ q, G' q → G q ∨ w.heap.size ≤ q) (hs : Sup w' G' p')
    (hx : Own w' w.heap.size t k A n c cs) (hd : ∀ q, G' q → ownAt A c ≠ some q) : Scn w0 w' L (O ++ [⟨t, k, A, n, c, cs⟩]) (Fs.set i ⟨G', p'⟩) Vs := by
  obtain ⟨h1, h2⟩ := h.turn_aux i hi ho hF hs
  refine ⟨?_, h1, h2⟩
  rw [List.map_set]
  exact h.cal.turned i (by rw [List.getElem?_map, hi]; rfl) ho hF hs.lt hx hd
/-- A new value: its blocks are an elder value's, or new. -/
theorem Scn.next {cs0 cs : Array Value} {p0 : World → Prop} (h : Scn w0 w L O Fs Vs) (k : Nat) (hk : Vs[k]? = some ⟨blks cs0, p0⟩) (hb : Below w.heap.size w w') (hf : ∀ F, Far F cs0 → Far (fun q => F q ∨ w.heap.size ≤ q) cs) (hs : Sup w' (blks cs) p') : Scn w0 w' L O Fs (Vs ++ [⟨blks cs, p'⟩]) := by
  have h2 := h.below hb
  refine ⟨h2.cal, h2.fs, fun x hx => ?_⟩
  rcases List.mem_append.1 hx with hx | hx
  · exact h2.vs x hx
  · obtain rfl := List.mem_singleton.1 hx
    have hq : ∀ q, blks cs q → blks cs0 q ∨ w.heap.size ≤ q := fun q hq => (hf _ (Far.blks cs0)).sub q hq
    obtain ⟨h3, h4, h5⟩ := h.vs _ (List.mem_of_getElem? hk)
    refine ⟨hs, fun y hy q hy2 hq2 => ?_, fun e he hq2 => ?_⟩
    · rcases hq q hq2 with h6 | h6
      · exact h4 y hy q hy2 h6
      · have := (h.fs y hy).lt q hy2; omega
    · rcases hq _ hq2 with h6 | h6
      · exact h5 e he h6
      · have := h.cal.mem.lt he; omega
/-- .. beside a slice. -/
theorem Scn.nextO {t : TypeId} {s : Nat} {A : Option Addr} {n c : Nat} {vs : List Value} {cs0 cs : Array Value} {p0 : World → Prop} (h : Scn w0 w L O Fs Vs) (k : Nat) (hk : Vs[k]? = some ⟨blks cs0, p0⟩) (hb : Below w.heap.size w w') (hf : ∀ F, Far F cs0 → Far (fun q => F q ∨ w.heap.size ≤ q) cs) (hs : Sup w' (blks cs) p') (hx : Own w' w.heap.size t s A n c vs) : Scn w0 w' L (O ++ [⟨t, s, A, n, c, vs⟩]) Fs (Vs ++ [⟨blks cs, p'⟩]) :=
  ⟨h.cal.got hb hx, (h.next k hk hb hf hs).fs, (h.next k hk hb hf hs).vs⟩
/-- A value that a call has made out of nothing, or that lay there at first. -/
theorem Scn.fresh (h : Scn w0 w L O Fs Vs) (hb : Below w.heap.size w w') (hs : Sup w' G p) (hf : ∀ q, G q → w.heap.size ≤ q ∨ q < w0.heap.size) : Scn w0 w' L O Fs (Vs ++ [⟨G, p⟩]) := by
  have h2 := h.below hb
  refine ⟨h2.cal, h2.fs, fun x hx => ?_⟩
  rcases List.mem_append.1 hx with hx | hx
  · exact h2.vs x hx
  · obtain rfl := List.mem_singleton.1 hx
    refine ⟨hs, fun y hy q hy2 hq2 => ?_, fun e he hq2 => ?_⟩
    · rcases hf q hq2 with h6 | h6
      · have := (h.fs y hy).lt q hy2; omega
      · have := h.cal.lo _ (List.mem_map.2 ⟨y, hy, rfl⟩) q hy2; omega
    · rcases hf _ hq2 with h6 | h6
      · have := h.cal.mem.lt he; omega
      · rcases h.cal.mem.own e he with h7 | h7
        · exact h7
        · omega
/-- Fewer variables, fewer slices, fewer values. -/
theorem Scn.part (h : Scn w0 w L O Fs Vs) (hL : L2.Sublist L) (hO : O2.Sublist O) (hV : Vs2.Sublist Vs) : Scn w0 w L2 O2 Fs Vs2 :=
  ⟨h.cal.part hL hO, h.fs, fun x hx => by
    obtain ⟨h1, h2, h3⟩ := h.vs x (hV.subset hx)
    exact ⟨h1, h2, fun e he => h3 e (hL.subset he)⟩⟩
theorem Scn.keep (h : Scn w0 w L O Fs Vs) (i j k : Nat) : Scn w0 w (L.take i) (O.take j) Fs (Vs.drop k) := h.part (List.take_sublist _ _) (List.take_sublist _ _) (List.drop_sublist _ _)
end
section
variable {w0 w : World} {L : List Ent} {O : List Osl} {Fs Vs : List Thing}
/-- One variable, no slice, one value. -/
theorem Scn.lone (h : Scn w0 w L O Fs Vs) {e : Ent} {x : Thing} (i k : Nat) (hi : L[i]? = some e) (hk : Vs[k]? = some x) : Scn w0 w [e] [] Fs [x] :=
  h.part (List.singleton_sublist.2 (List.mem_of_getElem? hi)) (List.nil_sublist _) (List.singleton_sublist.2 (List.mem_of_getElem? hk))
end
end Go.Proofs.Ytpacdjkikbdkeaa
