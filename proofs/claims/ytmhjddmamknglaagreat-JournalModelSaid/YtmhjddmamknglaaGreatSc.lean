/-
  A scene that names no world but the present one. Nothing here names a program.
-/
import Derived.Test.YtmhjddmamknglaaGreatZ3
import Derived.Test.YtmhjddmamknglaaGreatRngL
namespace Go.Proofs.YtmhjddmamknglaaGreat
set_option maxRecDepth 100000
set_option linter.unusedSimpArgs false
set_option linter.unusedVariables false
open Go.RowKit

structure Sc (w : World) (Fs Vs : List Thing) : Prop where
  fs : ∀ x ∈ Fs, Sup w x.G x.p
  df : Fs.Pairwise fun x y => ∀ q, x.G q → ¬ y.G q
  vs : ∀ x ∈ Vs, Sup w x.G x.p ∧ ∀ y ∈ Fs, ∀ q, y.G q → ¬ x.G q
/-- The blocks of some things. -/
def allG (Fs : List Thing) (q : Nat) : Prop := ∃ x ∈ Fs, x.G q
/-- A slice of one's own, as a thing. -/
def oslT (x : Osl) : Thing := ⟨fun q => ownAt x.A x.c = some q, fun u => Own u 0 x.t x.s x.A x.n x.c x.cs⟩
theorem Own.sup {w : World} {x : Osl} (h : Own w 0 x.t x.s x.A x.n x.c x.cs) : Sup w (oslT x).G (oslT x).p :=
  ⟨h, fun q hq => (h.lt q hq).2, fun _ _ ho hd => h.only' ho (fun q hq => hd q hq)⟩
section
variable {G0 R : Nat → Prop} {w0 w w' : World} {L : List Ent} {O : List Osl} {Fs Vs Vs2 : List Thing} {x : Thing}
theorem Sc.enter (h : Sc w Fs Vs) : Mth (allG Fs) w w [] [] Fs Vs := Mth.enter w _ Fs Vs h.fs h.df (fun x hx q hq => ⟨x, hx, hq⟩) h.vs
theorem Mth.sc (h : Mth G0 w0 w L O Fs Vs) : Sc w Fs Vs :=
  ⟨h.scn.fs, by have := h.scn.cal.df; rwa [List.pairwise_map] at this, fun x hx => ⟨(h.scn.vs x hx).1, (h.scn.vs x hx).2.1⟩⟩
/-- .. the own slices as values. -/
theorem Mth.scO (h : Mth G0 w0 w L O Fs Vs) : Sc w Fs (Vs ++ O.map oslT) :=
  { fs := h.sc.fs
    df := h.sc.df
    vs := fun x hx => by
      rcases List.mem_append.1 hx with hx | hx
      · exact h.sc.vs x hx
      · obtain ⟨y, hy, rfl⟩ := List.mem_map.1 hx
        exact ⟨Own.sup (h.scn.cal.mem.sl y hy), fun z hz q hq hq2 => h.scn.cal.ds _ (List.mem_map.2 ⟨z, hz, rfl⟩) _ hy q hq2 hq⟩ }
theorem Sc.only (h : Sc w Fs Vs) (ho : Only R w w') (hF : ∀ x ∈ Fs, ∀ q, x.G q → ¬ R q) (hV : ∀ x ∈ Vs, ∀ q, x.G q → ¬ R q) : Sc w' Fs Vs :=
  ⟨fun x hx => (h.fs x hx).only ho (hF x hx), h.df, fun x hx => ⟨(h.vs x hx).1.only ho (hV x hx), (h.vs x hx).2⟩⟩
/-- The last object stays from here on. -/
theorem Sc.stay (h : Sc w (Fs ++ [x]) Vs) : Sc w Fs (Vs ++ [x]) :=
  { fs := fun y hy => h.fs y (List.mem_append_left _ hy)
    df := (List.pairwise_append.1 h.df).1
    vs := fun y hy => by
      rcases List.mem_append.1 hy with hy | hy
      · exact ⟨(h.vs y hy).1, fun z hz => (h.vs y hy).2 z (List.mem_append_left _ hz)⟩
      · obtain rfl := List.mem_singleton.1 hy
        exact ⟨h.fs _ (by simp), fun z hz q hq => (List.pairwise_append.1 h.df).2.2 z hz _ (by simp) q hq⟩ }
theorem Sc.few (h : Sc w Fs Vs) (hs : ∀ x ∈ Vs2, x ∈ Vs) : Sc w Fs Vs2 := ⟨h.fs, h.df, fun x hx => h.vs x (hs x hx)⟩
theorem Sc.stays {X : List Thing} (h : Sc w (Fs ++ X) Vs) : Sc w Fs (Vs ++ X) := by
  induction X generalizing Fs Vs with
  | nil => rw [List.append_nil] at h ⊢; exact h
  | cons x X ih =>
    have h1 : Sc w ((Fs ++ [x]) ++ X) Vs := by rw [List.append_assoc]; exact h
    have h2 := (ih h1).stay
    exact h2.few (fun y hy => by simp only [List.mem_append, List.mem_cons, List.not_mem_nil, or_false] at hy ⊢; rcases hy with h | h | h <;> simp [h])
/-- A slice of one's own becomes a part of the last object, which turns. -/
theorem Mth.absorb {G G' : Nat → Prop} {p p' : World → Prop} {y : Osl} (h : Mth G0 w0 w L (O ++ [y]) (Fs ++ [⟨G, p⟩]) Vs) (ho : Only G w w') (hF : ∀ q, G' q → G q ∨ ownAt y.A y.c = some q ∨ w.heap.size ≤ q) (hs : Sup w' G' p') (hV : ∀ x ∈ Vs, ∀ q, x.G q → q < w0.heap.size) : Mth G0 w0 w' L O (Fs ++ [⟨G', p'⟩]) Vs := by
  have hmem : (⟨G, p⟩ : Thing) ∈ Fs ++ [⟨G, p⟩] := by simp
  have hmG : G ∈ (Fs ++ [(⟨G, p⟩ : Thing)]).map (·.G) := List.mem_map.2 ⟨_, hmem, rfl⟩
  have hy : y ∈ O ++ [y] := by simp
  have hdf := List.pairwise_append.1 (List.pairwise_map.1 h.scn.cal.df)
  refine
    { scn :=
        { cal :=
            { mem := h.scn.cal.mem.less.step ho (fun q _ _ => .inr (Nat.zero_le q)) (fun e he hq => h.scn.cal.dl _ hmG e he hq) (fun x hx q e hq => h.scn.cal.ds _ hmG x (List.mem_append_left _ hx) q e hq)
              lo := fun F _ q _ => Nat.zero_le q
              lt := fun F hF2 q hq => ?_
              dl := fun F hF2 e he hq => ?_
              ds := fun F hF2 x hx q e hq => ?_
              df := ?_ }
          fs := fun x hx => ?_
          vs := fun x hx => ⟨(h.scn.vs x hx).1.only ho (fun q hq hq2 => (h.scn.vs x hx).2.1 _ hmem q hq2 hq), fun z hz q hq hq2 => ?_, (h.scn.vs x hx).2.2⟩ }
      only := h.only.more ho (fun q _ hq => h.fold _ hmem q hq)
      lnew := h.lnew
      onew := fun x hx => h.onew x (List.mem_append_left _ hx)
      fold := fun x hx q hq => ?_ }
  · obtain ⟨x, hx, rfl⟩ := List.mem_map.1 hF2
    rcases List.mem_append.1 hx with hx | hx
    · exact Nat.lt_of_lt_of_le (h.scn.cal.lt _ (List.mem_map.2 ⟨x, List.mem_append_left _ hx, rfl⟩) q hq) ho.size
    · obtain rfl := List.mem_singleton.1 hx; exact hs.lt q hq
  · obtain ⟨x, hx, rfl⟩ := List.mem_map.1 hF2
    rcases List.mem_append.1 hx with hx | hx
    · exact h.scn.cal.dl _ (List.mem_map.2 ⟨x, List.mem_append_left _ hx, rfl⟩) e he hq
    · obtain rfl := List.mem_singleton.1 hx
      rcases hF _ hq with h1 | h1 | h1
      · exact h.scn.cal.dl _ hmG e he h1
      · exact h.scn.cal.mem.slL y hy e he h1
      · have := h.scn.cal.mem.lt he; omega
  · obtain ⟨z, hz, rfl⟩ := List.mem_map.1 hF2
    rcases List.mem_append.1 hz with hz | hz
    · exact h.scn.cal.ds _ (List.mem_map.2 ⟨z, List.mem_append_left _ hz, rfl⟩) x (List.mem_append_left _ hx) q e hq
    · obtain rfl := List.mem_singleton.1 hz
      rcases hF _ hq with h1 | h1 | h1
      · exact h.scn.cal.ds _ hmG x (List.mem_append_left _ hx) q e h1
      · exact (List.pairwise_append.1 h.scn.cal.mem.slO).2.2 x hx y (by simp) q e h1
      · have := h.scn.cal.mem.slt (List.mem_append_left _ hx) e; omega
  · rw [List.map_append, List.pairwise_append, List.pairwise_map]
    refine ⟨hdf.1, List.pairwise_singleton _ _, fun F hF2 F3 hF3 q hq hq3 => ?_⟩
    obtain ⟨z, hz, rfl⟩ := List.mem_map.1 hF2
    obtain rfl := List.mem_singleton.1 hF3
    rcases hF _ hq3 with h1 | h1 | h1
    · exact hdf.2.2 z hz ⟨G, p⟩ (by simp) q hq h1
    · exact h.scn.cal.ds _ (List.mem_map.2 ⟨z, List.mem_append_left _ hz, rfl⟩) y hy q h1 hq
    · have := h.scn.cal.lt _ (List.mem_map.2 ⟨z, List.mem_append_left _ hz, rfl⟩) q hq; omega
  · rcases List.mem_append.1 hx with hx | hx
    · exact (h.scn.fs x (List.mem_append_left _ hx)).only ho (fun q hq hq2 => hdf.2.2 x hx ⟨G, p⟩ (by simp) q hq hq2)
    · obtain rfl := List.mem_singleton.1 hx; exact hs
  · rcases List.mem_append.1 hz with hz | hz
    · exact (h.scn.vs x hx).2.1 z (List.mem_append_left _ hz) q hq hq2
    · obtain rfl := List.mem_singleton.1 hz
      rcases hF _ hq with h1 | h1 | h1
      · exact (h.scn.vs x hx).2.1 _ hmem q h1 hq2
      · have := hV x hx q hq2; have := h.onew y hy q h1; omega
      · have := (h.scn.vs x hx).1.lt q hq2; omega
  · rcases List.mem_append.1 hx with hx | hx
    · exact h.fold x (List.mem_append_left _ hx) q hq
    · obtain rfl := List.mem_singleton.1 hx
      rcases hF _ hq with h1 | h1 | h1
      · exact h.fold _ hmem q h1
      · exact .inr (h.onew y hy q h1)
      · exact .inr (Nat.le_trans h.size h1)
end
end Go.Proofs.YtmhjddmamknglaaGreat
