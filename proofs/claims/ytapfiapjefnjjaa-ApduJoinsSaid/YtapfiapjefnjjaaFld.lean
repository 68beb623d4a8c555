/-
  Arguments that came in: a slice of structs whose fields are of one cell each. Nothing here names a program.
-/
import Derived.Test.YtapfiapjefnjjaaOnly
import Derived.Deep.Fields
namespace Go.Proofs.Ytapfiapjefnjjaa
open Go.RowKit Go.ChangeShapes Go.WideShapes Go.Deep

section
variable {H : Type} {enc : TypeId × Value → H} {P : Program} {w : World} {base : Nat} {spare : Nat → Bool} {held : Bool}
/-- Every field of every element has its cell, and is read by itself. -/
theorem fields_of_slice {t e : TypeId} {fs : Array Field} {fuel : Nat} {cs : List Value} {x : DataW H × List MemPlace} (ht : P.underlying t = some (.slice e)) (he : P.underlying e = some (.struct fs))
    (hone : oneCellFields P fs = true) (hC : P.cellsOf e = fs.size) (h : DataW.trod enc P w base spare held fuel t cs = some x) :
    cs = [.slice none 0 0] ∨ ∃ (a : Addr) (len cap : Nat), cs = [.slice (some a) len cap] ∧ len ≤ cap ∧ cap ≤ maxLen ∧
      ∀ (i j : Nat) (f : Field), i < len → fs[j]? = some f → ∃ (v : Value) (y : DataW H × List MemPlace) (n : Nat), w.cell? (a.add (i * fs.size + j)) = some v ∧ DataW.trod enc P w base spare held n f.type [v] = some y := by
  rcases open_slice ht h with h0 | ⟨a, len, cap, m, n, D, Pl, hcs, _, hl, hm, hmm, _, hi⟩
  · exact .inl h0.1
  · refine .inr ⟨a, len, cap, hcs, hl, hm, fun i j f hlt hj => ?_⟩
    obtain ⟨l, hc, hd⟩ := hi i (by rw [hmm]; split <;> omega)
    rw [hC] at hc
    obtain ⟨ys, k, _, _, _, hyl, hf⟩ := DataW.trod_struct he hd
    obtain ⟨_, hll, hat⟩ := World.cells?_some hc
    obtain ⟨ho, hk⟩ := hone_of hone j f hj
    have hjl : j < fs.size := (Array.getElem?_eq_some_iff.1 hj).1
    have h1 := hf j f hj
    have hd1 : l.drop j = l[j]'(by omega) :: l.drop (j + 1) := List.drop_eq_getElem_cons (by omega)
    rw [ho, hk, hd1, List.getElem?_eq_getElem (by omega)] at h1
    refine ⟨l[j]'(by omega), _, k, ?_, h1⟩
    rw [← add_add, hat j hjl, List.getElem?_eq_getElem (by omega)]
end

/-- An address whose cell 0 is there has no path. -/
theorem spot_none {w : World} {a : Addr} {v : Value} (h : w.cell? (a.add 0) = some v) : ∃ b o, a = ⟨b, o, none⟩ ∧ b < w.heap.size := by
  have hx0 : a.add 0 = a := by unfold Addr.add; simp
  rw [hx0] at h
  obtain ⟨b, o, s⟩ := a
  have hs : s = none := by
    cases s with
    | none => rfl
    | some q => simp only [World.cell?] at h; split at h <;> simp at h
  subst hs
  exact ⟨b, o, rfl, World.block_lt_of_cell? w _ h⟩
end Go.Proofs.Ytapfiapjefnjjaa
