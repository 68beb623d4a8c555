/-
  An argument that came in: a slice of ints.
-/
import Derived.Test.YtpacdjkikbdkeaaFlat
import Derived.Test.YtpacdjkikbdkeaaZ1
namespace Go.Proofs.Ytpacdjkikbdkeaa
set_option maxRecDepth 100000
set_option linter.unusedSimpArgs false
set_option linter.unusedVariables false
open Go.RowKit Go.ChangeShapes Go.WideShapes Go.Deep

theorem ints_of_trod {H : Type} {enc : TypeId × Value → H} {w : World} {base : Nat} {spare : Nat → Bool} {held : Bool} {A : Option Addr} {n c : Nat} {d : DataW H} {p : List MemPlace}
    (h : DataW.Trod enc Try.prog w base spare held 22 (.slice A n c) d p) : ∃ xs : List Int, (Ints w w.heap.size A n c xs ∧ ∀ z ∈ xs, (Lit.int .i64 z).wf = true) ∧ c ≤ maxLen := by
  obtain ⟨fuel, hf⟩ := h
  rcases flat_slice (k := 1) (ts := [3]) Try.underlying22 (by kernel_rfl) hf with hcs | ⟨a, len, cap, hcs, hl, hm, hr⟩
  · simp [Value.cells] at hcs
    obtain ⟨rfl, rfl, rfl⟩ := hcs
    exact ⟨[], ⟨⟨rfl, Nat.le_refl _, Row.nil _ _ _⟩, fun z hz => (by cases hz)⟩, Nat.zero_le _⟩
  · simp [Value.cells] at hcs
    obtain ⟨rfl, rfl, rfl⟩ := hcs
    have hC : Try.prog.cellsOf 3 = 1 := by kernel_rfl
    rw [hC] at hr
    obtain ⟨l, h1, h2, h3⟩ := recs_of (cells := fun z : Int => [I64 z]) (s := 1) (n := n) (w := w) (a := a) (G := fun z => (Lit.int .i64 z).wf = true) (fun x => ⟨_, rfl⟩) (fun i hi => by
      obtain ⟨v0, c0, t0⟩ := hr i hi 0 _ rfl
      obtain ⟨z, rfl, hz⟩ := t0.int Try.underlying3
      refine ⟨z, fun j v hv => ?_, by simpa [Lit.wf, IntKind.min, IntKind.max, IntKind.signed, IntKind.bits] using hz⟩
      match j, hv with
      | 0, hv => injection hv with hv; subst hv; exact c0
      | j + 1, hv => simp at hv)
    refine ⟨l, ⟨⟨h1, hl, fun hn => ?_⟩, h3⟩, hm⟩
    obtain ⟨b, o, e, hb, hc⟩ := h2 (by simpa using hn)
    refine ⟨b, o, e, hb, fun j hj => ?_⟩
    have hjl : j < l.length := by simpa using hj
    have := hc j _ (List.getElem?_eq_getElem hjl) 0 _ rfl
    rw [show j * 1 + 0 = j by omega] at this
    rw [this, List.getElem?_map, List.getElem?_eq_getElem hjl]
    rfl
end Go.Proofs.Ytpacdjkikbdkeaa
