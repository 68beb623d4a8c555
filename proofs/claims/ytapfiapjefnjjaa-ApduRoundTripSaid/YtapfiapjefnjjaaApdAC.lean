/-
  An argument that came in: a slice of bytes.
-/
import Derived.Test.YtapfiapjefnjjaaApdO
namespace Go.Proofs.Ytapfiapjefnjjaa
set_option linter.unusedSimpArgs false
open Go.RowKit Go.ChangeShapes Go.WideShapes Go.Deep

theorem bytes_of_trod {H : Type} {enc : TypeId × Value → H} {w : World} {base : Nat} {spare : Nat → Bool} {held : Bool} {A : Option Addr} {n c : Nat} {d : DataW H} {p : List MemPlace}
    (h : DataW.Trod enc Try.prog w base spare held 22 (.slice A n c) d p) : ∃ b, Byt w w.heap.size A n c b ∧ c ≤ maxLen := by
  obtain ⟨fuel, hf⟩ := h
  have hc : (Value.slice A n c).cells.toList = [.slice A n c] := rfl
  obtain ⟨A2, l2, c2, b, e, hb, hm⟩ := fbyt_of_trod (v := .slice A n c) Try.underlying22 Try.underlying5 (by kernel_rfl) hf
  injection e with e1 e2 e3
  subst e1 e2 e3
  exact ⟨b, hb, hm⟩
end Go.Proofs.Ytapfiapjefnjjaa
