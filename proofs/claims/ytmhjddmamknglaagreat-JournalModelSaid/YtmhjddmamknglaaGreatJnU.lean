/-
  The journal: changes that came in, as a thing of a scene.
-/
import Derived.Test.YtmhjddmamknglaaGreatJnS
namespace Go.Proofs.YtmhjddmamknglaaGreat
set_option maxRecDepth 100000
set_option linter.unusedSimpArgs false
set_option linter.unusedVariables false
open Go.RowKit
set_option maxHeartbeats 8000000

/-- The blocks of changes. -/
def chsG (A : Option Addr) (n : Nat) (l : List JC) : Nat → Prop := fun q => (0 < n ∧ ∃ a, A = some a ∧ q = a.block) ∨ ∃ y ∈ l, 0 < y.n ∧ ∃ a, y.A = some a ∧ q = a.block
theorem Chs.sup {w : World} {A : Option Addr} {n c : Nat} {l : List JC} (h : Chs w w.heap.size A n c l) : Sup w (chsG A n l) (fun u => Chs u u.heap.size A n c l) := by
  refine ⟨h, fun q hq => ?_, fun R w' ho hd => ⟨h.len, h.cap, ?_, fun y hy => ?_⟩⟩
  · rcases hq with ⟨h0, a, e, rfl⟩ | ⟨y, hy, h0, a, e, rfl⟩
    · obtain ⟨b, o, e2, hb, _⟩ := h.row (by have := h.len; omega)
      rw [e] at e2; cases e2; exact hb
    · obtain ⟨b, o, e2, hlt⟩ := (h.ok y hy).at_ h0
      rw [e] at e2; cases e2; exact hlt
  · intro hn
    obtain ⟨b, o, e, hb, hr⟩ := h.row hn
    refine ⟨b, o, e, Nat.lt_of_lt_of_le hb ho.size, fun k x hx j v hv => ?_⟩
    rw [← hr k x hx j v hv]
    exact World.cell?_of_block (ho.block b hb (hd b (.inl ⟨by have := h.len; omega, _, e, rfl⟩)))
  · have hs := (bytSup (h.ok y hy)).on R w' ho (fun q hq => ?_)
    · exact hs
    · obtain ⟨A1, n1, c1, a1, h1, h2, h3, h4⟩ := hq
      simp at h1
      obtain ⟨rfl, rfl, rfl⟩ := h1
      exact hd q (.inr ⟨y, hy, by omega, a1, h3, h4.symm ▸ rfl⟩)
end Go.Proofs.YtmhjddmamknglaaGreat
