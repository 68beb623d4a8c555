/-
  The walks of the library of strings of bytes: Pad, Split.
-/
import Derived.Test.YtapfiapjefnjjaaOctD
import Derived.Test.YtapfiapjefnjjaaApz
namespace Go.Proofs.Ytapfiapjefnjjaa
open Go.RowKit

theorem pad_no (bs : List UInt8) (n : Int) (h : n < 1 ∨ 65536 < n) : Oct.padB bs n = [] ∧ Oct.padE n = 1 := by
  have e : Oct.padOk n = false := by unfold Oct.padOk; simp; omega
  unfold Oct.padB Oct.padE; rw [e]; exact ⟨rfl, rfl⟩
theorem pad_yes (bs : List UInt8) (m : Nat) (h1 : 1 ≤ m) (h2 : m ≤ 65536) : Oct.padB bs (m : Int) = Oct.pad bs m ∧ Oct.padE (m : Int) = 0 := by
  have e : Oct.padOk (m : Int) = true := by unfold Oct.padOk; simp; omega
  unfold Oct.padB Oct.padE; rw [e]; exact ⟨by simp, rfl⟩

end Go.Proofs.Ytapfiapjefnjjaa
