/-
  A bit turned, in bytes and in small numbers; plainly.
-/
import Derived.Test.YtibaibdgpnkdnaaDoorSecW
namespace Go.Proofs.YtibaibdgpnkdnaaDoor
set_option maxRecDepth 100000
set_option linter.unusedSimpArgs false
set_option linter.unusedVariables false
open Go.RowKit

/-- A byte with a bit turned, in the words of the walk. -/
theorem flip_u8 : ∀ (x : Fin 256) (k : Fin 8), ∃ y : Fin 256, bits .xor .u8 (x.val : Int) ((2 ^ k.val : Nat) : Int) = (y.val : Int) ∧ y ≠ x := by
  intro x k
  refine ⟨⟨x.val ^^^ 2 ^ k.val, Nat.xor_lt_two_pow (n := 8) x.isLt (Nat.pow_lt_pow_right (by decide) k.isLt)⟩, ?_, ?_⟩
  · revert x k; decide +kernel
  · revert x k; decide +kernel
theorem xor_i64 (a b : Nat) (ha : a < 65536) (hb : b < 65536) : bits .xor .i64 (a : Int) (b : Int) = ((a ^^^ b : Nat) : Int) := by
  have hx : a ^^^ b < 2 ^ 16 := Nat.xor_lt_two_pow ha hb
  show IntKind.i64.wrap ((BitVec.ofInt 64 (a : Int) ^^^ BitVec.ofInt 64 (b : Int)).toNat : Int) = _
  rw [BitVec.toNat_xor, ofInt_i64 a (by omega), ofInt_i64 b (by omega), IntKind.wrap_i64]
  omega
theorem xor_ne (a k : Nat) : a ^^^ 2 ^ k ≠ a := fun h => by
  have h1 : a ^^^ 2 ^ k = a ^^^ 0 := by rw [h, Nat.xor_zero]
  have h2 := congrArg (fun z => a ^^^ z) h1
  simp only [← Nat.xor_assoc, Nat.xor_self, Nat.zero_xor] at h2
  have := Nat.two_pow_pos k
  omega
/-- A number of at most 16 bits with one of them turned. -/
theorem flip_i64 (a k n : Nat) (hn : n ≤ 16) (ha : a < 2 ^ n) (hk : k < n) : ∃ y : Nat, bits .xor .i64 (a : Int) ((2 ^ k : Nat) : Int) = (y : Int) ∧ y < 2 ^ n ∧ y ≠ a := by
  have h16 : 2 ^ n ≤ 65536 := Nat.le_trans (Nat.pow_le_pow_right (by decide) hn) (by decide)
  have hk2 : 2 ^ k < 2 ^ n := Nat.pow_lt_pow_right (by decide) hk
  exact ⟨a ^^^ 2 ^ k, xor_i64 a _ (by omega) (by omega), Nat.xor_lt_two_pow ha hk2, xor_ne a k⟩
/-- Another byte, another number, and the other way round. -/
theorem by8_ne {a b : Nat} (ha : a < 256) (hb : b < 256) (h : a ≠ b) : Sec.by8 (a : Int) ≠ Sec.by8 (b : Int) := fun e => by
  unfold Sec.by8 at e
  have e2 := congrArg UInt8.toNat e
  simp at e2
  omega
end Go.Proofs.YtibaibdgpnkdnaaDoor
