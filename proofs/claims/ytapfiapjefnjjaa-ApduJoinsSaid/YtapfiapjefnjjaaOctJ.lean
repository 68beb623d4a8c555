/-
  The walks of the reference of strings of bytes: Put, Unpad, Pad.
-/
import Derived.Test.YtapfiapjefnjjaaOctI
namespace Go.Proofs.Ytapfiapjefnjjaa
open Go.RowKit

theorem pad_stop (len m j : Nat) (h1 : 1 ≤ m) (hj : j ≤ Oct.padN len m) : (len + 1 + j) % m = 0 ↔ j = Oct.padN len m := by
  unfold Oct.padN at *
  have hlt := Nat.mod_lt (len + 1) (show 0 < m by omega)
  have hdm := Nat.div_add_mod (len + 1) m
  split at hj
  · rename_i h0
    rw [if_pos h0]
    constructor
    · intro _; omega
    · intro e; rw [e]; exact h0
  · rename_i h0
    rw [if_neg h0]
    have e1 : len + 1 + j = m * ((len + 1) / m) + ((len + 1) % m + j) := by omega
    rw [e1, Nat.mul_add_mod]
    constructor
    · intro e
      rcases Nat.lt_or_ge ((len + 1) % m + j) m with h | h
      · rw [Nat.mod_eq_of_lt h] at e; omega
      · omega
    · intro e
      rw [show (len + 1) % m + j = m by omega, Nat.mod_self]

end Go.Proofs.Ytapfiapjefnjjaa
