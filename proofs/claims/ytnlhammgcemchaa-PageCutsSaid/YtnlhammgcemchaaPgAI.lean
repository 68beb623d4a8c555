/-
  Writes keep code words, whatever is asked for.
-/
import Derived.Test.YtnlhammgcemchaaPgAG
import Derived.Test.YtnlhammgcemchaaPgAH
namespace Go.Proofs.Ytnlhammgcemchaa
set_option maxRecDepth 100000
set_option linter.unusedSimpArgs false
set_option linter.unusedVariables false
open Go.RowKit

theorem Pg.Live.writes_coded {B : Nat} {fr : Pg.Fs} {p p' : Pg.P} {st : List (List UInt8)} (h : Pg.Live B fr p st) (hB : B ≤ 900000000) (hc : Pg.Coded p.m.words) (i : Int) (b : List UInt8) (he : p.write i b = (p', (Pg.rwrite st i b).2)) : Pg.Coded p'.m.words := by
  have hl := h.len
  by_cases h1 : b.length = 48
  · by_cases h2 : i < 0 ∨ (st.length : Int) ≤ i
    · have e2 : p.write i b = (p, 2) := by
        have ha : p.access i = 2 := by rw [h.access, if_pos (by omega)]
        unfold Pg.P.write
        rw [if_neg (by omega), ha, if_pos (by decide)]
      rw [e2] at he
      obtain rfl : p = p' := congrArg Prod.fst he
      exact hc
    · obtain ⟨k, rfl⟩ := Int.eq_ofNat_of_zero_le (a := i) (by omega)
      have e1 : Pg.rwrite st k b = (st.set k b, 0) := by unfold Pg.rwrite; rw [if_neg (by omega), if_neg h2]; rfl
      rw [e1] at he
      exact Pg.Live.write_coded hc h hB (by omega) h1 he
  · have e2 : p.write i b = (p, 1) := by unfold Pg.P.write; rw [if_pos h1]
    rw [e2] at he
    obtain rfl : p = p' := congrArg Prod.fst he
    exact hc
end Go.Proofs.Ytnlhammgcemchaa
