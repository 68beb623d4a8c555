/-
  The journal, plain: how far changed has come.
-/
import Derived.Test.YtmhjddmamknglaaGreatJnQ
namespace Go.Proofs.YtmhjddmamknglaaGreat.Jn
set_option maxRecDepth 100000
set_option linter.unusedSimpArgs false
set_option linter.unusedVariables false
open Go.Proofs.YtmhjddmamknglaaGreat

theorem C.pairs_length (c : C) : c.pairs.length = c.data.length := by simp [C.pairs]
theorem C.pairs_take (c : C) {k : Nat} (hk : k < c.data.length) : c.pairs.take (k + 1) = c.pairs.take k ++ [(c.off + k, c.data.getD k 0)] := by
  rw [List.take_add_one]
  congr 1
  rw [List.getElem?_eq_getElem (by rw [c.pairs_length]; exact hk)]
  simp [C.pairs]
/-- The pairs ahead of byte k of change i. -/
def far (l : List C) (i k : Nat) : Pr := pairs (l.take i) ++ (l.getD i ⟨0, []⟩).pairs.take k
theorem far_zero (l : List C) (i : Nat) : far l i 0 = pairs (l.take i) := by simp [far]
theorem far_all (l : List C) : far l l.length 0 = pairs l := by rw [far_zero, List.take_length]
theorem far_byte {l : List C} {i k : Nat} {x : C} (hx : l[i]? = some x) (hk : k < x.data.length) : far l i (k + 1) = far l i k ++ [(x.off + k, x.data.getD k 0)] := by
  have e : l.getD i ⟨0, []⟩ = x := by simp [List.getD, hx]
  unfold far
  rw [e, x.pairs_take hk, List.append_assoc]
theorem far_next {l : List C} {i : Nat} {x : C} (hx : l[i]? = some x) : far l i x.data.length = far l (i + 1) 0 := by
  have e : l.getD i ⟨0, []⟩ = x := by simp [List.getD, hx]
  rw [far_zero]
  unfold far
  rw [e, List.take_add_one, hx, pairs_append, show x.data.length = x.pairs.length by rw [x.pairs_length], List.take_length]
  simp [pairs]
theorem pg_fresh {P : Pr} {S : Bs} {n i : Nat} (hl : S.length = 48 * n) (h1 : 32 ≤ i) (h2 : i - 32 < n) (hi : i ∉ ord P) : pg (appB P S) i = pg S i := by
  have hl2 : (appB P S).length = 48 * n := by rw [appB_length]; exact hl
  apply ext_getD
  · rw [pg_length hl2 h1 h2, pg_length hl h1 h2]
  · intro a ha
    rw [pg_length hl2 h1 h2] at ha
    rw [pg_at _ _ _ ha, pg_at _ _ _ ha]
    refine appB_other P S _ (fun p hp e => hi ((ord_mem P i).2 ⟨p, hp, ?_⟩))
    rw [e]; omega
theorem ord_old {P : Pr} {a : Nat} {v : UInt8} (h : 32 + a / 48 ∈ ord P) : ord (P ++ [(a, v)]) = ord P := by rw [ord_snoc]; unfold ordN; exact if_pos h
theorem ord_new {P : Pr} {a : Nat} {v : UInt8} (h : 32 + a / 48 ∉ ord P) : ord (P ++ [(a, v)]) = ord P ++ [32 + a / 48] := by rw [ord_snoc]; unfold ordN; exact if_neg h
theorem appB_snoc (P : Pr) (S : Bs) (a : Nat) (v : UInt8) : appB (P ++ [(a, v)]) S = (appB P S).set a v := by rw [appB_append]; rfl
theorem far_lt {n : Nat} {l : List C} (h : Within n l) (i k : Nat) : ∀ p ∈ far l i k, p.1 < n := fun p hp => by
  unfold far at hp
  rcases List.mem_append.1 hp with hp | hp
  · exact Within.pairs (fun c hc => h c (List.mem_of_mem_take hc)) p hp
  · have hp := List.mem_of_mem_take hp
    by_cases hi : i < l.length
    · have e : l.getD i ⟨0, []⟩ = l[i] := getD_eq hi
      rw [e] at hp
      exact Within.pairs h p (List.mem_flatMap.2 ⟨l[i], List.getElem_mem hi, hp⟩)
    · have e : l.getD i ⟨0, []⟩ = ⟨0, []⟩ := by simp only [List.getD]; rw [List.getElem?_eq_none (by omega)]; rfl
      rw [e] at hp
      simp [C.pairs] at hp
end Go.Proofs.YtmhjddmamknglaaGreat.Jn
