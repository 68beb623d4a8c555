/-
  The walk of the reference of strings of bytes: Split.
-/
import Derived.Test.YtapfiapjefnjjaaOctM
namespace Go.Proofs.Ytapfiapjefnjjaa
open Go.RowKit

/-- What the reference's Split leaves. -/
def RSp (w : World) (l : List (List UInt8)) (er : Int) (e : Ending) (w' : World) : Prop :=
  ∃ (A : Option Addr) (c : Nat) (vs : List SV), e = .returned (.tuple #[.slice A l.length c, .int .i64 er]) ∧ vs.map SV.bs = l ∧ Byts w' w'.heap.size A vs ∧ Below w.heap.size w w'

theorem split_more (cur rest : List UInt8) (m : Nat) (hm : 1 ≤ m) (hc : cur.length = m) : Oct.split (cur ++ rest) m = cur :: Oct.split rest m := by
  rw [Oct.split_cons _ m hm (by rw [List.length_append]; omega)]
  rw [List.take_append_of_le_length (by omega), List.take_of_length_le (by omega), List.drop_append_of_le_length (by omega), List.drop_of_length_le (by omega)]
  rfl
theorem split_last (cur : List UInt8) (m : Nat) (hm : 1 ≤ m) (h0 : 0 < cur.length) (hc : cur.length ≤ m) : Oct.split cur m = [cur] := by
  rw [Oct.split_cons _ m hm h0, List.take_of_length_le hc, List.drop_of_length_le hc]; rfl
theorem drop_get (l : List UInt8) (k : Nat) (h : k < l.length) : l.drop k = l.getD k 0 :: l.drop (k + 1) := by
  rw [List.drop_eq_getElem_cons h]; simp [List.getD, List.getElem?_eq_getElem h]
/-- All blocks of the pieces lie below B0. -/
def Under (B0 : Nat) (vs : List SV) : Prop := ∀ v ∈ vs, v.c = 0 ∨ ∀ g, v.a.map (·.block) = some g → g < B0
theorem Own.under {w : World} {base : Nat} {t : TypeId} {s n c : Nat} {A : Option Addr} {cs : List Value} (h : Own w base t s A n c cs) : c = 0 ∨ ∀ g, A.map (·.block) = some g → g < w.heap.size := by
  rcases Nat.eq_zero_or_pos c with h0 | h0
  · exact .inl h0
  · refine .inr fun g hg => ?_
    obtain ⟨g1, cur, rfl, _, hh, _⟩ := h.2.2.2 h0
    simp at hg
    subst hg
    exact (Array.getElem?_eq_some_iff.1 hh).1
theorem own_apart {w : World} {B0 : Nat} {t : TypeId} {s n c : Nat} {A A' : Option Addr} {c' : Nat} {cs : List Value} (h : Own w B0 t s A n c cs) (hu : c' = 0 ∨ ∀ g, A'.map (·.block) = some g → g < B0) : c' = 0 ∨ ∀ g, A'.map (·.block) = some g → ownAt A c ≠ some g := by
  refine hu.imp_right fun hh g hg e => ?_
  have h1 := (h.lt g e).1
  have h2 := hh g hg
  omega

end Go.Proofs.Ytapfiapjefnjjaa
