/-
  The walks of the library of strings of bytes: Xor, Clone, Put, Get, Unpad.
-/
import Derived.Test.YtapfiapjefnjjaaOctB
namespace Go.Proofs.Ytapfiapjefnjjaa
open Go.RowKit

theorem oxor_get (a b : List UInt8) (j : Nat) (h : j < a.length) : (Oct.xor a b).getD j 0 = a.getD j 0 ^^^ b.getD j 0 := by
  rw [List.getD, List.getElem?_eq_getElem (by simpa [Oct.xor] using h)]; simp [Oct.xor]
/-- The first k bytes of l, zeros behind them. -/
def upTo (l : List UInt8) (k : Nat) : List UInt8 := (List.range l.length).map fun j => if j < k then l.getD j 0 else 0
theorem upTo_zero (l : List UInt8) : upTo l 0 = zs l.length := by
  unfold upTo zs
  apply List.ext_getElem
  · simp
  · intro j h1 h2; simp
theorem upTo_full (l : List UInt8) : upTo l l.length = l := by
  apply List.ext_getElem
  · simp [upTo]
  · intro j h1 h2; simp [upTo, List.getD, h2]
theorem upTo_length (l : List UInt8) (k : Nat) : (upTo l k).length = l.length := by simp [upTo]
theorem upTo_set (l : List UInt8) (k : Nat) : (upTo l k).set k (l.getD k 0) = upTo l (k + 1) := by
  apply List.ext_getElem
  · simp [upTo]
  · intro i h1 h2
    rw [List.getElem_set]
    simp only [upTo, List.getElem_map, List.getElem_range]
    by_cases e : k = i
    · subst e; simp
    · rw [if_neg e]
      by_cases h : i < k
      · rw [if_pos h, if_pos (by omega)]
      · rw [if_neg h, if_neg (by omega)]
/-- The last k bytes of l, zeros ahead of them. -/
def lastK (l : List UInt8) (k : Nat) : List UInt8 := (List.range l.length).map fun j => if l.length - k ≤ j then l.getD j 0 else 0
theorem lastK_zero (l : List UInt8) : lastK l 0 = zs l.length := by
  unfold lastK zs
  apply List.ext_getElem
  · simp
  · intro j h1 h2
    have : j < l.length := by simpa using h2
    simp
    intro h3; omega
theorem lastK_full (l : List UInt8) : lastK l l.length = l := by
  apply List.ext_getElem
  · simp [lastK]
  · intro j h1 h2; simp [lastK, List.getD, List.getElem?_eq_getElem h2]
theorem lastK_length (l : List UInt8) (k : Nat) : (lastK l k).length = l.length := by simp [lastK]
theorem lastK_set (l : List UInt8) (k : Nat) (h : k < l.length) : (lastK l k).set (l.length - 1 - k) (l.getD (l.length - 1 - k) 0) = lastK l (k + 1) := by
  apply List.ext_getElem
  · simp [lastK]
  · intro i h1 h2
    rw [List.getElem_set]
    simp only [lastK, List.getElem_map, List.getElem_range]
    by_cases e : l.length - 1 - k = i
    · subst e; rw [if_pos rfl, if_pos (by omega)]
    · rw [if_neg e]
      by_cases h : l.length - k ≤ i
      · rw [if_pos h, if_pos (by omega)]
      · rw [if_neg h, if_neg (by omega)]

def xrE (a b : List UInt8) : Int := if a.length = b.length then 0 else 1
def xrB (a b : List UInt8) : List UInt8 := if a.length = b.length then Oct.xor a b else []

set_option maxHeartbeats 1000000 in
theorem slices_Clone (A : Option Addr) (n c : Nat) (bs : List UInt8) (w : World) (h : Byt w w.heap.size A n c bs) (hn : n ≤ 1000000000) :
    Calls Try.prog 50 #[.slice A n c] w fun e w' => ∃ A2 c2, e = .returned (.slice A2 n c2) ∧ Own w' w.heap.size 5 1 A2 n c2 (bcells bs) ∧ Below w.heap.size w w' := by
  obtain ⟨ti, hti, hz0, hz1, hz2⟩ := info_parts o_u8
  have hu : ∀ u : World, (binOp .eql 22 (.slice A n c) (.slice none 0 0)).run Try.prog u = .ok (.bool A.isNone) u := fun u => by
    have := Lib.run_eql_slice_nil u 22 5 A n c 0 0 Try.underlying22
    exact this
  cases A with
  | none =>
    have hn0 : n = 0 := by
      rcases Nat.eq_zero_or_pos n with h0 | h0
      · exact h0
      · obtain ⟨b, o, e, _⟩ := h.at_ h0; cases e
    have hb : bs = [] := List.eq_nil_of_length_eq_zero (by rw [h.1]; exact hn0)
    subst hn0 hb
    have hu2 : ∀ u : World, (binOp .eql 22 (.slice none 0 c) (.slice none 0 0)).run Try.prog u = .ok (.bool true) u := hu
    clear h hu
    go_enter Try.func50, Try.ntmps50
    go_wp2_with fail
    go_ret
    exact ⟨none, 0, rfl, Own.none_ _ _ _ _ _, Below.refl _ _⟩
  | some a =>
    have hu2 : ∀ u : World, (binOp .eql 22 (.slice (some a) n c) (.slice none 0 0)).run Try.prog u = .ok (.bool false) u := hu
    clear hu
    have hl := Lib.hid h.1
    have hr := h.2.2
    clear h
    go_enter Try.func50, Try.ntmps50
    have hb1 := (Below.refl w.heap.size w).alloc (Nat.le_refl _) (.cells #[] 5)
    have hown : Own (w.alloc (.cells #[] 5)) w.heap.size 5 1 (some ⟨w.heap.size, 0, none⟩) 0 0 [] := Own.none_ _ _ _ _ _
    go_wp2_with (at_builtin; refine wpList_append _ rfl (.tmp 5) (.tmp 6) 22 rfl w.heap.size 5 ti _ 1 1 Try.underlying22 hti hz0 hz1 hz2 rfl (by omega) (some ⟨w.heap.size, 0, none⟩) 0 0 _ rfl hown w.heap.size (some a) n c (bcells bs) rfl (hr.alloc (Nat.le_refl _) _) (by rw [length_bcells, hl.out]; omega) (bcells_one _) (by unfold maxLen; omega) (by omega) (by simp) ?_; intro A3 c3 w4 hown4 hg4 hat4; rw [Nat.zero_add, List.nil_append] at hown4)
    go_ret
    exact ⟨_, _, rfl, hown4, hown.grown hg4 hb1 (by simp)⟩

theorem unp_none (bs : List UInt8) (h : Oct.unp bs = none) : Oct.unpB bs = [] ∧ Oct.unpE bs = 4 := by
  unfold Oct.unpB Oct.unpE; rw [h]; exact ⟨rfl, rfl⟩
theorem unp_some (bs l : List UInt8) (h : Oct.unp bs = some l) : Oct.unpB bs = l ∧ Oct.unpE bs = 0 := by
  unfold Oct.unpB Oct.unpE; rw [h]; exact ⟨rfl, rfl⟩
theorem byte_eq (x : UInt8) (m : Nat) (hm : m < 256) : (x = UInt8.ofNat m) ↔ x.toNat = m := by
  constructor
  · rintro rfl; exact UInt8.toNat_ofNat_of_lt' (by simpa [UInt8.size] using hm)
  · intro h; apply UInt8.toNat_inj.1; rw [h]; exact (UInt8.toNat_ofNat_of_lt' (by simpa [UInt8.size] using hm)).symm

end Go.Proofs.Ytapfiapjefnjjaa
