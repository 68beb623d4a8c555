/-
  The order of strings of bytes in plain mathematics. Nothing here names a program.
-/
namespace Go.Proofs.Ytapfiapjefnjjaa.Oct

/-- Byte by byte; a beginning of another string comes before it. -/
def cmp : List UInt8 → List UInt8 → Int
  | [], [] => 0
  | [], _ :: _ => -1
  | _ :: _, [] => 1
  | a :: as, b :: bs => if a.toNat < b.toNat then -1 else if b.toNat < a.toNat then 1 else cmp as bs

theorem cmp_zero : ∀ (a b : List UInt8), cmp a b = 0 ↔ a = b
  | [], [] => by simp [cmp]
  | [], _ :: _ => by simp [cmp]
  | _ :: _, [] => by simp [cmp]
  | a :: as, b :: bs => by
    simp only [cmp]
    split
    · rename_i h
      constructor
      · intro h'; cases h'
      · intro h'; obtain ⟨rfl, _⟩ := List.cons.inj h'; omega
    · split
      · rename_i h
        constructor
        · intro h'; cases h'
        · intro h'; obtain ⟨rfl, _⟩ := List.cons.inj h'; omega
      · rename_i h1 h2
        have e : a = b := UInt8.toNat_inj.1 (by omega)
        subst e
        rw [cmp_zero as bs]
        simp
theorem cmp_bd : ∀ (a b : List UInt8), -1 ≤ cmp a b ∧ cmp a b ≤ 1
  | [], [] => by simp [cmp]
  | [], _ :: _ => by simp [cmp]
  | _ :: _, [] => by simp [cmp]
  | a :: as, b :: bs => by
    simp only [cmp]
    split
    · omega
    · split
      · omega
      · exact cmp_bd as bs
theorem cmp_step (a b : List UInt8) (k : Nat) (ha : k < a.length) (hb : k < b.length) :
    cmp (a.drop k) (b.drop k) = if (a.getD k 0).toNat < (b.getD k 0).toNat then -1 else if (b.getD k 0).toNat < (a.getD k 0).toNat then 1 else cmp (a.drop (k + 1)) (b.drop (k + 1)) := by
  rw [List.drop_eq_getElem_cons ha, List.drop_eq_getElem_cons hb]
  simp [cmp, List.getD, List.getElem?_eq_getElem ha, List.getElem?_eq_getElem hb]
theorem cmp_end (a b : List UInt8) (k : Nat) (ha : k ≤ a.length) (hb : k ≤ b.length) (h : k = a.length ∨ k = b.length) :
    cmp (a.drop k) (b.drop k) = if a.length < b.length then -1 else if b.length < a.length then 1 else 0 := by
  rcases h with h | h
  · rw [h, List.drop_length]
    rcases Nat.lt_or_ge a.length b.length with h' | h'
    · rw [List.drop_eq_getElem_cons h', if_pos h']; rfl
    · have e : b.length = a.length := by omega
      rw [if_neg (by omega), if_neg (by omega), ← e, List.drop_length]; rfl
  · rw [h, List.drop_length]
    rcases Nat.lt_or_ge b.length a.length with h' | h'
    · rw [List.drop_eq_getElem_cons h', if_neg (by omega), if_pos h']; rfl
    · have e : a.length = b.length := by omega
      rw [if_neg (by omega), if_neg (by omega), ← e, List.drop_length]; rfl
/-- Are two strings the same? -/
def same (a b : List UInt8) : Bool := decide (a = b)
theorem same_refl (a : List UInt8) : same a a = true := by simp [same]
theorem same_iff (a b : List UInt8) : same a b = true ↔ a = b := by simp [same]
theorem same_cmp (a b : List UInt8) : (cmp a b == 0) = same a b := by
  rw [Bool.eq_iff_iff, same_iff, beq_iff_eq, cmp_zero]
end Go.Proofs.Ytapfiapjefnjjaa.Oct
