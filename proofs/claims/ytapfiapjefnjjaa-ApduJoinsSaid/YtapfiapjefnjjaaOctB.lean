/-
  The walks of the library of strings of bytes: digit, Parse, Xor.
-/
import Derived.Test.YtapfiapjefnjjaaOctA
namespace Go.Proofs.Ytapfiapjefnjjaa
open Go.RowKit

/-- The bytes while k digits are read. -/
def outK (s : List UInt8) (k : Nat) : List UInt8 := (List.range (s.length / 2)).map fun j => if 2 * j + 1 < k then UInt8.ofNat (Oct.dn (s.getD (2 * j) 0) * 16 + Oct.dn (s.getD (2 * j + 1) 0)) else if 2 * j < k then UInt8.ofNat (Oct.dn (s.getD (2 * j) 0)) else 0
theorem outK_zero (s : List UInt8) : outK s 0 = zs (s.length / 2) := by
  unfold outK zs
  apply List.ext_getElem
  · simp
  · intro j h1 h2; simp
theorem outK_get (s : List UInt8) (k j : Nat) (h : j < s.length / 2) : (outK s k).getD j 0 = if 2 * j + 1 < k then UInt8.ofNat (Oct.dn (s.getD (2 * j) 0) * 16 + Oct.dn (s.getD (2 * j + 1) 0)) else if 2 * j < k then UInt8.ofNat (Oct.dn (s.getD (2 * j) 0)) else 0 := by
  rw [List.getD, List.getElem?_eq_getElem (by simpa [outK] using h)]; simp [outK]
theorem outK_length (s : List UInt8) (k : Nat) : (outK s k).length = s.length / 2 := by simp [outK]
theorem outK_full (s : List UInt8) (h : s.length % 2 = 0) : outK s s.length = Oct.prs s := by
  apply List.ext_getElem
  · rw [outK_length, Oct.prs_length]
  · intro j h1 h2
    have hj : 2 * j + 1 < s.length := by rw [outK_length] at h1; omega
    have := Oct.prs_get s j hj
    rw [List.getD, List.getElem?_eq_getElem h2, Option.getD_some] at this
    rw [this]
    simp [outK, hj]
theorem outK_set (s : List UInt8) (k : Nat) (hk : k < s.length / 2 * 2) : (outK s k).set (k / 2) (UInt8.ofNat (((outK s k).getD (k / 2) 0).toNat * 16 % 256 + Oct.dn (s.getD k 0))) = outK s (k + 1) := by
  have hj : k / 2 < s.length / 2 := by omega
  rw [outK_get s k (k / 2) hj]
  apply List.ext_getElem
  · simp [outK]
  · intro i h1 h2
    rw [List.getElem_set]
    simp only [outK, List.getElem_map, List.getElem_range]
    by_cases e : k / 2 = i
    · subst e
      rw [if_pos rfl, if_neg (by omega)]
      have d0 := Oct.dn_lt (s.getD (2 * (k / 2)) 0)
      rcases Nat.mod_two_eq_zero_or_one k with hm | hm
      · have ek : 2 * (k / 2) = k := by omega
        rw [ek, if_neg (by omega), if_neg (by omega), if_pos (by omega)]
        simp
      · have ek : 2 * (k / 2) + 1 = k := by omega
        have ek2 : s.getD (2 * (k / 2) + 1) 0 = s.getD k 0 := by rw [ek]
        rw [if_pos (by omega), if_pos (by omega), ek2, UInt8.toNat_ofNat_of_lt' (by simp only [UInt8.size]; omega), Nat.mod_eq_of_lt (by omega)]
    · rw [if_neg e]
      by_cases h3 : 2 * i + 1 < k
      · rw [if_pos h3, if_pos (by omega)]
      · rw [if_neg h3, if_neg (by omega), if_neg (by omega), if_neg (by omega)]
theorem bcells_set (bs : List UInt8) (i : Nat) (x : UInt8) : bcells (bs.set i x) = (bcells bs).set i (B8 x) := by simp [bcells, List.map_set]
theorem or_digit (x d : Nat) (hd : d < 16) : bits BinOp.or IntKind.u8 ((x : Int) * 16 % 256) (d : Int) = ((x * 16 % 256 + d : Nat) : Int) := by
  rw [show (x : Int) * 16 % 256 = ((x * 16 % 256 : Nat) : Int) by omega, u8_or_nat _ _ (by omega) (by omega), nat_join 4 _ _ (by omega) (by omega)]

theorem Only.iterAt (w : World) (K : Nat) (s : ByteArray) (p : Nat) : Only (fun q => q = K) w (w.iterAt K s p) :=
  ⟨rfl, rfl, rfl, by rw [Lib.iterAt_size]; exact Nat.le_refl _, fun q _ hq => Lib.iterAt_other w K q s p hq⟩
theorem rune_dv (s : ByteArray) (k : Nat) (h : k < s.size) : Oct.dv (Utf8.decode s k).1 = Oct.dv (s.data.toList.getD k 0).toNat ∧ (0 ≤ Oct.dv (s.data.toList.getD k 0).toNat → (Utf8.decode s k).2 = 1) := by
  have e : s.data.toList.getD k 0 = s[k]'h := by
    rw [List.getD, List.getElem?_eq_getElem (by simpa using h)]; rfl
  rw [e]
  by_cases ha : (s[k]'h).toNat < 128
  · rw [decode_ascii s k h ha]; exact ⟨rfl, fun _ => rfl⟩
  · have hh := (decode_high s k h (by omega)).1
    rw [Oct.dv_high _ hh, Oct.dv_high _ (by omega)]
    exact ⟨rfl, fun h0 => by omega⟩
theorem prOk_bad (l : List UInt8) (k : Nat) (h : k < l.length) (hd : ¬ 0 ≤ Oct.dv (l.getD k 0).toNat) : Oct.prB l = [] ∧ Oct.prE l = 4 := by
  have : Oct.prOk l = false := by
    unfold Oct.prOk
    rw [Bool.and_eq_false_iff]
    right
    rw [List.all_eq_false]
    refine ⟨l[k], List.getElem_mem h, ?_⟩
    unfold Oct.isD
    rw [List.getD, List.getElem?_eq_getElem h] at hd
    simpa using hd
  constructor
  · unfold Oct.prB; rw [this]; rfl
  · unfold Oct.prE; rw [this]; rfl
theorem prOk_good (l : List UInt8) (h : l.length % 2 = 0) (hd : ∀ j, j < l.length → 0 ≤ Oct.dv (l.getD j 0).toNat) : Oct.prB l = Oct.prs l ∧ Oct.prE l = 0 := by
  have : Oct.prOk l = true := by
    unfold Oct.prOk
    rw [h]
    simp only [beq_self_eq_true, Bool.true_and]
    rw [List.all_eq_true]
    intro c hc
    obtain ⟨j, hj, rfl⟩ := List.mem_iff_getElem.1 hc
    have := hd j hj
    rw [List.getD, List.getElem?_eq_getElem hj] at this
    unfold Oct.isD
    simpa using this
  constructor
  · unfold Oct.prB; rw [this]; rfl
  · unfold Oct.prE; rw [this]; rfl

end Go.Proofs.Ytapfiapjefnjjaa
