/-
  The walks of the statements OctetsOrders, OctetsRoundTrip.
-/
import Derived.Test.YtpegechahbldlaaOctL
namespace Go.Proofs.Ytpegechahbldlaa
open Go.RowKit

theorem cmp_swap : ∀ (a b : List UInt8), Oct.cmp a b = -Oct.cmp b a
  | [], [] => rfl
  | [], _ :: _ => rfl
  | _ :: _, [] => rfl
  | x :: a, y :: b => by
    simp only [Oct.cmp]
    rw [cmp_swap a b]
    rcases Nat.lt_trichotomy x.toNat y.toNat with h | h | h
    · rw [if_pos h, if_neg (by omega), if_pos h]
    · rw [if_neg (by omega), if_neg (by omega), if_neg (by omega), if_neg (by omega)]
    · rw [if_neg (by omega), if_pos h, if_pos h]; rfl
theorem cmp_trans : ∀ (a b c : List UInt8), Oct.cmp a b ≤ 0 → Oct.cmp b c ≤ 0 → Oct.cmp a c ≤ 0
  | [], _, [], _, _ => by simp [Oct.cmp]
  | [], _, _ :: _, _, _ => by simp [Oct.cmp]
  | _ :: _, [], _, h, _ => by simp [Oct.cmp] at h
  | _ :: _, _ :: _, [], _, h => by simp [Oct.cmp] at h
  | x :: a, y :: b, z :: c, h1, h2 => by
    simp only [Oct.cmp] at *
    rcases Nat.lt_trichotomy x.toNat y.toNat with hxy | hxy | hxy
    · rcases Nat.lt_trichotomy y.toNat z.toNat with hyz | hyz | hyz
      · rw [if_pos (by omega)]; omega
      · rw [if_pos (by omega)]; omega
      · rw [if_neg (by omega), if_pos hyz] at h2; omega
    · rw [if_neg (by omega), if_neg (by omega)] at h1
      rcases Nat.lt_trichotomy y.toNat z.toNat with hyz | hyz | hyz
      · rw [if_pos (by omega)]; omega
      · rw [if_neg (by omega), if_neg (by omega)] at h2
        rw [if_neg (by omega), if_neg (by omega)]
        exact cmp_trans a b c h1 h2
      · rw [if_neg (by omega), if_pos hyz] at h2; omega
    · rw [if_neg (by omega), if_pos hxy] at h1; omega

set_option maxHeartbeats 2000000 in
theorem law_OctetsOrders (A A' A'' : Option Addr) (n c n' c' n'' c'' : Nat) (a b d : List UInt8) (w : World) (ha : Byt w w.heap.size A n c a) (hb : Byt w w.heap.size A' n' c' b) (hd : Byt w w.heap.size A'' n'' c'' d) :
    Calls Try.prog 7 #[.slice A n c, .slice A' n' c', .slice A'' n'' c''] w fun e w' => e = .returned (.bool true) ∧ Below w.heap.size w w' := by
  by_cases hbig : n ≤ 5000 ∧ n' ≤ 5000 ∧ n'' ≤ 5000
  · obtain ⟨h1, h2, h3⟩ := hbig
    have t1 : decide ((5000 : Int) < (n : Int)) = false := by simp; omega
    have t2 : decide ((5000 : Int) < (n' : Int)) = false := by simp; omega
    have t3 : decide ((5000 : Int) < (n'' : Int)) = false := by simp; omega
    have hsw : Oct.cmp b a = -Oct.cmp a b := cmp_swap b a
    have htr := cmp_trans a b d
    have hb1 := Oct.cmp_bd a b
    have hb2 := Oct.cmp_bd b d
    have hb3 := Oct.cmp_bd a d
    have HSW := Lib.hid hsw
    have hcmp1 := octets_Compare A A' n n' c c' a b
    have hcmp2 := octets_Compare A' A'' n' n'' c' c'' b d
    have hcmp3 := octets_Compare A A'' n n'' c c'' a d
    have hcmp4 := octets_Compare A' A n' n c' c b a
    rw [hsw] at hcmp4
    have href := ref01_Compare A A' n n' c c' a b
    clear hsw
    generalize Oct.cmp a b = x at *
    generalize Oct.cmp b d = y at *
    generalize Oct.cmp a d = z at *
    have q1 : (x != x) = false := by simp
    have q2 : (x != IntKind.i64.wrap (- -x)) = false := by rw [bne_eq_false_iff_eq, IntKind.wrap_i64]; omega
    have hcase : (decide (x ≤ 0) = true ∧ decide (y ≤ 0) = true ∧ decide (0 < z) = false) ∨ (decide (x ≤ 0) = true ∧ decide (y ≤ 0) = false) ∨ decide (x ≤ 0) = false := by
      by_cases hx : x ≤ 0
      · by_cases hy : y ≤ 0
        · exact .inl ⟨by simpa using hx, by simpa using hy, by have := htr hx hy; simp; omega⟩
        · exact .inr (.inl ⟨by simpa using hx, by simpa using hy⟩)
      · exact .inr (.inr (by simpa using hx))
    have HC1 := Lib.hid hcmp1
    have HC2 := Lib.hid hcmp2
    have HC3 := Lib.hid hcmp3
    have HC4 := Lib.hid hcmp4
    have HR := Lib.hid href
    clear htr hcmp1 hcmp2 hcmp3 hcmp4 href
    go_enter Try.func7, Try.ntmps7
    go_wp2_with fail
    refine (HC1.out w ha hb).mono ?_
    rintro e w1 ⟨rfl, rfl⟩
    go_wp2_with fail
    refine (HC2.out w hb hd).mono ?_
    rintro e w1 ⟨rfl, rfl⟩
    go_wp2_with fail
    refine (HC3.out w ha hd).mono ?_
    rintro e w1 ⟨rfl, rfl⟩
    go_wp2_with fail
    refine (HR.out w ha hb (by omega) (by omega)).mono ?_
    rintro e w1 ⟨rfl, k1, rfl⟩
    rcases hcase with ⟨u1, u2, u3⟩ | ⟨u1, u2⟩ | u1
    all_goals
      go_wp2_with fail
      refine (HC4.out (w.drewN k1) (by exact hb) (by exact ha)).mono ?_
      rintro e w1 ⟨rfl, rfl⟩
      go_wp2_with fail
      refine (octets_Begins A A' n n' c c' a b _ (by exact ha) (by exact hb)).mono ?_
      rintro e w1 ⟨rfl, rfl⟩
      go_wp2_with fail
      refine (ref01_Begins A A' n n' c c' a b _ (by exact ha) (by exact hb) (by omega) (by omega)).mono ?_
      rintro e w1 ⟨rfl, k2, rfl⟩
      generalize begins a b = bg at *
      go_wp2_with (go_at_call 10; refine (law01_example _).mono ?_; rintro e w6 ⟨rfl, b6⟩)
      go_ret
      exact ⟨by simp, (Below.drewN (Below.refl _ w) _).trans b6⟩
  · have hcase : decide ((5000 : Int) < (n : Int)) = true ∨ (decide ((5000 : Int) < (n : Int)) = false ∧ decide ((5000 : Int) < (n' : Int)) = true) ∨ (decide ((5000 : Int) < (n : Int)) = false ∧ decide ((5000 : Int) < (n' : Int)) = false ∧ decide ((5000 : Int) < (n'' : Int)) = true) := by
      simp only [decide_eq_true_eq, decide_eq_false_iff_not]; omega
    clear ha hb hd hbig
    rcases hcase with u1 | ⟨u1, u2⟩ | ⟨u1, u2, u3⟩
    all_goals
      go_enter Try.func7, Try.ntmps7
      go_wp2_with (go_at_call 10; refine (law01_example _).mono ?_; rintro e w6 ⟨rfl, b6⟩)
      go_ret
      exact ⟨rfl, b6⟩
end Go.Proofs.Ytpegechahbldlaa
