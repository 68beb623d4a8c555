/-
  The statements EccCorrects, EccPacks, EccUnpacks.
-/
import Derived.Test.YtknpppbceogbfaaEccL
import Derived.Test.YtknpppbceogbfaaOctW
namespace Go.Proofs.Ytknpppbceogbfaa
open Go.RowKit

theorem flip_lt (x p : Nat) (hx : x < 4294967296) (hp : p < 32) : x ^^^ 2 ^ p < 4294967296 :=
  Nat.xor_lt_two_pow (n := 32) hx (Nat.pow_lt_pow_right (by omega) hp)

set_option maxHeartbeats 2000000 in
theorem law_EccCorrects (d i k : Int) (w : World) :
    Calls Try.prog 5 #[.int .i64 d, .int .i64 i, .int .i64 k] w fun e w' => e = .returned (.bool true) ∧ Below w.heap.size w w' := by
  by_cases hd : 0 ≤ d ∧ d < 16777216
  · obtain ⟨n, rfl⟩ := Int.eq_ofNat_of_zero_le hd.1
    have hn : n < 16777216 := by omega
    have e1 : encW (n : Int) = Ecc.code n := by unfold encW; rw [if_pos hd]; rfl
    have e2 : encE (n : Int) = 0 := by unfold encE; rw [if_pos hd]
    have hcl := Ecc.code_lt n
    have hcl2 : Ecc.code n < 4294967296 := by omega
    have D0 := Lib.hid (Ecc.decode_code n hn)
    have E1 := Lib.hid e1
    have E2 := Lib.hid e2
    clear e1 e2 hd
    by_cases hout : i < 0 ∨ 31 < i ∨ k < 0 ∨ 31 < k
    · have hcase : (i < 0) ∨ (0 ≤ i ∧ 31 < i) ∨ (0 ≤ i ∧ i ≤ 31 ∧ k < 0) ∨ (0 ≤ i ∧ i ≤ 31 ∧ 0 ≤ k ∧ 31 < k) := by omega
      clear hout
      rcases hcase with h | ⟨h1, h2⟩ | ⟨h1, h2, h3⟩ | ⟨h1, h2, h3, h4⟩
      all_goals
        go_enter Try.func5, Try.ntmps5
        go_wp2_with fail
        refine (ecc_Encode n _).mono ?_
        rintro e w1 ⟨rfl, hb1⟩
        rw [E1.out, E2.out]
        go_wp2_with fail
        refine (ecc_Decode (Ecc.code n) _ hcl2).mono ?_
        rintro e w2 ⟨rfl, hb2⟩
        rw [D0.out]
        go_wp2_with (go_at_call 11; refine (law10_example _).mono ?_; rintro e w3 ⟨rfl, hb3⟩)
        go_ret
        exact ⟨rfl, hb1.trans ((hb2.trans (hb3.mono hb2.size)).mono hb1.size)⟩
    · have i1 : 0 ≤ i := by omega
      have i2 : i ≤ 31 := by omega
      have i3 : 0 ≤ k := by omega
      have i4 : k ≤ 31 := by omega
      have hi : i.toNat < 32 := by omega
      have hk : k.toNat < 32 := by omega
      have hne : Hid (i ≠ k → i.toNat ≠ k.toNat) := Lib.hid (by omega)
      have t1 : decide (i < 0) = false := by simp; omega
      have t2 : decide (31 < i) = false := by simp; omega
      have t3 : decide (k < 0) = false := by simp; omega
      have t4 : decide (31 < k) = false := by simp; omega
      have i6 : i ≤ 32 := by omega
      have i7 : k ≤ 32 := by omega
      clear hout i2 i4
      have f1 := flip_bit (Ecc.code n) i.toNat hcl2 hi
      have hl1 := flip_lt (Ecc.code n) i.toNat hcl2 hi
      have D1 := Lib.hid (Ecc.decode_one n i.toNat hn hi)
      have D3 := Lib.hid (Ecc.decode_same n i.toNat hn)
      have D4 := Lib.hid (Ecc.decode_two n i.toNat k.toNat hi hk)
      generalize Ecc.code n ^^^ 2 ^ i.toNat = x1 at *
      have f2 := flip_bit x1 k.toNat hl1 hk
      have hl2 := flip_lt x1 k.toNat hl1 hk
      by_cases hik : i = k
      · subst hik
        have D2 := Lib.hid D3.out
        clear D3 D4
        generalize x1 ^^^ 2 ^ i.toNat = x2 at *
        go_enter Try.func5, Try.ntmps5
        go_wp2_with fail
        refine (ecc_Encode n _).mono ?_
        rintro e w1 ⟨rfl, hb1⟩
        rw [E1.out, E2.out]
        go_wp2_with fail
        refine (ecc_Decode (Ecc.code n) _ hcl2).mono ?_
        rintro e w2 ⟨rfl, hb2⟩
        rw [D0.out]
        go_wp2_with fail
        refine (ecc_Decode _ _ hl1).mono ?_
        rintro e w3 ⟨rfl, hb3⟩
        rw [D1.out]
        go_wp2_with fail
        rw [← IntKind.wrap_u32'] at f1 f2
        go_region_with (go_at_call 12; refine (ecc_Decode _ _ hl2).mono ?_; rintro e w4 ⟨rfl, hb4⟩; rw [D2.out])
        have hb := hb1.trans ((hb2.trans ((hb3.drew.trans (hb4.mono hb3.size)).mono hb2.size)).mono hb1.size)
        clear hb1 hb2 hb3 hb4
        go_wp2_with (go_at_call 11; refine (law10_example _).mono ?_; rintro e w5 ⟨rfl, hb5⟩)
        go_ret
        exact ⟨rfl, hb.trans (hb5.mono hb.size)⟩
      · have D2 := Lib.hid (D4.out (hne.out hik))
        clear D3 D4
        generalize x1 ^^^ 2 ^ k.toNat = x2 at *
        have i5 : (i == k) = false := by simpa using hik
        have HIK := Lib.hid hik
        clear hik
        go_enter Try.func5, Try.ntmps5
        go_wp2_with fail
        refine (ecc_Encode n _).mono ?_
        rintro e w1 ⟨rfl, hb1⟩
        rw [E1.out, E2.out]
        go_wp2_with fail
        refine (ecc_Decode (Ecc.code n) _ hcl2).mono ?_
        rintro e w2 ⟨rfl, hb2⟩
        rw [D0.out]
        go_wp2_with fail
        refine (ecc_Decode _ _ hl1).mono ?_
        rintro e w3 ⟨rfl, hb3⟩
        rw [D1.out]
        go_wp2_with fail
        rw [← IntKind.wrap_u32'] at f1 f2
        go_region_with (go_at_call 12; refine (ecc_Decode _ _ hl2).mono ?_; rintro e w4 ⟨rfl, hb4⟩; rw [D2.out])
        have hb := hb1.trans ((hb2.trans ((hb3.drew.trans (hb4.mono hb3.size)).mono hb2.size)).mono hb1.size)
        clear hb1 hb2 hb3 hb4
        go_wp2_with (go_at_call 11; refine (law10_example _).mono ?_; rintro e w5 ⟨rfl, hb5⟩)
        go_ret
        exact ⟨rfl, hb.trans (hb5.mono hb.size)⟩
  · have e1 : encW d = 0 := by unfold encW; rw [if_neg hd]
    have e2 : encE d = 2 := by unfold encE; rw [if_neg hd]
    have E1 := Lib.hid e1
    have E2 := Lib.hid e2
    clear e1 e2 hd
    go_enter Try.func5, Try.ntmps5
    go_wp2_with fail
    refine (ecc_Encode d _).mono ?_
    rintro e w1 ⟨rfl, hb1⟩
    rw [E1.out, E2.out]
    go_wp2_with (go_at_call 11; refine (law10_example _).mono ?_; rintro e w3 ⟨rfl, hb3⟩)
    go_ret
    exact ⟨rfl, hb1.trans (hb3.mono hb1.size)⟩

theorem Own.wds {w : World} {base : Nat} {t : TypeId} {A : Option Addr} {n c : Nat} {ws : List UInt32} (h : Own w base t 1 A n c (ws.map W32)) {B : Nat} (hB : w.heap.size ≤ B) : Wds w B A n c ws :=
  ⟨by have := h.len; simpa using this, h.le, h.row.more hB⟩

set_option maxHeartbeats 2000000 in
theorem law_EccPacks (A : Option Addr) (n c : Nat) (b : List UInt8) (i : Int) (w : World) (h : Byt w w.heap.size A n c b) (hi : i ≤ 9223372036854775807) :
    Calls Try.prog 6 #[.slice A n c, .int .i64 i] w fun e w' => e = .returned (.bool true) ∧ Below w.heap.size w w' := by
  by_cases hn : n ≤ 3000
  · have hn2 : (n : Int) ≤ 3000 := by omega
    go_enter Try.func6, Try.ntmps6
    go_wp2_with fail
    refine (ecc_Words _ _ hi).mono ?_
    rintro e w1 ⟨rfl, rfl⟩
    go_wp2_with fail
    refine (ref10_Words _ _ hi).mono ?_
    rintro e w1 ⟨rfl, rfl⟩
    generalize wordsN i = z at *
    go_wp2_with fail
    refine (ecc_Pack A n c b _ h (by omega)).mono ?_
    rintro e w1 ⟨A1, m1, c1, rfl, hm1', hown1, hb1⟩
    have hm1 := Lib.hid hm1'
    clear hm1'
    go_wp2_with fail
    refine (ref10_Pack A n c b _ ((h.below hb1).more hb1.size) (by omega)).mono ?_
    rintro e w2 ⟨A2, m2, c2, rfl, hm2, hown2, hb2⟩
    have y1 := hown1.wds (Nat.le_refl _)
    have y2 := hown2.wds (Nat.le_refl _)
    have y3 := (y1.below hb2).more hb2.size
    have hml : m1 ≤ 9223372036854775807 := by rw [hm1.out]; omega
    have hb := hb1.trans (hb2.mono hb1.size)
    clear hm1 hm2 hown1 hown2 y1 hb1 hb2 h
    go_wp2_with fail
    refine (law10_sameWords A1 A2 m1 c1 m2 c2 _ _ _ y3 y2 hml rfl).mono ?_
    rintro e w3 ⟨rfl, kk, rfl⟩
    go_wp2_with (go_at_call 11; refine (law10_example _).mono ?_; rintro e w5 ⟨rfl, hb5⟩)
    go_ret
    exact ⟨rfl, (Below.drewN hb kk).trans (hb5.mono hb.size)⟩
  · have hn2 : ¬ (n : Int) ≤ 3000 := by omega
    go_enter Try.func6, Try.ntmps6
    go_wp2_with (go_at_call 11; refine (law10_example _).mono ?_; rintro e w5 ⟨rfl, hb5⟩)
    go_ret
    exact ⟨rfl, hb5⟩

set_option maxHeartbeats 2000000 in
theorem law_EccUnpacks (A : Option Addr) (n c : Nat) (ws : List UInt32) (i : Int) (w : World) (h : Wds w w.heap.size A n c ws) (hi : i ≤ 9223372036854775807) :
    Calls Try.prog 7 #[.slice A n c, .int .i64 i] w fun e w' => e = .returned (.bool true) ∧ Below w.heap.size w w' := by
  by_cases hn : n ≤ 600
  · have hn2 : (n : Int) ≤ 600 := by omega
    go_enter Try.func7, Try.ntmps7
    go_wp2_with fail
    refine (ecc_Unpack A n c ws i _ h (by omega) hi).mono ?_
    rintro e w1 ⟨A1, c1, rfl, hown1, hb1⟩
    go_wp2_with fail
    refine (ref10_Unpack A n c ws i _ ((h.below hb1).more hb1.size) (by omega) hi).mono ?_
    rintro e w2 ⟨A2, c2, rfl, hown2, hb2⟩
    have y1 := hown1.byt (Nat.le_refl _)
    have y2 := hown2.byt (Nat.le_refl _)
    have y3 := (y1.below hb2).more hb2.size
    have hml := hown1.max
    have hm2 := hown1.le
    have hb := hb1.trans (hb2.mono hb1.size)
    have hs := Lib.hid (Oct.same_refl (upB ws i))
    unfold maxLen at hml
    generalize upB ws i = bs at *
    generalize upF ws i = f at *
    generalize upE ws i = er at *
    clear hown1 hown2 y1 hb1 hb2 h
    go_wp2_with fail
    refine (ref01_Same A1 A2 _ _ c1 c2 bs bs _ y3 y2 (by omega) (by omega)).mono ?_
    rintro e w3 ⟨rfl, kk, rfl⟩
    rw [hs.out]
    go_wp2_with (go_at_call 11; refine (law10_example _).mono ?_; rintro e w5 ⟨rfl, hb5⟩)
    go_ret
    exact ⟨rfl, (Below.drewN hb kk).trans (hb5.mono hb.size)⟩
  · have hn2 : ¬ (n : Int) ≤ 600 := by omega
    go_enter Try.func7, Try.ntmps7
    go_wp2_with (go_at_call 11; refine (law10_example _).mono ?_; rintro e w5 ⟨rfl, hb5⟩)
    go_ret
    exact ⟨rfl, hb5⟩
end Go.Proofs.Ytknpppbceogbfaa
