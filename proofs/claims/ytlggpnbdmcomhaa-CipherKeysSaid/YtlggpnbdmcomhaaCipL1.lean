/-
  The walk of the statement CipherKeys.
-/
import Derived.Test.YtlggpnbdmcomhaaCipX
namespace Go.Proofs.Ytlggpnbdmcomhaa
open Go.RowKit

set_option maxRecDepth 100000 in
set_option maxHeartbeats 2000000 in
theorem law_CipherKeys (A A1 A2 : Option Addr) (n n1 n2 c c1 c2 : Nat) (key a b : List UInt8) (w : World) (hk : Byt w w.heap.size A n c key) (ha : Byt w w.heap.size A1 n1 c1 a) (hb : Byt w w.heap.size A2 n2 c2 b) :
    Calls Try.prog 3 #[.slice A n c, .slice A1 n1 c1, .slice A2 n2 c2] w fun e w' => e = .returned (.bool true) ∧ Below w.heap.size w w' := by
  by_cases h0 : 100 < n
  · go_enter Try.func3, Try.ntmps3
    go_wp2_with (go_at_call 7; refine (law19_example _).mono ?_; rintro e w1 ⟨rfl, hb1⟩)
    go_ret
    exact ⟨rfl, hb1⟩
  by_cases h1 : 100 < n1
  · go_enter Try.func3, Try.ntmps3
    go_wp2_with (go_at_call 7; refine (law19_example _).mono ?_; rintro e w1 ⟨rfl, hb1⟩)
    go_ret
    exact ⟨rfl, hb1⟩
  by_cases h2 : 100 < n2
  · go_enter Try.func3, Try.ntmps3
    go_wp2_with (go_at_call 7; refine (law19_example _).mono ?_; rintro e w1 ⟨rfl, hb1⟩)
    go_ret
    exact ⟨rfl, hb1⟩
  go_enter Try.func3, Try.ntmps3
  go_wp2_with fail
  refine (cipher_Encrypt A A1 n n1 c c1 key a w hk ha).mono ?_
  rintro e w1 ⟨X, d, rfl, hown1, hb1⟩
  go_wp2_with fail
  refine (cipher_Encrypt A A2 n n2 c c2 key b w1 ((hk.below hb1).more hb1.size) ((hb.below hb1).more hb1.size)).mono ?_
  rintro e w2 ⟨Y, d2, rfl, hown2, hb2⟩
  have hbz := hb1.trans (hb2.mono hb1.size)
  cases hE : (Cip.err key a != 0) with
  | true =>
    go_wp2_with (go_at_call 7; refine (law19_example _).mono ?_; rintro e w3 ⟨rfl, hb3⟩)
    go_ret
    exact ⟨rfl, hbz.trans (hb3.mono hbz.size)⟩
  | false =>
    cases hF : (Cip.err key b != 0) with
    | true =>
      go_wp2_with (go_at_call 7; refine (law19_example _).mono ?_; rintro e w3 ⟨rfl, hb3⟩)
      go_ret
      exact ⟨rfl, hbz.trans (hb3.mono hbz.size)⟩
    | false =>
      obtain ⟨k1, k2⟩ := Cip.err_zero key a hE
      obtain ⟨_, k4⟩ := Cip.err_zero key b hF
      have hs : Oct.same (Cip.res key a false) (Cip.res key b false) = Oct.same a b := by
        rw [Bool.eq_iff_iff, Oct.same_iff, Oct.same_iff, Cip.res_ok _ _ _ k1 k2, Cip.res_ok _ _ _ k1 k4]
        exact Cip.crypt_inj key a b false k2 k4
      have HS := Lib.hid hs
      have l1 := Cip.res_length key a false
      have l2 := Cip.res_length key b false
      have y1 := (hown1.byt (Nat.le_refl _)).below hb2
      have y2 := hown2.byt (Nat.le_refl _)
      have y3 := y1.more hb2.size
      have z1 := ((ha.below hbz).more hbz.size)
      have z2 := ((hb.below hbz).more hbz.size)
      clear hs k1 k2 k4 y1 hown1 hown2 ha hb
      go_wp2_with fail
      refine (ref01_Same X Y _ _ d d2 _ _ w2 y3 y2 (by omega) (by omega)).mono ?_
      rintro e w3 ⟨rfl, k3, rfl⟩
      rw [HS.out]
      go_wp2_with fail
      refine (ref01_Same A1 A2 n1 n2 c1 c2 a b _ (by exact z1) (by exact z2) (by omega) (by omega)).mono ?_
      rintro e w3 ⟨rfl, k4, rfl⟩
      go_wp2_with (go_at_call 7; refine (law19_example _).mono ?_; rintro e w3 ⟨rfl, hb3⟩)
      go_ret
      exact ⟨by simp, (Below.drewN hbz _).trans (hb3.mono hbz.size)⟩
end Go.Proofs.Ytlggpnbdmcomhaa
