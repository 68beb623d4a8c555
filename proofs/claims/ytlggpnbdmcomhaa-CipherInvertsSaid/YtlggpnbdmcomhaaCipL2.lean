/-
  The walks of the statements CipherEncrypts and CipherInverts.
-/
import Derived.Test.YtlggpnbdmcomhaaCipX
namespace Go.Proofs.Ytlggpnbdmcomhaa
open Go.RowKit

set_option maxRecDepth 100000 in
set_option maxHeartbeats 2000000 in
theorem law_CipherEncrypts (A A1 : Option Addr) (n n1 c c1 : Nat) (key b : List UInt8) (w : World) (hk : Byt w w.heap.size A n c key) (hb : Byt w w.heap.size A1 n1 c1 b) :
    Calls Try.prog 4 #[.slice A n c, .slice A1 n1 c1] w fun e w' => e = .returned (.bool true) ∧ Below w.heap.size w w' := by
  by_cases h0 : 100 < n
  · go_enter Try.func4, Try.ntmps4
    go_wp2_with (go_at_call 7; refine (law19_example _).mono ?_; rintro e w1 ⟨rfl, hb1⟩)
    go_ret
    exact ⟨rfl, hb1⟩
  by_cases h1 : 100 < n1
  · go_enter Try.func4, Try.ntmps4
    go_wp2_with (go_at_call 7; refine (law19_example _).mono ?_; rintro e w1 ⟨rfl, hb1⟩)
    go_ret
    exact ⟨rfl, hb1⟩
  go_enter Try.func4, Try.ntmps4
  go_wp2_with fail
  refine (cipher_Encrypt A A1 n n1 c c1 key b w hk hb).mono ?_
  rintro e w1 ⟨X1, d1, rfl, o1, b1⟩
  go_wp2_with fail
  refine (ref19_Encrypt A A1 n n1 c c1 key b w1 ((hk.below b1).more b1.size) ((hb.below b1).more b1.size)).mono ?_
  rintro e w2 ⟨X2, d2, rfl, o2, b2⟩
  have b12 := b1.trans (b2.mono b1.size)
  go_wp2_with fail
  refine (cipher_Decrypt A A1 n n1 c c1 key b w2 ((hk.below b12).more b12.size) ((hb.below b12).more b12.size)).mono ?_
  rintro e w3 ⟨X3, d3, rfl, o3, b3⟩
  have b13 := b12.trans (b3.mono b12.size)
  go_wp2_with fail
  refine (ref19_Decrypt A A1 n n1 c c1 key b w3 ((hk.below b13).more b13.size) ((hb.below b13).more b13.size)).mono ?_
  rintro e w4 ⟨X4, d4, rfl, o4, b4⟩
  have b14 := b13.trans (b4.mono b13.size)
  have y1 := ((((o1.byt (Nat.le_refl _)).below b2).more b2.size |>.below b3).more b3.size |>.below b4).more b4.size
  have y2 := (((o2.byt (Nat.le_refl _)).below b3).more b3.size |>.below b4).more b4.size
  have y3 := ((o3.byt (Nat.le_refl _)).below b4).more b4.size
  have y4 := o4.byt (Nat.le_refl _)
  have l1 := Cip.res_length key b false
  have l2 := Cip.res_length key b true
  have s1 := Lib.hid (Oct.same_refl (Cip.res key b false))
  have s2 := Lib.hid (Oct.same_refl (Cip.res key b true))
  clear o1 o2 o3 o4 hk hb b1 b2 b3 b4 b12 b13
  go_wp2_with fail
  refine (ref01_Same X1 X2 _ _ d1 d2 _ _ w4 y1 y2 (by omega) (by omega)).mono ?_
  rintro e w5 ⟨rfl, k5, rfl⟩
  rw [s1.out]
  go_wp2_with fail
  refine (ref01_Same X3 X4 _ _ d3 d4 _ _ _ (by exact y3) (by exact y4) (by omega) (by omega)).mono ?_
  rintro e w6 ⟨rfl, k6, rfl⟩
  rw [s2.out]
  go_wp2_with (go_at_call 7; refine (law19_example _).mono ?_; rintro e w7 ⟨rfl, b7⟩)
  go_ret
  exact ⟨by simp, (Below.drewN b14 _).trans (b7.mono b14.size)⟩

set_option maxRecDepth 100000 in
set_option maxHeartbeats 2000000 in
theorem law_CipherInverts (A A1 : Option Addr) (n n1 c c1 : Nat) (key b : List UInt8) (w : World) (hk : Byt w w.heap.size A n c key) (hb : Byt w w.heap.size A1 n1 c1 b) :
    Calls Try.prog 5 #[.slice A n c, .slice A1 n1 c1] w fun e w' => e = .returned (.bool true) ∧ Below w.heap.size w w' := by
  by_cases h0 : 100 < n
  · go_enter Try.func5, Try.ntmps5
    go_wp2_with (go_at_call 7; refine (law19_example _).mono ?_; rintro e w1 ⟨rfl, hb1⟩)
    go_ret
    exact ⟨rfl, hb1⟩
  by_cases h1 : 100 < n1
  · go_enter Try.func5, Try.ntmps5
    go_wp2_with (go_at_call 7; refine (law19_example _).mono ?_; rintro e w1 ⟨rfl, hb1⟩)
    go_ret
    exact ⟨rfl, hb1⟩
  cases hE : (Cip.err key b != 0) with
  | true =>
    have hl := Cip.res_none key b false hE
    have HL := Lib.hid (show (Cip.res key b false).length = 0 by rw [hl]; rfl)
    clear hl
    go_enter Try.func5, Try.ntmps5
    go_wp2_with fail
    refine (cipher_Encrypt A A1 n n1 c c1 key b w hk hb).mono ?_
    rintro e w1 ⟨X1, d1, rfl, _, b1⟩
    rw [HL.out]
    go_wp2_with (go_at_call 7; refine (law19_example _).mono ?_; rintro e w7 ⟨rfl, b7⟩)
    go_ret
    exact ⟨rfl, b1.trans (b7.mono b1.size)⟩
  | false =>
    obtain ⟨k1, k2⟩ := Cip.err_zero key b hE
    have q1 := Lib.hid (Cip.res_ok key b false k1 k2)
    have q2 := Lib.hid (Cip.res_ok key b true k1 k2)
    have q3 := Lib.hid ((Cip.res_ok key (Cip.crypt key b false) true k1 rfl).trans (Cip.crypt_back key b false k2))
    have q4 := Lib.hid ((Cip.res_ok key (Cip.crypt key b true) false k1 rfl).trans (Cip.crypt_back key b true k2))
    have e1 := Lib.hid (Cip.err_ok key b k1 k2)
    have e3 := Lib.hid (Cip.err_ok key (Cip.crypt key b false) k1 rfl)
    have e4 := Lib.hid (Cip.err_ok key (Cip.crypt key b true) k1 rfl)
    have s1 := Lib.hid (Oct.same_refl b)
    have l1 := Lib.hid (Cip.length_crypt key b false)
    have l2 := Lib.hid (Cip.length_crypt key b true)
    have lb := Lib.hid k2
    clear k1 k2 hE
    go_enter Try.func5, Try.ntmps5
    go_wp2_with fail
    refine (cipher_Encrypt A A1 n n1 c c1 key b w hk hb).mono ?_
    rintro e w1 ⟨X1, d1, rfl, o1, b1⟩
    rw [q1.out, l1.out] at o1
    rw [q1.out, l1.out, e1.out]
    have y1 := o1.byt (Nat.le_refl _)
    go_wp2_with fail
    refine (cipher_Decrypt A X1 n 8 c d1 key _ w1 ((hk.below b1).more b1.size) y1).mono ?_
    rintro e w2 ⟨X2, d2, rfl, o2, b2⟩
    have b12 := b1.trans (b2.mono b1.size)
    rw [q3.out, lb.out] at o2
    rw [q3.out, lb.out, e3.out]
    go_wp2_with fail
    refine (cipher_Decrypt A A1 n n1 c c1 key b w2 ((hk.below b12).more b12.size) ((hb.below b12).more b12.size)).mono ?_
    rintro e w3 ⟨X3, d3, rfl, o3, b3⟩
    have b13 := b12.trans (b3.mono b12.size)
    rw [q2.out, l2.out] at o3
    rw [q2.out, l2.out, e1.out]
    have y3 := o3.byt (Nat.le_refl _)
    go_wp2_with fail
    refine (cipher_Encrypt A X3 n 8 c d3 key _ w3 ((hk.below b13).more b13.size) y3).mono ?_
    rintro e w4 ⟨X4, d4, rfl, o4, b4⟩
    have b14 := b13.trans (b4.mono b13.size)
    rw [q4.out, lb.out] at o4
    rw [q4.out, lb.out, e4.out]
    have y2 := (((o2.byt (Nat.le_refl _)).below b3).more b3.size |>.below b4).more b4.size
    have y4 := o4.byt (Nat.le_refl _)
    have yb := (hb.below b14).more b14.size
    clear o1 o2 o3 o4 hk hb b1 b2 b3 b4 b12 b13 y1 y3
    go_wp2_with fail
    refine (ref01_Same X2 A1 8 n1 d2 c1 b b w4 y2 yb (by omega) (by omega)).mono ?_
    rintro e w5 ⟨rfl, k5, rfl⟩
    rw [s1.out]
    go_wp2_with fail
    refine (ref01_Same X4 A1 8 n1 d4 c1 b b _ (by exact y4) (by exact yb) (by omega) (by omega)).mono ?_
    rintro e w6 ⟨rfl, k6, rfl⟩
    rw [s1.out]
    go_wp2_with (go_at_call 7; refine (law19_example _).mono ?_; rintro e w7 ⟨rfl, b7⟩)
    go_ret
    exact ⟨by simp, (Below.drewN b14 _).trans (b7.mono b14.size)⟩
end Go.Proofs.Ytlggpnbdmcomhaa
