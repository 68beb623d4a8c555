/-
  The walks of the reference's functions.
-/
import Derived.Test.YtknpppbceogbfaaEccD
namespace Go.Proofs.Ytknpppbceogbfaa
open Go.RowKit

/-- The check places. -/
def chkB (p : Nat) : Bool := p == 1 || p == 2 || p == 4 || p == 8 || p == 16

set_option maxHeartbeats 1000000 in
theorem ref10_isCheck (p : Nat) (w : World) :
    Calls Try.prog 23 #[.int .i64 (p : Int)] w fun e w' => e = .returned (.bool (chkB p)) ∧ w = w' := by
  by_cases h1 : p = 1
  · subst h1
    go_enter Try.func23, Try.ntmps23
    go_wp2_with fail
    go_ret
    exact ⟨rfl, rfl⟩
  by_cases h2 : p = 2
  · subst h2
    go_enter Try.func23, Try.ntmps23
    go_wp2_with fail
    go_ret
    exact ⟨rfl, rfl⟩
  by_cases h3 : p = 4
  · subst h3
    go_enter Try.func23, Try.ntmps23
    go_wp2_with fail
    go_ret
    exact ⟨rfl, rfl⟩
  by_cases h4 : p = 8
  · subst h4
    go_enter Try.func23, Try.ntmps23
    go_wp2_with fail
    go_ret
    exact ⟨rfl, rfl⟩
  by_cases h5 : p = 16
  · subst h5
    go_enter Try.func23, Try.ntmps23
    go_wp2_with fail
    go_ret
    exact ⟨rfl, rfl⟩
  have e : chkB p = false := by simp [chkB, h1, h2, h3, h4, h5]
  rw [e]
  have t1 : ((p : Int) == 1) = false := by simp; omega
  have t2 : ((p : Int) == 2) = false := by simp; omega
  have t3 : ((p : Int) == 4) = false := by simp; omega
  have t4 : ((p : Int) == 8) = false := by simp; omega
  have t5 : ((p : Int) == 16) = false := by simp; omega
  clear e h1 h2 h3 h4 h5
  go_enter Try.func23, Try.ntmps23
  go_wp2_with fail
  go_ret
  exact ⟨rfl, rfl⟩

set_option maxHeartbeats 1000000 in
theorem ref10_bit (x p : Nat) (i : Int) (w : World) (hx : x < 4294967296) (hp : p ≤ 32) (hi : i = (p : Int)) :
    Calls Try.prog 34 #[.int .u32 (x : Int), .int .i64 i] w fun e w' => e = .returned (.int .i64 (Ecc.bit x p : Int)) ∧ w = w' := by
  subst hi
  have H := Lib.hid (ecc_shr x p hx)
  have h1 := Lib.hid (Ecc.bit_lt x p)
  have i0 : (p : Int) ≤ 32 := by omega
  go_enter Try.func34, Try.ntmps34
  go_wp2_with fail
  go_ret
  refine ⟨ret_int ?_, rfl⟩
  rw [H.out]
  have := h1.out
  unfold wrap64; omega

set_option maxHeartbeats 1000000 in
theorem ref10_syndrome (x : Nat) (w : World) (hx : x < 4294967296) :
    Calls Try.prog 24 #[.int .u32 (x : Int)] w fun e w' => e = .returned (.int .i64 (Ecc.syn x : Nat)) ∧ w = w' := by
  go_enter Try.func24, Try.ntmps24
  go_wp2_with fail
  go_loopg [3, 4] 31 (fun g s p wr => ∃ k : Nat, k + g = 31 ∧ p = .int .i64 (k + 1 : Nat) ∧ s = .int .i64 (Ecc.synK x k : Nat) ∧ w = wr)
  case atStart => exact ⟨0, by omega, rfl, rfl, rfl⟩
  case round =>
    obtain ⟨k, hk, rfl, rfl, rfl⟩ := hrel
    cases gk with
    | zero =>
      obtain rfl : k = 31 := by omega
      go_wp2_with fail
      go_ret
      exact ⟨rfl, rfl⟩
    | succ g =>
      have i0 : ((k : Nat) : Int) + 1 < 32 := by omega
      have hs := Lib.hid (Ecc.synK_succ x k)
      have hl := Ecc.synK_lt x k (by omega)
      rcases (show Ecc.bit x (k + 1) = 0 ∨ Ecc.bit x (k + 1) = 1 by have := Ecc.bit_lt x (k + 1); omega) with h | h
      · have H := Lib.hid h
        clear h
        go_wp2_with fail
        refine (ref10_bit x (k + 1) _ _ hx (by omega) (by omega)).mono ?_
        rintro e w1 ⟨rfl, rfl⟩
        rw [H.out]
        go_wp2_with fail
        go_roundg g
        case measure => omega
        case rel => exact ⟨k + 1, by omega, by go_num, by rw [hs.out, show Ecc.sel x (k + 1) = 0 by simp [Ecc.sel, H.out], Nat.xor_zero], rfl⟩
      · have H := Lib.hid h
        have H3 := Lib.hid (ecc_xor (Ecc.synK x k) (k + 1) (by omega) (by omega))
        clear h
        go_wp2_with fail
        refine (ref10_bit x (k + 1) _ _ hx (by omega) (by omega)).mono ?_
        rintro e w1 ⟨rfl, rfl⟩
        rw [H.out]
        go_wp2_with fail
        go_roundg g
        case measure => omega
        case rel => exact ⟨k + 1, by omega, by go_num, by rw [hs.out, show Ecc.sel x (k + 1) = k + 1 by simp [Ecc.sel, H.out], ← H3.out]; rfl, rfl⟩

set_option maxHeartbeats 1000000 in
theorem ref10_even (x : Nat) (w : World) (hx : x < 4294967296) :
    Calls Try.prog 25 #[.int .u32 (x : Int)] w fun e w' => e = .returned (.bool (Ecc.ones x % 2 == 0)) ∧ w = w' := by
  have HE := Lib.hid (ones_even x)
  go_enter Try.func25, Try.ntmps25
  go_wp2_with fail
  go_loopg [3, 4] 32 (fun g s p wr => ∃ k : Nat, k + g = 32 ∧ p = .int .i64 k ∧ s = .int .i64 (Ecc.onesK x k : Nat) ∧ w = wr)
  case atStart => exact ⟨0, by omega, rfl, rfl, rfl⟩
  case round =>
    obtain ⟨k, hk, rfl, rfl, rfl⟩ := hrel
    have hl := Ecc.onesK_le x k
    cases gk with
    | zero =>
      obtain rfl : k = 32 := by omega
      go_wp2_with fail
      go_ret
      exact ⟨congrArg (fun b => Ending.returned (.bool b)) HE.out, rfl⟩
    | succ g =>
      have i0 : ((k : Nat) : Int) < 32 := by omega
      have hs := Lib.hid (Ecc.onesK_succ x k)
      have hl2 := Ecc.bit_lt x k
      go_wp2_with (go_at_call 34; refine (ref10_bit x k _ _ hx (by omega) rfl).mono ?_; rintro e w1 ⟨rfl, rfl⟩)
      go_roundg g
      case measure => omega
      case rel => exact ⟨k + 1, by omega, by go_num, by rw [hs.out]; go_num, rfl⟩

set_option maxHeartbeats 1000000 in
theorem ref10_IsCode (x : Nat) (w : World) (hx : x < 4294967296) :
    Calls Try.prog 29 #[.int .u32 (x : Int)] w fun e w' => e = .returned (.bool (Ecc.isCode x)) ∧ w = w' := by
  cases hs : (Ecc.syn x == 0) with
  | false =>
    have hs' : ((Ecc.syn x : Int) == 0) = false := by simp at hs ⊢; omega
    have HS := Lib.hid hs
    clear hs
    go_enter Try.func29, Try.ntmps29
    go_wp2_with (go_at_call 24; refine (ref10_syndrome _ _ hx).mono ?_; rintro e w2 ⟨rfl, rfl⟩)
    go_ret
    exact ⟨by rw [Ecc.isCode, HS.out]; rfl, rfl⟩
  | true =>
    have hs' : ((Ecc.syn x : Int) == 0) = true := by simp at hs ⊢; omega
    have HS := Lib.hid hs
    clear hs
    cases ho : (Ecc.ones x % 2 == 0) with
    | false =>
      have HO := Lib.hid ho
      clear ho
      go_enter Try.func29, Try.ntmps29
      go_wp2_with (go_at_call 24; refine (ref10_syndrome _ _ hx).mono ?_; rintro e w2 ⟨rfl, rfl⟩)
      refine (ref10_even _ _ hx).mono ?_
      rintro e w2 ⟨rfl, rfl⟩
      rw [HO.out]
      go_wp2_with fail
      go_ret
      exact ⟨by rw [Ecc.isCode, HS.out, HO.out]; rfl, rfl⟩
    | true =>
      have HO := Lib.hid ho
      clear ho
      rcases (show Ecc.bit x 30 = 0 ∨ Ecc.bit x 30 = 1 by have := Ecc.bit_lt x 30; omega) with h | h
      · have H := Lib.hid h
        clear h
        go_enter Try.func29, Try.ntmps29
        go_wp2_with (go_at_call 24; refine (ref10_syndrome _ _ hx).mono ?_; rintro e w2 ⟨rfl, rfl⟩)
        refine (ref10_even _ _ hx).mono ?_
        rintro e w2 ⟨rfl, rfl⟩
        rw [HO.out]
        go_wp2_with fail
        refine (ref10_bit x 30 _ _ hx (by omega) rfl).mono ?_
        rintro e w1 ⟨rfl, rfl⟩
        rw [H.out]
        go_wp2_with fail
        refine (ref10_bit x 31 _ _ hx (by omega) rfl).mono ?_
        rintro e w1 ⟨rfl, rfl⟩
        go_wp2_with fail
        go_ret
        refine ⟨?_, rfl⟩
        rw [Ecc.isCode, HS.out, HO.out, H.out]
        rcases (show Ecc.bit x 31 = 0 ∨ Ecc.bit x 31 = 1 by have := Ecc.bit_lt x 31; omega) with h | h <;> rw [h] <;> rfl
      · have H := Lib.hid h
        clear h
        go_enter Try.func29, Try.ntmps29
        go_wp2_with (go_at_call 24; refine (ref10_syndrome _ _ hx).mono ?_; rintro e w2 ⟨rfl, rfl⟩)
        refine (ref10_even _ _ hx).mono ?_
        rintro e w2 ⟨rfl, rfl⟩
        rw [HO.out]
        go_wp2_with fail
        refine (ref10_bit x 30 _ _ hx (by omega) rfl).mono ?_
        rintro e w1 ⟨rfl, rfl⟩
        rw [H.out]
        go_wp2_with fail
        go_ret
        exact ⟨by rw [Ecc.isCode, HS.out, HO.out, H.out]; rfl, rfl⟩
end Go.Proofs.Ytknpppbceogbfaa
