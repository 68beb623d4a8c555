/-
  The walks of the code's exported Encode and Decode, and of the reference.
-/
import Derived.Test.YtknpppbceogbfaaEccX
namespace Go.Proofs.Ytknpppbceogbfaa
open Go.RowKit

/-- What Encode hands back. -/
def encW (d : Int) : Nat := if 0 ≤ d ∧ d < 16777216 then Ecc.code d.toNat else 0
def encE (d : Int) : Int := if 0 ≤ d ∧ d < 16777216 then 0 else 2

set_option maxHeartbeats 1000000 in
theorem ecc_Encode (d : Int) (w : World) :
    Calls Try.prog 9 #[.int .i64 d] w fun e w' => e = .returned (.tuple #[.int .u32 (encW d : Nat), .int .i64 (encE d)]) ∧ Below w.heap.size w w' := by
  by_cases h0 : 0 ≤ d
  · by_cases h1 : d < 16777216
    · obtain ⟨n, rfl⟩ := Int.eq_ofNat_of_zero_le h0
      have e1 : encW (n : Int) = Ecc.code n := by unfold encW; rw [if_pos ⟨h0, h1⟩]; rfl
      have e2 : encE (n : Int) = 0 := by unfold encE; rw [if_pos ⟨h0, h1⟩]
      rw [e1, e2]
      clear e1 e2
      have i2 : (n : Int) ≤ 16777215 := by omega
      have hn : n < 16777216 := by omega
      clear h1
      go_enter Try.func9, Try.ntmps9
      go_wp2_with (go_at_call 22; refine (ecc_code _ _ hn).mono ?_; rintro e w2 ⟨rfl, hb⟩)
      go_ret2
      exact ⟨rfl, hb⟩
    · have e1 : encW d = 0 := by unfold encW; rw [if_neg (fun h => h1 h.2)]
      have e2 : encE d = 2 := by unfold encE; rw [if_neg (fun h => h1 h.2)]
      rw [e1, e2]
      clear e1 e2
      have i1 : decide ((16777216 : Int) ≤ d) = true := by simp; omega
      have i2 : decide (d < 0) = false := by simp; omega
      go_enter Try.func9, Try.ntmps9
      go_wp2_with fail
      go_ret2
      exact ⟨rfl, Below.refl _ _⟩
  · have e1 : encW d = 0 := by unfold encW; rw [if_neg (fun h => h0 h.1)]
    have e2 : encE d = 2 := by unfold encE; rw [if_neg (fun h => h0 h.1)]
    rw [e1, e2]
    clear e1 e2
    have i2 : decide (d < 0) = true := by simp; omega
    go_enter Try.func9, Try.ntmps9
    go_wp2_with fail
    go_ret2
    exact ⟨rfl, Below.refl _ _⟩

theorem fix_lt (x : Nat) (h : x < 4294967296) : Ecc.fix x < 4294967296 := by
  have h1 := Ecc.syn_lt x
  have h2 := Nat.pow_lt_pow_right (a := 2) (by omega) h1
  exact Nat.xor_lt_two_pow (n := 32) h h2
theorem flip_bit (x p : Nat) (hx : x < 4294967296) (hp : p < 32) : bits BinOp.xor IntKind.u32 (x : Int) (2 ^ p % 4294967296) = ((x ^^^ 2 ^ p : Nat) : Int) := by
  have h1 := pow_small p 31 (by omega)
  rw [show (2 : Int) ^ p % 4294967296 = ((2 ^ p : Nat) : Int) by rw [show (2 : Int) ^ p = ((2 ^ p : Nat) : Int) by simp]; generalize 2 ^ p = q at *; omega, u32_xor_nat _ _ hx (by omega)]

set_option maxHeartbeats 1000000 in
theorem ecc_Decode (x : Nat) (w : World) (hx : x < 4294967296) :
    Calls Try.prog 12 #[.int .u32 (x : Int)] w fun e w' => e = .returned (.tuple #[.int .i64 ((Ecc.decode x).1 : Int), .int .i64 ((Ecc.decode x).2 : Int)]) ∧ Below w.heap.size w w' := by
  have hs := Ecc.syn_lt x
  have hf := fix_lt x hx
  cases h1 : Ecc.isCode x with
  | true =>
    have e : Ecc.decode x = (Ecc.data x, 0) := by unfold Ecc.decode; rw [if_pos h1]
    rw [e]
    clear e
    go_enter Try.func12, Try.ntmps12
    go_wp2_with fail
    refine (ecc_isCode _ _ hx).mono ?_
    rintro e w1 ⟨rfl, k, rfl⟩
    rw [h1]
    go_wp2_with (go_at_call 27; refine (ecc_data _ _ hx).mono ?_; rintro e w2 ⟨rfl, hb⟩)
    go_ret2
    exact ⟨rfl, (Below.drewN (Below.refl _ _) k).trans hb⟩
  | false =>
    have hfl := flip_bit x (Ecc.syn x) hx hs
    rw [show x ^^^ 2 ^ Ecc.syn x = Ecc.fix x from rfl] at hfl
    have i1 : (Ecc.syn x : Int) ≤ 32 := by omega
    cases h2 : Ecc.isCode (Ecc.fix x) with
    | true =>
      have e : Ecc.decode x = (Ecc.data (Ecc.fix x), 1) := by unfold Ecc.decode; rw [if_neg (by rw [h1]; simp), if_pos h2]
      rw [e]
      clear e
      go_enter Try.func12, Try.ntmps12
      go_wp2_with fail
      refine (ecc_isCode _ _ hx).mono ?_
      rintro e w1 ⟨rfl, k, rfl⟩
      rw [h1]
      go_wp2_with (go_at_call 28; refine (ecc_syndrome _ _ hx).mono ?_; rintro e w2 ⟨rfl, rfl⟩)
      refine (ecc_isCode _ _ hf).mono ?_
      rintro e w1 ⟨rfl, k, rfl⟩
      rw [h2]
      go_wp2_with (go_at_call 27; refine (ecc_data _ _ hf).mono ?_; rintro e w2 ⟨rfl, hb⟩)
      go_ret2
      exact ⟨rfl, (Below.drewN (Below.refl _ _) _).trans hb⟩
    | false =>
      have e : Ecc.decode x = (0, 2) := by unfold Ecc.decode; rw [if_neg (by rw [h1]; simp), if_neg (by rw [h2]; simp)]
      rw [e]
      clear e
      go_enter Try.func12, Try.ntmps12
      go_wp2_with fail
      refine (ecc_isCode _ _ hx).mono ?_
      rintro e w1 ⟨rfl, k, rfl⟩
      rw [h1]
      go_wp2_with (go_at_call 28; refine (ecc_syndrome _ _ hx).mono ?_; rintro e w2 ⟨rfl, rfl⟩)
      refine (ecc_isCode _ _ hf).mono ?_
      rintro e w1 ⟨rfl, k, rfl⟩
      rw [h2]
      go_wp2_with fail
      go_ret2
      exact ⟨rfl, Below.drewN (Below.refl _ _) _⟩
end Go.Proofs.Ytknpppbceogbfaa
