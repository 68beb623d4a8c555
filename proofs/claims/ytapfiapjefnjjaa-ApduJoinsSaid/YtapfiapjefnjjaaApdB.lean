/-
  The walks of Byte and Class.
-/
import Derived.Test.YtapfiapjefnjjaaApdF
import Derived.Test.YtapfiapjefnjjaaRes
namespace Go.Proofs.Ytapfiapjefnjjaa
set_option linter.unusedSimpArgs false
open Go.RowKit

/-- The class byte with a meaning. -/
def Apd.cby (ch : Int) (s c p : Bool) : Int := if ch < 0 ∨ 4 ≤ ch then 0 else ch + (if s then 4 else 0) + (if c then 16 else 0) + (if p then 128 else 0)
def Apd.cbe (ch : Int) : Int := if ch < 0 ∨ 4 ≤ ch then 2 else 0
/-- Is it a class byte? -/
def Apd.cok (x : Int) : Bool := decide (0 ≤ x ∧ x ≤ 254 ∧ x / 64 % 2 ≠ 1 ∧ x / 32 % 2 ≠ 1 ∧ x / 8 % 2 ≠ 1)
/-- The meaning of a class byte, by value. -/
def infoV (ch : Int) (s c p : Bool) : Value := .agg #[I64 ch, .bool s, .bool c, .bool p]
def Apd.clsV (x : Int) : Value := if Apd.cok x then infoV (x % 4) (x / 4 % 2 == 1) (x / 16 % 2 == 1) (x / 128 == 1) else infoV 0 false false false

theorem or_4 : ∀ h : Fin 4, bits .or .i64 (h.val : Int) 4 = (h.val : Int) + 4 := by decide +kernel
theorem or_16 : ∀ h : Fin 4, bits .or .i64 (h.val : Int) 16 = (h.val : Int) + 16 := by decide +kernel
theorem or_416 : ∀ h : Fin 4, bits .or .i64 ((h.val : Int) + 4) 16 = (h.val : Int) + 4 + 16 := by decide +kernel
theorem or_128 : ∀ h : Fin 4, bits .or .i64 (h.val : Int) 128 = (h.val : Int) + 128 := by decide +kernel
theorem or_4128 : ∀ h : Fin 4, bits .or .i64 ((h.val : Int) + 4) 128 = (h.val : Int) + 4 + 128 := by decide +kernel
theorem or_16128 : ∀ h : Fin 4, bits .or .i64 ((h.val : Int) + 16) 128 = (h.val : Int) + 16 + 128 := by decide +kernel
theorem or_all : ∀ h : Fin 4, bits .or .i64 ((h.val : Int) + 4 + 16) 128 = (h.val : Int) + 4 + 16 + 128 := by decide +kernel
theorem or_all2 : ∀ h : Fin 4, bits .or .i64 ((h.val : Int) + 20) 128 = (h.val : Int) + 4 + 16 + 128 := by decide +kernel

set_option maxRecDepth 100000 in
set_option maxHeartbeats 2000000 in
theorem apdu_Byte (ch : Int) (s c p : Bool) (w : World) :
    Calls Try.prog 21 #[infoV ch s c p] w fun e w' => e = .returned (.tuple #[.int .i64 (Apd.cby ch s c p), .int .i64 (Apd.cbe ch)]) ∧ Below w.heap.size w w' := by
  have HB := Lib.hid (fun o => (Below.refl w.heap.size w).alloc (Nat.le_refl _) o)
  unfold infoV
  by_cases h0 : ch < 0
  · have e1 : Apd.cby ch s c p = 0 := by unfold Apd.cby; rw [if_pos (.inl h0)]
    have e2 : Apd.cbe ch = 2 := by unfold Apd.cbe; rw [if_pos (.inl h0)]
    rw [e1, e2]
    clear e1 e2
    go_enter Try.func21, Try.ntmps21
    go_wp2_with fail
    go_ret2
    exact ⟨rfl, HB.out _⟩
  by_cases h4 : 4 ≤ ch
  · have e1 : Apd.cby ch s c p = 0 := by unfold Apd.cby; rw [if_pos (.inr h4)]
    have e2 : Apd.cbe ch = 2 := by unfold Apd.cbe; rw [if_pos (.inr h4)]
    rw [e1, e2]
    clear e1 e2
    go_enter Try.func21, Try.ntmps21
    go_wp2_with fail
    go_ret2
    exact ⟨rfl, HB.out _⟩
  have e1 : Apd.cby ch s c p = ch + (if s then 4 else 0) + (if c then 16 else 0) + (if p then 128 else 0) := by unfold Apd.cby; rw [if_neg (by omega)]
  have e2 : Apd.cbe ch = 0 := by unfold Apd.cbe; rw [if_neg (by omega)]
  rw [e1, e2]
  clear e1 e2
  obtain ⟨h, rfl⟩ := Int.eq_ofNat_of_zero_le (show 0 ≤ ch by omega)
  have hh : h < 4 := by omega
  have f1 := or_4 ⟨h, hh⟩
  have f2 := or_16 ⟨h, hh⟩
  have f3 := or_416 ⟨h, hh⟩
  have f4 := or_128 ⟨h, hh⟩
  have f5 := or_4128 ⟨h, hh⟩
  have f6 := or_16128 ⟨h, hh⟩
  have f7 := or_all ⟨h, hh⟩
  simp only at f1 f2 f3 f4 f5 f6 f7
  cases s <;> cases c <;> cases p
  all_goals
    go_enter Try.func21, Try.ntmps21
    go_wp2_with fail
    go_ret2
    exact ⟨by simp, HB.out _⟩

set_option maxRecDepth 100000 in
set_option maxHeartbeats 2000000 in
theorem ref04_Byte (ch : Int) (s c p : Bool) (w : World) :
    Calls Try.prog 22 #[infoV ch s c p] w fun e w' => e = .returned (.tuple #[.int .i64 (Apd.cby ch s c p), .int .i64 (Apd.cbe ch)]) ∧ Below w.heap.size w w' := by
  have HB := Lib.hid (fun o => (Below.refl w.heap.size w).alloc (Nat.le_refl _) o)
  unfold infoV
  by_cases h0 : ch < 0
  · have e1 : Apd.cby ch s c p = 0 := by unfold Apd.cby; rw [if_pos (.inl h0)]
    have e2 : Apd.cbe ch = 2 := by unfold Apd.cbe; rw [if_pos (.inl h0)]
    rw [e1, e2]
    clear e1 e2
    go_enter Try.func22, Try.ntmps22
    go_wp2_with fail
    go_ret2
    exact ⟨rfl, HB.out _⟩
  by_cases h4 : 4 ≤ ch
  · have e1 : Apd.cby ch s c p = 0 := by unfold Apd.cby; rw [if_pos (.inr h4)]
    have e2 : Apd.cbe ch = 2 := by unfold Apd.cbe; rw [if_pos (.inr h4)]
    rw [e1, e2]
    clear e1 e2
    go_enter Try.func22, Try.ntmps22
    go_wp2_with fail
    go_ret2
    exact ⟨rfl, HB.out _⟩
  have e1 : Apd.cby ch s c p = ch + (if s then 4 else 0) + (if c then 16 else 0) + (if p then 128 else 0) := by unfold Apd.cby; rw [if_neg (by omega)]
  have e2 : Apd.cbe ch = 0 := by unfold Apd.cbe; rw [if_neg (by omega)]
  rw [e1, e2]
  clear e1 e2
  obtain ⟨h, rfl⟩ := Int.eq_ofNat_of_zero_le (show 0 ≤ ch by omega)
  have hh : h < 4 := by omega
  cases s <;> cases c <;> cases p
  all_goals
    go_enter Try.func22, Try.ntmps22
    go_wp2_with fail
    go_ret2
    exact ⟨by simp, HB.out _⟩
end Go.Proofs.Ytapfiapjefnjjaa
