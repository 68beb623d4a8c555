/-
  The walks of Same (commands and responses).
-/
import Derived.Test.YtapfiapjefnjjaaApdO
import Derived.Test.YtapfiapjefnjjaaApdM
import Derived.Test.YtapfiapjefnjjaaOctG
import Derived.Test.YtapfiapjefnjjaaOctW
namespace Go.Proofs.Ytapfiapjefnjjaa
set_option linter.unusedSimpArgs false
open Go.RowKit

/-- Are two commands equal? -/
def Apd.smB (a0 a1 a2 a3 : Int) (d : List UInt8) (le : Int) (lg : Bool) (b0 b1 b2 b3 : Int) (d' : List UInt8) (le' : Int) (lg' : Bool) : Bool :=
  (a0 == b0) && (a1 == b1) && (a2 == b2) && (a3 == b3) && (le == le') && (lg == lg') && Oct.same d d'
theorem Apd.smB_iff (a0 a1 a2 a3 : Int) (d : List UInt8) (le : Int) (lg : Bool) (b0 b1 b2 b3 : Int) (d' : List UInt8) (le' : Int) (lg' : Bool) :
    Apd.smB a0 a1 a2 a3 d le lg b0 b1 b2 b3 d' le' lg' = true ↔ a0 = b0 ∧ a1 = b1 ∧ a2 = b2 ∧ a3 = b3 ∧ le = le' ∧ lg = lg' ∧ d = d' := by
  simp [Apd.smB, Oct.same, and_assoc]
theorem Apd.smB_refl (a0 a1 a2 a3 : Int) (d : List UInt8) (le : Int) (lg : Bool) : Apd.smB a0 a1 a2 a3 d le lg a0 a1 a2 a3 d le lg = true := by
  rw [Apd.smB_iff]; exact ⟨rfl, rfl, rfl, rfl, rfl, rfl, rfl⟩
/-- Are two responses equal? -/
def Apd.srB (d : List UInt8) (sw : Int) (d' : List UInt8) (sw' : Int) : Bool := (sw == sw') && Oct.same d d'

set_option maxRecDepth 100000 in
set_option maxHeartbeats 8000000 in
theorem apdu_Same (a0 a1 a2 a3 : Int) (A : Option Addr) (n c : Nat) (d : List UInt8) (le : Int) (lg : Bool) (b0 b1 b2 b3 : Int) (A' : Option Addr) (n' c' : Nat) (d' : List UInt8) (le' : Int) (lg' : Bool) (w : World)
    (h : Byt w w.heap.size A n c d) (h' : Byt w w.heap.size A' n' c' d') (_hn : n ≤ 9223372036854775807) (_hn' : n' ≤ 9223372036854775807) :
    Calls Try.prog 24 #[cmdV a0 a1 a2 a3 A n c le lg, cmdV b0 b1 b2 b3 A' n' c' le' lg'] w fun e w' => e = .returned (.bool (Apd.smB a0 a1 a2 a3 d le lg b0 b1 b2 b3 d' le' lg')) ∧ Below w.heap.size w w' := by
  have HB := Lib.hid (fun o o' => bal (bal (Below.refl w.heap.size w) o) o')
  have HY := Lib.hid (fun o o' => (h.alloc' o).alloc' o')
  have HY' := Lib.hid (fun o o' => (h'.alloc' o).alloc' o')
  clear h h'
  unfold cmdV
  cases t0 : (a0 == b0) with
  | false =>
    have e : Apd.smB a0 a1 a2 a3 d le lg b0 b1 b2 b3 d' le' lg' = false := by unfold Apd.smB; rw [t0]; simp
    have HE := Lib.hid e
    clear e HY HY'
    go_enter Try.func24, Try.ntmps24
    go_wp2_with fail
    go_ret
    rw [HE.out]
    exact ⟨rfl, HB.out _ _⟩
  | true =>
  obtain rfl := eq_of_beq t0
  clear t0
  cases t1 : (a1 == b1) with
  | false =>
    have e : Apd.smB a0 a1 a2 a3 d le lg a0 b1 b2 b3 d' le' lg' = false := by unfold Apd.smB; rw [t1]; simp
    have HE := Lib.hid e
    clear e HY HY'
    go_enter Try.func24, Try.ntmps24
    go_wp2_with fail
    go_ret
    rw [HE.out]
    exact ⟨rfl, HB.out _ _⟩
  | true =>
  obtain rfl := eq_of_beq t1
  clear t1
  cases t2 : (a2 == b2) with
  | false =>
    have e : Apd.smB a0 a1 a2 a3 d le lg a0 a1 b2 b3 d' le' lg' = false := by unfold Apd.smB; rw [t2]; simp
    have HE := Lib.hid e
    clear e HY HY'
    go_enter Try.func24, Try.ntmps24
    go_wp2_with fail
    go_ret
    rw [HE.out]
    exact ⟨rfl, HB.out _ _⟩
  | true =>
  obtain rfl := eq_of_beq t2
  clear t2
  cases t3 : (a3 == b3) with
  | false =>
    have e : Apd.smB a0 a1 a2 a3 d le lg a0 a1 a2 b3 d' le' lg' = false := by unfold Apd.smB; rw [t3]; simp
    have HE := Lib.hid e
    clear e HY HY'
    go_enter Try.func24, Try.ntmps24
    go_wp2_with fail
    go_ret
    rw [HE.out]
    exact ⟨rfl, HB.out _ _⟩
  | true =>
  obtain rfl := eq_of_beq t3
  clear t3
  cases t4 : (le == le') with
  | false =>
    have e : Apd.smB a0 a1 a2 a3 d le lg a0 a1 a2 a3 d' le' lg' = false := by unfold Apd.smB; rw [t4]; simp
    have HE := Lib.hid e
    clear e HY HY'
    go_enter Try.func24, Try.ntmps24
    go_wp2_with fail
    go_ret
    rw [HE.out]
    exact ⟨rfl, HB.out _ _⟩
  | true =>
  obtain rfl := eq_of_beq t4
  clear t4
  cases t5 : (lg == lg') with
  | false =>
    have e : Apd.smB a0 a1 a2 a3 d le lg a0 a1 a2 a3 d' le lg' = false := by unfold Apd.smB; rw [t5]; simp
    have HE := Lib.hid e
    clear e HY HY'
    go_enter Try.func24, Try.ntmps24
    go_wp2_with fail
    go_ret
    rw [HE.out]
    exact ⟨rfl, HB.out _ _⟩
  | true =>
  obtain rfl := eq_of_beq t5
  clear t5
  have e : Apd.smB a0 a1 a2 a3 d le lg a0 a1 a2 a3 d' le lg = Oct.same d d' := by simp [Apd.smB]
  have HE := Lib.hid e
  clear e
  go_enter Try.func24, Try.ntmps24
  go_wp2_with (go_at_call 46; refine (bytes_Equal _ _ _ _ _ _ _ _ _ (HY.out _ _) (HY'.out _ _)).mono ?_; rintro e w1 ⟨rfl, rfl⟩)
  go_ret
  rw [HE.out]
  exact ⟨rfl, HB.out _ _⟩

set_option maxRecDepth 100000 in
set_option maxHeartbeats 8000000 in
theorem ref04_Same (a0 a1 a2 a3 : Int) (A : Option Addr) (n c : Nat) (d : List UInt8) (le : Int) (lg : Bool) (b0 b1 b2 b3 : Int) (A' : Option Addr) (n' c' : Nat) (d' : List UInt8) (le' : Int) (lg' : Bool) (w : World)
    (h : Byt w w.heap.size A n c d) (h' : Byt w w.heap.size A' n' c' d') (hn : n ≤ 9223372036854775807) (hn' : n' ≤ 9223372036854775807) :
    Calls Try.prog 25 #[cmdV a0 a1 a2 a3 A n c le lg, cmdV b0 b1 b2 b3 A' n' c' le' lg'] w fun e w' => e = .returned (.bool (Apd.smB a0 a1 a2 a3 d le lg b0 b1 b2 b3 d' le' lg')) ∧ Below w.heap.size w w' := by
  have HB := Lib.hid (fun o o' => bal (bal (Below.refl w.heap.size w) o) o')
  have HY := Lib.hid (fun o o' => (h.alloc' o).alloc' o')
  have HY' := Lib.hid (fun o o' => (h'.alloc' o).alloc' o')
  clear h h'
  unfold cmdV
  cases t0 : (a0 == b0) with
  | false =>
    have e : Apd.smB a0 a1 a2 a3 d le lg b0 b1 b2 b3 d' le' lg' = false := by unfold Apd.smB; rw [t0]; simp
    have HE := Lib.hid e
    clear e HY HY'
    go_enter Try.func25, Try.ntmps25
    go_wp2_with fail
    go_ret
    rw [HE.out]
    exact ⟨rfl, HB.out _ _⟩
  | true =>
  obtain rfl := eq_of_beq t0
  clear t0
  cases t1 : (a1 == b1) with
  | false =>
    have e : Apd.smB a0 a1 a2 a3 d le lg a0 b1 b2 b3 d' le' lg' = false := by unfold Apd.smB; rw [t1]; simp
    have HE := Lib.hid e
    clear e HY HY'
    go_enter Try.func25, Try.ntmps25
    go_wp2_with fail
    go_ret
    rw [HE.out]
    exact ⟨rfl, HB.out _ _⟩
  | true =>
  obtain rfl := eq_of_beq t1
  clear t1
  cases t2 : (a2 == b2) with
  | false =>
    have e : Apd.smB a0 a1 a2 a3 d le lg a0 a1 b2 b3 d' le' lg' = false := by unfold Apd.smB; rw [t2]; simp
    have HE := Lib.hid e
    clear e HY HY'
    go_enter Try.func25, Try.ntmps25
    go_wp2_with fail
    go_ret
    rw [HE.out]
    exact ⟨rfl, HB.out _ _⟩
  | true =>
  obtain rfl := eq_of_beq t2
  clear t2
  cases t3 : (a3 == b3) with
  | false =>
    have e : Apd.smB a0 a1 a2 a3 d le lg a0 a1 a2 b3 d' le' lg' = false := by unfold Apd.smB; rw [t3]; simp
    have HE := Lib.hid e
    clear e HY HY'
    go_enter Try.func25, Try.ntmps25
    go_wp2_with fail
    go_ret
    rw [HE.out]
    exact ⟨rfl, HB.out _ _⟩
  | true =>
  obtain rfl := eq_of_beq t3
  clear t3
  cases t4 : (le == le') with
  | false =>
    have e : Apd.smB a0 a1 a2 a3 d le lg a0 a1 a2 a3 d' le' lg' = false := by unfold Apd.smB; rw [t4]; simp
    have HE := Lib.hid e
    clear e HY HY'
    go_enter Try.func25, Try.ntmps25
    go_wp2_with fail
    go_ret
    rw [HE.out]
    exact ⟨rfl, HB.out _ _⟩
  | true =>
  obtain rfl := eq_of_beq t4
  clear t4
  cases t5 : (lg == lg') with
  | false =>
    have e : Apd.smB a0 a1 a2 a3 d le lg a0 a1 a2 a3 d' le lg' = false := by unfold Apd.smB; rw [t5]; simp
    have HE := Lib.hid e
    clear e HY HY'
    go_enter Try.func25, Try.ntmps25
    go_wp2_with fail
    go_ret
    rw [HE.out]
    exact ⟨rfl, HB.out _ _⟩
  | true =>
  obtain rfl := eq_of_beq t5
  clear t5
  have e : Apd.smB a0 a1 a2 a3 d le lg a0 a1 a2 a3 d' le lg = Oct.same d d' := by simp [Apd.smB]
  have HE := Lib.hid e
  clear e
  go_enter Try.func25, Try.ntmps25
  go_wp2_with (go_at_call 18; refine (ref01_Same _ _ _ _ _ _ _ _ _ (HY.out _ _) (HY'.out _ _) hn hn').mono ?_; rintro e w1 ⟨rfl, q, rfl⟩)
  go_ret
  rw [HE.out]
  exact ⟨rfl, Below.drewN (HB.out _ _) q⟩

set_option maxRecDepth 100000 in
set_option maxHeartbeats 8000000 in
theorem ref04_SameResponse (A : Option Addr) (n c : Nat) (d : List UInt8) (sw : Int) (A' : Option Addr) (n' c' : Nat) (d' : List UInt8) (sw' : Int) (w : World)
    (h : Byt w w.heap.size A n c d) (h' : Byt w w.heap.size A' n' c' d') (hn : n ≤ 9223372036854775807) (hn' : n' ≤ 9223372036854775807) :
    Calls Try.prog 29 #[rspV A n c sw, rspV A' n' c' sw'] w fun e w' => e = .returned (.bool (Apd.srB d sw d' sw')) ∧ Below w.heap.size w w' := by
  have HB := Lib.hid (fun o o' => bal (bal (Below.refl w.heap.size w) o) o')
  have HY := Lib.hid (fun o o' => (h.alloc' o).alloc' o')
  have HY' := Lib.hid (fun o o' => (h'.alloc' o).alloc' o')
  clear h h'
  unfold rspV
  cases t0 : (sw == sw') with
  | false =>
    have e : Apd.srB d sw d' sw' = false := by unfold Apd.srB; rw [t0]; simp
    have HE := Lib.hid e
    clear e HY HY'
    go_enter Try.func29, Try.ntmps29
    go_wp2_with fail
    go_ret
    rw [HE.out]
    exact ⟨rfl, HB.out _ _⟩
  | true =>
  obtain rfl := eq_of_beq t0
  clear t0
  have e : Apd.srB d sw d' sw = Oct.same d d' := by simp [Apd.srB]
  have HE := Lib.hid e
  clear e
  go_enter Try.func29, Try.ntmps29
  go_wp2_with (go_at_call 18; refine (ref01_Same _ _ _ _ _ _ _ _ _ (HY.out _ _) (HY'.out _ _) hn hn').mono ?_; rintro e w1 ⟨rfl, q, rfl⟩)
  go_ret
  rw [HE.out]
  exact ⟨rfl, Below.drewN (HB.out _ _) q⟩
end Go.Proofs.Ytapfiapjefnjjaa
