/-
  The walks of expected and body.
-/
import Derived.Test.YtapfiapjefnjjaaApdK
namespace Go.Proofs.Ytapfiapjefnjjaa
set_option linter.unusedSimpArgs false
open Go.RowKit

/-- The Le that bytes denote. -/
def Apd.exn (b : List UInt8) : Nat := if Oct.num b = 0 ∧ 0 < b.length then 256 ^ b.length else Oct.num b

theorem gt_small (b : List UInt8) (h : b.length ≤ 2) : Oct.gtN b = Oct.num b := by
  have hl : Oct.num b < 256 ^ b.length := Oct.numK_lt b b.length
  have hp : 256 ^ b.length ≤ 256 ^ 2 := Nat.pow_le_pow_right (by omega) h
  have e : Oct.gtE b = 0 := by unfold Oct.gtE; rw [if_neg (by omega), if_neg (by omega)]
  unfold Oct.gtN; rw [if_pos e]

set_option maxHeartbeats 2000000 in
theorem apdu_expected (A : Option Addr) (n c : Nat) (b : List UInt8) (w : World) (h : Byt w w.heap.size A n c b) (hn : n ≤ 2) :
    Calls Try.prog 58 #[.slice A n c] w fun e w' => e = .returned (.int .i64 (Apd.exn b : Int)) ∧ w = w' := by
  have hl := h.1
  have hG := octets_Get A n c b w h
  rw [gt_small b (by omega)] at hG
  have HG := Lib.hid hG
  clear hG h
  by_cases h0 : Oct.num b = 0
  · rw [h0] at HG
    rcases (show n = 0 ∨ n = 1 ∨ n = 2 by omega) with rfl | rfl | rfl
    · have e : Apd.exn b = 0 := by unfold Apd.exn; rw [if_neg (by omega)]; exact h0
      rw [e]
      clear e h0
      go_enter Try.func58, Try.ntmps58
      go_wp2_with (go_at_call 59; refine HG.out.mono ?_; rintro e w1 ⟨rfl, rfl⟩)
      go_ret
      exact ⟨rfl, rfl⟩
    all_goals
      have e : Apd.exn b = 256 ^ b.length := by unfold Apd.exn; rw [if_pos ⟨h0, by omega⟩]
      rw [e, hl]
      clear e h0
      go_enter Try.func58, Try.ntmps58
      go_wp2_with (go_at_call 59; refine HG.out.mono ?_; rintro e w1 ⟨rfl, rfl⟩)
      go_ret
      exact ⟨rfl, rfl⟩
  · have e : Apd.exn b = Oct.num b := by unfold Apd.exn; rw [if_neg (by omega)]
    rw [e]
    generalize Oct.num b = y at *
    have t0 : ((y : Int) == 0) = false := by rw [beq_eq_false_iff_ne]; omega
    clear e h0
    go_enter Try.func58, Try.ntmps58
    go_wp2_with (go_at_call 59; refine HG.out.mono ?_; rintro e w1 ⟨rfl, rfl⟩)
    go_ret
    exact ⟨rfl, rfl⟩
end Go.Proofs.Ytapfiapjefnjjaa
