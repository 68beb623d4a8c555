/-
  PageCuts: all cases.
-/
import Derived.Test.YtnlhammgcemchaaPgAR
namespace Go.Proofs.Ytnlhammgcemchaa
set_option maxRecDepth 100000
set_option linter.unusedSimpArgs false
set_option linter.unusedVariables false
open Go.RowKit
set_option maxHeartbeats 8000000

theorem law_PageCuts (x : Int) (A : Option Addr) (m c : Nat) (l : List POp) (CA : Option Addr) (cm cc : Nat) (zs : List Int) (w0 : World) (h : POps w0 A m c l) (hf : Ints w0 w0.heap.size CA cm cc zs ∧ ∀ z ∈ zs, (Lit.int .i64 z).wf = true) :
    Calls Try.prog 8 #[.int .i64 x, .slice A m c, .slice CA cm cc] w0 fun e w' => e = .returned (.bool true) ∧ Below w0.heap.size w0 w' := by
  have HSH := Lib.hid (law11_short A m c l w0 h)
  by_cases h1 : x < 240
  · have d1 : decide (x < 240) = true := decide_eq_true h1
    clear h h1 hf
    go_enter Try.func8, Try.ntmps8
    go_wp2_with fail
    go_at_call 10
    refine (law11_works _).mono ?_
    rintro e w1 ⟨rfl, hb1⟩
    go_wp2_with fail
    go_ret
    exact ⟨rfl, hb1⟩
  have d1 : decide (x < 240) = false := decide_eq_false h1
  by_cases h2 : 1024 < x
  · have d2 : decide (1024 < x) = true := decide_eq_true h2
    clear h h1 h2 hf
    go_enter Try.func8, Try.ntmps8
    go_wp2_with fail
    go_at_call 10
    refine (law11_works _).mono ?_
    rintro e w1 ⟨rfl, hb1⟩
    go_wp2_with fail
    go_ret
    exact ⟨rfl, hb1⟩
  have d2 : decide (1024 < x) = false := decide_eq_false h2
  cases hs : Pg.shortB l with
  | true =>
    by_cases h3 : m ≤ 60
    · obtain ⟨nw, rfl⟩ := Int.eq_ofNat_of_zero_le (a := x) (by omega)
      exact law_PageCuts_go nw A m c l CA cm cc zs w0 h hf (by omega) (by omega) hs h3
    · have d3 : decide ((60 : Int) < (m : Int)) = true := decide_eq_true (by omega)
      rw [hs] at HSH
      clear h h1 h2 hs hf h3
      go_enter Try.func8, Try.ntmps8
      go_wp2_with fail
      go_at_call 9
      refine HSH.out.mono ?_
      rintro e w1 ⟨rfl, hb1⟩
      go_wp2_with fail
      go_at_call 10
      refine (law11_works _).mono ?_
      rintro e w2 ⟨rfl, hb2⟩
      go_wp2_with fail
      go_ret
      exact ⟨rfl, hb1.trans (hb2.mono hb1.size)⟩
  | false =>
    rw [hs] at HSH
    clear h h1 h2 hs hf
    go_enter Try.func8, Try.ntmps8
    go_wp2_with fail
    go_at_call 9
    refine HSH.out.mono ?_
    rintro e w1 ⟨rfl, hb1⟩
    go_wp2_with fail
    go_at_call 10
    refine (law11_works _).mono ?_
    rintro e w2 ⟨rfl, hb2⟩
    go_wp2_with fail
    go_ret
    exact ⟨rfl, hb1.trans (hb2.mono hb1.size)⟩
end Go.Proofs.Ytnlhammgcemchaa
