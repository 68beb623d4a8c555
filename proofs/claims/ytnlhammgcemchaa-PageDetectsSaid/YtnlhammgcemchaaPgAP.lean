/-
  PageDetects: all cases.
-/
import Derived.Test.YtnlhammgcemchaaPgAM
namespace Go.Proofs.Ytnlhammgcemchaa
set_option maxRecDepth 100000
set_option linter.unusedSimpArgs false
set_option linter.unusedVariables false
open Go.RowKit
set_option maxHeartbeats 8000000

theorem law_PageDetects (x : Int) (A : Option Addr) (m c : Nat) (l : List POp) (a b1 b2 : Int) (w0 : World) (h : POps w0 A m c l) :
    Calls Try.prog 7 #[.int .i64 x, .slice A m c, .int .i64 a, .int .i64 b1, .int .i64 b2] w0 fun e w' => e = .returned (.bool true) ∧ Below w0.heap.size w0 w' := by
  have HSH := Lib.hid (law11_short A m c l w0 h)
  by_cases h1 : x < 240
  · have d1 : decide (x < 240) = true := decide_eq_true h1
    clear h h1
    go_enter Try.func7, Try.ntmps7
    go_wp2_with fail
    go_at_call 10
    refine (law11_works _).mono ?_
    rintro e w1 ⟨rfl, hb1⟩
    go_wp2_with fail
    go_ret
    exact ⟨rfl, hb1⟩
  have d1 : decide (x < 240) = false := decide_eq_false h1
  by_cases h2 : 1024 < x
  · have d2 : decide (1024 < x) = true := decide_eq_true h2
    clear h h1 h2
    go_enter Try.func7, Try.ntmps7
    go_wp2_with fail
    go_at_call 10
    refine (law11_works _).mono ?_
    rintro e w1 ⟨rfl, hb1⟩
    go_wp2_with fail
    go_ret
    exact ⟨rfl, hb1⟩
  have d2 : decide (1024 < x) = false := decide_eq_false h2
  cases hs : Pg.shortB l with
  | false =>
    rw [hs] at HSH
    clear h h1 h2 hs
    go_enter Try.func7, Try.ntmps7
    go_wp2_with fail
    go_at_call 9
    refine HSH.out.mono ?_
    rintro e w1 ⟨rfl, hb1⟩
    go_wp2_with fail
    go_at_call 10
    refine (law11_works _).mono ?_
    rintro e w2 ⟨rfl, hb2⟩
    go_wp2_with fail
    go_ret
    exact ⟨rfl, hb1.trans (hb2.mono hb1.size)⟩
  | true =>
    have HH := Lib.hid h
    have HS := Lib.hid hs
    rw [hs] at HSH
    clear h hs
    by_cases h3 : a < 0
    · have d3 : decide (a < 0) = true := decide_eq_true h3
      clear h1 h2 h3
      go_enter Try.func7, Try.ntmps7
      go_wp2_with fail
      go_at_call 9
      refine HSH.out.mono ?_
      rintro e w1 ⟨rfl, hb1⟩
      go_wp2_with fail
      go_at_call 10
      refine (law11_works _).mono ?_
      rintro e w2 ⟨rfl, hb2⟩
      go_wp2_with fail
      go_ret
      exact ⟨rfl, hb1.trans (hb2.mono hb1.size)⟩
    have d3 : decide (a < 0) = false := decide_eq_false h3
    by_cases h4 : x ≤ a
    · have d4 : decide (x ≤ a) = true := decide_eq_true h4
      clear h1 h2 h3 h4
      go_enter Try.func7, Try.ntmps7
      go_wp2_with fail
      go_at_call 9
      refine HSH.out.mono ?_
      rintro e w1 ⟨rfl, hb1⟩
      go_wp2_with fail
      go_at_call 10
      refine (law11_works _).mono ?_
      rintro e w2 ⟨rfl, hb2⟩
      go_wp2_with fail
      go_ret
      exact ⟨rfl, hb1.trans (hb2.mono hb1.size)⟩
    have d4 : decide (x ≤ a) = false := decide_eq_false h4
    by_cases h5 : b1 < 0
    · have d5 : decide (b1 < 0) = true := decide_eq_true h5
      clear h1 h2 h3 h4 h5
      go_enter Try.func7, Try.ntmps7
      go_wp2_with fail
      go_at_call 9
      refine HSH.out.mono ?_
      rintro e w1 ⟨rfl, hb1⟩
      go_wp2_with fail
      go_at_call 10
      refine (law11_works _).mono ?_
      rintro e w2 ⟨rfl, hb2⟩
      go_wp2_with fail
      go_ret
      exact ⟨rfl, hb1.trans (hb2.mono hb1.size)⟩
    have d5 : decide (b1 < 0) = false := decide_eq_false h5
    by_cases h6 : 31 < b1
    · have d6 : decide (31 < b1) = true := decide_eq_true h6
      clear h1 h2 h3 h4 h5 h6
      go_enter Try.func7, Try.ntmps7
      go_wp2_with fail
      go_at_call 9
      refine HSH.out.mono ?_
      rintro e w1 ⟨rfl, hb1⟩
      go_wp2_with fail
      go_at_call 10
      refine (law11_works _).mono ?_
      rintro e w2 ⟨rfl, hb2⟩
      go_wp2_with fail
      go_ret
      exact ⟨rfl, hb1.trans (hb2.mono hb1.size)⟩
    have d6 : decide (31 < b1) = false := decide_eq_false h6
    by_cases h7 : b2 < 0
    · have d7 : decide (b2 < 0) = true := decide_eq_true h7
      clear h1 h2 h3 h4 h5 h6 h7
      go_enter Try.func7, Try.ntmps7
      go_wp2_with fail
      go_at_call 9
      refine HSH.out.mono ?_
      rintro e w1 ⟨rfl, hb1⟩
      go_wp2_with fail
      go_at_call 10
      refine (law11_works _).mono ?_
      rintro e w2 ⟨rfl, hb2⟩
      go_wp2_with fail
      go_ret
      exact ⟨rfl, hb1.trans (hb2.mono hb1.size)⟩
    have d7 : decide (b2 < 0) = false := decide_eq_false h7
    by_cases h8 : 31 < b2
    · have d8 : decide (31 < b2) = true := decide_eq_true h8
      clear h1 h2 h3 h4 h5 h6 h7 h8
      go_enter Try.func7, Try.ntmps7
      go_wp2_with fail
      go_at_call 9
      refine HSH.out.mono ?_
      rintro e w1 ⟨rfl, hb1⟩
      go_wp2_with fail
      go_at_call 10
      refine (law11_works _).mono ?_
      rintro e w2 ⟨rfl, hb2⟩
      go_wp2_with fail
      go_ret
      exact ⟨rfl, hb1.trans (hb2.mono hb1.size)⟩
    have d8 : decide (31 < b2) = false := decide_eq_false h8
    obtain ⟨nw, rfl⟩ := Int.eq_ofNat_of_zero_le (a := x) (by omega)
    obtain ⟨a, rfl⟩ := Int.eq_ofNat_of_zero_le (a := a) (by omega)
    obtain ⟨b1, rfl⟩ := Int.eq_ofNat_of_zero_le (a := b1) (by omega)
    obtain ⟨b2, rfl⟩ := Int.eq_ofNat_of_zero_le (a := b2) (by omega)
    exact law_PageDetects_go nw A m c l a b1 b2 w0 HH.out (by omega) (by omega) HS.out (by omega) (by omega) (by omega)
end Go.Proofs.Ytnlhammgcemchaa
