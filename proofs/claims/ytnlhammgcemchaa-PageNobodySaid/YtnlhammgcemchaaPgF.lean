/-
  PageNobody: there are no pages of a memory that is nil.
-/
import Derived.Test.YtnlhammgcemchaaPgE
namespace Go.Proofs.Ytnlhammgcemchaa
set_option maxRecDepth 100000
set_option linter.unusedSimpArgs false
set_option linter.unusedVariables false
open Go.RowKit
set_option maxHeartbeats 8000000

set_option maxRecDepth 100000 in
theorem law_PageNobody (i : Int) (A : Option Addr) (m c : Nat) (bs : List UInt8) (w0 : World) (_hb : Byt w0 w0.heap.size A m c bs) :
    Calls Try.prog 5 #[.int .i64 i, .slice A m c] w0 fun e w' => e = .returned (.bool true) ∧ Below w0.heap.size w0 w' := by
  have hm := Mem.nil (fun _ => False) w0
  by_cases h : 1000 < m
  · have d1 : decide ((1000 : Int) < (m : Int)) = true := decide_eq_true (by omega)
    clear h _hb
    go_enter Try.func5, Try.ntmps5
    go_wp2_with fail
    go_at_call 10
    refine (law11_works _).mono ?_
    rintro e w1 ⟨rfl, hb1⟩
    go_wp2_with fail
    go_ret
    exact ⟨rfl, hb1⟩
  · have d1 : decide ((1000 : Int) < (m : Int)) = false := decide_eq_false (by omega)
    clear h _hb
    go_enter Try.func5, Try.ntmps5
    go_wp2_with fail
    go_at_call 12
    refine (page_Open_nil _).mono ?_
    rintro e w1 ⟨rfl, hb1⟩
    go_wp2_with fail
    go_at_call 17
    refine (pnil_Read _ i).mono ?_
    rintro e w2 ⟨rfl, rfl⟩
    go_wp2_with fail
    go_at_call 14
    refine (pnil_Write _ i _).mono ?_
    rintro e w3 ⟨rfl, rfl⟩
    go_wp2_with fail
    go_at_call 24
    refine (pnil_Count _).mono ?_
    rintro e w3 ⟨rfl, rfl⟩
    go_wp2_with fail
    go_at_call 19
    refine (pnil_Fixed _).mono ?_
    rintro e w3 ⟨rfl, rfl⟩
    go_wp2_with fail
    go_at_call 20
    refine (pnil_Alive _).mono ?_
    rintro e w4 ⟨rfl, hb4⟩
    go_wp2_with fail
    go_at_call 10
    refine (law11_works _).mono ?_
    rintro e w5 ⟨rfl, hb5⟩
    go_wp2_with fail
    go_ret
    have hb14 := hb1.trans (hb4.mono hb1.size)
    exact ⟨rfl, hb14.trans (hb5.mono hb14.size)⟩
end Go.Proofs.Ytnlhammgcemchaa
