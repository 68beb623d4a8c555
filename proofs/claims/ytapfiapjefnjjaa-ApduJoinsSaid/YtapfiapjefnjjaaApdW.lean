/-
  The walks of Check and Case.
-/
import Derived.Test.YtapfiapjefnjjaaRows
import Derived.Test.YtapfiapjefnjjaaOnly
import Derived.Test.YtapfiapjefnjjaaApd
namespace Go.Proofs.Ytapfiapjefnjjaa
set_option linter.unusedSimpArgs false
open Go.RowKit

/-- A command by value. -/
def cmdV (cla ins p1 p2 : Int) (A : Option Addr) (n c : Nat) (le : Int) (long : Bool) : Value :=
  .agg #[I64 cla, I64 ins, I64 p1, I64 p2, .slice A n c, I64 le, .bool long]

theorem apdu_isByte (x : Int) (w : World) : Calls Try.prog 42 #[.int .i64 x] w fun e w' => e = .returned (.bool (Apd.byt x)) ∧ w = w' := by
  unfold Apd.byt
  by_cases h0 : 0 ≤ x
  · go_enter Try.func42, Try.ntmps42
    go_wp2_with fail
    go_ret
    exact ⟨by simp [h0], rfl⟩
  · go_enter Try.func42, Try.ntmps42
    go_wp2_with fail
    go_ret
    exact ⟨by simp; omega, rfl⟩
theorem ref04_isByte (x : Int) (w : World) : Calls Try.prog 43 #[.int .i64 x] w fun e w' => e = .returned (.bool (Apd.byt x)) ∧ w = w' := by
  unfold Apd.byt
  by_cases h0 : 0 ≤ x
  · go_enter Try.func43, Try.ntmps43
    go_wp2_with fail
    go_ret
    exact ⟨by simp [h0], rfl⟩
  · go_enter Try.func43, Try.ntmps43
    go_wp2_with fail
    go_ret
    exact ⟨by simp; omega, rfl⟩

set_option maxRecDepth 100000 in
set_option maxHeartbeats 4000000 in
theorem apdu_Check (cla ins p1 p2 : Int) (A : Option Addr) (n c : Nat) (le : Int) (long : Bool) (w : World) :
    Calls Try.prog 14 #[cmdV cla ins p1 p2 A n c le long] w fun e w' => e = .returned (.int .i64 (Apd.chk cla ins p1 p2 n le long)) ∧ Below w.heap.size w w' := by
  have HB := Lib.hid (fun o => (Below.refl w.heap.size w).alloc (Nat.le_refl _) o)
  have hC := Apd.chk_cases cla ins p1 p2 n le long
  have hby : ∀ x, Apd.byt x = true → 0 ≤ x ∧ x ≤ 255 := fun x h => of_decide_eq_true h
  unfold cmdV
  rcases hC with ⟨e0, hc⟩ | ⟨e0, e1, hc⟩ | ⟨e0, e1, e2, hc⟩ | ⟨e0, e1, e2, e3, hc⟩ | ⟨e0, e1, e2, e3, hC⟩
  rotate_left 4
  obtain ⟨q0, q1⟩ := hby ins e1
  have qt : ins.tdiv 16 = ins / 16 := Int.tdiv_eq_ediv_of_nonneg q0
  rcases hC with ⟨h1, hc⟩ | ⟨h1, h2, hc⟩ | ⟨h1, h2, h3, hc⟩ | ⟨h1, h2, h3, hC⟩
  rotate_left 3
  rcases hC with ⟨h4, hc⟩ | ⟨h4, h5, hc⟩ | ⟨h4, h5, h6, hc⟩ | ⟨h4, h5, h6, hC⟩
  rotate_left 3
  rcases hC with ⟨h7, hc⟩ | ⟨h7, h8, hc⟩ | ⟨h7, h8, h9, hc⟩ | ⟨h7, h8, h9, hc⟩
  all_goals
    rw [hc]
    clear hby hc
    try subst h1
    try replace h1 := beq_eq_false_iff_ne.2 h1
    try replace h2 := beq_eq_false_iff_ne.2 h2
    try replace h3 := beq_eq_false_iff_ne.2 h3
    cases long
  all_goals first
    | (cases h7; done)
    | (try simp only [Apd.maxD_t, Apd.maxD_f, Apd.maxL_t, Apd.maxL_f] at *
       try clear h7
       go_enter Try.func14, Try.ntmps14
       go_wp2_with (go_at_call 42; refine (apdu_isByte _ _).mono ?_; rintro e w1 ⟨rfl, rfl⟩; first | rw [e0] | rw [e1] | rw [e2] | rw [e3])
       go_ret
       exact ⟨rfl, HB.out _⟩)

set_option maxRecDepth 100000 in
set_option maxHeartbeats 4000000 in
theorem ref04_Check (cla ins p1 p2 : Int) (A : Option Addr) (n c : Nat) (le : Int) (long : Bool) (w : World) :
    Calls Try.prog 15 #[cmdV cla ins p1 p2 A n c le long] w fun e w' => e = .returned (.int .i64 (Apd.chk cla ins p1 p2 n le long)) ∧ Below w.heap.size w w' := by
  have HB := Lib.hid (fun o => (Below.refl w.heap.size w).alloc (Nat.le_refl _) o)
  have hC := Apd.chk_cases cla ins p1 p2 n le long
  have hby : ∀ x, Apd.byt x = true → 0 ≤ x ∧ x ≤ 255 := fun x h => of_decide_eq_true h
  unfold cmdV
  rcases hC with ⟨e0, hc⟩ | ⟨e0, e1, hc⟩ | ⟨e0, e1, e2, hc⟩ | ⟨e0, e1, e2, e3, hc⟩ | ⟨e0, e1, e2, e3, hC⟩
  rotate_left 4
  obtain ⟨q0, q1⟩ := hby ins e1
  have qt : ins.tdiv 16 = ins / 16 := Int.tdiv_eq_ediv_of_nonneg q0
  rcases hC with ⟨h1, hc⟩ | ⟨h1, h2, hc⟩ | ⟨h1, h2, h3, hc⟩ | ⟨h1, h2, h3, hC⟩
  rotate_left 3
  rcases hC with ⟨h4, hc⟩ | ⟨h4, h5, hc⟩ | ⟨h4, h5, h6, hc⟩ | ⟨h4, h5, h6, hC⟩
  rotate_left 3
  rcases hC with ⟨h7, hc⟩ | ⟨h7, h8, hc⟩ | ⟨h7, h8, h9, hc⟩ | ⟨h7, h8, h9, hc⟩
  all_goals
    rw [hc]
    clear hby hc
    try subst h1
    try replace h1 := beq_eq_false_iff_ne.2 h1
    try replace h2 := beq_eq_false_iff_ne.2 h2
    try replace h3 := beq_eq_false_iff_ne.2 h3
    cases long
  all_goals first
    | (cases h7; done)
    | (try simp only [Apd.maxD_t, Apd.maxD_f, Apd.maxL_t, Apd.maxL_f] at *
       try clear h7
       go_enter Try.func15, Try.ntmps15
       go_wp2_with (go_at_call 43; refine (ref04_isByte _ _).mono ?_; rintro e w1 ⟨rfl, rfl⟩; first | rw [e0] | rw [e1] | rw [e2] | rw [e3])
       go_ret
       exact ⟨rfl, HB.out _⟩)
end Go.Proofs.Ytapfiapjefnjjaa
