/-
  The two sides as things that stay (without the references).
-/
import Derived.Test.YtpacdjkikbdkeaaTeC
import Derived.Test.YtpacdjkikbdkeaaTzJ
import Derived.Test.YtpacdjkikbdkeaaKn
namespace Go.Proofs.Ytpacdjkikbdkeaa
set_option maxRecDepth 100000
set_option linter.unusedSimpArgs false
set_option linter.unusedVariables false
open Go.RowKit Go.Maps
set_option maxHeartbeats 8000000

theorem CardAt'.sup {w : World} {g : Nat} {F : Nat → Prop} {l : List Int} {s : Tz.S} (H : CardAt' w g F l s) : Sup w F (fun u => CardAt' u g F l s) := ⟨H, H.lt, fun R w' ho hd => H.away ho hd⟩
theorem TermAt'.sup {w : World} {g : Nat} {F : Nat → Prop} {t : Te.T} (H : TermAt' w g F t) : Sup w F (fun u => TermAt' u g F t) := ⟨H, H.lt, fun R w' ho hd => H.away ho hd⟩
/-- The response's data and status word. -/
def Te.T.rd (t : Te.T) : List UInt8 := if t.done = true then t.data else []
def Te.T.rsw (t : Te.T) : Int := if t.done = true then t.sw else 0
def Te.T.er (t : Te.T) : Int := if t.bad = true then 28 else 0
theorem Te.rd_len (t : Te.T) : (if t.done = true then t.data.length else 0) = t.rd.length := by
  unfold Te.T.rd
  split <;> rfl
theorem term_ResponseF (w0 : World) (g : Nat) (F : Nat → Prop) (t : Te.T) (H : TermAt' w0 g F t) (hdl : t.data.length ≤ 100000000) :
    Calls Try.prog 26 #[.pointer (some ⟨g, 0, none⟩)] w0 fun e w' => ∃ A c, e = .returned (.tuple #[.agg #[.slice A t.rd.length c, .int .i64 t.rsw], .bool t.done]) ∧ Own w' w0.heap.size 5 1 A t.rd.length c (bcells t.rd) ∧ Below w0.heap.size w0 w' :=
  (term_Response w0 g F t H hdl).mono fun e w' ⟨A, c, h1, h2, h3⟩ => ⟨A, c, by rw [Te.rd_len] at h1; exact h1, by rw [Te.rd_len] at h2; exact h2, h3⟩
theorem term_FailedF (w0 : World) (g : Nat) (F : Nat → Prop) (t : Te.T) (H : TermAt' w0 g F t) :
    Calls Try.prog 29 #[.pointer (some ⟨g, 0, none⟩)] w0 fun e w' => e = .returned (.int .i64 t.er) ∧ w0 = w' := term_Failed w0 g F t H
end Go.Proofs.Ytpacdjkikbdkeaa
