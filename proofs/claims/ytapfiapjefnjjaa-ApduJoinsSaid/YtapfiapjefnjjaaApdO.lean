/-
  Arguments that came in: a command, the meaning of a class byte, a response, by value.
-/
import Derived.Test.YtapfiapjefnjjaaApdB
import Derived.Test.YtapfiapjefnjjaaAgg
namespace Go.Proofs.Ytapfiapjefnjjaa
set_option linter.unusedSimpArgs false
open Go.RowKit Go.ChangeShapes Go.WideShapes Go.Deep

/-- A response by value. -/
def rspV (A : Option Addr) (n c : Nat) (sw : Int) : Value := .agg #[.slice A n c, I64 sw]
/-- A number that fits. -/
def Fit (x : Int) : Prop := -9223372036854775808 ≤ x ∧ x ≤ 9223372036854775807

section
variable {H : Type} {enc : TypeId × Value → H} {w : World} {base : Nat} {spare : Nat → Bool} {held : Bool} {r : Reach} {b0 : Nat} {v : Value} {d : DataW H} {p : List MemPlace}
theorem cmd_open (hv : Value.okWide Try.prog w r b0 24 v) (h : DataW.Trod enc Try.prog w base spare held 24 v d p) :
    ∃ (cla ins p1 p2 : Int) (A : Option Addr) (n c : Nat) (b : List UInt8) (le : Int) (long : Bool), v = cmdV cla ins p1 p2 A n c le long ∧ Byt w w.heap.size A n c b ∧ c ≤ maxLen ∧ Fit cla ∧ Fit ins ∧ Fit p1 ∧ Fit p2 ∧ Fit le := by
  obtain ⟨cs, rfl, hsz, hf⟩ := agg_of_trod Try.underlying24 (by kernel_rfl) (by kernel_rfl) hv h
  obtain ⟨v0, y0, n0, c0, t0⟩ := hf 0 _ rfl
  obtain ⟨v1, y1, n1, c1, t1⟩ := hf 1 _ rfl
  obtain ⟨v2, y2, n2, c2, t2⟩ := hf 2 _ rfl
  obtain ⟨v3, y3, n3, c3, t3⟩ := hf 3 _ rfl
  obtain ⟨v4, y4, n4, c4, t4⟩ := hf 4 _ rfl
  obtain ⟨v5, y5, n5, c5, t5⟩ := hf 5 _ rfl
  obtain ⟨v6, y6, n6, c6, t6⟩ := hf 6 _ rfl
  obtain ⟨z0, rfl, f0⟩ := fint_of_trod Try.underlying3 t0
  obtain ⟨z1, rfl, f1⟩ := fint_of_trod Try.underlying3 t1
  obtain ⟨z2, rfl, f2⟩ := fint_of_trod Try.underlying3 t2
  obtain ⟨z3, rfl, f3⟩ := fint_of_trod Try.underlying3 t3
  obtain ⟨A, n, c, b, rfl, hb, hm⟩ := fbyt_of_trod Try.underlying22 Try.underlying5 (by kernel_rfl) t4
  obtain ⟨z5, rfl, f5⟩ := fint_of_trod Try.underlying3 t5
  obtain ⟨z6, rfl⟩ := fbool_of_trod Try.underlying4 t6
  refine ⟨z0, z1, z2, z3, A, n, c, b, z5, z6, ?_, hb, hm, f0, f1, f2, f3, f5⟩
  unfold cmdV
  refine congrArg Value.agg (Array.ext (by simpa using hsz) fun i h1 h2 => ?_)
  have hs7 : cs.size = 7 := by simpa using hsz
  rcases (show i = 0 ∨ i = 1 ∨ i = 2 ∨ i = 3 ∨ i = 4 ∨ i = 5 ∨ i = 6 by omega) with rfl | rfl | rfl | rfl | rfl | rfl | rfl
  · rw [Array.getElem?_eq_getElem h1] at c0; injection c0
  · rw [Array.getElem?_eq_getElem h1] at c1; injection c1
  · rw [Array.getElem?_eq_getElem h1] at c2; injection c2
  · rw [Array.getElem?_eq_getElem h1] at c3; injection c3
  · rw [Array.getElem?_eq_getElem h1] at c4; injection c4
  · rw [Array.getElem?_eq_getElem h1] at c5; injection c5
  · rw [Array.getElem?_eq_getElem h1] at c6; injection c6

theorem info_open (hv : Value.okWide Try.prog w r b0 34 v) (h : DataW.Trod enc Try.prog w base spare held 34 v d p) :
    ∃ (ch : Int) (s c q : Bool), v = infoV ch s c q ∧ Fit ch := by
  obtain ⟨cs, rfl, hsz, hf⟩ := agg_of_trod Try.underlying34 (by kernel_rfl) (by kernel_rfl) hv h
  obtain ⟨v0, y0, n0, c0, t0⟩ := hf 0 _ rfl
  obtain ⟨v1, y1, n1, c1, t1⟩ := hf 1 _ rfl
  obtain ⟨v2, y2, n2, c2, t2⟩ := hf 2 _ rfl
  obtain ⟨v3, y3, n3, c3, t3⟩ := hf 3 _ rfl
  obtain ⟨z0, rfl, f0⟩ := fint_of_trod Try.underlying3 t0
  obtain ⟨z1, rfl⟩ := fbool_of_trod Try.underlying4 t1
  obtain ⟨z2, rfl⟩ := fbool_of_trod Try.underlying4 t2
  obtain ⟨z3, rfl⟩ := fbool_of_trod Try.underlying4 t3
  refine ⟨z0, z1, z2, z3, ?_, f0⟩
  unfold infoV
  refine congrArg Value.agg (Array.ext (by simpa using hsz) fun i h1 h2 => ?_)
  have hs7 : cs.size = 4 := by simpa using hsz
  rcases (show i = 0 ∨ i = 1 ∨ i = 2 ∨ i = 3 by omega) with rfl | rfl | rfl | rfl
  · rw [Array.getElem?_eq_getElem h1] at c0; injection c0
  · rw [Array.getElem?_eq_getElem h1] at c1; injection c1
  · rw [Array.getElem?_eq_getElem h1] at c2; injection c2
  · rw [Array.getElem?_eq_getElem h1] at c3; injection c3

theorem rsp_open (hv : Value.okWide Try.prog w r b0 45 v) (h : DataW.Trod enc Try.prog w base spare held 45 v d p) :
    ∃ (A : Option Addr) (n c : Nat) (b : List UInt8) (sw : Int), v = rspV A n c sw ∧ Byt w w.heap.size A n c b ∧ c ≤ maxLen ∧ Fit sw := by
  obtain ⟨cs, rfl, hsz, hf⟩ := agg_of_trod Try.underlying45 (by kernel_rfl) (by kernel_rfl) hv h
  obtain ⟨v0, y0, n0, c0, t0⟩ := hf 0 _ rfl
  obtain ⟨v1, y1, n1, c1, t1⟩ := hf 1 _ rfl
  obtain ⟨A, n, c, b, rfl, hb, hm⟩ := fbyt_of_trod Try.underlying22 Try.underlying5 (by kernel_rfl) t0
  obtain ⟨z1, rfl, f1⟩ := fint_of_trod Try.underlying3 t1
  refine ⟨A, n, c, b, z1, ?_, hb, hm, f1⟩
  unfold rspV
  refine congrArg Value.agg (Array.ext (by simpa using hsz) fun i h1 h2 => ?_)
  have hs7 : cs.size = 2 := by simpa using hsz
  rcases (show i = 0 ∨ i = 1 by omega) with rfl | rfl
  · rw [Array.getElem?_eq_getElem h1] at c0; injection c0
  · rw [Array.getElem?_eq_getElem h1] at c1; injection c1
end
end Go.Proofs.Ytapfiapjefnjjaa
