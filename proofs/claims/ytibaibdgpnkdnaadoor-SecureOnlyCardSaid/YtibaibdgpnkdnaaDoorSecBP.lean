/-
  A case (a turn and the number of the bit that is to be turned), by value, that came in.
-/
import Derived.Test.YtibaibdgpnkdnaaDoorSecAO
import Derived.Test.YtibaibdgpnkdnaaDoorZ1
namespace Go.Proofs.YtibaibdgpnkdnaaDoor
set_option maxRecDepth 100000
set_option linter.unusedSimpArgs false
set_option linter.unusedVariables false
open Go.RowKit Go.ChangeShapes Go.WideShapes Go.Deep
set_option maxHeartbeats 4000000
section
variable {H : Type} {enc : TypeId × Value → H} {w : World} {base : Nat} {spare : Nat → Bool} {held : Bool} {r : Reach} {b0 : Nat} {v : Value} {d : DataW H} {p : List MemPlace}
theorem case_open (hv : Value.okWide Tryd.prog w r b0 52 v) (h : DataW.Trod enc Tryd.prog w base spare held 52 v d p) :
    ∃ (cla ins p1 p2 : Int) (A : Option Addr) (dn dc : Nat) (b : List UInt8) (le : Int) (long : Bool) (A' : Option Addr) (n' c' : Nat) (b' : List UInt8) (sw : Int) (at_ : Nat),
      v = .agg #[.int .i64 cla, .int .i64 ins, .int .i64 p1, .int .i64 p2, .slice A dn dc, .int .i64 le, .bool long, .slice A' n' c', .int .i64 sw, .int .u16 (at_ : Int)] ∧ Byt w w.heap.size A dn dc b ∧ Byt w w.heap.size A' n' c' b' ∧ at_ < 65536 := by
  obtain ⟨cs, rfl, hsz, hr⟩ := flat_agg (k := 5) (ts := [3, 3, 3, 3, 22, 3, 4, 22, 3, 50]) Tryd.underlying52 (by kernel_rfl) hv h
  have hC : Tryd.prog.cellsOf 52 = 10 := by kernel_rfl
  rw [hC] at hsz
  obtain ⟨v0, c0, t0⟩ := hr 0 _ rfl
  obtain ⟨v1, c1, t1⟩ := hr 1 _ rfl
  obtain ⟨v2, c2, t2⟩ := hr 2 _ rfl
  obtain ⟨v3, c3, t3⟩ := hr 3 _ rfl
  obtain ⟨v4, c4, t4⟩ := hr 4 _ rfl
  obtain ⟨v5, c5, t5⟩ := hr 5 _ rfl
  obtain ⟨v6, c6, t6⟩ := hr 6 _ rfl
  obtain ⟨v7, c7, t7⟩ := hr 7 _ rfl
  obtain ⟨v8, c8, t8⟩ := hr 8 _ rfl
  obtain ⟨v9, c9, t9⟩ := hr 9 _ rfl
  obtain ⟨z0, rfl, -⟩ := t0.int Tryd.underlying3
  obtain ⟨z1, rfl, -⟩ := t1.int Tryd.underlying3
  obtain ⟨z2, rfl, -⟩ := t2.int Tryd.underlying3
  obtain ⟨z3, rfl, -⟩ := t3.int Tryd.underlying3
  obtain ⟨A4, n4, k4, b4, rfl, hb4, -⟩ := t4.byt Tryd.underlying22 Tryd.underlying5 (by kernel_rfl)
  obtain ⟨z5, rfl, -⟩ := t5.int Tryd.underlying3
  obtain ⟨z6, rfl⟩ := t6.bool Tryd.underlying4
  obtain ⟨A7, n7, k7, b7, rfl, hb7, -⟩ := t7.byt Tryd.underlying22 Tryd.underlying5 (by kernel_rfl)
  obtain ⟨z8, rfl, -⟩ := t8.int Tryd.underlying3
  obtain ⟨y9, n9, hy9, _⟩ := t9
  obtain ⟨z9, e9, _, f9⟩ := DataW.trod_int Tryd.underlying50 hy9
  obtain rfl : v9 = .int .u16 z9 := by simpa using e9
  have hb : 0 ≤ z9 ∧ z9 ≤ 65535 := by simpa [Lit.wf, IntKind.min, IntKind.max, IntKind.signed, IntKind.bits] using f9
  obtain ⟨m, rfl⟩ := Int.eq_ofNat_of_zero_le hb.1
  refine ⟨z0, z1, z2, z3, A4, n4, k4, b4, z5, z6, A7, n7, k7, b7, z8, m, ?_, hb4, hb7, by omega⟩
  refine congrArg Value.agg (Array.ext (by simpa using hsz) fun i h1 h2 => ?_)
  rcases (show i = 0 ∨ i = 1 ∨ i = 2 ∨ i = 3 ∨ i = 4 ∨ i = 5 ∨ i = 6 ∨ i = 7 ∨ i = 8 ∨ i = 9 by omega) with rfl | rfl | rfl | rfl | rfl | rfl | rfl | rfl | rfl | rfl
  · rw [Array.getElem?_eq_getElem h1] at c0; injection c0
  · rw [Array.getElem?_eq_getElem h1] at c1; injection c1
  · rw [Array.getElem?_eq_getElem h1] at c2; injection c2
  · rw [Array.getElem?_eq_getElem h1] at c3; injection c3
  · rw [Array.getElem?_eq_getElem h1] at c4; injection c4
  · rw [Array.getElem?_eq_getElem h1] at c5; injection c5
  · rw [Array.getElem?_eq_getElem h1] at c6; injection c6
  · rw [Array.getElem?_eq_getElem h1] at c7; injection c7
  · rw [Array.getElem?_eq_getElem h1] at c8; injection c8
  · rw [Array.getElem?_eq_getElem h1] at c9; injection c9
end
end Go.Proofs.YtibaibdgpnkdnaaDoor
