/-
  An array of two numbers that came in.
-/
import Derived.OpenShut
import Derived.Test.YtmhjddmamknglaaGreatJqD
namespace Go.Proofs.YtmhjddmamknglaaGreat
set_option maxRecDepth 100000
set_option linter.unusedSimpArgs false
set_option linter.unusedVariables false
open Go.RowKit Go.ChangeShapes Go.WideShapes

theorem u16s_open {H : Type} {enc : TypeId × Value → H} {w : World} {r : Reach} {b0 base : Nat} {spare : Nat → Bool} {held : Bool} {v : Value} {d : DataW H} {p : List MemPlace} (hv : Value.okWide Tryz.prog w r b0 24 v) (h : DataW.Trod enc Tryz.prog w base spare held 24 v d p) :
    ∃ k0 k1, v = .agg #[.int .u16 k0, .int .u16 k1] ∧ (0 ≤ k0 ∧ k0 ≤ 65535) ∧ (0 ≤ k1 ∧ k1 ≤ 65535) := by
  simp only [Value.okWide, Tryz.underlying24] at hv
  obtain ⟨cs, rfl, hsz, _⟩ := hv
  have hC : Tryz.prog.cellsOf 24 = 2 := by kernel_rfl
  have hE : Tryz.prog.cellsOf 23 = 1 := by kernel_rfl
  have h2 : ∃ c0 c1, cs = #[c0, c1] := by
    have hl : cs.toList.length = 2 := by rw [Array.length_toList, hsz, hC]
    match hcs : cs.toList, hl with
    | [c0, c1], _ => exact ⟨c0, c1, Array.toList_inj.1 (by rw [hcs])⟩
  obtain ⟨c0, c1, rfl⟩ := h2
  obtain ⟨fuel, hf⟩ := h
  obtain ⟨xs, m, rfl, hx, hl, hlen, hi⟩ := DataW.trod_array Tryz.underlying24 hf
  have h0 := hi 0 (by decide)
  have h1 := hi 1 (by decide)
  rw [hE] at h0 h1
  have g0 : xs[0]? = some xs[0] := List.getElem?_eq_getElem (by omega)
  have g1 : xs[1]? = some xs[1] := List.getElem?_eq_getElem (by omega)
  rw [g0] at h0
  rw [g1] at h1
  simp [Value.cells] at h0 h1
  obtain ⟨k0, e0, _, w0⟩ := DataW.trod_int Tryz.underlying23 h0
  obtain ⟨k1, e1, _, w1⟩ := DataW.trod_int Tryz.underlying23 h1
  obtain rfl : c0 = .int .u16 k0 := by simpa using e0
  obtain rfl : c1 = .int .u16 k1 := by simpa using e1
  exact ⟨k0, k1, rfl, by simpa [Lit.wf, IntKind.min, IntKind.max, IntKind.signed, IntKind.bits] using w0, by simpa [Lit.wf, IntKind.min, IntKind.max, IntKind.signed, IntKind.bits] using w1⟩
end Go.Proofs.YtmhjddmamknglaaGreat
