/-
  An argument that came in: a slice of 32-bit words.
-/
import Derived.Test.YtnlhammgcemchaaZ1
namespace Go.Proofs.Ytnlhammgcemchaa
set_option maxRecDepth 100000
set_option linter.unusedSimpArgs false
set_option linter.unusedVariables false
open Go.RowKit Go.ChangeShapes Go.WideShapes Go.Deep

theorem wds_of_trod {H : Type} {enc : TypeId × Value → H} {w : World} {base : Nat} {spare : Nat → Bool} {held : Bool} {A : Option Addr} {n c : Nat} {d : DataW H} {p : List MemPlace}
    (h : DataW.Trod enc Try.prog w base spare held 57 (.slice A n c) d p) : ∃ xs : List UInt32, Wds w w.heap.size A n c xs ∧ c ≤ maxLen := by
  obtain ⟨fuel, hf⟩ := h
  rcases flat_slice (k := 1) (ts := [59]) Try.underlying57 (by kernel_rfl) hf with hcs | ⟨a, len, cap, hcs, hl, hm, hr⟩
  · simp [Value.cells] at hcs
    obtain ⟨rfl, rfl, rfl⟩ := hcs
    exact ⟨[], ⟨rfl, Nat.le_refl _, Row.nil _ _ _⟩, Nat.zero_le _⟩
  · simp [Value.cells] at hcs
    obtain ⟨rfl, rfl, rfl⟩ := hcs
    have hC : Try.prog.cellsOf 59 = 1 := by kernel_rfl
    rw [hC] at hr
    obtain ⟨l, h1, h2, h3⟩ := recs_of (cells := fun y : UInt32 => [W32 y]) (s := 1) (n := n) (w := w) (a := a) (G := fun _ => True) (fun x => ⟨_, rfl⟩) (fun i hi => by
      obtain ⟨v0, c0, t0⟩ := hr i hi 0 _ rfl
      obtain ⟨y0, m0, hy0, _⟩ := t0
      obtain ⟨z, e0, _, hz⟩ := DataW.trod_int Try.underlying59 hy0
      obtain rfl : v0 = .int .u32 z := by simpa using e0
      have hb : 0 ≤ z ∧ z ≤ 4294967295 := by simpa [Lit.wf, IntKind.min, IntKind.max, IntKind.signed, IntKind.bits] using hz
      refine ⟨UInt32.ofNat z.toNat, fun j v hv => ?_, trivial⟩
      match j, hv with
      | 0, hv =>
        injection hv with hv; subst hv
        refine c0.trans ?_
        have e : (((UInt32.ofNat z.toNat).toNat : Nat) : Int) = z := by
          rw [UInt32.toNat_ofNat_of_lt' (by simp only [UInt32.size]; omega)]
          omega
        show some (Value.int .u32 z) = some (Value.int .u32 (((UInt32.ofNat z.toNat).toNat : Nat) : Int))
        rw [e]
      | j + 1, hv => simp at hv)
    refine ⟨l, ⟨h1, hl, fun hn => ?_⟩, hm⟩
    obtain ⟨b, o, e, hb, hc⟩ := h2 (by simpa using hn)
    refine ⟨b, o, e, hb, fun j hj => ?_⟩
    have hjl : j < l.length := by simpa using hj
    have := hc j _ (List.getElem?_eq_getElem hjl) 0 _ rfl
    rw [show j * 1 + 0 = j by omega] at this
    rw [this, List.getElem?_map, List.getElem?_eq_getElem hjl]
    rfl
end Go.Proofs.Ytnlhammgcemchaa
