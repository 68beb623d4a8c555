/-
  Arguments that came in: a struct by value whose fields are of one cell each. Nothing here names a program.
-/
import Derived.Test.YtapfiapjefnjjaaArg
import Derived.Test.YtapfiapjefnjjaaFld
import Derived.Deep.Matrix
namespace Go.Proofs.Ytapfiapjefnjjaa
open Go.RowKit Go.ChangeShapes Go.WideShapes Go.Deep

section
variable {H : Type} {enc : TypeId × Value → H} {P : Program} {w : World} {base : Nat} {spare : Nat → Bool} {held : Bool}
theorem agg_of_trod {t : TypeId} {fs : Array Field} {r : Reach} {b0 : Nat} {v : Value} {d : DataW H} {p : List MemPlace} (hs : P.underlying t = some (.struct fs)) (hone : oneCellFields P fs = true) (hC : P.cellsOf t = fs.size)
    (hv : Value.okWide P w r b0 t v) (h : DataW.Trod enc P w base spare held t v d p) :
    ∃ cs : Array Value, v = .agg cs ∧ cs.size = fs.size ∧ ∀ (j : Nat) (f : Field), fs[j]? = some f → ∃ (x : Value) (y : DataW H × List MemPlace) (n : Nat), cs[j]? = some x ∧ DataW.trod enc P w base spare held n f.type [x] = some y := by
  obtain ⟨cs, rfl, hsz⟩ := okWide_struct hs hv
  obtain ⟨fuel, hf⟩ := h
  refine ⟨cs, rfl, hsz.trans hC, fun j f hj => ?_⟩
  obtain ⟨ys, k, _, _, _, hyl, hg⟩ := DataW.trod_struct hs hf
  obtain ⟨ho, hk⟩ := hone_of hone j f hj
  have hjl : j < fs.size := (Array.getElem?_eq_some_iff.1 hj).1
  have h1 := hg j f hj
  have hl : (Value.agg cs).cells = cs := rfl
  rw [hl] at h1
  have hjc : j < cs.toList.length := by rw [Array.length_toList, hsz, hC]; exact hjl
  rw [ho, hk, List.drop_eq_getElem_cons hjc, List.getElem?_eq_getElem (by omega)] at h1
  exact ⟨cs.toList[j], _, k, by rw [← Array.getElem?_toList, List.getElem?_eq_getElem hjc], h1⟩

/-- A field that is an int. -/
theorem fint_of_trod {t : TypeId} {n : Nat} {v : Value} {y : DataW H × List MemPlace} (ht : P.underlying t = some (.int .i64)) (h : DataW.trod enc P w base spare held n t [v] = some y) : ∃ z, v = .int .i64 z ∧ -9223372036854775808 ≤ z ∧ z ≤ 9223372036854775807 := by
  obtain ⟨z, e, _, hw⟩ := DataW.trod_int ht h
  exact ⟨z, by simpa using e, by simpa [Lit.wf, IntKind.min, IntKind.max, IntKind.signed, IntKind.bits] using hw⟩
theorem fbool_of_trod {t : TypeId} {n : Nat} {v : Value} {y : DataW H × List MemPlace} (ht : P.underlying t = some .bool) (h : DataW.trod enc P w base spare held n t [v] = some y) : ∃ z, v = .bool z := by
  obtain ⟨z, e, _⟩ := DataW.trod_bool ht h
  exact ⟨z, by simpa using e⟩
/-- A field that is a slice of bytes. -/
theorem fbyt_of_trod {t e : TypeId} {n : Nat} {v : Value} {y : DataW H × List MemPlace} (ht : P.underlying t = some (.slice e)) (he : P.underlying e = some (.int .u8)) (hC : P.cellsOf e = 1) (h : DataW.trod enc P w base spare held n t [v] = some y) :
    ∃ A len cap bs, v = .slice A len cap ∧ Byt w w.heap.size A len cap bs ∧ cap ≤ maxLen := by
  rcases open_slice1 ht hC h with ⟨h0, _⟩ | ⟨a, len, cap, m, n, V, D, Pl, hcs, _, hl, hm, hmm, _, hx⟩
  · exact ⟨none, 0, 0, [], by simpa using h0, ⟨rfl, Nat.le_refl _, Row.nil _ _ _⟩, Nat.zero_le _⟩
  · have key : ∀ i, i < len → ∃ b : UInt8, w.cell? (a.add i) = some (B8 b) := fun i hi => by
      obtain ⟨h1, h2⟩ := hx i (by rw [hmm]; split <;> omega)
      obtain ⟨z, e2, _, hw⟩ := DataW.trod_int he h2
      have hbd : 0 ≤ z ∧ z ≤ 255 := by simpa [Lit.wf, IntKind.min, IntKind.max, IntKind.signed, IntKind.bits] using hw
      refine ⟨UInt8.ofNat z.toNat, ?_⟩
      rw [h1]
      have e3 : V i = .int .u8 z := by simpa using e2
      rw [e3, B8, UInt8.toNat_ofNat_of_lt' (by simp only [UInt8.size]; omega), show ((z.toNat : Nat) : Int) = z by omega]
    obtain ⟨f, hf⟩ := @choose_lt _ ⟨(0 : UInt8)⟩ len _ key
    refine ⟨some a, len, cap, (List.range len).map f, by simpa using hcs, ⟨by simp, hl, fun hn => ?_⟩, hm⟩
    have hn0 : 0 < len := by simpa using hn
    obtain ⟨b, o, rfl, hb⟩ := spot_none (hf 0 hn0)
    refine ⟨b, o, rfl, hb, fun j hj => ?_⟩
    have hjn : j < len := by simpa using hj
    have := hf j hjn
    rw [add_eq] at this
    rw [this]
    simp [bcells, hjn]
end
end Go.Proofs.Ytapfiapjefnjjaa
