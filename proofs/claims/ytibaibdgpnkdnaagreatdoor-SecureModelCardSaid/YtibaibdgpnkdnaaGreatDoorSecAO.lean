/-
  A session by value, that came in.
-/
import Derived.Test.YtibaibdgpnkdnaaGreatDoorSecH
import Derived.Test.YtibaibdgpnkdnaaGreatDoorZ1
namespace Go.Proofs.YtibaibdgpnkdnaaGreatDoor
set_option maxRecDepth 100000
set_option linter.unusedSimpArgs false
set_option linter.unusedVariables false
open Go.RowKit Go.ChangeShapes Go.WideShapes Go.Deep
section
variable {H : Type} {enc : TypeId × Value → H} {w : World} {base : Nat} {spare : Nat → Bool} {held : Bool} {r : Reach} {b0 : Nat} {v : Value} {d : DataW H} {p : List MemPlace}
theorem sn_open (hv : Value.okWide Tryz.prog w r b0 24 v) (h : DataW.Trod enc Tryz.prog w base spare held 24 v d p) :
    ∃ (a : SnS) (e m rm dt : List UInt8) (lvl : Int), v = snV a lvl ∧ Byt w w.heap.size a.E a.en a.ce e ∧ Byt w w.heap.size a.M a.mn a.cm m ∧ Byt w w.heap.size a.R a.rn a.cr rm ∧ Byt w w.heap.size a.D a.dn a.cd dt ∧ -9223372036854775808 ≤ lvl ∧ lvl ≤ 9223372036854775807 := by
  obtain ⟨cs, rfl, hsz, hf⟩ := agg_of_trod Tryz.underlying24 (by kernel_rfl) (by kernel_rfl) hv h
  obtain ⟨v0, y0, n0, c0, t0⟩ := hf 0 _ rfl
  obtain ⟨v1, y1, n1, c1, t1⟩ := hf 1 _ rfl
  obtain ⟨v2, y2, n2, c2, t2⟩ := hf 2 _ rfl
  obtain ⟨v3, y3, n3, c3, t3⟩ := hf 3 _ rfl
  obtain ⟨v4, y4, n4, c4, t4⟩ := hf 4 _ rfl
  obtain ⟨E, en, ce, e, rfl, he, _⟩ := fbyt_of_trod Tryz.underlying22 Tryz.underlying5 (by kernel_rfl) t0
  obtain ⟨M, mn, cm, m, rfl, hm, _⟩ := fbyt_of_trod Tryz.underlying22 Tryz.underlying5 (by kernel_rfl) t1
  obtain ⟨R, rn, cr, rm, rfl, hr, _⟩ := fbyt_of_trod Tryz.underlying22 Tryz.underlying5 (by kernel_rfl) t2
  obtain ⟨D, dn, cd, dt, rfl, hd, _⟩ := fbyt_of_trod Tryz.underlying22 Tryz.underlying5 (by kernel_rfl) t3
  obtain ⟨lvl, rfl, f4⟩ := fint_of_trod Tryz.underlying3 t4
  refine ⟨⟨E, en, ce, M, mn, cm, R, rn, cr, D, dn, cd⟩, e, m, rm, dt, lvl, ?_, he, hm, hr, hd, f4⟩
  unfold snV
  refine congrArg Value.agg (Array.ext (by simpa using hsz) fun i h1 h2 => ?_)
  have hs5 : cs.size = 5 := by simpa using hsz
  rcases (show i = 0 ∨ i = 1 ∨ i = 2 ∨ i = 3 ∨ i = 4 by omega) with rfl | rfl | rfl | rfl | rfl
  · rw [Array.getElem?_eq_getElem h1] at c0; injection c0
  · rw [Array.getElem?_eq_getElem h1] at c1; injection c1
  · rw [Array.getElem?_eq_getElem h1] at c2; injection c2
  · rw [Array.getElem?_eq_getElem h1] at c3; injection c3
  · rw [Array.getElem?_eq_getElem h1] at c4; injection c4
end
theorem sn_at {w : World} {a : SnS} {e m rm dt ch : List UInt8} {lvl : Int} {C : Option Addr} {cn cc : Nat} (h : Byt w w.heap.size a.E a.en a.ce e ∧ Byt w w.heap.size a.M a.mn a.cm m ∧ Byt w w.heap.size a.R a.rn a.cr rm ∧ Byt w w.heap.size a.D a.dn a.cd dt ∧ -9223372036854775808 ≤ lvl ∧ lvl ≤ 9223372036854775807) (hc : Byt w w.heap.size C cn cc ch) :
    SnAt w a ⟨e, m, rm, dt, lvl, ch, 0, false, false⟩ C cn cc :=
  { enc := h.1, mac := h.2.1, rmac := h.2.2.1, dat := h.2.2.2.1, chain := hc, lvl := h.2.2.2.2, cnt := rfl, exp := rfl, shut := rfl }
end Go.Proofs.YtibaibdgpnkdnaaGreatDoor
