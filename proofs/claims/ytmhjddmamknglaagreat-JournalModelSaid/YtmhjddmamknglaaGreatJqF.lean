/-
  The journal: JournalModel.
-/
import Derived.OpenShut
import Derived.Lib.SmallJoins
import Derived.Test.YtmhjddmamknglaaGreatJqG
namespace Go.Proofs.YtmhjddmamknglaaGreat
set_option maxRecDepth 100000
set_option linter.unusedSimpArgs false
set_option linter.unusedVariables false
open Go.RowKit Go.ChangeShapes Go.WideShapes Go.Deep
set_option maxHeartbeats 8000000

/-- A list of changes, as it lies there. -/
structure CL where
  A : Option Addr
  n : Nat
  c : Nat
  l : List JC
instance : Inhabited CL := ⟨⟨none, 0, 0, []⟩⟩
def CL.cells (y : CL) : List Value := [.slice y.A y.n y.c]
structure CsB (w : World) (A : Option Addr) (n c : Nat) (ll : List CL) : Prop where
  len : ll.length = n
  cap : n ≤ c
  row : Recs CL.cells 1 w w.heap.size A ll
  ok : ∀ y ∈ ll, ChB0 w y.A y.n y.c y.l
theorem css_of_trod {H : Type} {enc : TypeId × Value → H} {w : World} {base : Nat} {spare : Nat → Bool} {held : Bool} {A : Option Addr} {n c : Nat} {d : DataW H} {p : List MemPlace}
    (h : DataW.Trod enc Tryz.prog w base spare held 51 (.slice A n c) d p) : ∃ ll : List CL, CsB w A n c ll ∧ c ≤ maxLen := by
  obtain ⟨fuel, hf⟩ := h
  rcases flat_slice (k := 4) (ts := [22]) Tryz.underlying51 (by kernel_rfl) hf with hcs | ⟨a, len, cap, hcs, hl, hm, hr⟩
  · simp [Value.cells] at hcs
    obtain ⟨rfl, rfl, rfl⟩ := hcs
    exact ⟨[], ⟨rfl, Nat.le_refl _, fun hn => absurd hn (Nat.lt_irrefl 0), fun y hy => (by cases hy)⟩, Nat.zero_le _⟩
  · simp [Value.cells] at hcs
    obtain ⟨rfl, rfl, rfl⟩ := hcs
    have hC : Tryz.prog.cellsOf 22 = 1 := by kernel_rfl
    rw [hC] at hr
    obtain ⟨ll, h1, h2, h3⟩ := recs_of (cells := CL.cells) (s := 1) (n := n) (w := w) (a := a) (G := fun y => ChB0 w y.A y.n y.c y.l) (fun x => ⟨_, rfl⟩) (fun i hi => by
      obtain ⟨v0, c0, y0, m0, t0, _⟩ := hr i hi 0 _ rfl
      obtain ⟨A4, n4, k4, e4⟩ := Go.Joins.slice_form Tryz.underlying22 t0
      obtain rfl : v0 = .slice A4 n4 k4 := by simpa using e4
      obtain ⟨l4, w4, x4⟩ := chs_of_trod (enc := enc) (d := y0.1) (p := y0.2) ⟨m0, t0⟩
      refine ⟨⟨A4, n4, k4, l4⟩, fun j v hv => ?_, ⟨w4.1, fun y hy => (w4.2 y hy).1, fun y hy => (w4.2 y hy).2, x4⟩⟩
      match j, hv with
      | 0, hv => injection hv with hv; subst hv; exact c0
      | j + 1, hv => simp [CL.cells] at hv)
    exact ⟨ll, ⟨h1, hl, h2, h3⟩, hm⟩
theorem CsB.at_ {w0 : World} {A : Option Addr} {n c : Nat} {ll : List CL} (h : CsB w0 A n c ll) {i : Nat} (hi : i < n) : ∃ b o y, A = some ⟨b, o, none⟩ ∧ ChB0 w0 y.A y.n y.c y.l ∧ Hid (∀ u : World, Below w0.heap.size w0 u → Rngs [⟨b, o + i, [.slice (y : CL).A y.n y.c]⟩] u) := by
  have hl := h.len
  obtain ⟨b, o, e, hb, hr⟩ := h.row (by omega)
  have hx : ll[i]? = some ll[i] := List.getElem?_eq_getElem (by omega)
  refine ⟨b, o, ll[i], e, h.ok _ (List.mem_of_getElem? hx), Lib.hid fun u hu r hr2 => ?_⟩
  obtain rfl := List.mem_singleton.1 hr2
  intro j v hv
  cases j with
  | zero =>
    cases hv
    have := hr i _ hx 0 _ rfl
    rw [Nat.mul_one, Nat.add_zero] at this
    exact (World.cell?_of_block (hu.block b hb)).trans this
  | succ j => simp at hv
end Go.Proofs.YtmhjddmamknglaaGreat
