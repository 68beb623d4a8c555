/-
  Slices of calls, the argument of the memory's statements.
-/
import Derived.Test.YtdpfehdpglbidaaRows
import Derived.Test.YtdpfehdpglbidaaFld
namespace Go.Proofs.Ytdpfehdpglbidaa
open Go.RowKit Go.ChangeShapes Go.WideShapes Go.Deep

/-- A call: its kind, address, number and value. -/
structure Cel.Op where
  op : Int
  a : Int
  n : Int
  v : UInt32
/-- Its numbers fit. -/
def Cel.Op.fits (x : Cel.Op) : Prop := (-9223372036854775808 ≤ x.op ∧ x.op ≤ 9223372036854775807) ∧ (-9223372036854775808 ≤ x.a ∧ x.a ≤ 9223372036854775807) ∧ (-9223372036854775808 ≤ x.n ∧ x.n ≤ 9223372036854775807)
def Cel.Op.at_ (w : World) (b o : Nat) (x : Cel.Op) : Prop :=
  w.cell? ⟨b, o, none⟩ = some (I64 x.op) ∧ w.cell? ⟨b, o + 1, none⟩ = some (I64 x.a) ∧ w.cell? ⟨b, o + 2, none⟩ = some (I64 x.n) ∧ w.cell? ⟨b, o + 3, none⟩ = some (.int .u32 (x.v.toNat : Int))

/-- A slice shows calls. -/
structure Cel.Ops (w : World) (B : Nat) (A : Option Addr) (n c : Nat) (l : List Cel.Op) : Prop where
  len : l.length = n
  le : n ≤ c
  cells : 0 < n → ∃ b o, A = some ⟨b, o, none⟩ ∧ b < B ∧ ∀ (j : Nat) (x : Cel.Op), l[j]? = some x → x.fits ∧ x.at_ w b (o + j * 4)
theorem Cel.Ops.below {w w' : World} {B : Nat} {A : Option Addr} {n c : Nat} {l : List Cel.Op} (h : Cel.Ops w B A n c l) (hb : Below B w w') : Cel.Ops w' B A n c l :=
  ⟨h.len, h.le, fun hn => by
    obtain ⟨b, o, e, hlt, hc⟩ := h.cells hn
    refine ⟨b, o, e, hlt, fun j x hx => ?_⟩
    obtain ⟨hf, h0, h1, h2, h3⟩ := hc j x hx
    exact ⟨hf, (hb.cell (p := ⟨b, _, none⟩) hlt).trans h0, (hb.cell (p := ⟨b, _, none⟩) hlt).trans h1, (hb.cell (p := ⟨b, _, none⟩) hlt).trans h2, (hb.cell (p := ⟨b, _, none⟩) hlt).trans h3⟩⟩
theorem Cel.Ops.more {w : World} {B B' : Nat} {A : Option Addr} {n c : Nat} {l : List Cel.Op} (h : Cel.Ops w B A n c l) (hB : B ≤ B') : Cel.Ops w B' A n c l :=
  ⟨h.len, h.le, fun hn => by obtain ⟨b, o, e, hlt, hc⟩ := h.cells hn; exact ⟨b, o, e, by omega, hc⟩⟩
theorem Cel.Ops.get {w : World} {B : Nat} {A : Option Addr} {n c : Nat} {l : List Cel.Op} (h : Cel.Ops w B A n c l) {k : Nat} (hk : k < n) :
    ∃ b o x, A = some ⟨b, o, none⟩ ∧ b < B ∧ l[k]? = some x ∧ x.fits ∧ x.at_ w b (o + k * 4) := by
  obtain ⟨b, o, e, hb, hc⟩ := h.cells (by omega)
  have hx : l[k]? = some (l[k]'(by rw [h.len]; exact hk)) := List.getElem?_eq_getElem _
  exact ⟨b, o, _, e, hb, hx, hc k _ hx⟩

theorem int_of_cell {H : Type} {enc : TypeId × Value → H} {P : Program} {w : World} {base n : Nat} {spare : Nat → Bool} {held : Bool} {k : IntKind} {t : TypeId} {v : Value} {y : DataW H × List MemPlace}
    (ht : P.underlying t = some (.int k)) (h : DataW.trod enc P w base spare held n t [v] = some y) : ∃ z, v = .int k z ∧ (Lit.int k z).wf = true := by
  obtain ⟨z, e, _, hw⟩ := DataW.trod_int ht h
  exact ⟨z, by simpa using e, hw⟩

theorem ops_of_trod {H : Type} {enc : TypeId × Value → H} {w : World} {base : Nat} {spare : Nat → Bool} {held : Bool} {A : Option Addr} {n c : Nat} {d : DataW H} {p : List MemPlace}
    (h : DataW.Trod enc Try.prog w base spare held 36 (.slice A n c) d p) : ∃ l, Cel.Ops w w.heap.size A n c l ∧ c ≤ maxLen := by
  obtain ⟨fuel, hf⟩ := h
  rcases fields_of_slice Try.underlying36 Try.underlying39 (by kernel_rfl) (by kernel_rfl) hf with h0 | ⟨a, len, cap, hcs, hl, hm, hx⟩
  · simp [Value.cells] at h0
    obtain ⟨rfl, rfl, rfl⟩ := h0
    exact ⟨[], ⟨rfl, Nat.le_refl _, fun h => absurd h (by omega)⟩, Nat.zero_le _⟩
  · simp [Value.cells] at hcs
    obtain ⟨rfl, rfl, rfl⟩ := hcs
    have key : ∀ i, i < n → ∃ x : Cel.Op, x.fits ∧ w.cell? (a.add (i * 4 + 0)) = some (I64 x.op) ∧ w.cell? (a.add (i * 4 + 1)) = some (I64 x.a) ∧ w.cell? (a.add (i * 4 + 2)) = some (I64 x.n) ∧ w.cell? (a.add (i * 4 + 3)) = some (.int .u32 (x.v.toNat : Int)) := fun i hi => by
      obtain ⟨v0, y0, n0, c0, t0⟩ := hx i 0 _ hi rfl
      obtain ⟨v1, y1, n1, c1, t1⟩ := hx i 1 _ hi rfl
      obtain ⟨v2, y2, n2, c2, t2⟩ := hx i 2 _ hi rfl
      obtain ⟨v3, y3, n3, c3, t3⟩ := hx i 3 _ hi rfl
      obtain ⟨z0, rfl, f0⟩ := int_of_cell Try.underlying3 t0
      obtain ⟨z1, rfl, f1⟩ := int_of_cell Try.underlying3 t1
      obtain ⟨z2, rfl, f2⟩ := int_of_cell Try.underlying3 t2
      obtain ⟨z3, rfl, f3⟩ := int_of_cell Try.underlying30 t3
      have b0 : -9223372036854775808 ≤ z0 ∧ z0 ≤ 9223372036854775807 := by simpa [Lit.wf, IntKind.min, IntKind.max, IntKind.signed, IntKind.bits] using f0
      have b1 : -9223372036854775808 ≤ z1 ∧ z1 ≤ 9223372036854775807 := by simpa [Lit.wf, IntKind.min, IntKind.max, IntKind.signed, IntKind.bits] using f1
      have b2 : -9223372036854775808 ≤ z2 ∧ z2 ≤ 9223372036854775807 := by simpa [Lit.wf, IntKind.min, IntKind.max, IntKind.signed, IntKind.bits] using f2
      have b3 : 0 ≤ z3 ∧ z3 ≤ 4294967295 := by simpa [Lit.wf, IntKind.min, IntKind.max, IntKind.signed, IntKind.bits] using f3
      refine ⟨⟨z0, z1, z2, UInt32.ofNat z3.toNat⟩, ⟨b0, b1, b2⟩, c0, c1, c2, ?_⟩
      show _ = some (Value.int .u32 ((UInt32.ofNat z3.toNat).toNat : Int))
      rw [UInt32.toNat_ofNat_of_lt' (by simp only [UInt32.size]; omega), show ((z3.toNat : Nat) : Int) = z3 by omega]
      exact c3
    obtain ⟨f, hf⟩ := @choose_lt _ ⟨(⟨0, 0, 0, 0⟩ : Cel.Op)⟩ n _ key
    refine ⟨(List.range n).map f, ⟨by simp, hl, fun hn => ?_⟩, hm⟩
    obtain ⟨b, o, rfl, hb⟩ := spot_none (by have := (hf 0 hn).2.1; simpa using this)
    refine ⟨b, o, rfl, hb, fun j x hj => ?_⟩
    rw [List.getElem?_map] at hj
    have hjn : j < n := by
      apply Decidable.byContradiction
      intro hge
      rw [List.getElem?_eq_none (by simpa using hge)] at hj
      simp at hj
    rw [List.getElem?_eq_getElem (by simpa using hjn)] at hj
    simp at hj
    subst hj
    obtain ⟨g0, g1, g2, g3, g4⟩ := hf j hjn
    simp only [add_eq] at g1 g2 g3 g4
    exact ⟨g0, by simpa using g1, by rw [Nat.add_assoc]; exact g2, by rw [Nat.add_assoc]; exact g3, by rw [Nat.add_assoc]; exact g4⟩
end Go.Proofs.Ytdpfehdpglbidaa
