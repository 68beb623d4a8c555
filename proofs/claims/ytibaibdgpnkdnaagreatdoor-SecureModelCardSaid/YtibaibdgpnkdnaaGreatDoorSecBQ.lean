/-
  Calls on a side: a slice of them that came in.
-/
import Derived.Test.YtibaibdgpnkdnaaGreatDoorSecBO
import Derived.Test.YtibaibdgpnkdnaaGreatDoorZ1
namespace Go.Proofs.YtibaibdgpnkdnaaGreatDoor
set_option maxRecDepth 100000
set_option linter.unusedSimpArgs false
set_option linter.unusedVariables false
open Go.RowKit Go.ChangeShapes Go.WideShapes Go.Deep
set_option maxHeartbeats 4000000

/-- A call as it lies in memory: its number, and what it is given. -/
structure Opn where
  k : Int
  x : Trn
instance : Inhabited Opn := ⟨⟨0, default⟩⟩
def Opn.cells (y : Opn) : List Value := .int .i64 y.k :: y.x.cells
structure Opns (w : World) (A : Option Addr) (n c : Nat) (l : List Opn) : Prop where
  len : l.length = n
  cap : n ≤ c
  row : Recs Opn.cells 10 w w.heap.size A l
  ok : ∀ y ∈ l, Trn.ok w y.x
theorem opns_of_trod {H : Type} {enc : TypeId × Value → H} {w : World} {base : Nat} {spare : Nat → Bool} {held : Bool} {A : Option Addr} {n c : Nat} {d : DataW H} {p : List MemPlace}
    (h : DataW.Trod enc Tryz.prog w base spare held 25 (.slice A n c) d p) : ∃ l : List Opn, Opns w A n c l ∧ c ≤ maxLen := by
  obtain ⟨fuel, hf⟩ := h
  rcases flat_slice (k := 4) (ts := [3, 3, 3, 3, 3, 22, 3, 4, 22, 3]) Tryz.underlying25 (by kernel_rfl) hf with hcs | ⟨a, len, cap, hcs, hl, hm, hr⟩
  · simp [Value.cells] at hcs
    obtain ⟨rfl, rfl, rfl⟩ := hcs
    exact ⟨[], ⟨rfl, Nat.le_refl _, fun hn => absurd hn (Nat.lt_irrefl 0), fun v hv => (by cases hv)⟩, Nat.zero_le _⟩
  · simp [Value.cells] at hcs
    obtain ⟨rfl, rfl, rfl⟩ := hcs
    have hC : Tryz.prog.cellsOf 32 = 10 := by kernel_rfl
    rw [hC] at hr
    obtain ⟨l, h1, h2, h3⟩ := recs_of (cells := Opn.cells) (s := 10) (n := n) (w := w) (a := a) (G := fun y => Trn.ok w y.x) (fun x => ⟨_, rfl⟩) (fun i hi => by
      obtain ⟨v, d0, td⟩ := hr i hi 0 _ rfl
      obtain ⟨v0, c0, t0⟩ := hr i hi 1 _ rfl
      obtain ⟨v1, c1, t1⟩ := hr i hi 2 _ rfl
      obtain ⟨v2, c2, t2⟩ := hr i hi 3 _ rfl
      obtain ⟨v3, c3, t3⟩ := hr i hi 4 _ rfl
      obtain ⟨v4, c4, t4⟩ := hr i hi 5 _ rfl
      obtain ⟨v5, c5, t5⟩ := hr i hi 6 _ rfl
      obtain ⟨v6, c6, t6⟩ := hr i hi 7 _ rfl
      obtain ⟨v7, c7, t7⟩ := hr i hi 8 _ rfl
      obtain ⟨v8, c8, t8⟩ := hr i hi 9 _ rfl
      obtain ⟨z, rfl, -⟩ := td.int Tryz.underlying3
      obtain ⟨z0, rfl, -⟩ := t0.int Tryz.underlying3
      obtain ⟨z1, rfl, -⟩ := t1.int Tryz.underlying3
      obtain ⟨z2, rfl, -⟩ := t2.int Tryz.underlying3
      obtain ⟨z3, rfl, -⟩ := t3.int Tryz.underlying3
      obtain ⟨A4, n4, k4, b4, rfl, hb4, -⟩ := t4.byt Tryz.underlying22 Tryz.underlying5 (by kernel_rfl)
      obtain ⟨z5, rfl, -⟩ := t5.int Tryz.underlying3
      obtain ⟨z6, rfl⟩ := t6.bool Tryz.underlying4
      obtain ⟨A7, n7, k7, b7, rfl, hb7, -⟩ := t7.byt Tryz.underlying22 Tryz.underlying5 (by kernel_rfl)
      obtain ⟨z8, rfl, -⟩ := t8.int Tryz.underlying3
      refine ⟨⟨z, ⟨z0, z1, z2, z3, A4, n4, k4, b4, z5, z6, A7, n7, k7, b7, z8⟩⟩, fun j v hv => ?_, hb4, hb7⟩
      match j, hv with
      | 0, hv => injection hv with hv; subst hv; exact d0
      | 1, hv => injection hv with hv; subst hv; exact c0
      | 2, hv => injection hv with hv; subst hv; exact c1
      | 3, hv => injection hv with hv; subst hv; exact c2
      | 4, hv => injection hv with hv; subst hv; exact c3
      | 5, hv => injection hv with hv; subst hv; exact c4
      | 6, hv => injection hv with hv; subst hv; exact c5
      | 7, hv => injection hv with hv; subst hv; exact c6
      | 8, hv => injection hv with hv; subst hv; exact c7
      | 9, hv => injection hv with hv; subst hv; exact c8
      | j + 10, hv => simp [Opn.cells, Trn.cells] at hv)
    exact ⟨l, ⟨h1, hl, h2, h3⟩, hm⟩
theorem Opns.at_ {w : World} {A : Option Addr} {n c : Nat} {l : List Opn} (h : Opns w A n c l) {k : Nat} (hk : k < n) : ∃ (b o : Nat) (y : Opn), A = some ⟨b, o, none⟩ ∧ Trn.ok w y.x ∧ l[k]? = some y ∧ w.rangeAt b (o + k * 10) y.cells := by
  have hl := h.len
  obtain ⟨b, o, e, hb, hr⟩ := h.row (by omega)
  have hx : l[k]? = some l[k] := List.getElem?_eq_getElem (by omega)
  refine ⟨b, o, _, e, h.ok _ (List.mem_of_getElem? hx), hx, fun j v hv => ?_⟩
  have := hr k _ hx j v hv
  rwa [← Nat.add_assoc] at this
end Go.Proofs.YtibaibdgpnkdnaaGreatDoor
