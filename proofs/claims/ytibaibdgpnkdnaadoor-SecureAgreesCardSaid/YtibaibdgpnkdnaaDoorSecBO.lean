/-
  Turns: a slice of them that came in.
-/
import Derived.Test.YtibaibdgpnkdnaaDoorSecAO
import Derived.Test.YtibaibdgpnkdnaaDoorZ2
namespace Go.Proofs.YtibaibdgpnkdnaaDoor
set_option maxRecDepth 100000
set_option linter.unusedSimpArgs false
set_option linter.unusedVariables false
open Go.RowKit Go.ChangeShapes Go.WideShapes Go.Deep
set_option maxHeartbeats 4000000

/-- A turn as it lies in memory. -/
structure Trn where
  cla : Int
  ins : Int
  p1 : Int
  p2 : Int
  A : Option Addr
  dn : Nat
  dc : Nat
  b : List UInt8
  le : Int
  long : Bool
  A' : Option Addr
  n' : Nat
  c' : Nat
  b' : List UInt8
  sw : Int
instance : Inhabited Trn := ⟨⟨0, 0, 0, 0, none, 0, 0, [], 0, false, none, 0, 0, [], 0⟩⟩
def Trn.cells (x : Trn) : List Value := [.int .i64 x.cla, .int .i64 x.ins, .int .i64 x.p1, .int .i64 x.p2, .slice x.A x.dn x.dc, .int .i64 x.le, .bool x.long, .slice x.A' x.n' x.c', .int .i64 x.sw]
def Trn.ok (w : World) (x : Trn) : Prop := Byt w w.heap.size x.A x.dn x.dc x.b ∧ Byt w w.heap.size x.A' x.n' x.c' x.b'
structure Trns (w : World) (A : Option Addr) (n c : Nat) (l : List Trn) : Prop where
  len : l.length = n
  cap : n ≤ c
  row : Recs Trn.cells 9 w w.heap.size A l
  ok : ∀ x ∈ l, Trn.ok w x
theorem turns_of_trod {H : Type} {enc : TypeId × Value → H} {w : World} {base : Nat} {spare : Nat → Bool} {held : Bool} {A : Option Addr} {n c : Nat} {d : DataW H} {p : List MemPlace}
    (h : DataW.Trod enc Tryd.prog w base spare held 40 (.slice A n c) d p) : ∃ l : List Trn, Trns w A n c l ∧ c ≤ maxLen := by
  obtain ⟨fuel, hf⟩ := h
  rcases flat_slice (k := 4) (ts := [3, 3, 3, 3, 22, 3, 4, 22, 3]) Tryd.underlying40 (by kernel_rfl) hf with hcs | ⟨a, len, cap, hcs, hl, hm, hr⟩
  · simp [Value.cells] at hcs
    obtain ⟨rfl, rfl, rfl⟩ := hcs
    exact ⟨[], ⟨rfl, Nat.le_refl _, fun hn => absurd hn (Nat.lt_irrefl 0), fun v hv => (by cases hv)⟩, Nat.zero_le _⟩
  · simp [Value.cells] at hcs
    obtain ⟨rfl, rfl, rfl⟩ := hcs
    have hC : Tryd.prog.cellsOf 44 = 9 := by kernel_rfl
    rw [hC] at hr
    obtain ⟨l, h1, h2, h3⟩ := recs_of (cells := Trn.cells) (s := 9) (n := n) (w := w) (a := a) (G := Trn.ok w) (fun x => ⟨_, rfl⟩) (fun i hi => by
      obtain ⟨v0, c0, t0⟩ := hr i hi 0 _ rfl
      obtain ⟨v1, c1, t1⟩ := hr i hi 1 _ rfl
      obtain ⟨v2, c2, t2⟩ := hr i hi 2 _ rfl
      obtain ⟨v3, c3, t3⟩ := hr i hi 3 _ rfl
      obtain ⟨v4, c4, t4⟩ := hr i hi 4 _ rfl
      obtain ⟨v5, c5, t5⟩ := hr i hi 5 _ rfl
      obtain ⟨v6, c6, t6⟩ := hr i hi 6 _ rfl
      obtain ⟨v7, c7, t7⟩ := hr i hi 7 _ rfl
      obtain ⟨v8, c8, t8⟩ := hr i hi 8 _ rfl
      obtain ⟨z0, rfl, -⟩ := t0.int Tryd.underlying3
      obtain ⟨z1, rfl, -⟩ := t1.int Tryd.underlying3
      obtain ⟨z2, rfl, -⟩ := t2.int Tryd.underlying3
      obtain ⟨z3, rfl, -⟩ := t3.int Tryd.underlying3
      obtain ⟨A4, n4, k4, b4, rfl, hb4, -⟩ := t4.byt Tryd.underlying22 Tryd.underlying5 (by kernel_rfl)
      obtain ⟨z5, rfl, -⟩ := t5.int Tryd.underlying3
      obtain ⟨z6, rfl⟩ := t6.bool Tryd.underlying4
      obtain ⟨A7, n7, k7, b7, rfl, hb7, -⟩ := t7.byt Tryd.underlying22 Tryd.underlying5 (by kernel_rfl)
      obtain ⟨z8, rfl, -⟩ := t8.int Tryd.underlying3
      refine ⟨⟨z0, z1, z2, z3, A4, n4, k4, b4, z5, z6, A7, n7, k7, b7, z8⟩, fun j v hv => ?_, hb4, hb7⟩
      match j, hv with
      | 0, hv => injection hv with hv; subst hv; exact c0
      | 1, hv => injection hv with hv; subst hv; exact c1
      | 2, hv => injection hv with hv; subst hv; exact c2
      | 3, hv => injection hv with hv; subst hv; exact c3
      | 4, hv => injection hv with hv; subst hv; exact c4
      | 5, hv => injection hv with hv; subst hv; exact c5
      | 6, hv => injection hv with hv; subst hv; exact c6
      | 7, hv => injection hv with hv; subst hv; exact c7
      | 8, hv => injection hv with hv; subst hv; exact c8
      | j + 9, hv => simp [Trn.cells] at hv)
    exact ⟨l, ⟨h1, hl, h2, h3⟩, hm⟩
/-- A turn, wherever it is looked at. -/
theorem Trns.at_ {w : World} {A : Option Addr} {n c : Nat} {l : List Trn} (h : Trns w A n c l) {k : Nat} (hk : k < n) : ∃ (b o : Nat) (x : Trn), A = some ⟨b, o, none⟩ ∧ Trn.ok w x ∧ l[k]? = some x ∧ w.rangeAt b (o + k * 9) x.cells := by
  have hl := h.len
  obtain ⟨b, o, e, hb, hr⟩ := h.row (by omega)
  have hx : l[k]? = some l[k] := List.getElem?_eq_getElem (by omega)
  refine ⟨b, o, _, e, h.ok _ (List.mem_of_getElem? hx), hx, fun j v hv => ?_⟩
  have := hr k _ hx j v hv
  rwa [← Nat.add_assoc] at this
end Go.Proofs.YtibaibdgpnkdnaaDoor
