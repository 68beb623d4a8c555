/-
  Turns: a slice of them that came in.
-/
import Derived.Test.YtibaibdgpnkdnaaGreatDoorSecAO
import Derived.Test.YtibaibdgpnkdnaaGreatDoorZ1
namespace Go.Proofs.YtibaibdgpnkdnaaGreatDoor
set_option maxRecDepth 100000
set_option linter.unusedSimpArgs false
set_option linter.unusedVariables false
open Go.RowKit Go.ChangeShapes Go.WideShapes Go.Deep
set_option maxHeartbeats 4000000

/-- A turn as it lies in memory. -/
structure Trn where
  cla : Int
  ins : Int
  p1 : Int
  p2 : Int
  A : Option Addr
  dn : Nat
  dc : Nat
  b : List UInt8
  le : Int
  long : Bool
  A' : Option Addr
  n' : Nat
  c' : Nat
  b' : List UInt8
  sw : Int
instance : Inhabited Trn := ⟨⟨0, 0, 0, 0, none, 0, 0, [], 0, false, none, 0, 0, [], 0⟩⟩
def Trn.cells (x : Trn) : List Value := [.int .i64 x.cla, .int .i64 x.ins, .int .i64 x.p1, .int .i64 x.p2, .slice x.A x.dn x.dc, .int .i64 x.le, .bool x.long, .slice x.A' x.n' x.c', .int .i64 x.sw]
def Trn.ok (w : World) (x : Trn) : Prop := Byt w w.heap.size x.A x.dn x.dc x.b ∧ Byt w w.heap.size x.A' x.n' x.c' x.b'
structure Trns (w : World) (A : Option Addr) (n c : Nat) (l : List Trn) : Prop where
  len : l.length = n
  cap : n ≤ c
  row : Recs Trn.cells 9 w w.heap.size A l
  ok : ∀ x ∈ l, Trn.ok w x
/-- A turn, wherever it is looked at. -/
theorem Trns.at_ {w : World} {A : Option Addr} {n c : Nat} {l : List Trn} (h : Trns w A n c l) {k : Nat} (hk : k < n) : ∃ (b o : Nat) (x : Trn), A = some ⟨b, o, none⟩ ∧ Trn.ok w x ∧ l[k]? = some x ∧ w.rangeAt b (o + k * 9) x.cells := by
  have hl := h.len
  obtain ⟨b, o, e, hb, hr⟩ := h.row (by omega)
  have hx : l[k]? = some l[k] := List.getElem?_eq_getElem (by omega)
  refine ⟨b, o, _, e, h.ok _ (List.mem_of_getElem? hx), hx, fun j v hv => ?_⟩
  have := hr k _ hx j v hv
  rwa [← Nat.add_assoc] at this
end Go.Proofs.YtibaibdgpnkdnaaGreatDoor
