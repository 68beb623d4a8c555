/-
  Loads of single cells out of ranges, the type asked first. Nothing here names a program.
-/
import Derived.Test.YtibaibdgpnkdnaaDoorZ2
namespace Go.Proofs.YtibaibdgpnkdnaaDoor
set_option maxRecDepth 100000
set_option linter.unusedSimpArgs false
set_option linter.unusedVariables false
open Go.RowKit
section
variable {P : Program} {ops : Array Oper} {rest : List Oper} {o : Oper} {a : Act} {w s : World} {Q : Exit → Act → World → Prop} {L : List Ent} {C : List Rng} {b q : Nat}
theorem KnS.lcT (h : KnS L C w) (ty : TypeId) (x : Operand) (ho : o.op = .load ty x) (hx : a.eval x = .pointer (some ⟨b, q, none⟩)) (hT : oneT P ty = true) (v0 : Value) (hk : InR b q [v0] C) (v : Value) (he : v0 = v) :
    (execOp a.eval o).run P w = .ok (.value v) w := KnS.lc h ty x ho hx v0 hk hT v he
theorem wpList_lcRT (hr : Rngs C w) (hw : Region.wanted o (yielded ops a.tmps) = true) (ty : TypeId) (x : Operand) (ho : o.op = .load ty x) (hT : oneT P ty = true) (b q : Nat) (hx : a.eval x = .pointer (some ⟨b, q, none⟩)) (v : Value) (hk : InR b q [v] C)
    (h : wpList P ops Q rest (a.put o.dst v) w) : wpList P ops Q (o :: rest) a w := wpList_lcR hr hw ty x ho b q hx v hk hT h
end
end Go.Proofs.YtibaibdgpnkdnaaDoor
