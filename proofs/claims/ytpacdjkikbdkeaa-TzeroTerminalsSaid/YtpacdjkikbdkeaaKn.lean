/-
  What a region that draws its order may count on: known blocks, and ranges of cells that lay there at first. Nothing here names a program.
-/
import Derived.Test.YtpacdjkikbdkeaaScn
namespace Go.Proofs.Ytpacdjkikbdkeaa
set_option maxRecDepth 100000
set_option linter.unusedSimpArgs false
set_option linter.unusedVariables false
open Go.RowKit

/-- A range of cells. -/
structure Rng where
  b : Nat
  o : Nat
  cs : List Value
def Rngs (C : List Rng) (u : World) : Prop := ∀ r ∈ C, u.rangeAt r.b r.o r.cs
theorem Rngs.below {C : List Rng} {w w' : World} (h : Rngs C w) (hb : Below w.heap.size w w') : Rngs C w' := fun r hr j v hj => by
  have h1 := h r hr j v hj
  exact (World.cell?_of_block (hb.block r.b (World.block_lt_of_cell? w _ h1))).trans h1
theorem Rngs.nil (w : World) : Rngs [] w := fun r hr => by cases hr
structure KnS (L : List Ent) (C : List Rng) (u : World) : Prop where
  blk : ∀ e ∈ L, Blk u e.g e.t e.cs
  rng : Rngs C u
theorem KnS.of {R : Nat → Prop} {s w : World} {L : List Ent} {O : List Osl} {C : List Rng} (h : Mem R s w L O) (hc : Rngs C w) : KnS L C w := ⟨h.blk, hc⟩
theorem KnS.two {R : Nat → Prop} {s w : World} {L L2 : List Ent} {O : List Osl} {C : List Rng} (h : Mem R s w (L ++ L2) O) (hc : Rngs C w) : KnS L C w := ⟨fun e he => h.blk e (List.mem_append_left _ he), hc⟩
/-- A range is among those that are known. -/
structure InR (b o : Nat) (cs : List Value) (C : List Rng) : Prop where
  at_ : (⟨b, o, cs⟩ : Rng) ∈ C
theorem InR.a {b o : Nat} {cs : List Value} {C : List Rng} : InR b o cs (⟨b, o, cs⟩ :: C) := ⟨List.mem_cons_self⟩
theorem InR.b {b o : Nat} {cs : List Value} {r : Rng} {C : List Rng} (h : InR b o cs C) : InR b o cs (r :: C) := ⟨List.mem_cons_of_mem _ h.at_⟩
section
variable {P : Program} {ops : Array Oper} {rest : List Oper} {o : Oper} {a : Act} {w s : World} {Q : Exit → Act → World → Prop} {L : List Ent} {C : List Rng} {b q : Nat}
theorem KnS.ld (h : KnS L C w) (ty : TypeId) (x : Operand) (ho : o.op = .load ty x) (g i : Nat) (hx : a.eval x = .pointer (some ⟨g, i, none⟩)) (t : TypeId) (cs : Array Value) (hk : In g t cs L) (hT : oneT P ty = true) (v : Value) (hv : cs[i]? = some v) :
    (execOp a.eval o).run P w = .ok (.value v) w := by
  obtain ⟨k, hk⟩ := hk
  exact exec_ld (h.blk _ (List.mem_of_getElem? hk)) ty x ho hx hT v hv
theorem KnS.la (h : KnS L C w) (ty : TypeId) (x : Operand) (ho : o.op = .load ty x) (g i : Nat) (hx : a.eval x = .pointer (some ⟨g, i, none⟩)) (t : TypeId) (cs : Array Value) (hk : In g t cs L) (hT : aggT P ty = true) (z : Array Value) (hz : (P.info? ty).bind (·.zero) = some (.agg z)) (hn : (P.info? ty).map (·.size) = some z.size) (hin : i + z.size ≤ cs.size) (v : Value) (hv : Value.agg ((cs.toList.drop i).take z.size).toArray = v) :
    (execOp a.eval o).run P w = .ok (.value v) w := by
  obtain ⟨k, hk⟩ := hk
  exact exec_la (h.blk _ (List.mem_of_getElem? hk)) ty x ho hx z hz hT hn hin v hv
theorem KnS.lc (h : KnS L C w) (ty : TypeId) (x : Operand) (ho : o.op = .load ty x) (hx : a.eval x = .pointer (some ⟨b, q, none⟩)) (v0 : Value) (hk : InR b q [v0] C) (hT : oneT P ty = true) (v : Value) (he : v0 = v) :
    (execOp a.eval o).run P w = .ok (.value v) w := by
  subst he
  have hv : w.cell? ⟨b, q, none⟩ = some v0 := h.rng _ hk.at_ 0 v0 rfl
  unfold execOp
  simp only [ho, hx, Sem.run_bind, run_load_cell hT hv, Sem.run_pure, Result.andThen_ok]
theorem run_loadR {ty : TypeId} {cs : List Value} (hr : w.rangeAt b q cs) (hT : aggT P ty = true) (hn : (P.info? ty).map (·.size) = some cs.length) : (Instr.loadAt ty (.pointer (some ⟨b, q, none⟩))).run P w = .ok (.agg cs.toArray) w := by
  unfold aggT at hT
  cases hu : P.underlying ty with
  | none => rw [hu] at hT; cases hT
  | some d => exact run_loadAt_mid w b q ty cs d hr hu (by rw [hu] at hT; cases d <;> simp_all) hn
theorem KnS.lr (h : KnS L C w) (ty : TypeId) (x : Operand) (ho : o.op = .load ty x) (hx : a.eval x = .pointer (some ⟨b, q, none⟩)) (cs : List Value) (hk : InR b q cs C) (hT : aggT P ty = true) (hn : (P.info? ty).map (·.size) = some cs.length) (v : Value) (hv : Value.agg cs.toArray = v) :
    (execOp a.eval o).run P w = .ok (.value v) w := by
  subst hv
  unfold execOp
  simp only [ho, hx, Sem.run_bind, run_loadR (h.rng _ hk.at_) hT hn, Sem.run_pure, Result.andThen_ok]
/-- A load of a cell that lay there at first. -/
theorem wpList_lcR (hr : Rngs C w) (hw : Region.wanted o (yielded ops a.tmps) = true) (ty : TypeId) (x : Operand) (ho : o.op = .load ty x) (b q : Nat) (hx : a.eval x = .pointer (some ⟨b, q, none⟩)) (v : Value) (hk : InR b q [v] C) (hT : oneT P ty = true)
    (h : wpList P ops Q rest (a.put o.dst v) w) : wpList P ops Q (o :: rest) a w :=
  wpList_lc hw ty x ho _ hx hT v (hr _ hk.at_ 0 v rfl) h
/-- .. of a struct. -/
theorem wpList_lrR (hr : Rngs C w) (hw : Region.wanted o (yielded ops a.tmps) = true) (ty : TypeId) (x : Operand) (ho : o.op = .load ty x) (b q : Nat) (hx : a.eval x = .pointer (some ⟨b, q, none⟩)) (cs : List Value) (hk : InR b q cs C) (hT : aggT P ty = true) (hn : (P.info? ty).map (·.size) = some cs.length)
    (h : wpList P ops Q rest (a.put o.dst (.agg cs.toArray)) w) : wpList P ops Q (o :: rest) a w := by
  refine wpList_go hw ?_
  unfold Oper.wp execOp
  simp only [ho, hx, Sem.run_bind, run_loadR (hr _ hk.at_) hT hn, Sem.run_pure, Result.andThen_ok]
  exact h
end
end Go.Proofs.Ytpacdjkikbdkeaa
