/-
  The texts that the claims of this seat lean on, part 3.
-/
import Derived.Test.YtibaibdgpnkdnaaDoorZ1
import Derived.Test.YtibaibdgpnkdnaaDoorZ0
import Derived.WalkKit
import Derived.Laws.Cover3
import Derived.Laws.ByValue

section
namespace Go.Proofs.YtibaibdgpnkdnaaDoor
set_option maxRecDepth 100000
set_option linter.unusedSimpArgs false
set_option linter.unusedVariables false
open Go.RowKit Go.ChangeShapes Go.WideShapes Go.Deep

/-- The types of a struct's cells, field by field, from a place on. -/
def flatFs (P : Program) (F : TypeId → Option (List TypeId)) : List Field → Nat → Option (List TypeId)
  | [], _ => some []
  | f :: r, off => match F f.type with
    | none => none
    | some a => if f.offset = off ∧ P.cellsOf f.type = a.length then (match flatFs P F r (off + a.length) with
      | none => none
      | some b => some (a ++ b)) else none
/-- The types of a value's cells. -/
def flat (P : Program) : Nat → TypeId → Option (List TypeId)
  | 0, _ => none
  | k + 1, t => match P.underlying t with
    | some (.struct fs) => (match flatFs P (flat P k) fs.toList 0 with
      | none => none
      | some ts => if P.cellsOf t = ts.length then some ts else none)
    | some _ => if P.cellsOf t = 1 then some [t] else none
    | none => none

section
variable {H : Type} {enc : TypeId × Value → H} {P : Program} {w : World} {base : Nat} {spare : Nat → Bool} {held : Bool}
/-- What is read of a cell. -/
def CellRead (enc : TypeId × Value → H) (P : Program) (w : World) (base : Nat) (spare : Nat → Bool) (held : Bool) (t : TypeId) (d : DataW H) (v : Value) (T : TypeId) : Prop :=
  ∃ (y : DataW H × List MemPlace) (n : Nat), DataW.trod enc P w base spare held n T [v] = some y ∧ ∀ z ∈ DataW.weights P T y.1, z ∈ DataW.weights P t d
theorem flatFs_read {F : TypeId → Option (List TypeId)} {t : TypeId} {fs : Array Field} {cs : List Value} {xs : List (DataW H × List MemPlace)} {n : Nat} (ht : P.underlying t = some (.struct fs)) (hlen : xs.length = fs.size)
    (hF : ∀ T a, F T = some a → ∀ (cs : List Value) (x : DataW H × List MemPlace), cs.length = P.cellsOf T → DataW.trod enc P w base spare held n T cs = some x → ∀ (i : Nat) (U : TypeId), a[i]? = some U → ∃ v, cs[i]? = some v ∧ CellRead enc P w base spare held T x.1 v U)
    (hf : ∀ (i : Nat) (f : Field), fs[i]? = some f → DataW.trod enc P w base spare held n f.type ((cs.drop f.offset).take (P.cellsOf f.type)) = xs[i]?) :
    ∀ (r : List Field) (j off : Nat) (b : List TypeId), fs.toList.drop j = r → flatFs P F r off = some b → off + b.length ≤ cs.length → ∀ (i : Nat) (U : TypeId), b[i]? = some U → ∃ v, cs[off + i]? = some v ∧ CellRead enc P w base spare held t (.agg (xs.map (·.1))) v U := by
  intro r
  induction r with
  | nil =>
    intro j off b _ hb _ i U hi
    simp only [flatFs] at hb
    injection hb with hb
    subst hb
    simp at hi
  | cons f r ih =>
    intro j off b hj hb hle i U hi
    simp only [flatFs] at hb
    cases ha : F f.type with
    | none => rw [ha] at hb; cases hb
    | some a =>
      rw [ha] at hb
      simp only at hb
      split at hb
      · rename_i hoff
        cases hc : flatFs P F r (off + a.length) with
        | none => rw [hc] at hb; cases hb
        | some c =>
          rw [hc] at hb
          simp only at hb
          injection hb with hb
          subst hb
          rw [List.length_append] at hle
          have hfj : fs[j]? = some f := by
            have : (fs.toList.drop j)[0]? = some f := by rw [hj]; rfl
            rw [List.getElem?_drop] at this
            simpa using this
          have hjl : j < fs.size := (Array.getElem?_eq_some_iff.1 hfj).1
          by_cases hia : i < a.length
          · have h1 := hf j f hfj
            rw [hoff.1, List.getElem?_eq_getElem (by omega)] at h1
            obtain ⟨v, hv, y, m, hy, hz⟩ := hF f.type a ha ((cs.drop off).take (P.cellsOf f.type)) _ (by rw [List.length_take, List.length_drop, hoff.2]; omega) h1 i U (by rw [List.getElem?_append_left hia] at hi; exact hi)
            refine ⟨v, ?_, y, m, hy, fun z hz2 => ?_⟩
            · rw [List.getElem?_take, if_pos (by rw [hoff.2]; exact hia), List.getElem?_drop] at hv
              exact hv
            · have h2 := hz z hz2
              simp only [DataW.weights, ht]
              refine DataW.weights_mem_each (j := j) (t := f.type) (d := (xs[j]'(by omega)).1) ?_ ?_ z h2
              · rw [List.getElem?_map, Array.getElem?_toList, hfj]; rfl
              · rw [List.getElem?_map, List.getElem?_eq_getElem (by omega)]; rfl
          · obtain ⟨v, hv, hr⟩ := ih (j + 1) (off + a.length) c (by rw [← List.drop_drop, hj]; rfl) hc (by omega) (i - a.length) U (by rw [List.getElem?_append_right (by omega)] at hi; exact hi)
            refine ⟨v, ?_, hr⟩
            rw [show off + i = off + a.length + (i - a.length) by omega]
            exact hv
      · cases hb
theorem flat_read : ∀ (k : Nat) (t : TypeId) (ts : List TypeId), flat P k t = some ts → ∀ (fuel : Nat) (cs : List Value) (x : DataW H × List MemPlace), cs.length = P.cellsOf t → DataW.trod enc P w base spare held fuel t cs = some x →
    ∀ (i : Nat) (T : TypeId), ts[i]? = some T → ∃ v, cs[i]? = some v ∧ CellRead enc P w base spare held t x.1 v T
  | 0, _, _, h => by simp [flat] at h
  | k + 1, t, ts, h => by
    intro fuel cs x hlen hx i T hi
    rw [flat] at h
    cases hu : P.underlying t with
    | none => rw [hu] at h; cases h
    | some d =>
      rw [hu] at h
      by_cases hs : ∃ fs, d = .struct fs
      · obtain ⟨fs, rfl⟩ := hs
        simp only at h
        cases hff : flatFs P (flat P k) fs.toList 0 with
        | none => rw [hff] at h; cases h
        | some b =>
          rw [hff] at h
          simp only at h
          split at h
          · rename_i hcl
            injection h with h
            subst h
            obtain ⟨xs, n, rfl, rfl, hl, hxl, hf⟩ := DataW.trod_struct hu hx
            have := flatFs_read (enc := enc) (w := w) (base := base) (spare := spare) (held := held) (F := flat P k) hu hxl (fun T a ha cs x hl2 hx2 => flat_read k T a ha n cs x hl2 hx2) hf fs.toList 0 0 b rfl hff (by omega) i T hi
            simpa using this
          · cases h
      · have h1 : (if P.cellsOf t = 1 then some [t] else none) = some ts := by
          cases d <;> first | exact h | exact absurd ⟨_, rfl⟩ hs
        split at h1
        · rename_i hc
          injection h1 with h1
          subst h1
          have hi0 : i = 0 := by
            cases i with
            | zero => rfl
            | succ i => simp at hi
          subst hi0
          have hT : T = t := by simpa using hi.symm
          subst hT
          rw [hc] at hlen
          obtain ⟨v, rfl⟩ := List.length_eq_one_iff.1 hlen
          exact ⟨v, rfl, x, fuel, hx, fun z hz => hz⟩
        · cases h1
/-- A struct by value. -/
theorem flat_agg {k : Nat} {t : TypeId} {ts : List TypeId} {fs : Array Field} {r : Reach} {b0 : Nat} {v : Value} {d : DataW H} {p : List MemPlace} (hs : P.underlying t = some (.struct fs)) (hfl : flat P k t = some ts)
    (hv : Value.okWide P w r b0 t v) (h : DataW.Trod enc P w base spare held t v d p) : ∃ cs : Array Value, v = .agg cs ∧ cs.size = P.cellsOf t ∧ ∀ (i : Nat) (T : TypeId), ts[i]? = some T → ∃ u, cs[i]? = some u ∧ CellRead enc P w base spare held t d u T := by
  obtain ⟨cs, rfl, hsz⟩ := okWide_struct hs hv
  obtain ⟨fuel, hf⟩ := h
  refine ⟨cs, rfl, hsz, fun i T hi => ?_⟩
  have hc : (Value.agg cs).cells = cs := rfl
  rw [hc] at hf
  obtain ⟨u, hu, hr⟩ := flat_read k t ts hfl fuel cs.toList _ (by simpa using hsz) hf i T hi
  exact ⟨u, by simpa using hu, hr⟩
/-- A slice of structs. -/
theorem flat_slice {k : Nat} {t e : TypeId} {ts : List TypeId} {fuel : Nat} {cs : List Value} {x : DataW H × List MemPlace} (ht : P.underlying t = some (.slice e)) (hfl : flat P k e = some ts)
    (h : DataW.trod enc P w base spare held fuel t cs = some x) :
    cs = [.slice none 0 0] ∨ ∃ (a : Addr) (len cap : Nat), cs = [.slice (some a) len cap] ∧ len ≤ cap ∧ cap ≤ maxLen ∧
      ∀ i, i < len → ∀ (j : Nat) (T : TypeId), ts[j]? = some T → ∃ u, w.cell? (a.add (i * P.cellsOf e + j)) = some u ∧ CellRead enc P w base spare held t x.1 u T := by
  rcases open_slice ht h with h0 | ⟨a, len, cap, m, n, D, Pl, hcs, _, hl, hm, hmm, hx, hi⟩
  · exact .inl h0.1
  · refine .inr ⟨a, len, cap, hcs, hl, hm, fun i hlt j T hj => ?_⟩
    obtain ⟨l, hc, hd⟩ := hi i (by rw [hmm]; split <;> omega)
    obtain ⟨_, hll, hat⟩ := World.cells?_some hc
    obtain ⟨u, hu, y, n2, hy, hz⟩ := flat_read k e ts hfl n l _ (by omega) hd j T hj
    have hjl : j < l.length := (List.getElem?_eq_some_iff.1 hu).1
    refine ⟨u, ?_, y, n2, hy, fun z hz2 => ?_⟩
    · rw [← add_add, hat j (by omega), hu]
    · rw [hx]
      simp only [DataW.weights, ht]
      refine List.mem_cons.2 (.inr (List.mem_append.2 (.inl ?_)))
      exact weights_all (d := D i) (List.mem_map.2 ⟨i, List.mem_range.2 hlt, rfl⟩) (hz z hz2)
/-- A cell that is an int, a truth value, a slice of bytes. -/
theorem CellRead.int {t T : TypeId} {d : DataW H} {v : Value} (h : CellRead enc P w base spare held t d v T) (hT : P.underlying T = some (.int .i64)) : ∃ z, v = .int .i64 z ∧ -9223372036854775808 ≤ z ∧ z ≤ 9223372036854775807 := by
  obtain ⟨y, n, hy, _⟩ := h
  exact fint_of_trod hT hy
theorem CellRead.bool {t T : TypeId} {d : DataW H} {v : Value} (h : CellRead enc P w base spare held t d v T) (hT : P.underlying T = some .bool) : ∃ z, v = .bool z := by
  obtain ⟨y, n, hy, _⟩ := h
  exact fbool_of_trod hT hy
theorem CellRead.byt {t T e : TypeId} {d : DataW H} {v : Value} (h : CellRead enc P w base spare held t d v T) (hT : P.underlying T = some (.slice e)) (he : P.underlying e = some (.int .u8)) (hC : P.cellsOf e = 1) :
    ∃ A len cap bs, v = .slice A len cap ∧ Byt w w.heap.size A len cap bs ∧ cap ≤ maxLen := by
  obtain ⟨y, n, hy, _⟩ := h
  exact fbyt_of_trod hT he hC hy
end
/-- Records, one behind the other, s cells each. -/
def Recs {α : Type} (cells : α → List Value) (s : Nat) (w : World) (B : Nat) (A : Option Addr) (l : List α) : Prop :=
  0 < l.length → ∃ b o, A = some ⟨b, o, none⟩ ∧ b < B ∧ ∀ (k : Nat) (x : α), l[k]? = some x → ∀ (j : Nat) (v : Value), (cells x)[j]? = some v → w.cell? ⟨b, o + (k * s + j), none⟩ = some v
theorem Recs.below {α : Type} {cells : α → List Value} {s : Nat} {w w' : World} {B : Nat} {A : Option Addr} {l : List α} (h : Recs cells s w B A l) (hb : Below B w w') : Recs cells s w' B A l := fun hn => by
  obtain ⟨b, o, e, hlt, hc⟩ := h hn
  exact ⟨b, o, e, hlt, fun k x hk j v hv => (World.cell?_of_block (hb.block b hlt)).trans (hc k x hk j v hv)⟩
theorem Recs.more {α : Type} {cells : α → List Value} {s : Nat} {w : World} {B B' : Nat} {A : Option Addr} {l : List α} (h : Recs cells s w B A l) (hB : B ≤ B') : Recs cells s w B' A l := fun hn => by
  obtain ⟨b, o, e, hlt, hc⟩ := h hn
  exact ⟨b, o, e, Nat.lt_of_lt_of_le hlt hB, hc⟩
theorem recs_of {α : Type} [Inhabited α] {cells : α → List Value} {s n : Nat} {w : World} {a : Addr} {G : α → Prop} (h0 : ∀ x, ∃ v, (cells x)[0]? = some v)
    (key : ∀ i, i < n → ∃ x : α, (∀ (j : Nat) (v : Value), (cells x)[j]? = some v → w.cell? (a.add (i * s + j)) = some v) ∧ G x) : ∃ l : List α, l.length = n ∧ Recs cells s w w.heap.size (some a) l ∧ ∀ x ∈ l, G x := by
  obtain ⟨f, hf⟩ := choose_lt (n := n) key
  refine ⟨(List.range n).map f, by simp, fun hn => ?_, fun x hx => ?_⟩
  · have hn0 : 0 < n := by simpa using hn
    obtain ⟨v, hv⟩ := h0 (f 0)
    have h00 := (hf 0 hn0).1 0 v hv
    rw [show 0 * s + 0 = 0 by omega] at h00
    obtain ⟨b, o, rfl, hb⟩ := spot_none h00
    refine ⟨b, o, rfl, hb, fun k x hk j u hu => ?_⟩
    have hkn : k < n := by
      have := (List.getElem?_eq_some_iff.1 hk).1
      simpa using this
    have e : x = f k := by
      rw [List.getElem?_map, List.getElem?_range hkn] at hk
      simpa using hk.symm
    subst e
    have := (hf k hkn).1 j u hu
    rw [add_eq] at this
    exact this
  · obtain ⟨r, hr, rfl⟩ := List.mem_map.1 hx
    exact (hf r (List.mem_range.1 hr)).2
end Go.Proofs.YtibaibdgpnkdnaaDoor
end

section
namespace Go.Proofs.YtibaibdgpnkdnaaDoor
set_option maxRecDepth 100000
set_option linter.unusedSimpArgs false
set_option linter.unusedVariables false
open Go.RowKit

/-- A range of cells. -/
structure Rng where
  b : Nat
  o : Nat
  cs : List Value
def Rngs (C : List Rng) (u : World) : Prop := ∀ r ∈ C, u.rangeAt r.b r.o r.cs
theorem Rngs.below {C : List Rng} {w w' : World} (h : Rngs C w) (hb : Below w.heap.size w w') : Rngs C w' := fun r hr j v hj => by
  have h1 := h r hr j v hj
  exact (World.cell?_of_block (hb.block r.b (World.block_lt_of_cell? w _ h1))).trans h1
theorem Rngs.nil (w : World) : Rngs [] w := fun r hr => by cases hr
structure KnS (L : List Ent) (C : List Rng) (u : World) : Prop where
  blk : ∀ e ∈ L, Blk u e.g e.t e.cs
  rng : Rngs C u
theorem KnS.of {R : Nat → Prop} {s w : World} {L : List Ent} {O : List Osl} {C : List Rng} (h : Mem R s w L O) (hc : Rngs C w) : KnS L C w := ⟨h.blk, hc⟩
theorem KnS.two {R : Nat → Prop} {s w : World} {L L2 : List Ent} {O : List Osl} {C : List Rng} (h : Mem R s w (L ++ L2) O) (hc : Rngs C w) : KnS L C w := ⟨fun e he => h.blk e (List.mem_append_left _ he), hc⟩
/-- A range is among those that are known. -/
structure InR (b o : Nat) (cs : List Value) (C : List Rng) : Prop where
  at_ : (⟨b, o, cs⟩ : Rng) ∈ C
theorem InR.a {b o : Nat} {cs : List Value} {C : List Rng} : InR b o cs (⟨b, o, cs⟩ :: C) := ⟨List.mem_cons_self⟩
theorem InR.b {b o : Nat} {cs : List Value} {r : Rng} {C : List Rng} (h : InR b o cs C) : InR b o cs (r :: C) := ⟨List.mem_cons_of_mem _ h.at_⟩
section
variable {P : Program} {ops : Array Oper} {rest : List Oper} {o : Oper} {a : Act} {w s : World} {Q : Exit → Act → World → Prop} {L : List Ent} {C : List Rng} {b q : Nat}
theorem KnS.ld (h : KnS L C w) (ty : TypeId) (x : Operand) (ho : o.op = .load ty x) (g i : Nat) (hx : a.eval x = .pointer (some ⟨g, i, none⟩)) (t : TypeId) (cs : Array Value) (hk : In g t cs L) (hT : oneT P ty = true) (v : Value) (hv : cs[i]? = some v) :
    (execOp a.eval o).run P w = .ok (.value v) w := by
  obtain ⟨k, hk⟩ := hk
  exact exec_ld (h.blk _ (List.mem_of_getElem? hk)) ty x ho hx hT v hv
theorem KnS.la (h : KnS L C w) (ty : TypeId) (x : Operand) (ho : o.op = .load ty x) (g i : Nat) (hx : a.eval x = .pointer (some ⟨g, i, none⟩)) (t : TypeId) (cs : Array Value) (hk : In g t cs L) (hT : aggT P ty = true) (z : Array Value) (hz : (P.info? ty).bind (·.zero) = some (.agg z)) (hn : (P.info? ty).map (·.size) = some z.size) (hin : i + z.size ≤ cs.size) (v : Value) (hv : Value.agg ((cs.toList.drop i).take z.size).toArray = v) :
    (execOp a.eval o).run P w = .ok (.value v) w := by
  obtain ⟨k, hk⟩ := hk
  exact exec_la (h.blk _ (List.mem_of_getElem? hk)) ty x ho hx z hz hT hn hin v hv
theorem KnS.lc (h : KnS L C w) (ty : TypeId) (x : Operand) (ho : o.op = .load ty x) (hx : a.eval x = .pointer (some ⟨b, q, none⟩)) (v0 : Value) (hk : InR b q [v0] C) (hT : oneT P ty = true) (v : Value) (he : v0 = v) :
    (execOp a.eval o).run P w = .ok (.value v) w := by
  subst he
  have hv : w.cell? ⟨b, q, none⟩ = some v0 := h.rng _ hk.at_ 0 v0 rfl
  unfold execOp
  simp only [ho, hx, Sem.run_bind, run_load_cell hT hv, Sem.run_pure, Result.andThen_ok]
theorem run_loadR {ty : TypeId} {cs : List Value} (hr : w.rangeAt b q cs) (hT : aggT P ty = true) (hn : (P.info? ty).map (·.size) = some cs.length) : (Instr.loadAt ty (.pointer (some ⟨b, q, none⟩))).run P w = .ok (.agg cs.toArray) w := by
  unfold aggT at hT
  cases hu : P.underlying ty with
  | none => rw [hu] at hT; cases hT
  | some d => exact run_loadAt_mid w b q ty cs d hr hu (by rw [hu] at hT; cases d <;> simp_all) hn
theorem KnS.lr (h : KnS L C w) (ty : TypeId) (x : Operand) (ho : o.op = .load ty x) (hx : a.eval x = .pointer (some ⟨b, q, none⟩)) (cs : List Value) (hk : InR b q cs C) (hT : aggT P ty = true) (hn : (P.info? ty).map (·.size) = some cs.length) (v : Value) (hv : Value.agg cs.toArray = v) :
    (execOp a.eval o).run P w = .ok (.value v) w := by
  subst hv
  unfold execOp
  simp only [ho, hx, Sem.run_bind, run_loadR (h.rng _ hk.at_) hT hn, Sem.run_pure, Result.andThen_ok]
/-- A load of a cell that lay there at first. -/
theorem wpList_lcR (hr : Rngs C w) (hw : Region.wanted o (yielded ops a.tmps) = true) (ty : TypeId) (x : Operand) (ho : o.op = .load ty x) (b q : Nat) (hx : a.eval x = .pointer (some ⟨b, q, none⟩)) (v : Value) (hk : InR b q [v] C) (hT : oneT P ty = true)
    (h : wpList P ops Q rest (a.put o.dst v) w) : wpList P ops Q (o :: rest) a w :=
  wpList_lc hw ty x ho _ hx hT v (hr _ hk.at_ 0 v rfl) h
/-- .. of a struct. -/
theorem wpList_lrR (hr : Rngs C w) (hw : Region.wanted o (yielded ops a.tmps) = true) (ty : TypeId) (x : Operand) (ho : o.op = .load ty x) (b q : Nat) (hx : a.eval x = .pointer (some ⟨b, q, none⟩)) (cs : List Value) (hk : InR b q cs C) (hT : aggT P ty = true) (hn : (P.info? ty).map (·.size) = some cs.length)
    (h : wpList P ops Q rest (a.put o.dst (.agg cs.toArray)) w) : wpList P ops Q (o :: rest) a w := by
  refine wpList_go hw ?_
  unfold Oper.wp execOp
  simp only [ho, hx, Sem.run_bind, run_loadR (hr _ hk.at_) hT hn, Sem.run_pure, Result.andThen_ok]
  exact h
end
end Go.Proofs.YtibaibdgpnkdnaaDoor
end

section
namespace Go.Proofs.YtibaibdgpnkdnaaDoor
set_option maxRecDepth 100000
set_option linter.unusedSimpArgs false
set_option linter.unusedVariables false
open Go.RowKit

/-- A slice of ints: n of them, capacity c. -/
def Ints (w : World) (B : Nat) (A : Option Addr) (n c : Nat) (xs : List Int) : Prop := xs.length = n ∧ n ≤ c ∧ Row w B A (xs.map I64)
section
variable {w w' : World} {B B' : Nat} {A : Option Addr} {n c : Nat} {xs : List Int}
theorem Ints.below (h : Ints w B A n c xs) (hb : Below B w w') : Ints w' B A n c xs := ⟨h.1, h.2.1, h.2.2.below hb⟩
theorem Ints.more (h : Ints w B A n c xs) (hB : B ≤ B') : Ints w B' A n c xs := ⟨h.1, h.2.1, h.2.2.more hB⟩
theorem Ints.at_ (h : Ints w B A n c xs) {k : Nat} (hk : k < n) : ∃ b o, A = some ⟨b, o, none⟩ ∧ b < B ∧ w.cell? ⟨b, o + k, none⟩ = some (.int .i64 (xs.getD k 0)) := by
  have hl : k < xs.length := by rw [h.1]; exact hk
  obtain ⟨b, o, e, hb, hc⟩ := h.2.2.at_ (j := k) (by simpa using hl)
  exact ⟨b, o, e, hb, by rw [hc]; simp [List.getD, List.getElem?_eq_getElem hl]⟩
end
theorem ints_of_row {w : World} {a : Option Addr} {len cap : Nat} {zs : List Int}
    (h : (a = none ∧ len = 0 ∧ cap = 0 ∧ zs = []) ∨ ∃ x, a = some x ∧ len ≤ cap ∧ cap ≤ maxLen ∧ zs.length = cap ∧ (∀ i, i < zs.length → w.cell? (x.add i) = some (.int .i64 (zs.getD i 0))) ∧ ∀ n ∈ zs, (Lit.int .i64 n).wf = true) :
    ∃ xs, Ints w w.heap.size a len cap xs ∧ cap ≤ maxLen ∧ ∀ n ∈ xs, (Lit.int .i64 n).wf = true := by
  rcases h with ⟨rfl, rfl, rfl, rfl⟩ | ⟨x, rfl, hl, hm, hz, hc, hw⟩
  · exact ⟨[], ⟨rfl, Nat.le_refl _, Row.nil _ _ _⟩, Nat.zero_le _, fun n hn => by cases hn⟩
  · refine ⟨zs.take len, ⟨by simp; omega, hl, fun hn => ?_⟩, hm, fun n hn => hw n (List.mem_of_mem_take hn)⟩
    have hn' : 0 < len := by simp at hn; omega
    have hc0 := hc 0 (by omega)
    have hx0 : x.add 0 = x := by unfold Addr.add; simp
    rw [hx0] at hc0
    obtain ⟨b, o, s⟩ := x
    have hs : s = none := by
      cases s with
      | none => rfl
      | some q => simp only [World.cell?] at hc0; split at hc0 <;> simp at hc0
    subst hs
    refine ⟨b, o, rfl, World.block_lt_of_cell? w _ hc0, fun j hj => ?_⟩
    rw [List.length_map, List.length_take] at hj
    have hj' : j < zs.length := by omega
    have h1 := hc j hj'
    rw [add_eq] at h1
    rw [h1, List.getElem?_map, List.getElem?_take, if_pos (by omega), List.getElem?_eq_getElem hj']
    simp only [List.getD, List.getElem?_eq_getElem hj', Option.getD_some, Option.map_some, I64]
end Go.Proofs.YtibaibdgpnkdnaaDoor
end

section
namespace Go.Proofs.YtibaibdgpnkdnaaDoor
set_option maxRecDepth 100000
set_option linter.unusedSimpArgs false
set_option linter.unusedVariables false
open Go.RowKit Go.ChangeShapes Go.WideShapes Go.Deep

theorem ints_of_trod {H : Type} {enc : TypeId × Value → H} {w : World} {base : Nat} {spare : Nat → Bool} {held : Bool} {A : Option Addr} {n c : Nat} {d : DataW H} {p : List MemPlace}
    (h : DataW.Trod enc Tryd.prog w base spare held 100 (.slice A n c) d p) : ∃ xs : List Int, (Ints w w.heap.size A n c xs ∧ ∀ z ∈ xs, (Lit.int .i64 z).wf = true) ∧ c ≤ maxLen := by
  obtain ⟨fuel, hf⟩ := h
  rcases flat_slice (k := 1) (ts := [3]) Tryd.underlying100 (by kernel_rfl) hf with hcs | ⟨a, len, cap, hcs, hl, hm, hr⟩
  · simp [Value.cells] at hcs
    obtain ⟨rfl, rfl, rfl⟩ := hcs
    exact ⟨[], ⟨⟨rfl, Nat.le_refl _, Row.nil _ _ _⟩, fun z hz => (by cases hz)⟩, Nat.zero_le _⟩
  · simp [Value.cells] at hcs
    obtain ⟨rfl, rfl, rfl⟩ := hcs
    have hC : Tryd.prog.cellsOf 3 = 1 := by kernel_rfl
    rw [hC] at hr
    obtain ⟨l, h1, h2, h3⟩ := recs_of (cells := fun z : Int => [I64 z]) (s := 1) (n := n) (w := w) (a := a) (G := fun z => (Lit.int .i64 z).wf = true) (fun x => ⟨_, rfl⟩) (fun i hi => by
      obtain ⟨v0, c0, t0⟩ := hr i hi 0 _ rfl
      obtain ⟨z, rfl, hz⟩ := t0.int Tryd.underlying3
      refine ⟨z, fun j v hv => ?_, by simpa [Lit.wf, IntKind.min, IntKind.max, IntKind.signed, IntKind.bits] using hz⟩
      match j, hv with
      | 0, hv => injection hv with hv; subst hv; exact c0
      | j + 1, hv => simp at hv)
    refine ⟨l, ⟨⟨h1, hl, fun hn => ?_⟩, h3⟩, hm⟩
    obtain ⟨b, o, e, hb, hc⟩ := h2 (by simpa using hn)
    refine ⟨b, o, e, hb, fun j hj => ?_⟩
    have hjl : j < l.length := by simpa using hj
    have := hc j _ (List.getElem?_eq_getElem hjl) 0 _ rfl
    rw [show j * 1 + 0 = j by omega] at this
    rw [this, List.getElem?_map, List.getElem?_eq_getElem hjl]
    rfl
end Go.Proofs.YtibaibdgpnkdnaaDoor
end

section
namespace Go.Proofs.YtibaibdgpnkdnaaDoor
set_option maxRecDepth 100000
set_option linter.unusedSimpArgs false
set_option linter.unusedVariables false
open Go.RowKit

section
variable {P : Program}
theorem equalIn_func_nil (d : Nat) {t : TypeId} {ps rs : Array TypeId} {vr : Bool} (h : P.underlying t = some (.func ps rs vr)) (fn : Fn) (a b : Array Value) (w : World) : (Op.equalIn (d + 1) t (.func fn a b) .nilFunc).run P w = .ok false w := by
  simp [Op.equalIn, run_underlying h]
theorem equalIn_nil_nil (d : Nat) {t : TypeId} {ps rs : Array TypeId} {vr : Bool} (h : P.underlying t = some (.func ps rs vr)) (w : World) : (Op.equalIn (d + 1) t .nilFunc .nilFunc).run P w = .ok true w := by
  simp [Op.equalIn, run_underlying h]
theorem equal_func_nil {t : TypeId} {ps rs : Array TypeId} {vr : Bool} (h : P.underlying t = some (.func ps rs vr)) (fn : Fn) (a b : Array Value) (w : World) : (Op.equal t (.func fn a b) .nilFunc).run P w = .ok false w := equalIn_func_nil 9999 h fn a b w
theorem equal_nil_nil {t : TypeId} {ps rs : Array TypeId} {vr : Bool} (h : P.underlying t = some (.func ps rs vr)) (w : World) : (Op.equal t .nilFunc .nilFunc).run P w = .ok true w := equalIn_nil_nil 9999 h w
theorem eql_func_nil {t : TypeId} {ps rs : Array TypeId} {vr : Bool} (h : P.underlying t = some (.func ps rs vr)) (fn : Fn) (a b : Array Value) (w : World) : (binOp .eql t (.func fn a b) .nilFunc).run P w = .ok (.bool false) w := by
  simp only [binOp]
  simp [equal_func_nil h]
theorem neq_func_nil {t : TypeId} {ps rs : Array TypeId} {vr : Bool} (h : P.underlying t = some (.func ps rs vr)) (fn : Fn) (a b : Array Value) (w : World) : (binOp .neq t (.func fn a b) .nilFunc).run P w = .ok (.bool true) w := by
  simp only [binOp]
  simp [equal_func_nil h]
theorem eql_nil_nil {t : TypeId} {ps rs : Array TypeId} {vr : Bool} (h : P.underlying t = some (.func ps rs vr)) (w : World) : (binOp .eql t .nilFunc .nilFunc).run P w = .ok (.bool true) w := by
  simp only [binOp]
  simp [equal_nil_nil h]
theorem neq_nil_nil {t : TypeId} {ps rs : Array TypeId} {vr : Bool} (h : P.underlying t = some (.func ps rs vr)) (w : World) : (binOp .neq t .nilFunc .nilFunc).run P w = .ok (.bool false) w := by
  simp only [binOp]
  simp [equal_nil_nil h]
theorem neq_map_nil {t k e : TypeId} (h : P.underlying t = some (.map k e)) (m : Option Nat) (w : World) : (binOp .neq t (.map m) (.map none)).run P w = .ok (.bool (!m.isNone)) w := Go.run_neq_map_nil w t k e m h
theorem make_func (fn : Fn) (a b : Array Value) (w : World) : (Instr.makeFunc fn a b).run P w = .ok (.func fn a b) w := rfl
end
end Go.Proofs.YtibaibdgpnkdnaaDoor
end
