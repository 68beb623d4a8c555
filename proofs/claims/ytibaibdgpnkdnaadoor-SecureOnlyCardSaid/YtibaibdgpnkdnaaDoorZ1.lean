/-
  The texts that the claims of this seat lean on, part 2.
-/
import Derived.Test.YtibaibdgpnkdnaaDoorZ0
import Derived.Deep.MidRow
import Derived.BigQuiet
import Derived.Deep.Fields
import Derived.Deep.Matrix
import Derived.Test.YtibaibdgpnkdnaaDoorRows
import Derived.Lib.BytesEntry
import Derived.Lib.Bytealg

section
namespace Go.Proofs.YtibaibdgpnkdnaaDoor
set_option maxRecDepth 100000
set_option linter.unusedSimpArgs false
set_option linter.unusedVariables false
open Go.RowKit

/-- A known block. -/
structure Ent where
  g : Nat
  t : TypeId
  cs : Array Value
/-- A slice that may be appended to: elements of s cells each. -/
structure Osl where
  t : TypeId
  s : Nat
  A : Option Addr
  n : Nat
  c : Nat
  cs : List Value
/-- From world s to world w only blocks that meet R, and new ones, have turned; the blocks of L are known, the slices of O too; each of them may be written. -/
structure Mem (R : Nat → Prop) (s w : World) (L : List Ent) (O : List Osl) : Prop where
  only : Only R s w
  blk : ∀ e ∈ L, Blk w e.g e.t e.cs
  own : ∀ e ∈ L, R e.g ∨ s.heap.size ≤ e.g
  diff : (L.map (·.g)).Nodup
  sl : ∀ x ∈ O, Own w 0 x.t x.s x.A x.n x.c x.cs
  slR : ∀ x ∈ O, ∀ q, ownAt x.A x.c = some q → R q ∨ s.heap.size ≤ q
  slL : ∀ x ∈ O, ∀ e ∈ L, ownAt x.A x.c ≠ some e.g
  slO : O.Pairwise fun x y => ∀ q, ownAt x.A x.c = some q → ownAt y.A y.c ≠ some q
def oneT (P : Program) (ty : TypeId) : Bool := match P.underlying ty with
  | some (.struct _) => false
  | some (.array _ _) => false
  | some _ => true
  | none => false
def aggT (P : Program) (ty : TypeId) : Bool := match P.underlying ty with
  | some (.struct _) => true
  | some (.array _ _) => true
  | _ => false
def spl (cs : Array Value) (i : Nat) (vs : Array Value) : Array Value := (cs.toList.take i ++ vs.toList ++ cs.toList.drop (i + vs.size)).toArray

section
variable {R : Nat → Prop} {s w w' : World} {L : List Ent} {O : List Osl} {g n : Nat} {t : TypeId} {cs : Array Value}
theorem Own.only' {R : Nat → Prop} {base : Nat} {t : TypeId} {s : Nat} {A : Option Addr} {n c : Nat} {cs : List Value} (h : Own w base t s A n c cs) (ho : Only R w w') (hg : ∀ q, ownAt A c = some q → ¬ R q) : Own w' base t s A n c cs := by
  refine ⟨h.1, h.2.1, h.2.2.1, fun hc => ?_⟩
  obtain ⟨g, cur, e, hb, hh, r⟩ := h.2.2.2 hc
  exact ⟨g, cur, e, hb, (ho.block g (Array.getElem?_eq_some_iff.1 hh).1 (hg g (by unfold ownAt; rw [if_neg (by omega), e]; rfl))).trans hh, r⟩
theorem Mem.nil (R : Nat → Prop) (w : World) : Mem R w w [] [] := ⟨Only.refl R w, fun e he => (by cases he), fun e he => (by cases he), List.nodup_nil, fun e he => (by cases he), fun e he => (by cases he), fun e he => (by cases he), .nil⟩
theorem Mem.at_ (h : Mem R s w L O) (k : Nat) {e : Ent} (hk : L[k]? = some e) : Blk w e.g e.t e.cs := h.blk e (List.mem_of_getElem? hk)
theorem Mem.sl_ (h : Mem R s w L O) (k : Nat) {x : Osl} (hk : O[k]? = some x) : Own w 0 x.t x.s x.A x.n x.c x.cs := h.sl x (List.mem_of_getElem? hk)
theorem Mem.cons (h : Mem R s w L O) (hb : Blk w g t cs) (hR : R g ∨ s.heap.size ≤ g) (hd : ∀ e ∈ L, g ≠ e.g) (hs : ∀ x ∈ O, ownAt x.A x.c ≠ some g) : Mem R s w (⟨g, t, cs⟩ :: L) O :=
  { h with
    blk := fun e he => by
      rcases List.mem_cons.1 he with rfl | he
      · exact hb
      · exact h.blk e he
    own := fun e he => by
      rcases List.mem_cons.1 he with rfl | he
      · exact hR
      · exact h.own e he
    diff := by
      rw [List.map_cons, List.nodup_cons]
      refine ⟨fun hm => ?_, h.diff⟩
      obtain ⟨e, he, h1⟩ := List.mem_map.1 hm
      exact hd e he h1.symm
    slL := fun x hx e he => by
      rcases List.mem_cons.1 he with rfl | he
      · exact hs x hx
      · exact h.slL x hx e he }
theorem Mem.one (hb : Blk w g t cs) (hR : R g) : Mem R w w [⟨g, t, cs⟩] [] := (Mem.nil R w).cons hb (.inl hR) (fun e he => by cases he) (fun e he => by cases he)
theorem Mem.drewN (h : Mem R s w L O) (k : Nat) : Mem R s (w.drewN k) L O := { h with only := h.only.drewN k }
theorem Mem.drew (h : Mem R s w L O) : Mem R s w.drew L O := { h with only := h.only.drew }
theorem Mem.alloc (h : Mem R s w L O) (o : Obj) : Mem R s (w.alloc o) L O := { h with only := h.only.alloc o, blk := fun e he => (h.blk e he).alloc o, sl := fun x hx => (h.sl x hx).alloc o }
theorem Mem.lt (h : Mem R s w L O) {e : Ent} (he : e ∈ L) : e.g < w.heap.size := (h.blk e he).lt
theorem Mem.slt (h : Mem R s w L O) {x : Osl} (hx : x ∈ O) {q : Nat} (hq : ownAt x.A x.c = some q) : q < w.heap.size := ((h.sl x hx).lt q hq).2
/-- A new block. -/
theorem Mem.made (h : Mem R s w L O) (t : TypeId) (cs : Array Value) : Mem R s (w.alloc (.cells cs t)) (⟨w.heap.size, t, cs⟩ :: L) O :=
  (h.alloc _).cons (Blk.new w t cs) (.inr h.only.size) (fun e he e1 => by have := h.lt he; omega) (fun x hx e1 => by have := h.slt hx e1; omega)
theorem Only.more (h : Only R s w) {R' : Nat → Prop} (ho : Only R' w w') (hR : ∀ q, q < w.heap.size → R' q → R q ∨ s.heap.size ≤ q) : Only R s w' :=
  ⟨ho.os.trans h.os, ho.tape.trans h.tape, ho.output.trans h.output, Nat.le_trans h.size ho.size, fun k hk hn =>
      (ho.block k (Nat.lt_of_lt_of_le hk h.size) (fun hr => by
        rcases hR k (Nat.lt_of_lt_of_le hk h.size) hr with h1 | h1
        · exact hn h1
        · omega)).trans (h.block k hk hn)⟩
/-- A step that turns other blocks only. -/
theorem Mem.step {R' : Nat → Prop} (h : Mem R s w L O) (ho : Only R' w w') (hR : ∀ q, q < w.heap.size → R' q → R q ∨ s.heap.size ≤ q) (hd : ∀ e ∈ L, ¬ R' e.g) (hs : ∀ x ∈ O, ∀ q, ownAt x.A x.c = some q → ¬ R' q) : Mem R s w' L O :=
  { h with only := h.only.more ho hR, blk := fun e he => (h.blk e he).only ho (hd e he), sl := fun x hx => (h.sl x hx).only' ho (hs x hx) }
/-- A step that makes only. -/
theorem Mem.below (h : Mem R s w L O) (hb : Below w.heap.size w w') : Mem R s w' L O := h.step (R' := fun _ => False) (Only.of_below hb) (fun _ _ e => e.elim) (fun _ _ e => e) (fun _ _ _ _ e => e)
/-- A step that turns known blocks too. -/
theorem Mem.turn {R' : Nat → Prop} {L' : List Ent} (h : Mem R s w L O) (ho : Only R' w w') (hR : ∀ q, q < w.heap.size → R' q → R q ∨ s.heap.size ≤ q) (hg : L'.map (·.g) = L.map (·.g)) (hb : ∀ e ∈ L', Blk w' e.g e.t e.cs) (hs : ∀ x ∈ O, ∀ q, ownAt x.A x.c = some q → ¬ R' q) : Mem R s w' L' O :=
  { only := h.only.more ho hR
    blk := hb
    own := fun e he => by
      have : e.g ∈ L.map (·.g) := by rw [← hg]; exact List.mem_map_of_mem he
      obtain ⟨e2, h2, h3⟩ := List.mem_map.1 this
      rw [← h3]; exact h.own e2 h2
    diff := by rw [hg]; exact h.diff
    sl := fun x hx => (h.sl x hx).only' ho (hs x hx)
    slR := h.slR
    slL := fun x hx e he => by
      have : e.g ∈ L.map (·.g) := by rw [← hg]; exact List.mem_map_of_mem he
      obtain ⟨e2, h2, h3⟩ := List.mem_map.1 this
      rw [← h3]; exact h.slL x hx e2 h2
    slO := h.slO }
/-- A slice more. -/
theorem Mem.more {x : Osl} (h : Mem R s w L O) (hx : Own w 0 x.t x.s x.A x.n x.c x.cs) (hR : ∀ q, ownAt x.A x.c = some q → R q ∨ s.heap.size ≤ q) (hL : ∀ e ∈ L, ownAt x.A x.c ≠ some e.g) (hO : ∀ y ∈ O, ∀ q, ownAt y.A y.c = some q → ownAt x.A x.c ≠ some q) : Mem R s w L (O ++ [x]) :=
  { h with
    sl := fun y hy => by
      rcases List.mem_append.1 hy with hy | hy
      · exact h.sl y hy
      · obtain rfl := List.mem_singleton.1 hy; exact hx
    slR := fun y hy => by
      rcases List.mem_append.1 hy with hy | hy
      · exact h.slR y hy
      · obtain rfl := List.mem_singleton.1 hy; exact hR
    slL := fun y hy => by
      rcases List.mem_append.1 hy with hy | hy
      · exact h.slL y hy
      · obtain rfl := List.mem_singleton.1 hy; exact hL
    slO := by
      rw [List.pairwise_append]
      refine ⟨h.slO, List.pairwise_singleton _ _, fun y hy z hz q e => ?_⟩
      obtain rfl := List.mem_singleton.1 hz
      exact hO y hy q e }
/-- A slice without room. -/
theorem Mem.empty (h : Mem R s w L O) (t : TypeId) (k : Nat) (A : Option Addr) : Mem R s w L (O ++ [⟨t, k, A, 0, 0, []⟩]) :=
  h.more (Own.none_ _ _ _ _ _) (fun q e => by cases e) (fun e _ e1 => by cases e1) (fun y _ q _ e => by cases e)
/-- A slice that a call has made. -/
theorem Mem.got {t : TypeId} {k : Nat} {A : Option Addr} {n c : Nat} {cs : List Value} (h : Mem R s w L O) (hb : Below w.heap.size w w') (hx : Own w' w.heap.size t k A n c cs) : Mem R s w' L (O ++ [⟨t, k, A, n, c, cs⟩]) :=
  (h.below hb).more (hx.mono (Nat.zero_le _)) (fun q e => .inr (Nat.le_trans h.only.size (hx.lt q e).1)) (fun e he e1 => by have := (hx.lt _ e1).1; have := h.lt he; omega) (fun y hy q e e1 => by have := (hx.lt _ e1).1; have := h.slt hy e; omega)
theorem Mem.less {x : Osl} (h : Mem R s w L (O ++ [x])) : Mem R s w L O :=
  { h with
    sl := fun y hy => h.sl y (List.mem_append_left _ hy)
    slR := fun y hy => h.slR y (List.mem_append_left _ hy)
    slL := fun y hy => h.slL y (List.mem_append_left _ hy)
    slO := (List.pairwise_append.1 h.slO).1 }
theorem setCells_turn (w : World) (b o : Nat) (vs : List Value) : (w.setCells b o vs).os = w.os ∧ (w.setCells b o vs).tape = w.tape ∧ (w.setCells b o vs).output = w.output ∧ (w.setCells b o vs).heap.size = w.heap.size ∧ ∀ k, k ≠ b → (w.setCells b o vs).heap[k]? = w.heap[k]? := by
  induction vs generalizing w o with
  | nil => exact ⟨rfl, rfl, rfl, rfl, fun _ _ => rfl⟩
  | cons v r ih =>
    obtain ⟨h1, h2, h3, h4, h5⟩ := ih (w.setCell ⟨b, o, none⟩ v) (o + 1)
    refine ⟨h1, h2, h3, h4.trans (by simp [World.setCell]), fun k hk => (h5 k hk).trans (Below.heap_setCell w ⟨b, o, none⟩ v k hk)⟩
theorem set_spl (l : List Value) (i : Nat) (v : Value) (r : List Value) (hl : i < l.length) : (l.set i v).take (i + 1) ++ r.toArray.toList ++ (l.set i v).drop (i + 1 + r.toArray.size) = l.take i ++ (v :: r).toArray.toList ++ l.drop (i + (v :: r).toArray.size) := by
  obtain ⟨A, x, B, rfl, rfl⟩ : ∃ A x B, l = A ++ x :: B ∧ i = A.length := ⟨l.take i, l[i], l.drop (i + 1), by simp, by simp; omega⟩
  have e : (A ++ x :: B).set A.length v = A ++ v :: B := by simp
  rw [e]
  have h1 : (A ++ v :: B).take (A.length + 1) = A ++ [v] := by rw [List.take_append]; simp [List.take_of_length_le]
  have h2 : (A ++ v :: B).drop (A.length + 1 + r.toArray.size) = B.drop r.length := by simp [List.drop_append, Nat.add_assoc, Nat.add_comm 1]
  have h3 : (A ++ x :: B).drop (A.length + (v :: r).toArray.size) = B.drop r.length := by simp [List.drop_append]
  rw [h1, h2, h3]
  simp
theorem Blk.setCells (h : Blk w g t cs) (i : Nat) (vs : List Value) (hi : i + vs.length ≤ cs.size) : Blk (w.setCells g i vs) g t (spl cs i vs.toArray) := by
  induction vs generalizing w i cs with
  | nil =>
    have : spl cs i (#[] : Array Value) = cs := by
      simp only [spl, List.size_toArray, List.length_nil, Nat.add_zero, List.append_nil, List.take_append_drop, Array.toArray_toList]
    show Blk w g t _
    rw [show ([] : List Value).toArray = #[] from rfl, this]; exact h
  | cons v r ih =>
    have h1 := ih (h.set i v) (i + 1) (by simp at hi ⊢; omega)
    have : spl (cs.setIfInBounds i v) (i + 1) r.toArray = spl cs i (v :: r).toArray := by
      have hl : i < cs.toList.length := by simp at hi ⊢; omega
      unfold spl
      rw [Array.toList_setIfInBounds]
      congr 1
      exact set_spl cs.toList i v r hl
    rw [← this]; exact h1
/-- A step that turns one known block. -/
theorem Mem.put {cs' : Array Value} (h : Mem R s w L O) (k : Nat) (hk : L[k]? = some ⟨g, t, cs⟩) (ho : Only (fun q => q = g) w w') (hb : Blk w' g t cs') : Mem R s w' (L.set k ⟨g, t, cs'⟩) O := by
  have hkl : k < L.length := (List.getElem?_eq_some_iff.1 hk).1
  have hmem : (⟨g, t, cs⟩ : Ent) ∈ L := List.mem_of_getElem? hk
  have hmap : (L.set k ⟨g, t, cs'⟩).map (·.g) = L.map (·.g) := by
    apply List.ext_getElem?
    intro j
    rw [List.getElem?_map, List.getElem?_map, List.getElem?_set]
    split
    · rename_i hjk; subst hjk; rw [hk]; simp [hkl]
    · rfl
  refine h.turn (R' := fun q => q = g) ho (fun q _ e => by have e : q = g := e; rw [e]; exact h.own _ hmem) hmap ?_ (fun x hx q e e2 => by have e2 : q = g := e2; subst e2; exact h.slL x hx _ hmem e)
  intro e he
  rcases List.mem_or_eq_of_mem_set he with he | rfl
  · by_cases hg : e.g = g
    · obtain ⟨p, hp⟩ := List.getElem?_of_mem ‹e ∈ L.set k _›
      rw [List.getElem?_set] at hp
      split at hp
      · injection hp with hp; subst hp; exact hb
      · rename_i hkp
        exfalso
        have hpl : p < L.length := (List.getElem?_eq_some_iff.1 hp).1
        have e1 : (L.map (·.g))[p]? = some g := by rw [List.getElem?_map, hp]; simp [hg]
        have e2 : (L.map (·.g))[k]? = some g := by rw [List.getElem?_map, hk]; rfl
        obtain ⟨a1, a2⟩ := List.getElem?_eq_some_iff.1 e1
        obtain ⟨b1, b2⟩ := List.getElem?_eq_some_iff.1 e2
        exact hkp ((List.getElem_inj h.diff).1 (b2.trans a2.symm))
    · exact (ho.block e.g (h.blk e he).lt hg).trans (h.blk e he)
  · exact hb
theorem Mem.set (h : Mem R s w L O) (k : Nat) (hk : L[k]? = some ⟨g, t, cs⟩) (i : Nat) (vs : List Value) (hi : i + vs.length ≤ cs.size) : Mem R s (w.setCells g i vs) (L.set k ⟨g, t, spl cs i vs.toArray⟩) O := by
  obtain ⟨h1, h2, h3, h4, h5⟩ := setCells_turn w g i vs
  exact h.put k hk ⟨h1, h2, h3, Nat.le_of_eq h4.symm, fun q _ hn => h5 q hn⟩ ((h.at_ k hk).setCells i vs hi)
end

section
variable {P : Program} {ops : Array Oper} {rest : List Oper} {o : Oper} {a : Act} {w s : World} {Q : Exit → Act → World → Prop} {R : Nat → Prop} {L : List Ent} {O : List Osl} {g i : Nat} {t : TypeId} {cs : Array Value}
theorem wpList_go (hw : Region.wanted o (yielded ops a.tmps) = true) (h : o.wp P a w (wpList P ops Q rest) Q) : wpList P ops Q (o :: rest) a w := by
  unfold wpList; rw [if_pos hw]; exact .inl h
theorem run_load1 {ty : TypeId} (hb : Blk w g t cs) (hT : oneT P ty = true) {v : Value} (hv : cs[i]? = some v) : (Instr.loadAt ty (.pointer (some ⟨g, i, none⟩))).run P w = .ok v w := by
  have hc : w.cell? ⟨g, i, none⟩ = some v := (hb.cell i).trans hv
  have hagg : (isAgg ty).run P w = .ok false w := by
    unfold oneT at hT
    cases hu : P.underlying ty with
    | none => rw [hu] at hT; cases hT
    | some d =>
      unfold isAgg
      rw [Sem.run_bind, run_underlying hu w]
      cases d <;> simp_all
  simp [Instr.loadAt, Instr.sureAddr, loadVar, Sem.run_bind, hagg, hc]
theorem run_loadN {ty : TypeId} (hb : Blk w g t cs) (hT : aggT P ty = true) {n : Nat} (hn : (P.info? ty).map (·.size) = some n) (hin : i + n ≤ cs.size) {vs : Array Value} (hv : ((cs.toList.drop i).take n).toArray = vs) : (Instr.loadAt ty (.pointer (some ⟨g, i, none⟩))).run P w = .ok (.agg vs) w := by
  subst hv
  unfold aggT at hT
  cases hu : P.underlying ty with
  | none => rw [hu] at hT; cases hT
  | some d =>
    refine run_loadAt_mid w g i ty ((cs.toList.drop i).take n) d (fun j v hj => ?_) hu (by rw [hu] at hT; cases d <;> simp_all) (by rw [hn, List.length_take, List.length_drop, Array.length_toList, Nat.min_eq_left (by omega)])
    rw [hb.cell]
    rw [List.getElem?_take] at hj
    split at hj
    · rw [List.getElem?_drop] at hj; simpa using hj
    · cases hj
theorem run_storeN {ty : TypeId} (hb : Blk w g t cs) {v : Value} {vs : Array Value} (hc : v.cells = vs) (hi : (P.info? ty).map (·.size) = some vs.size) (h1 : vs.all (·.oneCell') = true) (hin : i + vs.size ≤ cs.size) :
    (Instr.storeAt ty (.pointer (some ⟨g, i, none⟩)) v).run P w = .ok () (w.setCells g i vs.toList) := by
  have ht : w.there g i vs.size := fun j hj => ⟨by rw [hb.cell, Array.getElem?_eq_getElem (by omega)]; rfl, hb.frozen _⟩
  have := run_storeCells_cells (P := P) g i vs.toList 0 w (fun j hj => by simpa using (ht j (by simpa using hj)).1) (fun j hj => by simpa using (ht j (by simpa using hj)).2)
    (fun v hv => (Array.all_eq_true_iff_forall_mem.1 h1) v (by simpa using hv))
  cases hq : P.info? ty with
  | none => simp [hq] at hi
  | some d =>
    have hs : vs.size = d.size := by simp [hq] at hi; omega
    simp only [Nat.add_zero] at this
    simp only [Instr.storeAt, Instr.sureAddr, Sem.run_bind, Sem.run_pure, Result.andThen_ok]
    simp [storeVar, sizeOf, typeInfo, hq, hc, hs, this]

/-- A load of one cell. -/
theorem wpList_ld (hw : Region.wanted o (yielded ops a.tmps) = true) (ty : TypeId) (x : Operand) (ho : o.op = .load ty x) (g i : Nat) (hx : a.eval x = .pointer (some ⟨g, i, none⟩))
    (hm : Mem R s w L O) (k : Nat) (t : TypeId) (cs : Array Value) (hk : L[k]? = some ⟨g, t, cs⟩) (hT : oneT P ty = true) (v : Value) (hv : cs[i]? = some v)
    (h : wpList P ops Q rest (a.put o.dst v) w) : wpList P ops Q (o :: rest) a w := by
  refine wpList_go hw ?_
  unfold Oper.wp execOp
  simp only [ho, hx, Sem.run_bind, run_load1 (hm.at_ k hk) hT hv, Sem.run_pure, Result.andThen_ok]
  exact h
/-- A load of a struct. -/
theorem wpList_la (hw : Region.wanted o (yielded ops a.tmps) = true) (ty : TypeId) (x : Operand) (ho : o.op = .load ty x) (g i : Nat) (hx : a.eval x = .pointer (some ⟨g, i, none⟩))
    (hm : Mem R s w L O) (k : Nat) (t : TypeId) (cs : Array Value) (hk : L[k]? = some ⟨g, t, cs⟩) (z : Array Value) (hz : (P.info? ty).bind (·.zero) = some (.agg z)) (hT : aggT P ty = true) (hn : (P.info? ty).map (·.size) = some z.size) (hin : i + z.size ≤ cs.size) (vs : Array Value) (hv : ((cs.toList.drop i).take z.size).toArray = vs)
    (h : wpList P ops Q rest (a.put o.dst (.agg vs)) w) : wpList P ops Q (o :: rest) a w := by
  refine wpList_go hw ?_
  unfold Oper.wp execOp
  simp only [ho, hx, Sem.run_bind, run_loadN (hm.at_ k hk) hT hn hin hv, Sem.run_pure, Result.andThen_ok]
  exact h
/-- A store. -/
theorem wpList_st (hw : Region.wanted o (yielded ops a.tmps) = true) (ty : TypeId) (x y : Operand) (ho : o.op = .store ty x y) (g i : Nat) (hx : a.eval x = .pointer (some ⟨g, i, none⟩)) (v : Value) (hy : a.eval y = v)
    (hm : Mem R s w L O) (k : Nat) (t : TypeId) (cs : Array Value) (hk : L[k]? = some ⟨g, t, cs⟩) (vs : Array Value) (hc : v.cells = vs) (hi : (P.info? ty).map (·.size) = some vs.size) (h1 : vs.all (·.oneCell') = true) (hin : i + vs.size ≤ cs.size)
    (L' : List Ent) (hL : L.set k ⟨g, t, spl cs i vs⟩ = L')
    (h : ∀ w1, w.heap.size ≤ w1.heap.size → Mem R s w1 L' O → Only (fun q => q = g) w w1 → wpList P ops Q rest (a.put o.dst undef) w1) : wpList P ops Q (o :: rest) a w := by
  subst hL
  refine wpList_go hw ?_
  unfold Oper.wp execOp
  simp only [ho, hx, hy, Sem.run_bind, run_storeN (hm.at_ k hk) hc hi h1 hin, Sem.run_pure, Result.andThen_ok]
  obtain ⟨e1, e2, e3, e4, e5⟩ := setCells_turn w g i vs.toList
  exact h _ (Nat.le_of_eq e4.symm) (hm.set k hk i vs.toList (by simpa using hin)) ⟨e1, e2, e3, Nat.le_of_eq e4.symm, fun q _ hn => e5 q hn⟩
theorem Mem.snoc (hm : Mem R s w L O) (t : TypeId) (cs : Array Value) : Mem R s (w.alloc (.cells cs t)) (L ++ [⟨w.heap.size, t, cs⟩]) O := by
  have h1 := hm.made t cs
  have hin : ∀ e, e ∈ L ++ [⟨w.heap.size, t, cs⟩] → e ∈ (⟨w.heap.size, t, cs⟩ : Ent) :: L := fun e he => by
    rcases List.mem_append.1 he with he | he
    · exact List.mem_cons_of_mem _ he
    · rw [List.mem_singleton.1 he]; exact List.mem_cons_self
  refine { h1 with blk := fun e he => h1.blk e (hin e he), own := fun e he => h1.own e (hin e he), diff := ?_, slL := fun x hx e he => h1.slL x hx e (hin e he) }
  have h2 := h1.diff
  rw [List.map_cons, List.nodup_cons] at h2
  rw [List.map_append, List.nodup_append]
  refine ⟨h2.2, by simp, fun x hx y hy => ?_⟩
  simp only [List.map_cons, List.map_nil, List.mem_singleton] at hy
  subst hy
  exact fun e => h2.1 (e ▸ hx)
/-- A new variable. -/
theorem wpList_al (hw : Region.wanted o (yielded ops a.tmps) = true) (ty : TypeId) (ho : o.op = .alloc ty) (z : Value) (hz : (P.info? ty).bind (·.zero) = some z) (cs : Array Value) (hc : z.cells = cs)
    (hm : Mem R s w L O) (h : ∀ n w1, w.heap.size ≤ n → w.heap.size ≤ w1.heap.size → Mem R s w1 (L ++ [⟨n, ty, cs⟩]) O → Below w.heap.size w w1 → wpList P ops Q rest (a.put o.dst (.pointer (some ⟨n, 0, none⟩))) w1) : wpList P ops Q (o :: rest) a w := by
  refine wpList_go hw ?_
  subst hc
  cases hq : P.info? ty with
  | none => simp [hq] at hz
  | some d =>
    have hd : d.zero = some z := by simpa [hq] using hz
    have hrun : (Instr.alloc ty true (.tuple #[])).run P w = .ok (.pointer (some ⟨w.heap.size, 0, none⟩)) (w.alloc (.cells z.cells ty)) := by
      simp [Instr.alloc, zeroValue, typeInfo, hq, hd, newVar, newRow]
    unfold Oper.wp execOp
    simp only [ho, Sem.run_bind, hrun, Sem.run_pure, Result.andThen_ok]
    exact h w.heap.size _ (Nat.le_refl _) (by simp) (hm.snoc ty _) ((Below.refl _ _).alloc (Nat.le_refl _) _)
/-- A new variable with a value. -/
theorem wpList_bx (hw : Region.wanted o (yielded ops a.tmps) = true) (ty : TypeId) (x : Operand) (ho : o.op = .box ty x) (v : Value) (hx : a.eval x = v) (cs : Array Value) (hc : v.cells = cs)
    (hm : Mem R s w L O) (h : ∀ n w1, w.heap.size ≤ n → w.heap.size ≤ w1.heap.size → Mem R s w1 (L ++ [⟨n, ty, cs⟩]) O → Below w.heap.size w w1 → wpList P ops Q rest (a.put o.dst (.pointer (some ⟨n, 0, none⟩))) w1) : wpList P ops Q (o :: rest) a w := by
  refine wpList_go hw ?_
  subst hc
  subst hx
  have hrun : (Instr.box ty (a.eval x)).run P w = .ok (.pointer (some ⟨w.heap.size, 0, none⟩)) (w.alloc (.cells (a.eval x).cells ty)) := by
    simp [Instr.box, newVar, newRow]
  unfold Oper.wp execOp
  simp only [ho, Sem.run_bind, hrun, Sem.run_pure, Result.andThen_ok]
  exact h w.heap.size _ (Nat.le_refl _) (by simp) (hm.snoc ty _) ((Below.refl _ _).alloc (Nat.le_refl _) _)
/-- A block that the walk has made by itself. -/
theorem wpList_up {l : List Oper} (hm : Mem R s w L O) (h : ∀ n w1, n = w.heap.size → s.heap.size ≤ n → Blk w1 n t cs → Mem R s w1 L O → (∀ e ∈ L, e.g ≠ n) → (∀ x ∈ O, ownAt x.A x.c ≠ some n) → Below w.heap.size w w1 → wpList P ops Q l a w1) : wpList P ops Q l a (w.alloc (.cells cs t)) :=
  h w.heap.size _ rfl hm.only.size (Blk.new w t cs) (hm.alloc _) (fun e he => by have := hm.lt he; omega) (fun x hx e => by have := hm.slt hx e; omega) ((Below.refl _ _).alloc (Nat.le_refl _) _)
/-- A slice over a new block. -/
theorem Mem.row {n : Nat} (h : Mem R s w L O) (hk : Blk w n t cs) (hn : s.heap.size ≤ n) (hd : ∀ e ∈ L, e.g ≠ n) (hd2 : ∀ x ∈ O, ownAt x.A x.c ≠ some n) (k m : Nat) (l : List Value) (hl : cs.toList = l) (hlen : l.length = m * k) (hmax : m ≤ maxLen) : Mem R s w L (O ++ [⟨t, k, some ⟨n, 0, none⟩, m, m, l⟩]) := by
  subst hl
  have hs : m * k = cs.size := by simpa using hlen.symm
  have hown : Own w 0 t k (some ⟨n, 0, none⟩) m m cs.toList := ⟨hlen, Nat.le_refl _, hmax, fun _ => ⟨n, cs, rfl, Nat.zero_le _, hk, by omega, by rw [hs]; exact List.take_of_length_le (by simp)⟩⟩
  have hq : ∀ q, ownAt (some ⟨n, 0, none⟩) m = some q → q = n := fun q e => by
    unfold ownAt at e
    split at e
    · cases e
    · simpa using e.symm
  exact h.more hown (fun q e => .inr (hq q e ▸ hn)) (fun e he e1 => hd e he (hq _ e1)) (fun y hy q e e1 => hd2 y hy (by rw [e, hq _ e1]))
/-- An append onto a slice that the call may write. -/
theorem Mem.app {w' : World} {t : TypeId} {s' : Nat} {A : Option Addr} {n c : Nat} {cs news : List Value} {m : Nat} {A2 : Option Addr} {c2 : Nat} (hm : Mem R s w L O) (k : Nat) (hk : O[k]? = some ⟨t, s', A, n, c, cs⟩)
    (h2 : Own w' 0 t s' A2 m c2 news) (h3 : Only (fun q => ownAt A c = some q) w w') (h4 : ownAt A2 c2 = ownAt A c ∨ ownAt A2 c2 = some w.heap.size) : Mem R s w' L (O.set k ⟨t, s', A2, m, c2, news⟩) := by
  have hmem : (⟨t, s', A, n, c, cs⟩ : Osl) ∈ O := List.mem_of_getElem? hk
  have hkl : k < O.length := (List.getElem?_eq_some_iff.1 hk).1
  have hk2 : O[k] = ⟨t, s', A, n, c, cs⟩ := (List.getElem?_eq_some_iff.1 hk).2
  have hq2 : ∀ q, ownAt A2 c2 = some q → ownAt A c = some q ∨ q = w.heap.size := fun q e => by
    rcases h4 with h4 | h4
    · exact .inl (h4 ▸ e)
    · rw [h4] at e; injection e with e; exact .inr e.symm
  -- the other slices lie elsewhere
  have hoth : ∀ (i : Nat) (hi : i < O.length), i ≠ k → ∀ q, ownAt O[i].A O[i].c = some q → ownAt A c ≠ some q := fun i hi hne q e e2 => by
    have hp := List.pairwise_iff_getElem.1 hm.slO
    rcases Nat.lt_or_gt_of_ne hne with h | h
    · exact hp i k hi hkl h q e (by rw [hk2]; exact e2)
    · exact hp k i hkl hi h q (by rw [hk2]; exact e2) e
  have hel : ∀ (i : Nat) (hi : i < O.length), i ≠ k → Own w' 0 O[i].t O[i].s O[i].A O[i].n O[i].c O[i].cs := fun i hi hne => (hm.sl _ (List.getElem_mem hi)).only' h3 (fun q e e2 => hoth i hi hne q e e2)
  have hget : ∀ (i : Nat) (hi : i < (O.set k ⟨t, s', A2, m, c2, news⟩).length), (O.set k ⟨t, s', A2, m, c2, news⟩)[i] = if k = i then ⟨t, s', A2, m, c2, news⟩ else O[i]'(by simpa using hi) := fun i hi => List.getElem_set hi
  have hall : ∀ {p : Osl → Prop}, p ⟨t, s', A2, m, c2, news⟩ → (∀ (i : Nat) (hi : i < O.length), i ≠ k → p O[i]) → ∀ x ∈ O.set k ⟨t, s', A2, m, c2, news⟩, p x := fun {p} h0 h1 x hx => by
    obtain ⟨i, hi, rfl⟩ := List.getElem_of_mem hx
    rw [hget i hi]
    split
    · exact h0
    · rename_i hne; exact h1 i _ (fun e => hne e.symm)
  refine { only := hm.only.more h3 (fun q _ e => hm.slR _ hmem q e), blk := fun e he => (hm.blk e he).only h3 (hm.slL _ hmem e he), own := hm.own, diff := hm.diff, sl := ?_, slR := ?_, slL := ?_, slO := ?_ }
  · exact hall (p := fun x => Own w' 0 x.t x.s x.A x.n x.c x.cs) h2 hel
  · refine hall (p := fun x => ∀ q, ownAt x.A x.c = some q → R q ∨ s.heap.size ≤ q) (fun q e => ?_) (fun i hi hne => hm.slR _ (List.getElem_mem hi))
    rcases hq2 q e with h | h
    · exact hm.slR _ hmem q h
    · exact .inr (h ▸ hm.only.size)
  · refine hall (p := fun x => ∀ e ∈ L, ownAt x.A x.c ≠ some e.g) (fun e he e1 => ?_) (fun i hi hne => hm.slL _ (List.getElem_mem hi))
    rcases hq2 _ e1 with h | h
    · exact hm.slL _ hmem e he h
    · have := hm.lt he; omega
  · rw [List.pairwise_iff_getElem]
    intro i j hi hj hij q e1 e2
    rw [hget i hi] at e1
    rw [hget j hj] at e2
    have hi' : i < O.length := by simpa using hi
    have hj' : j < O.length := by simpa using hj
    split at e1
    · rename_i hki
      rw [if_neg (by omega)] at e2
      rcases hq2 q e1 with h | h
      · exact hoth j hj' (by omega) q e2 h
      · have := hm.slt (List.getElem_mem hj') e2; omega
    · rename_i hki
      split at e2
      · rcases hq2 q e2 with h | h
        · exact hoth i hi' (by omega) q e1 h
        · have := hm.slt (List.getElem_mem hi') e1; omega
      · exact List.pairwise_iff_getElem.1 hm.slO i j hi' hj' hij q e1 e2
theorem wpList_ap (hw : Region.wanted o (yielded ops a.tmps) = true) (x y : Operand) (t : TypeId)
    (ho : o.op = .call { callee := .builtin .append, args := #[x, y], argTypes := #[t, t] }) (e : TypeId) (i : TypeInfo) (z : Value) (s' bytes : Nat) (ht : P.underlying t = some (.slice e)) (hi : P.info? e = some i) (hz : i.zero = some z)
    (hsize : i.size = s') (hby : i.bytes = bytes) (hzs : z.cells.size = s') (hsz : 0 < s')
    (A : Option Addr) (n c : Nat) (cs : List Value) (hx : a.eval x = .slice A n c) (hm : Mem R s w L O) (k : Nat) (hk : O[k]? = some ⟨e, s', A, n, c, cs⟩)
    (B : Nat) (A' : Option Addr) (m c' : Nat) (news : List Value) (hy : a.eval y = .slice A' m c') (hr : Row w B A' news) (hl : news.length = m * s') (h1 : ∀ u ∈ news, u.oneCell' = true)
    (h63 : n + m ≤ maxLen) (hbytes : (n + m) * bytes ≤ 140737488355328)
    (h : ∀ A2 c2 w1, Mem R s w1 L (O.set k ⟨e, s', A2, n + m, c2, cs ++ news⟩) → Only (fun q => ownAt A c = some q) w w1 → (ownAt A2 c2 = ownAt A c ∨ ∃ q, ownAt A2 c2 = some q ∧ w.heap.size ≤ q) → wpList P ops Q rest (a.put o.dst (.slice A2 (n + m) c2)) w1) : wpList P ops Q (o :: rest) a w := by
  refine wpList_go hw (wp_append w x y t ho 0 e i z s' bytes ht hi hz hsize hby hzs hsz A n c cs hx (hm.sl_ k hk) B A' m c' news hy hr hl h1 h63 hbytes (Nat.zero_le _) ?_)
  intro A2 c2 w2 h2 h3 h4
  have ho2 : Only (fun q => ownAt A c = some q) w w2 := (Only.refl _ _).grown h3 (fun k e => e)
  exact h A2 c2 w2 (hm.app k hk h2 ho2 h4) ho2 (h4.imp_right fun e => ⟨_, e, Nat.le_refl _⟩)
/-- A load of one cell in a quiet region. -/
theorem wpQuiet_ld {Q : Act → Prop} (hw : Region.wanted o (yielded ops a.tmps) = true) (ty : TypeId) (x : Operand) (ho : o.op = .load ty x) (g i : Nat) (hx : a.eval x = .pointer (some ⟨g, i, none⟩))
    (hm : Mem R s w L O) (k : Nat) (t : TypeId) (cs : Array Value) (hk : L[k]? = some ⟨g, t, cs⟩) (hT : oneT P ty = true) (v : Value) (hv : cs[i]? = some v)
    (h : wpQuiet P ops (fun w' => ∃ k, w' = w.drewN k) Q rest (a.put o.dst v)) : wpQuiet P ops (fun w' => ∃ k, w' = w.drewN k) Q (o :: rest) a := by
  refine BigFrame.wpQuiet_want hw (fun K hK => ⟨v, fun w' hw' => ?_, hK _ h⟩)
  obtain ⟨d, rfl⟩ := hw'
  have hb : Blk (w.drewN d) g t cs := (hm.at_ k hk).drewN d
  unfold Oper.quietAt execOp
  simp only [ho, hx, Sem.run_bind, run_load1 hb hT hv, Sem.run_pure, Result.andThen_ok]
  first | exact ⟨trivial, d, rfl⟩ | exact ⟨rfl, d, rfl⟩ | exact ⟨rfl, rfl⟩ | exact rfl
/-- What a region that draws its order may count on. -/
def MemS (R : Nat → Prop) (s : World) (L : List Ent) (O : List Osl) (u : World) : Prop := Mem R s u L O
theorem MemS.of (h : Mem R s w L O) : MemS R s L O w := h
theorem MemS.mem (h : MemS R s L O w) : Mem R s w L O := h
/-- A load of one cell, in whatever world. -/
theorem MemS.ld (h : MemS R s L O w) (ty : TypeId) (x : Operand) (ho : o.op = .load ty x) (g i : Nat) (hx : a.eval x = .pointer (some ⟨g, i, none⟩)) (k : Nat) (t : TypeId) (cs : Array Value) (hk : L[k]? = some ⟨g, t, cs⟩) (hT : oneT P ty = true) (v : Value) (hv : cs[i]? = some v) :
    (execOp a.eval o).run P w = .ok (.value v) w := by
  unfold execOp
  simp only [ho, hx, Sem.run_bind, run_load1 (h.mem.at_ k hk) hT hv, Sem.run_pure, Result.andThen_ok]
end
end Go.Proofs.YtibaibdgpnkdnaaDoor
end

section
namespace Go.Proofs.YtibaibdgpnkdnaaDoor
set_option maxRecDepth 100000
set_option linter.unusedSimpArgs false
set_option linter.unusedVariables false
open Go.RowKit
section
variable {P : Program} {ops : Array Oper} {o : Oper} {a : Act} {w s : World} {Q : Exit → Act → World → Prop} {K : Act → World → Prop} {E : Prop} {R : Nat → Prop} {L : List Ent} {O : List Osl} {g i : Nat} {t : TypeId} {cs : Array Value}
/-- A load of one cell, in whatever world in which the block is known. -/
theorem exec_ld (hb : Blk w g t cs) (ty : TypeId) (x : Operand) (ho : o.op = .load ty x) (hx : a.eval x = .pointer (some ⟨g, i, none⟩)) (hT : oneT P ty = true) (v : Value) (hv : cs[i]? = some v) :
    (execOp a.eval o).run P w = .ok (.value v) w := by
  unfold execOp
  simp only [ho, hx, Sem.run_bind, run_load1 hb hT hv, Sem.run_pure, Result.andThen_ok]
theorem run_load_cell {ty : TypeId} {p : Addr} (hT : oneT P ty = true) {v : Value} (hv : w.cell? p = some v) : (Instr.loadAt ty (.pointer (some p))).run P w = .ok v w := by
  have hagg : (isAgg ty).run P w = .ok false w := by
    unfold oneT at hT
    cases hu : P.underlying ty with
    | none => rw [hu] at hT; cases hT
    | some d =>
      unfold isAgg
      rw [Sem.run_bind, run_underlying hu w]
      cases d <;> simp_all
  simp [Instr.loadAt, Instr.sureAddr, loadVar, Sem.run_bind, hagg, hv]
/-- A load of a cell that is known by itself. -/
theorem wpList_lc {rest : List Oper} (hw : Region.wanted o (yielded ops a.tmps) = true) (ty : TypeId) (x : Operand) (ho : o.op = .load ty x) (p : Addr) (hx : a.eval x = .pointer (some p)) (hT : oneT P ty = true) (v : Value) (hv : w.cell? p = some v)
    (h : wpList P ops Q rest (a.put o.dst v) w) : wpList P ops Q (o :: rest) a w := by
  refine wpList_go hw ?_
  unfold Oper.wp execOp
  simp only [ho, hx, Sem.run_bind, run_load_cell hT hv, Sem.run_pure, Result.andThen_ok]
  exact h
theorem exec_lc (ty : TypeId) (x : Operand) (ho : o.op = .load ty x) (p : Addr) (hx : a.eval x = .pointer (some p)) (hT : oneT P ty = true) (v0 : Value) (hv : w.cell? p = some v0) (v : Value) (he : v0 = v) :
    (execOp a.eval o).run P w = .ok (.value v) w := by
  subst he
  unfold execOp
  simp only [ho, hx, Sem.run_bind, run_load_cell hT hv, Sem.run_pure, Result.andThen_ok]
theorem wpQuiet_lc {rest : List Oper} {Q : Act → Prop} (hw : Region.wanted o (yielded ops a.tmps) = true) (ty : TypeId) (x : Operand) (ho : o.op = .load ty x) (p : Addr) (hx : a.eval x = .pointer (some p)) (hT : oneT P ty = true) (v : Value) (hv : w.cell? p = some v)
    (h : wpQuiet P ops (fun w' => ∃ k, w' = w.drewN k) Q rest (a.put o.dst v)) : wpQuiet P ops (fun w' => ∃ k, w' = w.drewN k) Q (o :: rest) a := by
  refine BigFrame.wpQuiet_want hw (fun K hK => ⟨v, fun w' hw' => ?_, hK _ h⟩)
  obtain ⟨d, rfl⟩ := hw'
  have hv : (w.drewN d).cell? p = some v := hv
  unfold Oper.quietAt execOp
  simp only [ho, hx, Sem.run_bind, run_load_cell hT hv, Sem.run_pure, Result.andThen_ok]
  first | exact ⟨trivial, d, rfl⟩ | exact ⟨rfl, d, rfl⟩ | exact ⟨rfl, rfl⟩ | exact rfl
/-- A load of a struct, in whatever world in which the block is known. -/
theorem exec_la (hb : Blk w g t cs) (ty : TypeId) (x : Operand) (ho : o.op = .load ty x) (hx : a.eval x = .pointer (some ⟨g, i, none⟩)) (z : Array Value) (hz : (P.info? ty).bind (·.zero) = some (.agg z)) (hT : aggT P ty = true) (hn : (P.info? ty).map (·.size) = some z.size) (hin : i + z.size ≤ cs.size) (v : Value) (hv : Value.agg ((cs.toList.drop i).take z.size).toArray = v) :
    (execOp a.eval o).run P w = .ok (.value v) w := by
  subst hv
  unfold execOp
  simp only [ho, hx, Sem.run_bind, run_loadN hb hT hn hin rfl, Sem.run_pure, Result.andThen_ok]
/-- A block that a step has made. -/
theorem K_up (hm : Mem R s w L O) (h : ∀ n w1, n = w.heap.size → s.heap.size ≤ n → Blk w1 n t cs → Mem R s w1 L O → (∀ e ∈ L, e.g ≠ n) → (∀ x ∈ O, ownAt x.A x.c ≠ some n) → Below w.heap.size w w1 → K a w1) : K a (w.alloc (.cells cs t)) :=
  h w.heap.size _ rfl hm.only.size (Blk.new w t cs) (hm.alloc _) (fun e he => by have := hm.lt he; omega) (fun x hx e => by have := hm.slt hx e; omega) ((Below.refl _ _).alloc (Nat.le_refl _) _)
theorem step_st (hw : Region.wanted o (yielded ops a.tmps) = true) (ty : TypeId) (x y : Operand) (ho : o.op = .store ty x y) (g i : Nat) (hx : a.eval x = .pointer (some ⟨g, i, none⟩)) (v : Value) (hy : a.eval y = v)
    (hm : Mem R s w L O) (k : Nat) (t : TypeId) (cs : Array Value) (hk : L[k]? = some ⟨g, t, cs⟩) (vs : Array Value) (hc : v.cells = vs) (hi : (P.info? ty).map (·.size) = some vs.size) (h1 : vs.all (·.oneCell') = true) (hin : i + vs.size ≤ cs.size)
    (L' : List Ent) (hL : L.set k ⟨g, t, spl cs i vs⟩ = L')
    (h : ∀ w1, w.heap.size ≤ w1.heap.size → Mem R s w1 L' O → Only (fun q => q = g) w w1 → K (a.put o.dst undef) w1) : if Region.wanted o (yielded ops a.tmps) = true then Oper.wp P o a w K Q else E := by
  subst hL
  rw [if_pos hw]
  unfold Oper.wp execOp
  simp only [ho, hx, hy, Sem.run_bind, run_storeN (hm.at_ k hk) hc hi h1 hin, Sem.run_pure, Result.andThen_ok]
  obtain ⟨e1, e2, e3, e4, e5⟩ := setCells_turn w g i vs.toList
  exact h _ (Nat.le_of_eq e4.symm) (hm.set k hk i vs.toList (by simpa using hin)) ⟨e1, e2, e3, Nat.le_of_eq e4.symm, fun q _ hn => e5 q hn⟩
end
end Go.Proofs.YtibaibdgpnkdnaaDoor
end

section
namespace Go.Proofs.YtibaibdgpnkdnaaDoor
set_option maxRecDepth 100000
set_option linter.unusedSimpArgs false
set_option linter.unusedVariables false
open Go.RowKit
section
variable {w s : World} {R : Nat → Prop} {L L' : List Ent} {O O' : List Osl}
theorem Mem.part (h : Mem R s w L O) (hL : L'.Sublist L) (hO : O'.Sublist O) : Mem R s w L' O' :=
  { only := h.only
    blk := fun e he => h.blk e (hL.subset he)
    own := fun e he => h.own e (hL.subset he)
    diff := h.diff.sublist (hL.map _)
    sl := fun x hx => h.sl x (hO.subset hx)
    slR := fun x hx => h.slR x (hO.subset hx)
    slL := fun x hx e he => h.slL x (hO.subset hx) e (hL.subset he)
    slO := h.slO.sublist hO }
/-- All but one known block. -/
theorem Mem.wo (h : Mem R s w L O) (k : Nat) : Mem R s w (L.eraseIdx k) O := h.part (List.eraseIdx_sublist _ _) (List.Sublist.refl _)
/-- All but one slice. -/
theorem Mem.woO (h : Mem R s w L O) (k : Nat) : Mem R s w L (O.eraseIdx k) := h.part (List.Sublist.refl _) (List.eraseIdx_sublist _ _)
/-- The blocks alone. -/
theorem Mem.noO (h : Mem R s w L O) : Mem R s w L [] := h.part (List.Sublist.refl _) (List.nil_sublist _)
theorem Mem.takeO (h : Mem R s w L O) (k : Nat) : Mem R s w L (O.take k) := h.part (List.Sublist.refl _) (List.take_sublist _ _)
/-- The same memory, counted from the world at hand: the known blocks alone may turn. -/
theorem Mem.rebase (h : Mem R s w L O) : Mem (fun q => ∃ e ∈ L, q = e.g) w w L [] :=
  { only := Only.refl _ _, blk := h.blk, own := fun e he => .inl ⟨e, he, rfl⟩, diff := h.diff, sl := fun x hx => (by cases hx), slR := fun x hx => (by cases hx), slL := fun x hx => (by cases hx), slO := .nil }
/-- .. and back: the slices of old are still there. -/
theorem Mem.backO {u : World} {L0 : List Ent} {O0 : List Osl} (h0 : Mem R s w L0 O0) (h : Mem (fun q => ∃ e ∈ L0, q = e.g) w u L O) : Mem R s u L (O0 ++ O) := by
  have hR : ∀ q, (∃ e ∈ L0, q = e.g) ∨ w.heap.size ≤ q → R q ∨ s.heap.size ≤ q := fun q hq => by
    rcases hq with ⟨e, he, rfl⟩ | hq
    · exact h0.own e he
    · exact .inr (Nat.le_trans h0.only.size hq)
  have hN : ∀ x ∈ O0, ∀ q, ownAt x.A x.c = some q → ¬ ((∃ e ∈ L0, q = e.g) ∨ w.heap.size ≤ q) := fun x hx q hq hq2 => by
    rcases hq2 with ⟨e, he, rfl⟩ | hq2
    · exact h0.slL x hx e he hq
    · have := h0.slt hx hq; omega
  refine { only := h0.only.more h.only (fun q _ hq => hR q (.inl hq)), blk := h.blk, own := fun e he => hR _ (h.own e he), diff := h.diff, sl := ?_, slR := ?_, slL := ?_, slO := ?_ }
  · intro x hx
    rcases List.mem_append.1 hx with hx | hx
    · exact (h0.sl x hx).only' h.only (fun q hq hq2 => hN x hx q hq (.inl hq2))
    · exact h.sl x hx
  · intro x hx q hq
    rcases List.mem_append.1 hx with hx | hx
    · exact h0.slR x hx q hq
    · exact hR q (h.slR x hx q hq)
  · intro x hx e he hq
    rcases List.mem_append.1 hx with hx | hx
    · exact hN x hx _ hq (h.own e he)
    · exact h.slL x hx e he hq
  · rw [List.pairwise_append]
    exact ⟨h0.slO, h.slO, fun x hx y hy q hq hq2 => hN x hx q hq (h.slR y hy q hq2)⟩
theorem Mem.nm {e : Ent} (_h : Mem R s w L O) (k : Nat) (_hk : L[k]? = some e) : ∃ q, q = e.g := ⟨_, rfl⟩
/-- A slice over a block that is being made. -/
theorem Mem.newrow (h : Mem R s w L O) (t : TypeId) (cs : Array Value) (k m : Nat) (l : List Value) (hl : cs.toList = l) (hlen : l.length = m * k) (hmax : m ≤ maxLen) : Mem R s (w.alloc (.cells cs t)) L (O ++ [⟨t, k, some ⟨w.heap.size, 0, none⟩, m, m, l⟩]) :=
  (h.alloc _).row (Blk.new w t cs) h.only.size (fun e he => by have := h.lt he; omega) (fun x hx e => by have := h.slt hx e; omega) k m l hl hlen hmax
/-- One slice alone. -/
theorem Mem.oneO {x : Osl} (h : Mem R s w L O) (k : Nat) (hk : O[k]? = some x) : Mem R s w L [x] := h.part (List.Sublist.refl _) (List.singleton_sublist.2 (List.mem_of_getElem? hk))
theorem Mem.takeL (h : Mem R s w L O) (k : Nat) : Mem R s w (L.take k) O := h.part (List.take_sublist _ _) (List.Sublist.refl _)
end
section
variable {P : Program} {ops : Array Oper} {o : Oper} {a : Act} {w s : World} {Q : Exit → Act → World → Prop} {K : Act → World → Prop} {E : Prop} {R : Nat → Prop} {L : List Ent} {O : List Osl}
/-- A load of one cell, as a step of a region that draws its order. -/
theorem step_ld (hw : Region.wanted o (yielded ops a.tmps) = true) (ty : TypeId) (x : Operand) (ho : o.op = .load ty x) (g i : Nat) (hx : a.eval x = .pointer (some ⟨g, i, none⟩))
    (hm : Mem R s w L O) (k : Nat) (t : TypeId) (cs : Array Value) (hk : L[k]? = some ⟨g, t, cs⟩) (hT : oneT P ty = true) (v : Value) (hv : cs[i]? = some v)
    (h : K (a.put o.dst v) w) : if Region.wanted o (yielded ops a.tmps) = true then Oper.wp P o a w K Q else E := by
  rw [if_pos hw]
  unfold Oper.wp
  rw [exec_ld (hm.at_ k hk) ty x ho hx hT v hv]
  exact h
/-- A new variable, as a step of a region that draws its order. -/
theorem step_al (hw : Region.wanted o (yielded ops a.tmps) = true) (ty : TypeId) (ho : o.op = .alloc ty) (z : Value) (hz : (P.info? ty).bind (·.zero) = some z) (cs : Array Value) (hc : z.cells = cs)
    (hm : Mem R s w L O) (h : ∀ n w1, w.heap.size ≤ n → w.heap.size ≤ w1.heap.size → Mem R s w1 (L ++ [⟨n, ty, cs⟩]) O → Below w.heap.size w w1 → K (a.put o.dst (.pointer (some ⟨n, 0, none⟩))) w1) : if Region.wanted o (yielded ops a.tmps) = true then Oper.wp P o a w K Q else E := by
  rw [if_pos hw]
  subst hc
  cases hq : P.info? ty with
  | none => simp [hq] at hz
  | some d =>
    have hd : d.zero = some z := by simpa [hq] using hz
    have hrun : (Instr.alloc ty true (.tuple #[])).run P w = .ok (.pointer (some ⟨w.heap.size, 0, none⟩)) (w.alloc (.cells z.cells ty)) := by
      simp [Instr.alloc, zeroValue, typeInfo, hq, hd, newVar, newRow]
    unfold Oper.wp execOp
    simp only [ho, Sem.run_bind, hrun, Sem.run_pure, Result.andThen_ok]
    exact h w.heap.size _ (Nat.le_refl _) (by simp) (hm.snoc ty _) ((Below.refl _ _).alloc (Nat.le_refl _) _)
/-- A load of a struct, as a step of a region that draws its order. -/
theorem step_la (hw : Region.wanted o (yielded ops a.tmps) = true) (ty : TypeId) (x : Operand) (ho : o.op = .load ty x) (g i : Nat) (hx : a.eval x = .pointer (some ⟨g, i, none⟩))
    (hm : Mem R s w L O) (k : Nat) (t : TypeId) (cs : Array Value) (hk : L[k]? = some ⟨g, t, cs⟩) (z : Array Value) (hz : (P.info? ty).bind (·.zero) = some (.agg z)) (hT : aggT P ty = true) (hn : (P.info? ty).map (·.size) = some z.size) (hin : i + z.size ≤ cs.size) (v : Value) (hv : Value.agg ((cs.toList.drop i).take z.size).toArray = v)
    (h : K (a.put o.dst v) w) : if Region.wanted o (yielded ops a.tmps) = true then Oper.wp P o a w K Q else E := by
  rw [if_pos hw]
  unfold Oper.wp
  rw [exec_la (hm.at_ k hk) ty x ho hx z hz hT hn hin v hv]
  exact h
end
section
variable {P : Program} {o : Oper} {a : Act} {w s : World} {R : Nat → Prop} {L : List Ent} {O : List Osl}
theorem MemS.la (h : MemS R s L O w) (ty : TypeId) (x : Operand) (ho : o.op = .load ty x) (g i : Nat) (hx : a.eval x = .pointer (some ⟨g, i, none⟩)) (k : Nat) (t : TypeId) (cs : Array Value) (hk : L[k]? = some ⟨g, t, cs⟩) (z : Array Value) (hz : (P.info? ty).bind (·.zero) = some (.agg z)) (hT : aggT P ty = true) (hn : (P.info? ty).map (·.size) = some z.size) (hin : i + z.size ≤ cs.size) (v : Value) (hv : Value.agg ((cs.toList.drop i).take z.size).toArray = v) :
    (execOp a.eval o).run P w = .ok (.value v) w := exec_la (h.mem.at_ k hk) ty x ho hx z hz hT hn hin v hv
end
/-- The slices among the cells of a struct lie in blocks that meet F. -/
def Far (F : Nat → Prop) (cs : Array Value) : Prop := ∀ A n c, Value.slice A n c ∈ cs.toList → 0 < n → ∀ a, A = some a → F a.block
theorem Far.mono {F F' : Nat → Prop} {cs : Array Value} (h : Far F cs) (hF : ∀ q, F q → F' q) : Far F' cs := fun A n c hm hn a e => hF _ (h A n c hm hn a e)
theorem Far.old {F : Nat → Prop} {k : Nat} {cs : Array Value} (h : Far F cs) : Far (fun q => F q ∨ k ≤ q) cs := h.mono fun _ e => .inl e
theorem Far.and {F G : Nat → Prop} {cs : Array Value} (h : Far F cs) (k : Far G cs) : Far (fun q => F q ∧ G q) cs := fun A n c hm hn a e => ⟨h A n c hm hn a e, k A n c hm hn a e⟩
theorem Far.nil {F : Nat → Prop} : Far F #[] := fun A n c hm => by cases hm
theorem Far.cons {F : Nat → Prop} {v : Value} {l : List Value} (h : Far F l.toArray) (hv : ∀ A n c, v = .slice A n c → 0 < n → ∀ a, A = some a → F a.block) : Far F (v :: l).toArray := fun A n c hm => by
  rcases List.mem_cons.1 hm with e | hm
  · exact hv A n c e.symm
  · exact h A n c hm
theorem Far.at_ {F : Nat → Prop} {cs : Array Value} (h : Far F cs) {A : Option Addr} {n c : Nat} (k : Nat) (hk : cs[k]? = some (.slice A n c)) : 0 < n → ∀ a, A = some a → F a.block := h A n c (by
  have : cs.toList[k]? = some (.slice A n c) := by simpa using hk
  exact List.mem_of_getElem? this)
theorem Own.far {w : World} {base : Nat} {t : TypeId} {s : Nat} {A : Option Addr} {n c : Nat} {cs : List Value} (h : Own w base t s A n c cs) : 0 < n → ∀ a, A = some a → base ≤ a.block := fun hn a e => by
  have hc := h.le
  exact (h.lt a.block (by unfold ownAt; rw [if_neg (by omega), e]; rfl)).1
theorem Row.far {w u : World} {F R : Nat → Prop} {A : Option Addr} {cs : List Value} (h : Row w w.heap.size A cs) (hf : 0 < cs.length → ∀ a, A = some a → F a.block) (ho : Only R w u) (hR : ∀ q, q < w.heap.size → R q → ¬ F q) : Row u u.heap.size A cs := fun hn => by
  obtain ⟨b, o, e, hb, hc⟩ := h hn
  have hF := hf hn _ e
  exact ⟨b, o, e, Nat.lt_of_lt_of_le hb ho.size, fun j hj => (World.cell?_of_block (ho.block b hb fun hr => hR b hb hr hF)).trans (hc j hj)⟩
theorem Byt.far {w u : World} {F R : Nat → Prop} {A : Option Addr} {n c : Nat} {bs : List UInt8} (h : Byt w w.heap.size A n c bs) (hf : 0 < n → ∀ a, A = some a → F a.block) (ho : Only R w u) (hR : ∀ q, q < w.heap.size → R q → ¬ F q) : Byt u u.heap.size A n c bs :=
  ⟨h.1, h.2.1, h.2.2.far (fun hn => hf (by have := h.1; rw [length_bcells] at hn; omega)) ho hR⟩
end Go.Proofs.YtibaibdgpnkdnaaDoor
end

section
namespace Go.Proofs.YtibaibdgpnkdnaaDoor
set_option maxRecDepth 100000
set_option linter.unusedSimpArgs false
set_option linter.unusedVariables false
open Go.RowKit

/-- A block is among the known ones. -/
structure In (g : Nat) (t : TypeId) (cs : Array Value) (L : List Ent) : Prop where
  at_ : ∃ k : Nat, L[k]? = some ⟨g, t, cs⟩
theorem In.a {g : Nat} {t : TypeId} {cs : Array Value} {L : List Ent} : In g t cs (⟨g, t, cs⟩ :: L) := ⟨0, rfl⟩
theorem In.b {g : Nat} {t : TypeId} {cs : Array Value} {e : Ent} {L : List Ent} (h : In g t cs L) : In g t cs (e :: L) := by
  obtain ⟨k, h⟩ := h
  exact ⟨k + 1, h⟩
/-- A block's cells are put in place of the old ones. -/
structure Put (g : Nat) (t : TypeId) (cs cs' : Array Value) (L L' : List Ent) : Prop where
  at_ : ∃ k : Nat, L[k]? = some ⟨g, t, cs⟩ ∧ L.set k ⟨g, t, cs'⟩ = L'
theorem Put.a {g : Nat} {t : TypeId} {cs cs' : Array Value} {L : List Ent} : Put g t cs cs' (⟨g, t, cs⟩ :: L) (⟨g, t, cs'⟩ :: L) := ⟨0, rfl, rfl⟩
theorem Put.b {g : Nat} {t : TypeId} {cs cs' : Array Value} {e : Ent} {L L' : List Ent} (h : Put g t cs cs' L L') : Put g t cs cs' (e :: L) (e :: L') := by
  obtain ⟨k, h, h2⟩ := h
  exact ⟨k + 1, h, by rw [List.set_cons_succ, h2]⟩
/-- The first operation at or behind place 'a' that has not come up. -/
structure Seek (l : List Bool) (a i : Nat) : Prop where
  so : True
theorem Seek.a {l : List Bool} : Seek (false :: l) 0 0 := ⟨trivial⟩
theorem Seek.b {l : List Bool} {i : Nat} (_ : Seek l 0 i) : Seek (true :: l) 0 (i + 1) := ⟨trivial⟩
theorem Seek.c {l : List Bool} {b : Bool} {a i : Nat} (_ : Seek l a i) : Seek (b :: l) (a + 1) (i + 1) := ⟨trivial⟩
/-- As many places as operations. -/
structure Fresh (os : List Oper) (l : List Bool) : Prop where
  is : l = List.replicate os.length false
theorem Fresh.a : Fresh [] [] := ⟨rfl⟩
theorem Fresh.b {o : Oper} {os : List Oper} {l : List Bool} (h : Fresh os l) : Fresh (o :: os) (false :: l) := by
  exact ⟨by rw [h.is]; rfl⟩

section
variable {P : Program} {md : Region.Mode} {S : World → Prop} {ops : Array Oper} {rest : List Oper} {o : Oper} {a : Act} {w s : World} {Q : Exit → Act → World → Prop} {R : Nat → Prop} {L : List Ent} {O : List Osl} {K : Act → World → Prop} {E : Prop}
theorem wpAnyH_fresh {os : List Oper} {l : List Bool} {fuel : Nat} (hl : Fresh os l) (h : wpAnyH P md os.toArray Q S fuel l.toArray a w) : wpAnyH P md os.toArray Q S fuel (Array.replicate os.toArray.size false) a w := by
  have : Array.replicate os.toArray.size false = l.toArray := by rw [hl.is]; simp
  rw [this]; exact h
theorem wpAnyH_take3 {l : List Bool} {i b : Nat} {oi : Oper} {fuel : Nat} (_ : Seek l b i) (hi : ops[i]? = some oi)
    (h : ∃ v, Region.noSelect ops = true ∧ Region.free md ops l.toArray i = true ∧ (Region.ready md ops l.toArray).contains i = true ∧
      (∀ c a w, Q (.panic c) (a.put oi.dst v) w → Q (.panic c) a w) ∧ YieldsIf P ops S oi v a ∧ S w ∧ wpAnyH P md ops Q S fuel (l.toArray.setIfInBounds i true) (a.put oi.dst v) w) : wpAnyH P md ops Q S (fuel + 1) l.toArray a w := wpAnyH_take2 hi h
theorem wpList_ldS (hw : Region.wanted o (yielded ops a.tmps) = true) (ty : TypeId) (x : Operand) (ho : o.op = .load ty x) (g i : Nat) (hx : a.eval x = .pointer (some ⟨g, i, none⟩))
    (hm : Mem R s w L O) (t : TypeId) (cs : Array Value) (hk : In g t cs L) (hT : oneT P ty = true) (v : Value) (hv : cs[i]? = some v)
    (h : wpList P ops Q rest (a.put o.dst v) w) : wpList P ops Q (o :: rest) a w := by
  obtain ⟨k, hk⟩ := hk
  exact wpList_ld hw ty x ho g i hx hm k t cs hk hT v hv h
theorem wpList_laS (hw : Region.wanted o (yielded ops a.tmps) = true) (ty : TypeId) (x : Operand) (ho : o.op = .load ty x) (g i : Nat) (hx : a.eval x = .pointer (some ⟨g, i, none⟩))
    (hm : Mem R s w L O) (t : TypeId) (cs : Array Value) (hk : In g t cs L) (hT : aggT P ty = true) (z : Array Value) (hz : (P.info? ty).bind (·.zero) = some (.agg z)) (hn : (P.info? ty).map (·.size) = some z.size) (hin : i + z.size ≤ cs.size) (vs : Array Value) (hv : ((cs.toList.drop i).take z.size).toArray = vs)
    (h : wpList P ops Q rest (a.put o.dst (.agg vs)) w) : wpList P ops Q (o :: rest) a w := by
  obtain ⟨k, hk⟩ := hk
  exact wpList_la hw ty x ho g i hx hm k t cs hk z hz hT hn hin vs hv h
theorem wpList_stS (hw : Region.wanted o (yielded ops a.tmps) = true) (ty : TypeId) (x y : Operand) (ho : o.op = .store ty x y) (g i : Nat) (hx : a.eval x = .pointer (some ⟨g, i, none⟩)) (v : Value) (hy : a.eval y = v)
    (hm : Mem R s w L O) (vs : Array Value) (hc : v.cells = vs) (t : TypeId) (cs cs' : Array Value) (L' : List Ent) (hL : Put g t cs cs' L L') (hi : (P.info? ty).map (·.size) = some vs.size) (h1 : vs.all (·.oneCell') = true) (hin : i + vs.size ≤ cs.size)
    (hcs : spl cs i vs = cs')
    (h : ∀ w1, w.heap.size ≤ w1.heap.size → Mem R s w1 L' O → Only (fun q => q = g) w w1 → wpList P ops Q rest (a.put o.dst undef) w1) : wpList P ops Q (o :: rest) a w := by
  obtain ⟨k, hk, rfl⟩ := hL
  subst hcs
  exact wpList_st hw ty x y ho g i hx v hy hm k t cs hk vs hc hi h1 hin _ rfl h
theorem wpQuiet_ldS {Q : Act → Prop} (hw : Region.wanted o (yielded ops a.tmps) = true) (ty : TypeId) (x : Operand) (ho : o.op = .load ty x) (g i : Nat) (hx : a.eval x = .pointer (some ⟨g, i, none⟩))
    (hm : Mem R s w L O) (t : TypeId) (cs : Array Value) (hk : In g t cs L) (hT : oneT P ty = true) (v : Value) (hv : cs[i]? = some v)
    (h : wpQuiet P ops (fun w' => ∃ k, w' = w.drewN k) Q rest (a.put o.dst v)) : wpQuiet P ops (fun w' => ∃ k, w' = w.drewN k) Q (o :: rest) a := by
  obtain ⟨k, hk⟩ := hk
  exact wpQuiet_ld hw ty x ho g i hx hm k t cs hk hT v hv h
theorem MemS.ldS (h : MemS R s L O w) (ty : TypeId) (x : Operand) (ho : o.op = .load ty x) (g i : Nat) (hx : a.eval x = .pointer (some ⟨g, i, none⟩)) (t : TypeId) (cs : Array Value) (hk : In g t cs L) (hT : oneT P ty = true) (v : Value) (hv : cs[i]? = some v) :
    (execOp a.eval o).run P w = .ok (.value v) w := by
  obtain ⟨k, hk⟩ := hk
  exact MemS.ld h ty x ho g i hx k t cs hk hT v hv
theorem MemS.laS (h : MemS R s L O w) (ty : TypeId) (x : Operand) (ho : o.op = .load ty x) (g i : Nat) (hx : a.eval x = .pointer (some ⟨g, i, none⟩)) (t : TypeId) (cs : Array Value) (hk : In g t cs L) (hT : aggT P ty = true) (z : Array Value) (hz : (P.info? ty).bind (·.zero) = some (.agg z)) (hn : (P.info? ty).map (·.size) = some z.size) (hin : i + z.size ≤ cs.size) (v : Value) (hv : Value.agg ((cs.toList.drop i).take z.size).toArray = v) :
    (execOp a.eval o).run P w = .ok (.value v) w := by
  obtain ⟨k, hk⟩ := hk
  exact exec_la (h.mem.at_ k hk) ty x ho hx z hz hT hn hin v hv
theorem step_ldS (hw : Region.wanted o (yielded ops a.tmps) = true) (ty : TypeId) (x : Operand) (ho : o.op = .load ty x) (g i : Nat) (hx : a.eval x = .pointer (some ⟨g, i, none⟩))
    (hm : Mem R s w L O) (t : TypeId) (cs : Array Value) (hk : In g t cs L) (hT : oneT P ty = true) (v : Value) (hv : cs[i]? = some v)
    (h : K (a.put o.dst v) w) : if Region.wanted o (yielded ops a.tmps) = true then Oper.wp P o a w K Q else E := by
  obtain ⟨k, hk⟩ := hk
  exact step_ld hw ty x ho g i hx hm k t cs hk hT v hv h
theorem step_stS (hw : Region.wanted o (yielded ops a.tmps) = true) (ty : TypeId) (x y : Operand) (ho : o.op = .store ty x y) (g i : Nat) (hx : a.eval x = .pointer (some ⟨g, i, none⟩)) (v : Value) (hy : a.eval y = v)
    (hm : Mem R s w L O) (vs : Array Value) (hc : v.cells = vs) (t : TypeId) (cs cs' : Array Value) (L' : List Ent) (hL : Put g t cs cs' L L') (hi : (P.info? ty).map (·.size) = some vs.size) (h1 : vs.all (·.oneCell') = true) (hin : i + vs.size ≤ cs.size)
    (hcs : spl cs i vs = cs')
    (h : ∀ w1, w.heap.size ≤ w1.heap.size → Mem R s w1 L' O → Only (fun q => q = g) w w1 → K (a.put o.dst undef) w1) : if Region.wanted o (yielded ops a.tmps) = true then Oper.wp P o a w K Q else E := by
  obtain ⟨k, hk, rfl⟩ := hL
  subst hcs
  exact step_st hw ty x y ho g i hx v hy hm k t cs hk vs hc hi h1 hin _ rfl h
end
end Go.Proofs.YtibaibdgpnkdnaaDoor
end

section
namespace Go.Proofs.YtibaibdgpnkdnaaDoor
set_option maxRecDepth 100000
set_option linter.unusedSimpArgs false
set_option linter.unusedVariables false
open Go.RowKit

theorem byt_of_row {w : World} {a : Option Addr} {len cap : Nat} {zs : List Int}
    (h : (a = none ∧ len = 0 ∧ cap = 0 ∧ zs = []) ∨ ∃ x, a = some x ∧ len ≤ cap ∧ cap ≤ maxLen ∧ zs.length = cap ∧ (∀ i, i < zs.length → w.cell? (x.add i) = some (.int .u8 (zs.getD i 0))) ∧ ∀ n ∈ zs, (Lit.int .u8 n).wf = true) :
    ∃ bs, Byt w w.heap.size a len cap bs ∧ cap ≤ maxLen := by
  rcases h with ⟨rfl, rfl, rfl, rfl⟩ | ⟨x, rfl, hl, hm, hz, hc, hw⟩
  · exact ⟨[], ⟨rfl, Nat.le_refl _, Row.nil _ _ _⟩, Nat.zero_le _⟩
  · refine ⟨(zs.take len).map fun z => UInt8.ofNat z.toNat, ⟨by simp; omega, hl, fun hn => ?_⟩, hm⟩
    have hn' : 0 < len := by simp at hn; omega
    have hc0 := hc 0 (by omega)
    have hx0 : x.add 0 = x := by unfold Addr.add; simp
    rw [hx0] at hc0
    obtain ⟨b, o, s⟩ := x
    have hs : s = none := by
      cases s with
      | none => rfl
      | some q => simp only [World.cell?] at hc0; split at hc0 <;> simp at hc0
    subst hs
    refine ⟨b, o, rfl, World.block_lt_of_cell? w _ hc0, fun j hj => ?_⟩
    rw [length_bcells, List.length_map, List.length_take] at hj
    have hj' : j < zs.length := by omega
    have h1 := hc j hj'
    rw [add_eq] at h1
    rw [h1, bcells_get, List.getElem?_map, List.getElem?_take, if_pos (by omega), List.getElem?_eq_getElem hj']
    have hb := hw zs[j] (List.getElem_mem hj')
    have hbd : 0 ≤ zs[j] ∧ zs[j] ≤ 255 := by simpa [Lit.wf, IntKind.min, IntKind.max, IntKind.signed, IntKind.bits] using hb
    simp only [List.getD, List.getElem?_eq_getElem hj', Option.getD_some, Option.map_some, B8]
    congr 2
    rw [UInt8.toNat_ofNat_of_lt' (by simp only [UInt8.size]; omega)]
    omega
end Go.Proofs.YtibaibdgpnkdnaaDoor
end

section
namespace Go.Proofs.YtibaibdgpnkdnaaDoor
set_option maxRecDepth 100000
set_option linter.unusedSimpArgs false
set_option linter.unusedVariables false
open Go.RowKit Go.ChangeShapes Go.WideShapes Go.Deep

section
variable {H : Type} {enc : TypeId × Value → H} {P : Program} {w : World} {base : Nat} {spare : Nat → Bool} {held : Bool}
/-- Every field of every element has its cell, and is read by itself. -/
theorem fields_of_slice {t e : TypeId} {fs : Array Field} {fuel : Nat} {cs : List Value} {x : DataW H × List MemPlace} (ht : P.underlying t = some (.slice e)) (he : P.underlying e = some (.struct fs))
    (hone : oneCellFields P fs = true) (hC : P.cellsOf e = fs.size) (h : DataW.trod enc P w base spare held fuel t cs = some x) :
    cs = [.slice none 0 0] ∨ ∃ (a : Addr) (len cap : Nat), cs = [.slice (some a) len cap] ∧ len ≤ cap ∧ cap ≤ maxLen ∧
      ∀ (i j : Nat) (f : Field), i < len → fs[j]? = some f → ∃ (v : Value) (y : DataW H × List MemPlace) (n : Nat), w.cell? (a.add (i * fs.size + j)) = some v ∧ DataW.trod enc P w base spare held n f.type [v] = some y := by
  rcases open_slice ht h with h0 | ⟨a, len, cap, m, n, D, Pl, hcs, _, hl, hm, hmm, _, hi⟩
  · exact .inl h0.1
  · refine .inr ⟨a, len, cap, hcs, hl, hm, fun i j f hlt hj => ?_⟩
    obtain ⟨l, hc, hd⟩ := hi i (by rw [hmm]; split <;> omega)
    rw [hC] at hc
    obtain ⟨ys, k, _, _, _, hyl, hf⟩ := DataW.trod_struct he hd
    obtain ⟨_, hll, hat⟩ := World.cells?_some hc
    obtain ⟨ho, hk⟩ := hone_of hone j f hj
    have hjl : j < fs.size := (Array.getElem?_eq_some_iff.1 hj).1
    have h1 := hf j f hj
    have hd1 : l.drop j = l[j]'(by omega) :: l.drop (j + 1) := List.drop_eq_getElem_cons (by omega)
    rw [ho, hk, hd1, List.getElem?_eq_getElem (by omega)] at h1
    refine ⟨l[j]'(by omega), _, k, ?_, h1⟩
    rw [← add_add, hat j hjl, List.getElem?_eq_getElem (by omega)]
end

/-- An address whose cell 0 is there has no path. -/
theorem spot_none {w : World} {a : Addr} {v : Value} (h : w.cell? (a.add 0) = some v) : ∃ b o, a = ⟨b, o, none⟩ ∧ b < w.heap.size := by
  have hx0 : a.add 0 = a := by unfold Addr.add; simp
  rw [hx0] at h
  obtain ⟨b, o, s⟩ := a
  have hs : s = none := by
    cases s with
    | none => rfl
    | some q => simp only [World.cell?] at h; split at h <;> simp at h
  subst hs
  exact ⟨b, o, rfl, World.block_lt_of_cell? w _ h⟩
end Go.Proofs.YtibaibdgpnkdnaaDoor
end

section
namespace Go.Proofs.YtibaibdgpnkdnaaDoor
set_option maxRecDepth 100000
set_option linter.unusedSimpArgs false
set_option linter.unusedVariables false
open Go.RowKit Go.ChangeShapes Go.WideShapes Go.Deep

section
variable {H : Type} {enc : TypeId × Value → H} {P : Program} {w : World} {base : Nat} {spare : Nat → Bool} {held : Bool}
theorem agg_of_trod {t : TypeId} {fs : Array Field} {r : Reach} {b0 : Nat} {v : Value} {d : DataW H} {p : List MemPlace} (hs : P.underlying t = some (.struct fs)) (hone : oneCellFields P fs = true) (hC : P.cellsOf t = fs.size)
    (hv : Value.okWide P w r b0 t v) (h : DataW.Trod enc P w base spare held t v d p) :
    ∃ cs : Array Value, v = .agg cs ∧ cs.size = fs.size ∧ ∀ (j : Nat) (f : Field), fs[j]? = some f → ∃ (x : Value) (y : DataW H × List MemPlace) (n : Nat), cs[j]? = some x ∧ DataW.trod enc P w base spare held n f.type [x] = some y := by
  obtain ⟨cs, rfl, hsz⟩ := okWide_struct hs hv
  obtain ⟨fuel, hf⟩ := h
  refine ⟨cs, rfl, hsz.trans hC, fun j f hj => ?_⟩
  obtain ⟨ys, k, _, _, _, hyl, hg⟩ := DataW.trod_struct hs hf
  obtain ⟨ho, hk⟩ := hone_of hone j f hj
  have hjl : j < fs.size := (Array.getElem?_eq_some_iff.1 hj).1
  have h1 := hg j f hj
  have hl : (Value.agg cs).cells = cs := rfl
  rw [hl] at h1
  have hjc : j < cs.toList.length := by rw [Array.length_toList, hsz, hC]; exact hjl
  rw [ho, hk, List.drop_eq_getElem_cons hjc, List.getElem?_eq_getElem (by omega)] at h1
  exact ⟨cs.toList[j], _, k, by rw [← Array.getElem?_toList, List.getElem?_eq_getElem hjc], h1⟩

/-- A field that is an int. -/
theorem fint_of_trod {t : TypeId} {n : Nat} {v : Value} {y : DataW H × List MemPlace} (ht : P.underlying t = some (.int .i64)) (h : DataW.trod enc P w base spare held n t [v] = some y) : ∃ z, v = .int .i64 z ∧ -9223372036854775808 ≤ z ∧ z ≤ 9223372036854775807 := by
  obtain ⟨z, e, _, hw⟩ := DataW.trod_int ht h
  exact ⟨z, by simpa using e, by simpa [Lit.wf, IntKind.min, IntKind.max, IntKind.signed, IntKind.bits] using hw⟩
theorem fbool_of_trod {t : TypeId} {n : Nat} {v : Value} {y : DataW H × List MemPlace} (ht : P.underlying t = some .bool) (h : DataW.trod enc P w base spare held n t [v] = some y) : ∃ z, v = .bool z := by
  obtain ⟨z, e, _⟩ := DataW.trod_bool ht h
  exact ⟨z, by simpa using e⟩
/-- A field that is a slice of bytes. -/
theorem fbyt_of_trod {t e : TypeId} {n : Nat} {v : Value} {y : DataW H × List MemPlace} (ht : P.underlying t = some (.slice e)) (he : P.underlying e = some (.int .u8)) (hC : P.cellsOf e = 1) (h : DataW.trod enc P w base spare held n t [v] = some y) :
    ∃ A len cap bs, v = .slice A len cap ∧ Byt w w.heap.size A len cap bs ∧ cap ≤ maxLen := by
  rcases open_slice1 ht hC h with ⟨h0, _⟩ | ⟨a, len, cap, m, n, V, D, Pl, hcs, _, hl, hm, hmm, _, hx⟩
  · exact ⟨none, 0, 0, [], by simpa using h0, ⟨rfl, Nat.le_refl _, Row.nil _ _ _⟩, Nat.zero_le _⟩
  · have key : ∀ i, i < len → ∃ b : UInt8, w.cell? (a.add i) = some (B8 b) := fun i hi => by
      obtain ⟨h1, h2⟩ := hx i (by rw [hmm]; split <;> omega)
      obtain ⟨z, e2, _, hw⟩ := DataW.trod_int he h2
      have hbd : 0 ≤ z ∧ z ≤ 255 := by simpa [Lit.wf, IntKind.min, IntKind.max, IntKind.signed, IntKind.bits] using hw
      refine ⟨UInt8.ofNat z.toNat, ?_⟩
      rw [h1]
      have e3 : V i = .int .u8 z := by simpa using e2
      rw [e3, B8, UInt8.toNat_ofNat_of_lt' (by simp only [UInt8.size]; omega), show ((z.toNat : Nat) : Int) = z by omega]
    obtain ⟨f, hf⟩ := @choose_lt _ ⟨(0 : UInt8)⟩ len _ key
    refine ⟨some a, len, cap, (List.range len).map f, by simpa using hcs, ⟨by simp, hl, fun hn => ?_⟩, hm⟩
    have hn0 : 0 < len := by simpa using hn
    obtain ⟨b, o, rfl, hb⟩ := spot_none (hf 0 hn0)
    refine ⟨b, o, rfl, hb, fun j hj => ?_⟩
    have hjn : j < len := by simpa using hj
    have := hf j hjn
    rw [add_eq] at this
    rw [this]
    simp [bcells, hjn]
end
end Go.Proofs.YtibaibdgpnkdnaaDoor
end

section
namespace Go.Proofs.YtibaibdgpnkdnaaDoor
set_option maxRecDepth 100000
set_option linter.unusedSimpArgs false
set_option linter.unusedVariables false
open Go.RowKit Go.ChangeShapes Go.WideShapes Go.Deep

/-- A response by value. -/
def rspV (A : Option Addr) (n c : Nat) (sw : Int) : Value := .agg #[.slice A n c, I64 sw]
/-- A number that fits. -/
def Fit (x : Int) : Prop := -9223372036854775808 ≤ x ∧ x ≤ 9223372036854775807

section
variable {H : Type} {enc : TypeId × Value → H} {w : World} {base : Nat} {spare : Nat → Bool} {held : Bool} {r : Reach} {b0 : Nat} {v : Value} {d : DataW H} {p : List MemPlace}
theorem cmd_open (hv : Value.okWide Tryd.prog w r b0 26 v) (h : DataW.Trod enc Tryd.prog w base spare held 26 v d p) :
    ∃ (cla ins p1 p2 : Int) (A : Option Addr) (n c : Nat) (b : List UInt8) (le : Int) (long : Bool), v = cmdV cla ins p1 p2 A n c le long ∧ Byt w w.heap.size A n c b ∧ c ≤ maxLen ∧ Fit cla ∧ Fit ins ∧ Fit p1 ∧ Fit p2 ∧ Fit le := by
  obtain ⟨cs, rfl, hsz, hf⟩ := agg_of_trod Tryd.underlying26 (by kernel_rfl) (by kernel_rfl) hv h
  obtain ⟨v0, y0, n0, c0, t0⟩ := hf 0 _ rfl
  obtain ⟨v1, y1, n1, c1, t1⟩ := hf 1 _ rfl
  obtain ⟨v2, y2, n2, c2, t2⟩ := hf 2 _ rfl
  obtain ⟨v3, y3, n3, c3, t3⟩ := hf 3 _ rfl
  obtain ⟨v4, y4, n4, c4, t4⟩ := hf 4 _ rfl
  obtain ⟨v5, y5, n5, c5, t5⟩ := hf 5 _ rfl
  obtain ⟨v6, y6, n6, c6, t6⟩ := hf 6 _ rfl
  obtain ⟨z0, rfl, f0⟩ := fint_of_trod Tryd.underlying3 t0
  obtain ⟨z1, rfl, f1⟩ := fint_of_trod Tryd.underlying3 t1
  obtain ⟨z2, rfl, f2⟩ := fint_of_trod Tryd.underlying3 t2
  obtain ⟨z3, rfl, f3⟩ := fint_of_trod Tryd.underlying3 t3
  obtain ⟨A, n, c, b, rfl, hb, hm⟩ := fbyt_of_trod Tryd.underlying22 Tryd.underlying5 (by kernel_rfl) t4
  obtain ⟨z5, rfl, f5⟩ := fint_of_trod Tryd.underlying3 t5
  obtain ⟨z6, rfl⟩ := fbool_of_trod Tryd.underlying4 t6
  refine ⟨z0, z1, z2, z3, A, n, c, b, z5, z6, ?_, hb, hm, f0, f1, f2, f3, f5⟩
  unfold cmdV
  refine congrArg Value.agg (Array.ext (by simpa using hsz) fun i h1 h2 => ?_)
  have hs7 : cs.size = 7 := by simpa using hsz
  rcases (show i = 0 ∨ i = 1 ∨ i = 2 ∨ i = 3 ∨ i = 4 ∨ i = 5 ∨ i = 6 by omega) with rfl | rfl | rfl | rfl | rfl | rfl | rfl
  · rw [Array.getElem?_eq_getElem h1] at c0; injection c0
  · rw [Array.getElem?_eq_getElem h1] at c1; injection c1
  · rw [Array.getElem?_eq_getElem h1] at c2; injection c2
  · rw [Array.getElem?_eq_getElem h1] at c3; injection c3
  · rw [Array.getElem?_eq_getElem h1] at c4; injection c4
  · rw [Array.getElem?_eq_getElem h1] at c5; injection c5
  · rw [Array.getElem?_eq_getElem h1] at c6; injection c6

theorem info_open (hv : Value.okWide Tryd.prog w r b0 64 v) (h : DataW.Trod enc Tryd.prog w base spare held 64 v d p) :
    ∃ (ch : Int) (s c q : Bool), v = infoV ch s c q ∧ Fit ch := by
  obtain ⟨cs, rfl, hsz, hf⟩ := agg_of_trod Tryd.underlying64 (by kernel_rfl) (by kernel_rfl) hv h
  obtain ⟨v0, y0, n0, c0, t0⟩ := hf 0 _ rfl
  obtain ⟨v1, y1, n1, c1, t1⟩ := hf 1 _ rfl
  obtain ⟨v2, y2, n2, c2, t2⟩ := hf 2 _ rfl
  obtain ⟨v3, y3, n3, c3, t3⟩ := hf 3 _ rfl
  obtain ⟨z0, rfl, f0⟩ := fint_of_trod Tryd.underlying3 t0
  obtain ⟨z1, rfl⟩ := fbool_of_trod Tryd.underlying4 t1
  obtain ⟨z2, rfl⟩ := fbool_of_trod Tryd.underlying4 t2
  obtain ⟨z3, rfl⟩ := fbool_of_trod Tryd.underlying4 t3
  refine ⟨z0, z1, z2, z3, ?_, f0⟩
  unfold infoV
  refine congrArg Value.agg (Array.ext (by simpa using hsz) fun i h1 h2 => ?_)
  have hs7 : cs.size = 4 := by simpa using hsz
  rcases (show i = 0 ∨ i = 1 ∨ i = 2 ∨ i = 3 by omega) with rfl | rfl | rfl | rfl
  · rw [Array.getElem?_eq_getElem h1] at c0; injection c0
  · rw [Array.getElem?_eq_getElem h1] at c1; injection c1
  · rw [Array.getElem?_eq_getElem h1] at c2; injection c2
  · rw [Array.getElem?_eq_getElem h1] at c3; injection c3

theorem rsp_open (hv : Value.okWide Tryd.prog w r b0 42 v) (h : DataW.Trod enc Tryd.prog w base spare held 42 v d p) :
    ∃ (A : Option Addr) (n c : Nat) (b : List UInt8) (sw : Int), v = rspV A n c sw ∧ Byt w w.heap.size A n c b ∧ c ≤ maxLen ∧ Fit sw := by
  obtain ⟨cs, rfl, hsz, hf⟩ := agg_of_trod Tryd.underlying42 (by kernel_rfl) (by kernel_rfl) hv h
  obtain ⟨v0, y0, n0, c0, t0⟩ := hf 0 _ rfl
  obtain ⟨v1, y1, n1, c1, t1⟩ := hf 1 _ rfl
  obtain ⟨A, n, c, b, rfl, hb, hm⟩ := fbyt_of_trod Tryd.underlying22 Tryd.underlying5 (by kernel_rfl) t0
  obtain ⟨z1, rfl, f1⟩ := fint_of_trod Tryd.underlying3 t1
  refine ⟨A, n, c, b, z1, ?_, hb, hm, f1⟩
  unfold rspV
  refine congrArg Value.agg (Array.ext (by simpa using hsz) fun i h1 h2 => ?_)
  have hs7 : cs.size = 2 := by simpa using hsz
  rcases (show i = 0 ∨ i = 1 by omega) with rfl | rfl
  · rw [Array.getElem?_eq_getElem h1] at c0; injection c0
  · rw [Array.getElem?_eq_getElem h1] at c1; injection c1
end
end Go.Proofs.YtibaibdgpnkdnaaDoor
end

section
namespace Go.Proofs.YtibaibdgpnkdnaaDoor
set_option maxRecDepth 100000
set_option linter.unusedSimpArgs false
set_option linter.unusedVariables false
open Go.RowKit Go.ChangeShapes Go.WideShapes Go.Deep

theorem bytes_of_trod {H : Type} {enc : TypeId × Value → H} {w : World} {base : Nat} {spare : Nat → Bool} {held : Bool} {A : Option Addr} {n c : Nat} {d : DataW H} {p : List MemPlace}
    (h : DataW.Trod enc Tryd.prog w base spare held 22 (.slice A n c) d p) : ∃ b, Byt w w.heap.size A n c b ∧ c ≤ maxLen := by
  obtain ⟨fuel, hf⟩ := h
  have hc : (Value.slice A n c).cells.toList = [.slice A n c] := rfl
  obtain ⟨A2, l2, c2, b, e, hb, hm⟩ := fbyt_of_trod (v := .slice A n c) Tryd.underlying22 Tryd.underlying5 (by kernel_rfl) hf
  injection e with e1 e2 e3
  subst e1 e2 e3
  exact ⟨b, hb, hm⟩
end Go.Proofs.YtibaibdgpnkdnaaDoor
end

section
namespace Go.Proofs.YtibaibdgpnkdnaaDoor
set_option maxRecDepth 100000
set_option linter.unusedSimpArgs false
set_option linter.unusedVariables false
open Go.RowKit Go.ChangeShapes Go.WideShapes Go.Deep

theorem weights_all {H : Type} {P : Program} {e : TypeId} {d : DataW H} {x : Nat} : ∀ {l : List (DataW H)}, d ∈ l → x ∈ DataW.weights P e d → x ∈ DataW.weightsAll P e l
  | [], hd, _ => by cases hd
  | y :: l, hd, hx => by
    simp only [DataW.weightsAll, List.mem_append]
    rcases List.mem_cons.1 hd with rfl | h
    · exact .inl hx
    · exact .inr (weights_all h hx)
theorem bss_of_trod {H : Type} {enc : TypeId × Value → H} {w : World} {base : Nat} {held : Bool} {A : Option Addr} {n c : Nat} {d : DataW H} {p : List MemPlace}
    (h : DataW.Trod enc Tryd.prog w base (fun _ => true) held 77 (.slice A n c) d p) (hsz : ∀ x ∈ DataW.weights Tryd.prog 77 d, x ≤ reachBytes) : ∃ vs : List SV, (vs.length = n ∧ Byts w w.heap.size A vs ∧ n ≤ c ∧ ∀ v ∈ vs, v.c ≤ 140737488351232) ∧ c ≤ maxLen := by
  obtain ⟨fuel, hf⟩ := h
  rcases open_int_rows Tryd.underlying77 Tryd.underlying22 Tryd.underlying5 (by kernel_rfl) (by kernel_rfl) hf with ⟨hcs, _⟩ | ⟨a, len, cap, X, L, C, Z, hcs, _, hl, hm, hdp, hr⟩
  · simp [Value.cells] at hcs
    obtain ⟨rfl, rfl, rfl⟩ := hcs
    exact ⟨[], ⟨rfl, ⟨Row.nil _ _ _, fun v hv => (by cases hv)⟩, Nat.le_refl _, fun v hv => (by cases hv)⟩, Nat.zero_le _⟩
  · simp [Value.cells] at hcs
    obtain ⟨rfl, rfl, rfl⟩ := hcs
    have hd : d = .slice ((List.range n).map fun r => intRow .u8 (X r) (L r) (Z r)) ((List.range (c - n)).map fun j => intRow .u8 (X (n + j)) (L (n + j)) (Z (n + j))) := by
      injection hdp
    have hbyt : (Tryd.prog).bytesOf 5 = 1 := by kernel_rfl
    have key : ∀ r, r < n → ∃ v : SV, w.cell? (a.add r) = some (.slice v.a v.n v.c) ∧ Byt w w.heap.size v.a v.n v.c v.bs ∧ v.c ≤ 140737488351232 := fun r hrn => by
      obtain ⟨h1, h2, h3, h4, h5, h6, h7⟩ := hr r (by omega)
      have hcr : C r ≤ 140737488351232 := by
        cases hx : X r with
        | none => have := h6 hx; omega
        | some a' =>
          have hw : C r ∈ DataW.weights (H := H) Tryd.prog 22 (intRow .u8 (X r) (L r) (Z r)) := by
            rw [hx]
            simp only [intRow, DataW.weights, Tryd.underlying22, hbyt, Nat.mul_one]
            refine List.mem_cons.2 (.inl ?_)
            simp only [lits, List.length_map, List.length_take, List.length_drop]
            omega
          have hin : C r ∈ DataW.weights (H := H) Tryd.prog 77 d := by
            rw [hd]
            simp only [DataW.weights, Tryd.underlying77]
            refine List.mem_cons.2 (.inr (List.mem_append.2 (.inl (weights_all (List.mem_map.2 ⟨r, List.mem_range.2 hrn, rfl⟩) hw))))
          have := hsz _ hin
          simp only [reachBytes] at this
          omega
      have : ∃ bs, Byt w w.heap.size (X r) (L r) (C r) bs ∧ C r ≤ maxLen := by
        refine byt_of_row (zs := Z r) ?_
        cases hx : X r with
        | none =>
          have hc0 := h6 hx
          exact .inl ⟨rfl, by omega, hc0, List.eq_nil_of_length_eq_zero (by rw [h4]; exact hc0)⟩
        | some a' =>
          obtain ⟨_, h8⟩ := h7 a' hx
          exact .inr ⟨a', rfl, h2, h3, h4, fun i hi => h8 i (by omega), h5⟩
      obtain ⟨bs, hb, _⟩ := this
      exact ⟨⟨X r, L r, C r, bs⟩, h1, hb, hcr⟩
    obtain ⟨f, hf⟩ := @choose_lt _ ⟨(⟨none, 0, 0, []⟩ : SV)⟩ n _ key
    refine ⟨(List.range n).map f, ⟨by simp, ⟨fun hn => ?_, fun v hv => ?_⟩, hl, fun v hv => ?_⟩, hm⟩
    · have hn0 : 0 < n := by simpa using hn
      obtain ⟨b, o, rfl, hb⟩ := spot_none ((hf 0 hn0).1)
      refine ⟨b, o, rfl, hb, fun j hj => ?_⟩
      have hjn : j < n := by simpa using hj
      have := (hf j hjn).1
      rw [add_eq] at this
      rw [this]
      simp [hjn, SV.val]
    · obtain ⟨r, hr2, rfl⟩ := List.mem_map.1 hv
      exact (hf r (List.mem_range.1 hr2)).2.1
    · obtain ⟨r, hr2, rfl⟩ := List.mem_map.1 hv
      exact (hf r (List.mem_range.1 hr2)).2.2
end Go.Proofs.YtibaibdgpnkdnaaDoor
end

section
namespace Go.Proofs.YtibaibdgpnkdnaaDoor
set_option maxRecDepth 100000
set_option linter.unusedSimpArgs false
set_option linter.unusedVariables false
open Go.RowKit Go.ChangeShapes Go.WideShapes Go.Deep

/-- The types of a struct's cells, field by field, from a place on. -/
def flatFs (P : Program) (F : TypeId → Option (List TypeId)) : List Field → Nat → Option (List TypeId)
  | [], _ => some []
  | f :: r, off => match F f.type with
    | none => none
    | some a => if f.offset = off ∧ P.cellsOf f.type = a.length then (match flatFs P F r (off + a.length) with
      | none => none
      | some b => some (a ++ b)) else none
/-- The types of a value's cells. -/
def flat (P : Program) : Nat → TypeId → Option (List TypeId)
  | 0, _ => none
  | k + 1, t => match P.underlying t with
    | some (.struct fs) => (match flatFs P (flat P k) fs.toList 0 with
      | none => none
      | some ts => if P.cellsOf t = ts.length then some ts else none)
    | some _ => if P.cellsOf t = 1 then some [t] else none
    | none => none

section
variable {H : Type} {enc : TypeId × Value → H} {P : Program} {w : World} {base : Nat} {spare : Nat → Bool} {held : Bool}
/-- What is read of a cell. -/
def CellRead (enc : TypeId × Value → H) (P : Program) (w : World) (base : Nat) (spare : Nat → Bool) (held : Bool) (t : TypeId) (d : DataW H) (v : Value) (T : TypeId) : Prop :=
  ∃ (y : DataW H × List MemPlace) (n : Nat), DataW.trod enc P w base spare held n T [v] = some y ∧ ∀ z ∈ DataW.weights P T y.1, z ∈ DataW.weights P t d
theorem flatFs_read {F : TypeId → Option (List TypeId)} {t : TypeId} {fs : Array Field} {cs : List Value} {xs : List (DataW H × List MemPlace)} {n : Nat} (ht : P.underlying t = some (.struct fs)) (hlen : xs.length = fs.size)
    (hF : ∀ T a, F T = some a → ∀ (cs : List Value) (x : DataW H × List MemPlace), cs.length = P.cellsOf T → DataW.trod enc P w base spare held n T cs = some x → ∀ (i : Nat) (U : TypeId), a[i]? = some U → ∃ v, cs[i]? = some v ∧ CellRead enc P w base spare held T x.1 v U)
    (hf : ∀ (i : Nat) (f : Field), fs[i]? = some f → DataW.trod enc P w base spare held n f.type ((cs.drop f.offset).take (P.cellsOf f.type)) = xs[i]?) :
    ∀ (r : List Field) (j off : Nat) (b : List TypeId), fs.toList.drop j = r → flatFs P F r off = some b → off + b.length ≤ cs.length → ∀ (i : Nat) (U : TypeId), b[i]? = some U → ∃ v, cs[off + i]? = some v ∧ CellRead enc P w base spare held t (.agg (xs.map (·.1))) v U := by
  intro r
  induction r with
  | nil =>
    intro j off b _ hb _ i U hi
    simp only [flatFs] at hb
    injection hb with hb
    subst hb
    simp at hi
  | cons f r ih =>
    intro j off b hj hb hle i U hi
    simp only [flatFs] at hb
    cases ha : F f.type with
    | none => rw [ha] at hb; cases hb
    | some a =>
      rw [ha] at hb
      simp only at hb
      split at hb
      · rename_i hoff
        cases hc : flatFs P F r (off + a.length) with
        | none => rw [hc] at hb; cases hb
        | some c =>
          rw [hc] at hb
          simp only at hb
          injection hb with hb
          subst hb
          rw [List.length_append] at hle
          have hfj : fs[j]? = some f := by
            have : (fs.toList.drop j)[0]? = some f := by rw [hj]; rfl
            rw [List.getElem?_drop] at this
            simpa using this
          have hjl : j < fs.size := (Array.getElem?_eq_some_iff.1 hfj).1
          by_cases hia : i < a.length
          · have h1 := hf j f hfj
            rw [hoff.1, List.getElem?_eq_getElem (by omega)] at h1
            obtain ⟨v, hv, y, m, hy, hz⟩ := hF f.type a ha ((cs.drop off).take (P.cellsOf f.type)) _ (by rw [List.length_take, List.length_drop, hoff.2]; omega) h1 i U (by rw [List.getElem?_append_left hia] at hi; exact hi)
            refine ⟨v, ?_, y, m, hy, fun z hz2 => ?_⟩
            · rw [List.getElem?_take, if_pos (by rw [hoff.2]; exact hia), List.getElem?_drop] at hv
              exact hv
            · have h2 := hz z hz2
              simp only [DataW.weights, ht]
              refine DataW.weights_mem_each (j := j) (t := f.type) (d := (xs[j]'(by omega)).1) ?_ ?_ z h2
              · rw [List.getElem?_map, Array.getElem?_toList, hfj]; rfl
              · rw [List.getElem?_map, List.getElem?_eq_getElem (by omega)]; rfl
          · obtain ⟨v, hv, hr⟩ := ih (j + 1) (off + a.length) c (by rw [← List.drop_drop, hj]; rfl) hc (by omega) (i - a.length) U (by rw [List.getElem?_append_right (by omega)] at hi; exact hi)
            refine ⟨v, ?_, hr⟩
            rw [show off + i = off + a.length + (i - a.length) by omega]
            exact hv
      · cases hb
theorem flat_read : ∀ (k : Nat) (t : TypeId) (ts : List TypeId), flat P k t = some ts → ∀ (fuel : Nat) (cs : List Value) (x : DataW H × List MemPlace), cs.length = P.cellsOf t → DataW.trod enc P w base spare held fuel t cs = some x →
    ∀ (i : Nat) (T : TypeId), ts[i]? = some T → ∃ v, cs[i]? = some v ∧ CellRead enc P w base spare held t x.1 v T
  | 0, _, _, h => by simp [flat] at h
  | k + 1, t, ts, h => by
    intro fuel cs x hlen hx i T hi
    rw [flat] at h
    cases hu : P.underlying t with
    | none => rw [hu] at h; cases h
    | some d =>
      rw [hu] at h
      by_cases hs : ∃ fs, d = .struct fs
      · obtain ⟨fs, rfl⟩ := hs
        simp only at h
        cases hff : flatFs P (flat P k) fs.toList 0 with
        | none => rw [hff] at h; cases h
        | some b =>
          rw [hff] at h
          simp only at h
          split at h
          · rename_i hcl
            injection h with h
            subst h
            obtain ⟨xs, n, rfl, rfl, hl, hxl, hf⟩ := DataW.trod_struct hu hx
            have := flatFs_read (enc := enc) (w := w) (base := base) (spare := spare) (held := held) (F := flat P k) hu hxl (fun T a ha cs x hl2 hx2 => flat_read k T a ha n cs x hl2 hx2) hf fs.toList 0 0 b rfl hff (by omega) i T hi
            simpa using this
          · cases h
      · have h1 : (if P.cellsOf t = 1 then some [t] else none) = some ts := by
          cases d <;> first | exact h | exact absurd ⟨_, rfl⟩ hs
        split at h1
        · rename_i hc
          injection h1 with h1
          subst h1
          have hi0 : i = 0 := by
            cases i with
            | zero => rfl
            | succ i => simp at hi
          subst hi0
          have hT : T = t := by simpa using hi.symm
          subst hT
          rw [hc] at hlen
          obtain ⟨v, rfl⟩ := List.length_eq_one_iff.1 hlen
          exact ⟨v, rfl, x, fuel, hx, fun z hz => hz⟩
        · cases h1
/-- A struct by value. -/
theorem flat_agg {k : Nat} {t : TypeId} {ts : List TypeId} {fs : Array Field} {r : Reach} {b0 : Nat} {v : Value} {d : DataW H} {p : List MemPlace} (hs : P.underlying t = some (.struct fs)) (hfl : flat P k t = some ts)
    (hv : Value.okWide P w r b0 t v) (h : DataW.Trod enc P w base spare held t v d p) : ∃ cs : Array Value, v = .agg cs ∧ cs.size = P.cellsOf t ∧ ∀ (i : Nat) (T : TypeId), ts[i]? = some T → ∃ u, cs[i]? = some u ∧ CellRead enc P w base spare held t d u T := by
  obtain ⟨cs, rfl, hsz⟩ := okWide_struct hs hv
  obtain ⟨fuel, hf⟩ := h
  refine ⟨cs, rfl, hsz, fun i T hi => ?_⟩
  have hc : (Value.agg cs).cells = cs := rfl
  rw [hc] at hf
  obtain ⟨u, hu, hr⟩ := flat_read k t ts hfl fuel cs.toList _ (by simpa using hsz) hf i T hi
  exact ⟨u, by simpa using hu, hr⟩
/-- A slice of structs. -/
theorem flat_slice {k : Nat} {t e : TypeId} {ts : List TypeId} {fuel : Nat} {cs : List Value} {x : DataW H × List MemPlace} (ht : P.underlying t = some (.slice e)) (hfl : flat P k e = some ts)
    (h : DataW.trod enc P w base spare held fuel t cs = some x) :
    cs = [.slice none 0 0] ∨ ∃ (a : Addr) (len cap : Nat), cs = [.slice (some a) len cap] ∧ len ≤ cap ∧ cap ≤ maxLen ∧
      ∀ i, i < len → ∀ (j : Nat) (T : TypeId), ts[j]? = some T → ∃ u, w.cell? (a.add (i * P.cellsOf e + j)) = some u ∧ CellRead enc P w base spare held t x.1 u T := by
  rcases open_slice ht h with h0 | ⟨a, len, cap, m, n, D, Pl, hcs, _, hl, hm, hmm, hx, hi⟩
  · exact .inl h0.1
  · refine .inr ⟨a, len, cap, hcs, hl, hm, fun i hlt j T hj => ?_⟩
    obtain ⟨l, hc, hd⟩ := hi i (by rw [hmm]; split <;> omega)
    obtain ⟨_, hll, hat⟩ := World.cells?_some hc
    obtain ⟨u, hu, y, n2, hy, hz⟩ := flat_read k e ts hfl n l _ (by omega) hd j T hj
    have hjl : j < l.length := (List.getElem?_eq_some_iff.1 hu).1
    refine ⟨u, ?_, y, n2, hy, fun z hz2 => ?_⟩
    · rw [← add_add, hat j (by omega), hu]
    · rw [hx]
      simp only [DataW.weights, ht]
      refine List.mem_cons.2 (.inr (List.mem_append.2 (.inl ?_)))
      exact weights_all (d := D i) (List.mem_map.2 ⟨i, List.mem_range.2 hlt, rfl⟩) (hz z hz2)
/-- A cell that is an int, a truth value, a slice of bytes. -/
theorem CellRead.int {t T : TypeId} {d : DataW H} {v : Value} (h : CellRead enc P w base spare held t d v T) (hT : P.underlying T = some (.int .i64)) : ∃ z, v = .int .i64 z ∧ -9223372036854775808 ≤ z ∧ z ≤ 9223372036854775807 := by
  obtain ⟨y, n, hy, _⟩ := h
  exact fint_of_trod hT hy
theorem CellRead.bool {t T : TypeId} {d : DataW H} {v : Value} (h : CellRead enc P w base spare held t d v T) (hT : P.underlying T = some .bool) : ∃ z, v = .bool z := by
  obtain ⟨y, n, hy, _⟩ := h
  exact fbool_of_trod hT hy
theorem CellRead.byt {t T e : TypeId} {d : DataW H} {v : Value} (h : CellRead enc P w base spare held t d v T) (hT : P.underlying T = some (.slice e)) (he : P.underlying e = some (.int .u8)) (hC : P.cellsOf e = 1) :
    ∃ A len cap bs, v = .slice A len cap ∧ Byt w w.heap.size A len cap bs ∧ cap ≤ maxLen := by
  obtain ⟨y, n, hy, _⟩ := h
  exact fbyt_of_trod hT he hC hy
end
/-- Records, one behind the other, s cells each. -/
def Recs {α : Type} (cells : α → List Value) (s : Nat) (w : World) (B : Nat) (A : Option Addr) (l : List α) : Prop :=
  0 < l.length → ∃ b o, A = some ⟨b, o, none⟩ ∧ b < B ∧ ∀ (k : Nat) (x : α), l[k]? = some x → ∀ (j : Nat) (v : Value), (cells x)[j]? = some v → w.cell? ⟨b, o + (k * s + j), none⟩ = some v
theorem Recs.below {α : Type} {cells : α → List Value} {s : Nat} {w w' : World} {B : Nat} {A : Option Addr} {l : List α} (h : Recs cells s w B A l) (hb : Below B w w') : Recs cells s w' B A l := fun hn => by
  obtain ⟨b, o, e, hlt, hc⟩ := h hn
  exact ⟨b, o, e, hlt, fun k x hk j v hv => (World.cell?_of_block (hb.block b hlt)).trans (hc k x hk j v hv)⟩
theorem Recs.more {α : Type} {cells : α → List Value} {s : Nat} {w : World} {B B' : Nat} {A : Option Addr} {l : List α} (h : Recs cells s w B A l) (hB : B ≤ B') : Recs cells s w B' A l := fun hn => by
  obtain ⟨b, o, e, hlt, hc⟩ := h hn
  exact ⟨b, o, e, Nat.lt_of_lt_of_le hlt hB, hc⟩
theorem recs_of {α : Type} [Inhabited α] {cells : α → List Value} {s n : Nat} {w : World} {a : Addr} {G : α → Prop} (h0 : ∀ x, ∃ v, (cells x)[0]? = some v)
    (key : ∀ i, i < n → ∃ x : α, (∀ (j : Nat) (v : Value), (cells x)[j]? = some v → w.cell? (a.add (i * s + j)) = some v) ∧ G x) : ∃ l : List α, l.length = n ∧ Recs cells s w w.heap.size (some a) l ∧ ∀ x ∈ l, G x := by
  obtain ⟨f, hf⟩ := choose_lt (n := n) key
  refine ⟨(List.range n).map f, by simp, fun hn => ?_, fun x hx => ?_⟩
  · have hn0 : 0 < n := by simpa using hn
    obtain ⟨v, hv⟩ := h0 (f 0)
    have h00 := (hf 0 hn0).1 0 v hv
    rw [show 0 * s + 0 = 0 by omega] at h00
    obtain ⟨b, o, rfl, hb⟩ := spot_none h00
    refine ⟨b, o, rfl, hb, fun k x hk j u hu => ?_⟩
    have hkn : k < n := by
      have := (List.getElem?_eq_some_iff.1 hk).1
      simpa using this
    have e : x = f k := by
      rw [List.getElem?_map, List.getElem?_range hkn] at hk
      simpa using hk.symm
    subst e
    have := (hf k hkn).1 j u hu
    rw [add_eq] at this
    exact this
  · obtain ⟨r, hr, rfl⟩ := List.mem_map.1 hx
    exact (hf r (List.mem_range.1 hr)).2
end Go.Proofs.YtibaibdgpnkdnaaDoor
end

section
namespace Go.Proofs.YtibaibdgpnkdnaaDoor
set_option maxRecDepth 100000
set_option linter.unusedSimpArgs false
set_option linter.unusedVariables false
open Go.RowKit
section
variable {P : Program} {ops : Array Oper} {Q : Exit → Act → World → Prop} {md : Region.Mode} {S : World → Prop} {late : List Nat}

/-- S, as long as none of the late ones has come up. -/
def Early (late : List Nat) (S : World → Prop) (l : Array Bool) (w : World) : Prop := (∀ j ∈ late, l.getD j true = false) → S w
/-- Whatever order is picked, S holds behind every operation until a late one comes up. -/
def wpAnyP (P : Program) (md : Region.Mode) (ops : Array Oper) (Q : Exit → Act → World → Prop) (late : List Nat) (S : World → Prop) : Nat → Array Bool → Act → World → Prop
  | 0, l, a, w => Region.ready md ops l = [] ∧ Q .normal a w
  | n + 1, l, a, w => (Region.ready md ops l = [] → Q .normal a w) ∧ ∀ i ∈ Region.ready md ops l, wpOp P ops Q i (fun a' w' => Early late S (l.setIfInBounds i true) w' ∧ wpAnyP P md ops Q late S n (l.setIfInBounds i true) a' w') a w
theorem wpAny_of_P : ∀ (n : Nat) (l : Array Bool) (a : Act) (w : World), wpAnyP P md ops Q late S n l a w → wpAny P md ops Q n l a w
  | 0, _, _, _, h => h
  | n + 1, _, _, _, h => ⟨h.1, fun i hi => wpOp_mono (fun a' w' h' => wpAny_of_P n _ a' w' h'.2) (h.2 i hi)⟩
/-- Every late one waits for i. -/
def waitsFor (md : Region.Mode) (ops : Array Oper) (late : List Nat) (i : Nat) : Bool := late.all fun j => match ops[j]? with
  | some o => o.after.any fun e => Region.binds md e && e.on == i
  | none => false
theorem wpAnyP_first {i : Nat} {oi : Oper} {v : Value} (hi : ops[i]? = some oi) (hsel : ∀ (j : Nat) (o : Oper) cs b, ops[j]? = some o → o.op ≠ .select cs b)
    (hQ : ∀ c a w, Q (.panic c) (a.put oi.dst v) w → Q (.panic c) a w) (hwait : waitsFor md ops late i = true) (hni : i ∉ late) : ∀ (n : Nat) (l : Array Bool) (a : Act) (w : World),
      (∀ j oj, ops[j]? = some oj → j ≠ i → l.getD j true = false → (∀ e ∈ oj.after, Region.binds md e = true → e.on ≠ i) → oi.apart ops oj = true) →
      (∀ j ∈ late, l.getD j true = false) → i ∈ Region.ready md ops l → YieldsIf P ops S oi v a → S w →
      wpAnyP P md ops Q late S n (l.setIfInBounds i true) (a.put oi.dst v) w → wpAnyP P md ops Q late S (n + 1) l a w := by
  intro n
  induction n with
  | zero =>
    intro l a w _ _ hr hy hS H
    refine ⟨fun h => (by rw [h] at hr; cases hr), fun j hj => ?_⟩
    by_cases hji : j = i
    · subst hji; exact hy.wpOp hi hS ⟨fun _ => hS, H⟩
    · have h1 := ready_mono hj hji
      rw [H.1] at h1
      cases h1
  | succ n ih =>
    intro l a w hfree hl hr hy hS H
    refine ⟨fun h => (by rw [h] at hr; cases hr), fun j hj => ?_⟩
    by_cases hji : j = i
    · subst hji; exact hy.wpOp hi hS ⟨fun _ => hS, H⟩
    · obtain ⟨hjun, oj, hoj, hall⟩ := mem_ready.1 hj
      have hiun : l.getD i true = false := (mem_ready.1 hr).1
      have hnot : ∀ e ∈ oj.after, Region.binds md e = true → e.on ≠ i := fun e he hb heq => by
        have h1 := hall e he hb
        rw [heq] at h1
        have hlt : i < l.size := by
          rcases Nat.lt_or_ge i l.size with h' | h'
          · exact h'
          · simp [Array.getElem?_eq_none h'] at hiun
        simp [hlt] at h1 hiun
        rw [hiun] at h1; cases h1
      have hjl : j ∉ late := fun hjl => by
        have h1 := (List.all_eq_true.1 hwait) j hjl
        rw [hoj] at h1
        obtain ⟨e, he, h2⟩ := Array.any_eq_true'.1 h1
        simp only [Bool.and_eq_true, beq_iff_eq] at h2
        exact hnot e he h2.1 h2.2
      have h2 := wpOp_putIf hoj (hfree j oj hoj hji hjun hnot) (fun cs b => hsel i oi cs b hi) (fun cs b => hsel j oj cs b hoj) hQ hy (H.2 j (ready_mono hj hji))
      have hl2 : ∀ k ∈ late, (l.setIfInBounds j true).getD k true = false := fun k hk => by
        rw [getD_set_ne true (show j ≠ k from fun e => hjl (e ▸ hk))]; exact hl k hk
      have hl3 : ∀ k ∈ late, ((l.setIfInBounds i true).setIfInBounds j true).getD k true = false := fun k hk => by
        rw [getD_set_ne true (show j ≠ k from fun e => hjl (e ▸ hk)), getD_set_ne true (show i ≠ k from fun e => hni (e ▸ hk))]; exact hl k hk
      refine wpOp_mono (fun a' w' h3 => ?_) h2
      have hS' : S w' := h3.2.1 hl3
      refine ⟨fun _ => hS', ih (l.setIfInBounds j true) a' w' (fun k ok hk hki hun hno => ?_) hl2 (ready_mono hr (Ne.symm hji)) h3.1 hS' ?_⟩
      · refine hfree k ok hk hki ?_ hno
        by_cases hjk : j = k
        · subst hjk; exact hjun
        · rw [getD_set_ne true hjk] at hun; exact hun
      · rw [Array.setIfInBounds_comm _ _ hji]
        exact h3.2.2
/-- What yields its value in whatever world may be taken first, whether late ones have come up or not. -/
theorem wpAnyP_pure {i : Nat} {oi : Oper} {v : Value} (hi : ops[i]? = some oi) (hsel : ∀ (j : Nat) (o : Oper) cs b, ops[j]? = some o → o.op ≠ .select cs b)
    (hQ : ∀ c a w, Q (.panic c) (a.put oi.dst v) w → Q (.panic c) a w) (hni : i ∉ late) : ∀ (n : Nat) (l : Array Bool) (a : Act) (w : World),
      (∀ j oj, ops[j]? = some oj → j ≠ i → l.getD j true = false → (∀ e ∈ oj.after, Region.binds md e = true → e.on ≠ i) → oi.apart ops oj = true) →
      i ∈ Region.ready md ops l → YieldsIf P ops (fun _ => True) oi v a → Early late S l w →
      wpAnyP P md ops Q late S n (l.setIfInBounds i true) (a.put oi.dst v) w → wpAnyP P md ops Q late S (n + 1) l a w := by
  have hun : ∀ {l : Array Bool} {w : World}, Early late S l w → Early late S (l.setIfInBounds i true) w := fun {l w} h hl => h fun k hk => by
    have := hl k hk
    rwa [getD_set_ne true (show i ≠ k from fun e => hni (e ▸ hk))] at this
  intro n
  induction n with
  | zero =>
    intro l a w _ hr hy hS H
    refine ⟨fun h => (by rw [h] at hr; cases hr), fun j hj => ?_⟩
    by_cases hji : j = i
    · subst hji; exact hy.wpOp hi trivial ⟨hun hS, H⟩
    · have h1 := ready_mono hj hji
      rw [H.1] at h1
      cases h1
  | succ n ih =>
    intro l a w hfree hr hy hS H
    refine ⟨fun h => (by rw [h] at hr; cases hr), fun j hj => ?_⟩
    by_cases hji : j = i
    · subst hji; exact hy.wpOp hi trivial ⟨hun hS, H⟩
    · obtain ⟨hjun, oj, hoj, hall⟩ := mem_ready.1 hj
      have hiun : l.getD i true = false := (mem_ready.1 hr).1
      have hnot : ∀ e ∈ oj.after, Region.binds md e = true → e.on ≠ i := fun e he hb heq => by
        have h1 := hall e he hb
        rw [heq] at h1
        have hlt : i < l.size := by
          rcases Nat.lt_or_ge i l.size with h' | h'
          · exact h'
          · simp [Array.getElem?_eq_none h'] at hiun
        simp [hlt] at h1 hiun
        rw [hiun] at h1; cases h1
      have h2 := wpOp_putIf hoj (hfree j oj hoj hji hjun hnot) (fun cs b => hsel i oi cs b hi) (fun cs b => hsel j oj cs b hoj) hQ hy (H.2 j (ready_mono hj hji))
      refine wpOp_mono (fun a' w' h3 => ?_) h2
      have hS' : Early late S (l.setIfInBounds j true) w' := fun hl => h3.2.1 fun k hk => by
        have := hl k hk
        rw [Array.setIfInBounds_comm _ _ (Ne.symm hji), getD_set_ne true (show i ≠ k from fun e => hni (e ▸ hk))]
        exact this
      refine ⟨hS', ih (l.setIfInBounds j true) a' w' (fun k ok hk hki hun hno => ?_) (ready_mono hr (Ne.symm hji)) h3.1 hS' ?_⟩
      · refine hfree k ok hk hki ?_ hno
        by_cases hjk : j = k
        · subst hjk; exact hjun
        · rw [getD_set_ne true hjk] at hun; exact hun
      · rw [Array.setIfInBounds_comm _ _ hji]
        exact h3.2.2
theorem wpAnyP_takeP {l : List Bool} {i b : Nat} {oi : Oper} {n : Nat} {a : Act} {w : World} (_ : Seek l b i) (hi : ops[i]? = some oi)
    (h : ∃ v, Region.noSelect ops = true ∧ Region.free md ops l.toArray i = true ∧ (Region.ready md ops l.toArray).contains i = true ∧ late.contains i = false ∧
      (∀ c a w, Q (.panic c) (a.put oi.dst v) w → Q (.panic c) a w) ∧ YieldsIf P ops (fun _ => True) oi v a ∧ Early late S l.toArray w ∧ wpAnyP P md ops Q late S n (l.toArray.setIfInBounds i true) (a.put oi.dst v) w) : wpAnyP P md ops Q late S (n + 1) l.toArray a w := by
  obtain ⟨v, hs, hf, hr, hni, hQ, hy, hS, h⟩ := h
  exact wpAnyP_pure hi (Region.noSelect_spec hs) hQ (fun e => by rw [List.contains_iff_mem.2 e] at hni; cases hni) n _ a w (Region.free_spec hi hf) (by simpa using hr) hy hS h
theorem Early.of {l : Array Bool} {w : World} (h : S w) : Early late S l w := fun _ => h
theorem Early.off {l : Array Bool} {w : World} (h : (late.all fun j => !l.getD j true) = false) : Early late S l w := fun hl => by
  rw [List.all_eq_true.2 (fun j hj => by simp [hl j hj])] at h
  cases h
/-- Take number i first. -/
theorem wpAnyP_take {l : List Bool} {i b : Nat} {oi : Oper} {n : Nat} {a : Act} {w : World} (_ : Seek l b i) (hi : ops[i]? = some oi)
    (h : ∃ v, Region.noSelect ops = true ∧ Region.free md ops l.toArray i = true ∧ (Region.ready md ops l.toArray).contains i = true ∧ waitsFor md ops late i = true ∧ late.contains i = false ∧ (late.all fun j => !l.toArray.getD j true) = true ∧
      (∀ c a w, Q (.panic c) (a.put oi.dst v) w → Q (.panic c) a w) ∧ YieldsIf P ops S oi v a ∧ S w ∧ wpAnyP P md ops Q late S n (l.toArray.setIfInBounds i true) (a.put oi.dst v) w) : wpAnyP P md ops Q late S (n + 1) l.toArray a w := by
  obtain ⟨v, hs, hf, hr, hw, hni, hl, hQ, hy, hS, h⟩ := h
  exact wpAnyP_first hi (Region.noSelect_spec hs) hQ hw (fun e => by rw [List.contains_iff_mem.2 e] at hni; cases hni) n _ a w (Region.free_spec hi hf) (fun j hj => by simpa using List.all_eq_true.1 hl j hj) (by simpa using hr) hy hS h
/-- One alone may come up: before the late ones. -/
theorem wpAnyP_one {n : Nat} {l : Array Bool} {a : Act} {w : World} (i : Nat) (hr : Region.ready md ops l = [i]) {o : Oper} (ho : ops[i]? = some o)
    (h : ∀ K' : Act → World → Prop, Shut (∀ a w, S w → (S w → wpAnyP P md ops Q late S n (l.setIfInBounds i true) a w) → K' a w) → if Region.wanted o (yielded ops a.tmps) = true then Oper.wp P o a w K' Q else K' (a.put o.dst undef) w) : wpAnyP P md ops Q late S (n + 1) l a w := by
  refine ⟨fun h0 => (by rw [hr] at h0; cases h0), fun j hj => ?_⟩
  rw [hr, List.mem_singleton] at hj
  subst hj
  exact wpOp_step ho (fun K' hK => h K' (fun a w hS hW => hK a w ⟨fun _ => hS, hW hS⟩))
/-- .. a late one, or one behind a late one. -/
theorem wpAnyP_last {n : Nat} {l : Array Bool} {a : Act} {w : World} (i : Nat) (hr : Region.ready md ops l = [i]) {o : Oper} (ho : ops[i]? = some o) (hlate : (late.all fun j => !(l.setIfInBounds i true).getD j true) = false)
    (h : ∀ K' : Act → World → Prop, Shut (∀ a w, wpAnyP P md ops Q late S n (l.setIfInBounds i true) a w → K' a w) → if Region.wanted o (yielded ops a.tmps) = true then Oper.wp P o a w K' Q else K' (a.put o.dst undef) w) : wpAnyP P md ops Q late S (n + 1) l a w := by
  refine ⟨fun h0 => (by rw [hr] at h0; cases h0), fun j hj => ?_⟩
  rw [hr, List.mem_singleton] at hj
  subst hj
  refine wpOp_step ho (fun K' hK => h K' (fun a w hW => hK a w ⟨fun hl => ?_, hW⟩))
  rw [List.all_eq_true.2 (fun j hj => by simp [hl j hj])] at hlate
  cases hlate
theorem wpAnyP_done {l : Array Bool} {a : Act} {w : World} (hr : Region.ready md ops l = []) (h : Q .normal a w) : ∀ n, wpAnyP P md ops Q late S n l a w
  | 0 => ⟨hr, h⟩
  | _ + 1 => ⟨fun _ => h, by rw [hr]; simp⟩
theorem wpAnyP_fresh {os : List Oper} {l : List Bool} {n : Nat} {a : Act} {w : World} (hl : Fresh os l) (h : wpAnyP P md os.toArray Q late S n l.toArray a w) : wpAnyP P md os.toArray Q late S n (Array.replicate os.toArray.size false) a w := by
  have : Array.replicate os.toArray.size false = l.toArray := by rw [hl.is]; simp
  rw [this]; exact h
/-- The beginning. -/
theorem wp_region_phase {id : Nat} {a : Act} {w : World} (late : List Nat) (hm : P.follows .mixedOrders = true) (hS : S w.drew)
    (h : S w.drew → wpAnyP P .any ops Q late S ops.size (Array.replicate ops.size false) a w.drew) : (Code.region id ops true).wp P Q a w :=
  wp_region_any hm (wpAny_of_P _ _ _ _ (h hS))
end
end Go.Proofs.YtibaibdgpnkdnaaDoor
end

section
namespace Go.Proofs.YtibaibdgpnkdnaaDoor
set_option maxRecDepth 100000
set_option linter.unusedSimpArgs false
set_option linter.unusedVariables false
open Go.RowKit

theorem or_chain : ∀ h : Fin 255, (h.val : Int) / 16 % 2 ≠ 1 → bits .or .i64 (h.val : Int) 16 = (h.val : Int) + 16 := by decide +kernel

theorem c_info : (Tryd.prog.info? 26).map (fun i => (i.zero, i.size, i.bytes)) = some (some (.agg #[.int .i64 0, .int .i64 0, .int .i64 0, .int .i64 0, .slice none 0 0, .int .i64 0, .bool false]), 7, 72) := by kernel_rfl
/-- An element of a chain ahead of its last. -/
def midV (cla ins p1 p2 : Int) (v : SV) : CV := ⟨cla + 16, ins, p1, p2, v, 0, false⟩

/-- The last of some commands of the call's own, and what stores make of it. -/
theorem own_last {w : World} {base : Nat} {t : TypeId} {A : Option Addr} {q c : Nat} {l0 : List CV} {x : CV} (h : Own w base t 7 A (q + 1) c (ccells (l0 ++ [x]))) (hq : l0.length = q) :
    ∃ g, A = some ⟨g, 0, none⟩ ∧ base ≤ g ∧ g < w.heap.size ∧ (∀ i, w.frozen? ⟨g, i, none⟩ = false) ∧ w.cell? ⟨g, q * 7, none⟩ = some (I64 x.cla) ∧ w.cell? ⟨g, q * 7 + 5, none⟩ = some (I64 x.le) ∧ w.cell? ⟨g, q * 7 + 6, none⟩ = some (.bool x.long) ∧
      ∀ (a b : Int) (lg : Bool), Own (((w.setCell ⟨g, q * 7, none⟩ (I64 a)).setCell ⟨g, q * 7 + 5, none⟩ (I64 b)).setCell ⟨g, q * 7 + 6, none⟩ (.bool lg)) base t 7 A (q + 1) c (ccells (l0 ++ [⟨a, x.ins, x.p1, x.p2, x.d, b, lg⟩])) := by
  have hlen := length_ccells l0
  obtain ⟨hl, hnc, hm, hc⟩ := h
  obtain ⟨g, cur, e, hb, hh, hs, ht⟩ := hc (by omega)
  have hB : Blk w g t cur := hh
  have hcell : ∀ i, i < 7 → w.cell? ⟨g, q * 7 + i, none⟩ = x.cells[i]? := fun i hi => by
    have h1 : (cur.toList.take ((q + 1) * 7))[q * 7 + i]? = (ccells (l0 ++ [x]))[q * 7 + i]? := by rw [ht]
    rw [List.getElem?_take, if_pos (by omega), ccells_append, ccells_one, List.getElem?_append_right (by omega), show q * 7 + i - (ccells l0).length = i by omega] at h1
    rw [hB.cell, ← h1]; simp
  refine ⟨g, e, hb, hB.lt, hB.frozen, hcell 0 (by omega), hcell 5 (by omega), hcell 6 (by omega), fun a b lg => ⟨?_, hnc, hm, fun _ => ⟨g, _, e, hb, ((hB.set _ _).set _ _).set _ _, ?_, ?_⟩⟩⟩
  · rw [length_ccells] at hl ⊢; simpa using hl
  · simpa using hs
  · simp only [Array.toList_setIfInBounds, List.take_set, ht]
    rw [ccells_append, ccells_append, ccells_one, ccells_one, List.set_append_right _ _ (by omega), List.set_append_right _ _ (by omega), List.set_append_right _ _ (by omega)]
    rw [show q * 7 - (ccells l0).length = 0 by omega, show q * 7 + 5 - (ccells l0).length = 5 by omega, show q * 7 + 6 - (ccells l0).length = 6 by omega]
    rfl

end Go.Proofs.YtibaibdgpnkdnaaDoor
end

section
namespace Go.Proofs.YtibaibdgpnkdnaaDoor
set_option maxRecDepth 100000
set_option linter.unusedSimpArgs false
set_option linter.unusedVariables false
open Go.RowKit

theorem cmpB_eq : ∀ (a b : List UInt8), Lib.compareBytes a b = Oct.cmp a b
  | [], [] => rfl
  | [], _ :: _ => rfl
  | _ :: _, [] => rfl
  | x :: a, y :: b => by
    simp only [Lib.compareBytes, Oct.cmp, UInt8.lt_iff_toNat_lt]
    rw [cmpB_eq a b]
theorem same_beq (a b : List UInt8) : (a == b) = Oct.same a b := by
  rw [Bool.eq_iff_iff, Oct.same_iff, beq_iff_eq]
theorem byt_bytesOf {P : Program} {w : World} {B : Nat} {A : Option Addr} {n c : Nat} {bs : List UInt8} (h : Byt w B A n c bs) : (Extern.Bytes.bytesOf (.slice A n c)).run P w = .ok ⟨bs.toArray⟩ w := by
  cases A with
  | none =>
    have hb : bs = [] := by
      rcases Nat.eq_zero_or_pos n with h0 | h0
      · exact List.eq_nil_of_length_eq_zero (by rw [h.1]; exact h0)
      · obtain ⟨b, o, e, _⟩ := h.at_ h0; cases e
    subst hb
    rfl
  | some a =>
    have hl := Lib.run_loadBytesX (P := P) w (bs.map fun b => (b.toNat : Int)) a .empty (fun j x hj => by
      have hjl : j < bs.length := by have := (List.getElem?_eq_some_iff.1 hj).1; simpa using this
      obtain ⟨b, o, e, _, hc⟩ := h.2.2 (by rw [length_bcells]; omega)
      obtain rfl : a = ⟨b, o, none⟩ := by simpa using e
      rw [add_eq, hc j (by rw [length_bcells]; exact hjl), bcells_get]
      rw [List.getElem?_map] at hj
      rw [List.getElem?_eq_getElem hjl] at hj ⊢
      simp at hj
      simp [B8, hj])
    rw [List.length_map, h.1] at hl
    show (Extern.Bytes.loadBytes a n .empty).run P w = _
    rw [hl]
    congr 1
    apply ByteArray.ext
    have e1 : Lib.bytesOf (bs.map fun b => (b.toNat : Int)) = bs := by
      unfold Lib.bytesOf
      rw [List.map_map, List.map_congr_left (g := id)]
      · simp
      · intro b _; simp
    rw [e1]
    show (#[] : Array UInt8) ++ bs.toArray = _
    simp
theorem run_cmp {P : Program} {w : World} {B B' : Nat} {A A' : Option Addr} {n n' c c' : Nat} {a b : List UInt8} (h : Byt w B A n c a) (h' : Byt w B' A' n' c' b) :
    (Extern.BytealgCompare.compare #[.slice A n c, .slice A' n' c']).run P w = .ok (.int .i64 (Oct.cmp a b)) w := by
  show Sem.run P (do pure (goInt (Extern.BytealgCompare.cmp (← Extern.Bytes.bytesOf (.slice A n c)) (← Extern.Bytes.bytesOf (.slice A' n' c'))))) w = _
  simp only [Sem.run_bind, byt_bytesOf h, byt_bytesOf h', Result.andThen]
  rw [Lib.cmp_eq, cmpB_eq]
  rfl

set_option maxHeartbeats 1000000 in
theorem bytes_Equal (A A' : Option Addr) (n n' c c' : Nat) (a b : List UInt8) (w : World) (h : Byt w w.heap.size A n c a) (h' : Byt w w.heap.size A' n' c' b) :
    Calls Tryd.prog 49 #[.slice A n c, .slice A' n' c'] w fun e w' => e = .returned (.bool (Oct.same a b)) ∧ w = w' := by
  have h1 := byt_string (P := Tryd.prog) 22 5 Tryd.underlying22 Tryd.underlying5 h 9 Tryd.underlying9
  have h2 := byt_string (P := Tryd.prog) 22 5 Tryd.underlying22 Tryd.underlying5 h' 9 Tryd.underlying9
  go_enter Tryd.func49, Tryd.ntmps49
  go_wp2_with fail
  go_ret
  exact ⟨by rw [← same_beq]; rfl, rfl⟩

def begins (b p : List UInt8) : Bool := decide (p.length ≤ b.length) && Oct.same (b.take p.length) p

end Go.Proofs.YtibaibdgpnkdnaaDoor
end

section
namespace Go.Proofs.YtibaibdgpnkdnaaDoor
set_option maxRecDepth 100000
set_option linter.unusedSimpArgs false
set_option linter.unusedVariables false
open Go.RowKit

end Go.Proofs.YtibaibdgpnkdnaaDoor
end

section
namespace Go.Proofs.YtibaibdgpnkdnaaDoor
set_option maxRecDepth 100000
set_option linter.unusedSimpArgs false
set_option linter.unusedVariables false
open Go.RowKit

theorem take_get (l : List UInt8) (k : Nat) (h : k < l.length) : l.take (k + 1) = l.take k ++ [l.getD k 0] := by
  rw [List.take_succ_eq_append_getElem h]; simp [List.getD, List.getElem?_eq_getElem h]

end Go.Proofs.YtibaibdgpnkdnaaDoor
end

section
namespace Go.Proofs.YtibaibdgpnkdnaaDoor
set_option maxRecDepth 100000
set_option linter.unusedSimpArgs false
set_option linter.unusedVariables false
open Go.RowKit

theorem pad_stop (len m j : Nat) (h1 : 1 ≤ m) (hj : j ≤ Oct.padN len m) : (len + 1 + j) % m = 0 ↔ j = Oct.padN len m := by
  unfold Oct.padN at *
  have hlt := Nat.mod_lt (len + 1) (show 0 < m by omega)
  have hdm := Nat.div_add_mod (len + 1) m
  split at hj
  · rename_i h0
    rw [if_pos h0]
    constructor
    · intro _; omega
    · intro e; rw [e]; exact h0
  · rename_i h0
    rw [if_neg h0]
    have e1 : len + 1 + j = m * ((len + 1) / m) + ((len + 1) % m + j) := by omega
    rw [e1, Nat.mul_add_mod]
    constructor
    · intro e
      rcases Nat.lt_or_ge ((len + 1) % m + j) m with h | h
      · rw [Nat.mod_eq_of_lt h] at e; omega
      · omega
    · intro e
      rw [show (len + 1) % m + j = m by omega, Nat.mod_self]

end Go.Proofs.YtibaibdgpnkdnaaDoor
end

section
namespace Go.Proofs.YtibaibdgpnkdnaaDoor
set_option maxRecDepth 100000
set_option linter.unusedSimpArgs false
set_option linter.unusedVariables false
open Go.RowKit

theorem str_index (s : ByteArray) (k : Nat) (h : k < s.size) (u : World) : (Instr.index 9 (.string s) (.int .i64 (k : Int))).run Tryd.prog u = .ok (.int .u8 ((s.data.toList.getD k 0).toNat : Int)) u := by
  rw [run_index_string u 9 s .i64 (k : Int) Tryd.underlying9, dif_pos ⟨by omega, by omega⟩]
  congr 2
  have e : s.data.toList.getD k 0 = s[k]'h := by
    rw [List.getD, List.getElem?_eq_getElem (by simpa using h)]; rfl
  rw [e]
  simp only [Int.toNat_natCast]

end Go.Proofs.YtibaibdgpnkdnaaDoor
end

section
namespace Go.Proofs.YtibaibdgpnkdnaaDoor
set_option maxRecDepth 100000
set_option linter.unusedSimpArgs false
set_option linter.unusedVariables false
open Go.RowKit

theorem digit_slice (k : Nat) (hk : k < 16) (u : World) : (Instr.slice 9 (.string ⟨#[48, 49, 50, 51, 52, 53, 54, 55, 56, 57, 97, 98, 99, 100, 101, 102]⟩) (some (.int .u8 (k : Int))) (some (.int .u8 ((k : Int) + 1))) none).run Tryd.prog u = .ok (.string ⟨#[Oct.dg k]⟩) u := by
  match k, hk with
  | 0, _ => exact (by kernel_rfl : (Instr.slice 9 (.string ⟨#[48, 49, 50, 51, 52, 53, 54, 55, 56, 57, 97, 98, 99, 100, 101, 102]⟩) (some (.int .u8 ((0 : Nat) : Int))) (some (.int .u8 (((0 : Nat) : Int) + 1))) none).run Tryd.prog u = .ok (.string ⟨#[Oct.dg 0]⟩) u)
  | 1, _ => exact (by kernel_rfl : (Instr.slice 9 (.string ⟨#[48, 49, 50, 51, 52, 53, 54, 55, 56, 57, 97, 98, 99, 100, 101, 102]⟩) (some (.int .u8 ((1 : Nat) : Int))) (some (.int .u8 (((1 : Nat) : Int) + 1))) none).run Tryd.prog u = .ok (.string ⟨#[Oct.dg 1]⟩) u)
  | 2, _ => exact (by kernel_rfl : (Instr.slice 9 (.string ⟨#[48, 49, 50, 51, 52, 53, 54, 55, 56, 57, 97, 98, 99, 100, 101, 102]⟩) (some (.int .u8 ((2 : Nat) : Int))) (some (.int .u8 (((2 : Nat) : Int) + 1))) none).run Tryd.prog u = .ok (.string ⟨#[Oct.dg 2]⟩) u)
  | 3, _ => exact (by kernel_rfl : (Instr.slice 9 (.string ⟨#[48, 49, 50, 51, 52, 53, 54, 55, 56, 57, 97, 98, 99, 100, 101, 102]⟩) (some (.int .u8 ((3 : Nat) : Int))) (some (.int .u8 (((3 : Nat) : Int) + 1))) none).run Tryd.prog u = .ok (.string ⟨#[Oct.dg 3]⟩) u)
  | 4, _ => exact (by kernel_rfl : (Instr.slice 9 (.string ⟨#[48, 49, 50, 51, 52, 53, 54, 55, 56, 57, 97, 98, 99, 100, 101, 102]⟩) (some (.int .u8 ((4 : Nat) : Int))) (some (.int .u8 (((4 : Nat) : Int) + 1))) none).run Tryd.prog u = .ok (.string ⟨#[Oct.dg 4]⟩) u)
  | 5, _ => exact (by kernel_rfl : (Instr.slice 9 (.string ⟨#[48, 49, 50, 51, 52, 53, 54, 55, 56, 57, 97, 98, 99, 100, 101, 102]⟩) (some (.int .u8 ((5 : Nat) : Int))) (some (.int .u8 (((5 : Nat) : Int) + 1))) none).run Tryd.prog u = .ok (.string ⟨#[Oct.dg 5]⟩) u)
  | 6, _ => exact (by kernel_rfl : (Instr.slice 9 (.string ⟨#[48, 49, 50, 51, 52, 53, 54, 55, 56, 57, 97, 98, 99, 100, 101, 102]⟩) (some (.int .u8 ((6 : Nat) : Int))) (some (.int .u8 (((6 : Nat) : Int) + 1))) none).run Tryd.prog u = .ok (.string ⟨#[Oct.dg 6]⟩) u)
  | 7, _ => exact (by kernel_rfl : (Instr.slice 9 (.string ⟨#[48, 49, 50, 51, 52, 53, 54, 55, 56, 57, 97, 98, 99, 100, 101, 102]⟩) (some (.int .u8 ((7 : Nat) : Int))) (some (.int .u8 (((7 : Nat) : Int) + 1))) none).run Tryd.prog u = .ok (.string ⟨#[Oct.dg 7]⟩) u)
  | 8, _ => exact (by kernel_rfl : (Instr.slice 9 (.string ⟨#[48, 49, 50, 51, 52, 53, 54, 55, 56, 57, 97, 98, 99, 100, 101, 102]⟩) (some (.int .u8 ((8 : Nat) : Int))) (some (.int .u8 (((8 : Nat) : Int) + 1))) none).run Tryd.prog u = .ok (.string ⟨#[Oct.dg 8]⟩) u)
  | 9, _ => exact (by kernel_rfl : (Instr.slice 9 (.string ⟨#[48, 49, 50, 51, 52, 53, 54, 55, 56, 57, 97, 98, 99, 100, 101, 102]⟩) (some (.int .u8 ((9 : Nat) : Int))) (some (.int .u8 (((9 : Nat) : Int) + 1))) none).run Tryd.prog u = .ok (.string ⟨#[Oct.dg 9]⟩) u)
  | 10, _ => exact (by kernel_rfl : (Instr.slice 9 (.string ⟨#[48, 49, 50, 51, 52, 53, 54, 55, 56, 57, 97, 98, 99, 100, 101, 102]⟩) (some (.int .u8 ((10 : Nat) : Int))) (some (.int .u8 (((10 : Nat) : Int) + 1))) none).run Tryd.prog u = .ok (.string ⟨#[Oct.dg 10]⟩) u)
  | 11, _ => exact (by kernel_rfl : (Instr.slice 9 (.string ⟨#[48, 49, 50, 51, 52, 53, 54, 55, 56, 57, 97, 98, 99, 100, 101, 102]⟩) (some (.int .u8 ((11 : Nat) : Int))) (some (.int .u8 (((11 : Nat) : Int) + 1))) none).run Tryd.prog u = .ok (.string ⟨#[Oct.dg 11]⟩) u)
  | 12, _ => exact (by kernel_rfl : (Instr.slice 9 (.string ⟨#[48, 49, 50, 51, 52, 53, 54, 55, 56, 57, 97, 98, 99, 100, 101, 102]⟩) (some (.int .u8 ((12 : Nat) : Int))) (some (.int .u8 (((12 : Nat) : Int) + 1))) none).run Tryd.prog u = .ok (.string ⟨#[Oct.dg 12]⟩) u)
  | 13, _ => exact (by kernel_rfl : (Instr.slice 9 (.string ⟨#[48, 49, 50, 51, 52, 53, 54, 55, 56, 57, 97, 98, 99, 100, 101, 102]⟩) (some (.int .u8 ((13 : Nat) : Int))) (some (.int .u8 (((13 : Nat) : Int) + 1))) none).run Tryd.prog u = .ok (.string ⟨#[Oct.dg 13]⟩) u)
  | 14, _ => exact (by kernel_rfl : (Instr.slice 9 (.string ⟨#[48, 49, 50, 51, 52, 53, 54, 55, 56, 57, 97, 98, 99, 100, 101, 102]⟩) (some (.int .u8 ((14 : Nat) : Int))) (some (.int .u8 (((14 : Nat) : Int) + 1))) none).run Tryd.prog u = .ok (.string ⟨#[Oct.dg 14]⟩) u)
  | 15, _ => exact (by kernel_rfl : (Instr.slice 9 (.string ⟨#[48, 49, 50, 51, 52, 53, 54, 55, 56, 57, 97, 98, 99, 100, 101, 102]⟩) (some (.int .u8 ((15 : Nat) : Int))) (some (.int .u8 (((15 : Nat) : Int) + 1))) none).run Tryd.prog u = .ok (.string ⟨#[Oct.dg 15]⟩) u)
  | n + 16, h => omega

end Go.Proofs.YtibaibdgpnkdnaaDoor
end

section
namespace Go.Proofs.YtibaibdgpnkdnaaDoor
set_option maxRecDepth 100000
set_option linter.unusedSimpArgs false
set_option linter.unusedVariables false
open Go.RowKit

/-- What the reference's Split leaves. -/
def RSp (w : World) (l : List (List UInt8)) (er : Int) (e : Ending) (w' : World) : Prop :=
  ∃ (A : Option Addr) (c : Nat) (vs : List SV), e = .returned (.tuple #[.slice A l.length c, .int .i64 er]) ∧ vs.map SV.bs = l ∧ Byts w' w'.heap.size A vs ∧ Below w.heap.size w w'

theorem split_more (cur rest : List UInt8) (m : Nat) (hm : 1 ≤ m) (hc : cur.length = m) : Oct.split (cur ++ rest) m = cur :: Oct.split rest m := by
  rw [Oct.split_cons _ m hm (by rw [List.length_append]; omega)]
  rw [List.take_append_of_le_length (by omega), List.take_of_length_le (by omega), List.drop_append_of_le_length (by omega), List.drop_of_length_le (by omega)]
  rfl
theorem split_last (cur : List UInt8) (m : Nat) (hm : 1 ≤ m) (h0 : 0 < cur.length) (hc : cur.length ≤ m) : Oct.split cur m = [cur] := by
  rw [Oct.split_cons _ m hm h0, List.take_of_length_le hc, List.drop_of_length_le hc]; rfl
theorem drop_get (l : List UInt8) (k : Nat) (h : k < l.length) : l.drop k = l.getD k 0 :: l.drop (k + 1) := by
  rw [List.drop_eq_getElem_cons h]; simp [List.getD, List.getElem?_eq_getElem h]
/-- All blocks of the pieces lie below B0. -/
def Under (B0 : Nat) (vs : List SV) : Prop := ∀ v ∈ vs, v.c = 0 ∨ ∀ g, v.a.map (·.block) = some g → g < B0
theorem Own.under {w : World} {base : Nat} {t : TypeId} {s n c : Nat} {A : Option Addr} {cs : List Value} (h : Own w base t s A n c cs) : c = 0 ∨ ∀ g, A.map (·.block) = some g → g < w.heap.size := by
  rcases Nat.eq_zero_or_pos c with h0 | h0
  · exact .inl h0
  · refine .inr fun g hg => ?_
    obtain ⟨g1, cur, rfl, _, hh, _⟩ := h.2.2.2 h0
    simp at hg
    subst hg
    exact (Array.getElem?_eq_some_iff.1 hh).1
theorem own_apart {w : World} {B0 : Nat} {t : TypeId} {s n c : Nat} {A A' : Option Addr} {c' : Nat} {cs : List Value} (h : Own w B0 t s A n c cs) (hu : c' = 0 ∨ ∀ g, A'.map (·.block) = some g → g < B0) : c' = 0 ∨ ∀ g, A'.map (·.block) = some g → ownAt A c ≠ some g := by
  refine hu.imp_right fun hh g hg e => ?_
  have h1 := (h.lt g e).1
  have h2 := hh g hg
  omega

end Go.Proofs.YtibaibdgpnkdnaaDoor
end

section
namespace Go.Proofs.YtibaibdgpnkdnaaDoor
set_option maxRecDepth 100000
set_option linter.unusedSimpArgs false
set_option linter.unusedVariables false
open Go.RowKit

theorem ex_pad (A : Option Addr) (w : World) (h : Byt w w.heap.size A 2 2 [1, 2]) : Calls Tryd.prog 44 #[.slice A 2 2, .int .i64 4] w (BRes 5 w [1, 2, 128, 0] 0) := by
  have h := octets_Pad A 2 2 [1, 2] 4 w h (by omega)
  have e1 : Oct.padB [1, 2] 4 = [1, 2, 128, 0] := by decide +kernel
  have e2 : Oct.padE 4 = 0 := by decide +kernel
  rw [e1, e2] at h
  exact h
theorem ex_unpad1 (A : Option Addr) (w : World) (h : Byt w w.heap.size A 3 3 [0, 128, 0]) : Calls Tryd.prog 58 #[.slice A 3 3] w (BRes 5 w [0] 0) := by
  have h := octets_Unpad A 3 3 [0, 128, 0] w h (by omega)
  have e1 : Oct.unpB [0, 128, 0] = [0] := by decide +kernel
  have e2 : Oct.unpE [0, 128, 0] = 0 := by decide +kernel
  rw [e1, e2] at h
  exact h
theorem ex_unpad2 (A : Option Addr) (w : World) (h : Byt w w.heap.size A 2 2 [0, 0]) : Calls Tryd.prog 58 #[.slice A 2 2] w (BRes 5 w [] 4) := by
  have h := octets_Unpad A 2 2 [0, 0] w h (by omega)
  have e1 : Oct.unpB [0, 0] = [] := by decide +kernel
  have e2 : Oct.unpE [0, 0] = 4 := by decide +kernel
  rw [e1, e2] at h
  exact h
theorem ex_put1 (w : World) : Calls Tryd.prog 47 #[.int .i64 258, .int .i64 3] w (BRes 5 w [0, 1, 2] 0) := by
  have h := octets_Put 258 3 w (by omega)
  have e1 : Oct.ptB 258 3 = [0, 1, 2] := by decide +kernel
  have e2 : Oct.ptE 258 3 = 0 := by decide +kernel
  rw [e1, e2] at h
  exact h
theorem ex_put2 (w : World) : Calls Tryd.prog 47 #[.int .i64 256, .int .i64 1] w (BRes 5 w [] 2) := by
  have h := octets_Put 256 1 w (by omega)
  have e1 : Oct.ptB 256 1 = [] := by decide +kernel
  have e2 : Oct.ptE 256 1 = 2 := by decide +kernel
  rw [e1, e2] at h
  exact h
theorem ex_hex : Oct.hexS [10, 255] = [48, 97, 102, 102] ∧ Oct.hexS [1, 2, 128, 0] = [48, 49, 48, 50, 56, 48, 48, 48] ∧ Oct.hexS [0] = [48, 48] ∧ Oct.hexS [0, 1, 2] = [48, 48, 48, 49, 48, 50] ∧ Oct.hexS [3] = [48, 51] := by decide +kernel

end Go.Proofs.YtibaibdgpnkdnaaDoor
end

section
namespace Go.Proofs.YtibaibdgpnkdnaaDoor
set_option maxRecDepth 100000
set_option linter.unusedSimpArgs false
set_option linter.unusedVariables false
open Go.RowKit

theorem ex_cls1 (w : World) : Calls Tryd.prog 25 #[.int .i64 148] w fun e w' => e = .returned (.tuple #[infoV 0 true true true, .bool true]) ∧ Below w.heap.size w w' := by
  have h := apdu_Class 148 w
  have e1 : Apd.cok 148 = true := by decide +kernel
  have e2 : Apd.clsV 148 = infoV 0 true true true := by unfold Apd.clsV; rw [e1]; rfl
  rw [e1, e2] at h
  exact h
theorem ex_cls2 (w : World) : Calls Tryd.prog 25 #[.int .i64 8] w fun e w' => e = .returned (.tuple #[infoV 0 false false false, .bool false]) ∧ Below w.heap.size w w' := by
  have h := apdu_Class 8 w
  have e1 : Apd.cok 8 = false := by decide +kernel
  have e2 : Apd.clsV 8 = infoV 0 false false false := by unfold Apd.clsV; rw [e1]; rfl
  rw [e1, e2] at h
  exact h
theorem ex_apdhex : Oct.hexS [0, 164, 4, 0, 2, 160, 0, 0] = [48, 48, 97, 52, 48, 52, 48, 48, 48, 50, 97, 48, 48, 48, 48, 48] ∧ Oct.hexS [0, 164, 4, 0, 0, 0, 2, 160, 0, 1, 0] = [48, 48, 97, 52, 48, 52, 48, 48, 48, 48, 48, 48, 48, 50, 97, 48, 48, 48, 48, 49, 48, 48] := by decide +kernel

theorem Byt.after {w w' : World} {A : Option Addr} {n c : Nat} {bs : List UInt8} (h : Byt w w.heap.size A n c bs) (hb : Below w.heap.size w w') : Byt w' w'.heap.size A n c bs := (h.below hb).more hb.size
theorem Byt.alloc' {w : World} {A : Option Addr} {n c : Nat} {bs : List UInt8} (h : Byt w w.heap.size A n c bs) (o : Obj) : Byt (w.alloc o) (w.alloc o).heap.size A n c bs := h.after ((Below.refl _ _).alloc (Nat.le_refl _) o)
theorem Blk.after {w w' : World} {g : Nat} {t : TypeId} {cs : Array Value} (h : Blk w g t cs) (hb : Below w.heap.size w w') : Blk w' g t cs := h.below hb h.lt
theorem bgo {a w w' : World} (h : Below a.heap.size a w) (hb : Below w.heap.size w w') : Below a.heap.size a w' := h.trans (hb.mono h.size)
theorem bal {a w : World} (h : Below a.heap.size a w) (o : Obj) : Below a.heap.size a (w.alloc o) := h.alloc h.size o
theorem twoB (w : World) (t s : TypeId) (X Y : Array Value) : Blk ((w.alloc (.cells X t)).alloc (.cells Y s)) w.heap.size t X ∧ Blk ((w.alloc (.cells X t)).alloc (.cells Y s)) (w.heap.size + 1) s Y ∧ Below w.heap.size w ((w.alloc (.cells X t)).alloc (.cells Y s)) :=
  ⟨(Blk.new w t X).alloc _, Blk.new' (g := w.heap.size + 1) (w.alloc (.cells X t)) (by simp) rfl, bal (bal (Below.refl w.heap.size w) _) _⟩
theorem byt_new {w : World} {g n : Nat} {t : TypeId} {bs : List UInt8} {X : Array Value} (h : Blk w g t X) (hX : X = (bcells bs).toArray) (hn : bs.length = n) : Byt w w.heap.size (some ⟨g, 0, none⟩) n n bs := by
  subst hX; exact byt_blk h h.lt hn

end Go.Proofs.YtibaibdgpnkdnaaDoor
end

section
namespace Go.Proofs.YtibaibdgpnkdnaaDoor
set_option maxRecDepth 100000
set_option linter.unusedSimpArgs false
set_option linter.unusedVariables false
open Go.RowKit

/-- Are two commands equal? -/
def Apd.smB (a0 a1 a2 a3 : Int) (d : List UInt8) (le : Int) (lg : Bool) (b0 b1 b2 b3 : Int) (d' : List UInt8) (le' : Int) (lg' : Bool) : Bool :=
  (a0 == b0) && (a1 == b1) && (a2 == b2) && (a3 == b3) && (le == le') && (lg == lg') && Oct.same d d'
theorem Apd.smB_iff (a0 a1 a2 a3 : Int) (d : List UInt8) (le : Int) (lg : Bool) (b0 b1 b2 b3 : Int) (d' : List UInt8) (le' : Int) (lg' : Bool) :
    Apd.smB a0 a1 a2 a3 d le lg b0 b1 b2 b3 d' le' lg' = true ↔ a0 = b0 ∧ a1 = b1 ∧ a2 = b2 ∧ a3 = b3 ∧ le = le' ∧ lg = lg' ∧ d = d' := by
  simp [Apd.smB, Oct.same, and_assoc]
theorem Apd.smB_refl (a0 a1 a2 a3 : Int) (d : List UInt8) (le : Int) (lg : Bool) : Apd.smB a0 a1 a2 a3 d le lg a0 a1 a2 a3 d le lg = true := by
  rw [Apd.smB_iff]; exact ⟨rfl, rfl, rfl, rfl, rfl, rfl, rfl⟩
/-- Are two responses equal? -/
def Apd.srB (d : List UInt8) (sw : Int) (d' : List UInt8) (sw' : Int) : Bool := (sw == sw') && Oct.same d d'

set_option maxRecDepth 100000 in
set_option maxHeartbeats 8000000 in
theorem ref04_Same (a0 a1 a2 a3 : Int) (A : Option Addr) (n c : Nat) (d : List UInt8) (le : Int) (lg : Bool) (b0 b1 b2 b3 : Int) (A' : Option Addr) (n' c' : Nat) (d' : List UInt8) (le' : Int) (lg' : Bool) (w : World)
    (h : Byt w w.heap.size A n c d) (h' : Byt w w.heap.size A' n' c' d') (hn : n ≤ 9223372036854775807) (hn' : n' ≤ 9223372036854775807) :
    Calls Tryd.prog 39 #[cmdV a0 a1 a2 a3 A n c le lg, cmdV b0 b1 b2 b3 A' n' c' le' lg'] w fun e w' => e = .returned (.bool (Apd.smB a0 a1 a2 a3 d le lg b0 b1 b2 b3 d' le' lg')) ∧ Below w.heap.size w w' := by
  have HB := Lib.hid (fun o o' => bal (bal (Below.refl w.heap.size w) o) o')
  have HY := Lib.hid (fun o o' => (h.alloc' o).alloc' o')
  have HY' := Lib.hid (fun o o' => (h'.alloc' o).alloc' o')
  clear h h'
  unfold cmdV
  cases t0 : (a0 == b0) with
  | false =>
    have e : Apd.smB a0 a1 a2 a3 d le lg b0 b1 b2 b3 d' le' lg' = false := by unfold Apd.smB; rw [t0]; simp
    have HE := Lib.hid e
    clear e HY HY'
    go_enter Tryd.func39, Tryd.ntmps39
    go_wp2_with fail
    go_ret
    rw [HE.out]
    exact ⟨rfl, HB.out _ _⟩
  | true =>
  obtain rfl := eq_of_beq t0
  clear t0
  cases t1 : (a1 == b1) with
  | false =>
    have e : Apd.smB a0 a1 a2 a3 d le lg a0 b1 b2 b3 d' le' lg' = false := by unfold Apd.smB; rw [t1]; simp
    have HE := Lib.hid e
    clear e HY HY'
    go_enter Tryd.func39, Tryd.ntmps39
    go_wp2_with fail
    go_ret
    rw [HE.out]
    exact ⟨rfl, HB.out _ _⟩
  | true =>
  obtain rfl := eq_of_beq t1
  clear t1
  cases t2 : (a2 == b2) with
  | false =>
    have e : Apd.smB a0 a1 a2 a3 d le lg a0 a1 b2 b3 d' le' lg' = false := by unfold Apd.smB; rw [t2]; simp
    have HE := Lib.hid e
    clear e HY HY'
    go_enter Tryd.func39, Tryd.ntmps39
    go_wp2_with fail
    go_ret
    rw [HE.out]
    exact ⟨rfl, HB.out _ _⟩
  | true =>
  obtain rfl := eq_of_beq t2
  clear t2
  cases t3 : (a3 == b3) with
  | false =>
    have e : Apd.smB a0 a1 a2 a3 d le lg a0 a1 a2 b3 d' le' lg' = false := by unfold Apd.smB; rw [t3]; simp
    have HE := Lib.hid e
    clear e HY HY'
    go_enter Tryd.func39, Tryd.ntmps39
    go_wp2_with fail
    go_ret
    rw [HE.out]
    exact ⟨rfl, HB.out _ _⟩
  | true =>
  obtain rfl := eq_of_beq t3
  clear t3
  cases t4 : (le == le') with
  | false =>
    have e : Apd.smB a0 a1 a2 a3 d le lg a0 a1 a2 a3 d' le' lg' = false := by unfold Apd.smB; rw [t4]; simp
    have HE := Lib.hid e
    clear e HY HY'
    go_enter Tryd.func39, Tryd.ntmps39
    go_wp2_with fail
    go_ret
    rw [HE.out]
    exact ⟨rfl, HB.out _ _⟩
  | true =>
  obtain rfl := eq_of_beq t4
  clear t4
  cases t5 : (lg == lg') with
  | false =>
    have e : Apd.smB a0 a1 a2 a3 d le lg a0 a1 a2 a3 d' le lg' = false := by unfold Apd.smB; rw [t5]; simp
    have HE := Lib.hid e
    clear e HY HY'
    go_enter Tryd.func39, Tryd.ntmps39
    go_wp2_with fail
    go_ret
    rw [HE.out]
    exact ⟨rfl, HB.out _ _⟩
  | true =>
  obtain rfl := eq_of_beq t5
  clear t5
  have e : Apd.smB a0 a1 a2 a3 d le lg a0 a1 a2 a3 d' le lg = Oct.same d d' := by simp [Apd.smB]
  have HE := Lib.hid e
  clear e
  go_enter Tryd.func39, Tryd.ntmps39
  go_wp2_with (go_at_call 11; refine (ref01_Same _ _ _ _ _ _ _ _ _ (HY.out _ _) (HY'.out _ _) hn hn').mono ?_; rintro e w1 ⟨rfl, q, rfl⟩)
  go_ret
  rw [HE.out]
  exact ⟨rfl, Below.drewN (HB.out _ _) q⟩

set_option maxRecDepth 100000 in
set_option maxHeartbeats 8000000 in
theorem ref04_SameResponse (A : Option Addr) (n c : Nat) (d : List UInt8) (sw : Int) (A' : Option Addr) (n' c' : Nat) (d' : List UInt8) (sw' : Int) (w : World)
    (h : Byt w w.heap.size A n c d) (h' : Byt w w.heap.size A' n' c' d') (hn : n ≤ 9223372036854775807) (hn' : n' ≤ 9223372036854775807) :
    Calls Tryd.prog 19 #[rspV A n c sw, rspV A' n' c' sw'] w fun e w' => e = .returned (.bool (Apd.srB d sw d' sw')) ∧ Below w.heap.size w w' := by
  have HB := Lib.hid (fun o o' => bal (bal (Below.refl w.heap.size w) o) o')
  have HY := Lib.hid (fun o o' => (h.alloc' o).alloc' o')
  have HY' := Lib.hid (fun o o' => (h'.alloc' o).alloc' o')
  clear h h'
  unfold rspV
  cases t0 : (sw == sw') with
  | false =>
    have e : Apd.srB d sw d' sw' = false := by unfold Apd.srB; rw [t0]; simp
    have HE := Lib.hid e
    clear e HY HY'
    go_enter Tryd.func19, Tryd.ntmps19
    go_wp2_with fail
    go_ret
    rw [HE.out]
    exact ⟨rfl, HB.out _ _⟩
  | true =>
  obtain rfl := eq_of_beq t0
  clear t0
  have e : Apd.srB d sw d' sw = Oct.same d d' := by simp [Apd.srB]
  have HE := Lib.hid e
  clear e
  go_enter Tryd.func19, Tryd.ntmps19
  go_wp2_with (go_at_call 11; refine (ref01_Same _ _ _ _ _ _ _ _ _ (HY.out _ _) (HY'.out _ _) hn hn').mono ?_; rintro e w1 ⟨rfl, q, rfl⟩)
  go_ret
  rw [HE.out]
  exact ⟨rfl, Below.drewN (HB.out _ _) q⟩
end Go.Proofs.YtibaibdgpnkdnaaDoor
end

section
namespace Go.Proofs.YtibaibdgpnkdnaaDoor
set_option maxRecDepth 100000
set_option linter.unusedSimpArgs false
set_option linter.unusedVariables false
open Go.RowKit

structure Cal (w0 w : World) (L : List Ent) (O : List Osl) (Fs : List (Nat → Prop)) : Prop where
  mem : Mem (fun _ => False) w0 w L O
  lo : ∀ F ∈ Fs, ∀ q, F q → w0.heap.size ≤ q
  lt : ∀ F ∈ Fs, ∀ q, F q → q < w.heap.size
  dl : ∀ F ∈ Fs, ∀ e ∈ L, ¬ F e.g
  ds : ∀ F ∈ Fs, ∀ x ∈ O, ∀ q, ownAt x.A x.c = some q → ¬ F q
  df : Fs.Pairwise fun F G => ∀ q, F q → ¬ G q
section
variable {w0 w w' : World} {L L2 : List Ent} {O O2 : List Osl} {Fs : List (Nat → Prop)} {F F' : Nat → Prop}
theorem Cal.start (w0 : World) : Cal w0 w0 [] [] [] := ⟨Mem.nil _ _, fun F h => (by cases h), fun F h => (by cases h), fun F h => (by cases h), fun F h => (by cases h), .nil⟩
theorem Cal.low (h : Cal w0 w L O Fs) : Below w0.heap.size w0 w := h.mem.only.below (Nat.le_refl _) (fun _ _ e => e)
theorem Cal.size (h : Cal w0 w L O Fs) : w0.heap.size ≤ w.heap.size := h.low.size
/-- Behind steps of the caller's own. -/
theorem Cal.resync (h : Cal w0 w L O Fs) (hm : Mem (fun q => ∃ e ∈ L, q = e.g) w w' L2 O2) : Cal w0 w' L2 (O ++ O2) Fs :=
  { mem := h.mem.backO hm
    lo := h.lo
    lt := fun F hF q hq => Nat.lt_of_lt_of_le (h.lt F hF q hq) hm.only.size
    dl := fun F hF e he hq => by
      rcases hm.own e he with ⟨e2, he2, e3⟩ | h1
      · exact h.dl F hF e2 he2 (e3 ▸ hq)
      · have := h.lt F hF _ hq; omega
    ds := fun F hF x hx q hq hq2 => by
      rcases List.mem_append.1 hx with hx | hx
      · exact h.ds F hF x hx q hq hq2
      · rcases hm.slR x hx q hq with ⟨e2, he2, e3⟩ | h1
        · exact h.dl F hF e2 he2 (e3 ▸ hq2)
        · have := h.lt F hF _ hq2; omega
    df := h.df }
theorem Cal.rebase (h : Cal w0 w L O Fs) : Mem (fun q => ∃ e ∈ L, q = e.g) w w L [] := h.mem.rebase
/-- The caller's own steps leave an object alone. -/
theorem Cal.apart (h : Cal w0 w L O Fs) (k : Nat) (hk : Fs[k]? = some F) : ∀ q, F q → ¬ ∃ e ∈ L, q = e.g := fun q hq ⟨e, he, e2⟩ => h.dl F (List.mem_of_getElem? hk) e he (e2 ▸ hq)
/-- One object leaves another alone. -/
theorem Cal.other (h : Cal w0 w L O Fs) (i j : Nat) (hij : i ≠ j) {G : Nat → Prop} (hi : Fs[i]? = some F) (hj : Fs[j]? = some G) : ∀ q, F q → ¬ G q := fun q hq hg => by
  obtain ⟨h1, rfl⟩ := List.getElem?_eq_some_iff.1 hi
  obtain ⟨h2, rfl⟩ := List.getElem?_eq_some_iff.1 hj
  rcases Nat.lt_or_gt_of_ne hij with h3 | h3
  · exact List.pairwise_iff_getElem.1 h.df i j h1 h2 h3 q hq hg
  · exact List.pairwise_iff_getElem.1 h.df j i h2 h1 h3 q hg hq
theorem Cal.below (h : Cal w0 w L O Fs) (hb : Below w.heap.size w w') : Cal w0 w' L O Fs :=
  { h with mem := h.mem.below hb, lt := fun F hF q hq => Nat.lt_of_lt_of_le (h.lt F hF q hq) hb.size }
/-- A slice that a call has made. -/
theorem Cal.got {t : TypeId} {k : Nat} {A : Option Addr} {n c : Nat} {cs : List Value} (h : Cal w0 w L O Fs) (hb : Below w.heap.size w w') (hx : Own w' w.heap.size t k A n c cs) : Cal w0 w' L (O ++ [⟨t, k, A, n, c, cs⟩]) Fs :=
  { mem := h.mem.got hb hx, lo := h.lo, lt := fun F hF q hq => Nat.lt_of_lt_of_le (h.lt F hF q hq) hb.size, dl := h.dl
    ds := fun F hF x hm q hq hq2 => by
      rcases List.mem_append.1 hm with hm | hm
      · exact h.ds F hF x hm q hq hq2
      · obtain rfl := List.mem_singleton.1 hm
        have := (hx.lt q hq).1; have := h.lt F hF q hq2; omega
    df := h.df }
/-- A new object. -/
theorem Cal.born (h : Cal w0 w L O Fs) (hb : Below w.heap.size w w') (hF : ∀ q, F q → w.heap.size ≤ q) (hlt : ∀ q, F q → q < w'.heap.size) : Cal w0 w' L O (Fs ++ [F]) := by
  have h2 := h.below hb
  have hall : ∀ {p : (Nat → Prop) → Prop}, (∀ G ∈ Fs, p G) → p F → ∀ G ∈ Fs ++ [F], p G := fun {p} h0 h1 G hG => by
    rcases List.mem_append.1 hG with hG | hG
    · exact h0 G hG
    · obtain rfl := List.mem_singleton.1 hG; exact h1
  refine { mem := h2.mem, lo := hall h2.lo (fun q hq => Nat.le_trans h.size (hF q hq)), lt := hall h2.lt hlt, dl := hall h2.dl (fun e he hq => ?_), ds := hall h2.ds (fun x hx q e hq => ?_), df := ?_ }
  · have := h.mem.lt he; have := hF _ hq; omega
  · have := h.mem.slt hx e; have := hF _ hq; omega
  · rw [List.pairwise_append]
    refine ⟨h.df, List.pairwise_singleton _ _, fun G hG K hK q hq hq2 => ?_⟩
    obtain rfl := List.mem_singleton.1 hK
    have := h.lt G hG q hq; have := hF q hq2; omega
/-- A call of an object. -/
theorem Cal.turn (h : Cal w0 w L O Fs) (i : Nat) (hi : Fs[i]? = some F) (ho : Only F w w') (hF : ∀ q, F' q → F q ∨ w.heap.size ≤ q) (hlt : ∀ q, F' q → q < w'.heap.size) : Cal w0 w' L O (Fs.set i F') := by
  have hmem := List.mem_of_getElem? hi
  have hil := (List.getElem?_eq_some_iff.1 hi).1
  have hiF : Fs[i] = F := (List.getElem?_eq_some_iff.1 hi).2
  have hm : Mem (fun _ => False) w0 w' L O := h.mem.step ho (fun q hq hq2 => .inr (h.lo F hmem q hq2)) (fun e he hq => h.dl F hmem e he hq) (fun x hx q e hq => h.ds F hmem x hx q e hq)
  have hall : ∀ {p : (Nat → Prop) → Prop}, (∀ G ∈ Fs, p G) → p F' → ∀ G ∈ Fs.set i F', p G := fun {p} h0 h1 G hG => by
    rcases List.mem_or_eq_of_mem_set hG with hG | rfl
    · exact h0 G hG
    · exact h1
  refine { mem := hm, lo := hall h.lo (fun q hq => ?_), lt := hall (fun G hG q hq => Nat.lt_of_lt_of_le (h.lt G hG q hq) ho.size) hlt, dl := hall h.dl (fun e he hq => ?_), ds := hall h.ds (fun x hx q e hq => ?_), df := ?_ }
  · rcases hF q hq with h1 | h1
    · exact h.lo F hmem q h1
    · exact Nat.le_trans h.size h1
  · rcases hF _ hq with h1 | h1
    · exact h.dl F hmem e he h1
    · have := h.mem.lt he; omega
  · rcases hF _ hq with h1 | h1
    · exact h.ds F hmem x hx q e h1
    · have := h.mem.slt hx e; omega
  · rw [List.pairwise_iff_getElem]
    intro a b ha hb hab q hq hq2
    have ha' : a < Fs.length := by simpa using ha
    have hb' : b < Fs.length := by simpa using hb
    have hp := List.pairwise_iff_getElem.1 h.df
    rw [List.getElem_set] at hq hq2
    split at hq
    · rename_i hia
      rw [if_neg (by omega)] at hq2
      subst hia
      rcases hF q hq with h1 | h1
      · exact hp i b ha' hb' hab q (by rw [hiF]; exact h1) hq2
      · have := h.lt _ (List.getElem_mem hb') q hq2; omega
    · rename_i hia
      split at hq2
      · rename_i hib
        subst hib
        rcases hF q hq2 with h1 | h1
        · exact hp a i ha' hb' hab q hq (by rw [hiF]; exact h1)
        · have := h.lt _ (List.getElem_mem ha') q hq; omega
      · exact hp a b ha' hb' hab q hq hq2
/-- .. that hands back a slice of the caller's own. -/
theorem Cal.turned {t : TypeId} {k : Nat} {A : Option Addr} {n c : Nat} {cs : List Value} (h : Cal w0 w L O Fs) (i : Nat) (hi : Fs[i]? = some F) (ho : Only F w w') (hF : ∀ q, F' q → F q ∨ w.heap.size ≤ q) (hlt : ∀ q, F' q → q < w'.heap.size)
    (hx : Own w' w.heap.size t k A n c cs) (hd : ∀ q, F' q → ownAt A c ≠ some q) : Cal w0 w' L (O ++ [⟨t, k, A, n, c, cs⟩]) (Fs.set i F') := by
  have h2 := h.turn i hi ho hF hlt
  have hnew : ∀ q, ownAt A c = some q → w.heap.size ≤ q := fun q e => (hx.lt q e).1
  refine { mem := h2.mem.more (x := ⟨t, k, A, n, c, cs⟩) (hx.mono (Nat.zero_le _)) (fun q e => .inr (Nat.le_trans h.size (hnew q e))) (fun e he e1 => ?_) (fun y hy q e e1 => ?_), lo := h2.lo, lt := h2.lt, dl := h2.dl, ds := fun G hG x hm q e hq => ?_, df := h2.df }
  · have := hnew _ e1; have := h.mem.lt he; omega
  · have := hnew _ e1; have := h.mem.slt hy e; omega
  · rcases List.mem_append.1 hm with hm | hm
    · exact h2.ds G hG x hm q e hq
    · obtain rfl := List.mem_singleton.1 hm
      rcases List.mem_or_eq_of_mem_set hG with hG | rfl
      · have := hnew q e; have := h.lt G hG q hq; omega
      · exact hd q hq e
/-- Fewer variables, fewer slices. -/
theorem Cal.part (h : Cal w0 w L O Fs) (hL : L2.Sublist L) (hO : O2.Sublist O) : Cal w0 w L2 O2 Fs :=
  { mem := h.mem.part hL hO, lo := h.lo, lt := h.lt, dl := fun F hF e he => h.dl F hF e (hL.subset he), ds := fun F hF x hx => h.ds F hF x (hO.subset hx), df := h.df }
theorem Cal.takeL (h : Cal w0 w L O Fs) (k : Nat) : Cal w0 w (L.take k) O Fs := h.part (List.take_sublist _ _) (List.Sublist.refl _)
theorem Cal.takeO (h : Cal w0 w L O Fs) (k : Nat) : Cal w0 w L (O.take k) Fs := h.part (List.Sublist.refl _) (List.take_sublist _ _)
theorem Cal.byt {A : Option Addr} {n c : Nat} {t : TypeId} {bs : List UInt8} (h : Cal w0 w L O Fs) (k : Nat) (hk : O[k]? = some ⟨t, 1, A, n, c, bcells bs⟩) : Byt w w.heap.size A n c bs := (h.mem.sl_ k hk).byt (Nat.le_refl _)
end
end Go.Proofs.YtibaibdgpnkdnaaDoor
end

section
namespace Go.Proofs.YtibaibdgpnkdnaaDoor
set_option maxRecDepth 100000
set_option linter.unusedSimpArgs false
set_option linter.unusedVariables false
open Go.RowKit

/-- p holds, and goes on to hold as long as no block of G turns. -/
structure Sup (w : World) (G : Nat → Prop) (p : World → Prop) : Prop where
  now : p w
  lt : ∀ q, G q → q < w.heap.size
  on : ∀ R w', Only R w w' → (∀ q, G q → ¬ R q) → p w'
structure Thing where
  G : Nat → Prop
  p : World → Prop
section
variable {w0 w w' : World} {G R : Nat → Prop} {p p' : World → Prop}
theorem Sup.only (h : Sup w G p) (ho : Only R w w') (hd : ∀ q, G q → ¬ R q) : Sup w' G p :=
  ⟨h.on R w' ho hd, fun q hq => Nat.lt_of_lt_of_le (h.lt q hq) ho.size, fun R2 w2 ho2 hd2 => h.on (fun q => R q ∨ R2 q) w2 ((ho.mono fun _ _ e => .inl e).trans (ho2.mono fun _ _ e => .inr e)) (fun q hq e => e.elim (hd q hq) (hd2 q hq))⟩
theorem Sup.below (h : Sup w G p) (hb : Below w.heap.size w w') : Sup w' G p := h.only (R := fun _ => False) (Only.of_below hb) (fun _ _ e => e)
theorem Sup.imp (h : Sup w G p) (hp : ∀ u, p u → p' u) : Sup w G p' := ⟨hp _ h.now, h.lt, fun R w' ho hd => hp _ (h.on R w' ho hd)⟩
/-- The blocks in which the slices among the cells of a struct lie. -/
def blks (cs : Array Value) (q : Nat) : Prop := ∃ A n c a, Value.slice A n c ∈ cs.toList ∧ 0 < n ∧ A = some a ∧ a.block = q
theorem Far.blks (cs : Array Value) : Far (blks cs) cs := fun A n c hm hn a e => ⟨A, n, c, a, hm, hn, e, rfl⟩
theorem Far.sub {F : Nat → Prop} {cs : Array Value} (h : Far F cs) (q : Nat) (hq : Proofs.YtibaibdgpnkdnaaDoor.blks cs q) : F q := by
  obtain ⟨A, n, c, a, hm, hn, e, rfl⟩ := hq
  exact h A n c hm hn a e

theorem ownAt_some {A : Option Addr} {a : Addr} {c : Nat} (hc : 0 < c) (e : A = some a) : ownAt A c = some a.block := by
  unfold ownAt
  rw [if_neg (by omega), e]
  rfl
structure Scn (w0 w : World) (L : List Ent) (O : List Osl) (Fs Vs : List Thing) : Prop where
  cal : Cal w0 w L O (Fs.map (·.G))
  fs : ∀ x ∈ Fs, Sup w x.G x.p
  vs : ∀ x ∈ Vs, Sup w x.G x.p ∧ (∀ y ∈ Fs, ∀ q, y.G q → ¬ x.G q) ∧ ∀ e ∈ L, ¬ x.G e.g
variable {L L2 : List Ent} {O O2 : List Osl} {Fs Fs2 Vs Vs2 : List Thing}
theorem Scn.start (w0 : World) : Scn w0 w0 [] [] [] [] := ⟨Cal.start w0, fun x h => (by cases h), fun x h => (by cases h)⟩
theorem Scn.low (h : Scn w0 w L O Fs Vs) : Below w0.heap.size w0 w := h.cal.low
theorem Scn.size (h : Scn w0 w L O Fs Vs) : w0.heap.size ≤ w.heap.size := h.cal.size
theorem Scn.rebase (h : Scn w0 w L O Fs Vs) : Mem (fun q => ∃ e ∈ L, q = e.g) w w L [] := h.cal.rebase
theorem Scn.obj (h : Scn w0 w L O Fs Vs) (k : Nat) {x : Thing} (hk : Fs[k]? = some x) : x.p w := (h.fs x (List.mem_of_getElem? hk)).now
theorem Scn.val (h : Scn w0 w L O Fs Vs) (k : Nat) {x : Thing} (hk : Vs[k]? = some x) : x.p w := (h.vs x (List.mem_of_getElem? hk)).1.now
theorem Scn.lo (h : Scn w0 w L O Fs Vs) (k : Nat) {x : Thing} (hk : Fs[k]? = some x) (q : Nat) (hq : x.G q) : w0.heap.size ≤ q := h.cal.lo _ (List.mem_map.2 ⟨x, List.mem_of_getElem? hk, rfl⟩) q hq
theorem Scn.lt (h : Scn w0 w L O Fs Vs) (k : Nat) {x : Thing} (hk : Fs[k]? = some x) (q : Nat) (hq : x.G q) : q < w.heap.size := h.cal.lt _ (List.mem_map.2 ⟨x, List.mem_of_getElem? hk, rfl⟩) q hq
theorem Scn.ent (h : Scn w0 w L O Fs Vs) (k : Nat) {e : Ent} (hk : L[k]? = some e) : Blk w e.g e.t e.cs := h.cal.mem.at_ k hk
theorem Scn.byt {A : Option Addr} {n c : Nat} {t : TypeId} {bs : List UInt8} (h : Scn w0 w L O Fs Vs) (k : Nat) (hk : O[k]? = some ⟨t, 1, A, n, c, bcells bs⟩) : Byt w w.heap.size A n c bs := h.cal.byt k hk
/-- What lay there at first lies there still. -/
theorem Scn.old (h : Scn w0 w L O Fs Vs) {A : Option Addr} {n c : Nat} {bs : List UInt8} (hb : Byt w0 w0.heap.size A n c bs) : Byt w w.heap.size A n c bs := (hb.below h.low).more h.size
/-- .. apart from an object. -/
theorem Scn.oldO (h : Scn w0 w L O Fs Vs) (k : Nat) {x : Thing} (hk : Fs[k]? = some x) {A : Option Addr} {n c : Nat} {bs : List UInt8} (hb : Byt w0 w0.heap.size A n c bs) : Byt w w.heap.size A n c bs ∧ ∀ a, A = some a → 0 < n → ¬ x.G a.block :=
  ⟨h.old hb, fun a e hn hq => by
    obtain ⟨b, o, e2, hlt⟩ := hb.at_ hn
    rw [e] at e2; injection e2 with e2; subst e2
    have := h.lo k hk _ hq
    have this : w0.heap.size ≤ b := this
    omega⟩
/-- A slice of the caller's own, apart from an object. -/
theorem Scn.bytO (h : Scn w0 w L O Fs Vs) (i k : Nat) {x : Thing} (hk : Fs[k]? = some x) {A : Option Addr} {n c : Nat} {t : TypeId} {bs : List UInt8} (hi : O[i]? = some ⟨t, 1, A, n, c, bcells bs⟩) : Byt w w.heap.size A n c bs ∧ ∀ a, A = some a → 0 < n → ¬ x.G a.block :=
  ⟨h.byt i hi, fun a e hn hq => by
    have hl := (h.byt i hi).2.1
    exact h.cal.ds _ (List.mem_map.2 ⟨x, List.mem_of_getElem? hk, rfl⟩) _ (List.mem_of_getElem? hi) a.block (ownAt_some (Nat.lt_of_lt_of_le hn hl) e) hq⟩
/-- Behind steps of the caller's own. -/
theorem Scn.resync (h : Scn w0 w L O Fs Vs) (hm : Mem (fun q => ∃ e ∈ L, q = e.g) w w' L2 O2) : Scn w0 w' L2 (O ++ O2) Fs Vs :=
  { cal := h.cal.resync hm
    fs := fun x hx => (h.fs x hx).only hm.only (fun q hq ⟨e, he, e2⟩ => h.cal.dl _ (List.mem_map.2 ⟨x, hx, rfl⟩) e he (e2 ▸ hq))
    vs := fun x hx => by
      obtain ⟨h1, h2, h3⟩ := h.vs x hx
      refine ⟨h1.only hm.only (fun q hq ⟨e, he, e2⟩ => h3 e he (e2 ▸ hq)), h2, fun e he hq => ?_⟩
      rcases hm.own e he with ⟨e2, he2, e3⟩ | h4
      · exact h3 e2 he2 (e3 ▸ hq)
      · have := h1.lt _ hq; omega }
theorem Scn.below (h : Scn w0 w L O Fs Vs) (hb : Below w.heap.size w w') : Scn w0 w' L O Fs Vs :=
  ⟨h.cal.below hb, fun x hx => (h.fs x hx).below hb, fun x hx => ⟨(h.vs x hx).1.below hb, (h.vs x hx).2⟩⟩
/-- A slice that a call has made. -/
theorem Scn.got {t : TypeId} {k : Nat} {A : Option Addr} {n c : Nat} {cs : List Value} (h : Scn w0 w L O Fs Vs) (hb : Below w.heap.size w w') (hx : Own w' w.heap.size t k A n c cs) : Scn w0 w' L (O ++ [⟨t, k, A, n, c, cs⟩]) Fs Vs :=
  ⟨h.cal.got hb hx, (h.below hb).fs, (h.below hb).vs⟩
/-- A new object. -/
theorem Scn.born (h : Scn w0 w L O Fs Vs) (hb : Below w.heap.size w w') (hs : Sup w' G p) (hF : ∀ q, G q → w.heap.size ≤ q) : Scn w0 w' L O (Fs ++ [⟨G, p⟩]) Vs := by
  have h2 := h.below hb
  refine ⟨?_, fun x hx => ?_, fun x hx => ?_⟩
  · rw [List.map_append]
    exact h.cal.born hb hF hs.lt
  · rcases List.mem_append.1 hx with hx | hx
    · exact h2.fs x hx
    · obtain rfl := List.mem_singleton.1 hx; exact hs
  · obtain ⟨h3, h4, h5⟩ := h2.vs x hx
    refine ⟨h3, fun y hy q hq hq2 => ?_, h5⟩
    rcases List.mem_append.1 hy with hy | hy
    · exact h4 y hy q hq hq2
    · obtain rfl := List.mem_singleton.1 hy
      have := hF q hq; have := (h.vs x hx).1.lt q hq2; omega
theorem Scn.turn_aux (h : Scn w0 w L O Fs Vs) (i : Nat) (hi : Fs[i]? = some ⟨G, p⟩) {G' : Nat → Prop} (ho : Only G w w') (hF : ∀ q, G' q → G q ∨ w.heap.size ≤ q) (hs : Sup w' G' p') :
    (∀ x ∈ Fs.set i ⟨G', p'⟩, Sup w' x.G x.p) ∧ ∀ x ∈ Vs, Sup w' x.G x.p ∧ (∀ y ∈ Fs.set i ⟨G', p'⟩, ∀ q, y.G q → ¬ x.G q) ∧ ∀ e ∈ L, ¬ x.G e.g := by
  have hmem := List.mem_of_getElem? hi
  have hil := (List.getElem?_eq_some_iff.1 hi).1
  refine ⟨fun x hx => ?_, fun x hx => ?_⟩
  · obtain ⟨j, hj, rfl⟩ := List.getElem_of_mem hx
    rw [List.getElem_set]
    split
    · exact hs
    · rename_i hij
      have hj2 : j < Fs.length := by simpa using hj
      refine (h.fs _ (List.getElem_mem hj2)).only ho (fun q hq hq2 => ?_)
      exact h.cal.other j i (fun e => hij e.symm) (by rw [List.getElem?_map, List.getElem?_eq_getElem hj2]; rfl) (by rw [List.getElem?_map, hi]; rfl) q hq hq2
  · obtain ⟨h3, h4, h5⟩ := h.vs x hx
    refine ⟨h3.only ho (fun q hq hq2 => h4 _ hmem q hq2 hq), fun y hy q hq hq2 => ?_, h5⟩
    rcases List.mem_or_eq_of_mem_set hy with hy | rfl
    · exact h4 y hy q hq hq2
    · rcases hF q hq with h6 | h6
      · exact h4 _ hmem q h6 hq2
      · have := h3.lt q hq2; omega
/-- A call of an object. -/
theorem Scn.turn (h : Scn w0 w L O Fs Vs) (i : Nat) (hi : Fs[i]? = some ⟨G, p⟩) {G' : Nat → Prop} (ho : Only G w w') (hF : ∀ q, G' q → G q ∨ w.heap.size ≤ q) (hs : Sup w' G' p') : Scn w0 w' L O (Fs.set i ⟨G', p'⟩) Vs := by
  obtain ⟨h1, h2⟩ := h.turn_aux i hi ho hF hs
  refine ⟨?_, h1, h2⟩
  rw [List.map_set]
  exact h.cal.turn i (by rw [List.getElem?_map, hi]; rfl) ho hF hs.lt
/-- .. that hands back a slice of the caller's own. -/
theorem Scn.turned {t : TypeId} {k : Nat} {A : Option Addr} {n c : Nat} {cs : List Value} (h : Scn w0 w L O Fs Vs) (i : Nat) (hi : Fs[i]? = some ⟨G, p⟩) {G' : Nat → Prop} (ho : Only G w w') (hF : ∀ q, G' q → G q ∨ w.heap.size ≤ q) (hs : Sup w' G' p')
    (hx : Own w' w.heap.size t k A n c cs) (hd : ∀ q, G' q → ownAt A c ≠ some q) : Scn w0 w' L (O ++ [⟨t, k, A, n, c, cs⟩]) (Fs.set i ⟨G', p'⟩) Vs := by
  obtain ⟨h1, h2⟩ := h.turn_aux i hi ho hF hs
  refine ⟨?_, h1, h2⟩
  rw [List.map_set]
  exact h.cal.turned i (by rw [List.getElem?_map, hi]; rfl) ho hF hs.lt hx hd
/-- A new value: its blocks are an elder value's, or new. -/
theorem Scn.next {cs0 cs : Array Value} {p0 : World → Prop} (h : Scn w0 w L O Fs Vs) (k : Nat) (hk : Vs[k]? = some ⟨blks cs0, p0⟩) (hb : Below w.heap.size w w') (hf : ∀ F, Far F cs0 → Far (fun q => F q ∨ w.heap.size ≤ q) cs) (hs : Sup w' (blks cs) p') : Scn w0 w' L O Fs (Vs ++ [⟨blks cs, p'⟩]) := by
  have h2 := h.below hb
  refine ⟨h2.cal, h2.fs, fun x hx => ?_⟩
  rcases List.mem_append.1 hx with hx | hx
  · exact h2.vs x hx
  · obtain rfl := List.mem_singleton.1 hx
    have hq : ∀ q, blks cs q → blks cs0 q ∨ w.heap.size ≤ q := fun q hq => (hf _ (Far.blks cs0)).sub q hq
    obtain ⟨h3, h4, h5⟩ := h.vs _ (List.mem_of_getElem? hk)
    refine ⟨hs, fun y hy q hy2 hq2 => ?_, fun e he hq2 => ?_⟩
    · rcases hq q hq2 with h6 | h6
      · exact h4 y hy q hy2 h6
      · have := (h.fs y hy).lt q hy2; omega
    · rcases hq _ hq2 with h6 | h6
      · exact h5 e he h6
      · have := h.cal.mem.lt he; omega
/-- .. beside a slice. -/
theorem Scn.nextO {t : TypeId} {s : Nat} {A : Option Addr} {n c : Nat} {vs : List Value} {cs0 cs : Array Value} {p0 : World → Prop} (h : Scn w0 w L O Fs Vs) (k : Nat) (hk : Vs[k]? = some ⟨blks cs0, p0⟩) (hb : Below w.heap.size w w') (hf : ∀ F, Far F cs0 → Far (fun q => F q ∨ w.heap.size ≤ q) cs) (hs : Sup w' (blks cs) p') (hx : Own w' w.heap.size t s A n c vs) : Scn w0 w' L (O ++ [⟨t, s, A, n, c, vs⟩]) Fs (Vs ++ [⟨blks cs, p'⟩]) :=
  ⟨h.cal.got hb hx, (h.next k hk hb hf hs).fs, (h.next k hk hb hf hs).vs⟩
/-- A value that a call has made out of nothing, or that lay there at first. -/
theorem Scn.fresh (h : Scn w0 w L O Fs Vs) (hb : Below w.heap.size w w') (hs : Sup w' G p) (hf : ∀ q, G q → w.heap.size ≤ q ∨ q < w0.heap.size) : Scn w0 w' L O Fs (Vs ++ [⟨G, p⟩]) := by
  have h2 := h.below hb
  refine ⟨h2.cal, h2.fs, fun x hx => ?_⟩
  rcases List.mem_append.1 hx with hx | hx
  · exact h2.vs x hx
  · obtain rfl := List.mem_singleton.1 hx
    refine ⟨hs, fun y hy q hy2 hq2 => ?_, fun e he hq2 => ?_⟩
    · rcases hf q hq2 with h6 | h6
      · have := (h.fs y hy).lt q hy2; omega
      · have := h.cal.lo _ (List.mem_map.2 ⟨y, hy, rfl⟩) q hy2; omega
    · rcases hf _ hq2 with h6 | h6
      · have := h.cal.mem.lt he; omega
      · rcases h.cal.mem.own e he with h7 | h7
        · exact h7
        · omega
/-- Fewer variables, fewer slices, fewer values. -/
theorem Scn.part (h : Scn w0 w L O Fs Vs) (hL : L2.Sublist L) (hO : O2.Sublist O) (hV : Vs2.Sublist Vs) : Scn w0 w L2 O2 Fs Vs2 :=
  ⟨h.cal.part hL hO, h.fs, fun x hx => by
    obtain ⟨h1, h2, h3⟩ := h.vs x (hV.subset hx)
    exact ⟨h1, h2, fun e he => h3 e (hL.subset he)⟩⟩
theorem Scn.keep (h : Scn w0 w L O Fs Vs) (i j k : Nat) : Scn w0 w (L.take i) (O.take j) Fs (Vs.drop k) := h.part (List.take_sublist _ _) (List.take_sublist _ _) (List.drop_sublist _ _)
end
section
variable {w0 w : World} {L : List Ent} {O : List Osl} {Fs Vs : List Thing}
/-- One variable, no slice, one value. -/
theorem Scn.lone (h : Scn w0 w L O Fs Vs) {e : Ent} {x : Thing} (i k : Nat) (hi : L[i]? = some e) (hk : Vs[k]? = some x) : Scn w0 w [e] [] Fs [x] :=
  h.part (List.singleton_sublist.2 (List.mem_of_getElem? hi)) (List.nil_sublist _) (List.singleton_sublist.2 (List.mem_of_getElem? hk))
end
end Go.Proofs.YtibaibdgpnkdnaaDoor
end

section
namespace Go.Proofs.YtibaibdgpnkdnaaDoor
set_option maxRecDepth 100000
set_option linter.unusedSimpArgs false
set_option linter.unusedVariables false
open Go.RowKit

/-- A range of cells. -/
structure Rng where
  b : Nat
  o : Nat
  cs : List Value
def Rngs (C : List Rng) (u : World) : Prop := ∀ r ∈ C, u.rangeAt r.b r.o r.cs
theorem Rngs.below {C : List Rng} {w w' : World} (h : Rngs C w) (hb : Below w.heap.size w w') : Rngs C w' := fun r hr j v hj => by
  have h1 := h r hr j v hj
  exact (World.cell?_of_block (hb.block r.b (World.block_lt_of_cell? w _ h1))).trans h1
theorem Rngs.nil (w : World) : Rngs [] w := fun r hr => by cases hr
structure KnS (L : List Ent) (C : List Rng) (u : World) : Prop where
  blk : ∀ e ∈ L, Blk u e.g e.t e.cs
  rng : Rngs C u
theorem KnS.of {R : Nat → Prop} {s w : World} {L : List Ent} {O : List Osl} {C : List Rng} (h : Mem R s w L O) (hc : Rngs C w) : KnS L C w := ⟨h.blk, hc⟩
theorem KnS.two {R : Nat → Prop} {s w : World} {L L2 : List Ent} {O : List Osl} {C : List Rng} (h : Mem R s w (L ++ L2) O) (hc : Rngs C w) : KnS L C w := ⟨fun e he => h.blk e (List.mem_append_left _ he), hc⟩
/-- A range is among those that are known. -/
structure InR (b o : Nat) (cs : List Value) (C : List Rng) : Prop where
  at_ : (⟨b, o, cs⟩ : Rng) ∈ C
theorem InR.a {b o : Nat} {cs : List Value} {C : List Rng} : InR b o cs (⟨b, o, cs⟩ :: C) := ⟨List.mem_cons_self⟩
theorem InR.b {b o : Nat} {cs : List Value} {r : Rng} {C : List Rng} (h : InR b o cs C) : InR b o cs (r :: C) := ⟨List.mem_cons_of_mem _ h.at_⟩
section
variable {P : Program} {ops : Array Oper} {rest : List Oper} {o : Oper} {a : Act} {w s : World} {Q : Exit → Act → World → Prop} {L : List Ent} {C : List Rng} {b q : Nat}
theorem KnS.ld (h : KnS L C w) (ty : TypeId) (x : Operand) (ho : o.op = .load ty x) (g i : Nat) (hx : a.eval x = .pointer (some ⟨g, i, none⟩)) (t : TypeId) (cs : Array Value) (hk : In g t cs L) (hT : oneT P ty = true) (v : Value) (hv : cs[i]? = some v) :
    (execOp a.eval o).run P w = .ok (.value v) w := by
  obtain ⟨k, hk⟩ := hk
  exact exec_ld (h.blk _ (List.mem_of_getElem? hk)) ty x ho hx hT v hv
theorem KnS.la (h : KnS L C w) (ty : TypeId) (x : Operand) (ho : o.op = .load ty x) (g i : Nat) (hx : a.eval x = .pointer (some ⟨g, i, none⟩)) (t : TypeId) (cs : Array Value) (hk : In g t cs L) (hT : aggT P ty = true) (z : Array Value) (hz : (P.info? ty).bind (·.zero) = some (.agg z)) (hn : (P.info? ty).map (·.size) = some z.size) (hin : i + z.size ≤ cs.size) (v : Value) (hv : Value.agg ((cs.toList.drop i).take z.size).toArray = v) :
    (execOp a.eval o).run P w = .ok (.value v) w := by
  obtain ⟨k, hk⟩ := hk
  exact exec_la (h.blk _ (List.mem_of_getElem? hk)) ty x ho hx z hz hT hn hin v hv
theorem KnS.lc (h : KnS L C w) (ty : TypeId) (x : Operand) (ho : o.op = .load ty x) (hx : a.eval x = .pointer (some ⟨b, q, none⟩)) (v0 : Value) (hk : InR b q [v0] C) (hT : oneT P ty = true) (v : Value) (he : v0 = v) :
    (execOp a.eval o).run P w = .ok (.value v) w := by
  subst he
  have hv : w.cell? ⟨b, q, none⟩ = some v0 := h.rng _ hk.at_ 0 v0 rfl
  unfold execOp
  simp only [ho, hx, Sem.run_bind, run_load_cell hT hv, Sem.run_pure, Result.andThen_ok]
theorem run_loadR {ty : TypeId} {cs : List Value} (hr : w.rangeAt b q cs) (hT : aggT P ty = true) (hn : (P.info? ty).map (·.size) = some cs.length) : (Instr.loadAt ty (.pointer (some ⟨b, q, none⟩))).run P w = .ok (.agg cs.toArray) w := by
  unfold aggT at hT
  cases hu : P.underlying ty with
  | none => rw [hu] at hT; cases hT
  | some d => exact run_loadAt_mid w b q ty cs d hr hu (by rw [hu] at hT; cases d <;> simp_all) hn
theorem KnS.lr (h : KnS L C w) (ty : TypeId) (x : Operand) (ho : o.op = .load ty x) (hx : a.eval x = .pointer (some ⟨b, q, none⟩)) (cs : List Value) (hk : InR b q cs C) (hT : aggT P ty = true) (hn : (P.info? ty).map (·.size) = some cs.length) (v : Value) (hv : Value.agg cs.toArray = v) :
    (execOp a.eval o).run P w = .ok (.value v) w := by
  subst hv
  unfold execOp
  simp only [ho, hx, Sem.run_bind, run_loadR (h.rng _ hk.at_) hT hn, Sem.run_pure, Result.andThen_ok]
/-- A load of a cell that lay there at first. -/
theorem wpList_lcR (hr : Rngs C w) (hw : Region.wanted o (yielded ops a.tmps) = true) (ty : TypeId) (x : Operand) (ho : o.op = .load ty x) (b q : Nat) (hx : a.eval x = .pointer (some ⟨b, q, none⟩)) (v : Value) (hk : InR b q [v] C) (hT : oneT P ty = true)
    (h : wpList P ops Q rest (a.put o.dst v) w) : wpList P ops Q (o :: rest) a w :=
  wpList_lc hw ty x ho _ hx hT v (hr _ hk.at_ 0 v rfl) h
/-- .. of a struct. -/
theorem wpList_lrR (hr : Rngs C w) (hw : Region.wanted o (yielded ops a.tmps) = true) (ty : TypeId) (x : Operand) (ho : o.op = .load ty x) (b q : Nat) (hx : a.eval x = .pointer (some ⟨b, q, none⟩)) (cs : List Value) (hk : InR b q cs C) (hT : aggT P ty = true) (hn : (P.info? ty).map (·.size) = some cs.length)
    (h : wpList P ops Q rest (a.put o.dst (.agg cs.toArray)) w) : wpList P ops Q (o :: rest) a w := by
  refine wpList_go hw ?_
  unfold Oper.wp execOp
  simp only [ho, hx, Sem.run_bind, run_loadR (hr _ hk.at_) hT hn, Sem.run_pure, Result.andThen_ok]
  exact h
end
end Go.Proofs.YtibaibdgpnkdnaaDoor
end

section
namespace Go.Proofs.YtibaibdgpnkdnaaDoor
set_option maxRecDepth 100000
set_option linter.unusedSimpArgs false
set_option linter.unusedVariables false
open Go.RowKit
section
variable {P : Program} {ops : Array Oper} {rest : List Oper} {o : Oper} {a : Act} {w s : World} {Q : Exit → Act → World → Prop} {L : List Ent} {C : List Rng} {b q : Nat}
theorem KnS.lcT (h : KnS L C w) (ty : TypeId) (x : Operand) (ho : o.op = .load ty x) (hx : a.eval x = .pointer (some ⟨b, q, none⟩)) (hT : oneT P ty = true) (v0 : Value) (hk : InR b q [v0] C) (v : Value) (he : v0 = v) :
    (execOp a.eval o).run P w = .ok (.value v) w := KnS.lc h ty x ho hx v0 hk hT v he
theorem wpList_lcRT (hr : Rngs C w) (hw : Region.wanted o (yielded ops a.tmps) = true) (ty : TypeId) (x : Operand) (ho : o.op = .load ty x) (hT : oneT P ty = true) (b q : Nat) (hx : a.eval x = .pointer (some ⟨b, q, none⟩)) (v : Value) (hk : InR b q [v] C)
    (h : wpList P ops Q rest (a.put o.dst v) w) : wpList P ops Q (o :: rest) a w := wpList_lcR hr hw ty x ho b q hx v hk hT h
end
end Go.Proofs.YtibaibdgpnkdnaaDoor
end

section
namespace Go.Proofs.YtibaibdgpnkdnaaDoor
set_option maxRecDepth 100000
set_option linter.unusedSimpArgs false
set_option linter.unusedVariables false
open Go.RowKit

theorem or_join (i : Nat) (x y : Nat) (hx : x % 2 ^ i = 0) (hy : y < 2 ^ i) (hxx : x < 4294967296) (hyy : y < 4294967296) : bits .or .u32 (x : Int) (y : Int) = ((x + y : Nat) : Int) := by
  rw [u32_or_nat x y hxx hyy, nat_join i x y hx hy]

theorem cip_num_eq (a b c d : UInt8) :
    bits BinOp.or IntKind.u32 (bits BinOp.or IntKind.u32 (bits BinOp.or IntKind.u32 ((a.toNat : Int) % 4294967296 * 16777216 % 4294967296) ((b.toNat : Int) % 4294967296 * 65536 % 4294967296)) ((c.toNat : Int) % 4294967296 * 256 % 4294967296)) ((d.toNat : Int) % 4294967296) =
      ((a.toNat * 16777216 + b.toNat * 65536 + c.toNat * 256 + d.toNat : Nat) : Int) := by
  have h0 := a.toNat_lt
  have h1 := b.toNat_lt
  have h2 := c.toNat_lt
  have h3 := d.toNat_lt
  have e0 : ((a.toNat : Int) % 4294967296 * 16777216 % 4294967296) = ((a.toNat * 16777216 : Nat) : Int) := by omega
  have e1 : ((b.toNat : Int) % 4294967296 * 65536 % 4294967296) = ((b.toNat * 65536 : Nat) : Int) := by omega
  have e2 : ((c.toNat : Int) % 4294967296 * 256 % 4294967296) = ((c.toNat * 256 : Nat) : Int) := by omega
  have e3 : ((d.toNat : Int) % 4294967296) = ((d.toNat : Nat) : Int) := by omega
  rw [e0, e1, e2, e3, or_join 24 _ _ (by omega) (by omega) (by omega) (by omega), or_join 16 _ _ (by omega) (by omega) (by omega) (by omega), or_join 8 _ _ (by omega) (by omega) (by omega) (by omega)]

set_option maxHeartbeats 400000 in
theorem cipher_number (b o n c : Nat) (bs : List UInt8) (B : Nat) (w : World) (hn : (4 : Int) ≤ n) (hl : 4 ≤ bs.length) (hr : Row w B (some ⟨b, o, none⟩) (bcells bs)) :
    Calls Tryd.prog 73 #[.slice (some ⟨b, o, none⟩) n c] w fun e w' => e = .returned (.int .u32 ((Cip.num bs).toNat : Int)) ∧ ∃ k, w' = w.drewN k := by
  have c0 := hr.byte 0 (by omega)
  have c1 := hr.byte 1 (by omega)
  have c2 := hr.byte 2 (by omega)
  have c3 := hr.byte 3 (by omega)
  have hfin := cip_num_eq (bs.getD 0 0) (bs.getD 1 0) (bs.getD 2 0) (bs.getD 3 0)
  rw [← Cip.num_toNat] at hfin
  have HF := Lib.hid hfin
  clear hfin hr
  rw [Nat.add_zero] at c0
  generalize bs.getD 0 0 = x0 at *
  generalize bs.getD 1 0 = x1 at *
  generalize bs.getD 2 0 = x2 at *
  generalize bs.getD 3 0 = x3 at *
  go_enter Tryd.func73, Tryd.ntmps73
  go_wp2
  go_quiet (fail)
  go_wp2
  go_ret
  exact ⟨congrArg (fun x => Ending.returned (.int .u32 x)) HF.out, _, rfl⟩

theorem cip_num_eq' (a b c d : UInt8) :
    ((((a.toNat : Int) % 4294967296 * 16777216 % 4294967296 + (b.toNat : Int) % 4294967296 * 65536 % 4294967296) % 4294967296 + (c.toNat : Int) % 4294967296 * 256 % 4294967296) % 4294967296 + (d.toNat : Int) % 4294967296) % 4294967296 =
      ((a.toNat * 16777216 + b.toNat * 65536 + c.toNat * 256 + d.toNat : Nat) : Int) := by
  have h0 := a.toNat_lt
  have h1 := b.toNat_lt
  have h2 := c.toNat_lt
  have h3 := d.toNat_lt
  omega

theorem u32_mix (x k : UInt32) :
    bits BinOp.xor IntKind.u32 (((x.toNat : Int) + (k.toNat : Int)) % 4294967296 * 2654435761 % 4294967296) (((x.toNat : Int) + (k.toNat : Int)) % 4294967296 * 2654435761 % 4294967296 / 32768) * 2246822519 % 4294967296 = ((Cip.mixF x k).toNat : Int) := by
  have h0 := x.toNat_lt
  have h1 := k.toNat_lt
  have e : ((x.toNat : Int) + (k.toNat : Int)) % 4294967296 * 2654435761 % 4294967296 = (((x + k) * 2654435761 : UInt32).toNat : Int) := by
    rw [UInt32.toNat_mul, UInt32.toNat_add]
    show _ = (((x.toNat + k.toNat) % 4294967296 * 2654435761 % 4294967296 : Nat) : Int)
    omega
  rw [e]
  have h2 := ((x + k) * 2654435761 : UInt32).toNat_lt
  unfold Cip.mixF
  generalize (x + k) * 2654435761 = t at *
  have e2 : (t.toNat : Int) / (32768 : Int) = ((t >>> 15).toNat : Int) := by
    rw [UInt32.toNat_shiftRight]
    show _ = ((t.toNat >>> 15 : Nat) : Int)
    rw [Nat.shiftRight_eq_div_pow]
    omega
  have h3 := (t >>> 15).toNat_lt
  rw [e2, u32_xor_nat _ _ (by omega) (by omega)]
  show _ = (((t ^^^ t >>> 15) * 2246822519 : UInt32).toNat : Int)
  rw [UInt32.toNat_mul, UInt32.toNat_xor]
  show _ = (((t.toNat ^^^ (t >>> 15).toNat) * 2246822519 % 4294967296 : Nat) : Int)
  omega

set_option maxHeartbeats 400000 in
theorem cipher_f (x k : UInt32) (w : World) :
    Calls Tryd.prog 74 #[.int .u32 (x.toNat : Int), .int .u32 (k.toNat : Int)] w fun e w' => e = .returned (.int .u32 ((Cip.mixF x k).toNat : Int)) ∧ w' = w := by
  have HF := Lib.hid (u32_mix x k)
  go_enter Tryd.func74, Tryd.ntmps74
  go_wp2
  go_ret
  exact ⟨congrArg (fun x => Ending.returned (.int .u32 x)) HF.out, rfl⟩

/-- The array of the round keys when k of them are there. -/
def karr (key : List UInt8) (k : Nat) : Array Value := ((List.range 16).map fun j => W32 (if j < k then Cip.rk key j else 0)).toArray
theorem karr_size (key : List UInt8) (k : Nat) : (karr key k).size = 16 := by simp [karr]
theorem karr_one (key : List UInt8) (k : Nat) : (karr key k).all (·.oneCell') = true := by simp [karr, Value.oneCell']
theorem karr_set (key : List UInt8) (k : Nat) : (karr key k).setIfInBounds k (W32 (Cip.rk key k)) = karr key (k + 1) := by
  apply Array.ext_getElem?
  intro i
  simp only [karr, List.setIfInBounds_toArray, List.getElem?_toArray, List.getElem?_set, List.getElem?_map, List.length_map, List.length_range]
  by_cases hi : i < 16
  · rw [List.getElem?_range hi]
    by_cases e : k = i
    · subst e; simp [hi]
    · by_cases h : i < k
      · simp [e, h, show i < k + 1 by omega]
      · simp [e, h, show ¬ i < k + 1 by omega]
  · rw [List.getElem?_eq_none (by simp; omega)]
    by_cases e : k = i
    · subst e; simp [hi]
    · simp [e]

set_option maxHeartbeats 400000 in
theorem cipher_roundKeys (b o c : Nat) (key : List UInt8) (w : World) (hk : key.length = 16) (hc : 16 ≤ c) (hr : Row w w.heap.size (some ⟨b, o, none⟩) (bcells key)) :
    Calls Tryd.prog 71 #[.slice (some ⟨b, o, none⟩) 16 c] w fun e w' => e = .returned (.agg (karr key 16)) ∧ Below w.heap.size w w' := by
  have Hk := Lib.hid hk
  go_enter Tryd.func71, Tryd.ntmps71
  go_wp2_with fail
  go_loopw [6] (fun i wr => ∃ k : Nat, k ≤ 16 ∧ i = .int .i64 k ∧ Blk wr w.heap.size 135 (karr key 0) ∧ Blk wr (w.heap.size + 1) 135 (karr key k) ∧ Below w.heap.size w wr) (fun i _ => 16 - (intOf i).toNat)
  case atStart =>
    exact ⟨0, by omega, rfl, (Blk.new' _ rfl rfl).alloc _, Blk.new' _ (by simp) rfl, ((Below.refl _ _).alloc (Nat.le_refl _) _).alloc (by simp) _⟩
  case round =>
    obtain ⟨k, hk16, rfl, hb1, hb2, hbel⟩ := hrel
    by_cases hlt : k < 16
    · have hf := hb2.frozen k
      obtain ⟨v0, hcl⟩ := hb2.has k (by simp [karr]; omega)
      have hrk : Calls Tryd.prog 73 #[.slice (some ⟨b, o + k % 4 * 4, none⟩) 4 (c - k % 4 * 4)] wr fun e w' => e = .returned (.int .u32 ((Cip.num (key.drop (k % 4 * 4))).toNat : Int)) ∧ ∃ k, w' = wr.drewN k :=
        cipher_number _ _ 4 _ _ w.heap.size wr (by omega) (by simp; omega) ((hr.below hbel).bdrop _)
      have HR := Lib.hid hrk
      clear hrk
      go_wp2_with (go_at_call 73; refine HR.out.mono ?_; rintro e w1 ⟨rfl, k1, rfl⟩)
      go_roundw
      case rel =>
        have hv : ((Cip.num (key.drop (k % 4 * 4))).toNat + (k : Int) * 2654435769) % 4294967296 = ((Cip.rk key k).toNat : Int) := by
          unfold Cip.rk
          rw [UInt32.toNat_add, UInt32.toNat_mul, UInt32.toNat_ofNat_of_lt' (by simp only [UInt32.size]; omega), Nat.mul_comm 4]
          show _ = (((Cip.num (key.drop (k % 4 * 4))).toNat + k * 2654435769 % 4294967296 : Nat) % 4294967296 : Int)
          omega
        rw [hv]
        refine ⟨k + 1, by omega, by go_num, (hb1.drewN k1).far (by simp) _, ?_, (Below.drewN hbel _).setCell (by simp) _⟩
        rw [← karr_set]
        exact (hb2.drewN k1).set k _
      case measure => simp [intOf]; omega
    · obtain rfl : k = 16 := by omega
      have hss : (karr key 0).size = (karr key 16).size := by rw [karr_size, karr_size]
      have hone := karr_one key 16
      have hsz : (Tryd.prog.info? 135).map (·.size) = some 16 := by kernel_rfl
      go_wp2_with (first
        | ((with_reducible show wpList _ _ _ (Oper.mk _ (Op.load 135 (Operand.tmp 3)) _ _ _ _ :: _) _ _); refine wpList_load_row rfl 135 (.tmp 3) rfl (w.heap.size + 1) rfl 135 (karr key 16) (0, 0) _ hb2 Tryd.underlying135 rfl hsz ?_)
        | ((with_reducible show wpList _ _ _ (Oper.mk _ (Op.store 135 (Operand.tmp 2) (Operand.tmp 25)) _ _ _ _ :: _) _ _); refine wpList_store_row rfl 135 (.tmp 2) (.tmp 25) rfl w.heap.size (karr key 16) rfl rfl 135 (karr key 0) hb1 hsz hss hone ?_))
      have hb3 := hb1.setRow (karr key 16)
      refine bodyPost_ret (v := .agg (karr key 16)) (results_cell_row rfl _ _ w.heap.size 135 _ (0, 0) _ rfl hb3 Tryd.underlying135 rfl (by kernel_rfl)) rfl ⟨rfl, Below.setRow hbel (Nat.le_refl _) _⟩
end Go.Proofs.YtibaibdgpnkdnaaDoor
end

section
namespace Go.Proofs.YtibaibdgpnkdnaaDoor
set_option maxRecDepth 100000
set_option linter.unusedSimpArgs false
set_option linter.unusedVariables false
open Go.RowKit

theorem karr_get (key : List UInt8) (i : Nat) (hi : i < 16) : (karr key 16)[i]? = some (W32 (Cip.rk key i)) := by
  simp [karr, hi]

set_option maxRecDepth 100000 in
set_option maxHeartbeats 1000000 in
theorem cipher_run (l r : UInt32) (ks : List UInt32) (hk : ks.length = 16) (w : World) :
    Calls Tryd.prog 72 #[.agg #[W32 l, W32 r], .agg (ks.map W32).toArray] w fun e w' =>
      e = .returned (.agg #[W32 (Cip.steps (l, r) ks).2, W32 (Cip.steps (l, r) ks).1]) ∧ Below w.heap.size w w' := by
  have Hk := Lib.hid hk
  clear hk
  go_enter Tryd.func72, Tryd.ntmps72
  go_wp2_with fail
  go_loopw [6] (fun i wr => ∃ k : Nat, k ≤ 16 ∧ i = .int .i64 k ∧ Blk wr w.heap.size 138 #[W32 (Cip.steps (l, r) (ks.take k)).1, W32 (Cip.steps (l, r) (ks.take k)).2] ∧
      Blk wr (w.heap.size + 1) 135 (ks.map W32).toArray ∧ Blk wr (w.heap.size + 2) 138 #[W32 0, W32 0] ∧ Below w.heap.size w wr) (fun i _ => 16 - (intOf i).toNat)
  case atStart =>
    refine ⟨0, by omega, rfl, ((Blk.new' _ rfl rfl).alloc _).alloc _, (Blk.new' _ (by simp) rfl).alloc _, Blk.new' _ (by simp) rfl, (((Below.refl _ _).alloc (Nat.le_refl _) _).alloc (by simp) _).alloc (by simp; omega) _⟩
  case round =>
    obtain ⟨k, hk16, rfl, hb0, hb1, hb2, hbel⟩ := hrel
    by_cases hlt : k < 16
    · have hkl : k < ks.length := by rw [Hk.out]; exact hlt
      have e1 : ks.take (k + 1) = ks.take k ++ [ks[k]] := by rw [List.take_succ_eq_append_getElem hkl]
      have c1 : wr.cell? ⟨w.heap.size + 1, k, none⟩ = some (W32 ks[k]) := by rw [hb1.cell]; simp [List.getElem?_map, List.getElem?_eq_getElem hkl]
      have E1 := Lib.hid e1
      have hb1' := Lib.hid hb1
      clear e1 hb1
      generalize ks[k] = kk at *
      generalize hst : Cip.steps (l, r) (ks.take k) = st at *
      have Hst := Lib.hid hst
      clear hst
      obtain ⟨a, b⟩ := st
      have a0 : wr.cell? ⟨w.heap.size, 0, none⟩ = some (W32 a) := hb0.cell 0
      have a1 : wr.cell? ⟨w.heap.size, 1, none⟩ = some (W32 b) := hb0.cell 1
      go_wp2_with fail
      have i0 : (0 : Int) ≤ (k : Int) := by omega
      have i1 : (k : Int) < 16 := by omega
      have hf0 := hb0.frozen 0
      have hf1 := hb0.frozen 1
      refine wp_region_quiet_tail 12 (by kernel_rfl) (by kernel_rfl) ?_
      simp only [List.take_succ_cons, List.take_zero]
      repeat (go_big_quiet_step ((go_at_call 74; exact Calls.quiet_of_same (cipher_f b kk _))))
      refine wpQuiet_nil ?_
      rintro _ ⟨nq, rfl⟩
      simp only [List.drop_succ_cons, List.drop_zero]
      go_wp2_with fail
      go_roundw
      case rel =>
        have hx : bits BinOp.xor IntKind.u32 (a.toNat : Int) ((Cip.mixF b kk).toNat : Int) = ((a ^^^ Cip.mixF b kk).toNat : Int) := by
          rw [u32_xor_nat _ _ a.toNat_lt (Cip.mixF b kk).toNat_lt, UInt32.toNat_xor]
        have hs : Cip.steps (l, r) (ks.take (k + 1)) = (b, a ^^^ Cip.mixF b kk) := by
          rw [E1.out, Cip.steps, List.foldl_append]
          show Cip.step (Cip.steps (l, r) (ks.take k)) kk = _
          rw [Hst.out]; rfl
        rw [hx]
        refine ⟨k + 1, by omega, by go_num, ?_, ?_, ((hb2.drewN nq).far (by simp) _).far (by simp) _, ((Below.drewN hbel nq).setCell (by simp) _).setCell (by simp) _⟩
        · rw [hs]
          exact ((hb0.drewN nq).set 0 _).set 1 _
        · exact ((hb1'.out.drewN nq).far (by simp) _).far (by simp) _
      case measure => simp [intOf]; omega
    · obtain rfl : k = 16 := by omega
      have e16 : ks.take 16 = ks := by rw [List.take_of_length_le (by rw [Hk.out]; omega)]
      rw [e16] at hb0
      have a0 : wr.cell? ⟨w.heap.size, 0, none⟩ = some (W32 (Cip.steps (l, r) ks).1) := hb0.cell 0
      have a1 : wr.cell? ⟨w.heap.size, 1, none⟩ = some (W32 (Cip.steps (l, r) ks).2) := hb0.cell 1
      have f0 := hb2.frozen 0
      have f1 := hb2.frozen 1
      have d0 : wr.cell? ⟨w.heap.size + 2, 0, none⟩ = some (W32 0) := hb2.cell 0
      have d1 : wr.cell? ⟨w.heap.size + 2, 1, none⟩ = some (W32 0) := hb2.cell 1
      go_wp2_with fail
      refine bodyPost_ret (v := .agg #[W32 (Cip.steps (l, r) ks).2, W32 (Cip.steps (l, r) ks).1]) (results_cell_row rfl _ _ (w.heap.size + 2) 138 #[W32 (Cip.steps (l, r) ks).2, W32 (Cip.steps (l, r) ks).1] (0, 0) _ rfl ((hb2.set 0 _).set 1 _) Tryd.underlying138 rfl (by kernel_rfl)) rfl ⟨rfl, (hbel.setCell (by dsimp only; omega) _).setCell (by dsimp only; omega) _⟩
end Go.Proofs.YtibaibdgpnkdnaaDoor
end

section
namespace Go.Proofs.YtibaibdgpnkdnaaDoor
set_option maxRecDepth 100000
set_option linter.unusedSimpArgs false
set_option linter.unusedVariables false
open Go.RowKit

/-- The keys of the rounds while k pairs of them are exchanged. -/
def sarr (key : List UInt8) (k : Nat) : Array Value := ((List.range 16).map fun j => W32 (if j < k ∨ 15 < j + k then Cip.rk key (15 - j) else Cip.rk key j)).toArray
theorem sarr_size (key : List UInt8) (k : Nat) : (sarr key k).size = 16 := by simp [sarr]
theorem sarr_zero (key : List UInt8) : karr key 16 = sarr key 0 := by
  unfold karr sarr
  refine congrArg List.toArray (List.map_congr_left fun j hj => ?_)
  have := List.mem_range.1 hj
  rw [if_pos this, if_neg (by omega)]
theorem sarr_keys (key : List UInt8) : sarr key 8 = ((Cip.keys key true).map W32).toArray := by
  unfold sarr Cip.keys
  rw [List.map_map]
  refine congrArg List.toArray (List.map_congr_left fun j hj => ?_)
  have := List.mem_range.1 hj
  rw [if_pos (by omega)]
  simp only [Function.comp_apply, if_true]
theorem karr_keys (key : List UInt8) : karr key 16 = ((Cip.keys key false).map W32).toArray := by
  unfold karr Cip.keys
  rw [List.map_map]
  refine congrArg List.toArray (List.map_congr_left fun j hj => ?_)
  have := List.mem_range.1 hj
  rw [if_pos this]
  simp only [Function.comp_apply, Bool.false_eq_true, if_false]
theorem sarr_get (key : List UInt8) (k i : Nat) (hi : i < 16) : (sarr key k)[i]? = some (W32 (if i < k ∨ 15 < i + k then Cip.rk key (15 - i) else Cip.rk key i)) := by
  simp [sarr, hi]
theorem sarr_set (key : List UInt8) (k : Nat) (hk : k < 8) : ((sarr key k).setIfInBounds k (W32 (Cip.rk key (15 - k)))).setIfInBounds (15 - k) (W32 (Cip.rk key k)) = sarr key (k + 1) := by
  apply Array.ext_getElem?
  intro i
  simp only [sarr, List.setIfInBounds_toArray, List.getElem?_toArray, List.getElem?_set, List.getElem?_map, List.length_map, List.length_range, List.length_set]
  by_cases hi : i < 16
  · rw [List.getElem?_range hi]
    by_cases e : 15 - k = i
    · subst e
      simp [show 15 - k < 16 by omega, show 15 < 15 - k + (k + 1) by omega, show 15 - (15 - k) = k by omega]
    · by_cases e' : k = i
      · subst e'; simp [e, hi]
      · rw [if_neg e, if_neg e']
        have : (i < k ∨ 15 < i + k) ↔ (i < k + 1 ∨ 15 < i + (k + 1)) := by omega
        simp only [Option.map_some, this]
  · rw [List.getElem?_eq_none (by simp; omega)]
    rw [if_neg (show ¬ 15 - k = i by omega), if_neg (show ¬ k = i by omega)]
    rfl

theorem cells4 (x : UInt32) : #[Value.int .u8 ((x.toNat : Int) / 16777216 % 256), .int .u8 ((x.toNat : Int) / 65536 % 256), .int .u8 ((x.toNat : Int) / 256 % 256), .int .u8 ((x.toNat : Int) % 256)].toList = bcells (Cip.bytes4 x) := by
  simp [bcells, Cip.bytes4, B8]
theorem out_take (a b : UInt32) (k : Nat) (hk : k < 2) : (Cip.out (a, b)).take (4 * (k + 1)) = (Cip.out (a, b)).take (4 * k) ++ Cip.bytes4 (if k = 0 then b else a) := by
  rcases (show k = 0 ∨ k = 1 by omega) with rfl | rfl <;> rfl

theorem u8_info : (Tryd.prog.info? 5).map (fun i => (i.zero, i.size, i.bytes)) = some (some (.int .u8 0), 1, 1) := by kernel_rfl

set_option maxHeartbeats 400000 in
theorem crypt_key (A A' : Option Addr) (n n' c c' : Nat) (back : Bool) (w : World) (hn : n ≠ 16) :
    Calls Tryd.prog 70 #[.slice A n c, .slice A' n' c', .bool back] w fun e w' => e = .returned (.tuple #[.slice none 0 0, .int .i64 19]) ∧ w' = w := by
  have h0 : ((n : Int) != 16) = true := by simp; omega
  go_enter Tryd.func70, Tryd.ntmps70
  go_wp2_with fail
  go_ret2
  exact ⟨rfl, rfl⟩

set_option maxHeartbeats 400000 in
theorem crypt_block (A A' : Option Addr) (n' c c' : Nat) (back : Bool) (w : World) (hn : n' ≠ 8) :
    Calls Tryd.prog 70 #[.slice A 16 c, .slice A' n' c', .bool back] w fun e w' => e = .returned (.tuple #[.slice none 0 0, .int .i64 1]) ∧ w' = w := by
  have h0 : ((n' : Int) != 8) = true := by simp; omega
  go_enter Tryd.func70, Tryd.ntmps70
  go_wp2_with fail
  go_ret2
  exact ⟨rfl, rfl⟩

set_option maxRecDepth 100000 in
set_option maxHeartbeats 1000000 in
theorem crypt_ok (kb ko bb bo c c' : Nat) (back : Bool) (key block : List UInt8) (w : World) (hk : Byt w w.heap.size (some ⟨kb, ko, none⟩) 16 c key) (hb : Byt w w.heap.size (some ⟨bb, bo, none⟩) 8 c' block) :
    Calls Tryd.prog 70 #[.slice (some ⟨kb, ko, none⟩) 16 c, .slice (some ⟨bb, bo, none⟩) 8 c', .bool back] w fun e w' => ∃ A d, e = .returned (.tuple #[.slice A 8 d, .int .i64 0]) ∧
      Own w' w.heap.size 5 1 A 8 d (bcells (Cip.crypt key block back)) ∧ Below w.heap.size w w' := by
  obtain ⟨i0, hi0, hz0, hz1, hz2⟩ := info_parts u8_info
  have hks := Lib.hid hk.1
  have hc := hk.2.1
  have hc' := hb.2.1
  have hsz : (Tryd.prog.info? 135).map (·.size) = some 16 := by kernel_rfl
  go_enter Tryd.func70, Tryd.ntmps70
  go_upto_if 21 with (first
    | (go_at_call 71; refine (cipher_roundKeys kb ko c key w hks.out hc hk.2.2).mono ?_; rintro e w1 ⟨rfl, hb1⟩)
    | ((with_reducible show wpList _ _ _ (Oper.mk _ (Op.store 135 (Operand.tmp 8) (Operand.tmp 20)) _ _ _ _ :: _) _ _); refine wpList_store_row rfl 135 (.tmp 8) (.tmp 20) rfl w1.heap.size (karr key 16) rfl rfl 135 _ (Blk.new _ _ _) hsz (karr_size key 16).symm (karr_one key 16) ?_))
  have hk1 := (Blk.new w1 135 #[Value.int IntKind.u32 0, Value.int IntKind.u32 0, Value.int IntKind.u32 0, Value.int IntKind.u32 0, Value.int IntKind.u32 0, Value.int IntKind.u32 0, Value.int IntKind.u32 0, Value.int IntKind.u32 0, Value.int IntKind.u32 0, Value.int IntKind.u32 0, Value.int IntKind.u32 0, Value.int IntKind.u32 0, Value.int IntKind.u32 0, Value.int IntKind.u32 0, Value.int IntKind.u32 0, Value.int IntKind.u32 0]).setRow (karr key 16)
  have hb2 : Below w.heap.size w (World.setRow (w1.alloc (Obj.cells #[Value.int IntKind.u32 0, Value.int IntKind.u32 0, Value.int IntKind.u32 0, Value.int IntKind.u32 0, Value.int IntKind.u32 0, Value.int IntKind.u32 0, Value.int IntKind.u32 0, Value.int IntKind.u32 0, Value.int IntKind.u32 0, Value.int IntKind.u32 0, Value.int IntKind.u32 0, Value.int IntKind.u32 0, Value.int IntKind.u32 0, Value.int IntKind.u32 0, Value.int IntKind.u32 0, Value.int IntKind.u32 0] 135)) w1.heap.size (karr key 16)) :=
    Below.setRow (hb1.alloc hb1.size _) hb1.size _
  generalize World.setRow (w1.alloc _) w1.heap.size (karr key 16) = w2 at *
  have hlt1 := hk1.lt
  generalize hg : w1.heap.size = g at *
  go_cut [9] (fun _ wx => Blk wx g 135 ((Cip.keys key back).map W32).toArray ∧ Below w.heap.size w wx)
  case first =>
    cases back with
    | false =>
      go_wp2_with fail
      go_meet
      exact ⟨by rw [← karr_keys]; exact hk1, hb2⟩
    | true =>
      rw [sarr_zero] at hk1
      go_wp2_with fail
      go_loopw [22] (fun i wr => ∃ k : Nat, k ≤ 8 ∧ i = .int .i64 k ∧ Blk wr g 135 (sarr key k) ∧ Below w.heap.size w wr) (fun i _ => 8 - (intOf i).toNat)
      case atStart => exact ⟨0, by omega, rfl, hk1, hb2⟩
      case round =>
        obtain ⟨k, hk8, rfl, hbk, hbel⟩ := hrel
        by_cases hlt : k < 8
        · have i0 : (0 : Int) ≤ (k : Int) := by omega
          have i1 : (k : Int) < 16 := by omega
          have i2 : (k : Int) ≤ 15 := by omega
          have i3 : 15 - (k : Int) < 16 := by omega
          have c0 : wr.cell? ⟨g, k, none⟩ = some (W32 (Cip.rk key k)) := by rw [hbk.cell, sarr_get key k k (by omega), if_neg (by omega)]
          have c1 : wr.cell? ⟨g, 15 - k, none⟩ = some (W32 (Cip.rk key (15 - k))) := by rw [hbk.cell, sarr_get key k (15 - k) (by omega), if_neg (by omega)]
          have hgw : w.heap.size ≤ g := by rw [← hg]; exact hb1.size
          have f0 := hbk.frozen k
          have f1 := hbk.frozen (15 - k)
          go_wp2_with fail
          have i5 : (15 - (k : Int)).toNat = 15 - k := by omega
          have i4 : IntKind.i64.wrap (15 - (k : Int)) = 15 - (k : Int) := IntWalk.i64_in _ (by omega)
          go_region
          all_goals
            clear i4 i5
            go_wp2_with fail
            go_roundw
            case rel =>
              refine ⟨k + 1, by omega, by go_num, ?_, ?_⟩
              · rw [← sarr_set key k hlt]
                exact ((hbk.set k _).set (15 - k) _).drew
              · exact ((hbel.setCell hgw _).setCell hgw _).drew
            case measure => simp [intOf]; omega
        · obtain rfl : k = 8 := by omega
          rw [sarr_keys] at hbk
          go_wp2_with fail
          go_meet
          exact ⟨hbk, hbel⟩
  case rest =>
    obtain ⟨hbk, hbel⟩ := hcut
    have hkl : ((Cip.keys key back).map W32).length = 16 := by simp [Cip.keys]
    have hrange : wc.rangeAt g 0 ((Cip.keys key back).map W32) := fun j v hv => by
      rw [hbk.cell]; simpa using hv
    have hu := Tryd.underlying135
    have hsz2 : (Tryd.prog.info? 135).map (·.size) = some ((Cip.keys key back).map W32).length := by rw [hkl]; exact hsz
    have hgc := hbk.lt
    have hb' : Row wc w.heap.size (some ⟨bb, bo, none⟩) (bcells block) := (hb.below hbel).2.2
    clear hbk
    go_wp2_with fail
    have j0 : (4 : Int) ≤ (c' : Int) := by omega
    have j1 : ¬ c' = 4 := by omega
    go_region_held3 (fun w' => w'.rangeAt g 0 ((Cip.keys key back).map W32))
      (first | exact hrange | exact fun j v hv => (hb3.cell (p := ⟨g, 0 + j, none⟩) hgc).trans (hrange j v hv))
      (first
        | (go_at_call_of 73 (Value.slice (some ⟨bb, bo, none⟩) 4 c'); refine (cipher_number bb bo 4 c' (block.take 4) w.heap.size _ (by omega) (by simp [hb.1]) (by exact hb'.btake 4)).mono ?_; rintro e w2 ⟨rfl, k2, rfl⟩)
        | (go_at_call 73; refine (cipher_number bb (bo + 4) 4 (c' - 4) (block.drop 4) w.heap.size _ (by omega) (by simp [hb.1]) (by exact hb'.bdrop 4)).mono ?_; rintro e w2 ⟨rfl, k2, rfl⟩)
        | (go_at_call 72; refine (cipher_run _ _ _ (by simp [Cip.keys]) _).mono ?_; rintro e w3 ⟨rfl, hb3⟩))
    have hbel3 : Below w.heap.size w w3 := (Below.drewN hbel _).trans (hb3.mono hbel.size)
    generalize hst : Cip.steps (Cip.num (block.take 4), Cip.num (block.drop 4)) (Cip.keys key back) = st
    have Hst := Lib.hid hst
    clear hst hb3 hrange
    obtain ⟨a, b⟩ := st
    have x0 : ∀ (k : Nat), k < 2 → ∀ u : World, (Instr.index 138 (.agg #[W32 b, W32 a]) (.int .i64 (k : Int))).run Tryd.prog u = .ok (W32 (if k = 0 then b else a)) u := by
      intro k hk
      rcases (show k = 0 ∨ k = 1 by omega) with rfl | rfl
      · exact fun _ => by kernel_rfl
      · exact fun _ => by kernel_rfl
    go_wp2_with fail
    go_loopw [10, 47] (fun v i wr => ∃ (k : Nat) (A : Option Addr) (d : Nat), k ≤ 2 ∧ i = .int .i64 k ∧ v = .slice A (4 * k) d ∧ Own wr w.heap.size 5 1 A (4 * k) d (bcells ((Cip.out (a, b)).take (4 * k))) ∧ Below w.heap.size w wr) (fun _ i _ => 2 - (intOf i).toNat)
    case atStart => exact ⟨0, none, 0, by omega, rfl, rfl, Own.none_ _ _ _ _ _, hbel3⟩
    case round =>
      obtain ⟨k, A, d, hk2, rfl, rfl, hown, hbw⟩ := hrel
      by_cases hlt : k < 2
      · have x1 := x0 k hlt
        have ot := Lib.hid (out_take a b k hlt)
        clear x0
        generalize (if k = 0 then b else a) = x at *
        go_wp2_with (at_builtin; refine wpList_append _ rfl (.tmp 50) (.tmp 62) 22 rfl w.heap.size 5 i0 _ 1 1 Tryd.underlying22 hi0 hz0 hz1 hz2 rfl (by omega) A (4 * k) d (bcells ((Cip.out (a, b)).take (4 * k))) rfl (hown.alloc _) (wr.heap.size + 1) (some ⟨wr.heap.size, 0, none⟩) 4 4 (bcells (Cip.bytes4 x)) rfl (Row.new wr (cells4 x)) (by simp [Cip.bytes4]) (bcells_one _) (by unfold maxLen; omega) (by omega) (by simp; have := hbw.size; omega) ?_; intro A2 c2 w4 hown4 hg4 hat4)
        go_roundw
        case rel =>
          refine ⟨k + 1, A2, c2, by omega, by go_num, rfl, ?_, (hown.alloc _).grown hg4 (hbw.alloc hbw.size _) (by simp; have := hbw.size; omega)⟩
          rw [ot.out, bcells_append]
          exact hown4
        case measure => simp [intOf]; omega
      · obtain rfl : k = 2 := by omega
        go_wp2_with fail
        go_ret2
        refine ⟨A, d, rfl, ?_, hbw⟩
        have e : Cip.crypt key block back = (Cip.out (a, b)).take (4 * 2) := by
          have h1 : Cip.crypt key block back = Cip.out (Cip.steps (Cip.num block, Cip.num (block.drop 4)) (Cip.keys key back)) := rfl
          rw [h1, ← Cip.num_take block, Hst.out]
          rfl
        rw [e]
        exact hown
end Go.Proofs.YtibaibdgpnkdnaaDoor
end

section
namespace Go.Proofs.YtibaibdgpnkdnaaDoor
set_option maxRecDepth 100000
set_option linter.unusedSimpArgs false
set_option linter.unusedVariables false
open Go.RowKit

end Go.Proofs.YtibaibdgpnkdnaaDoor
end

section
namespace Go.Proofs.YtibaibdgpnkdnaaDoor
set_option maxRecDepth 100000
set_option linter.unusedSimpArgs false
set_option linter.unusedVariables false
open Go.RowKit

theorem cipher_crypt (A A' : Option Addr) (n n' c c' : Nat) (back : Bool) (key block : List UInt8) (w : World) (hk : Byt w w.heap.size A n c key) (hb : Byt w w.heap.size A' n' c' block) :
    Calls Tryd.prog 70 #[.slice A n c, .slice A' n' c', .bool back] w fun e w' => ∃ A2 d, e = .returned (.tuple #[.slice A2 (Cip.res key block back).length d, .int .i64 (Cip.err key block)]) ∧
      Own w' w.heap.size 5 1 A2 (Cip.res key block back).length d (bcells (Cip.res key block back)) ∧ Below w.heap.size w w' := by
  by_cases h1 : n = 16
  · subst h1
    by_cases h2 : n' = 8
    · subst h2
      obtain ⟨kb, ko, rfl, _⟩ := hk.at_ (by omega)
      obtain ⟨bb, bo, rfl, _⟩ := hb.at_ (by omega)
      rw [Cip.res_ok key block back hk.1 hb.1, Cip.err_ok key block hk.1 hb.1]
      exact crypt_ok kb ko bb bo c c' back key block w hk hb
    · rw [Cip.res_block key block back hk.1 (by rw [hb.1]; exact h2), Cip.err_block key block hk.1 (by rw [hb.1]; exact h2)]
      exact (crypt_block A A' n' c c' back w h2).mono fun e w' ⟨he, hw⟩ => ⟨none, 0, he, Own.none_ _ _ _ _ _, by subst hw; exact Below.refl _ _⟩
  · rw [Cip.res_key key block back (by rw [hk.1]; exact h1), Cip.err_key key block (by rw [hk.1]; exact h1)]
    exact (crypt_key A A' n n' c c' back w h1).mono fun e w' ⟨he, hw⟩ => ⟨none, 0, he, Own.none_ _ _ _ _ _, by subst hw; exact Below.refl _ _⟩

set_option maxHeartbeats 400000 in
theorem cipher_Encrypt (A A' : Option Addr) (n n' c c' : Nat) (key block : List UInt8) (w : World) (hk : Byt w w.heap.size A n c key) (hb : Byt w w.heap.size A' n' c' block) :
    Calls Tryd.prog 63 #[.slice A n c, .slice A' n' c'] w fun e w' => ∃ A2 d, e = .returned (.tuple #[.slice A2 (Cip.res key block false).length d, .int .i64 (Cip.err key block)]) ∧
      Own w' w.heap.size 5 1 A2 (Cip.res key block false).length d (bcells (Cip.res key block false)) ∧ Below w.heap.size w w' := by
  go_enter Tryd.func63, Tryd.ntmps63
  go_wp2_with (go_at_call 70; refine (cipher_crypt A A' n n' c c' false key block w hk hb).mono ?_; rintro e w1 ⟨A2, d, rfl, hown, hbel⟩)
  go_ret2
  exact ⟨A2, d, rfl, hown, hbel⟩

set_option maxHeartbeats 400000 in
theorem cipher_Decrypt (A A' : Option Addr) (n n' c c' : Nat) (key block : List UInt8) (w : World) (hk : Byt w w.heap.size A n c key) (hb : Byt w w.heap.size A' n' c' block) :
    Calls Tryd.prog 66 #[.slice A n c, .slice A' n' c'] w fun e w' => ∃ A2 d, e = .returned (.tuple #[.slice A2 (Cip.res key block true).length d, .int .i64 (Cip.err key block)]) ∧
      Own w' w.heap.size 5 1 A2 (Cip.res key block true).length d (bcells (Cip.res key block true)) ∧ Below w.heap.size w w' := by
  go_enter Tryd.func66, Tryd.ntmps66
  go_wp2_with (go_at_call 70; refine (cipher_crypt A A' n n' c c' true key block w hk hb).mono ?_; rintro e w1 ⟨A2, d, rfl, hown, hbel⟩)
  go_ret2
  exact ⟨A2, d, rfl, hown, hbel⟩

end Go.Proofs.YtibaibdgpnkdnaaDoor
end

section
namespace Go.Proofs.YtibaibdgpnkdnaaDoor
set_option maxRecDepth 100000
set_option linter.unusedSimpArgs false
set_option linter.unusedVariables false
open Go.RowKit

/-- What a call leaves that hands back bytes of its own. -/
def BOne (t : TypeId) (w : World) (bs : List UInt8) (e : Ending) (w' : World) : Prop :=
  ∃ A c, e = .returned (.slice A bs.length c) ∧ Own w' w.heap.size t 1 A bs.length c (bcells bs) ∧ Below w.heap.size w w'

theorem mode_xor (A A' : Option Addr) (n n' c c' : Nat) (a b : List UInt8) (w : World) (h : Byt w w.heap.size A n c a) (h' : Byt w w.heap.size A' n' c' b) (hn : n ≤ 1000000) :
    Calls Tryd.prog 55 #[.slice A n c, .slice A' n' c'] w (BOne 5 w (xrB a b)) := by
  go_enter Tryd.func55, Tryd.ntmps55
  go_wp2_with (go_at_call 64; refine (octets_Xor A A' n n' c c' a b _ h h' hn).mono ?_; rintro e w1 ⟨A2, d, rfl, hown, hbel⟩)
  go_ret
  exact ⟨A2, d, rfl, hown, hbel⟩

theorem mode_encrypt (A A' : Option Addr) (n n' c c' : Nat) (key x : List UInt8) (w : World) (h : Byt w w.heap.size A n c key) (h' : Byt w w.heap.size A' n' c' x) :
    Calls Tryd.prog 54 #[.slice A n c, .slice A' n' c'] w (BOne 5 w (Cip.res key x false)) := by
  go_enter Tryd.func54, Tryd.ntmps54
  go_wp2_with (go_at_call 63; refine (cipher_Encrypt A A' n n' c c' key x _ h h').mono ?_; rintro e w1 ⟨A2, d, rfl, hown, hbel⟩)
  go_ret
  exact ⟨A2, d, rfl, hown, hbel⟩

theorem mode_pad (A : Option Addr) (n c : Nat) (a : List UInt8) (w : World) (h : Byt w w.heap.size A n c a) (hn : n ≤ 1000000000) :
    Calls Tryd.prog 56 #[.slice A n c] w (BOne 5 w (Oct.pad a 8)) := by
  have hp := pad_yes a 8 (by omega) (by omega)
  go_enter Tryd.func56, Tryd.ntmps56
  have hc : Calls Tryd.prog 44 #[.slice A n c, .int .i64 8] w (BRes 5 w (Oct.pad a 8) 0) := by
    have := octets_Pad A n c a ((8 : Nat) : Int) w h hn
    rw [hp.1, hp.2] at this
    exact this
  have HC := Lib.hid hc
  clear hc hp
  go_wp2_with (go_at_call 44; refine HC.out.mono ?_; rintro e w1 ⟨A2, d, rfl, hown, hbel⟩)
  go_ret
  exact ⟨A2, d, rfl, hown, hbel⟩

/-- What the chain's function leaves: a block of the result, and the chaining value, which lies where it lay or is new. -/
def CRes (w : World) (Ax : Option Addr) (o nx : List UInt8) (e : Ending) (w' : World) : Prop :=
  ∃ A c A2 c2, e = .returned (.tuple #[.slice A 8 c, .slice A2 8 c2]) ∧ Byt w' w'.heap.size A 8 c o ∧ Byt w' w'.heap.size A2 8 c2 nx ∧ Below w.heap.size w w' ∧
    (∀ g, g < w.heap.size → Ax.map (·.block) ≠ some g → A2.map (·.block) ≠ some g)

theorem own_far {w' : World} {base : Nat} {t : TypeId} {A : Option Addr} {n c : Nat} {cs : List Value} (h : Own w' base t 1 A n c cs) (hc : 0 < c) (g : Nat) (hg : g < base) : A.map (·.block) ≠ some g := by
  obtain ⟨g1, cur, rfl, hb, _⟩ := h.2.2.2 hc
  intro e
  simp at e
  omega

set_option maxHeartbeats 1000000 in
theorem enc_step (Ak A A' : Option Addr) (ck c c' : Nat) (key x y : List UInt8) (g : Nat) (w : World) (hk : Byt w w.heap.size Ak 16 ck key) (h0 : w.cell? ⟨g, 0, none⟩ = some (.slice Ak 16 ck)) (hg : g < w.heap.size)
    (h : Byt w w.heap.size A 8 c x) (h' : Byt w w.heap.size A' 8 c' y) :
    Calls Tryd.prog 53 #[.slice A 8 c, .slice A' 8 c', .pointer (some ⟨g, 0, none⟩)] w (CRes w A (Cip.crypt key (Oct.xor x y) false) (Cip.crypt key (Oct.xor x y) false)) := by
  have hx : xrB x y = Oct.xor x y := by unfold xrB; rw [h.1, h'.1, if_pos rfl]
  have hxl : (Oct.xor x y).length = 8 := by rw [Mod.xor_length]; exact h.1
  have hr : Cip.res key (Oct.xor x y) false = Cip.crypt key (Oct.xor x y) false := Cip.res_ok _ _ _ hk.1 hxl
  have H1 : ∀ u : World, Byt u u.heap.size A 8 c x → Byt u u.heap.size A' 8 c' y → Calls Tryd.prog 55 #[.slice A 8 c, .slice A' 8 c'] u fun e u' => ∃ A2 c2, e = .returned (.slice A2 8 c2) ∧ Own u' u.heap.size 5 1 A2 8 c2 (bcells (Oct.xor x y)) ∧ Below u.heap.size u u' := fun u hu hu' => by
    refine (mode_xor A A' 8 8 c c' x y u hu hu' (by omega)).mono ?_
    rintro e u' ⟨A2, c2, rfl, ho, hb⟩
    rw [hx, hxl] at ho ⊢
    exact ⟨A2, c2, rfl, ho, hb⟩
  have H2 : ∀ (u : World) (A2 : Option Addr) (c2 : Nat), Byt u u.heap.size Ak 16 ck key → Byt u u.heap.size A2 8 c2 (Oct.xor x y) → Calls Tryd.prog 54 #[.slice Ak 16 ck, .slice A2 8 c2] u fun e u' => ∃ A3 c3, e = .returned (.slice A3 8 c3) ∧ Own u' u.heap.size 5 1 A3 8 c3 (bcells (Cip.crypt key (Oct.xor x y) false)) ∧ Below u.heap.size u u' := fun u A2 c2 hu hu' => by
    refine (mode_encrypt Ak A2 16 8 ck c2 key _ u hu hu').mono ?_
    rintro e u' ⟨A3, c3, rfl, ho, hb⟩
    rw [hr, Mod.crypt_length] at ho ⊢
    exact ⟨A3, c3, rfl, ho, hb⟩
  clear hx hxl hr
  generalize Oct.xor x y = z at *
  generalize Cip.crypt key z false = o at *
  have HK := Lib.hid hk
  have HX := Lib.hid h
  have HY := Lib.hid h'
  have HG := Lib.hid hg
  have hkeep : ∀ u : World, Below w.heap.size w u → u.cell? ⟨g, 0, none⟩ = some (.slice Ak 16 ck) := fun u hu => (hu.cell (p := ⟨g, 0, none⟩) hg).trans h0
  have HKP := Lib.hid hkeep
  clear hk h h' hkeep
  go_enter Tryd.func53, Tryd.ntmps53
  go_wp2_with fail
  go_region_held3 (fun u => u.cell? ⟨g, 0, none⟩ = some (.slice Ak 16 ck))
    (first
      | exact HKP.out _ (Below.refl _ _)
      | exact HKP.out _ (Below.refl _ _).drew
      | exact HKP.out _ hb1
      | exact HKP.out _ (hb1.trans (hb2.mono hb1.size)))
    ((first
      | (go_at_call 55; refine (H1 _ (by first | exact HX.out | exact HX.out.below (Below.refl _ _).drew) (by first | exact HY.out | exact HY.out.below (Below.refl _ _).drew)).mono ?_; rintro e w1 ⟨A2, c2, rfl, ho1, hb1⟩; replace hb1 := (Below.refl w.heap.size w).drew.trans (hb1.mono (by simp)))
      | (go_at_call 54; refine (H2 _ A2 c2 ((HK.out.below hb1).more hb1.size) (ho1.byt (Nat.le_refl _))).mono ?_; rintro e w2 ⟨A3, c3, rfl, ho2, hb2⟩)))
  all_goals
    go_wp2_with fail
    go_ret2
    have hb := hb1.trans (hb2.mono hb1.size)
    refine ⟨A3, c3, A3, c3, rfl, ho2.byt (Nat.le_refl _), ho2.byt (Nat.le_refl _), hb, fun q hq _ => own_far ho2 (by have := ho2.le; omega) q (by have := hb1.size; omega)⟩

set_option maxHeartbeats 1000000 in
theorem dec_step (Ak A A' : Option Addr) (ck c c' : Nat) (key x y : List UInt8) (g : Nat) (w : World) (hk : Byt w w.heap.size Ak 16 ck key) (h0 : w.cell? ⟨g, 0, none⟩ = some (.slice Ak 16 ck))
    (h : Byt w w.heap.size A 8 c x) (h' : Byt w w.heap.size A' 8 c' y) :
    Calls Tryd.prog 65 #[.slice A 8 c, .slice A' 8 c', .pointer (some ⟨g, 0, none⟩)] w (CRes w A (Oct.xor (Cip.crypt key x true) y) x) := by
  have hx : xrB (Cip.crypt key x true) y = Oct.xor (Cip.crypt key x true) y := by unfold xrB; rw [h'.1, if_pos (Mod.crypt_length _ _ _)]
  have hxl : (Oct.xor (Cip.crypt key x true) y).length = 8 := by rw [Mod.xor_length]; exact Mod.crypt_length _ _ _
  have hr : Cip.res key x true = Cip.crypt key x true := Cip.res_ok _ _ _ hk.1 h.1
  have he : Cip.err key x = 0 := Cip.err_ok _ _ hk.1 h.1
  have H2 : Calls Tryd.prog 66 #[.slice Ak 16 ck, .slice A 8 c] w fun e u' => ∃ A3 c3, e = .returned (.tuple #[.slice A3 8 c3, .int .i64 0]) ∧ Own u' w.heap.size 5 1 A3 8 c3 (bcells (Cip.crypt key x true)) ∧ Below w.heap.size w u' := by
    refine (cipher_Decrypt Ak A 16 8 ck c key x w hk h).mono ?_
    rintro e u' ⟨A3, c3, rfl, ho, hb⟩
    rw [hr, Mod.crypt_length] at ho ⊢
    rw [he]
    exact ⟨A3, c3, rfl, ho, hb⟩
  have H1 : ∀ (u : World) (A2 : Option Addr) (c2 : Nat), Byt u u.heap.size A2 8 c2 (Cip.crypt key x true) → Byt u u.heap.size A' 8 c' y → Calls Tryd.prog 55 #[.slice A2 8 c2, .slice A' 8 c'] u fun e u' => ∃ A3 c3, e = .returned (.slice A3 8 c3) ∧ Own u' u.heap.size 5 1 A3 8 c3 (bcells (Oct.xor (Cip.crypt key x true) y)) ∧ Below u.heap.size u u' := fun u A2 c2 hu hu' => by
    refine (mode_xor A2 A' 8 8 c2 c' _ y u hu hu' (by omega)).mono ?_
    rintro e u' ⟨A2, c2, rfl, ho, hb⟩
    rw [hx, hxl] at ho ⊢
    exact ⟨A2, c2, rfl, ho, hb⟩
  clear hx hxl hr he
  generalize Oct.xor (Cip.crypt key x true) y = z at *
  generalize Cip.crypt key x true = o at *
  have HK := Lib.hid hk
  have HX := Lib.hid h
  have HY := Lib.hid h'
  have H2' := Lib.hid H2
  clear hk h h' H2
  go_enter Tryd.func65, Tryd.ntmps65
  go_wp2_with (first
    | (go_at_call 66; refine H2'.out.mono ?_; rintro e w1 ⟨A2, c2, rfl, ho1, hb1⟩)
    | (go_at_call 55; refine (H1 _ A2 c2 (ho1.byt (Nat.le_refl _)) ((HY.out.below hb1).more hb1.size)).mono ?_; rintro e w2 ⟨A3, c3, rfl, ho2, hb2⟩))
  go_ret2
  have hb := hb1.trans (hb2.mono hb1.size)
  exact ⟨A3, c3, A, c, rfl, ho2.byt (Nat.le_refl _), (HX.out.below hb).more hb.size, hb, fun q _ hq => hq⟩

/-- The chain in plain mathematics. -/
def cSt (st : List UInt8 → List UInt8 → List UInt8 × List UInt8) (iv d : List UInt8) (k : Nat) : List UInt8 × List UInt8 :=
  (List.range k).foldl (fun s i => (s.1 ++ (st (Mod.blk d i) s.2).1, (st (Mod.blk d i) s.2).2)) ([], iv)
theorem cSt_succ (st : List UInt8 → List UInt8 → List UInt8 × List UInt8) (iv d : List UInt8) (k : Nat) :
    cSt st iv d (k + 1) = ((cSt st iv d k).1 ++ (st (Mod.blk d k) (cSt st iv d k).2).1, (st (Mod.blk d k) (cSt st iv d k).2).2) := by
  simp [cSt, List.range_succ]
def stE (key x y : List UInt8) : List UInt8 × List UInt8 := (Cip.crypt key (Oct.xor x y) false, Cip.crypt key (Oct.xor x y) false)
def stD (key x y : List UInt8) : List UInt8 × List UInt8 := (Oct.xor (Cip.crypt key x true) y, x)
theorem cSt_e (key iv d : List UInt8) (k : Nat) : cSt (stE key) iv d k = Mod.eSt key iv d k := rfl
theorem cSt_d (key iv d : List UInt8) (k : Nat) : cSt (stD key) iv d k = Mod.dSt key iv d k := rfl
/-- What the result's block holds after k blocks. -/
def cOut (st : List UInt8 → List UInt8 → List UInt8 × List UInt8) (iv d : List UInt8) (n k : Nat) : List Value := bcells ((cSt st iv d k).1 ++ zs (n - 8 * k))
theorem cOut_zero (st : List UInt8 → List UInt8 → List UInt8 × List UInt8) (iv d : List UInt8) (n : Nat) : cOut st iv d n 0 = List.replicate n (.int .u8 0) := by
  rw [bcells_zs]; rfl
theorem cOut_end (st : List UInt8 → List UInt8 → List UInt8 × List UInt8) (iv d : List UInt8) (m : Nat) : cOut st iv d (8 * m) m = bcells (cSt st iv d m).1 := by
  unfold cOut; rw [Nat.sub_self]; simp [zs]
theorem cOut_next (st : List UInt8 → List UInt8 → List UInt8 × List UInt8) (iv d : List UInt8) (n k : Nat) (o : List UInt8) (hl : (cSt st iv d k).1.length = 8 * k) (hn : 8 * k + 8 ≤ n)
    (ho : (st (Mod.blk d k) (cSt st iv d k).2).1 = o) (h8 : o.length = 8) :
    (cOut st iv d n k).take (8 * k) ++ (bcells o ++ (cOut st iv d n k).drop (8 * k + (bcells o).length)) = cOut st iv d n (k + 1) := by
  unfold cOut
  rw [cSt_succ, ho, bcells_append, bcells_append, bcells_append, List.take_append_of_le_length (by rw [length_bcells]; omega), List.take_of_length_le (by rw [length_bcells]; omega), List.drop_append, List.drop_eq_nil_of_le (by rw [length_bcells, length_bcells]; omega), List.nil_append, length_bcells, length_bcells, List.append_assoc, hl, h8]
  congr 2
  simp only [bcells, zs, List.map_replicate, List.drop_replicate]
  congr 1
  omega
end Go.Proofs.YtibaibdgpnkdnaaDoor
end
