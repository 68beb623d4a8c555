/-
  The texts that the claims of this seat lean on, part 2.
-/
import Derived.Test.YtibaibdgpnkdnaaGreatDoorZ0
import Derived.Deep.MidRow
import Derived.BigQuiet
import Derived.Deep.Fields
import Derived.Deep.Matrix
import Derived.Test.YtibaibdgpnkdnaaGreatDoorRows
import Derived.Lib.BytesEntry
import Derived.Lib.Bytealg

section
namespace Go.Proofs.YtibaibdgpnkdnaaGreatDoor
set_option maxRecDepth 100000
set_option linter.unusedSimpArgs false
set_option linter.unusedVariables false
open Go.RowKit

/-- A known block. -/
structure Ent where
  g : Nat
  t : TypeId
  cs : Array Value
/-- A slice that may be appended to: elements of s cells each. -/
structure Osl where
  t : TypeId
  s : Nat
  A : Option Addr
  n : Nat
  c : Nat
  cs : List Value
/-- From world s to world w only blocks that meet R, and new ones, have turned; the blocks of L are known, the slices of O too; each of them may be written. -/
structure Mem (R : Nat → Prop) (s w : World) (L : List Ent) (O : List Osl) : Prop where
  only : Only R s w
  blk : ∀ e ∈ L, Blk w e.g e.t e.cs
  own : ∀ e ∈ L, R e.g ∨ s.heap.size ≤ e.g
  diff : (L.map (·.g)).Nodup
  sl : ∀ x ∈ O, Own w 0 x.t x.s x.A x.n x.c x.cs
  slR : ∀ x ∈ O, ∀ q, ownAt x.A x.c = some q → R q ∨ s.heap.size ≤ q
  slL : ∀ x ∈ O, ∀ e ∈ L, ownAt x.A x.c ≠ some e.g
  slO : O.Pairwise fun x y => ∀ q, ownAt x.A x.c = some q → ownAt y.A y.c ≠ some q
def oneT (P : Program) (ty : TypeId) : Bool := match P.underlying ty with
  | some (.struct _) => false
  | some (.array _ _) => false
  | some _ => true
  | none => false
def aggT (P : Program) (ty : TypeId) : Bool := match P.underlying ty with
  | some (.struct _) => true
  | some (.array _ _) => true
  | _ => false
def spl (cs : Array Value) (i : Nat) (vs : Array Value) : Array Value := (cs.toList.take i ++ vs.toList ++ cs.toList.drop (i + vs.size)).toArray

section
variable {R : Nat → Prop} {s w w' : World} {L : List Ent} {O : List Osl} {g n : Nat} {t : TypeId} {cs : Array Value}
theorem Own.only' {R : Nat → Prop} {base : Nat} {t : TypeId} {s : Nat} {A : Option Addr} {n c : Nat} {cs : List Value} (h : Own w base t s A n c cs) (ho : Only R w w') (hg : ∀ q, ownAt A c = some q → ¬ R q) : Own w' base t s A n c cs := by
  refine ⟨h.1, h.2.1, h.2.2.1, fun hc => ?_⟩
  obtain ⟨g, cur, e, hb, hh, r⟩ := h.2.2.2 hc
  exact ⟨g, cur, e, hb, (ho.block g (Array.getElem?_eq_some_iff.1 hh).1 (hg g (by unfold ownAt; rw [if_neg (by omega), e]; rfl))).trans hh, r⟩
theorem Mem.nil (R : Nat → Prop) (w : World) : Mem R w w [] [] := ⟨Only.refl R w, fun e he => (by cases he), fun e he => (by cases he), List.nodup_nil, fun e he => (by cases he), fun e he => (by cases he), fun e he => (by cases he), .nil⟩
theorem Mem.at_ (h : Mem R s w L O) (k : Nat) {e : Ent} (hk : L[k]? = some e) : Blk w e.g e.t e.cs := h.blk e (List.mem_of_getElem? hk)
theorem Mem.sl_ (h : Mem R s w L O) (k : Nat) {x : Osl} (hk : O[k]? = some x) : Own w 0 x.t x.s x.A x.n x.c x.cs := h.sl x (List.mem_of_getElem? hk)
theorem Mem.cons (h : Mem R s w L O) (hb : Blk w g t cs) (hR : R g ∨ s.heap.size ≤ g) (hd : ∀ e ∈ L, g ≠ e.g) (hs : ∀ x ∈ O, ownAt x.A x.c ≠ some g) : Mem R s w (⟨g, t, cs⟩ :: L) O :=
  { h with
    blk := fun e he => by
      rcases List.mem_cons.1 he with rfl | he
      · exact hb
      · exact h.blk e he
    own := fun e he => by
      rcases List.mem_cons.1 he with rfl | he
      · exact hR
      · exact h.own e he
    diff := by
      rw [List.map_cons, List.nodup_cons]
      refine ⟨fun hm => ?_, h.diff⟩
      obtain ⟨e, he, h1⟩ := List.mem_map.1 hm
      exact hd e he h1.symm
    slL := fun x hx e he => by
      rcases List.mem_cons.1 he with rfl | he
      · exact hs x hx
      · exact h.slL x hx e he }
theorem Mem.one (hb : Blk w g t cs) (hR : R g) : Mem R w w [⟨g, t, cs⟩] [] := (Mem.nil R w).cons hb (.inl hR) (fun e he => by cases he) (fun e he => by cases he)
theorem Mem.drewN (h : Mem R s w L O) (k : Nat) : Mem R s (w.drewN k) L O := { h with only := h.only.drewN k }
theorem Mem.drew (h : Mem R s w L O) : Mem R s w.drew L O := { h with only := h.only.drew }
theorem Mem.alloc (h : Mem R s w L O) (o : Obj) : Mem R s (w.alloc o) L O := { h with only := h.only.alloc o, blk := fun e he => (h.blk e he).alloc o, sl := fun x hx => (h.sl x hx).alloc o }
theorem Mem.lt (h : Mem R s w L O) {e : Ent} (he : e ∈ L) : e.g < w.heap.size := (h.blk e he).lt
theorem Mem.slt (h : Mem R s w L O) {x : Osl} (hx : x ∈ O) {q : Nat} (hq : ownAt x.A x.c = some q) : q < w.heap.size := ((h.sl x hx).lt q hq).2
/-- A new block. -/
theorem Mem.made (h : Mem R s w L O) (t : TypeId) (cs : Array Value) : Mem R s (w.alloc (.cells cs t)) (⟨w.heap.size, t, cs⟩ :: L) O :=
  (h.alloc _).cons (Blk.new w t cs) (.inr h.only.size) (fun e he e1 => by have := h.lt he; omega) (fun x hx e1 => by have := h.slt hx e1; omega)
theorem Only.more (h : Only R s w) {R' : Nat → Prop} (ho : Only R' w w') (hR : ∀ q, q < w.heap.size → R' q → R q ∨ s.heap.size ≤ q) : Only R s w' :=
  ⟨ho.os.trans h.os, ho.tape.trans h.tape, ho.output.trans h.output, Nat.le_trans h.size ho.size, fun k hk hn =>
      (ho.block k (Nat.lt_of_lt_of_le hk h.size) (fun hr => by
        rcases hR k (Nat.lt_of_lt_of_le hk h.size) hr with h1 | h1
        · exact hn h1
        · omega)).trans (h.block k hk hn)⟩
/-- A step that turns other blocks only. -/
theorem Mem.step {R' : Nat → Prop} (h : Mem R s w L O) (ho : Only R' w w') (hR : ∀ q, q < w.heap.size → R' q → R q ∨ s.heap.size ≤ q) (hd : ∀ e ∈ L, ¬ R' e.g) (hs : ∀ x ∈ O, ∀ q, ownAt x.A x.c = some q → ¬ R' q) : Mem R s w' L O :=
  { h with only := h.only.more ho hR, blk := fun e he => (h.blk e he).only ho (hd e he), sl := fun x hx => (h.sl x hx).only' ho (hs x hx) }
/-- A step that makes only. -/
theorem Mem.below (h : Mem R s w L O) (hb : Below w.heap.size w w') : Mem R s w' L O := h.step (R' := fun _ => False) (Only.of_below hb) (fun _ _ e => e.elim) (fun _ _ e => e) (fun _ _ _ _ e => e)
/-- A step that turns known blocks too. -/
theorem Mem.turn {R' : Nat → Prop} {L' : List Ent} (h : Mem R s w L O) (ho : Only R' w w') (hR : ∀ q, q < w.heap.size → R' q → R q ∨ s.heap.size ≤ q) (hg : L'.map (·.g) = L.map (·.g)) (hb : ∀ e ∈ L', Blk w' e.g e.t e.cs) (hs : ∀ x ∈ O, ∀ q, ownAt x.A x.c = some q → ¬ R' q) : Mem R s w' L' O :=
  { only := h.only.more ho hR
    blk := hb
    own := fun e he => by
      have : e.g ∈ L.map (·.g) := by rw [← hg]; exact List.mem_map_of_mem he
      obtain ⟨e2, h2, h3⟩ := List.mem_map.1 this
      rw [← h3]; exact h.own e2 h2
    diff := by rw [hg]; exact h.diff
    sl := fun x hx => (h.sl x hx).only' ho (hs x hx)
    slR := h.slR
    slL := fun x hx e he => by
      have : e.g ∈ L.map (·.g) := by rw [← hg]; exact List.mem_map_of_mem he
      obtain ⟨e2, h2, h3⟩ := List.mem_map.1 this
      rw [← h3]; exact h.slL x hx e2 h2
    slO := h.slO }
/-- A slice more. -/
theorem Mem.more {x : Osl} (h : Mem R s w L O) (hx : Own w 0 x.t x.s x.A x.n x.c x.cs) (hR : ∀ q, ownAt x.A x.c = some q → R q ∨ s.heap.size ≤ q) (hL : ∀ e ∈ L, ownAt x.A x.c ≠ some e.g) (hO : ∀ y ∈ O, ∀ q, ownAt y.A y.c = some q → ownAt x.A x.c ≠ some q) : Mem R s w L (O ++ [x]) :=
  { h with
    sl := fun y hy => by
      rcases List.mem_append.1 hy with hy | hy
      · exact h.sl y hy
      · obtain rfl := List.mem_singleton.1 hy; exact hx
    slR := fun y hy => by
      rcases List.mem_append.1 hy with hy | hy
      · exact h.slR y hy
      · obtain rfl := List.mem_singleton.1 hy; exact hR
    slL := fun y hy => by
      rcases List.mem_append.1 hy with hy | hy
      · exact h.slL y hy
      · obtain rfl := List.mem_singleton.1 hy; exact hL
    slO := by
      rw [List.pairwise_append]
      refine ⟨h.slO, List.pairwise_singleton _ _, fun y hy z hz q e => ?_⟩
      obtain rfl := List.mem_singleton.1 hz
      exact hO y hy q e }
/-- A slice without room. -/
theorem Mem.empty (h : Mem R s w L O) (t : TypeId) (k : Nat) (A : Option Addr) : Mem R s w L (O ++ [⟨t, k, A, 0, 0, []⟩]) :=
  h.more (Own.none_ _ _ _ _ _) (fun q e => by cases e) (fun e _ e1 => by cases e1) (fun y _ q _ e => by cases e)
/-- A slice that a call has made. -/
theorem Mem.got {t : TypeId} {k : Nat} {A : Option Addr} {n c : Nat} {cs : List Value} (h : Mem R s w L O) (hb : Below w.heap.size w w') (hx : Own w' w.heap.size t k A n c cs) : Mem R s w' L (O ++ [⟨t, k, A, n, c, cs⟩]) :=
  (h.below hb).more (hx.mono (Nat.zero_le _)) (fun q e => .inr (Nat.le_trans h.only.size (hx.lt q e).1)) (fun e he e1 => by have := (hx.lt _ e1).1; have := h.lt he; omega) (fun y hy q e e1 => by have := (hx.lt _ e1).1; have := h.slt hy e; omega)
theorem Mem.less {x : Osl} (h : Mem R s w L (O ++ [x])) : Mem R s w L O :=
  { h with
    sl := fun y hy => h.sl y (List.mem_append_left _ hy)
    slR := fun y hy => h.slR y (List.mem_append_left _ hy)
    slL := fun y hy => h.slL y (List.mem_append_left _ hy)
    slO := (List.pairwise_append.1 h.slO).1 }
theorem setCells_turn (w : World) (b o : Nat) (vs : List Value) : (w.setCells b o vs).os = w.os ∧ (w.setCells b o vs).tape = w.tape ∧ (w.setCells b o vs).output = w.output ∧ (w.setCells b o vs).heap.size = w.heap.size ∧ ∀ k, k ≠ b → (w.setCells b o vs).heap[k]? = w.heap[k]? := by
  induction vs generalizing w o with
  | nil => exact ⟨rfl, rfl, rfl, rfl, fun _ _ => rfl⟩
  | cons v r ih =>
    obtain ⟨h1, h2, h3, h4, h5⟩ := ih (w.setCell ⟨b, o, none⟩ v) (o + 1)
    refine ⟨h1, h2, h3, h4.trans (by simp [World.setCell]), fun k hk => (h5 k hk).trans (Below.heap_setCell w ⟨b, o, none⟩ v k hk)⟩
theorem set_spl (l : List Value) (i : Nat) (v : Value) (r : List Value) (hl : i < l.length) : (l.set i v).take (i + 1) ++ r.toArray.toList ++ (l.set i v).drop (i + 1 + r.toArray.size) = l.take i ++ (v :: r).toArray.toList ++ l.drop (i + (v :: r).toArray.size) := by
  obtain ⟨A, x, B, rfl, rfl⟩ : ∃ A x B, l = A ++ x :: B ∧ i = A.length := ⟨l.take i, l[i], l.drop (i + 1), by simp, by simp; omega⟩
  have e : (A ++ x :: B).set A.length v = A ++ v :: B := by simp
  rw [e]
  have h1 : (A ++ v :: B).take (A.length + 1) = A ++ [v] := by rw [List.take_append]; simp [List.take_of_length_le]
  have h2 : (A ++ v :: B).drop (A.length + 1 + r.toArray.size) = B.drop r.length := by simp [List.drop_append, Nat.add_assoc, Nat.add_comm 1]
  have h3 : (A ++ x :: B).drop (A.length + (v :: r).toArray.size) = B.drop r.length := by simp [List.drop_append]
  rw [h1, h2, h3]
  simp
theorem Blk.setCells (h : Blk w g t cs) (i : Nat) (vs : List Value) (hi : i + vs.length ≤ cs.size) : Blk (w.setCells g i vs) g t (spl cs i vs.toArray) := by
  induction vs generalizing w i cs with
  | nil =>
    have : spl cs i (#[] : Array Value) = cs := by
      simp only [spl, List.size_toArray, List.length_nil, Nat.add_zero, List.append_nil, List.take_append_drop, Array.toArray_toList]
    show Blk w g t _
    rw [show ([] : List Value).toArray = #[] from rfl, this]; exact h
  | cons v r ih =>
    have h1 := ih (h.set i v) (i + 1) (by simp at hi ⊢; omega)
    have : spl (cs.setIfInBounds i v) (i + 1) r.toArray = spl cs i (v :: r).toArray := by
      have hl : i < cs.toList.length := by simp at hi ⊢; omega
      unfold spl
      rw [Array.toList_setIfInBounds]
      congr 1
      exact set_spl cs.toList i v r hl
    rw [← this]; exact h1
/-- A step that turns one known block. -/
theorem Mem.put {cs' : Array Value} (h : Mem R s w L O) (k : Nat) (hk : L[k]? = some ⟨g, t, cs⟩) (ho : Only (fun q => q = g) w w') (hb : Blk w' g t cs') : Mem R s w' (L.set k ⟨g, t, cs'⟩) O := by
  have hkl : k < L.length := (List.getElem?_eq_some_iff.1 hk).1
  have hmem : (⟨g, t, cs⟩ : Ent) ∈ L := List.mem_of_getElem? hk
  have hmap : (L.set k ⟨g, t, cs'⟩).map (·.g) = L.map (·.g) := by
    apply List.ext_getElem?
    intro j
    rw [List.getElem?_map, List.getElem?_map, List.getElem?_set]
    split
    · rename_i hjk; subst hjk; rw [hk]; simp [hkl]
    · rfl
  refine h.turn (R' := fun q => q = g) ho (fun q _ e => by have e : q = g := e; rw [e]; exact h.own _ hmem) hmap ?_ (fun x hx q e e2 => by have e2 : q = g := e2; subst e2; exact h.slL x hx _ hmem e)
  intro e he
  rcases List.mem_or_eq_of_mem_set he with he | rfl
  · by_cases hg : e.g = g
    · obtain ⟨p, hp⟩ := List.getElem?_of_mem ‹e ∈ L.set k _›
      rw [List.getElem?_set] at hp
      split at hp
      · injection hp with hp; subst hp; exact hb
      · rename_i hkp
        exfalso
        have hpl : p < L.length := (List.getElem?_eq_some_iff.1 hp).1
        have e1 : (L.map (·.g))[p]? = some g := by rw [List.getElem?_map, hp]; simp [hg]
        have e2 : (L.map (·.g))[k]? = some g := by rw [List.getElem?_map, hk]; rfl
        obtain ⟨a1, a2⟩ := List.getElem?_eq_some_iff.1 e1
        obtain ⟨b1, b2⟩ := List.getElem?_eq_some_iff.1 e2
        exact hkp ((List.getElem_inj h.diff).1 (b2.trans a2.symm))
    · exact (ho.block e.g (h.blk e he).lt hg).trans (h.blk e he)
  · exact hb
theorem Mem.set (h : Mem R s w L O) (k : Nat) (hk : L[k]? = some ⟨g, t, cs⟩) (i : Nat) (vs : List Value) (hi : i + vs.length ≤ cs.size) : Mem R s (w.setCells g i vs) (L.set k ⟨g, t, spl cs i vs.toArray⟩) O := by
  obtain ⟨h1, h2, h3, h4, h5⟩ := setCells_turn w g i vs
  exact h.put k hk ⟨h1, h2, h3, Nat.le_of_eq h4.symm, fun q _ hn => h5 q hn⟩ ((h.at_ k hk).setCells i vs hi)
end

section
variable {P : Program} {ops : Array Oper} {rest : List Oper} {o : Oper} {a : Act} {w s : World} {Q : Exit → Act → World → Prop} {R : Nat → Prop} {L : List Ent} {O : List Osl} {g i : Nat} {t : TypeId} {cs : Array Value}
theorem wpList_go (hw : Region.wanted o (yielded ops a.tmps) = true) (h : o.wp P a w (wpList P ops Q rest) Q) : wpList P ops Q (o :: rest) a w := by
  unfold wpList; rw [if_pos hw]; exact .inl h
theorem run_load1 {ty : TypeId} (hb : Blk w g t cs) (hT : oneT P ty = true) {v : Value} (hv : cs[i]? = some v) : (Instr.loadAt ty (.pointer (some ⟨g, i, none⟩))).run P w = .ok v w := by
  have hc : w.cell? ⟨g, i, none⟩ = some v := (hb.cell i).trans hv
  have hagg : (isAgg ty).run P w = .ok false w := by
    unfold oneT at hT
    cases hu : P.underlying ty with
    | none => rw [hu] at hT; cases hT
    | some d =>
      unfold isAgg
      rw [Sem.run_bind, run_underlying hu w]
      cases d <;> simp_all
  simp [Instr.loadAt, Instr.sureAddr, loadVar, Sem.run_bind, hagg, hc]
theorem run_loadN {ty : TypeId} (hb : Blk w g t cs) (hT : aggT P ty = true) {n : Nat} (hn : (P.info? ty).map (·.size) = some n) (hin : i + n ≤ cs.size) {vs : Array Value} (hv : ((cs.toList.drop i).take n).toArray = vs) : (Instr.loadAt ty (.pointer (some ⟨g, i, none⟩))).run P w = .ok (.agg vs) w := by
  subst hv
  unfold aggT at hT
  cases hu : P.underlying ty with
  | none => rw [hu] at hT; cases hT
  | some d =>
    refine run_loadAt_mid w g i ty ((cs.toList.drop i).take n) d (fun j v hj => ?_) hu (by rw [hu] at hT; cases d <;> simp_all) (by rw [hn, List.length_take, List.length_drop, Array.length_toList, Nat.min_eq_left (by omega)])
    rw [hb.cell]
    rw [List.getElem?_take] at hj
    split at hj
    · rw [List.getElem?_drop] at hj; simpa using hj
    · cases hj
theorem run_storeN {ty : TypeId} (hb : Blk w g t cs) {v : Value} {vs : Array Value} (hc : v.cells = vs) (hi : (P.info? ty).map (·.size) = some vs.size) (h1 : vs.all (·.oneCell') = true) (hin : i + vs.size ≤ cs.size) :
    (Instr.storeAt ty (.pointer (some ⟨g, i, none⟩)) v).run P w = .ok () (w.setCells g i vs.toList) := by
  have ht : w.there g i vs.size := fun j hj => ⟨by rw [hb.cell, Array.getElem?_eq_getElem (by omega)]; rfl, hb.frozen _⟩
  have := run_storeCells_cells (P := P) g i vs.toList 0 w (fun j hj => by simpa using (ht j (by simpa using hj)).1) (fun j hj => by simpa using (ht j (by simpa using hj)).2)
    (fun v hv => (Array.all_eq_true_iff_forall_mem.1 h1) v (by simpa using hv))
  cases hq : P.info? ty with
  | none => simp [hq] at hi
  | some d =>
    have hs : vs.size = d.size := by simp [hq] at hi; omega
    simp only [Nat.add_zero] at this
    simp only [Instr.storeAt, Instr.sureAddr, Sem.run_bind, Sem.run_pure, Result.andThen_ok]
    simp [storeVar, sizeOf, typeInfo, hq, hc, hs, this]

/-- A load of one cell. -/
theorem wpList_ld (hw : Region.wanted o (yielded ops a.tmps) = true) (ty : TypeId) (x : Operand) (ho : o.op = .load ty x) (g i : Nat) (hx : a.eval x = .pointer (some ⟨g, i, none⟩))
    (hm : Mem R s w L O) (k : Nat) (t : TypeId) (cs : Array Value) (hk : L[k]? = some ⟨g, t, cs⟩) (hT : oneT P ty = true) (v : Value) (hv : cs[i]? = some v)
    (h : wpList P ops Q rest (a.put o.dst v) w) : wpList P ops Q (o :: rest) a w := by
  refine wpList_go hw ?_
  unfold Oper.wp execOp
  simp only [ho, hx, Sem.run_bind, run_load1 (hm.at_ k hk) hT hv, Sem.run_pure, Result.andThen_ok]
  exact h
/-- A load of a struct. -/
theorem wpList_la (hw : Region.wanted o (yielded ops a.tmps) = true) (ty : TypeId) (x : Operand) (ho : o.op = .load ty x) (g i : Nat) (hx : a.eval x = .pointer (some ⟨g, i, none⟩))
    (hm : Mem R s w L O) (k : Nat) (t : TypeId) (cs : Array Value) (hk : L[k]? = some ⟨g, t, cs⟩) (z : Array Value) (hz : (P.info? ty).bind (·.zero) = some (.agg z)) (hT : aggT P ty = true) (hn : (P.info? ty).map (·.size) = some z.size) (hin : i + z.size ≤ cs.size) (vs : Array Value) (hv : ((cs.toList.drop i).take z.size).toArray = vs)
    (h : wpList P ops Q rest (a.put o.dst (.agg vs)) w) : wpList P ops Q (o :: rest) a w := by
  refine wpList_go hw ?_
  unfold Oper.wp execOp
  simp only [ho, hx, Sem.run_bind, run_loadN (hm.at_ k hk) hT hn hin hv, Sem.run_pure, Result.andThen_ok]
  exact h
/-- A store. -/
theorem wpList_st (hw : Region.wanted o (yielded ops a.tmps) = true) (ty : TypeId) (x y : Operand) (ho : o.op = .store ty x y) (g i : Nat) (hx : a.eval x = .pointer (some ⟨g, i, none⟩)) (v : Value) (hy : a.eval y = v)
    (hm : Mem R s w L O) (k : Nat) (t : TypeId) (cs : Array Value) (hk : L[k]? = some ⟨g, t, cs⟩) (vs : Array Value) (hc : v.cells = vs) (hi : (P.info? ty).map (·.size) = some vs.size) (h1 : vs.all (·.oneCell') = true) (hin : i + vs.size ≤ cs.size)
    (L' : List Ent) (hL : L.set k ⟨g, t, spl cs i vs⟩ = L')
    (h : ∀ w1, w.heap.size ≤ w1.heap.size → Mem R s w1 L' O → Only (fun q => q = g) w w1 → wpList P ops Q rest (a.put o.dst undef) w1) : wpList P ops Q (o :: rest) a w := by
  subst hL
  refine wpList_go hw ?_
  unfold Oper.wp execOp
  simp only [ho, hx, hy, Sem.run_bind, run_storeN (hm.at_ k hk) hc hi h1 hin, Sem.run_pure, Result.andThen_ok]
  obtain ⟨e1, e2, e3, e4, e5⟩ := setCells_turn w g i vs.toList
  exact h _ (Nat.le_of_eq e4.symm) (hm.set k hk i vs.toList (by simpa using hin)) ⟨e1, e2, e3, Nat.le_of_eq e4.symm, fun q _ hn => e5 q hn⟩
theorem Mem.snoc (hm : Mem R s w L O) (t : TypeId) (cs : Array Value) : Mem R s (w.alloc (.cells cs t)) (L ++ [⟨w.heap.size, t, cs⟩]) O := by
  have h1 := hm.made t cs
  have hin : ∀ e, e ∈ L ++ [⟨w.heap.size, t, cs⟩] → e ∈ (⟨w.heap.size, t, cs⟩ : Ent) :: L := fun e he => by
    rcases List.mem_append.1 he with he | he
    · exact List.mem_cons_of_mem _ he
    · rw [List.mem_singleton.1 he]; exact List.mem_cons_self
  refine { h1 with blk := fun e he => h1.blk e (hin e he), own := fun e he => h1.own e (hin e he), diff := ?_, slL := fun x hx e he => h1.slL x hx e (hin e he) }
  have h2 := h1.diff
  rw [List.map_cons, List.nodup_cons] at h2
  rw [List.map_append, List.nodup_append]
  refine ⟨h2.2, by simp, fun x hx y hy => ?_⟩
  simp only [List.map_cons, List.map_nil, List.mem_singleton] at hy
  subst hy
  exact fun e => h2.1 (e ▸ hx)
/-- A new variable. -/
theorem wpList_al (hw : Region.wanted o (yielded ops a.tmps) = true) (ty : TypeId) (ho : o.op = .alloc ty) (z : Value) (hz : (P.info? ty).bind (·.zero) = some z) (cs : Array Value) (hc : z.cells = cs)
    (hm : Mem R s w L O) (h : ∀ n w1, w.heap.size ≤ n → w.heap.size ≤ w1.heap.size → Mem R s w1 (L ++ [⟨n, ty, cs⟩]) O → Below w.heap.size w w1 → wpList P ops Q rest (a.put o.dst (.pointer (some ⟨n, 0, none⟩))) w1) : wpList P ops Q (o :: rest) a w := by
  refine wpList_go hw ?_
  subst hc
  cases hq : P.info? ty with
  | none => simp [hq] at hz
  | some d =>
    have hd : d.zero = some z := by simpa [hq] using hz
    have hrun : (Instr.alloc ty true (.tuple #[])).run P w = .ok (.pointer (some ⟨w.heap.size, 0, none⟩)) (w.alloc (.cells z.cells ty)) := by
      simp [Instr.alloc, zeroValue, typeInfo, hq, hd, newVar, newRow]
    unfold Oper.wp execOp
    simp only [ho, Sem.run_bind, hrun, Sem.run_pure, Result.andThen_ok]
    exact h w.heap.size _ (Nat.le_refl _) (by simp) (hm.snoc ty _) ((Below.refl _ _).alloc (Nat.le_refl _) _)
/-- A new variable with a value. -/
theorem wpList_bx (hw : Region.wanted o (yielded ops a.tmps) = true) (ty : TypeId) (x : Operand) (ho : o.op = .box ty x) (v : Value) (hx : a.eval x = v) (cs : Array Value) (hc : v.cells = cs)
    (hm : Mem R s w L O) (h : ∀ n w1, w.heap.size ≤ n → w.heap.size ≤ w1.heap.size → Mem R s w1 (L ++ [⟨n, ty, cs⟩]) O → Below w.heap.size w w1 → wpList P ops Q rest (a.put o.dst (.pointer (some ⟨n, 0, none⟩))) w1) : wpList P ops Q (o :: rest) a w := by
  refine wpList_go hw ?_
  subst hc
  subst hx
  have hrun : (Instr.box ty (a.eval x)).run P w = .ok (.pointer (some ⟨w.heap.size, 0, none⟩)) (w.alloc (.cells (a.eval x).cells ty)) := by
    simp [Instr.box, newVar, newRow]
  unfold Oper.wp execOp
  simp only [ho, Sem.run_bind, hrun, Sem.run_pure, Result.andThen_ok]
  exact h w.heap.size _ (Nat.le_refl _) (by simp) (hm.snoc ty _) ((Below.refl _ _).alloc (Nat.le_refl _) _)
/-- A block that the walk has made by itself. -/
theorem wpList_up {l : List Oper} (hm : Mem R s w L O) (h : ∀ n w1, n = w.heap.size → s.heap.size ≤ n → Blk w1 n t cs → Mem R s w1 L O → (∀ e ∈ L, e.g ≠ n) → (∀ x ∈ O, ownAt x.A x.c ≠ some n) → Below w.heap.size w w1 → wpList P ops Q l a w1) : wpList P ops Q l a (w.alloc (.cells cs t)) :=
  h w.heap.size _ rfl hm.only.size (Blk.new w t cs) (hm.alloc _) (fun e he => by have := hm.lt he; omega) (fun x hx e => by have := hm.slt hx e; omega) ((Below.refl _ _).alloc (Nat.le_refl _) _)
/-- A slice over a new block. -/
theorem Mem.row {n : Nat} (h : Mem R s w L O) (hk : Blk w n t cs) (hn : s.heap.size ≤ n) (hd : ∀ e ∈ L, e.g ≠ n) (hd2 : ∀ x ∈ O, ownAt x.A x.c ≠ some n) (k m : Nat) (l : List Value) (hl : cs.toList = l) (hlen : l.length = m * k) (hmax : m ≤ maxLen) : Mem R s w L (O ++ [⟨t, k, some ⟨n, 0, none⟩, m, m, l⟩]) := by
  subst hl
  have hs : m * k = cs.size := by simpa using hlen.symm
  have hown : Own w 0 t k (some ⟨n, 0, none⟩) m m cs.toList := ⟨hlen, Nat.le_refl _, hmax, fun _ => ⟨n, cs, rfl, Nat.zero_le _, hk, by omega, by rw [hs]; exact List.take_of_length_le (by simp)⟩⟩
  have hq : ∀ q, ownAt (some ⟨n, 0, none⟩) m = some q → q = n := fun q e => by
    unfold ownAt at e
    split at e
    · cases e
    · simpa using e.symm
  exact h.more hown (fun q e => .inr (hq q e ▸ hn)) (fun e he e1 => hd e he (hq _ e1)) (fun y hy q e e1 => hd2 y hy (by rw [e, hq _ e1]))
/-- An append onto a slice that the call may write. -/
theorem Mem.app {w' : World} {t : TypeId} {s' : Nat} {A : Option Addr} {n c : Nat} {cs news : List Value} {m : Nat} {A2 : Option Addr} {c2 : Nat} (hm : Mem R s w L O) (k : Nat) (hk : O[k]? = some ⟨t, s', A, n, c, cs⟩)
    (h2 : Own w' 0 t s' A2 m c2 news) (h3 : Only (fun q => ownAt A c = some q) w w') (h4 : ownAt A2 c2 = ownAt A c ∨ ownAt A2 c2 = some w.heap.size) : Mem R s w' L (O.set k ⟨t, s', A2, m, c2, news⟩) := by
  have hmem : (⟨t, s', A, n, c, cs⟩ : Osl) ∈ O := List.mem_of_getElem? hk
  have hkl : k < O.length := (List.getElem?_eq_some_iff.1 hk).1
  have hk2 : O[k] = ⟨t, s', A, n, c, cs⟩ := (List.getElem?_eq_some_iff.1 hk).2
  have hq2 : ∀ q, ownAt A2 c2 = some q → ownAt A c = some q ∨ q = w.heap.size := fun q e => by
    rcases h4 with h4 | h4
    · exact .inl (h4 ▸ e)
    · rw [h4] at e; injection e with e; exact .inr e.symm
  -- the other slices lie elsewhere
  have hoth : ∀ (i : Nat) (hi : i < O.length), i ≠ k → ∀ q, ownAt O[i].A O[i].c = some q → ownAt A c ≠ some q := fun i hi hne q e e2 => by
    have hp := List.pairwise_iff_getElem.1 hm.slO
    rcases Nat.lt_or_gt_of_ne hne with h | h
    · exact hp i k hi hkl h q e (by rw [hk2]; exact e2)
    · exact hp k i hkl hi h q (by rw [hk2]; exact e2) e
  have hel : ∀ (i : Nat) (hi : i < O.length), i ≠ k → Own w' 0 O[i].t O[i].s O[i].A O[i].n O[i].c O[i].cs := fun i hi hne => (hm.sl _ (List.getElem_mem hi)).only' h3 (fun q e e2 => hoth i hi hne q e e2)
  have hget : ∀ (i : Nat) (hi : i < (O.set k ⟨t, s', A2, m, c2, news⟩).length), (O.set k ⟨t, s', A2, m, c2, news⟩)[i] = if k = i then ⟨t, s', A2, m, c2, news⟩ else O[i]'(by simpa using hi) := fun i hi => List.getElem_set hi
  have hall : ∀ {p : Osl → Prop}, p ⟨t, s', A2, m, c2, news⟩ → (∀ (i : Nat) (hi : i < O.length), i ≠ k → p O[i]) → ∀ x ∈ O.set k ⟨t, s', A2, m, c2, news⟩, p x := fun {p} h0 h1 x hx => by
    obtain ⟨i, hi, rfl⟩ := List.getElem_of_mem hx
    rw [hget i hi]
    split
    · exact h0
    · rename_i hne; exact h1 i _ (fun e => hne e.symm)
  refine { only := hm.only.more h3 (fun q _ e => hm.slR _ hmem q e), blk := fun e he => (hm.blk e he).only h3 (hm.slL _ hmem e he), own := hm.own, diff := hm.diff, sl := ?_, slR := ?_, slL := ?_, slO := ?_ }
  · exact hall (p := fun x => Own w' 0 x.t x.s x.A x.n x.c x.cs) h2 hel
  · refine hall (p := fun x => ∀ q, ownAt x.A x.c = some q → R q ∨ s.heap.size ≤ q) (fun q e => ?_) (fun i hi hne => hm.slR _ (List.getElem_mem hi))
    rcases hq2 q e with h | h
    · exact hm.slR _ hmem q h
    · exact .inr (h ▸ hm.only.size)
  · refine hall (p := fun x => ∀ e ∈ L, ownAt x.A x.c ≠ some e.g) (fun e he e1 => ?_) (fun i hi hne => hm.slL _ (List.getElem_mem hi))
    rcases hq2 _ e1 with h | h
    · exact hm.slL _ hmem e he h
    · have := hm.lt he; omega
  · rw [List.pairwise_iff_getElem]
    intro i j hi hj hij q e1 e2
    rw [hget i hi] at e1
    rw [hget j hj] at e2
    have hi' : i < O.length := by simpa using hi
    have hj' : j < O.length := by simpa using hj
    split at e1
    · rename_i hki
      rw [if_neg (by omega)] at e2
      rcases hq2 q e1 with h | h
      · exact hoth j hj' (by omega) q e2 h
      · have := hm.slt (List.getElem_mem hj') e2; omega
    · rename_i hki
      split at e2
      · rcases hq2 q e2 with h | h
        · exact hoth i hi' (by omega) q e1 h
        · have := hm.slt (List.getElem_mem hi') e1; omega
      · exact List.pairwise_iff_getElem.1 hm.slO i j hi' hj' hij q e1 e2
theorem wpList_ap (hw : Region.wanted o (yielded ops a.tmps) = true) (x y : Operand) (t : TypeId)
    (ho : o.op = .call { callee := .builtin .append, args := #[x, y], argTypes := #[t, t] }) (e : TypeId) (i : TypeInfo) (z : Value) (s' bytes : Nat) (ht : P.underlying t = some (.slice e)) (hi : P.info? e = some i) (hz : i.zero = some z)
    (hsize : i.size = s') (hby : i.bytes = bytes) (hzs : z.cells.size = s') (hsz : 0 < s')
    (A : Option Addr) (n c : Nat) (cs : List Value) (hx : a.eval x = .slice A n c) (hm : Mem R s w L O) (k : Nat) (hk : O[k]? = some ⟨e, s', A, n, c, cs⟩)
    (B : Nat) (A' : Option Addr) (m c' : Nat) (news : List Value) (hy : a.eval y = .slice A' m c') (hr : Row w B A' news) (hl : news.length = m * s') (h1 : ∀ u ∈ news, u.oneCell' = true)
    (h63 : n + m ≤ maxLen) (hbytes : (n + m) * bytes ≤ 140737488355328)
    (h : ∀ A2 c2 w1, Mem R s w1 L (O.set k ⟨e, s', A2, n + m, c2, cs ++ news⟩) → Only (fun q => ownAt A c = some q) w w1 → (ownAt A2 c2 = ownAt A c ∨ ∃ q, ownAt A2 c2 = some q ∧ w.heap.size ≤ q) → wpList P ops Q rest (a.put o.dst (.slice A2 (n + m) c2)) w1) : wpList P ops Q (o :: rest) a w := by
  refine wpList_go hw (wp_append w x y t ho 0 e i z s' bytes ht hi hz hsize hby hzs hsz A n c cs hx (hm.sl_ k hk) B A' m c' news hy hr hl h1 h63 hbytes (Nat.zero_le _) ?_)
  intro A2 c2 w2 h2 h3 h4
  have ho2 : Only (fun q => ownAt A c = some q) w w2 := (Only.refl _ _).grown h3 (fun k e => e)
  exact h A2 c2 w2 (hm.app k hk h2 ho2 h4) ho2 (h4.imp_right fun e => ⟨_, e, Nat.le_refl _⟩)
/-- A load of one cell in a quiet region. -/
theorem wpQuiet_ld {Q : Act → Prop} (hw : Region.wanted o (yielded ops a.tmps) = true) (ty : TypeId) (x : Operand) (ho : o.op = .load ty x) (g i : Nat) (hx : a.eval x = .pointer (some ⟨g, i, none⟩))
    (hm : Mem R s w L O) (k : Nat) (t : TypeId) (cs : Array Value) (hk : L[k]? = some ⟨g, t, cs⟩) (hT : oneT P ty = true) (v : Value) (hv : cs[i]? = some v)
    (h : wpQuiet P ops (fun w' => ∃ k, w' = w.drewN k) Q rest (a.put o.dst v)) : wpQuiet P ops (fun w' => ∃ k, w' = w.drewN k) Q (o :: rest) a := by
  refine BigFrame.wpQuiet_want hw (fun K hK => ⟨v, fun w' hw' => ?_, hK _ h⟩)
  obtain ⟨d, rfl⟩ := hw'
  have hb : Blk (w.drewN d) g t cs := (hm.at_ k hk).drewN d
  unfold Oper.quietAt execOp
  simp only [ho, hx, Sem.run_bind, run_load1 hb hT hv, Sem.run_pure, Result.andThen_ok]
  first | exact ⟨trivial, d, rfl⟩ | exact ⟨rfl, d, rfl⟩ | exact ⟨rfl, rfl⟩ | exact rfl
/-- What a region that draws its order may count on. -/
def MemS (R : Nat → Prop) (s : World) (L : List Ent) (O : List Osl) (u : World) : Prop := Mem R s u L O
theorem MemS.of (h : Mem R s w L O) : MemS R s L O w := h
theorem MemS.mem (h : MemS R s L O w) : Mem R s w L O := h
/-- A load of one cell, in whatever world. -/
theorem MemS.ld (h : MemS R s L O w) (ty : TypeId) (x : Operand) (ho : o.op = .load ty x) (g i : Nat) (hx : a.eval x = .pointer (some ⟨g, i, none⟩)) (k : Nat) (t : TypeId) (cs : Array Value) (hk : L[k]? = some ⟨g, t, cs⟩) (hT : oneT P ty = true) (v : Value) (hv : cs[i]? = some v) :
    (execOp a.eval o).run P w = .ok (.value v) w := by
  unfold execOp
  simp only [ho, hx, Sem.run_bind, run_load1 (h.mem.at_ k hk) hT hv, Sem.run_pure, Result.andThen_ok]
end
/-! Rewrite rules in bundles (simp takes a conjunction apart): so the walks' texts stay short. -/
theorem sxN : (∀ {α : Type} (l : List α) (i : Nat), l.toArray[i]? = l[i]?) ∧ (∀ {α : Type} (a : α) (l : List α) (i : Nat), (a :: l)[i + 1]? = l[i]?) ∧ (∀ {α : Type} (a : α) (l : List α), (a :: l)[0]? = some a) :=
  ⟨fun _ _ => List.getElem?_toArray, fun _ _ _ => List.getElem?_cons_succ, fun _ _ => List.getElem?_cons_zero⟩
theorem sxE : (∀ {α : Type} (l : Array α) (i : Nat) (d : α), l.getD i d = l[i]?.getD d) ∧ (∀ {α : Type} (a d : α), (some a).getD d = a) :=
  ⟨fun _ _ _ => Array.getD_eq_getD_getElem?, fun _ _ => rfl⟩
theorem sxT : (∀ {α : Type} (l : List α), l.toArray.toList = l) ∧ (∀ {α : Type} (a : α) (l : List α) (i : Nat), (a :: l).drop (i + 1) = l.drop i) ∧ (∀ {α : Type} (l : List α), l.drop 0 = l) ∧ (∀ {α : Type} (l : List α), l.toArray.size = l.length) ∧
    (∀ {α : Type} (a : α) (l : List α), (a :: l).length = l.length + 1) ∧ (∀ {α : Type}, ([] : List α).length = 0) ∧ (∀ {α : Type} (a : α) (l : List α) (i : Nat), (a :: l).take (i + 1) = a :: l.take i) ∧ (∀ {α : Type} (l : List α), l.take 0 = []) :=
  ⟨fun _ => rfl, fun _ _ _ => rfl, fun _ => rfl, fun _ => rfl, fun _ _ => rfl, rfl, fun _ _ _ => rfl, fun _ => rfl⟩
theorem sxP : (∀ {α : Type} (a b : α) (l : List α), (a :: l).set 0 b = b :: l) ∧ (∀ {α : Type} (a b : α) (l : List α) (i : Nat), (a :: l).set (i + 1) b = a :: l.set i b) ∧ (∀ i : Nat, 0 + i = i) ∧ (∀ {α : Type} (i : Nat), ([] : List α).drop i = []) ∧
    (∀ {α : Type} (a : α) (l m : List α), (a :: l) ++ m = a :: (l ++ m)) ∧ (∀ {α : Type} (l : List α), [] ++ l = l) ∧ (∀ {α : Type} (l : List α), l ++ [] = l) :=
  ⟨fun _ _ _ => rfl, fun _ _ _ _ => rfl, Nat.zero_add, fun _ => List.drop_nil, fun _ _ _ => rfl, fun _ => rfl, List.append_nil⟩
theorem sxQ : (∀ {α : Type} (l : List α) (i : Nat) (a : α), l.toArray.setIfInBounds i a = (l.set i a).toArray) ∧ (∀ {α : Type} (a b : α) (l : List α), (a :: l).set 0 b = b :: l) ∧ (∀ {α : Type} (a b : α) (l : List α) (i : Nat), (a :: l).set (i + 1) b = a :: l.set i b) :=
  ⟨fun _ _ _ => List.setIfInBounds_toArray _ _ _, fun _ _ _ => rfl, fun _ _ _ _ => rfl⟩
end Go.Proofs.YtibaibdgpnkdnaaGreatDoor
end

section
namespace Go.Proofs.YtibaibdgpnkdnaaGreatDoor
set_option maxRecDepth 100000
set_option linter.unusedSimpArgs false
set_option linter.unusedVariables false
open Go.RowKit
section
variable {P : Program} {ops : Array Oper} {o : Oper} {a : Act} {w s : World} {Q : Exit → Act → World → Prop} {K : Act → World → Prop} {E : Prop} {R : Nat → Prop} {L : List Ent} {O : List Osl} {g i : Nat} {t : TypeId} {cs : Array Value}
/-- A load of one cell, in whatever world in which the block is known. -/
theorem exec_ld (hb : Blk w g t cs) (ty : TypeId) (x : Operand) (ho : o.op = .load ty x) (hx : a.eval x = .pointer (some ⟨g, i, none⟩)) (hT : oneT P ty = true) (v : Value) (hv : cs[i]? = some v) :
    (execOp a.eval o).run P w = .ok (.value v) w := by
  unfold execOp
  simp only [ho, hx, Sem.run_bind, run_load1 hb hT hv, Sem.run_pure, Result.andThen_ok]
theorem run_load_cell {ty : TypeId} {p : Addr} (hT : oneT P ty = true) {v : Value} (hv : w.cell? p = some v) : (Instr.loadAt ty (.pointer (some p))).run P w = .ok v w := by
  have hagg : (isAgg ty).run P w = .ok false w := by
    unfold oneT at hT
    cases hu : P.underlying ty with
    | none => rw [hu] at hT; cases hT
    | some d =>
      unfold isAgg
      rw [Sem.run_bind, run_underlying hu w]
      cases d <;> simp_all
  simp [Instr.loadAt, Instr.sureAddr, loadVar, Sem.run_bind, hagg, hv]
/-- A load of a cell that is known by itself. -/
theorem wpList_lc {rest : List Oper} (hw : Region.wanted o (yielded ops a.tmps) = true) (ty : TypeId) (x : Operand) (ho : o.op = .load ty x) (p : Addr) (hx : a.eval x = .pointer (some p)) (hT : oneT P ty = true) (v : Value) (hv : w.cell? p = some v)
    (h : wpList P ops Q rest (a.put o.dst v) w) : wpList P ops Q (o :: rest) a w := by
  refine wpList_go hw ?_
  unfold Oper.wp execOp
  simp only [ho, hx, Sem.run_bind, run_load_cell hT hv, Sem.run_pure, Result.andThen_ok]
  exact h
theorem exec_lc (ty : TypeId) (x : Operand) (ho : o.op = .load ty x) (p : Addr) (hx : a.eval x = .pointer (some p)) (hT : oneT P ty = true) (v0 : Value) (hv : w.cell? p = some v0) (v : Value) (he : v0 = v) :
    (execOp a.eval o).run P w = .ok (.value v) w := by
  subst he
  unfold execOp
  simp only [ho, hx, Sem.run_bind, run_load_cell hT hv, Sem.run_pure, Result.andThen_ok]
theorem wpQuiet_lc {rest : List Oper} {Q : Act → Prop} (hw : Region.wanted o (yielded ops a.tmps) = true) (ty : TypeId) (x : Operand) (ho : o.op = .load ty x) (p : Addr) (hx : a.eval x = .pointer (some p)) (hT : oneT P ty = true) (v : Value) (hv : w.cell? p = some v)
    (h : wpQuiet P ops (fun w' => ∃ k, w' = w.drewN k) Q rest (a.put o.dst v)) : wpQuiet P ops (fun w' => ∃ k, w' = w.drewN k) Q (o :: rest) a := by
  refine BigFrame.wpQuiet_want hw (fun K hK => ⟨v, fun w' hw' => ?_, hK _ h⟩)
  obtain ⟨d, rfl⟩ := hw'
  have hv : (w.drewN d).cell? p = some v := hv
  unfold Oper.quietAt execOp
  simp only [ho, hx, Sem.run_bind, run_load_cell hT hv, Sem.run_pure, Result.andThen_ok]
  first | exact ⟨trivial, d, rfl⟩ | exact ⟨rfl, d, rfl⟩ | exact ⟨rfl, rfl⟩ | exact rfl
/-- A load of a struct, in whatever world in which the block is known. -/
theorem exec_la (hb : Blk w g t cs) (ty : TypeId) (x : Operand) (ho : o.op = .load ty x) (hx : a.eval x = .pointer (some ⟨g, i, none⟩)) (z : Array Value) (hz : (P.info? ty).bind (·.zero) = some (.agg z)) (hT : aggT P ty = true) (hn : (P.info? ty).map (·.size) = some z.size) (hin : i + z.size ≤ cs.size) (v : Value) (hv : Value.agg ((cs.toList.drop i).take z.size).toArray = v) :
    (execOp a.eval o).run P w = .ok (.value v) w := by
  subst hv
  unfold execOp
  simp only [ho, hx, Sem.run_bind, run_loadN hb hT hn hin rfl, Sem.run_pure, Result.andThen_ok]
/-- A block that a step has made. -/
theorem K_up (hm : Mem R s w L O) (h : ∀ n w1, n = w.heap.size → s.heap.size ≤ n → Blk w1 n t cs → Mem R s w1 L O → (∀ e ∈ L, e.g ≠ n) → (∀ x ∈ O, ownAt x.A x.c ≠ some n) → Below w.heap.size w w1 → K a w1) : K a (w.alloc (.cells cs t)) :=
  h w.heap.size _ rfl hm.only.size (Blk.new w t cs) (hm.alloc _) (fun e he => by have := hm.lt he; omega) (fun x hx e => by have := hm.slt hx e; omega) ((Below.refl _ _).alloc (Nat.le_refl _) _)
theorem step_st (hw : Region.wanted o (yielded ops a.tmps) = true) (ty : TypeId) (x y : Operand) (ho : o.op = .store ty x y) (g i : Nat) (hx : a.eval x = .pointer (some ⟨g, i, none⟩)) (v : Value) (hy : a.eval y = v)
    (hm : Mem R s w L O) (k : Nat) (t : TypeId) (cs : Array Value) (hk : L[k]? = some ⟨g, t, cs⟩) (vs : Array Value) (hc : v.cells = vs) (hi : (P.info? ty).map (·.size) = some vs.size) (h1 : vs.all (·.oneCell') = true) (hin : i + vs.size ≤ cs.size)
    (L' : List Ent) (hL : L.set k ⟨g, t, spl cs i vs⟩ = L')
    (h : ∀ w1, w.heap.size ≤ w1.heap.size → Mem R s w1 L' O → Only (fun q => q = g) w w1 → K (a.put o.dst undef) w1) : if Region.wanted o (yielded ops a.tmps) = true then Oper.wp P o a w K Q else E := by
  subst hL
  rw [if_pos hw]
  unfold Oper.wp execOp
  simp only [ho, hx, hy, Sem.run_bind, run_storeN (hm.at_ k hk) hc hi h1 hin, Sem.run_pure, Result.andThen_ok]
  obtain ⟨e1, e2, e3, e4, e5⟩ := setCells_turn w g i vs.toList
  exact h _ (Nat.le_of_eq e4.symm) (hm.set k hk i vs.toList (by simpa using hin)) ⟨e1, e2, e3, Nat.le_of_eq e4.symm, fun q _ hn => e5 q hn⟩
end
end Go.Proofs.YtibaibdgpnkdnaaGreatDoor
end

section
namespace Go.Proofs.YtibaibdgpnkdnaaGreatDoor
set_option maxRecDepth 100000
set_option linter.unusedSimpArgs false
set_option linter.unusedVariables false
open Go.RowKit
section
variable {w s : World} {R : Nat → Prop} {L L' : List Ent} {O O' : List Osl}
theorem Mem.part (h : Mem R s w L O) (hL : L'.Sublist L) (hO : O'.Sublist O) : Mem R s w L' O' :=
  { only := h.only
    blk := fun e he => h.blk e (hL.subset he)
    own := fun e he => h.own e (hL.subset he)
    diff := h.diff.sublist (hL.map _)
    sl := fun x hx => h.sl x (hO.subset hx)
    slR := fun x hx => h.slR x (hO.subset hx)
    slL := fun x hx e he => h.slL x (hO.subset hx) e (hL.subset he)
    slO := h.slO.sublist hO }
/-- All but one known block. -/
theorem Mem.wo (h : Mem R s w L O) (k : Nat) : Mem R s w (L.eraseIdx k) O := h.part (List.eraseIdx_sublist _ _) (List.Sublist.refl _)
/-- All but one slice. -/
theorem Mem.woO (h : Mem R s w L O) (k : Nat) : Mem R s w L (O.eraseIdx k) := h.part (List.Sublist.refl _) (List.eraseIdx_sublist _ _)
/-- The blocks alone. -/
theorem Mem.noO (h : Mem R s w L O) : Mem R s w L [] := h.part (List.Sublist.refl _) (List.nil_sublist _)
theorem Mem.takeO (h : Mem R s w L O) (k : Nat) : Mem R s w L (O.take k) := h.part (List.Sublist.refl _) (List.take_sublist _ _)
/-- The same memory, counted from the world at hand: the known blocks alone may turn. -/
theorem Mem.rebase (h : Mem R s w L O) : Mem (fun q => ∃ e ∈ L, q = e.g) w w L [] :=
  { only := Only.refl _ _, blk := h.blk, own := fun e he => .inl ⟨e, he, rfl⟩, diff := h.diff, sl := fun x hx => (by cases hx), slR := fun x hx => (by cases hx), slL := fun x hx => (by cases hx), slO := .nil }
/-- .. and back: the slices of old are still there. -/
theorem Mem.backO {u : World} {L0 : List Ent} {O0 : List Osl} (h0 : Mem R s w L0 O0) (h : Mem (fun q => ∃ e ∈ L0, q = e.g) w u L O) : Mem R s u L (O0 ++ O) := by
  have hR : ∀ q, (∃ e ∈ L0, q = e.g) ∨ w.heap.size ≤ q → R q ∨ s.heap.size ≤ q := fun q hq => by
    rcases hq with ⟨e, he, rfl⟩ | hq
    · exact h0.own e he
    · exact .inr (Nat.le_trans h0.only.size hq)
  have hN : ∀ x ∈ O0, ∀ q, ownAt x.A x.c = some q → ¬ ((∃ e ∈ L0, q = e.g) ∨ w.heap.size ≤ q) := fun x hx q hq hq2 => by
    rcases hq2 with ⟨e, he, rfl⟩ | hq2
    · exact h0.slL x hx e he hq
    · have := h0.slt hx hq; omega
  refine { only := h0.only.more h.only (fun q _ hq => hR q (.inl hq)), blk := h.blk, own := fun e he => hR _ (h.own e he), diff := h.diff, sl := ?_, slR := ?_, slL := ?_, slO := ?_ }
  · intro x hx
    rcases List.mem_append.1 hx with hx | hx
    · exact (h0.sl x hx).only' h.only (fun q hq hq2 => hN x hx q hq (.inl hq2))
    · exact h.sl x hx
  · intro x hx q hq
    rcases List.mem_append.1 hx with hx | hx
    · exact h0.slR x hx q hq
    · exact hR q (h.slR x hx q hq)
  · intro x hx e he hq
    rcases List.mem_append.1 hx with hx | hx
    · exact hN x hx _ hq (h.own e he)
    · exact h.slL x hx e he hq
  · rw [List.pairwise_append]
    exact ⟨h0.slO, h.slO, fun x hx y hy q hq hq2 => hN x hx q hq (h.slR y hy q hq2)⟩
theorem Mem.nm {e : Ent} (_h : Mem R s w L O) (k : Nat) (_hk : L[k]? = some e) : ∃ q, q = e.g := ⟨_, rfl⟩
/-- A slice over a block that is being made. -/
theorem Mem.newrow (h : Mem R s w L O) (t : TypeId) (cs : Array Value) (k m : Nat) (l : List Value) (hl : cs.toList = l) (hlen : l.length = m * k) (hmax : m ≤ maxLen) : Mem R s (w.alloc (.cells cs t)) L (O ++ [⟨t, k, some ⟨w.heap.size, 0, none⟩, m, m, l⟩]) :=
  (h.alloc _).row (Blk.new w t cs) h.only.size (fun e he => by have := h.lt he; omega) (fun x hx e => by have := h.slt hx e; omega) k m l hl hlen hmax
/-- One slice alone. -/
theorem Mem.oneO {x : Osl} (h : Mem R s w L O) (k : Nat) (hk : O[k]? = some x) : Mem R s w L [x] := h.part (List.Sublist.refl _) (List.singleton_sublist.2 (List.mem_of_getElem? hk))
theorem Mem.takeL (h : Mem R s w L O) (k : Nat) : Mem R s w (L.take k) O := h.part (List.take_sublist _ _) (List.Sublist.refl _)
end
section
variable {P : Program} {ops : Array Oper} {o : Oper} {a : Act} {w s : World} {Q : Exit → Act → World → Prop} {K : Act → World → Prop} {E : Prop} {R : Nat → Prop} {L : List Ent} {O : List Osl}
/-- A load of one cell, as a step of a region that draws its order. -/
theorem step_ld (hw : Region.wanted o (yielded ops a.tmps) = true) (ty : TypeId) (x : Operand) (ho : o.op = .load ty x) (g i : Nat) (hx : a.eval x = .pointer (some ⟨g, i, none⟩))
    (hm : Mem R s w L O) (k : Nat) (t : TypeId) (cs : Array Value) (hk : L[k]? = some ⟨g, t, cs⟩) (hT : oneT P ty = true) (v : Value) (hv : cs[i]? = some v)
    (h : K (a.put o.dst v) w) : if Region.wanted o (yielded ops a.tmps) = true then Oper.wp P o a w K Q else E := by
  rw [if_pos hw]
  unfold Oper.wp
  rw [exec_ld (hm.at_ k hk) ty x ho hx hT v hv]
  exact h
/-- A new variable, as a step of a region that draws its order. -/
theorem step_al (hw : Region.wanted o (yielded ops a.tmps) = true) (ty : TypeId) (ho : o.op = .alloc ty) (z : Value) (hz : (P.info? ty).bind (·.zero) = some z) (cs : Array Value) (hc : z.cells = cs)
    (hm : Mem R s w L O) (h : ∀ n w1, w.heap.size ≤ n → w.heap.size ≤ w1.heap.size → Mem R s w1 (L ++ [⟨n, ty, cs⟩]) O → Below w.heap.size w w1 → K (a.put o.dst (.pointer (some ⟨n, 0, none⟩))) w1) : if Region.wanted o (yielded ops a.tmps) = true then Oper.wp P o a w K Q else E := by
  rw [if_pos hw]
  subst hc
  cases hq : P.info? ty with
  | none => simp [hq] at hz
  | some d =>
    have hd : d.zero = some z := by simpa [hq] using hz
    have hrun : (Instr.alloc ty true (.tuple #[])).run P w = .ok (.pointer (some ⟨w.heap.size, 0, none⟩)) (w.alloc (.cells z.cells ty)) := by
      simp [Instr.alloc, zeroValue, typeInfo, hq, hd, newVar, newRow]
    unfold Oper.wp execOp
    simp only [ho, Sem.run_bind, hrun, Sem.run_pure, Result.andThen_ok]
    exact h w.heap.size _ (Nat.le_refl _) (by simp) (hm.snoc ty _) ((Below.refl _ _).alloc (Nat.le_refl _) _)
/-- A load of a struct, as a step of a region that draws its order. -/
theorem step_la (hw : Region.wanted o (yielded ops a.tmps) = true) (ty : TypeId) (x : Operand) (ho : o.op = .load ty x) (g i : Nat) (hx : a.eval x = .pointer (some ⟨g, i, none⟩))
    (hm : Mem R s w L O) (k : Nat) (t : TypeId) (cs : Array Value) (hk : L[k]? = some ⟨g, t, cs⟩) (z : Array Value) (hz : (P.info? ty).bind (·.zero) = some (.agg z)) (hT : aggT P ty = true) (hn : (P.info? ty).map (·.size) = some z.size) (hin : i + z.size ≤ cs.size) (v : Value) (hv : Value.agg ((cs.toList.drop i).take z.size).toArray = v)
    (h : K (a.put o.dst v) w) : if Region.wanted o (yielded ops a.tmps) = true then Oper.wp P o a w K Q else E := by
  rw [if_pos hw]
  unfold Oper.wp
  rw [exec_la (hm.at_ k hk) ty x ho hx z hz hT hn hin v hv]
  exact h
end
section
variable {P : Program} {o : Oper} {a : Act} {w s : World} {R : Nat → Prop} {L : List Ent} {O : List Osl}
theorem MemS.la (h : MemS R s L O w) (ty : TypeId) (x : Operand) (ho : o.op = .load ty x) (g i : Nat) (hx : a.eval x = .pointer (some ⟨g, i, none⟩)) (k : Nat) (t : TypeId) (cs : Array Value) (hk : L[k]? = some ⟨g, t, cs⟩) (z : Array Value) (hz : (P.info? ty).bind (·.zero) = some (.agg z)) (hT : aggT P ty = true) (hn : (P.info? ty).map (·.size) = some z.size) (hin : i + z.size ≤ cs.size) (v : Value) (hv : Value.agg ((cs.toList.drop i).take z.size).toArray = v) :
    (execOp a.eval o).run P w = .ok (.value v) w := exec_la (h.mem.at_ k hk) ty x ho hx z hz hT hn hin v hv
end
/-- The slices among the cells of a struct lie in blocks that meet F. -/
def Far (F : Nat → Prop) (cs : Array Value) : Prop := ∀ A n c, Value.slice A n c ∈ cs.toList → 0 < n → ∀ a, A = some a → F a.block
theorem Far.mono {F F' : Nat → Prop} {cs : Array Value} (h : Far F cs) (hF : ∀ q, F q → F' q) : Far F' cs := fun A n c hm hn a e => hF _ (h A n c hm hn a e)
theorem Far.old {F : Nat → Prop} {k : Nat} {cs : Array Value} (h : Far F cs) : Far (fun q => F q ∨ k ≤ q) cs := h.mono fun _ e => .inl e
theorem Far.and {F G : Nat → Prop} {cs : Array Value} (h : Far F cs) (k : Far G cs) : Far (fun q => F q ∧ G q) cs := fun A n c hm hn a e => ⟨h A n c hm hn a e, k A n c hm hn a e⟩
theorem Far.nil {F : Nat → Prop} : Far F #[] := fun A n c hm => by cases hm
theorem Far.cons {F : Nat → Prop} {v : Value} {l : List Value} (h : Far F l.toArray) (hv : ∀ A n c, v = .slice A n c → 0 < n → ∀ a, A = some a → F a.block) : Far F (v :: l).toArray := fun A n c hm => by
  rcases List.mem_cons.1 hm with e | hm
  · exact hv A n c e.symm
  · exact h A n c hm
theorem Far.at_ {F : Nat → Prop} {cs : Array Value} (h : Far F cs) {A : Option Addr} {n c : Nat} (k : Nat) (hk : cs[k]? = some (.slice A n c)) : 0 < n → ∀ a, A = some a → F a.block := h A n c (by
  have : cs.toList[k]? = some (.slice A n c) := by simpa using hk
  exact List.mem_of_getElem? this)
theorem Own.far {w : World} {base : Nat} {t : TypeId} {s : Nat} {A : Option Addr} {n c : Nat} {cs : List Value} (h : Own w base t s A n c cs) : 0 < n → ∀ a, A = some a → base ≤ a.block := fun hn a e => by
  have hc := h.le
  exact (h.lt a.block (by unfold ownAt; rw [if_neg (by omega), e]; rfl)).1
theorem Row.far {w u : World} {F R : Nat → Prop} {A : Option Addr} {cs : List Value} (h : Row w w.heap.size A cs) (hf : 0 < cs.length → ∀ a, A = some a → F a.block) (ho : Only R w u) (hR : ∀ q, q < w.heap.size → R q → ¬ F q) : Row u u.heap.size A cs := fun hn => by
  obtain ⟨b, o, e, hb, hc⟩ := h hn
  have hF := hf hn _ e
  exact ⟨b, o, e, Nat.lt_of_lt_of_le hb ho.size, fun j hj => (World.cell?_of_block (ho.block b hb fun hr => hR b hb hr hF)).trans (hc j hj)⟩
theorem Byt.far {w u : World} {F R : Nat → Prop} {A : Option Addr} {n c : Nat} {bs : List UInt8} (h : Byt w w.heap.size A n c bs) (hf : 0 < n → ∀ a, A = some a → F a.block) (ho : Only R w u) (hR : ∀ q, q < w.heap.size → R q → ¬ F q) : Byt u u.heap.size A n c bs :=
  ⟨h.1, h.2.1, h.2.2.far (fun hn => hf (by have := h.1; rw [length_bcells] at hn; omega)) ho hR⟩
end Go.Proofs.YtibaibdgpnkdnaaGreatDoor
end

section
namespace Go.Proofs.YtibaibdgpnkdnaaGreatDoor
set_option maxRecDepth 100000
set_option linter.unusedSimpArgs false
set_option linter.unusedVariables false
open Go.RowKit

/-- A block is among the known ones. -/
structure In (g : Nat) (t : TypeId) (cs : Array Value) (L : List Ent) : Prop where
  at_ : ∃ k : Nat, L[k]? = some ⟨g, t, cs⟩
theorem In.a {g : Nat} {t : TypeId} {cs : Array Value} {L : List Ent} : In g t cs (⟨g, t, cs⟩ :: L) := ⟨0, rfl⟩
theorem In.b {g : Nat} {t : TypeId} {cs : Array Value} {e : Ent} {L : List Ent} (h : In g t cs L) : In g t cs (e :: L) := by
  obtain ⟨k, h⟩ := h
  exact ⟨k + 1, h⟩
/-- A block's cells are put in place of the old ones. -/
structure Put (g : Nat) (t : TypeId) (cs cs' : Array Value) (L L' : List Ent) : Prop where
  at_ : ∃ k : Nat, L[k]? = some ⟨g, t, cs⟩ ∧ L.set k ⟨g, t, cs'⟩ = L'
theorem Put.a {g : Nat} {t : TypeId} {cs cs' : Array Value} {L : List Ent} : Put g t cs cs' (⟨g, t, cs⟩ :: L) (⟨g, t, cs'⟩ :: L) := ⟨0, rfl, rfl⟩
theorem Put.b {g : Nat} {t : TypeId} {cs cs' : Array Value} {e : Ent} {L L' : List Ent} (h : Put g t cs cs' L L') : Put g t cs cs' (e :: L) (e :: L') := by
  obtain ⟨k, h, h2⟩ := h
  exact ⟨k + 1, h, by rw [List.set_cons_succ, h2]⟩
/-- The first operation at or behind place 'a' that has not come up. -/
structure Seek (l : List Bool) (a i : Nat) : Prop where
  so : True
theorem Seek.a {l : List Bool} : Seek (false :: l) 0 0 := ⟨trivial⟩
theorem Seek.b {l : List Bool} {i : Nat} (_ : Seek l 0 i) : Seek (true :: l) 0 (i + 1) := ⟨trivial⟩
theorem Seek.c {l : List Bool} {b : Bool} {a i : Nat} (_ : Seek l a i) : Seek (b :: l) (a + 1) (i + 1) := ⟨trivial⟩
/-- As many places as operations. -/
structure Fresh (os : List Oper) (l : List Bool) : Prop where
  is : l = List.replicate os.length false
theorem Fresh.a : Fresh [] [] := ⟨rfl⟩
theorem Fresh.b {o : Oper} {os : List Oper} {l : List Bool} (h : Fresh os l) : Fresh (o :: os) (false :: l) := by
  exact ⟨by rw [h.is]; rfl⟩

section
variable {P : Program} {md : Region.Mode} {S : World → Prop} {ops : Array Oper} {rest : List Oper} {o : Oper} {a : Act} {w s : World} {Q : Exit → Act → World → Prop} {R : Nat → Prop} {L : List Ent} {O : List Osl} {K : Act → World → Prop} {E : Prop}
theorem wpAnyH_fresh {os : List Oper} {l : List Bool} {fuel : Nat} (hl : Fresh os l) (h : wpAnyH P md os.toArray Q S fuel l.toArray a w) : wpAnyH P md os.toArray Q S fuel (Array.replicate os.toArray.size false) a w := by
  have : Array.replicate os.toArray.size false = l.toArray := by rw [hl.is]; simp
  rw [this]; exact h
theorem wpAnyH_take3 {l : List Bool} {i b : Nat} {oi : Oper} {fuel : Nat} (_ : Seek l b i) (hi : ops[i]? = some oi)
    (h : ∃ v, Region.noSelect ops = true ∧ Region.free md ops l.toArray i = true ∧ (Region.ready md ops l.toArray).contains i = true ∧
      (∀ c a w, Q (.panic c) (a.put oi.dst v) w → Q (.panic c) a w) ∧ YieldsIf P ops S oi v a ∧ S w ∧ wpAnyH P md ops Q S fuel (l.toArray.setIfInBounds i true) (a.put oi.dst v) w) : wpAnyH P md ops Q S (fuel + 1) l.toArray a w := wpAnyH_take2 hi h
theorem wpList_ldS (hw : Region.wanted o (yielded ops a.tmps) = true) (ty : TypeId) (x : Operand) (ho : o.op = .load ty x) (g i : Nat) (hx : a.eval x = .pointer (some ⟨g, i, none⟩))
    (hm : Mem R s w L O) (t : TypeId) (cs : Array Value) (hk : In g t cs L) (hT : oneT P ty = true) (v : Value) (hv : cs[i]? = some v)
    (h : wpList P ops Q rest (a.put o.dst v) w) : wpList P ops Q (o :: rest) a w := by
  obtain ⟨k, hk⟩ := hk
  exact wpList_ld hw ty x ho g i hx hm k t cs hk hT v hv h
theorem wpList_laS (hw : Region.wanted o (yielded ops a.tmps) = true) (ty : TypeId) (x : Operand) (ho : o.op = .load ty x) (g i : Nat) (hx : a.eval x = .pointer (some ⟨g, i, none⟩))
    (hm : Mem R s w L O) (t : TypeId) (cs : Array Value) (hk : In g t cs L) (hT : aggT P ty = true) (z : Array Value) (hz : (P.info? ty).bind (·.zero) = some (.agg z)) (hn : (P.info? ty).map (·.size) = some z.size) (hin : i + z.size ≤ cs.size) (vs : Array Value) (hv : ((cs.toList.drop i).take z.size).toArray = vs)
    (h : wpList P ops Q rest (a.put o.dst (.agg vs)) w) : wpList P ops Q (o :: rest) a w := by
  obtain ⟨k, hk⟩ := hk
  exact wpList_la hw ty x ho g i hx hm k t cs hk z hz hT hn hin vs hv h
theorem wpList_stS (hw : Region.wanted o (yielded ops a.tmps) = true) (ty : TypeId) (x y : Operand) (ho : o.op = .store ty x y) (g i : Nat) (hx : a.eval x = .pointer (some ⟨g, i, none⟩)) (v : Value) (hy : a.eval y = v)
    (hm : Mem R s w L O) (vs : Array Value) (hc : v.cells = vs) (t : TypeId) (cs cs' : Array Value) (L' : List Ent) (hL : Put g t cs cs' L L') (hi : (P.info? ty).map (·.size) = some vs.size) (h1 : vs.all (·.oneCell') = true) (hin : i + vs.size ≤ cs.size)
    (hcs : spl cs i vs = cs')
    (h : ∀ w1, w.heap.size ≤ w1.heap.size → Mem R s w1 L' O → Only (fun q => q = g) w w1 → wpList P ops Q rest (a.put o.dst undef) w1) : wpList P ops Q (o :: rest) a w := by
  obtain ⟨k, hk, rfl⟩ := hL
  subst hcs
  exact wpList_st hw ty x y ho g i hx v hy hm k t cs hk vs hc hi h1 hin _ rfl h
theorem wpQuiet_ldS {Q : Act → Prop} (hw : Region.wanted o (yielded ops a.tmps) = true) (ty : TypeId) (x : Operand) (ho : o.op = .load ty x) (g i : Nat) (hx : a.eval x = .pointer (some ⟨g, i, none⟩))
    (hm : Mem R s w L O) (t : TypeId) (cs : Array Value) (hk : In g t cs L) (hT : oneT P ty = true) (v : Value) (hv : cs[i]? = some v)
    (h : wpQuiet P ops (fun w' => ∃ k, w' = w.drewN k) Q rest (a.put o.dst v)) : wpQuiet P ops (fun w' => ∃ k, w' = w.drewN k) Q (o :: rest) a := by
  obtain ⟨k, hk⟩ := hk
  exact wpQuiet_ld hw ty x ho g i hx hm k t cs hk hT v hv h
theorem MemS.ldS (h : MemS R s L O w) (ty : TypeId) (x : Operand) (ho : o.op = .load ty x) (g i : Nat) (hx : a.eval x = .pointer (some ⟨g, i, none⟩)) (t : TypeId) (cs : Array Value) (hk : In g t cs L) (hT : oneT P ty = true) (v : Value) (hv : cs[i]? = some v) :
    (execOp a.eval o).run P w = .ok (.value v) w := by
  obtain ⟨k, hk⟩ := hk
  exact MemS.ld h ty x ho g i hx k t cs hk hT v hv
theorem MemS.laS (h : MemS R s L O w) (ty : TypeId) (x : Operand) (ho : o.op = .load ty x) (g i : Nat) (hx : a.eval x = .pointer (some ⟨g, i, none⟩)) (t : TypeId) (cs : Array Value) (hk : In g t cs L) (hT : aggT P ty = true) (z : Array Value) (hz : (P.info? ty).bind (·.zero) = some (.agg z)) (hn : (P.info? ty).map (·.size) = some z.size) (hin : i + z.size ≤ cs.size) (v : Value) (hv : Value.agg ((cs.toList.drop i).take z.size).toArray = v) :
    (execOp a.eval o).run P w = .ok (.value v) w := by
  obtain ⟨k, hk⟩ := hk
  exact exec_la (h.mem.at_ k hk) ty x ho hx z hz hT hn hin v hv
theorem step_ldS (hw : Region.wanted o (yielded ops a.tmps) = true) (ty : TypeId) (x : Operand) (ho : o.op = .load ty x) (g i : Nat) (hx : a.eval x = .pointer (some ⟨g, i, none⟩))
    (hm : Mem R s w L O) (t : TypeId) (cs : Array Value) (hk : In g t cs L) (hT : oneT P ty = true) (v : Value) (hv : cs[i]? = some v)
    (h : K (a.put o.dst v) w) : if Region.wanted o (yielded ops a.tmps) = true then Oper.wp P o a w K Q else E := by
  obtain ⟨k, hk⟩ := hk
  exact step_ld hw ty x ho g i hx hm k t cs hk hT v hv h
theorem step_stS (hw : Region.wanted o (yielded ops a.tmps) = true) (ty : TypeId) (x y : Operand) (ho : o.op = .store ty x y) (g i : Nat) (hx : a.eval x = .pointer (some ⟨g, i, none⟩)) (v : Value) (hy : a.eval y = v)
    (hm : Mem R s w L O) (vs : Array Value) (hc : v.cells = vs) (t : TypeId) (cs cs' : Array Value) (L' : List Ent) (hL : Put g t cs cs' L L') (hi : (P.info? ty).map (·.size) = some vs.size) (h1 : vs.all (·.oneCell') = true) (hin : i + vs.size ≤ cs.size)
    (hcs : spl cs i vs = cs')
    (h : ∀ w1, w.heap.size ≤ w1.heap.size → Mem R s w1 L' O → Only (fun q => q = g) w w1 → K (a.put o.dst undef) w1) : if Region.wanted o (yielded ops a.tmps) = true then Oper.wp P o a w K Q else E := by
  obtain ⟨k, hk, rfl⟩ := hL
  subst hcs
  exact step_st hw ty x y ho g i hx v hy hm k t cs hk vs hc hi h1 hin _ rfl h
end
end Go.Proofs.YtibaibdgpnkdnaaGreatDoor
end

section
namespace Go.Proofs.YtibaibdgpnkdnaaGreatDoor
set_option maxRecDepth 100000
set_option linter.unusedSimpArgs false
set_option linter.unusedVariables false
open Go.RowKit
section
variable {P : Program} {ops : Array Oper} {Q : Exit → Act → World → Prop} {md : Region.Mode} {S : World → Prop} {late : List Nat}

/-- S, as long as none of the late ones has come up. -/
def Early (late : List Nat) (S : World → Prop) (l : Array Bool) (w : World) : Prop := (∀ j ∈ late, l.getD j true = false) → S w
/-- Whatever order is picked, S holds behind every operation until a late one comes up. -/
def wpAnyP (P : Program) (md : Region.Mode) (ops : Array Oper) (Q : Exit → Act → World → Prop) (late : List Nat) (S : World → Prop) : Nat → Array Bool → Act → World → Prop
  | 0, l, a, w => Region.ready md ops l = [] ∧ Q .normal a w
  | n + 1, l, a, w => (Region.ready md ops l = [] → Q .normal a w) ∧ ∀ i ∈ Region.ready md ops l, wpOp P ops Q i (fun a' w' => Early late S (l.setIfInBounds i true) w' ∧ wpAnyP P md ops Q late S n (l.setIfInBounds i true) a' w') a w
theorem wpAny_of_P : ∀ (n : Nat) (l : Array Bool) (a : Act) (w : World), wpAnyP P md ops Q late S n l a w → wpAny P md ops Q n l a w
  | 0, _, _, _, h => h
  | n + 1, _, _, _, h => ⟨h.1, fun i hi => wpOp_mono (fun a' w' h' => wpAny_of_P n _ a' w' h'.2) (h.2 i hi)⟩
/-- Every late one waits for i. -/
def waitsFor (md : Region.Mode) (ops : Array Oper) (late : List Nat) (i : Nat) : Bool := late.all fun j => match ops[j]? with
  | some o => o.after.any fun e => Region.binds md e && e.on == i
  | none => false
theorem wpAnyP_first {i : Nat} {oi : Oper} {v : Value} (hi : ops[i]? = some oi) (hsel : ∀ (j : Nat) (o : Oper) cs b, ops[j]? = some o → o.op ≠ .select cs b)
    (hQ : ∀ c a w, Q (.panic c) (a.put oi.dst v) w → Q (.panic c) a w) (hwait : waitsFor md ops late i = true) (hni : i ∉ late) : ∀ (n : Nat) (l : Array Bool) (a : Act) (w : World),
      (∀ j oj, ops[j]? = some oj → j ≠ i → l.getD j true = false → (∀ e ∈ oj.after, Region.binds md e = true → e.on ≠ i) → oi.apart ops oj = true) →
      (∀ j ∈ late, l.getD j true = false) → i ∈ Region.ready md ops l → YieldsIf P ops S oi v a → S w →
      wpAnyP P md ops Q late S n (l.setIfInBounds i true) (a.put oi.dst v) w → wpAnyP P md ops Q late S (n + 1) l a w := by
  intro n
  induction n with
  | zero =>
    intro l a w _ _ hr hy hS H
    refine ⟨fun h => (by rw [h] at hr; cases hr), fun j hj => ?_⟩
    by_cases hji : j = i
    · subst hji; exact hy.wpOp hi hS ⟨fun _ => hS, H⟩
    · have h1 := ready_mono hj hji
      rw [H.1] at h1
      cases h1
  | succ n ih =>
    intro l a w hfree hl hr hy hS H
    refine ⟨fun h => (by rw [h] at hr; cases hr), fun j hj => ?_⟩
    by_cases hji : j = i
    · subst hji; exact hy.wpOp hi hS ⟨fun _ => hS, H⟩
    · obtain ⟨hjun, oj, hoj, hall⟩ := mem_ready.1 hj
      have hiun : l.getD i true = false := (mem_ready.1 hr).1
      have hnot : ∀ e ∈ oj.after, Region.binds md e = true → e.on ≠ i := fun e he hb heq => by
        have h1 := hall e he hb
        rw [heq] at h1
        have hlt : i < l.size := by
          rcases Nat.lt_or_ge i l.size with h' | h'
          · exact h'
          · simp [Array.getElem?_eq_none h'] at hiun
        simp [hlt] at h1 hiun
        rw [hiun] at h1; cases h1
      have hjl : j ∉ late := fun hjl => by
        have h1 := (List.all_eq_true.1 hwait) j hjl
        rw [hoj] at h1
        obtain ⟨e, he, h2⟩ := Array.any_eq_true'.1 h1
        simp only [Bool.and_eq_true, beq_iff_eq] at h2
        exact hnot e he h2.1 h2.2
      have h2 := wpOp_putIf hoj (hfree j oj hoj hji hjun hnot) (fun cs b => hsel i oi cs b hi) (fun cs b => hsel j oj cs b hoj) hQ hy (H.2 j (ready_mono hj hji))
      have hl2 : ∀ k ∈ late, (l.setIfInBounds j true).getD k true = false := fun k hk => by
        rw [getD_set_ne true (show j ≠ k from fun e => hjl (e ▸ hk))]; exact hl k hk
      have hl3 : ∀ k ∈ late, ((l.setIfInBounds i true).setIfInBounds j true).getD k true = false := fun k hk => by
        rw [getD_set_ne true (show j ≠ k from fun e => hjl (e ▸ hk)), getD_set_ne true (show i ≠ k from fun e => hni (e ▸ hk))]; exact hl k hk
      refine wpOp_mono (fun a' w' h3 => ?_) h2
      have hS' : S w' := h3.2.1 hl3
      refine ⟨fun _ => hS', ih (l.setIfInBounds j true) a' w' (fun k ok hk hki hun hno => ?_) hl2 (ready_mono hr (Ne.symm hji)) h3.1 hS' ?_⟩
      · refine hfree k ok hk hki ?_ hno
        by_cases hjk : j = k
        · subst hjk; exact hjun
        · rw [getD_set_ne true hjk] at hun; exact hun
      · rw [Array.setIfInBounds_comm _ _ hji]
        exact h3.2.2
/-- What yields its value in whatever world may be taken first, whether late ones have come up or not. -/
theorem wpAnyP_pure {i : Nat} {oi : Oper} {v : Value} (hi : ops[i]? = some oi) (hsel : ∀ (j : Nat) (o : Oper) cs b, ops[j]? = some o → o.op ≠ .select cs b)
    (hQ : ∀ c a w, Q (.panic c) (a.put oi.dst v) w → Q (.panic c) a w) (hni : i ∉ late) : ∀ (n : Nat) (l : Array Bool) (a : Act) (w : World),
      (∀ j oj, ops[j]? = some oj → j ≠ i → l.getD j true = false → (∀ e ∈ oj.after, Region.binds md e = true → e.on ≠ i) → oi.apart ops oj = true) →
      i ∈ Region.ready md ops l → YieldsIf P ops (fun _ => True) oi v a → Early late S l w →
      wpAnyP P md ops Q late S n (l.setIfInBounds i true) (a.put oi.dst v) w → wpAnyP P md ops Q late S (n + 1) l a w := by
  have hun : ∀ {l : Array Bool} {w : World}, Early late S l w → Early late S (l.setIfInBounds i true) w := fun {l w} h hl => h fun k hk => by
    have := hl k hk
    rwa [getD_set_ne true (show i ≠ k from fun e => hni (e ▸ hk))] at this
  intro n
  induction n with
  | zero =>
    intro l a w _ hr hy hS H
    refine ⟨fun h => (by rw [h] at hr; cases hr), fun j hj => ?_⟩
    by_cases hji : j = i
    · subst hji; exact hy.wpOp hi trivial ⟨hun hS, H⟩
    · have h1 := ready_mono hj hji
      rw [H.1] at h1
      cases h1
  | succ n ih =>
    intro l a w hfree hr hy hS H
    refine ⟨fun h => (by rw [h] at hr; cases hr), fun j hj => ?_⟩
    by_cases hji : j = i
    · subst hji; exact hy.wpOp hi trivial ⟨hun hS, H⟩
    · obtain ⟨hjun, oj, hoj, hall⟩ := mem_ready.1 hj
      have hiun : l.getD i true = false := (mem_ready.1 hr).1
      have hnot : ∀ e ∈ oj.after, Region.binds md e = true → e.on ≠ i := fun e he hb heq => by
        have h1 := hall e he hb
        rw [heq] at h1
        have hlt : i < l.size := by
          rcases Nat.lt_or_ge i l.size with h' | h'
          · exact h'
          · simp [Array.getElem?_eq_none h'] at hiun
        simp [hlt] at h1 hiun
        rw [hiun] at h1; cases h1
      have h2 := wpOp_putIf hoj (hfree j oj hoj hji hjun hnot) (fun cs b => hsel i oi cs b hi) (fun cs b => hsel j oj cs b hoj) hQ hy (H.2 j (ready_mono hj hji))
      refine wpOp_mono (fun a' w' h3 => ?_) h2
      have hS' : Early late S (l.setIfInBounds j true) w' := fun hl => h3.2.1 fun k hk => by
        have := hl k hk
        rw [Array.setIfInBounds_comm _ _ (Ne.symm hji), getD_set_ne true (show i ≠ k from fun e => hni (e ▸ hk))]
        exact this
      refine ⟨hS', ih (l.setIfInBounds j true) a' w' (fun k ok hk hki hun hno => ?_) (ready_mono hr (Ne.symm hji)) h3.1 hS' ?_⟩
      · refine hfree k ok hk hki ?_ hno
        by_cases hjk : j = k
        · subst hjk; exact hjun
        · rw [getD_set_ne true hjk] at hun; exact hun
      · rw [Array.setIfInBounds_comm _ _ hji]
        exact h3.2.2
theorem wpAnyP_takeP {l : List Bool} {i b : Nat} {oi : Oper} {n : Nat} {a : Act} {w : World} (_ : Seek l b i) (hi : ops[i]? = some oi)
    (h : ∃ v, Region.noSelect ops = true ∧ Region.free md ops l.toArray i = true ∧ (Region.ready md ops l.toArray).contains i = true ∧ late.contains i = false ∧
      (∀ c a w, Q (.panic c) (a.put oi.dst v) w → Q (.panic c) a w) ∧ YieldsIf P ops (fun _ => True) oi v a ∧ Early late S l.toArray w ∧ wpAnyP P md ops Q late S n (l.toArray.setIfInBounds i true) (a.put oi.dst v) w) : wpAnyP P md ops Q late S (n + 1) l.toArray a w := by
  obtain ⟨v, hs, hf, hr, hni, hQ, hy, hS, h⟩ := h
  exact wpAnyP_pure hi (Region.noSelect_spec hs) hQ (fun e => by rw [List.contains_iff_mem.2 e] at hni; cases hni) n _ a w (Region.free_spec hi hf) (by simpa using hr) hy hS h
theorem Early.of {l : Array Bool} {w : World} (h : S w) : Early late S l w := fun _ => h
theorem Early.off {l : Array Bool} {w : World} (h : (late.all fun j => !l.getD j true) = false) : Early late S l w := fun hl => by
  rw [List.all_eq_true.2 (fun j hj => by simp [hl j hj])] at h
  cases h
/-- Take number i first. -/
theorem wpAnyP_take {l : List Bool} {i b : Nat} {oi : Oper} {n : Nat} {a : Act} {w : World} (_ : Seek l b i) (hi : ops[i]? = some oi)
    (h : ∃ v, Region.noSelect ops = true ∧ Region.free md ops l.toArray i = true ∧ (Region.ready md ops l.toArray).contains i = true ∧ waitsFor md ops late i = true ∧ late.contains i = false ∧ (late.all fun j => !l.toArray.getD j true) = true ∧
      (∀ c a w, Q (.panic c) (a.put oi.dst v) w → Q (.panic c) a w) ∧ YieldsIf P ops S oi v a ∧ S w ∧ wpAnyP P md ops Q late S n (l.toArray.setIfInBounds i true) (a.put oi.dst v) w) : wpAnyP P md ops Q late S (n + 1) l.toArray a w := by
  obtain ⟨v, hs, hf, hr, hw, hni, hl, hQ, hy, hS, h⟩ := h
  exact wpAnyP_first hi (Region.noSelect_spec hs) hQ hw (fun e => by rw [List.contains_iff_mem.2 e] at hni; cases hni) n _ a w (Region.free_spec hi hf) (fun j hj => by simpa using List.all_eq_true.1 hl j hj) (by simpa using hr) hy hS h
/-- One alone may come up: before the late ones. -/
theorem wpAnyP_one {n : Nat} {l : Array Bool} {a : Act} {w : World} (i : Nat) (hr : Region.ready md ops l = [i]) {o : Oper} (ho : ops[i]? = some o)
    (h : ∀ K' : Act → World → Prop, Shut (∀ a w, S w → (S w → wpAnyP P md ops Q late S n (l.setIfInBounds i true) a w) → K' a w) → if Region.wanted o (yielded ops a.tmps) = true then Oper.wp P o a w K' Q else K' (a.put o.dst undef) w) : wpAnyP P md ops Q late S (n + 1) l a w := by
  refine ⟨fun h0 => (by rw [hr] at h0; cases h0), fun j hj => ?_⟩
  rw [hr, List.mem_singleton] at hj
  subst hj
  exact wpOp_step ho (fun K' hK => h K' (fun a w hS hW => hK a w ⟨fun _ => hS, hW hS⟩))
/-- .. a late one, or one behind a late one. -/
theorem wpAnyP_last {n : Nat} {l : Array Bool} {a : Act} {w : World} (i : Nat) (hr : Region.ready md ops l = [i]) {o : Oper} (ho : ops[i]? = some o) (hlate : (late.all fun j => !(l.setIfInBounds i true).getD j true) = false)
    (h : ∀ K' : Act → World → Prop, Shut (∀ a w, wpAnyP P md ops Q late S n (l.setIfInBounds i true) a w → K' a w) → if Region.wanted o (yielded ops a.tmps) = true then Oper.wp P o a w K' Q else K' (a.put o.dst undef) w) : wpAnyP P md ops Q late S (n + 1) l a w := by
  refine ⟨fun h0 => (by rw [hr] at h0; cases h0), fun j hj => ?_⟩
  rw [hr, List.mem_singleton] at hj
  subst hj
  refine wpOp_step ho (fun K' hK => h K' (fun a w hW => hK a w ⟨fun hl => ?_, hW⟩))
  rw [List.all_eq_true.2 (fun j hj => by simp [hl j hj])] at hlate
  cases hlate
theorem wpAnyP_done {l : Array Bool} {a : Act} {w : World} (hr : Region.ready md ops l = []) (h : Q .normal a w) : ∀ n, wpAnyP P md ops Q late S n l a w
  | 0 => ⟨hr, h⟩
  | _ + 1 => ⟨fun _ => h, by rw [hr]; simp⟩
theorem wpAnyP_fresh {os : List Oper} {l : List Bool} {n : Nat} {a : Act} {w : World} (hl : Fresh os l) (h : wpAnyP P md os.toArray Q late S n l.toArray a w) : wpAnyP P md os.toArray Q late S n (Array.replicate os.toArray.size false) a w := by
  have : Array.replicate os.toArray.size false = l.toArray := by rw [hl.is]; simp
  rw [this]; exact h
/-- The beginning. -/
theorem wp_region_phase {id : Nat} {a : Act} {w : World} (late : List Nat) (hm : P.follows .mixedOrders = true) (hS : S w.drew)
    (h : S w.drew → wpAnyP P .any ops Q late S ops.size (Array.replicate ops.size false) a w.drew) : (Code.region id ops true).wp P Q a w :=
  wp_region_any hm (wpAny_of_P _ _ _ _ (h hS))
end
end Go.Proofs.YtibaibdgpnkdnaaGreatDoor
end

section
namespace Go.Proofs.YtibaibdgpnkdnaaGreatDoor
set_option maxRecDepth 100000
set_option linter.unusedSimpArgs false
set_option linter.unusedVariables false
open Go.RowKit

structure Cal (w0 w : World) (L : List Ent) (O : List Osl) (Fs : List (Nat → Prop)) : Prop where
  mem : Mem (fun _ => False) w0 w L O
  lo : ∀ F ∈ Fs, ∀ q, F q → w0.heap.size ≤ q
  lt : ∀ F ∈ Fs, ∀ q, F q → q < w.heap.size
  dl : ∀ F ∈ Fs, ∀ e ∈ L, ¬ F e.g
  ds : ∀ F ∈ Fs, ∀ x ∈ O, ∀ q, ownAt x.A x.c = some q → ¬ F q
  df : Fs.Pairwise fun F G => ∀ q, F q → ¬ G q
section
variable {w0 w w' : World} {L L2 : List Ent} {O O2 : List Osl} {Fs : List (Nat → Prop)} {F F' : Nat → Prop}
theorem Cal.start (w0 : World) : Cal w0 w0 [] [] [] := ⟨Mem.nil _ _, fun F h => (by cases h), fun F h => (by cases h), fun F h => (by cases h), fun F h => (by cases h), .nil⟩
theorem Cal.low (h : Cal w0 w L O Fs) : Below w0.heap.size w0 w := h.mem.only.below (Nat.le_refl _) (fun _ _ e => e)
theorem Cal.size (h : Cal w0 w L O Fs) : w0.heap.size ≤ w.heap.size := h.low.size
/-- Behind steps of the caller's own. -/
theorem Cal.resync (h : Cal w0 w L O Fs) (hm : Mem (fun q => ∃ e ∈ L, q = e.g) w w' L2 O2) : Cal w0 w' L2 (O ++ O2) Fs :=
  { mem := h.mem.backO hm
    lo := h.lo
    lt := fun F hF q hq => Nat.lt_of_lt_of_le (h.lt F hF q hq) hm.only.size
    dl := fun F hF e he hq => by
      rcases hm.own e he with ⟨e2, he2, e3⟩ | h1
      · exact h.dl F hF e2 he2 (e3 ▸ hq)
      · have := h.lt F hF _ hq; omega
    ds := fun F hF x hx q hq hq2 => by
      rcases List.mem_append.1 hx with hx | hx
      · exact h.ds F hF x hx q hq hq2
      · rcases hm.slR x hx q hq with ⟨e2, he2, e3⟩ | h1
        · exact h.dl F hF e2 he2 (e3 ▸ hq2)
        · have := h.lt F hF _ hq2; omega
    df := h.df }
theorem Cal.rebase (h : Cal w0 w L O Fs) : Mem (fun q => ∃ e ∈ L, q = e.g) w w L [] := h.mem.rebase
/-- The caller's own steps leave an object alone. -/
theorem Cal.apart (h : Cal w0 w L O Fs) (k : Nat) (hk : Fs[k]? = some F) : ∀ q, F q → ¬ ∃ e ∈ L, q = e.g := fun q hq ⟨e, he, e2⟩ => h.dl F (List.mem_of_getElem? hk) e he (e2 ▸ hq)
/-- One object leaves another alone. -/
theorem Cal.other (h : Cal w0 w L O Fs) (i j : Nat) (hij : i ≠ j) {G : Nat → Prop} (hi : Fs[i]? = some F) (hj : Fs[j]? = some G) : ∀ q, F q → ¬ G q := fun q hq hg => by
  obtain ⟨h1, rfl⟩ := List.getElem?_eq_some_iff.1 hi
  obtain ⟨h2, rfl⟩ := List.getElem?_eq_some_iff.1 hj
  rcases Nat.lt_or_gt_of_ne hij with h3 | h3
  · exact List.pairwise_iff_getElem.1 h.df i j h1 h2 h3 q hq hg
  · exact List.pairwise_iff_getElem.1 h.df j i h2 h1 h3 q hg hq
theorem Cal.below (h : Cal w0 w L O Fs) (hb : Below w.heap.size w w') : Cal w0 w' L O Fs :=
  { h with mem := h.mem.below hb, lt := fun F hF q hq => Nat.lt_of_lt_of_le (h.lt F hF q hq) hb.size }
/-- A slice that a call has made. -/
theorem Cal.got {t : TypeId} {k : Nat} {A : Option Addr} {n c : Nat} {cs : List Value} (h : Cal w0 w L O Fs) (hb : Below w.heap.size w w') (hx : Own w' w.heap.size t k A n c cs) : Cal w0 w' L (O ++ [⟨t, k, A, n, c, cs⟩]) Fs :=
  { mem := h.mem.got hb hx, lo := h.lo, lt := fun F hF q hq => Nat.lt_of_lt_of_le (h.lt F hF q hq) hb.size, dl := h.dl
    ds := fun F hF x hm q hq hq2 => by
      rcases List.mem_append.1 hm with hm | hm
      · exact h.ds F hF x hm q hq hq2
      · obtain rfl := List.mem_singleton.1 hm
        have := (hx.lt q hq).1; have := h.lt F hF q hq2; omega
    df := h.df }
/-- A new object. -/
theorem Cal.born (h : Cal w0 w L O Fs) (hb : Below w.heap.size w w') (hF : ∀ q, F q → w.heap.size ≤ q) (hlt : ∀ q, F q → q < w'.heap.size) : Cal w0 w' L O (Fs ++ [F]) := by
  have h2 := h.below hb
  have hall : ∀ {p : (Nat → Prop) → Prop}, (∀ G ∈ Fs, p G) → p F → ∀ G ∈ Fs ++ [F], p G := fun {p} h0 h1 G hG => by
    rcases List.mem_append.1 hG with hG | hG
    · exact h0 G hG
    · obtain rfl := List.mem_singleton.1 hG; exact h1
  refine { mem := h2.mem, lo := hall h2.lo (fun q hq => Nat.le_trans h.size (hF q hq)), lt := hall h2.lt hlt, dl := hall h2.dl (fun e he hq => ?_), ds := hall h2.ds (fun x hx q e hq => ?_), df := ?_ }
  · have := h.mem.lt he; have := hF _ hq; omega
  · have := h.mem.slt hx e; have := hF _ hq; omega
  · rw [List.pairwise_append]
    refine ⟨h.df, List.pairwise_singleton _ _, fun G hG K hK q hq hq2 => ?_⟩
    obtain rfl := List.mem_singleton.1 hK
    have := h.lt G hG q hq; have := hF q hq2; omega
/-- A call of an object. -/
theorem Cal.turn (h : Cal w0 w L O Fs) (i : Nat) (hi : Fs[i]? = some F) (ho : Only F w w') (hF : ∀ q, F' q → F q ∨ w.heap.size ≤ q) (hlt : ∀ q, F' q → q < w'.heap.size) : Cal w0 w' L O (Fs.set i F') := by
  have hmem := List.mem_of_getElem? hi
  have hil := (List.getElem?_eq_some_iff.1 hi).1
  have hiF : Fs[i] = F := (List.getElem?_eq_some_iff.1 hi).2
  have hm : Mem (fun _ => False) w0 w' L O := h.mem.step ho (fun q hq hq2 => .inr (h.lo F hmem q hq2)) (fun e he hq => h.dl F hmem e he hq) (fun x hx q e hq => h.ds F hmem x hx q e hq)
  have hall : ∀ {p : (Nat → Prop) → Prop}, (∀ G ∈ Fs, p G) → p F' → ∀ G ∈ Fs.set i F', p G := fun {p} h0 h1 G hG => by
    rcases List.mem_or_eq_of_mem_set hG with hG | rfl
    · exact h0 G hG
    · exact h1
  refine { mem := hm, lo := hall h.lo (fun q hq => ?_), lt := hall (fun G hG q hq => Nat.lt_of_lt_of_le (h.lt G hG q hq) ho.size) hlt, dl := hall h.dl (fun e he hq => ?_), ds := hall h.ds (fun x hx q e hq => ?_), df := ?_ }
  · rcases hF q hq with h1 | h1
    · exact h.lo F hmem q h1
    · exact Nat.le_trans h.size h1
  · rcases hF _ hq with h1 | h1
    · exact h.dl F hmem e he h1
    · have := h.mem.lt he; omega
  · rcases hF _ hq with h1 | h1
    · exact h.ds F hmem x hx q e h1
    · have := h.mem.slt hx e; omega
  · rw [List.pairwise_iff_getElem]
    intro a b ha hb hab q hq hq2
    have ha' : a < Fs.length := by simpa using ha
    have hb' : b < Fs.length := by simpa using hb
    have hp := List.pairwise_iff_getElem.1 h.df
    rw [List.getElem_set] at hq hq2
    split at hq
    · rename_i hia
      rw [if_neg (by omega)] at hq2
      subst hia
      rcases hF q hq with h1 | h1
      · exact hp i b ha' hb' hab q (by rw [hiF]; exact h1) hq2
      · have := h.lt _ (List.getElem_mem hb') q hq2; omega
    · rename_i hia
      split at hq2
      · rename_i hib
        subst hib
        rcases hF q hq2 with h1 | h1
        · exact hp a i ha' hb' hab q hq (by rw [hiF]; exact h1)
        · have := h.lt _ (List.getElem_mem ha') q hq; omega
      · exact hp a b ha' hb' hab q hq hq2
/-- .. that hands back a slice of the caller's own. -/
theorem Cal.turned {t : TypeId} {k : Nat} {A : Option Addr} {n c : Nat} {cs : List Value} (h : Cal w0 w L O Fs) (i : Nat) (hi : Fs[i]? = some F) (ho : Only F w w') (hF : ∀ q, F' q → F q ∨ w.heap.size ≤ q) (hlt : ∀ q, F' q → q < w'.heap.size)
    (hx : Own w' w.heap.size t k A n c cs) (hd : ∀ q, F' q → ownAt A c ≠ some q) : Cal w0 w' L (O ++ [⟨t, k, A, n, c, cs⟩]) (Fs.set i F') := by
  have h2 := h.turn i hi ho hF hlt
  have hnew : ∀ q, ownAt A c = some q → w.heap.size ≤ q := fun q e => (hx.lt q e).1
  refine { mem := h2.mem.more (x := ⟨t, k, A, n, c, cs⟩) (hx.mono (Nat.zero_le _)) (fun q e => .inr (Nat.le_trans h.size (hnew q e))) (fun e he e1 => ?_) (fun y hy q e e1 => ?_), lo := h2.lo, lt := h2.lt, dl := h2.dl, ds := fun G hG x hm q e hq => ?_, df := h2.df }
  · have := hnew _ e1; have := h.mem.lt he; omega
  · have := hnew _ e1; have := h.mem.slt hy e; omega
  · rcases List.mem_append.1 hm with hm | hm
    · exact h2.ds G hG x hm q e hq
    · obtain rfl := List.mem_singleton.1 hm
      rcases List.mem_or_eq_of_mem_set hG with hG | rfl
      · have := hnew q e; have := h.lt G hG q hq; omega
      · exact hd q hq e
/-- Fewer variables, fewer slices. -/
theorem Cal.part (h : Cal w0 w L O Fs) (hL : L2.Sublist L) (hO : O2.Sublist O) : Cal w0 w L2 O2 Fs :=
  { mem := h.mem.part hL hO, lo := h.lo, lt := h.lt, dl := fun F hF e he => h.dl F hF e (hL.subset he), ds := fun F hF x hx => h.ds F hF x (hO.subset hx), df := h.df }
theorem Cal.takeL (h : Cal w0 w L O Fs) (k : Nat) : Cal w0 w (L.take k) O Fs := h.part (List.take_sublist _ _) (List.Sublist.refl _)
theorem Cal.takeO (h : Cal w0 w L O Fs) (k : Nat) : Cal w0 w L (O.take k) Fs := h.part (List.Sublist.refl _) (List.take_sublist _ _)
theorem Cal.byt {A : Option Addr} {n c : Nat} {t : TypeId} {bs : List UInt8} (h : Cal w0 w L O Fs) (k : Nat) (hk : O[k]? = some ⟨t, 1, A, n, c, bcells bs⟩) : Byt w w.heap.size A n c bs := (h.mem.sl_ k hk).byt (Nat.le_refl _)
end
end Go.Proofs.YtibaibdgpnkdnaaGreatDoor
end

section
namespace Go.Proofs.YtibaibdgpnkdnaaGreatDoor
set_option maxRecDepth 100000
set_option linter.unusedSimpArgs false
set_option linter.unusedVariables false
open Go.RowKit

/-- p holds, and goes on to hold as long as no block of G turns. -/
structure Sup (w : World) (G : Nat → Prop) (p : World → Prop) : Prop where
  now : p w
  lt : ∀ q, G q → q < w.heap.size
  on : ∀ R w', Only R w w' → (∀ q, G q → ¬ R q) → p w'
structure Thing where
  G : Nat → Prop
  p : World → Prop
section
variable {w0 w w' : World} {G R : Nat → Prop} {p p' : World → Prop}
theorem Sup.only (h : Sup w G p) (ho : Only R w w') (hd : ∀ q, G q → ¬ R q) : Sup w' G p :=
  ⟨h.on R w' ho hd, fun q hq => Nat.lt_of_lt_of_le (h.lt q hq) ho.size, fun R2 w2 ho2 hd2 => h.on (fun q => R q ∨ R2 q) w2 ((ho.mono fun _ _ e => .inl e).trans (ho2.mono fun _ _ e => .inr e)) (fun q hq e => e.elim (hd q hq) (hd2 q hq))⟩
theorem Sup.below (h : Sup w G p) (hb : Below w.heap.size w w') : Sup w' G p := h.only (R := fun _ => False) (Only.of_below hb) (fun _ _ e => e)
theorem Sup.imp (h : Sup w G p) (hp : ∀ u, p u → p' u) : Sup w G p' := ⟨hp _ h.now, h.lt, fun R w' ho hd => hp _ (h.on R w' ho hd)⟩
/-- The blocks in which the slices among the cells of a struct lie. -/
def blks (cs : Array Value) (q : Nat) : Prop := ∃ A n c a, Value.slice A n c ∈ cs.toList ∧ 0 < n ∧ A = some a ∧ a.block = q
theorem Far.blks (cs : Array Value) : Far (blks cs) cs := fun A n c hm hn a e => ⟨A, n, c, a, hm, hn, e, rfl⟩
theorem Far.sub {F : Nat → Prop} {cs : Array Value} (h : Far F cs) (q : Nat) (hq : Proofs.YtibaibdgpnkdnaaGreatDoor.blks cs q) : F q := by
  obtain ⟨A, n, c, a, hm, hn, e, rfl⟩ := hq
  exact h A n c hm hn a e

theorem ownAt_some {A : Option Addr} {a : Addr} {c : Nat} (hc : 0 < c) (e : A = some a) : ownAt A c = some a.block := by
  unfold ownAt
  rw [if_neg (by omega), e]
  rfl
structure Scn (w0 w : World) (L : List Ent) (O : List Osl) (Fs Vs : List Thing) : Prop where
  cal : Cal w0 w L O (Fs.map (·.G))
  fs : ∀ x ∈ Fs, Sup w x.G x.p
  vs : ∀ x ∈ Vs, Sup w x.G x.p ∧ (∀ y ∈ Fs, ∀ q, y.G q → ¬ x.G q) ∧ ∀ e ∈ L, ¬ x.G e.g
variable {L L2 : List Ent} {O O2 : List Osl} {Fs Fs2 Vs Vs2 : List Thing}
theorem Scn.start (w0 : World) : Scn w0 w0 [] [] [] [] := ⟨Cal.start w0, fun x h => (by cases h), fun x h => (by cases h)⟩
theorem Scn.low (h : Scn w0 w L O Fs Vs) : Below w0.heap.size w0 w := h.cal.low
theorem Scn.size (h : Scn w0 w L O Fs Vs) : w0.heap.size ≤ w.heap.size := h.cal.size
theorem Scn.rebase (h : Scn w0 w L O Fs Vs) : Mem (fun q => ∃ e ∈ L, q = e.g) w w L [] := h.cal.rebase
theorem Scn.obj (h : Scn w0 w L O Fs Vs) (k : Nat) {x : Thing} (hk : Fs[k]? = some x) : x.p w := (h.fs x (List.mem_of_getElem? hk)).now
theorem Scn.val (h : Scn w0 w L O Fs Vs) (k : Nat) {x : Thing} (hk : Vs[k]? = some x) : x.p w := (h.vs x (List.mem_of_getElem? hk)).1.now
theorem Scn.lo (h : Scn w0 w L O Fs Vs) (k : Nat) {x : Thing} (hk : Fs[k]? = some x) (q : Nat) (hq : x.G q) : w0.heap.size ≤ q := h.cal.lo _ (List.mem_map.2 ⟨x, List.mem_of_getElem? hk, rfl⟩) q hq
theorem Scn.lt (h : Scn w0 w L O Fs Vs) (k : Nat) {x : Thing} (hk : Fs[k]? = some x) (q : Nat) (hq : x.G q) : q < w.heap.size := h.cal.lt _ (List.mem_map.2 ⟨x, List.mem_of_getElem? hk, rfl⟩) q hq
theorem Scn.ent (h : Scn w0 w L O Fs Vs) (k : Nat) {e : Ent} (hk : L[k]? = some e) : Blk w e.g e.t e.cs := h.cal.mem.at_ k hk
theorem Scn.byt {A : Option Addr} {n c : Nat} {t : TypeId} {bs : List UInt8} (h : Scn w0 w L O Fs Vs) (k : Nat) (hk : O[k]? = some ⟨t, 1, A, n, c, bcells bs⟩) : Byt w w.heap.size A n c bs := h.cal.byt k hk
/-- What lay there at first lies there still. -/
theorem Scn.old (h : Scn w0 w L O Fs Vs) {A : Option Addr} {n c : Nat} {bs : List UInt8} (hb : Byt w0 w0.heap.size A n c bs) : Byt w w.heap.size A n c bs := (hb.below h.low).more h.size
/-- .. apart from an object. -/
theorem Scn.oldO (h : Scn w0 w L O Fs Vs) (k : Nat) {x : Thing} (hk : Fs[k]? = some x) {A : Option Addr} {n c : Nat} {bs : List UInt8} (hb : Byt w0 w0.heap.size A n c bs) : Byt w w.heap.size A n c bs ∧ ∀ a, A = some a → 0 < n → ¬ x.G a.block :=
  ⟨h.old hb, fun a e hn hq => by
    obtain ⟨b, o, e2, hlt⟩ := hb.at_ hn
    rw [e] at e2; injection e2 with e2; subst e2
    have := h.lo k hk _ hq
    have this : w0.heap.size ≤ b := this
    omega⟩
/-- A slice of the caller's own, apart from an object. -/
theorem Scn.bytO (h : Scn w0 w L O Fs Vs) (i k : Nat) {x : Thing} (hk : Fs[k]? = some x) {A : Option Addr} {n c : Nat} {t : TypeId} {bs : List UInt8} (hi : O[i]? = some ⟨t, 1, A, n, c, bcells bs⟩) : Byt w w.heap.size A n c bs ∧ ∀ a, A = some a → 0 < n → ¬ x.G a.block :=
  ⟨h.byt i hi, fun a e hn hq => by
    have hl := (h.byt i hi).2.1
    exact h.cal.ds _ (List.mem_map.2 ⟨x, List.mem_of_getElem? hk, rfl⟩) _ (List.mem_of_getElem? hi) a.block (ownAt_some (Nat.lt_of_lt_of_le hn hl) e) hq⟩
/-- Behind steps of the caller's own. -/
theorem Scn.resync (h : Scn w0 w L O Fs Vs) (hm : Mem (fun q => ∃ e ∈ L, q = e.g) w w' L2 O2) : Scn w0 w' L2 (O ++ O2) Fs Vs :=
  { cal := h.cal.resync hm
    fs := fun x hx => (h.fs x hx).only hm.only (fun q hq ⟨e, he, e2⟩ => h.cal.dl _ (List.mem_map.2 ⟨x, hx, rfl⟩) e he (e2 ▸ hq))
    vs := fun x hx => by
      obtain ⟨h1, h2, h3⟩ := h.vs x hx
      refine ⟨h1.only hm.only (fun q hq ⟨e, he, e2⟩ => h3 e he (e2 ▸ hq)), h2, fun e he hq => ?_⟩
      rcases hm.own e he with ⟨e2, he2, e3⟩ | h4
      · exact h3 e2 he2 (e3 ▸ hq)
      · have := h1.lt _ hq; omega }
theorem Scn.below (h : Scn w0 w L O Fs Vs) (hb : Below w.heap.size w w') : Scn w0 w' L O Fs Vs :=
  ⟨h.cal.below hb, fun x hx => (h.fs x hx).below hb, fun x hx => ⟨(h.vs x hx).1.below hb, (h.vs x hx).2⟩⟩
/-- A slice that a call has made. -/
theorem Scn.got {t : TypeId} {k : Nat} {A : Option Addr} {n c : Nat} {cs : List Value} (h : Scn w0 w L O Fs Vs) (hb : Below w.heap.size w w') (hx : Own w' w.heap.size t k A n c cs) : Scn w0 w' L (O ++ [⟨t, k, A, n, c, cs⟩]) Fs Vs :=
  ⟨h.cal.got hb hx, (h.below hb).fs, (h.below hb).vs⟩
/-- A new object. -/
theorem Scn.born (h : Scn w0 w L O Fs Vs) (hb : Below w.heap.size w w') (hs : Sup w' G p) (hF : ∀ q, G q → w.heap.size ≤ q) : Scn w0 w' L O (Fs ++ [⟨G, p⟩]) Vs := by
  have h2 := h.below hb
  refine ⟨?_, fun x hx => ?_, fun x hx => ?_⟩
  · rw [List.map_append]
    exact h.cal.born hb hF hs.lt
  · rcases List.mem_append.1 hx with hx | hx
    · exact h2.fs x hx
    · obtain rfl := List.mem_singleton.1 hx; exact hs
  · obtain ⟨h3, h4, h5⟩ := h2.vs x hx
    refine ⟨h3, fun y hy q hq hq2 => ?_, h5⟩
    rcases List.mem_append.1 hy with hy | hy
    · exact h4 y hy q hq hq2
    · obtain rfl := List.mem_singleton.1 hy
      have := hF q hq; have := (h.vs x hx).1.lt q hq2; omega
theorem Scn.turn_aux (h : Scn w0 w L O Fs Vs) (i : Nat) (hi : Fs[i]? = some ⟨G, p⟩) {G' : Nat → Prop} (ho : Only G w w') (hF : ∀ q, G' q → G q ∨ w.heap.size ≤ q) (hs : Sup w' G' p') :
    (∀ x ∈ Fs.set i ⟨G', p'⟩, Sup w' x.G x.p) ∧ ∀ x ∈ Vs, Sup w' x.G x.p ∧ (∀ y ∈ Fs.set i ⟨G', p'⟩, ∀ q, y.G q → ¬ x.G q) ∧ ∀ e ∈ L, ¬ x.G e.g := by
  have hmem := List.mem_of_getElem? hi
  have hil := (List.getElem?_eq_some_iff.1 hi).1
  refine ⟨fun x hx => ?_, fun x hx => ?_⟩
  · obtain ⟨j, hj, rfl⟩ := List.getElem_of_mem hx
    rw [List.getElem_set]
    split
    · exact hs
    · rename_i hij
      have hj2 : j < Fs.length := by simpa using hj
      refine (h.fs _ (List.getElem_mem hj2)).only ho (fun q hq hq2 => ?_)
      exact h.cal.other j i (fun e => hij e.symm) (by rw [List.getElem?_map, List.getElem?_eq_getElem hj2]; rfl) (by rw [List.getElem?_map, hi]; rfl) q hq hq2
  · obtain ⟨h3, h4, h5⟩ := h.vs x hx
    refine ⟨h3.only ho (fun q hq hq2 => h4 _ hmem q hq2 hq), fun y hy q hq hq2 => ?_, h5⟩
    rcases List.mem_or_eq_of_mem_set hy with hy | rfl
    · exact h4 y hy q hq hq2
    · rcases hF q hq with h6 | h6
      · exact h4 _ hmem q h6 hq2
      · have := h3.lt q hq2; omega
/-- A call of an object. -/
theorem Scn.turn (h : Scn w0 w L O Fs Vs) (i : Nat) (hi : Fs[i]? = some ⟨G, p⟩) {G' : Nat → Prop} (ho : Only G w w') (hF : ∀ q, G' q → G q ∨ w.heap.size ≤ q) (hs : Sup w' G' p') : Scn w0 w' L O (Fs.set i ⟨G', p'⟩) Vs := by
  obtain ⟨h1, h2⟩ := h.turn_aux i hi ho hF hs
  refine ⟨?_, h1, h2⟩
  rw [List.map_set]
  exact h.cal.turn i (by rw [List.getElem?_map, hi]; rfl) ho hF hs.lt
/-- .. that hands back a slice of the caller's own. -/
theorem Scn.turned {t : TypeId} {k : Nat} {A : Option Addr} {n c : Nat} {cs : List Value} (h : Scn w0 w L O Fs Vs) (i : Nat) (hi : Fs[i]? = some ⟨G, p⟩) {G' : Nat → Prop} (ho : Only G w w') (hF : ∀ q, G' q → G q ∨ w.heap.size ≤ q) (hs : Sup w' G' p')
    (hx : Own w' w.heap.size t k A n c cs) (hd : ∀ q, G' q → ownAt A c ≠ some q) : Scn w0 w' L (O ++ [⟨t, k, A, n, c, cs⟩]) (Fs.set i ⟨G', p'⟩) Vs := by
  obtain ⟨h1, h2⟩ := h.turn_aux i hi ho hF hs
  refine ⟨?_, h1, h2⟩
  rw [List.map_set]
  exact h.cal.turned i (by rw [List.getElem?_map, hi]; rfl) ho hF hs.lt hx hd
/-- A new value: its blocks are an elder value's, or new. -/
theorem Scn.next {cs0 cs : Array Value} {p0 : World → Prop} (h : Scn w0 w L O Fs Vs) (k : Nat) (hk : Vs[k]? = some ⟨blks cs0, p0⟩) (hb : Below w.heap.size w w') (hf : ∀ F, Far F cs0 → Far (fun q => F q ∨ w.heap.size ≤ q) cs) (hs : Sup w' (blks cs) p') : Scn w0 w' L O Fs (Vs ++ [⟨blks cs, p'⟩]) := by
  have h2 := h.below hb
  refine ⟨h2.cal, h2.fs, fun x hx => ?_⟩
  rcases List.mem_append.1 hx with hx | hx
  · exact h2.vs x hx
  · obtain rfl := List.mem_singleton.1 hx
    have hq : ∀ q, blks cs q → blks cs0 q ∨ w.heap.size ≤ q := fun q hq => (hf _ (Far.blks cs0)).sub q hq
    obtain ⟨h3, h4, h5⟩ := h.vs _ (List.mem_of_getElem? hk)
    refine ⟨hs, fun y hy q hy2 hq2 => ?_, fun e he hq2 => ?_⟩
    · rcases hq q hq2 with h6 | h6
      · exact h4 y hy q hy2 h6
      · have := (h.fs y hy).lt q hy2; omega
    · rcases hq _ hq2 with h6 | h6
      · exact h5 e he h6
      · have := h.cal.mem.lt he; omega
/-- .. beside a slice. -/
theorem Scn.nextO {t : TypeId} {s : Nat} {A : Option Addr} {n c : Nat} {vs : List Value} {cs0 cs : Array Value} {p0 : World → Prop} (h : Scn w0 w L O Fs Vs) (k : Nat) (hk : Vs[k]? = some ⟨blks cs0, p0⟩) (hb : Below w.heap.size w w') (hf : ∀ F, Far F cs0 → Far (fun q => F q ∨ w.heap.size ≤ q) cs) (hs : Sup w' (blks cs) p') (hx : Own w' w.heap.size t s A n c vs) : Scn w0 w' L (O ++ [⟨t, s, A, n, c, vs⟩]) Fs (Vs ++ [⟨blks cs, p'⟩]) :=
  ⟨h.cal.got hb hx, (h.next k hk hb hf hs).fs, (h.next k hk hb hf hs).vs⟩
/-- A value that a call has made out of nothing, or that lay there at first. -/
theorem Scn.fresh (h : Scn w0 w L O Fs Vs) (hb : Below w.heap.size w w') (hs : Sup w' G p) (hf : ∀ q, G q → w.heap.size ≤ q ∨ q < w0.heap.size) : Scn w0 w' L O Fs (Vs ++ [⟨G, p⟩]) := by
  have h2 := h.below hb
  refine ⟨h2.cal, h2.fs, fun x hx => ?_⟩
  rcases List.mem_append.1 hx with hx | hx
  · exact h2.vs x hx
  · obtain rfl := List.mem_singleton.1 hx
    refine ⟨hs, fun y hy q hy2 hq2 => ?_, fun e he hq2 => ?_⟩
    · rcases hf q hq2 with h6 | h6
      · have := (h.fs y hy).lt q hy2; omega
      · have := h.cal.lo _ (List.mem_map.2 ⟨y, hy, rfl⟩) q hy2; omega
    · rcases hf _ hq2 with h6 | h6
      · have := h.cal.mem.lt he; omega
      · rcases h.cal.mem.own e he with h7 | h7
        · exact h7
        · omega
/-- Fewer variables, fewer slices, fewer values. -/
theorem Scn.part (h : Scn w0 w L O Fs Vs) (hL : L2.Sublist L) (hO : O2.Sublist O) (hV : Vs2.Sublist Vs) : Scn w0 w L2 O2 Fs Vs2 :=
  ⟨h.cal.part hL hO, h.fs, fun x hx => by
    obtain ⟨h1, h2, h3⟩ := h.vs x (hV.subset hx)
    exact ⟨h1, h2, fun e he => h3 e (hL.subset he)⟩⟩
theorem Scn.keep (h : Scn w0 w L O Fs Vs) (i j k : Nat) : Scn w0 w (L.take i) (O.take j) Fs (Vs.drop k) := h.part (List.take_sublist _ _) (List.take_sublist _ _) (List.drop_sublist _ _)
end
section
variable {w0 w : World} {L : List Ent} {O : List Osl} {Fs Vs : List Thing}
/-- One variable, no slice, one value. -/
theorem Scn.lone (h : Scn w0 w L O Fs Vs) {e : Ent} {x : Thing} (i k : Nat) (hi : L[i]? = some e) (hk : Vs[k]? = some x) : Scn w0 w [e] [] Fs [x] :=
  h.part (List.singleton_sublist.2 (List.mem_of_getElem? hi)) (List.nil_sublist _) (List.singleton_sublist.2 (List.mem_of_getElem? hk))
end
end Go.Proofs.YtibaibdgpnkdnaaGreatDoor
end

section
namespace Go.Proofs.YtibaibdgpnkdnaaGreatDoor
set_option maxRecDepth 100000
set_option linter.unusedSimpArgs false
set_option linter.unusedVariables false
open Go.RowKit

/-- A range of cells. -/
structure Rng where
  b : Nat
  o : Nat
  cs : List Value
def Rngs (C : List Rng) (u : World) : Prop := ∀ r ∈ C, u.rangeAt r.b r.o r.cs
theorem Rngs.below {C : List Rng} {w w' : World} (h : Rngs C w) (hb : Below w.heap.size w w') : Rngs C w' := fun r hr j v hj => by
  have h1 := h r hr j v hj
  exact (World.cell?_of_block (hb.block r.b (World.block_lt_of_cell? w _ h1))).trans h1
theorem Rngs.nil (w : World) : Rngs [] w := fun r hr => by cases hr
structure KnS (L : List Ent) (C : List Rng) (u : World) : Prop where
  blk : ∀ e ∈ L, Blk u e.g e.t e.cs
  rng : Rngs C u
theorem KnS.of {R : Nat → Prop} {s w : World} {L : List Ent} {O : List Osl} {C : List Rng} (h : Mem R s w L O) (hc : Rngs C w) : KnS L C w := ⟨h.blk, hc⟩
theorem KnS.two {R : Nat → Prop} {s w : World} {L L2 : List Ent} {O : List Osl} {C : List Rng} (h : Mem R s w (L ++ L2) O) (hc : Rngs C w) : KnS L C w := ⟨fun e he => h.blk e (List.mem_append_left _ he), hc⟩
/-- A range is among those that are known. -/
structure InR (b o : Nat) (cs : List Value) (C : List Rng) : Prop where
  at_ : (⟨b, o, cs⟩ : Rng) ∈ C
theorem InR.a {b o : Nat} {cs : List Value} {C : List Rng} : InR b o cs (⟨b, o, cs⟩ :: C) := ⟨List.mem_cons_self⟩
theorem InR.b {b o : Nat} {cs : List Value} {r : Rng} {C : List Rng} (h : InR b o cs C) : InR b o cs (r :: C) := ⟨List.mem_cons_of_mem _ h.at_⟩
section
variable {P : Program} {ops : Array Oper} {rest : List Oper} {o : Oper} {a : Act} {w s : World} {Q : Exit → Act → World → Prop} {L : List Ent} {C : List Rng} {b q : Nat}
theorem KnS.ld (h : KnS L C w) (ty : TypeId) (x : Operand) (ho : o.op = .load ty x) (g i : Nat) (hx : a.eval x = .pointer (some ⟨g, i, none⟩)) (t : TypeId) (cs : Array Value) (hk : In g t cs L) (hT : oneT P ty = true) (v : Value) (hv : cs[i]? = some v) :
    (execOp a.eval o).run P w = .ok (.value v) w := by
  obtain ⟨k, hk⟩ := hk
  exact exec_ld (h.blk _ (List.mem_of_getElem? hk)) ty x ho hx hT v hv
theorem KnS.la (h : KnS L C w) (ty : TypeId) (x : Operand) (ho : o.op = .load ty x) (g i : Nat) (hx : a.eval x = .pointer (some ⟨g, i, none⟩)) (t : TypeId) (cs : Array Value) (hk : In g t cs L) (hT : aggT P ty = true) (z : Array Value) (hz : (P.info? ty).bind (·.zero) = some (.agg z)) (hn : (P.info? ty).map (·.size) = some z.size) (hin : i + z.size ≤ cs.size) (v : Value) (hv : Value.agg ((cs.toList.drop i).take z.size).toArray = v) :
    (execOp a.eval o).run P w = .ok (.value v) w := by
  obtain ⟨k, hk⟩ := hk
  exact exec_la (h.blk _ (List.mem_of_getElem? hk)) ty x ho hx z hz hT hn hin v hv
theorem KnS.lc (h : KnS L C w) (ty : TypeId) (x : Operand) (ho : o.op = .load ty x) (hx : a.eval x = .pointer (some ⟨b, q, none⟩)) (v0 : Value) (hk : InR b q [v0] C) (hT : oneT P ty = true) (v : Value) (he : v0 = v) :
    (execOp a.eval o).run P w = .ok (.value v) w := by
  subst he
  have hv : w.cell? ⟨b, q, none⟩ = some v0 := h.rng _ hk.at_ 0 v0 rfl
  unfold execOp
  simp only [ho, hx, Sem.run_bind, run_load_cell hT hv, Sem.run_pure, Result.andThen_ok]
theorem run_loadR {ty : TypeId} {cs : List Value} (hr : w.rangeAt b q cs) (hT : aggT P ty = true) (hn : (P.info? ty).map (·.size) = some cs.length) : (Instr.loadAt ty (.pointer (some ⟨b, q, none⟩))).run P w = .ok (.agg cs.toArray) w := by
  unfold aggT at hT
  cases hu : P.underlying ty with
  | none => rw [hu] at hT; cases hT
  | some d => exact run_loadAt_mid w b q ty cs d hr hu (by rw [hu] at hT; cases d <;> simp_all) hn
theorem KnS.lr (h : KnS L C w) (ty : TypeId) (x : Operand) (ho : o.op = .load ty x) (hx : a.eval x = .pointer (some ⟨b, q, none⟩)) (cs : List Value) (hk : InR b q cs C) (hT : aggT P ty = true) (hn : (P.info? ty).map (·.size) = some cs.length) (v : Value) (hv : Value.agg cs.toArray = v) :
    (execOp a.eval o).run P w = .ok (.value v) w := by
  subst hv
  unfold execOp
  simp only [ho, hx, Sem.run_bind, run_loadR (h.rng _ hk.at_) hT hn, Sem.run_pure, Result.andThen_ok]
/-- A load of a cell that lay there at first. -/
theorem wpList_lcR (hr : Rngs C w) (hw : Region.wanted o (yielded ops a.tmps) = true) (ty : TypeId) (x : Operand) (ho : o.op = .load ty x) (b q : Nat) (hx : a.eval x = .pointer (some ⟨b, q, none⟩)) (v : Value) (hk : InR b q [v] C) (hT : oneT P ty = true)
    (h : wpList P ops Q rest (a.put o.dst v) w) : wpList P ops Q (o :: rest) a w :=
  wpList_lc hw ty x ho _ hx hT v (hr _ hk.at_ 0 v rfl) h
/-- .. of a struct. -/
theorem wpList_lrR (hr : Rngs C w) (hw : Region.wanted o (yielded ops a.tmps) = true) (ty : TypeId) (x : Operand) (ho : o.op = .load ty x) (b q : Nat) (hx : a.eval x = .pointer (some ⟨b, q, none⟩)) (cs : List Value) (hk : InR b q cs C) (hT : aggT P ty = true) (hn : (P.info? ty).map (·.size) = some cs.length)
    (h : wpList P ops Q rest (a.put o.dst (.agg cs.toArray)) w) : wpList P ops Q (o :: rest) a w := by
  refine wpList_go hw ?_
  unfold Oper.wp execOp
  simp only [ho, hx, Sem.run_bind, run_loadR (hr _ hk.at_) hT hn, Sem.run_pure, Result.andThen_ok]
  exact h
end
end Go.Proofs.YtibaibdgpnkdnaaGreatDoor
end

section
namespace Go.Proofs.YtibaibdgpnkdnaaGreatDoor
set_option maxRecDepth 100000
set_option linter.unusedSimpArgs false
set_option linter.unusedVariables false
open Go.RowKit
section
variable {P : Program} {ops : Array Oper} {rest : List Oper} {o : Oper} {a : Act} {w s : World} {Q : Exit → Act → World → Prop} {L : List Ent} {C : List Rng} {b q : Nat}
theorem KnS.lcT (h : KnS L C w) (ty : TypeId) (x : Operand) (ho : o.op = .load ty x) (hx : a.eval x = .pointer (some ⟨b, q, none⟩)) (hT : oneT P ty = true) (v0 : Value) (hk : InR b q [v0] C) (v : Value) (he : v0 = v) :
    (execOp a.eval o).run P w = .ok (.value v) w := KnS.lc h ty x ho hx v0 hk hT v he
theorem wpList_lcRT (hr : Rngs C w) (hw : Region.wanted o (yielded ops a.tmps) = true) (ty : TypeId) (x : Operand) (ho : o.op = .load ty x) (hT : oneT P ty = true) (b q : Nat) (hx : a.eval x = .pointer (some ⟨b, q, none⟩)) (v : Value) (hk : InR b q [v] C)
    (h : wpList P ops Q rest (a.put o.dst v) w) : wpList P ops Q (o :: rest) a w := wpList_lcR hr hw ty x ho b q hx v hk hT h
end
end Go.Proofs.YtibaibdgpnkdnaaGreatDoor
end

section
namespace Go.Proofs.YtibaibdgpnkdnaaGreatDoor
set_option maxRecDepth 100000
set_option linter.unusedSimpArgs false
set_option linter.unusedVariables false
open Go.RowKit
section
variable {P : Program} {ops : Array Oper} {rest : List Oper} {o : Oper} {a : Act} {w s : World} {Q : Exit → Act → World → Prop} {R : Nat → Prop} {L : List Ent} {O : List Osl} {C : List Rng} {K : Act → World → Prop} {E : Prop}
theorem ldA {ty : TypeId} {x : Operand} {g i : Nat} {t : TypeId} {cs : Array Value} {v : Value} (hm : Mem R s w L O) (h : wpList P ops Q rest (a.put o.dst v) w)
    (hw : Region.wanted o (yielded ops a.tmps) = true := by rfl) (ho : o.op = .load ty x := by exact rfl) (hx : a.eval x = .pointer (some ⟨g, i, none⟩) := by exact rfl)
    (hk : In g t cs L := by repeat (first | apply In.a | apply In.b)) (hT : oneT P ty = true := by decide +kernel) (hv : cs[i]? = some v := by simp only [sxN]; first | done | exact rfl) : wpList P ops Q (o :: rest) a w :=
  wpList_ldS hw ty x ho g i hx hm t cs hk hT v hv h
theorem laA {ty : TypeId} {x : Operand} {g i : Nat} {t : TypeId} {cs z vs : Array Value} (hm : Mem R s w L O) (h : wpList P ops Q rest (a.put o.dst (.agg vs)) w)
    (hw : Region.wanted o (yielded ops a.tmps) = true := by rfl) (ho : o.op = .load ty x := by exact rfl) (hx : a.eval x = .pointer (some ⟨g, i, none⟩) := by exact rfl)
    (hk : In g t cs L := by repeat (first | apply In.a | apply In.b)) (hT : aggT P ty = true := by kernel_rfl) (hz : (P.info? ty).bind (·.zero) = some (.agg z) := by rfl) (hn : (P.info? ty).map (·.size) = some z.size := by kernel_rfl) (hin : i + z.size ≤ cs.size := by simp)
    (hv : ((cs.toList.drop i).take z.size).toArray = vs := by simp only [sxT, Nat.reduceAdd]; first | done | exact rfl) : wpList P ops Q (o :: rest) a w :=
  wpList_laS hw ty x ho g i hx hm t cs hk hT z hz hn hin vs hv h
theorem stA {ty : TypeId} {x y : Operand} {g i : Nat} {v : Value} {vs : Array Value} {t : TypeId} {cs cs' : Array Value} {L' : List Ent} (hm : Mem R s w L O)
    (h : ∀ w1, w.heap.size ≤ w1.heap.size → Mem R s w1 L' O → Only (fun q => q = g) w w1 → wpList P ops Q rest (a.put o.dst undef) w1)
    (hw : Region.wanted o (yielded ops a.tmps) = true := by rfl) (ho : o.op = .store ty x y := by exact rfl) (hx : a.eval x = .pointer (some ⟨g, i, none⟩) := by exact rfl)
    (hy : a.eval y = v := by simp only [Act.eval, sxE, sxN]; first | done | exact rfl) (hc : v.cells = vs := by simp only [Value.cells]; first | done | exact rfl)
    (hL : Put g t cs cs' L L' := by repeat (first | apply Put.a | apply Put.b)) (hi : (P.info? ty).map (·.size) = some vs.size := by kernel_rfl) (h1 : vs.all (·.oneCell') = true := by simp [Value.oneCell']) (hin : i + vs.size ≤ cs.size := by simp)
    (hcs : spl cs i vs = cs' := by simp only [spl, sxP, sxT, Nat.reduceAdd]; first | done | exact rfl) : wpList P ops Q (o :: rest) a w :=
  wpList_stS hw ty x y ho g i hx v hy hm vs hc t cs cs' L' hL hi h1 hin hcs h
theorem alA {ty : TypeId} {z : Value} {cs : Array Value} (hm : Mem R s w L O) (h : ∀ n w1, w.heap.size ≤ n → w.heap.size ≤ w1.heap.size → Mem R s w1 (L ++ [⟨n, ty, cs⟩]) O → Below w.heap.size w w1 → wpList P ops Q rest (a.put o.dst (.pointer (some ⟨n, 0, none⟩))) w1)
    (hw : Region.wanted o (yielded ops a.tmps) = true := by rfl) (ho : o.op = .alloc ty := by exact rfl) (hz : (P.info? ty).bind (·.zero) = some z := by exact rfl) (hc : z.cells = cs := by simp only [Value.cells]; first | done | exact rfl) : wpList P ops Q (o :: rest) a w :=
  wpList_al hw ty ho z hz cs hc hm h
theorem bxA {ty : TypeId} {x : Operand} {v : Value} {cs : Array Value} (hm : Mem R s w L O) (h : ∀ n w1, w.heap.size ≤ n → w.heap.size ≤ w1.heap.size → Mem R s w1 (L ++ [⟨n, ty, cs⟩]) O → Below w.heap.size w w1 → wpList P ops Q rest (a.put o.dst (.pointer (some ⟨n, 0, none⟩))) w1)
    (hw : Region.wanted o (yielded ops a.tmps) = true := by rfl) (ho : o.op = .box ty x := by exact rfl) (hx : a.eval x = v := by simp only [Act.eval, sxE, sxN]; first | done | exact rfl) (hc : v.cells = cs := by simp only [Value.cells]; first | done | exact rfl) : wpList P ops Q (o :: rest) a w :=
  wpList_bx hw ty x ho v hx cs hc hm h
theorem stB {ty : TypeId} {x y : Operand} {g i : Nat} {v : Value} {vs : Array Value} {t : TypeId} {cs cs' : Array Value} {L' : List Ent} (hm : Mem R s w L O)
    (h : ∀ w1, w.heap.size ≤ w1.heap.size → Mem R s w1 L' O → Only (fun q => q = g) w w1 → K (a.put o.dst undef) w1)
    (hw : Region.wanted o (yielded ops a.tmps) = true := by rfl) (ho : o.op = .store ty x y := by exact rfl) (hx : a.eval x = .pointer (some ⟨g, i, none⟩) := by exact rfl)
    (hy : a.eval y = v := by simp only [Act.eval, sxE, sxN]; first | done | exact rfl) (hc : v.cells = vs := by simp only [Value.cells]; first | done | exact rfl)
    (hL : Put g t cs cs' L L' := by repeat (first | apply Put.a | apply Put.b)) (hi : (P.info? ty).map (·.size) = some vs.size := by kernel_rfl) (h1 : vs.all (·.oneCell') = true := by simp [Value.oneCell']) (hin : i + vs.size ≤ cs.size := by simp)
    (hcs : spl cs i vs = cs' := by simp only [spl, sxP, sxT, Nat.reduceAdd]; first | done | exact rfl) : if Region.wanted o (yielded ops a.tmps) = true then Oper.wp P o a w K Q else E :=
  step_stS hw ty x y ho g i hx v hy hm vs hc t cs cs' L' hL hi h1 hin hcs h
/-- Loads out of ranges. -/
theorem lcA {ty : TypeId} {x : Operand} {b q : Nat} {v : Value} (hr : Rngs C w) (h : wpList P ops Q rest (a.put o.dst v) w)
    (hw : Region.wanted o (yielded ops a.tmps) = true := by rfl) (ho : o.op = .load ty x := by exact rfl) (hT : oneT P ty = true := by decide +kernel) (hx : a.eval x = .pointer (some ⟨b, q, none⟩) := by exact rfl)
    (hk : InR b q [v] C := by repeat (first | apply InR.a | apply InR.b)) : wpList P ops Q (o :: rest) a w := wpList_lcR hr hw ty x ho b q hx v hk hT h
theorem lrA {ty : TypeId} {x : Operand} {b q : Nat} {cs : List Value} (hr : Rngs C w) (h : wpList P ops Q rest (a.put o.dst (.agg cs.toArray)) w)
    (hw : Region.wanted o (yielded ops a.tmps) = true := by rfl) (ho : o.op = .load ty x := by exact rfl) (hx : a.eval x = .pointer (some ⟨b, q, none⟩) := by exact rfl)
    (hk : InR b q cs C := by repeat (first | apply InR.a | apply InR.b)) (hT : aggT P ty = true := by kernel_rfl) (hn : (P.info? ty).map (·.size) = some cs.length := by kernel_rfl) : wpList P ops Q (o :: rest) a w := wpList_lrR hr hw ty x ho b q hx cs hk hT hn h
/-- Loads in a region that draws its order. -/
theorem MemS.ldA {ty : TypeId} {x : Operand} {g i : Nat} {t : TypeId} {cs : Array Value} {v : Value} (h : MemS R s L O w) (ho : o.op = .load ty x := by exact rfl) (hx : a.eval x = .pointer (some ⟨g, i, none⟩) := by exact rfl)
    (hk : In g t cs L := by repeat (first | apply In.a | apply In.b)) (hT : oneT P ty = true := by decide +kernel) (hv : cs[i]? = some v := by simp only [sxN]; first | done | exact rfl) : (execOp a.eval o).run P w = .ok (.value v) w := h.ldS ty x ho g i hx t cs hk hT v hv
theorem MemS.laA {ty : TypeId} {x : Operand} {g i : Nat} {t : TypeId} {cs z : Array Value} {v : Value} (h : MemS R s L O w) (ho : o.op = .load ty x := by exact rfl) (hx : a.eval x = .pointer (some ⟨g, i, none⟩) := by exact rfl)
    (hk : In g t cs L := by repeat (first | apply In.a | apply In.b)) (hT : aggT P ty = true := by kernel_rfl) (hz : (P.info? ty).bind (·.zero) = some (.agg z) := by rfl) (hn : (P.info? ty).map (·.size) = some z.size := by kernel_rfl) (hin : i + z.size ≤ cs.size := by simp)
    (hv : Value.agg ((cs.toList.drop i).take z.size).toArray = v := by simp only [sxT, Nat.reduceAdd]; first | done | exact rfl) : (execOp a.eval o).run P w = .ok (.value v) w := h.laS ty x ho g i hx t cs hk hT z hz hn hin v hv
theorem KnS.ldA {ty : TypeId} {x : Operand} {g i : Nat} {t : TypeId} {cs : Array Value} {v : Value} (h : KnS L C w) (ho : o.op = .load ty x := by exact rfl) (hx : a.eval x = .pointer (some ⟨g, i, none⟩) := by exact rfl)
    (hk : In g t cs L := by repeat (first | apply In.a | apply In.b)) (hT : oneT P ty = true := by decide +kernel) (hv : cs[i]? = some v := by simp only [sxN]; first | done | exact rfl) : (execOp a.eval o).run P w = .ok (.value v) w := h.ld ty x ho g i hx t cs hk hT v hv
theorem KnS.laA {ty : TypeId} {x : Operand} {g i : Nat} {t : TypeId} {cs z : Array Value} {v : Value} (h : KnS L C w) (ho : o.op = .load ty x := by exact rfl) (hx : a.eval x = .pointer (some ⟨g, i, none⟩) := by exact rfl)
    (hk : In g t cs L := by repeat (first | apply In.a | apply In.b)) (hT : aggT P ty = true := by kernel_rfl) (hz : (P.info? ty).bind (·.zero) = some (.agg z) := by rfl) (hn : (P.info? ty).map (·.size) = some z.size := by kernel_rfl) (hin : i + z.size ≤ cs.size := by simp)
    (hv : Value.agg ((cs.toList.drop i).take z.size).toArray = v := by simp only [sxT, Nat.reduceAdd]; first | done | exact rfl) : (execOp a.eval o).run P w = .ok (.value v) w := h.la ty x ho g i hx t cs hk hT z hz hn hin v hv
theorem KnS.lcA {ty : TypeId} {x : Operand} {b q : Nat} {v0 v : Value} (h : KnS L C w) (ho : o.op = .load ty x := by exact rfl) (hx : a.eval x = .pointer (some ⟨b, q, none⟩) := by exact rfl) (hT : oneT P ty = true := by decide +kernel)
    (hk : InR b q [v0] C := by repeat (first | apply InR.a | apply InR.b)) (he : v0 = v := by first | done | exact rfl) : (execOp a.eval o).run P w = .ok (.value v) w := h.lc ty x ho hx v0 hk hT v he
theorem KnS.lrA {ty : TypeId} {x : Operand} {b q : Nat} {cs : List Value} {v : Value} (h : KnS L C w) (ho : o.op = .load ty x := by exact rfl) (hx : a.eval x = .pointer (some ⟨b, q, none⟩) := by exact rfl)
    (hk : InR b q cs C := by repeat (first | apply InR.a | apply InR.b)) (hT : aggT P ty = true := by kernel_rfl) (hn : (P.info? ty).map (·.size) = some cs.length := by kernel_rfl) (he : Value.agg cs.toArray = v := by first | done | exact rfl) : (execOp a.eval o).run P w = .ok (.value v) w := h.lr ty x ho hx cs hk hT hn v he
end
section
variable {P : Program} {ops : Array Oper} {Q : Exit → Act → World → Prop} {md : Region.Mode} {S : World → Prop} {late : List Nat} {a : Act} {w : World}
/-- Take an operation that is passed over, or one that has a value. -/
theorem takeN (b : Nat) {l : List Bool} {i : Nat} {oi : Oper} {fuel : Nat} (hS : S w) (h : wpAnyH P md ops Q S fuel (l.toArray.setIfInBounds i true) (a.put oi.dst undef) w)
    (hs : Seek l b i := by repeat (first | apply Seek.a | apply Seek.b | apply Seek.c)) (hi : ops[i]? = some oi := by simp only [sxN]; first | done | exact rfl)
    (h1 : Region.noSelect ops = true := by kernel_rfl) (h2 : Region.free md ops l.toArray i = true := by kernel_rfl) (h3 : (Region.ready md ops l.toArray).contains i = true := by kernel_rfl) (h4 : ∀ c a w, Q (.panic c) (a.put oi.dst undef) w → Q (.panic c) a w := by exact fun _ _ _ h => h)
    (h0 : Region.wanted oi (yielded ops a.tmps) = false := by rfl) : wpAnyH P md ops Q S (fuel + 1) l.toArray a w :=
  wpAnyH_take3 hs hi ⟨undef, h1, h2, h3, h4, Or.inr ⟨h0, rfl⟩, hS, h⟩
theorem takeY (b : Nat) {l : List Bool} {i : Nat} {oi : Oper} {fuel : Nat} (v : Value) (hS : S w) (hy : ∀ w, S w → (execOp a.eval oi).run P w = .ok (.value v) w) (h : wpAnyH P md ops Q S fuel (l.toArray.setIfInBounds i true) (a.put oi.dst v) w)
    (hs : Seek l b i := by repeat (first | apply Seek.a | apply Seek.b | apply Seek.c)) (hi : ops[i]? = some oi := by simp only [sxN]; first | done | exact rfl)
    (h1 : Region.noSelect ops = true := by kernel_rfl) (h2 : Region.free md ops l.toArray i = true := by kernel_rfl) (h3 : (Region.ready md ops l.toArray).contains i = true := by kernel_rfl) (h4 : ∀ c a w, Q (.panic c) (a.put oi.dst v) w → Q (.panic c) a w := by exact fun _ _ _ h => h)
    (h0 : Region.wanted oi (yielded ops a.tmps) = true := by rfl) : wpAnyH P md ops Q S (fuel + 1) l.toArray a w :=
  wpAnyH_take3 hs hi ⟨v, h1, h2, h3, h4, Or.inl ⟨h0, hy⟩, hS, h⟩
theorem takePN (b : Nat) {l : List Bool} {i : Nat} {oi : Oper} {n : Nat} (hS : S w) (h : wpAnyP P md ops Q late S n (l.toArray.setIfInBounds i true) (a.put oi.dst undef) w)
    (hs : Seek l b i := by repeat (first | apply Seek.a | apply Seek.b | apply Seek.c)) (hi : ops[i]? = some oi := by simp only [sxN]; first | done | exact rfl)
    (h1 : Region.noSelect ops = true := by kernel_rfl) (h2 : Region.free md ops l.toArray i = true := by kernel_rfl) (h3 : (Region.ready md ops l.toArray).contains i = true := by kernel_rfl) (h5 : waitsFor md ops late i = true := by kernel_rfl) (h6 : late.contains i = false := by kernel_rfl) (h7 : (late.all fun j => !l.toArray.getD j true) = true := by kernel_rfl)
    (h4 : ∀ c a w, Q (.panic c) (a.put oi.dst undef) w → Q (.panic c) a w := by exact fun _ _ _ h => h) (h0 : Region.wanted oi (yielded ops a.tmps) = false := by rfl) : wpAnyP P md ops Q late S (n + 1) l.toArray a w :=
  wpAnyP_take hs hi ⟨undef, h1, h2, h3, h5, h6, h7, h4, Or.inr ⟨h0, rfl⟩, hS, h⟩
theorem takePY (b : Nat) {l : List Bool} {i : Nat} {oi : Oper} {n : Nat} (v : Value) (hS : S w) (hy : ∀ w, S w → (execOp a.eval oi).run P w = .ok (.value v) w) (h : wpAnyP P md ops Q late S n (l.toArray.setIfInBounds i true) (a.put oi.dst v) w)
    (hs : Seek l b i := by repeat (first | apply Seek.a | apply Seek.b | apply Seek.c)) (hi : ops[i]? = some oi := by simp only [sxN]; first | done | exact rfl)
    (h1 : Region.noSelect ops = true := by kernel_rfl) (h2 : Region.free md ops l.toArray i = true := by kernel_rfl) (h3 : (Region.ready md ops l.toArray).contains i = true := by kernel_rfl) (h5 : waitsFor md ops late i = true := by kernel_rfl) (h6 : late.contains i = false := by kernel_rfl) (h7 : (late.all fun j => !l.toArray.getD j true) = true := by kernel_rfl)
    (h4 : ∀ c a w, Q (.panic c) (a.put oi.dst v) w → Q (.panic c) a w := by exact fun _ _ _ h => h) (h0 : Region.wanted oi (yielded ops a.tmps) = true := by rfl) : wpAnyP P md ops Q late S (n + 1) l.toArray a w :=
  wpAnyP_take hs hi ⟨v, h1, h2, h3, h5, h6, h7, h4, Or.inl ⟨h0, hy⟩, hS, h⟩
end
end Go.Proofs.YtibaibdgpnkdnaaGreatDoor
end

section
namespace Go.Proofs.YtibaibdgpnkdnaaGreatDoor
set_option maxRecDepth 100000
set_option linter.unusedSimpArgs false
set_option linter.unusedVariables false
open Go.RowKit

theorem byt_of_row {w : World} {a : Option Addr} {len cap : Nat} {zs : List Int}
    (h : (a = none ∧ len = 0 ∧ cap = 0 ∧ zs = []) ∨ ∃ x, a = some x ∧ len ≤ cap ∧ cap ≤ maxLen ∧ zs.length = cap ∧ (∀ i, i < zs.length → w.cell? (x.add i) = some (.int .u8 (zs.getD i 0))) ∧ ∀ n ∈ zs, (Lit.int .u8 n).wf = true) :
    ∃ bs, Byt w w.heap.size a len cap bs ∧ cap ≤ maxLen := by
  rcases h with ⟨rfl, rfl, rfl, rfl⟩ | ⟨x, rfl, hl, hm, hz, hc, hw⟩
  · exact ⟨[], ⟨rfl, Nat.le_refl _, Row.nil _ _ _⟩, Nat.zero_le _⟩
  · refine ⟨(zs.take len).map fun z => UInt8.ofNat z.toNat, ⟨by simp; omega, hl, fun hn => ?_⟩, hm⟩
    have hn' : 0 < len := by simp at hn; omega
    have hc0 := hc 0 (by omega)
    have hx0 : x.add 0 = x := by unfold Addr.add; simp
    rw [hx0] at hc0
    obtain ⟨b, o, s⟩ := x
    have hs : s = none := by
      cases s with
      | none => rfl
      | some q => simp only [World.cell?] at hc0; split at hc0 <;> simp at hc0
    subst hs
    refine ⟨b, o, rfl, World.block_lt_of_cell? w _ hc0, fun j hj => ?_⟩
    rw [length_bcells, List.length_map, List.length_take] at hj
    have hj' : j < zs.length := by omega
    have h1 := hc j hj'
    rw [add_eq] at h1
    rw [h1, bcells_get, List.getElem?_map, List.getElem?_take, if_pos (by omega), List.getElem?_eq_getElem hj']
    have hb := hw zs[j] (List.getElem_mem hj')
    have hbd : 0 ≤ zs[j] ∧ zs[j] ≤ 255 := by simpa [Lit.wf, IntKind.min, IntKind.max, IntKind.signed, IntKind.bits] using hb
    simp only [List.getD, List.getElem?_eq_getElem hj', Option.getD_some, Option.map_some, B8]
    congr 2
    rw [UInt8.toNat_ofNat_of_lt' (by simp only [UInt8.size]; omega)]
    omega
end Go.Proofs.YtibaibdgpnkdnaaGreatDoor
end

section
namespace Go.Proofs.YtibaibdgpnkdnaaGreatDoor
set_option maxRecDepth 100000
set_option linter.unusedSimpArgs false
set_option linter.unusedVariables false
open Go.RowKit Go.ChangeShapes Go.WideShapes Go.Deep

section
variable {H : Type} {enc : TypeId × Value → H} {P : Program} {w : World} {base : Nat} {spare : Nat → Bool} {held : Bool}
/-- Every field of every element has its cell, and is read by itself. -/
theorem fields_of_slice {t e : TypeId} {fs : Array Field} {fuel : Nat} {cs : List Value} {x : DataW H × List MemPlace} (ht : P.underlying t = some (.slice e)) (he : P.underlying e = some (.struct fs))
    (hone : oneCellFields P fs = true) (hC : P.cellsOf e = fs.size) (h : DataW.trod enc P w base spare held fuel t cs = some x) :
    cs = [.slice none 0 0] ∨ ∃ (a : Addr) (len cap : Nat), cs = [.slice (some a) len cap] ∧ len ≤ cap ∧ cap ≤ maxLen ∧
      ∀ (i j : Nat) (f : Field), i < len → fs[j]? = some f → ∃ (v : Value) (y : DataW H × List MemPlace) (n : Nat), w.cell? (a.add (i * fs.size + j)) = some v ∧ DataW.trod enc P w base spare held n f.type [v] = some y := by
  rcases open_slice ht h with h0 | ⟨a, len, cap, m, n, D, Pl, hcs, _, hl, hm, hmm, _, hi⟩
  · exact .inl h0.1
  · refine .inr ⟨a, len, cap, hcs, hl, hm, fun i j f hlt hj => ?_⟩
    obtain ⟨l, hc, hd⟩ := hi i (by rw [hmm]; split <;> omega)
    rw [hC] at hc
    obtain ⟨ys, k, _, _, _, hyl, hf⟩ := DataW.trod_struct he hd
    obtain ⟨_, hll, hat⟩ := World.cells?_some hc
    obtain ⟨ho, hk⟩ := hone_of hone j f hj
    have hjl : j < fs.size := (Array.getElem?_eq_some_iff.1 hj).1
    have h1 := hf j f hj
    have hd1 : l.drop j = l[j]'(by omega) :: l.drop (j + 1) := List.drop_eq_getElem_cons (by omega)
    rw [ho, hk, hd1, List.getElem?_eq_getElem (by omega)] at h1
    refine ⟨l[j]'(by omega), _, k, ?_, h1⟩
    rw [← add_add, hat j hjl, List.getElem?_eq_getElem (by omega)]
end

/-- An address whose cell 0 is there has no path. -/
theorem spot_none {w : World} {a : Addr} {v : Value} (h : w.cell? (a.add 0) = some v) : ∃ b o, a = ⟨b, o, none⟩ ∧ b < w.heap.size := by
  have hx0 : a.add 0 = a := by unfold Addr.add; simp
  rw [hx0] at h
  obtain ⟨b, o, s⟩ := a
  have hs : s = none := by
    cases s with
    | none => rfl
    | some q => simp only [World.cell?] at h; split at h <;> simp at h
  subst hs
  exact ⟨b, o, rfl, World.block_lt_of_cell? w _ h⟩
end Go.Proofs.YtibaibdgpnkdnaaGreatDoor
end

section
namespace Go.Proofs.YtibaibdgpnkdnaaGreatDoor
set_option maxRecDepth 100000
set_option linter.unusedSimpArgs false
set_option linter.unusedVariables false
open Go.RowKit Go.ChangeShapes Go.WideShapes Go.Deep

section
variable {H : Type} {enc : TypeId × Value → H} {P : Program} {w : World} {base : Nat} {spare : Nat → Bool} {held : Bool}
theorem agg_of_trod {t : TypeId} {fs : Array Field} {r : Reach} {b0 : Nat} {v : Value} {d : DataW H} {p : List MemPlace} (hs : P.underlying t = some (.struct fs)) (hone : oneCellFields P fs = true) (hC : P.cellsOf t = fs.size)
    (hv : Value.okWide P w r b0 t v) (h : DataW.Trod enc P w base spare held t v d p) :
    ∃ cs : Array Value, v = .agg cs ∧ cs.size = fs.size ∧ ∀ (j : Nat) (f : Field), fs[j]? = some f → ∃ (x : Value) (y : DataW H × List MemPlace) (n : Nat), cs[j]? = some x ∧ DataW.trod enc P w base spare held n f.type [x] = some y := by
  obtain ⟨cs, rfl, hsz⟩ := okWide_struct hs hv
  obtain ⟨fuel, hf⟩ := h
  refine ⟨cs, rfl, hsz.trans hC, fun j f hj => ?_⟩
  obtain ⟨ys, k, _, _, _, hyl, hg⟩ := DataW.trod_struct hs hf
  obtain ⟨ho, hk⟩ := hone_of hone j f hj
  have hjl : j < fs.size := (Array.getElem?_eq_some_iff.1 hj).1
  have h1 := hg j f hj
  have hl : (Value.agg cs).cells = cs := rfl
  rw [hl] at h1
  have hjc : j < cs.toList.length := by rw [Array.length_toList, hsz, hC]; exact hjl
  rw [ho, hk, List.drop_eq_getElem_cons hjc, List.getElem?_eq_getElem (by omega)] at h1
  exact ⟨cs.toList[j], _, k, by rw [← Array.getElem?_toList, List.getElem?_eq_getElem hjc], h1⟩

/-- A field that is an int. -/
theorem fint_of_trod {t : TypeId} {n : Nat} {v : Value} {y : DataW H × List MemPlace} (ht : P.underlying t = some (.int .i64)) (h : DataW.trod enc P w base spare held n t [v] = some y) : ∃ z, v = .int .i64 z ∧ -9223372036854775808 ≤ z ∧ z ≤ 9223372036854775807 := by
  obtain ⟨z, e, _, hw⟩ := DataW.trod_int ht h
  exact ⟨z, by simpa using e, by simpa [Lit.wf, IntKind.min, IntKind.max, IntKind.signed, IntKind.bits] using hw⟩
theorem fbool_of_trod {t : TypeId} {n : Nat} {v : Value} {y : DataW H × List MemPlace} (ht : P.underlying t = some .bool) (h : DataW.trod enc P w base spare held n t [v] = some y) : ∃ z, v = .bool z := by
  obtain ⟨z, e, _⟩ := DataW.trod_bool ht h
  exact ⟨z, by simpa using e⟩
/-- A field that is a slice of bytes. -/
theorem fbyt_of_trod {t e : TypeId} {n : Nat} {v : Value} {y : DataW H × List MemPlace} (ht : P.underlying t = some (.slice e)) (he : P.underlying e = some (.int .u8)) (hC : P.cellsOf e = 1) (h : DataW.trod enc P w base spare held n t [v] = some y) :
    ∃ A len cap bs, v = .slice A len cap ∧ Byt w w.heap.size A len cap bs ∧ cap ≤ maxLen := by
  rcases open_slice1 ht hC h with ⟨h0, _⟩ | ⟨a, len, cap, m, n, V, D, Pl, hcs, _, hl, hm, hmm, _, hx⟩
  · exact ⟨none, 0, 0, [], by simpa using h0, ⟨rfl, Nat.le_refl _, Row.nil _ _ _⟩, Nat.zero_le _⟩
  · have key : ∀ i, i < len → ∃ b : UInt8, w.cell? (a.add i) = some (B8 b) := fun i hi => by
      obtain ⟨h1, h2⟩ := hx i (by rw [hmm]; split <;> omega)
      obtain ⟨z, e2, _, hw⟩ := DataW.trod_int he h2
      have hbd : 0 ≤ z ∧ z ≤ 255 := by simpa [Lit.wf, IntKind.min, IntKind.max, IntKind.signed, IntKind.bits] using hw
      refine ⟨UInt8.ofNat z.toNat, ?_⟩
      rw [h1]
      have e3 : V i = .int .u8 z := by simpa using e2
      rw [e3, B8, UInt8.toNat_ofNat_of_lt' (by simp only [UInt8.size]; omega), show ((z.toNat : Nat) : Int) = z by omega]
    obtain ⟨f, hf⟩ := @choose_lt _ ⟨(0 : UInt8)⟩ len _ key
    refine ⟨some a, len, cap, (List.range len).map f, by simpa using hcs, ⟨by simp, hl, fun hn => ?_⟩, hm⟩
    have hn0 : 0 < len := by simpa using hn
    obtain ⟨b, o, rfl, hb⟩ := spot_none (hf 0 hn0)
    refine ⟨b, o, rfl, hb, fun j hj => ?_⟩
    have hjn : j < len := by simpa using hj
    have := hf j hjn
    rw [add_eq] at this
    rw [this]
    simp [bcells, hjn]
end
end Go.Proofs.YtibaibdgpnkdnaaGreatDoor
end

section
namespace Go.Proofs.YtibaibdgpnkdnaaGreatDoor
set_option maxRecDepth 100000
set_option linter.unusedSimpArgs false
set_option linter.unusedVariables false
open Go.RowKit Go.ChangeShapes Go.WideShapes Go.Deep

/-- A response by value. -/
def rspV (A : Option Addr) (n c : Nat) (sw : Int) : Value := .agg #[.slice A n c, I64 sw]
/-- A number that fits. -/
def Fit (x : Int) : Prop := -9223372036854775808 ≤ x ∧ x ≤ 9223372036854775807

section
variable {H : Type} {enc : TypeId × Value → H} {w : World} {base : Nat} {spare : Nat → Bool} {held : Bool} {r : Reach} {b0 : Nat} {v : Value} {d : DataW H} {p : List MemPlace}
theorem cmd_open (hv : Value.okWide Tryz.prog w r b0 28 v) (h : DataW.Trod enc Tryz.prog w base spare held 28 v d p) :
    ∃ (cla ins p1 p2 : Int) (A : Option Addr) (n c : Nat) (b : List UInt8) (le : Int) (long : Bool), v = cmdV cla ins p1 p2 A n c le long ∧ Byt w w.heap.size A n c b ∧ c ≤ maxLen ∧ Fit cla ∧ Fit ins ∧ Fit p1 ∧ Fit p2 ∧ Fit le := by
  obtain ⟨cs, rfl, hsz, hf⟩ := agg_of_trod Tryz.underlying28 (by kernel_rfl) (by kernel_rfl) hv h
  obtain ⟨v0, y0, n0, c0, t0⟩ := hf 0 _ rfl
  obtain ⟨v1, y1, n1, c1, t1⟩ := hf 1 _ rfl
  obtain ⟨v2, y2, n2, c2, t2⟩ := hf 2 _ rfl
  obtain ⟨v3, y3, n3, c3, t3⟩ := hf 3 _ rfl
  obtain ⟨v4, y4, n4, c4, t4⟩ := hf 4 _ rfl
  obtain ⟨v5, y5, n5, c5, t5⟩ := hf 5 _ rfl
  obtain ⟨v6, y6, n6, c6, t6⟩ := hf 6 _ rfl
  obtain ⟨z0, rfl, f0⟩ := fint_of_trod Tryz.underlying3 t0
  obtain ⟨z1, rfl, f1⟩ := fint_of_trod Tryz.underlying3 t1
  obtain ⟨z2, rfl, f2⟩ := fint_of_trod Tryz.underlying3 t2
  obtain ⟨z3, rfl, f3⟩ := fint_of_trod Tryz.underlying3 t3
  obtain ⟨A, n, c, b, rfl, hb, hm⟩ := fbyt_of_trod Tryz.underlying22 Tryz.underlying5 (by kernel_rfl) t4
  obtain ⟨z5, rfl, f5⟩ := fint_of_trod Tryz.underlying3 t5
  obtain ⟨z6, rfl⟩ := fbool_of_trod Tryz.underlying4 t6
  refine ⟨z0, z1, z2, z3, A, n, c, b, z5, z6, ?_, hb, hm, f0, f1, f2, f3, f5⟩
  unfold cmdV
  refine congrArg Value.agg (Array.ext (by simpa using hsz) fun i h1 h2 => ?_)
  have hs7 : cs.size = 7 := by simpa using hsz
  rcases (show i = 0 ∨ i = 1 ∨ i = 2 ∨ i = 3 ∨ i = 4 ∨ i = 5 ∨ i = 6 by omega) with rfl | rfl | rfl | rfl | rfl | rfl | rfl
  · rw [Array.getElem?_eq_getElem h1] at c0; injection c0
  · rw [Array.getElem?_eq_getElem h1] at c1; injection c1
  · rw [Array.getElem?_eq_getElem h1] at c2; injection c2
  · rw [Array.getElem?_eq_getElem h1] at c3; injection c3
  · rw [Array.getElem?_eq_getElem h1] at c4; injection c4
  · rw [Array.getElem?_eq_getElem h1] at c5; injection c5
  · rw [Array.getElem?_eq_getElem h1] at c6; injection c6

theorem info_open (hv : Value.okWide Tryz.prog w r b0 72 v) (h : DataW.Trod enc Tryz.prog w base spare held 72 v d p) :
    ∃ (ch : Int) (s c q : Bool), v = infoV ch s c q ∧ Fit ch := by
  obtain ⟨cs, rfl, hsz, hf⟩ := agg_of_trod Tryz.underlying72 (by kernel_rfl) (by kernel_rfl) hv h
  obtain ⟨v0, y0, n0, c0, t0⟩ := hf 0 _ rfl
  obtain ⟨v1, y1, n1, c1, t1⟩ := hf 1 _ rfl
  obtain ⟨v2, y2, n2, c2, t2⟩ := hf 2 _ rfl
  obtain ⟨v3, y3, n3, c3, t3⟩ := hf 3 _ rfl
  obtain ⟨z0, rfl, f0⟩ := fint_of_trod Tryz.underlying3 t0
  obtain ⟨z1, rfl⟩ := fbool_of_trod Tryz.underlying4 t1
  obtain ⟨z2, rfl⟩ := fbool_of_trod Tryz.underlying4 t2
  obtain ⟨z3, rfl⟩ := fbool_of_trod Tryz.underlying4 t3
  refine ⟨z0, z1, z2, z3, ?_, f0⟩
  unfold infoV
  refine congrArg Value.agg (Array.ext (by simpa using hsz) fun i h1 h2 => ?_)
  have hs7 : cs.size = 4 := by simpa using hsz
  rcases (show i = 0 ∨ i = 1 ∨ i = 2 ∨ i = 3 by omega) with rfl | rfl | rfl | rfl
  · rw [Array.getElem?_eq_getElem h1] at c0; injection c0
  · rw [Array.getElem?_eq_getElem h1] at c1; injection c1
  · rw [Array.getElem?_eq_getElem h1] at c2; injection c2
  · rw [Array.getElem?_eq_getElem h1] at c3; injection c3

theorem rsp_open (hv : Value.okWide Tryz.prog w r b0 30 v) (h : DataW.Trod enc Tryz.prog w base spare held 30 v d p) :
    ∃ (A : Option Addr) (n c : Nat) (b : List UInt8) (sw : Int), v = rspV A n c sw ∧ Byt w w.heap.size A n c b ∧ c ≤ maxLen ∧ Fit sw := by
  obtain ⟨cs, rfl, hsz, hf⟩ := agg_of_trod Tryz.underlying30 (by kernel_rfl) (by kernel_rfl) hv h
  obtain ⟨v0, y0, n0, c0, t0⟩ := hf 0 _ rfl
  obtain ⟨v1, y1, n1, c1, t1⟩ := hf 1 _ rfl
  obtain ⟨A, n, c, b, rfl, hb, hm⟩ := fbyt_of_trod Tryz.underlying22 Tryz.underlying5 (by kernel_rfl) t0
  obtain ⟨z1, rfl, f1⟩ := fint_of_trod Tryz.underlying3 t1
  refine ⟨A, n, c, b, z1, ?_, hb, hm, f1⟩
  unfold rspV
  refine congrArg Value.agg (Array.ext (by simpa using hsz) fun i h1 h2 => ?_)
  have hs7 : cs.size = 2 := by simpa using hsz
  rcases (show i = 0 ∨ i = 1 by omega) with rfl | rfl
  · rw [Array.getElem?_eq_getElem h1] at c0; injection c0
  · rw [Array.getElem?_eq_getElem h1] at c1; injection c1
end
end Go.Proofs.YtibaibdgpnkdnaaGreatDoor
end

section
namespace Go.Proofs.YtibaibdgpnkdnaaGreatDoor
set_option maxRecDepth 100000
set_option linter.unusedSimpArgs false
set_option linter.unusedVariables false
open Go.RowKit Go.ChangeShapes Go.WideShapes Go.Deep

theorem bytes_of_trod {H : Type} {enc : TypeId × Value → H} {w : World} {base : Nat} {spare : Nat → Bool} {held : Bool} {A : Option Addr} {n c : Nat} {d : DataW H} {p : List MemPlace}
    (h : DataW.Trod enc Tryz.prog w base spare held 22 (.slice A n c) d p) : ∃ b, Byt w w.heap.size A n c b ∧ c ≤ maxLen := by
  obtain ⟨fuel, hf⟩ := h
  have hc : (Value.slice A n c).cells.toList = [.slice A n c] := rfl
  obtain ⟨A2, l2, c2, b, e, hb, hm⟩ := fbyt_of_trod (v := .slice A n c) Tryz.underlying22 Tryz.underlying5 (by kernel_rfl) hf
  injection e with e1 e2 e3
  subst e1 e2 e3
  exact ⟨b, hb, hm⟩
end Go.Proofs.YtibaibdgpnkdnaaGreatDoor
end

section
namespace Go.Proofs.YtibaibdgpnkdnaaGreatDoor
set_option maxRecDepth 100000
set_option linter.unusedSimpArgs false
set_option linter.unusedVariables false
open Go.RowKit Go.ChangeShapes Go.WideShapes Go.Deep

theorem weights_all {H : Type} {P : Program} {e : TypeId} {d : DataW H} {x : Nat} : ∀ {l : List (DataW H)}, d ∈ l → x ∈ DataW.weights P e d → x ∈ DataW.weightsAll P e l
  | [], hd, _ => by cases hd
  | y :: l, hd, hx => by
    simp only [DataW.weightsAll, List.mem_append]
    rcases List.mem_cons.1 hd with rfl | h
    · exact .inl hx
    · exact .inr (weights_all h hx)
theorem bss_of_trod {H : Type} {enc : TypeId × Value → H} {w : World} {base : Nat} {held : Bool} {A : Option Addr} {n c : Nat} {d : DataW H} {p : List MemPlace}
    (h : DataW.Trod enc Tryz.prog w base (fun _ => true) held 46 (.slice A n c) d p) (hsz : ∀ x ∈ DataW.weights Tryz.prog 46 d, x ≤ reachBytes) : ∃ vs : List SV, (vs.length = n ∧ Byts w w.heap.size A vs ∧ n ≤ c ∧ ∀ v ∈ vs, v.c ≤ 140737488351232) ∧ c ≤ maxLen := by
  obtain ⟨fuel, hf⟩ := h
  rcases open_int_rows Tryz.underlying46 Tryz.underlying22 Tryz.underlying5 (by kernel_rfl) (by kernel_rfl) hf with ⟨hcs, _⟩ | ⟨a, len, cap, X, L, C, Z, hcs, _, hl, hm, hdp, hr⟩
  · simp [Value.cells] at hcs
    obtain ⟨rfl, rfl, rfl⟩ := hcs
    exact ⟨[], ⟨rfl, ⟨Row.nil _ _ _, fun v hv => (by cases hv)⟩, Nat.le_refl _, fun v hv => (by cases hv)⟩, Nat.zero_le _⟩
  · simp [Value.cells] at hcs
    obtain ⟨rfl, rfl, rfl⟩ := hcs
    have hd : d = .slice ((List.range n).map fun r => intRow .u8 (X r) (L r) (Z r)) ((List.range (c - n)).map fun j => intRow .u8 (X (n + j)) (L (n + j)) (Z (n + j))) := by
      injection hdp
    have hbyt : (Tryz.prog).bytesOf 5 = 1 := by kernel_rfl
    have key : ∀ r, r < n → ∃ v : SV, w.cell? (a.add r) = some (.slice v.a v.n v.c) ∧ Byt w w.heap.size v.a v.n v.c v.bs ∧ v.c ≤ 140737488351232 := fun r hrn => by
      obtain ⟨h1, h2, h3, h4, h5, h6, h7⟩ := hr r (by omega)
      have hcr : C r ≤ 140737488351232 := by
        cases hx : X r with
        | none => have := h6 hx; omega
        | some a' =>
          have hw : C r ∈ DataW.weights (H := H) Tryz.prog 22 (intRow .u8 (X r) (L r) (Z r)) := by
            rw [hx]
            simp only [intRow, DataW.weights, Tryz.underlying22, hbyt, Nat.mul_one]
            refine List.mem_cons.2 (.inl ?_)
            simp only [lits, List.length_map, List.length_take, List.length_drop]
            omega
          have hin : C r ∈ DataW.weights (H := H) Tryz.prog 46 d := by
            rw [hd]
            simp only [DataW.weights, Tryz.underlying46]
            refine List.mem_cons.2 (.inr (List.mem_append.2 (.inl (weights_all (List.mem_map.2 ⟨r, List.mem_range.2 hrn, rfl⟩) hw))))
          have := hsz _ hin
          simp only [reachBytes] at this
          omega
      have : ∃ bs, Byt w w.heap.size (X r) (L r) (C r) bs ∧ C r ≤ maxLen := by
        refine byt_of_row (zs := Z r) ?_
        cases hx : X r with
        | none =>
          have hc0 := h6 hx
          exact .inl ⟨rfl, by omega, hc0, List.eq_nil_of_length_eq_zero (by rw [h4]; exact hc0)⟩
        | some a' =>
          obtain ⟨_, h8⟩ := h7 a' hx
          exact .inr ⟨a', rfl, h2, h3, h4, fun i hi => h8 i (by omega), h5⟩
      obtain ⟨bs, hb, _⟩ := this
      exact ⟨⟨X r, L r, C r, bs⟩, h1, hb, hcr⟩
    obtain ⟨f, hf⟩ := @choose_lt _ ⟨(⟨none, 0, 0, []⟩ : SV)⟩ n _ key
    refine ⟨(List.range n).map f, ⟨by simp, ⟨fun hn => ?_, fun v hv => ?_⟩, hl, fun v hv => ?_⟩, hm⟩
    · have hn0 : 0 < n := by simpa using hn
      obtain ⟨b, o, rfl, hb⟩ := spot_none ((hf 0 hn0).1)
      refine ⟨b, o, rfl, hb, fun j hj => ?_⟩
      have hjn : j < n := by simpa using hj
      have := (hf j hjn).1
      rw [add_eq] at this
      rw [this]
      simp [hjn, SV.val]
    · obtain ⟨r, hr2, rfl⟩ := List.mem_map.1 hv
      exact (hf r (List.mem_range.1 hr2)).2.1
    · obtain ⟨r, hr2, rfl⟩ := List.mem_map.1 hv
      exact (hf r (List.mem_range.1 hr2)).2.2
end Go.Proofs.YtibaibdgpnkdnaaGreatDoor
end

section
namespace Go.Proofs.YtibaibdgpnkdnaaGreatDoor
set_option maxRecDepth 100000
set_option linter.unusedSimpArgs false
set_option linter.unusedVariables false
open Go.RowKit Go.ChangeShapes Go.WideShapes Go.Deep

/-- The types of a struct's cells, field by field, from a place on. -/
def flatFs (P : Program) (F : TypeId → Option (List TypeId)) : List Field → Nat → Option (List TypeId)
  | [], _ => some []
  | f :: r, off => match F f.type with
    | none => none
    | some a => if f.offset = off ∧ P.cellsOf f.type = a.length then (match flatFs P F r (off + a.length) with
      | none => none
      | some b => some (a ++ b)) else none
/-- The types of a value's cells. -/
def flat (P : Program) : Nat → TypeId → Option (List TypeId)
  | 0, _ => none
  | k + 1, t => match P.underlying t with
    | some (.struct fs) => (match flatFs P (flat P k) fs.toList 0 with
      | none => none
      | some ts => if P.cellsOf t = ts.length then some ts else none)
    | some _ => if P.cellsOf t = 1 then some [t] else none
    | none => none

section
variable {H : Type} {enc : TypeId × Value → H} {P : Program} {w : World} {base : Nat} {spare : Nat → Bool} {held : Bool}
/-- What is read of a cell. -/
def CellRead (enc : TypeId × Value → H) (P : Program) (w : World) (base : Nat) (spare : Nat → Bool) (held : Bool) (t : TypeId) (d : DataW H) (v : Value) (T : TypeId) : Prop :=
  ∃ (y : DataW H × List MemPlace) (n : Nat), DataW.trod enc P w base spare held n T [v] = some y ∧ ∀ z ∈ DataW.weights P T y.1, z ∈ DataW.weights P t d
theorem flatFs_read {F : TypeId → Option (List TypeId)} {t : TypeId} {fs : Array Field} {cs : List Value} {xs : List (DataW H × List MemPlace)} {n : Nat} (ht : P.underlying t = some (.struct fs)) (hlen : xs.length = fs.size)
    (hF : ∀ T a, F T = some a → ∀ (cs : List Value) (x : DataW H × List MemPlace), cs.length = P.cellsOf T → DataW.trod enc P w base spare held n T cs = some x → ∀ (i : Nat) (U : TypeId), a[i]? = some U → ∃ v, cs[i]? = some v ∧ CellRead enc P w base spare held T x.1 v U)
    (hf : ∀ (i : Nat) (f : Field), fs[i]? = some f → DataW.trod enc P w base spare held n f.type ((cs.drop f.offset).take (P.cellsOf f.type)) = xs[i]?) :
    ∀ (r : List Field) (j off : Nat) (b : List TypeId), fs.toList.drop j = r → flatFs P F r off = some b → off + b.length ≤ cs.length → ∀ (i : Nat) (U : TypeId), b[i]? = some U → ∃ v, cs[off + i]? = some v ∧ CellRead enc P w base spare held t (.agg (xs.map (·.1))) v U := by
  intro r
  induction r with
  | nil =>
    intro j off b _ hb _ i U hi
    simp only [flatFs] at hb
    injection hb with hb
    subst hb
    simp at hi
  | cons f r ih =>
    intro j off b hj hb hle i U hi
    simp only [flatFs] at hb
    cases ha : F f.type with
    | none => rw [ha] at hb; cases hb
    | some a =>
      rw [ha] at hb
      simp only at hb
      split at hb
      · rename_i hoff
        cases hc : flatFs P F r (off + a.length) with
        | none => rw [hc] at hb; cases hb
        | some c =>
          rw [hc] at hb
          simp only at hb
          injection hb with hb
          subst hb
          rw [List.length_append] at hle
          have hfj : fs[j]? = some f := by
            have : (fs.toList.drop j)[0]? = some f := by rw [hj]; rfl
            rw [List.getElem?_drop] at this
            simpa using this
          have hjl : j < fs.size := (Array.getElem?_eq_some_iff.1 hfj).1
          by_cases hia : i < a.length
          · have h1 := hf j f hfj
            rw [hoff.1, List.getElem?_eq_getElem (by omega)] at h1
            obtain ⟨v, hv, y, m, hy, hz⟩ := hF f.type a ha ((cs.drop off).take (P.cellsOf f.type)) _ (by rw [List.length_take, List.length_drop, hoff.2]; omega) h1 i U (by rw [List.getElem?_append_left hia] at hi; exact hi)
            refine ⟨v, ?_, y, m, hy, fun z hz2 => ?_⟩
            · rw [List.getElem?_take, if_pos (by rw [hoff.2]; exact hia), List.getElem?_drop] at hv
              exact hv
            · have h2 := hz z hz2
              simp only [DataW.weights, ht]
              refine DataW.weights_mem_each (j := j) (t := f.type) (d := (xs[j]'(by omega)).1) ?_ ?_ z h2
              · rw [List.getElem?_map, Array.getElem?_toList, hfj]; rfl
              · rw [List.getElem?_map, List.getElem?_eq_getElem (by omega)]; rfl
          · obtain ⟨v, hv, hr⟩ := ih (j + 1) (off + a.length) c (by rw [← List.drop_drop, hj]; rfl) hc (by omega) (i - a.length) U (by rw [List.getElem?_append_right (by omega)] at hi; exact hi)
            refine ⟨v, ?_, hr⟩
            rw [show off + i = off + a.length + (i - a.length) by omega]
            exact hv
      · cases hb
theorem flat_read : ∀ (k : Nat) (t : TypeId) (ts : List TypeId), flat P k t = some ts → ∀ (fuel : Nat) (cs : List Value) (x : DataW H × List MemPlace), cs.length = P.cellsOf t → DataW.trod enc P w base spare held fuel t cs = some x →
    ∀ (i : Nat) (T : TypeId), ts[i]? = some T → ∃ v, cs[i]? = some v ∧ CellRead enc P w base spare held t x.1 v T
  | 0, _, _, h => by simp [flat] at h
  | k + 1, t, ts, h => by
    intro fuel cs x hlen hx i T hi
    rw [flat] at h
    cases hu : P.underlying t with
    | none => rw [hu] at h; cases h
    | some d =>
      rw [hu] at h
      by_cases hs : ∃ fs, d = .struct fs
      · obtain ⟨fs, rfl⟩ := hs
        simp only at h
        cases hff : flatFs P (flat P k) fs.toList 0 with
        | none => rw [hff] at h; cases h
        | some b =>
          rw [hff] at h
          simp only at h
          split at h
          · rename_i hcl
            injection h with h
            subst h
            obtain ⟨xs, n, rfl, rfl, hl, hxl, hf⟩ := DataW.trod_struct hu hx
            have := flatFs_read (enc := enc) (w := w) (base := base) (spare := spare) (held := held) (F := flat P k) hu hxl (fun T a ha cs x hl2 hx2 => flat_read k T a ha n cs x hl2 hx2) hf fs.toList 0 0 b rfl hff (by omega) i T hi
            simpa using this
          · cases h
      · have h1 : (if P.cellsOf t = 1 then some [t] else none) = some ts := by
          cases d <;> first | exact h | exact absurd ⟨_, rfl⟩ hs
        split at h1
        · rename_i hc
          injection h1 with h1
          subst h1
          have hi0 : i = 0 := by
            cases i with
            | zero => rfl
            | succ i => simp at hi
          subst hi0
          have hT : T = t := by simpa using hi.symm
          subst hT
          rw [hc] at hlen
          obtain ⟨v, rfl⟩ := List.length_eq_one_iff.1 hlen
          exact ⟨v, rfl, x, fuel, hx, fun z hz => hz⟩
        · cases h1
/-- A struct by value. -/
theorem flat_agg {k : Nat} {t : TypeId} {ts : List TypeId} {fs : Array Field} {r : Reach} {b0 : Nat} {v : Value} {d : DataW H} {p : List MemPlace} (hs : P.underlying t = some (.struct fs)) (hfl : flat P k t = some ts)
    (hv : Value.okWide P w r b0 t v) (h : DataW.Trod enc P w base spare held t v d p) : ∃ cs : Array Value, v = .agg cs ∧ cs.size = P.cellsOf t ∧ ∀ (i : Nat) (T : TypeId), ts[i]? = some T → ∃ u, cs[i]? = some u ∧ CellRead enc P w base spare held t d u T := by
  obtain ⟨cs, rfl, hsz⟩ := okWide_struct hs hv
  obtain ⟨fuel, hf⟩ := h
  refine ⟨cs, rfl, hsz, fun i T hi => ?_⟩
  have hc : (Value.agg cs).cells = cs := rfl
  rw [hc] at hf
  obtain ⟨u, hu, hr⟩ := flat_read k t ts hfl fuel cs.toList _ (by simpa using hsz) hf i T hi
  exact ⟨u, by simpa using hu, hr⟩
/-- A slice of structs. -/
theorem flat_slice {k : Nat} {t e : TypeId} {ts : List TypeId} {fuel : Nat} {cs : List Value} {x : DataW H × List MemPlace} (ht : P.underlying t = some (.slice e)) (hfl : flat P k e = some ts)
    (h : DataW.trod enc P w base spare held fuel t cs = some x) :
    cs = [.slice none 0 0] ∨ ∃ (a : Addr) (len cap : Nat), cs = [.slice (some a) len cap] ∧ len ≤ cap ∧ cap ≤ maxLen ∧
      ∀ i, i < len → ∀ (j : Nat) (T : TypeId), ts[j]? = some T → ∃ u, w.cell? (a.add (i * P.cellsOf e + j)) = some u ∧ CellRead enc P w base spare held t x.1 u T := by
  rcases open_slice ht h with h0 | ⟨a, len, cap, m, n, D, Pl, hcs, _, hl, hm, hmm, hx, hi⟩
  · exact .inl h0.1
  · refine .inr ⟨a, len, cap, hcs, hl, hm, fun i hlt j T hj => ?_⟩
    obtain ⟨l, hc, hd⟩ := hi i (by rw [hmm]; split <;> omega)
    obtain ⟨_, hll, hat⟩ := World.cells?_some hc
    obtain ⟨u, hu, y, n2, hy, hz⟩ := flat_read k e ts hfl n l _ (by omega) hd j T hj
    have hjl : j < l.length := (List.getElem?_eq_some_iff.1 hu).1
    refine ⟨u, ?_, y, n2, hy, fun z hz2 => ?_⟩
    · rw [← add_add, hat j (by omega), hu]
    · rw [hx]
      simp only [DataW.weights, ht]
      refine List.mem_cons.2 (.inr (List.mem_append.2 (.inl ?_)))
      exact weights_all (d := D i) (List.mem_map.2 ⟨i, List.mem_range.2 hlt, rfl⟩) (hz z hz2)
/-- A cell that is an int, a truth value, a slice of bytes. -/
theorem CellRead.int {t T : TypeId} {d : DataW H} {v : Value} (h : CellRead enc P w base spare held t d v T) (hT : P.underlying T = some (.int .i64)) : ∃ z, v = .int .i64 z ∧ -9223372036854775808 ≤ z ∧ z ≤ 9223372036854775807 := by
  obtain ⟨y, n, hy, _⟩ := h
  exact fint_of_trod hT hy
theorem CellRead.bool {t T : TypeId} {d : DataW H} {v : Value} (h : CellRead enc P w base spare held t d v T) (hT : P.underlying T = some .bool) : ∃ z, v = .bool z := by
  obtain ⟨y, n, hy, _⟩ := h
  exact fbool_of_trod hT hy
theorem CellRead.byt {t T e : TypeId} {d : DataW H} {v : Value} (h : CellRead enc P w base spare held t d v T) (hT : P.underlying T = some (.slice e)) (he : P.underlying e = some (.int .u8)) (hC : P.cellsOf e = 1) :
    ∃ A len cap bs, v = .slice A len cap ∧ Byt w w.heap.size A len cap bs ∧ cap ≤ maxLen := by
  obtain ⟨y, n, hy, _⟩ := h
  exact fbyt_of_trod hT he hC hy
end
/-- Records, one behind the other, s cells each. -/
def Recs {α : Type} (cells : α → List Value) (s : Nat) (w : World) (B : Nat) (A : Option Addr) (l : List α) : Prop :=
  0 < l.length → ∃ b o, A = some ⟨b, o, none⟩ ∧ b < B ∧ ∀ (k : Nat) (x : α), l[k]? = some x → ∀ (j : Nat) (v : Value), (cells x)[j]? = some v → w.cell? ⟨b, o + (k * s + j), none⟩ = some v
theorem Recs.below {α : Type} {cells : α → List Value} {s : Nat} {w w' : World} {B : Nat} {A : Option Addr} {l : List α} (h : Recs cells s w B A l) (hb : Below B w w') : Recs cells s w' B A l := fun hn => by
  obtain ⟨b, o, e, hlt, hc⟩ := h hn
  exact ⟨b, o, e, hlt, fun k x hk j v hv => (World.cell?_of_block (hb.block b hlt)).trans (hc k x hk j v hv)⟩
theorem Recs.more {α : Type} {cells : α → List Value} {s : Nat} {w : World} {B B' : Nat} {A : Option Addr} {l : List α} (h : Recs cells s w B A l) (hB : B ≤ B') : Recs cells s w B' A l := fun hn => by
  obtain ⟨b, o, e, hlt, hc⟩ := h hn
  exact ⟨b, o, e, Nat.lt_of_lt_of_le hlt hB, hc⟩
theorem recs_of {α : Type} [Inhabited α] {cells : α → List Value} {s n : Nat} {w : World} {a : Addr} {G : α → Prop} (h0 : ∀ x, ∃ v, (cells x)[0]? = some v)
    (key : ∀ i, i < n → ∃ x : α, (∀ (j : Nat) (v : Value), (cells x)[j]? = some v → w.cell? (a.add (i * s + j)) = some v) ∧ G x) : ∃ l : List α, l.length = n ∧ Recs cells s w w.heap.size (some a) l ∧ ∀ x ∈ l, G x := by
  obtain ⟨f, hf⟩ := choose_lt (n := n) key
  refine ⟨(List.range n).map f, by simp, fun hn => ?_, fun x hx => ?_⟩
  · have hn0 : 0 < n := by simpa using hn
    obtain ⟨v, hv⟩ := h0 (f 0)
    have h00 := (hf 0 hn0).1 0 v hv
    rw [show 0 * s + 0 = 0 by omega] at h00
    obtain ⟨b, o, rfl, hb⟩ := spot_none h00
    refine ⟨b, o, rfl, hb, fun k x hk j u hu => ?_⟩
    have hkn : k < n := by
      have := (List.getElem?_eq_some_iff.1 hk).1
      simpa using this
    have e : x = f k := by
      rw [List.getElem?_map, List.getElem?_range hkn] at hk
      simpa using hk.symm
    subst e
    have := (hf k hkn).1 j u hu
    rw [add_eq] at this
    exact this
  · obtain ⟨r, hr, rfl⟩ := List.mem_map.1 hx
    exact (hf r (List.mem_range.1 hr)).2
end Go.Proofs.YtibaibdgpnkdnaaGreatDoor
end

section
namespace Go.Proofs.YtibaibdgpnkdnaaGreatDoor
set_option maxRecDepth 100000
set_option linter.unusedSimpArgs false
set_option linter.unusedVariables false
open Go.RowKit

theorem or_chain : ∀ h : Fin 255, (h.val : Int) / 16 % 2 ≠ 1 → bits .or .i64 (h.val : Int) 16 = (h.val : Int) + 16 := by decide +kernel

theorem c_info : (Tryz.prog.info? 28).map (fun i => (i.zero, i.size, i.bytes)) = some (some (.agg #[.int .i64 0, .int .i64 0, .int .i64 0, .int .i64 0, .slice none 0 0, .int .i64 0, .bool false]), 7, 72) := by kernel_rfl
/-- An element of a chain ahead of its last. -/
def midV (cla ins p1 p2 : Int) (v : SV) : CV := ⟨cla + 16, ins, p1, p2, v, 0, false⟩

/-- The last of some commands of the call's own, and what stores make of it. -/
theorem own_last {w : World} {base : Nat} {t : TypeId} {A : Option Addr} {q c : Nat} {l0 : List CV} {x : CV} (h : Own w base t 7 A (q + 1) c (ccells (l0 ++ [x]))) (hq : l0.length = q) :
    ∃ g, A = some ⟨g, 0, none⟩ ∧ base ≤ g ∧ g < w.heap.size ∧ (∀ i, w.frozen? ⟨g, i, none⟩ = false) ∧ w.cell? ⟨g, q * 7, none⟩ = some (I64 x.cla) ∧ w.cell? ⟨g, q * 7 + 5, none⟩ = some (I64 x.le) ∧ w.cell? ⟨g, q * 7 + 6, none⟩ = some (.bool x.long) ∧
      ∀ (a b : Int) (lg : Bool), Own (((w.setCell ⟨g, q * 7, none⟩ (I64 a)).setCell ⟨g, q * 7 + 5, none⟩ (I64 b)).setCell ⟨g, q * 7 + 6, none⟩ (.bool lg)) base t 7 A (q + 1) c (ccells (l0 ++ [⟨a, x.ins, x.p1, x.p2, x.d, b, lg⟩])) := by
  have hlen := length_ccells l0
  obtain ⟨hl, hnc, hm, hc⟩ := h
  obtain ⟨g, cur, e, hb, hh, hs, ht⟩ := hc (by omega)
  have hB : Blk w g t cur := hh
  have hcell : ∀ i, i < 7 → w.cell? ⟨g, q * 7 + i, none⟩ = x.cells[i]? := fun i hi => by
    have h1 : (cur.toList.take ((q + 1) * 7))[q * 7 + i]? = (ccells (l0 ++ [x]))[q * 7 + i]? := by rw [ht]
    rw [List.getElem?_take, if_pos (by omega), ccells_append, ccells_one, List.getElem?_append_right (by omega), show q * 7 + i - (ccells l0).length = i by omega] at h1
    rw [hB.cell, ← h1]; simp
  refine ⟨g, e, hb, hB.lt, hB.frozen, hcell 0 (by omega), hcell 5 (by omega), hcell 6 (by omega), fun a b lg => ⟨?_, hnc, hm, fun _ => ⟨g, _, e, hb, ((hB.set _ _).set _ _).set _ _, ?_, ?_⟩⟩⟩
  · rw [length_ccells] at hl ⊢; simpa using hl
  · simpa using hs
  · simp only [Array.toList_setIfInBounds, List.take_set, ht]
    rw [ccells_append, ccells_append, ccells_one, ccells_one, List.set_append_right _ _ (by omega), List.set_append_right _ _ (by omega), List.set_append_right _ _ (by omega)]
    rw [show q * 7 - (ccells l0).length = 0 by omega, show q * 7 + 5 - (ccells l0).length = 5 by omega, show q * 7 + 6 - (ccells l0).length = 6 by omega]
    rfl

end Go.Proofs.YtibaibdgpnkdnaaGreatDoor
end

section
namespace Go.Proofs.YtibaibdgpnkdnaaGreatDoor
set_option maxRecDepth 100000
set_option linter.unusedSimpArgs false
set_option linter.unusedVariables false
open Go.RowKit

theorem cmpB_eq : ∀ (a b : List UInt8), Lib.compareBytes a b = Oct.cmp a b
  | [], [] => rfl
  | [], _ :: _ => rfl
  | _ :: _, [] => rfl
  | x :: a, y :: b => by
    simp only [Lib.compareBytes, Oct.cmp, UInt8.lt_iff_toNat_lt]
    rw [cmpB_eq a b]
theorem same_beq (a b : List UInt8) : (a == b) = Oct.same a b := by
  rw [Bool.eq_iff_iff, Oct.same_iff, beq_iff_eq]
theorem byt_bytesOf {P : Program} {w : World} {B : Nat} {A : Option Addr} {n c : Nat} {bs : List UInt8} (h : Byt w B A n c bs) : (Extern.Bytes.bytesOf (.slice A n c)).run P w = .ok ⟨bs.toArray⟩ w := by
  cases A with
  | none =>
    have hb : bs = [] := by
      rcases Nat.eq_zero_or_pos n with h0 | h0
      · exact List.eq_nil_of_length_eq_zero (by rw [h.1]; exact h0)
      · obtain ⟨b, o, e, _⟩ := h.at_ h0; cases e
    subst hb
    rfl
  | some a =>
    have hl := Lib.run_loadBytesX (P := P) w (bs.map fun b => (b.toNat : Int)) a .empty (fun j x hj => by
      have hjl : j < bs.length := by have := (List.getElem?_eq_some_iff.1 hj).1; simpa using this
      obtain ⟨b, o, e, _, hc⟩ := h.2.2 (by rw [length_bcells]; omega)
      obtain rfl : a = ⟨b, o, none⟩ := by simpa using e
      rw [add_eq, hc j (by rw [length_bcells]; exact hjl), bcells_get]
      rw [List.getElem?_map] at hj
      rw [List.getElem?_eq_getElem hjl] at hj ⊢
      simp at hj
      simp [B8, hj])
    rw [List.length_map, h.1] at hl
    show (Extern.Bytes.loadBytes a n .empty).run P w = _
    rw [hl]
    congr 1
    apply ByteArray.ext
    have e1 : Lib.bytesOf (bs.map fun b => (b.toNat : Int)) = bs := by
      unfold Lib.bytesOf
      rw [List.map_map, List.map_congr_left (g := id)]
      · simp
      · intro b _; simp
    rw [e1]
    show (#[] : Array UInt8) ++ bs.toArray = _
    simp
theorem run_cmp {P : Program} {w : World} {B B' : Nat} {A A' : Option Addr} {n n' c c' : Nat} {a b : List UInt8} (h : Byt w B A n c a) (h' : Byt w B' A' n' c' b) :
    (Extern.BytealgCompare.compare #[.slice A n c, .slice A' n' c']).run P w = .ok (.int .i64 (Oct.cmp a b)) w := by
  show Sem.run P (do pure (goInt (Extern.BytealgCompare.cmp (← Extern.Bytes.bytesOf (.slice A n c)) (← Extern.Bytes.bytesOf (.slice A' n' c'))))) w = _
  simp only [Sem.run_bind, byt_bytesOf h, byt_bytesOf h', Result.andThen]
  rw [Lib.cmp_eq, cmpB_eq]
  rfl

set_option maxHeartbeats 1000000 in
theorem bytes_Equal (A A' : Option Addr) (n n' c c' : Nat) (a b : List UInt8) (w : World) (h : Byt w w.heap.size A n c a) (h' : Byt w w.heap.size A' n' c' b) :
    Calls Tryz.prog 63 #[.slice A n c, .slice A' n' c'] w fun e w' => e = .returned (.bool (Oct.same a b)) ∧ w = w' := by
  have h1 := byt_string (P := Tryz.prog) 22 5 Tryz.underlying22 Tryz.underlying5 h 9 Tryz.underlying9
  have h2 := byt_string (P := Tryz.prog) 22 5 Tryz.underlying22 Tryz.underlying5 h' 9 Tryz.underlying9
  go_enter Tryz.func63, Tryz.ntmps63
  go_wp2_with fail
  go_ret
  exact ⟨by rw [← same_beq]; rfl, rfl⟩

def begins (b p : List UInt8) : Bool := decide (p.length ≤ b.length) && Oct.same (b.take p.length) p

end Go.Proofs.YtibaibdgpnkdnaaGreatDoor
end

section
namespace Go.Proofs.YtibaibdgpnkdnaaGreatDoor
set_option maxRecDepth 100000
set_option linter.unusedSimpArgs false
set_option linter.unusedVariables false
open Go.RowKit

end Go.Proofs.YtibaibdgpnkdnaaGreatDoor
end

section
namespace Go.Proofs.YtibaibdgpnkdnaaGreatDoor
set_option maxRecDepth 100000
set_option linter.unusedSimpArgs false
set_option linter.unusedVariables false
open Go.RowKit

theorem take_get (l : List UInt8) (k : Nat) (h : k < l.length) : l.take (k + 1) = l.take k ++ [l.getD k 0] := by
  rw [List.take_succ_eq_append_getElem h]; simp [List.getD, List.getElem?_eq_getElem h]

end Go.Proofs.YtibaibdgpnkdnaaGreatDoor
end

section
namespace Go.Proofs.YtibaibdgpnkdnaaGreatDoor
set_option maxRecDepth 100000
set_option linter.unusedSimpArgs false
set_option linter.unusedVariables false
open Go.RowKit

set_option maxHeartbeats 2000000 in
theorem ref01_Unpad (A : Option Addr) (n c : Nat) (bs : List UInt8) (w : World) (h : Byt w w.heap.size A n c bs) (hn : n ≤ 1000000000) :
    Calls Tryz.prog 72 #[.slice A n c] w (BRes 5 w (Oct.unpB bs) (Oct.unpE bs)) := by
  obtain ⟨ti, hti, hz0, hz1, hz2⟩ := info_parts o_u8
  have hl := Lib.hid h.1
  have hc := h.2.1
  have hr := h.2.2
  clear h
  go_enter Tryz.func72, Tryz.ntmps72
  go_wp2_with fail
  go_loopg [4] n (fun g i wr => ∃ k : Nat, k = g ∧ k ≤ n ∧ i = .int .i64 ((k : Int) - 1) ∧ Hid (Oct.unp bs = Oct.unp (bs.take k)) ∧ w = wr)
  case atStart => exact ⟨n, by omega, by omega, rfl, Lib.hid (by rw [List.take_of_length_le (by rw [hl.out]; omega)]), rfl⟩
  case round =>
    obtain ⟨k, hkg, hk, rfl, hU, rfl⟩ := hrel
    cases gk with
    | zero =>
      subst hkg
      have hno := Lib.hid (unp_none bs (by rw [hU.out]; rfl))
      rw [show ((0 : Nat) : Int) - 1 = -1 by omega]
      go_wp2_with fail
      go_ret2
      rw [hno.out.1, hno.out.2]
      exact BRes.nil _ (Below.refl _ _)
    | succ g =>
      subst hkg
      rw [show ((g + 1 : Nat) : Int) - 1 = (g : Int) by omega]
      have hgl : g < bs.length := by rw [hl.out]; omega
      have hstep := Oct.unp_take bs g hgl
      obtain ⟨b1, o1, rfl, hb1, -⟩ := hr.at_ (j := g) (by rw [length_bcells]; exact hgl)
      have c1 := hr.byte g hgl
      have hx256 := (bs.getD g 0).toNat_lt
      have e0 := byte_eq (bs.getD g 0) 0 (by omega)
      have e8 := byte_eq (bs.getD g 0) 128 (by omega)
      rw [show UInt8.ofNat 0 = 0 from rfl] at e0
      rw [show UInt8.ofNat 128 = 0x80 from rfl] at e8
      have i0 : (0 : Int) ≤ (g : Int) := by omega
      have i1 : (g : Int) < (n : Int) := by omega
      by_cases hz : (bs.getD g 0).toNat = 0
      · rw [if_pos (e0.2 hz)] at hstep
        have HS := Lib.hid hstep
        rw [hz] at c1
        clear hstep e0 e8 hz hx256
        go_wp2_with fail
        go_roundg g
        case measure => omega
        case rel => exact ⟨g, rfl, by omega, by go_num, Lib.hid (by rw [hU.out, HS.out]), rfl⟩
      · rw [if_neg (fun e => hz (e0.1 e))] at hstep
        have t1 : (((bs.getD g 0).toNat : Int) == 0) = false := by simp at hz ⊢; omega
        by_cases h8 : (bs.getD g 0).toNat = 128
        · rw [if_pos (e8.2 h8)] at hstep
          have hso := Lib.hid (unp_some bs _ (by rw [hU.out, hstep]))
          rw [h8] at c1
          clear hstep e0 e8 hz hx256 t1 h8
          have i2 : (g : Int) ≤ (c : Int) := by omega
          have hown0 : Own (w.alloc (.cells #[] 5)) w.heap.size 5 1 (some ⟨w.heap.size, 0, none⟩) 0 0 [] := Own.none_ _ _ _ _ _
          have hr0 := (hr.alloc (Nat.le_refl _) (.cells #[] 5)).btake g
          have hgl2 : (bcells (bs.take g)).length = g * 1 := by rw [length_bcells, List.length_take]; omega
          have HGL := Lib.hid hgl2
          clear hgl2
          go_wp2_with (at_builtin; refine wpList_append _ rfl (.tmp 28) (.tmp 31) 22 rfl w.heap.size 5 ti _ 1 1 Tryz.underlying22 hti hz0 hz1 hz2 rfl (by omega) (some ⟨w.heap.size, 0, none⟩) 0 0 [] rfl hown0 w.heap.size (some ⟨b1, o1, none⟩) g c (bcells (bs.take g)) rfl hr0 HGL.out (bcells_one _) (by unfold maxLen; omega) (by omega) (by simp) ?_; intro A3 c3 w4 hown4 hg4 hat4; rw [Nat.zero_add, List.nil_append] at hown4)
          go_ret2
          rw [hso.out.1, hso.out.2]
          exact BRes.mk (by rw [List.length_take]; omega) hown4 (hown0.grown hg4 ((Below.refl _ _).alloc (Nat.le_refl _) _) (by simp))
        · rw [if_neg (fun e => h8 (e8.1 e))] at hstep
          have hno := Lib.hid (unp_none bs (by rw [hU.out, hstep]))
          have t2 : (((bs.getD g 0).toNat : Int) != 128) = true := by rw [bne_iff_ne]; omega
          clear hstep e0 e8 hz h8
          generalize (bs.getD g 0).toNat = x at *
          go_wp2_with fail
          go_ret2
          rw [hno.out.1, hno.out.2]
          exact BRes.nil _ (Below.refl _ _)

theorem pad_stop (len m j : Nat) (h1 : 1 ≤ m) (hj : j ≤ Oct.padN len m) : (len + 1 + j) % m = 0 ↔ j = Oct.padN len m := by
  unfold Oct.padN at *
  have hlt := Nat.mod_lt (len + 1) (show 0 < m by omega)
  have hdm := Nat.div_add_mod (len + 1) m
  split at hj
  · rename_i h0
    rw [if_pos h0]
    constructor
    · intro _; omega
    · intro e; rw [e]; exact h0
  · rename_i h0
    rw [if_neg h0]
    have e1 : len + 1 + j = m * ((len + 1) / m) + ((len + 1) % m + j) := by omega
    rw [e1, Nat.mul_add_mod]
    constructor
    · intro e
      rcases Nat.lt_or_ge ((len + 1) % m + j) m with h | h
      · rw [Nat.mod_eq_of_lt h] at e; omega
      · omega
    · intro e
      rw [show (len + 1) % m + j = m by omega, Nat.mod_self]

set_option maxHeartbeats 4000000 in
theorem ref01_Pad (A : Option Addr) (n c : Nat) (bs : List UInt8) (p : Int) (w : World) (h : Byt w w.heap.size A n c bs) (hn : n ≤ 1000000000) :
    Calls Tryz.prog 67 #[.slice A n c, .int .i64 p] w (BRes 5 w (Oct.padB bs p) (Oct.padE p)) := by
  obtain ⟨ti, hti, hz0, hz1, hz2⟩ := info_parts o_u8
  by_cases hp1 : p < 1
  · have e := Lib.hid (pad_no bs p (.inl hp1))
    have t1 : decide (p < 1) = true := by simpa using hp1
    clear hp1 h
    go_enter Tryz.func67, Tryz.ntmps67
    go_wp2_with fail
    go_ret2
    rw [e.out.1, e.out.2]
    exact BRes.nil _ (Below.refl _ _)
  by_cases hp2 : 65536 < p
  · have e := Lib.hid (pad_no bs p (.inr hp2))
    have t1 : decide (p < 1) = false := by simpa using hp1
    have t2 : decide (65536 < p) = true := by simpa using hp2
    clear hp1 hp2 h
    go_enter Tryz.func67, Tryz.ntmps67
    go_wp2_with fail
    go_ret2
    rw [e.out.1, e.out.2]
    exact BRes.nil _ (Below.refl _ _)
  obtain ⟨m, rfl⟩ := Int.eq_ofNat_of_zero_le (show 0 ≤ p by omega)
  have t1 : decide ((m : Int) < 1) = false := by simpa using hp1
  have t2 : decide ((65536 : Int) < (m : Int)) = false := by simpa using hp2
  have hm1 : 1 ≤ m := by omega
  have hm2 : m ≤ 65536 := by omega
  have e := Lib.hid (pad_yes bs m hm1 hm2)
  have hl := Lib.hid h.1
  have hpl := Oct.padN_lt n m hm1
  have hown0 : Own (w.alloc (.cells #[] 5)) w.heap.size 5 1 (some ⟨w.heap.size, 0, none⟩) 0 0 [] := Own.none_ _ _ _ _ _
  have hr0 := h.2.2.alloc (Nat.le_refl _) (.cells #[] 5)
  have hlc : (bcells bs).length = n * 1 := by rw [length_bcells, h.1]; omega
  have HLC := Lib.hid hlc
  clear hp1 hp2 hlc h
  go_enter Tryz.func67, Tryz.ntmps67
  go_wp2_with (first
    | (at_builtin; refine wpList_append _ rfl (.tmp 13) (.tmp 14) 22 rfl w.heap.size 5 ti _ 1 1 Tryz.underlying22 hti hz0 hz1 hz2 rfl (by omega) (some ⟨w.heap.size, 0, none⟩) 0 0 [] rfl hown0 w.heap.size A n c (bcells bs) rfl hr0 HLC.out (bcells_one _) (by unfold maxLen; omega) (by omega) (by simp) ?_; intro A3 c3 w4 hown4 hg4 hat4; rw [Nat.zero_add, List.nil_append] at hown4; have hb4 := hown0.grown hg4 ((Below.refl _ _).alloc (Nat.le_refl _) _) (by simp); clear hg4 hat4 hr0)
    | (at_builtin; refine wpList_append _ rfl (.tmp 15) (.tmp 16) 22 rfl w.heap.size 5 ti _ 1 1 Tryz.underlying22 hti hz0 hz1 hz2 rfl (by omega) A3 n c3 (bcells bs) rfl (hown4.alloc _) (w4.heap.size + 1) (some ⟨w4.heap.size, 0, none⟩) 1 1 (bcells [0x80]) rfl (Row.new w4 rfl) (by simp) (bcells_one _) (by unfold maxLen; omega) (by omega) (by simp; have := hb4.size; omega) ?_; intro A5 c5 w5 hown5 hg5 hat5; have hb5 := (hown4.alloc _).grown hg5 (hb4.alloc hb4.size _) (by simp; have := hb4.size; omega); clear hg5 hat5))
  go_loopg [6] (Oct.padN n m) (fun g v wr => ∃ (j : Nat) (A2 : Option Addr) (c2 : Nat), j + g = Oct.padN n m ∧ v = .slice A2 (n + 1 + j) c2 ∧ Own wr w.heap.size 5 1 A2 (n + 1 + j) c2 (bcells (bs ++ [0x80] ++ zs j)) ∧ Below w.heap.size w wr)
  case atStart => exact ⟨0, A5, c5, by omega, rfl, by rw [show zs 0 = [] from rfl, List.append_nil, bcells_append]; exact hown5, hb5⟩
  case round =>
    obtain ⟨j, A2, c2, hj, rfl, hown, hbw⟩ := hrel
    have hstop := pad_stop n m j hm1 (by omega)
    have hmi : ((n : Int) + 1 + (j : Int)) % (m : Int) = (((n + 1 + j) % m : Nat) : Int) := by simp
    cases gk with
    | zero =>
      have hz := hstop.2 (by omega)
      rw [hz] at hmi
      have hpd : Hid (Oct.pad bs m = bs ++ [0x80] ++ zs j) := by
        show _ = _
        unfold Oct.pad zs; rw [hl.out, show j = Oct.padN n m by omega]
      have hne : (((n : Int) + 1 + (j : Int)) % (m : Int) != 0) = false := by rw [hmi]; rfl
      clear hmi hz hstop
      go_wp2_with fail
      go_ret2
      rw [e.out.1, e.out.2, hpd.out]
      exact BRes.mk (by rw [List.length_append, List.length_append, hl.out, zs_length]; rfl) hown hbw
    | succ g =>
      have hz : (n + 1 + j) % m ≠ 0 := fun h => by have := hstop.1 h; omega
      have hne : (((n : Int) + 1 + (j : Int)) % (m : Int) != 0) = true := by rw [hmi, bne_iff_ne]; omega
      clear hmi hz hstop
      go_wp2_with (at_builtin; refine wpList_append _ rfl (.tmp 23) (.tmp 24) 22 rfl w.heap.size 5 ti _ 1 1 Tryz.underlying22 hti hz0 hz1 hz2 rfl (by omega) A2 (n + 1 + j) c2 _ rfl (hown.alloc _) (wr.heap.size + 1) (some ⟨wr.heap.size, 0, none⟩) 1 1 (bcells [0]) rfl (Row.new wr rfl) (by simp) (bcells_one _) (by unfold maxLen; omega) (by omega) (by simp; have := hbw.size; omega) ?_; intro A6 c6 w6 hown6 hg6 hat6)
      go_roundg g
      case measure => omega
      case rel =>
        refine ⟨j + 1, A6, c6, by omega, rfl, ?_, (hown.alloc _).grown hg6 (hbw.alloc hbw.size _) (by simp; have := hbw.size; omega)⟩
        have ez : zs (j + 1) = zs j ++ [0] := by unfold zs; rw [List.replicate_succ']
        rw [ez, ← List.append_assoc, bcells_append]
        exact hown6
end Go.Proofs.YtibaibdgpnkdnaaGreatDoor
end

section
namespace Go.Proofs.YtibaibdgpnkdnaaGreatDoor
set_option maxRecDepth 100000
set_option linter.unusedSimpArgs false
set_option linter.unusedVariables false
open Go.RowKit

theorem str_index (s : ByteArray) (k : Nat) (h : k < s.size) (u : World) : (Instr.index 9 (.string s) (.int .i64 (k : Int))).run Tryz.prog u = .ok (.int .u8 ((s.data.toList.getD k 0).toNat : Int)) u := by
  rw [run_index_string u 9 s .i64 (k : Int) Tryz.underlying9, dif_pos ⟨by omega, by omega⟩]
  congr 2
  have e : s.data.toList.getD k 0 = s[k]'h := by
    rw [List.getD, List.getElem?_eq_getElem (by simpa using h)]; rfl
  rw [e]
  simp only [Int.toNat_natCast]

end Go.Proofs.YtibaibdgpnkdnaaGreatDoor
end

section
namespace Go.Proofs.YtibaibdgpnkdnaaGreatDoor
set_option maxRecDepth 100000
set_option linter.unusedSimpArgs false
set_option linter.unusedVariables false
open Go.RowKit

theorem digit_slice (k : Nat) (hk : k < 16) (u : World) : (Instr.slice 9 (.string ⟨#[48, 49, 50, 51, 52, 53, 54, 55, 56, 57, 97, 98, 99, 100, 101, 102]⟩) (some (.int .u8 (k : Int))) (some (.int .u8 ((k : Int) + 1))) none).run Tryz.prog u = .ok (.string ⟨#[Oct.dg k]⟩) u := by
  match k, hk with
  | 0, _ => exact (by kernel_rfl : (Instr.slice 9 (.string ⟨#[48, 49, 50, 51, 52, 53, 54, 55, 56, 57, 97, 98, 99, 100, 101, 102]⟩) (some (.int .u8 ((0 : Nat) : Int))) (some (.int .u8 (((0 : Nat) : Int) + 1))) none).run Tryz.prog u = .ok (.string ⟨#[Oct.dg 0]⟩) u)
  | 1, _ => exact (by kernel_rfl : (Instr.slice 9 (.string ⟨#[48, 49, 50, 51, 52, 53, 54, 55, 56, 57, 97, 98, 99, 100, 101, 102]⟩) (some (.int .u8 ((1 : Nat) : Int))) (some (.int .u8 (((1 : Nat) : Int) + 1))) none).run Tryz.prog u = .ok (.string ⟨#[Oct.dg 1]⟩) u)
  | 2, _ => exact (by kernel_rfl : (Instr.slice 9 (.string ⟨#[48, 49, 50, 51, 52, 53, 54, 55, 56, 57, 97, 98, 99, 100, 101, 102]⟩) (some (.int .u8 ((2 : Nat) : Int))) (some (.int .u8 (((2 : Nat) : Int) + 1))) none).run Tryz.prog u = .ok (.string ⟨#[Oct.dg 2]⟩) u)
  | 3, _ => exact (by kernel_rfl : (Instr.slice 9 (.string ⟨#[48, 49, 50, 51, 52, 53, 54, 55, 56, 57, 97, 98, 99, 100, 101, 102]⟩) (some (.int .u8 ((3 : Nat) : Int))) (some (.int .u8 (((3 : Nat) : Int) + 1))) none).run Tryz.prog u = .ok (.string ⟨#[Oct.dg 3]⟩) u)
  | 4, _ => exact (by kernel_rfl : (Instr.slice 9 (.string ⟨#[48, 49, 50, 51, 52, 53, 54, 55, 56, 57, 97, 98, 99, 100, 101, 102]⟩) (some (.int .u8 ((4 : Nat) : Int))) (some (.int .u8 (((4 : Nat) : Int) + 1))) none).run Tryz.prog u = .ok (.string ⟨#[Oct.dg 4]⟩) u)
  | 5, _ => exact (by kernel_rfl : (Instr.slice 9 (.string ⟨#[48, 49, 50, 51, 52, 53, 54, 55, 56, 57, 97, 98, 99, 100, 101, 102]⟩) (some (.int .u8 ((5 : Nat) : Int))) (some (.int .u8 (((5 : Nat) : Int) + 1))) none).run Tryz.prog u = .ok (.string ⟨#[Oct.dg 5]⟩) u)
  | 6, _ => exact (by kernel_rfl : (Instr.slice 9 (.string ⟨#[48, 49, 50, 51, 52, 53, 54, 55, 56, 57, 97, 98, 99, 100, 101, 102]⟩) (some (.int .u8 ((6 : Nat) : Int))) (some (.int .u8 (((6 : Nat) : Int) + 1))) none).run Tryz.prog u = .ok (.string ⟨#[Oct.dg 6]⟩) u)
  | 7, _ => exact (by kernel_rfl : (Instr.slice 9 (.string ⟨#[48, 49, 50, 51, 52, 53, 54, 55, 56, 57, 97, 98, 99, 100, 101, 102]⟩) (some (.int .u8 ((7 : Nat) : Int))) (some (.int .u8 (((7 : Nat) : Int) + 1))) none).run Tryz.prog u = .ok (.string ⟨#[Oct.dg 7]⟩) u)
  | 8, _ => exact (by kernel_rfl : (Instr.slice 9 (.string ⟨#[48, 49, 50, 51, 52, 53, 54, 55, 56, 57, 97, 98, 99, 100, 101, 102]⟩) (some (.int .u8 ((8 : Nat) : Int))) (some (.int .u8 (((8 : Nat) : Int) + 1))) none).run Tryz.prog u = .ok (.string ⟨#[Oct.dg 8]⟩) u)
  | 9, _ => exact (by kernel_rfl : (Instr.slice 9 (.string ⟨#[48, 49, 50, 51, 52, 53, 54, 55, 56, 57, 97, 98, 99, 100, 101, 102]⟩) (some (.int .u8 ((9 : Nat) : Int))) (some (.int .u8 (((9 : Nat) : Int) + 1))) none).run Tryz.prog u = .ok (.string ⟨#[Oct.dg 9]⟩) u)
  | 10, _ => exact (by kernel_rfl : (Instr.slice 9 (.string ⟨#[48, 49, 50, 51, 52, 53, 54, 55, 56, 57, 97, 98, 99, 100, 101, 102]⟩) (some (.int .u8 ((10 : Nat) : Int))) (some (.int .u8 (((10 : Nat) : Int) + 1))) none).run Tryz.prog u = .ok (.string ⟨#[Oct.dg 10]⟩) u)
  | 11, _ => exact (by kernel_rfl : (Instr.slice 9 (.string ⟨#[48, 49, 50, 51, 52, 53, 54, 55, 56, 57, 97, 98, 99, 100, 101, 102]⟩) (some (.int .u8 ((11 : Nat) : Int))) (some (.int .u8 (((11 : Nat) : Int) + 1))) none).run Tryz.prog u = .ok (.string ⟨#[Oct.dg 11]⟩) u)
  | 12, _ => exact (by kernel_rfl : (Instr.slice 9 (.string ⟨#[48, 49, 50, 51, 52, 53, 54, 55, 56, 57, 97, 98, 99, 100, 101, 102]⟩) (some (.int .u8 ((12 : Nat) : Int))) (some (.int .u8 (((12 : Nat) : Int) + 1))) none).run Tryz.prog u = .ok (.string ⟨#[Oct.dg 12]⟩) u)
  | 13, _ => exact (by kernel_rfl : (Instr.slice 9 (.string ⟨#[48, 49, 50, 51, 52, 53, 54, 55, 56, 57, 97, 98, 99, 100, 101, 102]⟩) (some (.int .u8 ((13 : Nat) : Int))) (some (.int .u8 (((13 : Nat) : Int) + 1))) none).run Tryz.prog u = .ok (.string ⟨#[Oct.dg 13]⟩) u)
  | 14, _ => exact (by kernel_rfl : (Instr.slice 9 (.string ⟨#[48, 49, 50, 51, 52, 53, 54, 55, 56, 57, 97, 98, 99, 100, 101, 102]⟩) (some (.int .u8 ((14 : Nat) : Int))) (some (.int .u8 (((14 : Nat) : Int) + 1))) none).run Tryz.prog u = .ok (.string ⟨#[Oct.dg 14]⟩) u)
  | 15, _ => exact (by kernel_rfl : (Instr.slice 9 (.string ⟨#[48, 49, 50, 51, 52, 53, 54, 55, 56, 57, 97, 98, 99, 100, 101, 102]⟩) (some (.int .u8 ((15 : Nat) : Int))) (some (.int .u8 (((15 : Nat) : Int) + 1))) none).run Tryz.prog u = .ok (.string ⟨#[Oct.dg 15]⟩) u)
  | n + 16, h => omega

end Go.Proofs.YtibaibdgpnkdnaaGreatDoor
end

section
namespace Go.Proofs.YtibaibdgpnkdnaaGreatDoor
set_option maxRecDepth 100000
set_option linter.unusedSimpArgs false
set_option linter.unusedVariables false
open Go.RowKit

/-- What the reference's Split leaves. -/
def RSp (w : World) (l : List (List UInt8)) (er : Int) (e : Ending) (w' : World) : Prop :=
  ∃ (A : Option Addr) (c : Nat) (vs : List SV), e = .returned (.tuple #[.slice A l.length c, .int .i64 er]) ∧ vs.map SV.bs = l ∧ Byts w' w'.heap.size A vs ∧ Below w.heap.size w w'

theorem split_more (cur rest : List UInt8) (m : Nat) (hm : 1 ≤ m) (hc : cur.length = m) : Oct.split (cur ++ rest) m = cur :: Oct.split rest m := by
  rw [Oct.split_cons _ m hm (by rw [List.length_append]; omega)]
  rw [List.take_append_of_le_length (by omega), List.take_of_length_le (by omega), List.drop_append_of_le_length (by omega), List.drop_of_length_le (by omega)]
  rfl
theorem split_last (cur : List UInt8) (m : Nat) (hm : 1 ≤ m) (h0 : 0 < cur.length) (hc : cur.length ≤ m) : Oct.split cur m = [cur] := by
  rw [Oct.split_cons _ m hm h0, List.take_of_length_le hc, List.drop_of_length_le hc]; rfl
theorem drop_get (l : List UInt8) (k : Nat) (h : k < l.length) : l.drop k = l.getD k 0 :: l.drop (k + 1) := by
  rw [List.drop_eq_getElem_cons h]; simp [List.getD, List.getElem?_eq_getElem h]
/-- All blocks of the pieces lie below B0. -/
def Under (B0 : Nat) (vs : List SV) : Prop := ∀ v ∈ vs, v.c = 0 ∨ ∀ g, v.a.map (·.block) = some g → g < B0
theorem Own.under {w : World} {base : Nat} {t : TypeId} {s n c : Nat} {A : Option Addr} {cs : List Value} (h : Own w base t s A n c cs) : c = 0 ∨ ∀ g, A.map (·.block) = some g → g < w.heap.size := by
  rcases Nat.eq_zero_or_pos c with h0 | h0
  · exact .inl h0
  · refine .inr fun g hg => ?_
    obtain ⟨g1, cur, rfl, _, hh, _⟩ := h.2.2.2 h0
    simp at hg
    subst hg
    exact (Array.getElem?_eq_some_iff.1 hh).1
theorem own_apart {w : World} {B0 : Nat} {t : TypeId} {s n c : Nat} {A A' : Option Addr} {c' : Nat} {cs : List Value} (h : Own w B0 t s A n c cs) (hu : c' = 0 ∨ ∀ g, A'.map (·.block) = some g → g < B0) : c' = 0 ∨ ∀ g, A'.map (·.block) = some g → ownAt A c ≠ some g := by
  refine hu.imp_right fun hh g hg e => ?_
  have h1 := (h.lt g e).1
  have h2 := hh g hg
  omega

end Go.Proofs.YtibaibdgpnkdnaaGreatDoor
end

section
namespace Go.Proofs.YtibaibdgpnkdnaaGreatDoor
set_option maxRecDepth 100000
set_option linter.unusedSimpArgs false
set_option linter.unusedVariables false
open Go.RowKit

theorem ex_pad (A : Option Addr) (w : World) (h : Byt w w.heap.size A 2 2 [1, 2]) : Calls Tryz.prog 58 #[.slice A 2 2, .int .i64 4] w (BRes 5 w [1, 2, 128, 0] 0) := by
  have h := octets_Pad A 2 2 [1, 2] 4 w h (by omega)
  have e1 : Oct.padB [1, 2] 4 = [1, 2, 128, 0] := by decide +kernel
  have e2 : Oct.padE 4 = 0 := by decide +kernel
  rw [e1, e2] at h
  exact h
theorem ex_unpad1 (A : Option Addr) (w : World) (h : Byt w w.heap.size A 3 3 [0, 128, 0]) : Calls Tryz.prog 79 #[.slice A 3 3] w (BRes 5 w [0] 0) := by
  have h := octets_Unpad A 3 3 [0, 128, 0] w h (by omega)
  have e1 : Oct.unpB [0, 128, 0] = [0] := by decide +kernel
  have e2 : Oct.unpE [0, 128, 0] = 0 := by decide +kernel
  rw [e1, e2] at h
  exact h
theorem ex_unpad2 (A : Option Addr) (w : World) (h : Byt w w.heap.size A 2 2 [0, 0]) : Calls Tryz.prog 79 #[.slice A 2 2] w (BRes 5 w [] 4) := by
  have h := octets_Unpad A 2 2 [0, 0] w h (by omega)
  have e1 : Oct.unpB [0, 0] = [] := by decide +kernel
  have e2 : Oct.unpE [0, 0] = 4 := by decide +kernel
  rw [e1, e2] at h
  exact h
theorem ex_put1 (w : World) : Calls Tryz.prog 61 #[.int .i64 258, .int .i64 3] w (BRes 5 w [0, 1, 2] 0) := by
  have h := octets_Put 258 3 w (by omega)
  have e1 : Oct.ptB 258 3 = [0, 1, 2] := by decide +kernel
  have e2 : Oct.ptE 258 3 = 0 := by decide +kernel
  rw [e1, e2] at h
  exact h
theorem ex_put2 (w : World) : Calls Tryz.prog 61 #[.int .i64 256, .int .i64 1] w (BRes 5 w [] 2) := by
  have h := octets_Put 256 1 w (by omega)
  have e1 : Oct.ptB 256 1 = [] := by decide +kernel
  have e2 : Oct.ptE 256 1 = 2 := by decide +kernel
  rw [e1, e2] at h
  exact h
theorem ex_hex : Oct.hexS [10, 255] = [48, 97, 102, 102] ∧ Oct.hexS [1, 2, 128, 0] = [48, 49, 48, 50, 56, 48, 48, 48] ∧ Oct.hexS [0] = [48, 48] ∧ Oct.hexS [0, 1, 2] = [48, 48, 48, 49, 48, 50] ∧ Oct.hexS [3] = [48, 51] := by decide +kernel

end Go.Proofs.YtibaibdgpnkdnaaGreatDoor
end

section
namespace Go.Proofs.YtibaibdgpnkdnaaGreatDoor
set_option maxRecDepth 100000
set_option linter.unusedSimpArgs false
set_option linter.unusedVariables false
open Go.RowKit

theorem ex_cls1 (w : World) : Calls Tryz.prog 32 #[.int .i64 148] w fun e w' => e = .returned (.tuple #[infoV 0 true true true, .bool true]) ∧ Below w.heap.size w w' := by
  have h := apdu_Class 148 w
  have e1 : Apd.cok 148 = true := by decide +kernel
  have e2 : Apd.clsV 148 = infoV 0 true true true := by unfold Apd.clsV; rw [e1]; rfl
  rw [e1, e2] at h
  exact h
theorem ex_cls2 (w : World) : Calls Tryz.prog 32 #[.int .i64 8] w fun e w' => e = .returned (.tuple #[infoV 0 false false false, .bool false]) ∧ Below w.heap.size w w' := by
  have h := apdu_Class 8 w
  have e1 : Apd.cok 8 = false := by decide +kernel
  have e2 : Apd.clsV 8 = infoV 0 false false false := by unfold Apd.clsV; rw [e1]; rfl
  rw [e1, e2] at h
  exact h
theorem ex_apdhex : Oct.hexS [0, 164, 4, 0, 2, 160, 0, 0] = [48, 48, 97, 52, 48, 52, 48, 48, 48, 50, 97, 48, 48, 48, 48, 48] ∧ Oct.hexS [0, 164, 4, 0, 0, 0, 2, 160, 0, 1, 0] = [48, 48, 97, 52, 48, 52, 48, 48, 48, 48, 48, 48, 48, 50, 97, 48, 48, 48, 48, 49, 48, 48] := by decide +kernel

theorem Byt.after {w w' : World} {A : Option Addr} {n c : Nat} {bs : List UInt8} (h : Byt w w.heap.size A n c bs) (hb : Below w.heap.size w w') : Byt w' w'.heap.size A n c bs := (h.below hb).more hb.size
theorem Byt.alloc' {w : World} {A : Option Addr} {n c : Nat} {bs : List UInt8} (h : Byt w w.heap.size A n c bs) (o : Obj) : Byt (w.alloc o) (w.alloc o).heap.size A n c bs := h.after ((Below.refl _ _).alloc (Nat.le_refl _) o)
theorem Blk.after {w w' : World} {g : Nat} {t : TypeId} {cs : Array Value} (h : Blk w g t cs) (hb : Below w.heap.size w w') : Blk w' g t cs := h.below hb h.lt
theorem bgo {a w w' : World} (h : Below a.heap.size a w) (hb : Below w.heap.size w w') : Below a.heap.size a w' := h.trans (hb.mono h.size)
theorem bal {a w : World} (h : Below a.heap.size a w) (o : Obj) : Below a.heap.size a (w.alloc o) := h.alloc h.size o
theorem twoB (w : World) (t s : TypeId) (X Y : Array Value) : Blk ((w.alloc (.cells X t)).alloc (.cells Y s)) w.heap.size t X ∧ Blk ((w.alloc (.cells X t)).alloc (.cells Y s)) (w.heap.size + 1) s Y ∧ Below w.heap.size w ((w.alloc (.cells X t)).alloc (.cells Y s)) :=
  ⟨(Blk.new w t X).alloc _, Blk.new' (g := w.heap.size + 1) (w.alloc (.cells X t)) (by simp) rfl, bal (bal (Below.refl w.heap.size w) _) _⟩
theorem byt_new {w : World} {g n : Nat} {t : TypeId} {bs : List UInt8} {X : Array Value} (h : Blk w g t X) (hX : X = (bcells bs).toArray) (hn : bs.length = n) : Byt w w.heap.size (some ⟨g, 0, none⟩) n n bs := by
  subst hX; exact byt_blk h h.lt hn

end Go.Proofs.YtibaibdgpnkdnaaGreatDoor
end

section
namespace Go.Proofs.YtibaibdgpnkdnaaGreatDoor
set_option maxRecDepth 100000
set_option linter.unusedSimpArgs false
set_option linter.unusedVariables false
open Go.RowKit

/-- Are two commands equal? -/
def Apd.smB (a0 a1 a2 a3 : Int) (d : List UInt8) (le : Int) (lg : Bool) (b0 b1 b2 b3 : Int) (d' : List UInt8) (le' : Int) (lg' : Bool) : Bool :=
  (a0 == b0) && (a1 == b1) && (a2 == b2) && (a3 == b3) && (le == le') && (lg == lg') && Oct.same d d'
theorem Apd.smB_iff (a0 a1 a2 a3 : Int) (d : List UInt8) (le : Int) (lg : Bool) (b0 b1 b2 b3 : Int) (d' : List UInt8) (le' : Int) (lg' : Bool) :
    Apd.smB a0 a1 a2 a3 d le lg b0 b1 b2 b3 d' le' lg' = true ↔ a0 = b0 ∧ a1 = b1 ∧ a2 = b2 ∧ a3 = b3 ∧ le = le' ∧ lg = lg' ∧ d = d' := by
  simp [Apd.smB, Oct.same, and_assoc]
theorem Apd.smB_refl (a0 a1 a2 a3 : Int) (d : List UInt8) (le : Int) (lg : Bool) : Apd.smB a0 a1 a2 a3 d le lg a0 a1 a2 a3 d le lg = true := by
  rw [Apd.smB_iff]; exact ⟨rfl, rfl, rfl, rfl, rfl, rfl, rfl⟩
/-- Are two responses equal? -/
def Apd.srB (d : List UInt8) (sw : Int) (d' : List UInt8) (sw' : Int) : Bool := (sw == sw') && Oct.same d d'

set_option maxRecDepth 100000 in
set_option maxHeartbeats 8000000 in
theorem ref04_Same (a0 a1 a2 a3 : Int) (A : Option Addr) (n c : Nat) (d : List UInt8) (le : Int) (lg : Bool) (b0 b1 b2 b3 : Int) (A' : Option Addr) (n' c' : Nat) (d' : List UInt8) (le' : Int) (lg' : Bool) (w : World)
    (h : Byt w w.heap.size A n c d) (h' : Byt w w.heap.size A' n' c' d') (hn : n ≤ 9223372036854775807) (hn' : n' ≤ 9223372036854775807) :
    Calls Tryz.prog 19 #[cmdV a0 a1 a2 a3 A n c le lg, cmdV b0 b1 b2 b3 A' n' c' le' lg'] w fun e w' => e = .returned (.bool (Apd.smB a0 a1 a2 a3 d le lg b0 b1 b2 b3 d' le' lg')) ∧ Below w.heap.size w w' := by
  have HB := Lib.hid (fun o o' => bal (bal (Below.refl w.heap.size w) o) o')
  have HY := Lib.hid (fun o o' => (h.alloc' o).alloc' o')
  have HY' := Lib.hid (fun o o' => (h'.alloc' o).alloc' o')
  clear h h'
  unfold cmdV
  cases t0 : (a0 == b0) with
  | false =>
    have e : Apd.smB a0 a1 a2 a3 d le lg b0 b1 b2 b3 d' le' lg' = false := by unfold Apd.smB; rw [t0]; simp
    have HE := Lib.hid e
    clear e HY HY'
    go_enter Tryz.func19, Tryz.ntmps19
    go_wp2_with fail
    go_ret
    rw [HE.out]
    exact ⟨rfl, HB.out _ _⟩
  | true =>
  obtain rfl := eq_of_beq t0
  clear t0
  cases t1 : (a1 == b1) with
  | false =>
    have e : Apd.smB a0 a1 a2 a3 d le lg a0 b1 b2 b3 d' le' lg' = false := by unfold Apd.smB; rw [t1]; simp
    have HE := Lib.hid e
    clear e HY HY'
    go_enter Tryz.func19, Tryz.ntmps19
    go_wp2_with fail
    go_ret
    rw [HE.out]
    exact ⟨rfl, HB.out _ _⟩
  | true =>
  obtain rfl := eq_of_beq t1
  clear t1
  cases t2 : (a2 == b2) with
  | false =>
    have e : Apd.smB a0 a1 a2 a3 d le lg a0 a1 b2 b3 d' le' lg' = false := by unfold Apd.smB; rw [t2]; simp
    have HE := Lib.hid e
    clear e HY HY'
    go_enter Tryz.func19, Tryz.ntmps19
    go_wp2_with fail
    go_ret
    rw [HE.out]
    exact ⟨rfl, HB.out _ _⟩
  | true =>
  obtain rfl := eq_of_beq t2
  clear t2
  cases t3 : (a3 == b3) with
  | false =>
    have e : Apd.smB a0 a1 a2 a3 d le lg a0 a1 a2 b3 d' le' lg' = false := by unfold Apd.smB; rw [t3]; simp
    have HE := Lib.hid e
    clear e HY HY'
    go_enter Tryz.func19, Tryz.ntmps19
    go_wp2_with fail
    go_ret
    rw [HE.out]
    exact ⟨rfl, HB.out _ _⟩
  | true =>
  obtain rfl := eq_of_beq t3
  clear t3
  cases t4 : (le == le') with
  | false =>
    have e : Apd.smB a0 a1 a2 a3 d le lg a0 a1 a2 a3 d' le' lg' = false := by unfold Apd.smB; rw [t4]; simp
    have HE := Lib.hid e
    clear e HY HY'
    go_enter Tryz.func19, Tryz.ntmps19
    go_wp2_with fail
    go_ret
    rw [HE.out]
    exact ⟨rfl, HB.out _ _⟩
  | true =>
  obtain rfl := eq_of_beq t4
  clear t4
  cases t5 : (lg == lg') with
  | false =>
    have e : Apd.smB a0 a1 a2 a3 d le lg a0 a1 a2 a3 d' le lg' = false := by unfold Apd.smB; rw [t5]; simp
    have HE := Lib.hid e
    clear e HY HY'
    go_enter Tryz.func19, Tryz.ntmps19
    go_wp2_with fail
    go_ret
    rw [HE.out]
    exact ⟨rfl, HB.out _ _⟩
  | true =>
  obtain rfl := eq_of_beq t5
  clear t5
  have e : Apd.smB a0 a1 a2 a3 d le lg a0 a1 a2 a3 d' le lg = Oct.same d d' := by simp [Apd.smB]
  have HE := Lib.hid e
  clear e
  go_enter Tryz.func19, Tryz.ntmps19
  go_wp2_with (go_at_call 27; refine (ref01_Same _ _ _ _ _ _ _ _ _ (HY.out _ _) (HY'.out _ _) hn hn').mono ?_; rintro e w1 ⟨rfl, q, rfl⟩)
  go_ret
  rw [HE.out]
  exact ⟨rfl, Below.drewN (HB.out _ _) q⟩

set_option maxRecDepth 100000 in
set_option maxHeartbeats 8000000 in
theorem ref04_SameResponse (A : Option Addr) (n c : Nat) (d : List UInt8) (sw : Int) (A' : Option Addr) (n' c' : Nat) (d' : List UInt8) (sw' : Int) (w : World)
    (h : Byt w w.heap.size A n c d) (h' : Byt w w.heap.size A' n' c' d') (hn : n ≤ 9223372036854775807) (hn' : n' ≤ 9223372036854775807) :
    Calls Tryz.prog 23 #[rspV A n c sw, rspV A' n' c' sw'] w fun e w' => e = .returned (.bool (Apd.srB d sw d' sw')) ∧ Below w.heap.size w w' := by
  have HB := Lib.hid (fun o o' => bal (bal (Below.refl w.heap.size w) o) o')
  have HY := Lib.hid (fun o o' => (h.alloc' o).alloc' o')
  have HY' := Lib.hid (fun o o' => (h'.alloc' o).alloc' o')
  clear h h'
  unfold rspV
  cases t0 : (sw == sw') with
  | false =>
    have e : Apd.srB d sw d' sw' = false := by unfold Apd.srB; rw [t0]; simp
    have HE := Lib.hid e
    clear e HY HY'
    go_enter Tryz.func23, Tryz.ntmps23
    go_wp2_with fail
    go_ret
    rw [HE.out]
    exact ⟨rfl, HB.out _ _⟩
  | true =>
  obtain rfl := eq_of_beq t0
  clear t0
  have e : Apd.srB d sw d' sw = Oct.same d d' := by simp [Apd.srB]
  have HE := Lib.hid e
  clear e
  go_enter Tryz.func23, Tryz.ntmps23
  go_wp2_with (go_at_call 27; refine (ref01_Same _ _ _ _ _ _ _ _ _ (HY.out _ _) (HY'.out _ _) hn hn').mono ?_; rintro e w1 ⟨rfl, q, rfl⟩)
  go_ret
  rw [HE.out]
  exact ⟨rfl, Below.drewN (HB.out _ _) q⟩
end Go.Proofs.YtibaibdgpnkdnaaGreatDoor
end

section
namespace Go.Proofs.YtibaibdgpnkdnaaGreatDoor
set_option maxRecDepth 100000
set_option linter.unusedSimpArgs false
set_option linter.unusedVariables false
open Go.RowKit
set_option maxHeartbeats 4000000

theorem Only.same {w w' : World} {g : Nat} {t : TypeId} {cs : Array Value} (ho : Only (fun q => q = g) w w') (h : Blk w g t cs) (h' : Blk w' g t cs) : Below w.heap.size w w' :=
  ⟨ho.os, ho.tape, ho.output, ho.size, fun k hk => by
    by_cases e : k = g
    · subst e; unfold Blk at h h'; rw [h, h']
    · exact ho.block k hk e⟩
theorem Mem.low {w0 w : World} {L : List Ent} {O : List Osl} (hm : Mem (fun _ => False) w0 w L O) : Below w0.heap.size w0 w := hm.only.below (Nat.le_refl _) (fun _ _ e => e)
theorem Byt.low {w0 w : World} {L : List Ent} {O : List Osl} {A : Option Addr} {n c : Nat} {bs : List UInt8} (h : Byt w0 w0.heap.size A n c bs) (hm : Mem (fun _ => False) w0 w L O) : Byt w w.heap.size A n c bs := (h.below hm.low).more hm.only.size
theorem Byt.only {w w' : World} {A : Option Addr} {n c : Nat} {bs : List UInt8} {R : Nat → Prop} (h : Byt w w.heap.size A n c bs) (ho : Only R w w') (hg : ∀ a, A = some a → 0 < n → ¬ R a.block) : Byt w' w'.heap.size A n c bs := by
  refine ⟨h.1, h.2.1, fun hn => ?_⟩
  obtain ⟨b, o, e, hb, hc⟩ := h.2.2 hn
  refine ⟨b, o, e, Nat.lt_of_lt_of_le hb ho.size, fun j hj => ?_⟩
  rw [← hc j hj]
  have h0 : 0 < n := by rw [length_bcells, h.1] at hn; exact hn
  have := ho.block b hb (hg _ e h0)
  unfold World.cell?
  rw [this]
theorem Mem.fresh {R : Nat → Prop} {s w : World} {L : List Ent} {O : List Osl} {x : Osl} (hm : Mem R s w L O) (k : Nat) (hk : O[k]? = some x) (hR : ∀ q, R q → ∃ e ∈ L, e.g = q) : Own w s.heap.size x.t x.s x.A x.n x.c x.cs := by
  have hmem := List.mem_of_getElem? hk
  have h := hm.sl _ hmem
  refine ⟨h.1, h.2.1, h.2.2.1, fun hc => ?_⟩
  obtain ⟨g, cur, e, hb, r⟩ := h.2.2.2 hc
  have hq : ownAt x.A x.c = some g := by unfold ownAt; rw [if_neg (by omega), e]; rfl
  refine ⟨g, cur, e, ?_, r⟩
  rcases hm.slR _ hmem g hq with h1 | h1
  · obtain ⟨e2, he, h2⟩ := hR g h1
    exact absurd (h2 ▸ hq) (hm.slL _ hmem e2 he)
  · exact h1
theorem Mem.own_ {w0 w : World} {L : List Ent} {O : List Osl} {x : Osl} (hm : Mem (fun _ => False) w0 w L O) (k : Nat) (hk : O[k]? = some x) : Own w w0.heap.size x.t x.s x.A x.n x.c x.cs := hm.fresh k hk (fun q hq => hq.elim)
theorem Mem.quiet {w w' : World} {L : List Ent} {O : List Osl} {g : Nat} {t : TypeId} {cs : Array Value} (hm : Mem (fun q => q = g) w w' (⟨g, t, cs⟩ :: L) O) (hb : Blk w g t cs) : Below w.heap.size w w' := Only.same hm.only hb (hm.at_ 0 rfl)
/-- A call that hands back bytes of its own. -/
def ORes (w : World) (bs : List UInt8) (e : Ending) (w' : World) : Prop :=
  ∃ A c, e = .returned (.slice A bs.length c) ∧ Own w' w.heap.size 5 1 A bs.length c (bcells bs) ∧ Below w.heap.size w w'
theorem ORes.len {w : World} {bs : List UInt8} {e : Ending} {w' : World} (h : ORes w bs e w') {n : Nat} (hn : bs.length = n) : ∃ A c, e = .returned (.slice A n c) ∧ Own w' w.heap.size 5 1 A n c (bcells bs) ∧ Below w.heap.size w w' := by
  subst hn; exact h
theorem ORes.mk {R : Nat → Prop} {L : List Ent} {O : List Osl} {w0 w : World} {bs X : List UInt8} {A : Option Addr} {n c : Nat} (hm : Mem R w0 w L O) (k : Nat) (hk : O[k]? = some ⟨5, 1, A, n, c, bcells X⟩) (hX : X = bs) (hn : bs.length = n) (hR : ∀ q, ¬ R q) : ORes w0 bs (.returned (.slice A n c)) w := by
  subst hX
  subst hn
  exact ⟨A, c, rfl, hm.fresh k hk (fun q hq => absurd hq (hR q)), hm.only.below (Nat.le_refl _) (fun _ _ => hR _)⟩
theorem Byt.sup {w : World} {A : Option Addr} {n c : Nat} {bs : List UInt8} (h : Byt w w.heap.size A n c bs) : Sup w (blks #[.slice A n c]) (fun u => Byt u u.heap.size A n c bs) := by
  have hin : 0 < n → ∀ a, A = some a → blks #[.slice A n c] a.block := fun hn a e => ⟨A, n, c, a, by simp, hn, e, rfl⟩
  refine ⟨h, fun q hq => ?_, fun R w' ho hd => h.only ho fun a e hn => hd _ (hin hn a e)⟩
  obtain ⟨A', n', c', a, hm, hn, e, rfl⟩ := hq
  simp at hm
  obtain ⟨rfl, rfl, rfl⟩ := hm
  obtain ⟨b, o, e2, hb⟩ := h.at_ hn
  rw [e] at e2; injection e2 with e2; subst e2
  exact hb
theorem ORes.nil {w w' : World} (h : Below w.heap.size w w') : ORes w [] (.returned (.slice none 0 0)) w' := ⟨none, 0, rfl, Own.none_ _ _ _ _ _, h⟩
/-- A slice that a call has made, with the whole of its block. -/
theorem Mem.gotB {R : Nat → Prop} {s w w' : World} {L : List Ent} {O : List Osl} {q : Nat} {t : TypeId} {cs : Array Value} (hm : Mem R s w L O) (hb : Below w.heap.size w w') (hq : w.heap.size ≤ q) (hB : Blk w' q t cs) : Mem R s w' (⟨q, t, cs⟩ :: L) O :=
  (hm.below hb).cons hB (.inr (Nat.le_trans hm.only.size hq)) (fun e he e2 => by have := hm.lt he; omega) (fun x hx e => by have := hm.slt hx e; omega)
theorem Own.whole {w : World} {base : Nat} {t : TypeId} {A : Option Addr} {n c : Nat} {x : UInt8} {xs : List UInt8} (h : Own w base t 1 A n c (bcells (x :: xs))) :
    ∃ q tl, A = some ⟨q, 0, none⟩ ∧ base ≤ q ∧ Blk w q t (B8 x :: (bcells xs ++ tl)).toArray := by
  have hn := h.len
  have hle := h.le
  have hn1 : (bcells (x :: xs)).length = xs.length + 1 := by simp
  obtain ⟨q, cur, e, hb, hh, _, ht⟩ := h.2.2.2 (by omega)
  refine ⟨q, cur.toList.drop (n * 1), e, hb, ?_⟩
  have : cur = (B8 x :: (bcells xs ++ cur.toList.drop (n * 1))).toArray := by
    apply Array.toList_inj.1
    show cur.toList = bcells (x :: xs) ++ cur.toList.drop (n * 1)
    rw [← ht, List.take_append_drop]
  unfold Blk
  rw [hh, ← this]
theorem Blk.byt {w : World} {q : Nat} {t : TypeId} {n c : Nat} {x : UInt8} {xs : List UInt8} {tl : List Value} (h : Blk w q t (B8 x :: (bcells xs ++ tl)).toArray) (hn : xs.length + 1 = n) (hc : n ≤ c) : Byt w w.heap.size (some ⟨q, 0, none⟩) n c (x :: xs) := by
  refine ⟨by simpa using hn, hc, ?_⟩
  have hr := h.row.take n
  rwa [show ((B8 x :: (bcells xs ++ tl)).toArray.toList).take n = bcells (x :: xs) by
    show (bcells (x :: xs) ++ tl).take n = _
    rw [List.take_left' (by simpa using hn)]] at hr
theorem ORes.of {w0 w : World} {bs : List UInt8} {A : Option Addr} {n c : Nat} (hn : bs.length = n) (ho : Own w w0.heap.size 5 1 A n c (bcells bs)) (hb : Below w0.heap.size w0 w) : ORes w0 bs (.returned (.slice A n c)) w := by subst hn; exact ⟨A, c, rfl, ho, hb⟩
/-- The one block that might have turned has not. -/
theorem Mem.still {w w' : World} {L : List Ent} {O : List Osl} {g : Nat} {t : TypeId} {cs : Array Value} (hm : Mem (fun q => q = g) w w' L O) (k : Nat) (hk : L[k]? = some ⟨g, t, cs⟩) (hb : Blk w g t cs) : Below w.heap.size w w' := Only.same hm.only hb (hm.at_ k hk)
theorem Mem.freshG {w w' : World} {L : List Ent} {O : List Osl} {g : Nat} {t : TypeId} {cs : Array Value} {x : Osl} (hm : Mem (fun q => q = g) w w' L O) (k j : Nat) (hk : L[k]? = some ⟨g, t, cs⟩) (hj : O[j]? = some x) : Own w' w.heap.size x.t x.s x.A x.n x.c x.cs :=
  hm.fresh j hj (fun q hq => ⟨_, List.mem_of_getElem? hk, hq.symm⟩)
end Go.Proofs.YtibaibdgpnkdnaaGreatDoor
end

section
namespace Go.Proofs.YtibaibdgpnkdnaaGreatDoor
set_option maxRecDepth 100000
set_option linter.unusedSimpArgs false
set_option linter.unusedVariables false
open Go.RowKit

theorem bytSup {w : World} {A : Option Addr} {n c : Nat} {bs : List UInt8} (h : Byt w w.heap.size A n c bs) : Sup w (blks #[.slice A n c]) (fun u => Byt u u.heap.size A n c bs) := by
  have hin : 0 < n → ∀ a, A = some a → blks #[.slice A n c] a.block := fun hn a e => ⟨A, n, c, a, by simp, hn, e, rfl⟩
  refine ⟨h, fun q hq => ?_, fun R w' ho hd => h.only ho fun a e hn => hd _ (hin hn a e)⟩
  obtain ⟨A', n', c', a, hm, hn, e, rfl⟩ := hq
  simp at hm
  obtain ⟨rfl, rfl, rfl⟩ := hm
  obtain ⟨b, o, e2, hb⟩ := h.at_ hn
  rw [e] at e2; injection e2 with e2; subst e2
  exact hb
theorem Scn.asVal {w0 w : World} {L : List Ent} {O : List Osl} {Fs Vs : List Thing} (h : Scn w0 w L O Fs Vs) (i : Nat) {A : Option Addr} {n c : Nat} {t : TypeId} {bs : List UInt8} (hi : O[i]? = some ⟨t, 1, A, n, c, bcells bs⟩) :
    Scn w0 w L O Fs (Vs ++ [⟨blks #[.slice A n c], fun u => Byt u u.heap.size A n c bs⟩]) := by
  have hb := h.byt i hi
  have hc := hb.2.1
  refine ⟨h.cal, h.fs, fun x hx => ?_⟩
  rcases List.mem_append.1 hx with hx | hx
  · exact h.vs x hx
  · obtain rfl := List.mem_singleton.1 hx
    have key : ∀ q, blks #[.slice A n c] q → ownAt A c = some q := by
      intro q hq
      obtain ⟨A', n', c', a, hm, hn, e, rfl⟩ := hq
      simp at hm
      obtain ⟨rfl, rfl, rfl⟩ := hm
      exact ownAt_some (Nat.lt_of_lt_of_le hn hc) e
    refine ⟨bytSup hb, fun y hy q hy2 hq2 => ?_, fun e he hq2 => ?_⟩
    · exact h.cal.ds _ (List.mem_map.2 ⟨y, hy, rfl⟩) _ (List.mem_of_getElem? hi) q (key q hq2) hy2
    · exact h.cal.mem.slL _ (List.mem_of_getElem? hi) e he (key _ hq2)
theorem Scn.bytV {w0 w : World} {L : List Ent} {O : List Osl} {Fs Vs : List Thing} (h : Scn w0 w L O Fs Vs) (i k : Nat) {x : Thing} (hk : Fs[k]? = some x) {A : Option Addr} {n c : Nat} {bs : List UInt8} (hi : Vs[i]? = some ⟨blks #[.slice A n c], fun u => Byt u u.heap.size A n c bs⟩) : Byt w w.heap.size A n c bs ∧ ∀ a, A = some a → 0 < n → ¬ x.G a.block :=
  ⟨h.val i hi, fun a e hn hq => (h.vs _ (List.mem_of_getElem? hi)).2.1 x (List.mem_of_getElem? hk) a.block hq ⟨A, n, c, a, by simp, hn, e, rfl⟩⟩
end Go.Proofs.YtibaibdgpnkdnaaGreatDoor
end

section
namespace Go.Proofs.YtibaibdgpnkdnaaGreatDoor
set_option maxRecDepth 100000
set_option linter.unusedSimpArgs false
set_option linter.unusedVariables false
open Go.RowKit

theorem Mem.openB {R : Nat → Prop} {s w : World} {L : List Ent} {t : TypeId} {A : Option Addr} {n c : Nat} {bs : List UInt8} (hm : Mem R s w L [⟨t, 1, A, n, c, bcells bs⟩]) (h0 : 0 < n) :
    ∃ (q : Nat) (cs : Array Value), A = some ⟨q, 0, none⟩ ∧ cs.toList.take n = bcells bs ∧ n ≤ cs.size ∧ n ≤ c ∧ Mem R s w (⟨q, t, cs⟩ :: L) [] := by
  have hs := hm.sl_ 0 rfl
  have hle := hs.2.1
  dsimp only at hle
  obtain ⟨q, cur, e, _, hh, hc, ht⟩ := hs.2.2.2 (by show 0 < c; omega)
  dsimp only at e hh hc ht
  have ho : ownAt A c = some q := by unfold ownAt; rw [if_neg (by omega), e]; rfl
  have h1 : Mem R s w L [] := hm.less (O := [])
  refine ⟨q, cur, e, by simpa using ht, by omega, hle, ?_⟩
  exact h1.cons hh (hm.slR _ (List.mem_singleton_self _) q ho) (fun e2 he e3 => hm.slL _ (List.mem_singleton_self _) e2 he (by rw [ho, e3])) (fun x hx => by cases hx)
theorem cell_of_take {cs : Array Value} {n : Nat} {bs : List UInt8} (h : cs.toList.take n = bcells bs) {i : Nat} (hi : i < bs.length) : cs[i]? = some (B8 (bs.getD i 0)) := by
  have h1 : (cs.toList.take n)[i]? = some (B8 (bs.getD i 0)) := by rw [h, bcells_get]; simp [List.getD, hi]
  rw [List.getElem?_take] at h1
  split at h1
  · rw [← h1]; simp
  · cases h1
theorem take_spl {cs : Array Value} {n : Nat} {bs : List UInt8} (h : cs.toList.take n = bcells bs) {i : Nat} (hi : i < bs.length) (b : UInt8) : (spl cs i #[B8 b]).toList.take n = bcells (bs.set i b) := by
  have hl : i < cs.toList.length := by
    have h1 : (cs.toList.take n).length = bs.length := by rw [h, length_bcells]
    rw [List.length_take] at h1
    omega
  have e : (spl cs i #[B8 b]).toList = cs.toList.set i (B8 b) := by
    rw [List.set_eq_take_append_cons_drop, if_pos hl]
    simp [spl]
  rw [e, List.take_set, h]
  simp [bcells, List.map_set]
theorem byt_of_take {w : World} {q : Nat} {t : TypeId} {cs : Array Value} {n c : Nat} {bs : List UInt8} (h : Blk w q t cs) (ht : cs.toList.take n = bcells bs) (hn : bs.length = n) (hc : n ≤ c) : Byt w w.heap.size (some ⟨q, 0, none⟩) n c bs :=
  ⟨hn, hc, by have := h.row.take n; rwa [ht] at this⟩
theorem Scn.entVal {w0 w : World} {L : List Ent} {O : List Osl} {Fs Vs : List Thing} {q : Nat} {t : TypeId} {cs : Array Value} {n c : Nat} {bs : List UInt8} (h : Scn w0 w (⟨q, t, cs⟩ :: L) O Fs Vs) (hb : Byt w w.heap.size (some ⟨q, 0, none⟩) n c bs) :
    Scn w0 w L O Fs (Vs ++ [⟨blks #[.slice (some ⟨q, 0, none⟩) n c], fun u => Byt u u.heap.size (some ⟨q, 0, none⟩) n c bs⟩]) := by
  have h2 := h.part (List.sublist_cons_self _ _) (List.Sublist.refl O) (List.Sublist.refl Vs)
  refine ⟨h2.cal, h2.fs, fun x hx => ?_⟩
  rcases List.mem_append.1 hx with hx | hx
  · exact h2.vs x hx
  · obtain rfl := List.mem_singleton.1 hx
    have key : ∀ p, blks #[.slice (some ⟨q, 0, none⟩) n c] p → p = q := by
      intro p hp
      obtain ⟨A', n', c', a, hm, hn, e, rfl⟩ := hp
      simp at hm
      obtain ⟨rfl, rfl, rfl⟩ := hm
      cases e; rfl
    refine ⟨bytSup hb, fun y hy p hp hp2 => ?_, fun e he hp2 => ?_⟩
    · have := key p hp2
      subst this
      exact h.cal.dl _ (List.mem_map.2 ⟨y, hy, rfl⟩) _ (List.mem_cons_self) hp
    · have hd := h.cal.mem.diff
      rw [List.map_cons, List.nodup_cons] at hd
      exact hd.1 (List.mem_map.2 ⟨e, he, key _ hp2⟩)
end Go.Proofs.YtibaibdgpnkdnaaGreatDoor
end
