/-
  A range over a function whose iterator, and whose body, turn cells: the loop's law, and how the walk's steps are taken in a round. Nothing here names a program.
-/
import Derived.Test.YtnlhammgcemchaaZ0
import Derived.RangeFuncLeaves
import Derived.RangeFuncFrom
import Derived.TacticsInMore
import Derived.OrdersIn
namespace Go.Proofs.Ytnlhammgcemchaa
set_option maxRecDepth 100000
set_option linter.unusedSimpArgs false
set_option linter.unusedVariables false
open Go.RowKit

/-- The fence that lets all in; in the rounds of a loop, or in none. -/
abbrev Wd (ro : Option Nat) : Fence := { Fence.wide with round := ro }
def notDefer (o : Oper) : Bool := match o.op with
  | .defer _ => false
  | _ => true
section
variable {P : Program} {ops : Array Oper} {ro : Option Nat} {n : Nat} {Q Q' : Exit → Act → World → Prop} {a : Act} {w : World} {o : Oper}
theorem callsIn_wd {f : FuncId} {args : Array Value} {R : Ending → World → Prop} (h : Calls P f args w R) : CallsIn (Wd ro) n P f args w R := (callsIn_wide (n := n)).2 h
theorem rowsIn_wd {row : String} {args : Array Value} {R : Value → World → Prop} (h : Rows P row args w R) : RowsIn (Wd ro) n P row args w R :=
  fun c cs _ => let ⟨v, w', r, s⟩ := h c cs; ⟨v, w', r, (show StepsIn (Machine.fenced P Fence.wide) P _ _ from stepsIn_wide.2 s)⟩
theorem oper_in {next next' : Act → World → Prop} (hd : notDefer o = true) (hn : ∀ a w, next a w → next' a w) (hq : ∀ e a w, e ≠ .normal → Q e a w → Q' e a w) (h : o.wp P a w next Q) : o.wpIn (Wd ro) n P a w next' Q' := by
  refine ⟨fun _ _ => trivial, ?_⟩
  rw [Oper.semAt_eq _ _ _ (fun c hc => by unfold notDefer at hd; rw [hc] at hd; cases hd)]
  unfold Oper.wp at h
  revert h
  generalize (execOp a.eval o).run P w = r
  intro h
  cases r with
  | ok v w' =>
    cases v with
    | value v => exact hn _ _ h
    | skip => exact hn _ _ h
    | defer d => exact hn _ _ h
    | enter f args =>
      refine ⟨(fun h => by cases h), callsIn_wd (Calls.mono h fun e w2 h2 => ?_)⟩
      cases e with
      | returned v => exact hn _ _ h2
      | panicked c => exact hq _ _ _ (by intro e; cases e) h2
      | outgrown =>
        obtain ⟨a2, w3, h3⟩ := h2
        exact ⟨a2, w3, hq _ _ _ (by intro e; cases e) h3⟩
    | row row args => exact ⟨(fun h => by cases h), rowsIn_wd (Rows.mono h fun v w2 h2 => hn _ _ h2)⟩
    | round l f t x y => exact h.elim
    | _ => exact h.elim
  | halt hh w' =>
    cases hh with
    | panic v => exact hq _ _ _ (by intro e; cases e) h
    | _ => exact h.elim
/-- Where a list of operations is walked, and then the rest. -/
def Upto (R : Act → World → Prop) : Exit → Act → World → Prop
  | .normal, a, w => R a w
  | _, _, _ => False
theorem list_in_app (l₂ : List Oper) : ∀ (l₁ : List Oper) (a : Act) (w : World), l₁.all notDefer = true → wpList P ops (Upto (wpListIn (Wd ro) n P ops Q l₂)) l₁ a w → wpListIn (Wd ro) n P ops Q (l₁ ++ l₂) a w := by
  intro l₁
  induction l₁ with
  | nil => intro a w _ h; exact h
  | cons o l ih =>
    intro a w hd h
    rw [List.all_cons, Bool.and_eq_true] at hd
    unfold wpList at h
    show wpListIn _ _ _ _ _ (o :: (l ++ l₂)) a w
    unfold wpListIn
    split
    · rename_i hw
      rw [if_pos hw] at h
      rcases h with h | ⟨_, h⟩
      · exact oper_in hd.1 (fun a w h => ih a w hd.2 h) (fun e a w he h => by cases e <;> first | exact absurd rfl he | exact h.elim) h
      · obtain ⟨_, _, h⟩ := h; exact h.elim
    · rename_i hw
      rw [if_neg hw] at h
      exact ⟨fun _ _ => trivial, ih _ _ hd.2 h⟩
theorem list_in (hQ : ∀ a w, ¬ Q .outgrown a w) : ∀ (l : List Oper) (a : Act) (w : World), l.all notDefer = true → wpList P ops Q l a w → wpListIn (Wd ro) n P ops Q l a w := by
  intro l
  induction l with
  | nil => intro a w _ h; exact h
  | cons o l ih =>
    intro a w hd h
    rw [List.all_cons, Bool.and_eq_true] at hd
    unfold wpList at h
    unfold wpListIn
    split
    · rename_i hw
      rw [if_pos hw] at h
      rcases h with h | ⟨_, h⟩
      · exact oper_in hd.1 (fun a w h => ih a w hd.2 h) (fun e a w _ h => h) h
      · obtain ⟨_, _, h⟩ := h; exact absurd h (hQ _ _)
    · rename_i hw
      rw [if_neg hw] at h
      exact ⟨fun _ _ => trivial, ih _ _ hd.2 h⟩
/-- A region, in a round. -/
theorem region_in {id : Nat} {l : List Oper} (hd : l.all notDefer = true) (hQ : ∀ a w, ¬ Q .outgrown a w) (h : wpList P l.toArray Q l a w) : (Code.region id l.toArray false).wpIn (Wd ro) n P Q a w :=
  wpIn_region_lit (list_in hQ l a w hd h)
theorem any_in {md : Region.Mode} (hQ : ∀ a w, ¬ Q .outgrown a w) (hd : ∀ (i : Nat) (o : Oper), ops[i]? = some o → notDefer o = true) : ∀ (fuel : Nat) (listed : Array Bool) (a : Act) (w : World), wpAny P md ops Q fuel listed a w → wpAnyIn (Wd ro) n P md ops Q fuel listed a w := by
  intro fuel
  induction fuel with
  | zero => intro listed a w h; exact h
  | succ k ih =>
    intro listed a w h
    refine ⟨h.1, fun i hi => ?_⟩
    have h2 := h.2 i hi
    unfold wpOp at h2
    unfold wpOpIn
    cases ho : ops[i]? with
    | none => rw [ho] at h2; exact ih _ _ _ h2
    | some o =>
      rw [ho] at h2
      simp only at h2 ⊢
      split
      · rename_i hw
        rw [if_pos hw] at h2
        rcases h2 with h2 | ⟨_, h2⟩
        · exact oper_in (hd i o ho) (fun a w h => ih _ a w h) (fun e a w _ h => h) h2
        · obtain ⟨_, _, h2⟩ := h2; exact absurd h2 (hQ _ _)
      · rename_i hw
        rw [if_neg hw] at h2
        exact ⟨fun _ _ => trivial, ih _ _ _ h2⟩
theorem notDefer_of {l : List Oper} (h : l.all notDefer = true) (i : Nat) (o : Oper) (ho : l.toArray[i]? = some o) : notDefer o = true := by
  rw [List.getElem?_toArray] at ho
  exact List.all_eq_true.1 h o (List.mem_of_getElem? ho)
/-- A region that draws its order, in a round. -/
theorem drawn_in {id : Nat} {l : List Oper} (hm : P.follows .mixedOrders = true) (hd : l.all notDefer = true) (hQ : ∀ a w, ¬ Q .outgrown a w)
    (h : wpAny P .any l.toArray (NoPanic Q) l.toArray.size (Array.replicate l.toArray.size false) a w.drew) : (Code.region id l.toArray true).wpIn (Wd ro) n P Q a w :=
  wpIn_mono (wpIn_region_any hm (any_in (Q := NoPanic Q) (fun a w h => hQ a w (NoPanic.imp _ _ _ h)) (notDefer_of hd) _ _ _ _ h)) (fun e a w h => NoPanic.imp e a w h)
end

theorem anyP_start {P : Program} {md : Region.Mode} {ops : Array Oper} {Q : Exit → Act → World → Prop} {S : World → Prop} {n : Nat} {l : Array Bool} {a : Act} {w : World} (late : List Nat) (hS : S w) (h : S w → wpAnyP P md ops Q late S n l a w) : wpAny P md ops Q n l a w := wpAny_of_P _ _ _ _ (h hS)
theorem anyH_start {P : Program} {md : Region.Mode} {ops : Array Oper} {Q : Exit → Act → World → Prop} {S : World → Prop} {n : Nat} {l : Array Bool} {a : Act} {w : World} (hS : S w) (h : S w → wpAnyH P md ops Q S n l a w) : wpAny P md ops Q n l a w := wpAny_of_held _ _ _ _ (h hS)
/-! The loop. -/
section
variable {P : Program} {σ : Type} {ps : Array Tmp} {assign body : Code} {Q : Exit → Act → World → Prop} {a : Act} {w : World} {g : Operand}
/-- How a round's body is left. -/
def rngPost (In : σ → World → Prop) (Ix : Code → World → Prop) (s : σ) (W : World) : Exit → Act → World → Prop
  | .normal, _, W' => KeepsOthers W W' ∧ In s W'
  | .ret, _, W' => KeepsOthers W W' ∧ Ix .ret W'
  | .exit id, _, W' => KeepsOthers W W' ∧ Ix (.exit id) W'
  | .goto t, _, W' => KeepsOthers W W' ∧ Ix (.goto t) W'
  | .panic _, _, _ => False
  | .outgrown, _, _ => False
/-- One block beyond B that holds no cells has turned. -/
def Behind (B : Nat) (W W' : World) : Prop := ∃ r o o', W' = W.putObj r o' ∧ B ≤ r ∧ W.heap[r]? = some o ∧ o.isCells = false
/-- What an iterator owes: whatever the record's state (Y: between two rounds; Z: behind the last). -/
def Iter (P : Program) (gf : Nat) (lb : Array Value) (encs : σ → Array Value) (B : Nat) (I0 E : World → Prop) (Ih In : σ → World → Prop) (Ix : Code → World → Prop) : Prop :=
  ∀ (l : Nat) (Y : World → Prop) (Z : Code → World → Prop) (W1 : World), B ≤ l → (∀ W W', Y W → KeepsOthers W W' → Y W') → (∀ c W W', Z c W → KeepsOthers W W' → Z c W') →
    (∀ s W, Ih s W → Y W → YieldAt (Wd none) 0 P l (encs s) W fun e W' => (e = .returned (.bool true) ∧ In s W' ∧ Y W') ∨ (e = .returned (.bool false) ∧ ∃ c, Ix c W' ∧ Z c W')) →
    I0 W1 → Y W1 → CallsIn (Wd none) 0 P gf (#[.func (.yield l) #[] #[]] ++ lb) W1 fun e W' => (∃ v, e = .returned v) ∧ ((E W' ∧ Y W') ∨ ∃ c, Ix c W' ∧ Z c W')
theorem wp_rangeF {gf : Nat} {lb : Array Value} (hg : a.eval g = .func (.func gf) #[] lb) (eg : ∀ args w, (callFunc gf args).run P w = .ok (.enter gf args) w) {encs : σ → Array Value} (hps : ∀ s, (encs s).size = ps.size)
    {I0 E : World → Prop} {Ih In : σ → World → Prop} {Ix : Code → World → Prop} (hiter : Iter P gf lb encs w.heap.size I0 E Ih In Ix)
    (sI0 : OwnFrom w.heap.size fun _ : Unit => I0) (sE : OwnFrom w.heap.size fun _ : Unit => E) (sIn : OwnFrom w.heap.size In) (sIx : OwnFrom w.heap.size Ix) (h0 : I0 w)
    (hround : ∀ (l : Nat) (s : σ) (W : World), Ih s W → assign.wpIn (Wd (some l)) 0 P (Exit.then (fun a₁ W₁ => KeepsOthers W W₁ ∧ ∀ W₂, Behind w.heap.size W₁ W₂ → body.wpIn (Wd (some l)) 0 P (rngPost In Ix s W₂) a₁ W₂) (fun _ _ _ => False)) { tmps := (ps.zip (encs s)).foldl (fun t (p, v) => t.setIfInBounds p v) a.tmps, defers := [] } W)
    (hdone : ∀ (D : Nat) (W : World), w.heap.size ≤ D → E W → W.heap[D]? = some (.deferred (some [])) → Q .normal { a with defers := { target := .collected D, args := #[] } :: a.defers } W)
    (hstop : ∀ (D : Nat) (c : Code) (W : World), w.heap.size ≤ D → Ix c W → W.heap[D]? = some (.deferred (some [])) → c.wp P Q { a with defers := { target := .collected D, args := #[] } :: a.defers } W) :
    (Code.rangeFunc g ps assign body).wp P Q a w := by
  refine (wpIn_wide (n := 0)).1 (wpIn_rangeFunc ?_)
  intro fn hfn
  obtain ⟨rec, hrec⟩ : ∃ rec : LoopState → Option Code → Loop, rec = fun st pe => { state := st, pending := pe, fn, tmps := a.tmps, params := ps, assign, body, defers := w.heap.size } := ⟨_, rfl⟩
  obtain ⟨W1, hW1⟩ : ∃ W1, (w.alloc (.deferred (some []))).alloc (.loop (rec .ready none)) = W1 := ⟨_, rfl⟩
  have hL1 : W1.heap[w.heap.size + 1]? = some (.loop (rec .ready none)) := by
    rw [← hW1]; have := World.alloc_heap_new (w.alloc (.deferred (some []))) (.loop (rec .ready none)); rwa [World.size_alloc] at this
  have hK1 : W1.heap[w.heap.size]? = some (.deferred (some [])) := by
    rw [← hW1]; exact (Below.heap_alloc _ _ _ (by simp)).trans (World.alloc_heap_new w _)
  have hI1 : I0 W1 := by rw [← hW1]; exact sI0.alloc (s := ()) _ (sI0.alloc (s := ()) _ h0)
  refine ⟨w.heap.size + 1, [{ target := .collected w.heap.size, args := #[] }], W1, { target := .fn (.func gf) lb, args := #[.func (.yield (w.heap.size + 1)) #[] #[]] }, W1, gf,
    #[.func (.yield (w.heap.size + 1)) #[] #[]] ++ lb, W1, ?_, ?_, fun _ _ => trivial, ?_, (fun h => by cases h), ?_⟩
  · rw [← hW1, hrec]; exact run_enterLoop_outer _ _ _ _ _
  · simp only [resolve, hg]
    simp [go_sem]
  · simp [invoke, go_sem, eg]
  · refine (hiter (w.heap.size + 1) (fun W => W.heap[w.heap.size + 1]? = some (.loop (rec .ready none)) ∧ W.heap[w.heap.size]? = some (.deferred (some [])))
      (fun c W => W.heap[w.heap.size + 1]? = some (.loop (rec .done (some c))) ∧ W.heap[w.heap.size]? = some (.deferred (some []))) W1 (by omega)
      (fun W W' h k => ⟨k.same _ _ h.1 rfl, k.same _ _ h.2 rfl⟩) (fun c W W' h k => ⟨k.same _ _ h.1 rfl, k.same _ _ h.2 rfl⟩) ?_ hI1 ⟨hL1, hK1⟩).mono ?_
    · -- one round
      rintro s W hi ⟨hl, hk⟩
      have hy := run_yield (P := P) (args := encs s) hl (by rw [hrec]; exact hps s)
      rw [hrec] at hy
      refine ⟨fn, _, assign, body, hy, roundIn_of_wpIn trivial (wpIn_mono (hround _ s W hi) ?_)⟩
      intro e a₁ W₁ he
      cases e with
      | normal =>
        obtain ⟨hka, hbody⟩ := he
        have hl2 := hka.same _ _ hl rfl
        have hk2 := hka.same _ _ hk rfl
        have hlt : w.heap.size + 1 < W₁.heap.size := (Array.getElem?_eq_some_iff.1 hl2).1
        refine ⟨_, run_beginRound hl2 (by rw [hrec]), ?_⟩
        have hl3 : (W₁.putObj (w.heap.size + 1) (.loop { rec .ready none with state := .busy })).heap[w.heap.size + 1]? = some (.loop { rec .ready none with state := .busy }) := World.putObj_heap_same hlt
        have hk3 : (W₁.putObj (w.heap.size + 1) (.loop { rec .ready none with state := .busy })).heap[w.heap.size]? = some (.deferred (some [])) := (World.putObj_heap_other (by omega)).trans hk2
        refine wpIn_mono (hbody _ ⟨_, _, _, rfl, by omega, hl2, rfl⟩) ?_
        have fin : ∀ (jump : Option Code) (W3 : World), KeepsOthers (W₁.putObj (w.heap.size + 1) (.loop { rec .ready none with state := .busy })) W3 →
            (Instr.endRound (w.heap.size + 1) jump).run P W3 = .ok (.bool jump.isNone) (W3.putObj (w.heap.size + 1) (.loop (rec (if jump.isNone then .ready else .done) jump))) ∧
            W3.heap[w.heap.size + 1]? = some (.loop { rec .ready none with state := .busy }) ∧
            (W3.putObj (w.heap.size + 1) (.loop (rec (if jump.isNone then .ready else .done) jump))).heap[w.heap.size + 1]? = some (.loop (rec (if jump.isNone then .ready else .done) jump)) ∧
            (W3.putObj (w.heap.size + 1) (.loop (rec (if jump.isNone then .ready else .done) jump))).heap[w.heap.size]? = some (.deferred (some [])) := fun jump W3 k3 => by
          have h4 := k3.same _ _ hl3 rfl
          have := run_endRound (P := P) jump h4
          rw [hrec] at this ⊢
          exact ⟨this, by rw [hrec] at h4; exact h4, World.putObj_heap_same (Array.getElem?_eq_some_iff.1 h4).1, (World.putObj_heap_other (by omega)).trans (k3.same _ _ hk3 rfl)⟩
        rintro e a3 W3 hp
        cases e with
        | normal =>
          obtain ⟨k3, hi3⟩ := hp
          obtain ⟨hr, h4, h5, h6⟩ := fin none W3 k3
          exact ⟨_, _, hr, .inl ⟨rfl, sIn.putObj _ hi3 (by omega) h4 rfl, h5, h6⟩⟩
        | ret =>
          obtain ⟨k3, hi3⟩ := hp
          obtain ⟨hr, h4, h5, h6⟩ := fin (some .ret) W3 k3
          exact ⟨_, _, hr, .inr ⟨rfl, .ret, sIx.putObj _ hi3 (by omega) h4 rfl, h5, h6⟩⟩
        | exit id =>
          obtain ⟨k3, hi3⟩ := hp
          obtain ⟨hr, h4, h5, h6⟩ := fin (some (.exit id)) W3 k3
          exact ⟨_, _, hr, .inr ⟨rfl, .exit id, sIx.putObj _ hi3 (by omega) h4 rfl, h5, h6⟩⟩
        | goto t =>
          obtain ⟨k3, hi3⟩ := hp
          obtain ⟨hr, h4, h5, h6⟩ := fin (some (.goto t)) W3 k3
          exact ⟨_, _, hr, .inr ⟨rfl, .goto t, sIx.putObj _ hi3 (by omega) h4 rfl, h5, h6⟩⟩
        | panic c => exact hp.elim
        | outgrown => exact hp.elim
      | _ => exact he.elim
    · -- behind the iterator
      rintro e W2 ⟨⟨v, rfl⟩, (⟨hE, hl, hk⟩ | ⟨c, hi, hl, hk⟩)⟩
      · exact ⟨none, _, by have := run_endLoop (P := P) hl (by rw [hrec]; simp); rw [hrec] at this; exact this, hdone _ _ (Nat.le_refl _) (sE.putObj (s := ()) _ hE (by omega) hl rfl) ((World.putObj_heap_other (by omega)).trans hk)⟩
      · exact ⟨some c, _, by have := run_endLoop (P := P) hl (by rw [hrec]; simp); rw [hrec] at this; exact this, wpIn_wide.2 (hstop _ c _ (Nat.le_refl _) (sIx.putObj _ hi (by omega) hl rfl) ((World.putObj_heap_other (by omega)).trans hk))⟩
end
/-- A walk of a list in two parts. -/
theorem list_in_split {P : Program} {ops : Array Oper} {ro : Option Nat} {n : Nat} {Q : Exit → Act → World → Prop} {a : Act} {w : World} {l : List Oper} (k : Nat) (hd : (l.take k).all notDefer = true) (h : wpList P ops (Upto (wpListIn (Wd ro) n P ops Q (l.drop k))) (l.take k) a w) : wpListIn (Wd ro) n P ops Q l a w := by
  have := list_in_app (l.drop k) (l.take k) a w hd h
  rwa [List.take_append_drop] at this
section
variable {R : Nat → Prop} {s w w' : World} {L L2 : List Ent} {O O2 : List Osl} {B : Nat}
theorem Blk.cells {g : Nat} {t : TypeId} {cs : Array Value} (h : Blk w g t cs) {o : Obj} (ho : w.heap[g]? = some o) : o.isCells = true := by
  unfold Blk at h
  rw [h] at ho; cases ho; rfl
/-- Known memory abides what the loop's own blocks do. -/
theorem Mem.grown {row : Option Nat} (hm : Mem R s w L O) (hg : w.grownBy w' row) (hr : ∀ r, row = some r → B ≤ r ∧ ∃ o : Obj, w.heap[r]? = some o ∧ o.isCells = false) (hB : s.heap.size ≤ B) : Mem R s w' L O := by
  have ho : Only (fun q => row = some q) w w' := ⟨hg.os, hg.tape, hg.output, hg.size, fun k hk hn => hg.block k hk (fun e => hn e.symm)⟩
  refine hm.step ho (fun q _ e => .inr (Nat.le_trans hB (hr q e).1)) (fun e he e2 => ?_) (fun x hx q e e2 => ?_)
  · obtain ⟨_, o, h1, h2⟩ := hr _ e2
    rw [(hm.blk e he).cells h1] at h2; cases h2
  · obtain ⟨_, o, h1, h2⟩ := hr _ e2
    have hown := hm.sl x hx
    unfold ownAt at e
    split at e
    · cases e
    · rename_i hc
      obtain ⟨g, cur, e3, _, h3, _⟩ := hown.2.2.2 (by omega)
      rw [e3] at e
      cases e
      rw [Blk.cells (w := w) (g := g) h3 h1] at h2; cases h2
theorem Mem.behind (hm : Mem R s w L O) (h : Behind B w w') (hB : s.heap.size ≤ B) : Mem R s w' L O := by
  obtain ⟨r, o, o', rfl, h1, h2, h3⟩ := h
  exact hm.grown (grownBy_putObj' _ _ _) (fun q e => by cases e; exact ⟨h1, o, h2, h3⟩) hB
theorem KeepsOthers.of_only (ho : Only R w w') (hR : ∀ q, R q → ∃ t cs, Blk w q t cs) : KeepsOthers w w' :=
  ⟨ho.size, fun k o hk hc => by
    by_cases h : R k
    · obtain ⟨t, cs, hb⟩ := hR k h
      rw [hb.cells hk] at hc; cases hc
    · exact (ho.block k (Array.getElem?_eq_some_iff.1 hk).1 h).trans hk⟩
/-- From one state of known memory on, steps of the walk keep what holds no cells. -/
theorem KeepsOthers.of_mem (h0 : Mem R s w L O) (hm : Mem (fun q => ∃ e ∈ L, q = e.g) w w' L2 O2) : KeepsOthers w w' :=
  KeepsOthers.of_only hm.only (fun q ⟨e, he, e2⟩ => ⟨_, _, e2 ▸ h0.blk e he⟩)
end
/-- A function that holds such a loop. -/
theorem calls_marks {P : Program} {f : FuncId} {fn : Func} {c : Code} {args : Array Value} {w : World} {R : Ending → World → Prop} (hf : P.funcs[f]? = some fn) (hb : fn.body = some c)
    (h : c.wp P (bodyPostM Fence.wide 0 P fn R) { tmps := args ++ Array.replicate (fn.ntmps - args.size) undef, defers := [] } w) : Calls P f args w R :=
  (callsIn_wide (n := 0)).1 (callsIn_of_wp_marks hf hb trivial ((wpIn_wide (n := 0)).2 h) rfl)
end Go.Proofs.Ytnlhammgcemchaa
