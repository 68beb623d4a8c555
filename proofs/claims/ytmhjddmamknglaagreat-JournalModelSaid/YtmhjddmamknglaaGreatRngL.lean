/-
  The law of a range over a function once more, where the iterator has objects of its own that hold no cells (a map): only the loop's record turns. Nothing here names a program.
-/
import Derived.Test.YtmhjddmamknglaaGreatZ2
namespace Go.Proofs.YtmhjddmamknglaaGreat
set_option maxRecDepth 100000
set_option linter.unusedSimpArgs false
set_option linter.unusedVariables false
open Go.RowKit

/-- The loop's record has turned. -/
def BehindL (B : Nat) (W W' : World) : Prop := ∃ r x o', W' = W.putObj r o' ∧ (B ≤ r ∧ r < B + 2) ∧ W.heap[r]? = some (.loop x)
/-- The loop's own blocks are as they were. -/
structure KeepsL (B : Nat) (W W' : World) : Prop where
  size : W.heap.size ≤ W'.heap.size
  one : W'.heap[B]? = W.heap[B]?
  two : W'.heap[B + 1]? = W.heap[B + 1]?
theorem KeepsL.refl (B : Nat) (W : World) : KeepsL B W W := ⟨Nat.le_refl _, rfl, rfl⟩
theorem KeepsL.trans {B : Nat} {W W' W2 : World} (h : KeepsL B W W') (h2 : KeepsL B W' W2) : KeepsL B W W2 := ⟨Nat.le_trans h.size h2.size, h2.one.trans h.one, h2.two.trans h.two⟩
theorem KeepsL.only {B : Nat} {R : Nat → Prop} {W W' : World} (ho : Only R W W') (hB : B + 2 ≤ W.heap.size) (hd : ∀ q, R q → q < B ∨ B + 2 ≤ q) : KeepsL B W W' :=
  ⟨ho.size, ho.block B (by omega) (fun h => by have := hd _ h; omega), ho.block (B + 1) (by omega) (fun h => by have := hd _ h; omega)⟩
def OwnL {β : Type} (B : Nat) (I : β → World → Prop) : Prop :=
  ∀ s W W' row, I s W → W.grownBy W' row → (∀ r, row = some r → (B ≤ r ∧ r < B + 2) ∧ ∃ x, W.heap[r]? = some (.loop x)) → I s W'
theorem OwnL.putObj {β : Type} {B : Nat} {I : β → World → Prop} (h : OwnL B I) {s : β} {W : World} {l : Nat} {x : Loop} (o' : Obj) (hs : I s W) (hB : B ≤ l ∧ l < B + 2) (hl : W.heap[l]? = some (.loop x)) : I s (W.putObj l o') :=
  h s W _ (some l) hs (grownBy_putObj' W l o') (fun r e => by cases e; exact ⟨hB, x, hl⟩)
theorem OwnL.alloc {β : Type} {B : Nat} {I : β → World → Prop} (h : OwnL B I) {s : β} {W : World} (o : Obj) (hs : I s W) : I s (W.alloc o) :=
  h s W _ none hs (World.grownBy_alloc W o none) (fun r e => by cases e)
theorem BehindL.behind {B : Nat} {W W' : World} (h : BehindL B W W') : Behind B W W' := by
  obtain ⟨r, x, o', e, h1, h2⟩ := h
  exact ⟨r, _, o', e, h1.1, h2, rfl⟩
theorem BehindL.only {B : Nat} {W W' : World} (h : BehindL B W W') : Only (fun q => B ≤ q ∧ q < B + 2) W W' := by
  obtain ⟨r, x, o', rfl, h1, h2⟩ := h
  have hg := grownBy_putObj' W r o'
  exact ⟨hg.os, hg.tape, hg.output, hg.size, fun k hk hn => hg.block k hk (fun e => hn (by cases e; exact h1))⟩
theorem only_ownL {B : Nat} {W W' : World} {row : Option Nat} (hg : W.grownBy W' row) (hr : ∀ r, row = some r → (B ≤ r ∧ r < B + 2) ∧ ∃ x, W.heap[r]? = some (.loop x)) : Only (fun q => B ≤ q ∧ q < B + 2) W W' :=
  ⟨hg.os, hg.tape, hg.output, hg.size, fun k hk hn => hg.block k hk (fun e => hn (hr k e.symm).1)⟩
section
variable {P : Program} {σ : Type} {ps : Array Tmp} {assign body : Code} {Q : Exit → Act → World → Prop} {a : Act} {w : World} {g : Operand}
/-- How a round's body is left. -/
def rngPostL (B : Nat) (In : σ → World → Prop) (Ix : Code → World → Prop) (s : σ) (W : World) : Exit → Act → World → Prop
  | .normal, _, W' => KeepsL B W W' ∧ In s W'
  | .ret, _, W' => KeepsL B W W' ∧ Ix .ret W'
  | .exit id, _, W' => KeepsL B W W' ∧ Ix (.exit id) W'
  | .goto t, _, W' => KeepsL B W W' ∧ Ix (.goto t) W'
  | .panic _, _, _ => False
  | .outgrown, _, _ => False
/-- What an iterator owes; it may know that the loop's own blocks are made. -/
def IterL (P : Program) (gf : Nat) (lb : Array Value) (encs : σ → Array Value) (B : Nat) (I0 E : World → Prop) (Ih In : σ → World → Prop) (Ix : Code → World → Prop) : Prop :=
  ∀ (l : Nat) (Y : World → Prop) (Z : Code → World → Prop) (W1 : World), B ≤ l → B + 2 ≤ W1.heap.size → (∀ W W', Y W → KeepsL B W W' → Y W') →
    (∀ s W, Ih s W → Y W → YieldAt (Wd none) 0 P l (encs s) W fun e W' => (e = .returned (.bool true) ∧ In s W' ∧ Y W') ∨ (e = .returned (.bool false) ∧ ∃ c, Ix c W' ∧ Z c W')) →
    I0 W1 → Y W1 → CallsIn (Wd none) 0 P gf (#[.func (.yield l) #[] #[]] ++ lb) W1 fun e W' => (∃ v, e = .returned v) ∧ ((E W' ∧ Y W') ∨ ∃ c, Ix c W' ∧ Z c W')
theorem wp_rangeL {gf : Nat} {lb : Array Value} (hg : a.eval g = .func (.func gf) #[] lb) (eg : ∀ args w, (callFunc gf args).run P w = .ok (.enter gf args) w) {encs : σ → Array Value} (hps : ∀ s, (encs s).size = ps.size)
    {I0 E : World → Prop} {Ih In : σ → World → Prop} {Ix : Code → World → Prop} (hiter : IterL P gf lb encs w.heap.size I0 E Ih In Ix)
    (sI0 : OwnL w.heap.size fun _ : Unit => I0) (sE : OwnL w.heap.size fun _ : Unit => E) (sIn : OwnL w.heap.size In) (sIx : OwnL w.heap.size Ix) (h0 : I0 w)
    (hround : ∀ (l : Nat) (s : σ) (W : World), Ih s W → assign.wpIn (Wd (some l)) 0 P (Exit.then (fun a₁ W₁ => KeepsL w.heap.size W W₁ ∧ ∀ W₂, BehindL w.heap.size W₁ W₂ → body.wpIn (Wd (some l)) 0 P (rngPostL w.heap.size In Ix s W₂) a₁ W₂) (fun _ _ _ => False)) { tmps := (ps.zip (encs s)).foldl (fun t (p, v) => t.setIfInBounds p v) a.tmps, defers := [] } W)
    (hdone : ∀ (D : Nat) (W : World), D = w.heap.size → E W → W.heap[D]? = some (.deferred (some [])) → Q .normal { a with defers := { target := .collected D, args := #[] } :: a.defers } W)
    (hstop : ∀ (D : Nat) (c : Code) (W : World), D = w.heap.size → Ix c W → W.heap[D]? = some (.deferred (some [])) → c.wp P Q { a with defers := { target := .collected D, args := #[] } :: a.defers } W) :
    (Code.rangeFunc g ps assign body).wp P Q a w := by
  refine (wpIn_wide (n := 0)).1 (wpIn_rangeFunc ?_)
  intro fn hfn
  obtain ⟨rec, hrec⟩ : ∃ rec : LoopState → Option Code → Loop, rec = fun st pe => { state := st, pending := pe, fn, tmps := a.tmps, params := ps, assign, body, defers := w.heap.size } := ⟨_, rfl⟩
  obtain ⟨W1, hW1⟩ : ∃ W1, (w.alloc (.deferred (some []))).alloc (.loop (rec .ready none)) = W1 := ⟨_, rfl⟩
  have hL1 : W1.heap[w.heap.size + 1]? = some (.loop (rec .ready none)) := by
    rw [← hW1]; have := World.alloc_heap_new (w.alloc (.deferred (some []))) (.loop (rec .ready none)); rwa [World.size_alloc] at this
  have hK1 : W1.heap[w.heap.size]? = some (.deferred (some [])) := by
    rw [← hW1]; exact (Below.heap_alloc _ _ _ (by simp)).trans (World.alloc_heap_new w _)
  have hI1 : I0 W1 := by rw [← hW1]; exact sI0.alloc (s := ()) _ (sI0.alloc (s := ()) _ h0)
  refine ⟨w.heap.size + 1, [{ target := .collected w.heap.size, args := #[] }], W1, { target := .fn (.func gf) lb, args := #[.func (.yield (w.heap.size + 1)) #[] #[]] }, W1, gf,
    #[.func (.yield (w.heap.size + 1)) #[] #[]] ++ lb, W1, ?_, ?_, fun _ _ => trivial, ?_, (fun h => by cases h), ?_⟩
  · rw [← hW1, hrec]; exact run_enterLoop_outer _ _ _ _ _
  · simp only [resolve, hg]
    simp [go_sem]
  · simp [invoke, go_sem, eg]
  · refine (hiter (w.heap.size + 1) (fun W => W.heap[w.heap.size + 1]? = some (.loop (rec .ready none)) ∧ W.heap[w.heap.size]? = some (.deferred (some [])))
      (fun c W => W.heap[w.heap.size + 1]? = some (.loop (rec .done (some c))) ∧ W.heap[w.heap.size]? = some (.deferred (some []))) W1 (by omega) (by rw [← hW1, World.size_alloc, World.size_alloc]; exact Nat.le_refl _)
      (fun W W' h k => ⟨k.two.trans h.1, k.one.trans h.2⟩) ?_ hI1 ⟨hL1, hK1⟩).mono ?_
    · -- one round
      rintro s W hi ⟨hl, hk⟩
      have hy := run_yield (P := P) (args := encs s) hl (by rw [hrec]; exact hps s)
      rw [hrec] at hy
      refine ⟨fn, _, assign, body, hy, roundIn_of_wpIn trivial (wpIn_mono (hround _ s W hi) ?_)⟩
      intro e a₁ W₁ he
      cases e with
      | normal =>
        obtain ⟨hka, hbody⟩ := he
        have hl2 := hka.two.trans hl
        have hk2 := hka.one.trans hk
        have hlt : w.heap.size + 1 < W₁.heap.size := (Array.getElem?_eq_some_iff.1 hl2).1
        refine ⟨_, run_beginRound hl2 (by rw [hrec]), ?_⟩
        have hl3 : (W₁.putObj (w.heap.size + 1) (.loop { rec .ready none with state := .busy })).heap[w.heap.size + 1]? = some (.loop { rec .ready none with state := .busy }) := World.putObj_heap_same hlt
        have hk3 : (W₁.putObj (w.heap.size + 1) (.loop { rec .ready none with state := .busy })).heap[w.heap.size]? = some (.deferred (some [])) := (World.putObj_heap_other (by omega)).trans hk2
        refine wpIn_mono (hbody _ ⟨_, _, _, rfl, by omega, hl2⟩) ?_
        have fin : ∀ (jump : Option Code) (W3 : World), KeepsL w.heap.size (W₁.putObj (w.heap.size + 1) (.loop { rec .ready none with state := .busy })) W3 →
            (Instr.endRound (w.heap.size + 1) jump).run P W3 = .ok (.bool jump.isNone) (W3.putObj (w.heap.size + 1) (.loop (rec (if jump.isNone then .ready else .done) jump))) ∧
            W3.heap[w.heap.size + 1]? = some (.loop { rec .ready none with state := .busy }) ∧
            (W3.putObj (w.heap.size + 1) (.loop (rec (if jump.isNone then .ready else .done) jump))).heap[w.heap.size + 1]? = some (.loop (rec (if jump.isNone then .ready else .done) jump)) ∧
            (W3.putObj (w.heap.size + 1) (.loop (rec (if jump.isNone then .ready else .done) jump))).heap[w.heap.size]? = some (.deferred (some [])) := fun jump W3 k3 => by
          have h4 := k3.two.trans hl3
          have := run_endRound (P := P) jump h4
          rw [hrec] at this ⊢
          exact ⟨this, by rw [hrec] at h4; exact h4, World.putObj_heap_same (Array.getElem?_eq_some_iff.1 h4).1, (World.putObj_heap_other (by omega)).trans (k3.one.trans hk3)⟩
        rintro e a3 W3 hp
        cases e with
        | normal =>
          obtain ⟨k3, hi3⟩ := hp
          obtain ⟨hr, h4, h5, h6⟩ := fin none W3 k3
          exact ⟨_, _, hr, .inl ⟨rfl, sIn.putObj _ hi3 (by omega) h4, h5, h6⟩⟩
        | ret =>
          obtain ⟨k3, hi3⟩ := hp
          obtain ⟨hr, h4, h5, h6⟩ := fin (some .ret) W3 k3
          exact ⟨_, _, hr, .inr ⟨rfl, .ret, sIx.putObj _ hi3 (by omega) h4, h5, h6⟩⟩
        | exit id =>
          obtain ⟨k3, hi3⟩ := hp
          obtain ⟨hr, h4, h5, h6⟩ := fin (some (.exit id)) W3 k3
          exact ⟨_, _, hr, .inr ⟨rfl, .exit id, sIx.putObj _ hi3 (by omega) h4, h5, h6⟩⟩
        | goto t =>
          obtain ⟨k3, hi3⟩ := hp
          obtain ⟨hr, h4, h5, h6⟩ := fin (some (.goto t)) W3 k3
          exact ⟨_, _, hr, .inr ⟨rfl, .goto t, sIx.putObj _ hi3 (by omega) h4, h5, h6⟩⟩
        | panic c => exact hp.elim
        | outgrown => exact hp.elim
      | _ => exact he.elim
    · -- behind the iterator
      rintro e W2 ⟨⟨v, rfl⟩, (⟨hE, hl, hk⟩ | ⟨c, hi, hl, hk⟩)⟩
      · exact ⟨none, _, by have := run_endLoop (P := P) hl (by rw [hrec]; simp); rw [hrec] at this; exact this, hdone _ _ rfl (sE.putObj (s := ()) _ hE (by omega) hl) ((World.putObj_heap_other (by omega)).trans hk)⟩
      · exact ⟨some c, _, by have := run_endLoop (P := P) hl (by rw [hrec]; simp); rw [hrec] at this; exact this, wpIn_wide.2 (hstop _ c _ rfl (sIx.putObj _ hi (by omega) hl) ((World.putObj_heap_other (by omega)).trans hk))⟩
end
end Go.Proofs.YtmhjddmamknglaaGreat
