/-
  A region that draws its order and whose last operations (stores, say) wait for all others: a condition on the world that is asked until the first of them has come up. Nothing here names a program.
-/
import Derived.Test.YtibaibdgpnkdnaaDoorZ1
namespace Go.Proofs.YtibaibdgpnkdnaaDoor
set_option maxRecDepth 100000
set_option linter.unusedSimpArgs false
set_option linter.unusedVariables false
open Go.RowKit
section
variable {P : Program} {ops : Array Oper} {Q : Exit → Act → World → Prop} {md : Region.Mode} {S : World → Prop} {late : List Nat}

/-- S, as long as none of the late ones has come up. -/
def Early (late : List Nat) (S : World → Prop) (l : Array Bool) (w : World) : Prop := (∀ j ∈ late, l.getD j true = false) → S w
/-- Whatever order is picked, S holds behind every operation until a late one comes up. -/
def wpAnyP (P : Program) (md : Region.Mode) (ops : Array Oper) (Q : Exit → Act → World → Prop) (late : List Nat) (S : World → Prop) : Nat → Array Bool → Act → World → Prop
  | 0, l, a, w => Region.ready md ops l = [] ∧ Q .normal a w
  | n + 1, l, a, w => (Region.ready md ops l = [] → Q .normal a w) ∧ ∀ i ∈ Region.ready md ops l, wpOp P ops Q i (fun a' w' => Early late S (l.setIfInBounds i true) w' ∧ wpAnyP P md ops Q late S n (l.setIfInBounds i true) a' w') a w
theorem wpAny_of_P : ∀ (n : Nat) (l : Array Bool) (a : Act) (w : World), wpAnyP P md ops Q late S n l a w → wpAny P md ops Q n l a w
  | 0, _, _, _, h => h
  | n + 1, _, _, _, h => ⟨h.1, fun i hi => wpOp_mono (fun a' w' h' => wpAny_of_P n _ a' w' h'.2) (h.2 i hi)⟩
/-- Every late one waits for i. -/
def waitsFor (md : Region.Mode) (ops : Array Oper) (late : List Nat) (i : Nat) : Bool := late.all fun j => match ops[j]? with
  | some o => o.after.any fun e => Region.binds md e && e.on == i
  | none => false
theorem wpAnyP_first {i : Nat} {oi : Oper} {v : Value} (hi : ops[i]? = some oi) (hsel : ∀ (j : Nat) (o : Oper) cs b, ops[j]? = some o → o.op ≠ .select cs b)
    (hQ : ∀ c a w, Q (.panic c) (a.put oi.dst v) w → Q (.panic c) a w) (hwait : waitsFor md ops late i = true) (hni : i ∉ late) : ∀ (n : Nat) (l : Array Bool) (a : Act) (w : World),
      (∀ j oj, ops[j]? = some oj → j ≠ i → l.getD j true = false → (∀ e ∈ oj.after, Region.binds md e = true → e.on ≠ i) → oi.apart ops oj = true) →
      (∀ j ∈ late, l.getD j true = false) → i ∈ Region.ready md ops l → YieldsIf P ops S oi v a → S w →
      wpAnyP P md ops Q late S n (l.setIfInBounds i true) (a.put oi.dst v) w → wpAnyP P md ops Q late S (n + 1) l a w := by
  intro n
  induction n with
  | zero =>
    intro l a w _ _ hr hy hS H
    refine ⟨fun h => (by rw [h] at hr; cases hr), fun j hj => ?_⟩
    by_cases hji : j = i
    · subst hji; exact hy.wpOp hi hS ⟨fun _ => hS, H⟩
    · have h1 := ready_mono hj hji
      rw [H.1] at h1
      cases h1
  | succ n ih =>
    intro l a w hfree hl hr hy hS H
    refine ⟨fun h => (by rw [h] at hr; cases hr), fun j hj => ?_⟩
    by_cases hji : j = i
    · subst hji; exact hy.wpOp hi hS ⟨fun _ => hS, H⟩
    · obtain ⟨hjun, oj, hoj, hall⟩ := mem_ready.1 hj
      have hiun : l.getD i true = false := (mem_ready.1 hr).1
      have hnot : ∀ e ∈ oj.after, Region.binds md e = true → e.on ≠ i := fun e he hb heq => by
        have h1 := hall e he hb
        rw [heq] at h1
        have hlt : i < l.size := by
          rcases Nat.lt_or_ge i l.size with h' | h'
          · exact h'
          · simp [Array.getElem?_eq_none h'] at hiun
        simp [hlt] at h1 hiun
        rw [hiun] at h1; cases h1
      have hjl : j ∉ late := fun hjl => by
        have h1 := (List.all_eq_true.1 hwait) j hjl
        rw [hoj] at h1
        obtain ⟨e, he, h2⟩ := Array.any_eq_true'.1 h1
        simp only [Bool.and_eq_true, beq_iff_eq] at h2
        exact hnot e he h2.1 h2.2
      have h2 := wpOp_putIf hoj (hfree j oj hoj hji hjun hnot) (fun cs b => hsel i oi cs b hi) (fun cs b => hsel j oj cs b hoj) hQ hy (H.2 j (ready_mono hj hji))
      have hl2 : ∀ k ∈ late, (l.setIfInBounds j true).getD k true = false := fun k hk => by
        rw [getD_set_ne true (show j ≠ k from fun e => hjl (e ▸ hk))]; exact hl k hk
      have hl3 : ∀ k ∈ late, ((l.setIfInBounds i true).setIfInBounds j true).getD k true = false := fun k hk => by
        rw [getD_set_ne true (show j ≠ k from fun e => hjl (e ▸ hk)), getD_set_ne true (show i ≠ k from fun e => hni (e ▸ hk))]; exact hl k hk
      refine wpOp_mono (fun a' w' h3 => ?_) h2
      have hS' : S w' := h3.2.1 hl3
      refine ⟨fun _ => hS', ih (l.setIfInBounds j true) a' w' (fun k ok hk hki hun hno => ?_) hl2 (ready_mono hr (Ne.symm hji)) h3.1 hS' ?_⟩
      · refine hfree k ok hk hki ?_ hno
        by_cases hjk : j = k
        · subst hjk; exact hjun
        · rw [getD_set_ne true hjk] at hun; exact hun
      · rw [Array.setIfInBounds_comm _ _ hji]
        exact h3.2.2
/-- What yields its value in whatever world may be taken first, whether late ones have come up or not. -/
theorem wpAnyP_pure {i : Nat} {oi : Oper} {v : Value} (hi : ops[i]? = some oi) (hsel : ∀ (j : Nat) (o : Oper) cs b, ops[j]? = some o → o.op ≠ .select cs b)
    (hQ : ∀ c a w, Q (.panic c) (a.put oi.dst v) w → Q (.panic c) a w) (hni : i ∉ late) : ∀ (n : Nat) (l : Array Bool) (a : Act) (w : World),
      (∀ j oj, ops[j]? = some oj → j ≠ i → l.getD j true = false → (∀ e ∈ oj.after, Region.binds md e = true → e.on ≠ i) → oi.apart ops oj = true) →
      i ∈ Region.ready md ops l → YieldsIf P ops (fun _ => True) oi v a → Early late S l w →
      wpAnyP P md ops Q late S n (l.setIfInBounds i true) (a.put oi.dst v) w → wpAnyP P md ops Q late S (n + 1) l a w := by
  have hun : ∀ {l : Array Bool} {w : World}, Early late S l w → Early late S (l.setIfInBounds i true) w := fun {l w} h hl => h fun k hk => by
    have := hl k hk
    rwa [getD_set_ne true (show i ≠ k from fun e => hni (e ▸ hk))] at this
  intro n
  induction n with
  | zero =>
    intro l a w _ hr hy hS H
    refine ⟨fun h => (by rw [h] at hr; cases hr), fun j hj => ?_⟩
    by_cases hji : j = i
    · subst hji; exact hy.wpOp hi trivial ⟨hun hS, H⟩
    · have h1 := ready_mono hj hji
      rw [H.1] at h1
      cases h1
  | succ n ih =>
    intro l a w hfree hr hy hS H
    refine ⟨fun h => (by rw [h] at hr; cases hr), fun j hj => ?_⟩
    by_cases hji : j = i
    · subst hji; exact hy.wpOp hi trivial ⟨hun hS, H⟩
    · obtain ⟨hjun, oj, hoj, hall⟩ := mem_ready.1 hj
      have hiun : l.getD i true = false := (mem_ready.1 hr).1
      have hnot : ∀ e ∈ oj.after, Region.binds md e = true → e.on ≠ i := fun e he hb heq => by
        have h1 := hall e he hb
        rw [heq] at h1
        have hlt : i < l.size := by
          rcases Nat.lt_or_ge i l.size with h' | h'
          · exact h'
          · simp [Array.getElem?_eq_none h'] at hiun
        simp [hlt] at h1 hiun
        rw [hiun] at h1; cases h1
      have h2 := wpOp_putIf hoj (hfree j oj hoj hji hjun hnot) (fun cs b => hsel i oi cs b hi) (fun cs b => hsel j oj cs b hoj) hQ hy (H.2 j (ready_mono hj hji))
      refine wpOp_mono (fun a' w' h3 => ?_) h2
      have hS' : Early late S (l.setIfInBounds j true) w' := fun hl => h3.2.1 fun k hk => by
        have := hl k hk
        rw [Array.setIfInBounds_comm _ _ (Ne.symm hji), getD_set_ne true (show i ≠ k from fun e => hni (e ▸ hk))]
        exact this
      refine ⟨hS', ih (l.setIfInBounds j true) a' w' (fun k ok hk hki hun hno => ?_) (ready_mono hr (Ne.symm hji)) h3.1 hS' ?_⟩
      · refine hfree k ok hk hki ?_ hno
        by_cases hjk : j = k
        · subst hjk; exact hjun
        · rw [getD_set_ne true hjk] at hun; exact hun
      · rw [Array.setIfInBounds_comm _ _ hji]
        exact h3.2.2
theorem wpAnyP_takeP {l : List Bool} {i b : Nat} {oi : Oper} {n : Nat} {a : Act} {w : World} (_ : Seek l b i) (hi : ops[i]? = some oi)
    (h : ∃ v, Region.noSelect ops = true ∧ Region.free md ops l.toArray i = true ∧ (Region.ready md ops l.toArray).contains i = true ∧ late.contains i = false ∧
      (∀ c a w, Q (.panic c) (a.put oi.dst v) w → Q (.panic c) a w) ∧ YieldsIf P ops (fun _ => True) oi v a ∧ Early late S l.toArray w ∧ wpAnyP P md ops Q late S n (l.toArray.setIfInBounds i true) (a.put oi.dst v) w) : wpAnyP P md ops Q late S (n + 1) l.toArray a w := by
  obtain ⟨v, hs, hf, hr, hni, hQ, hy, hS, h⟩ := h
  exact wpAnyP_pure hi (Region.noSelect_spec hs) hQ (fun e => by rw [List.contains_iff_mem.2 e] at hni; cases hni) n _ a w (Region.free_spec hi hf) (by simpa using hr) hy hS h
theorem Early.of {l : Array Bool} {w : World} (h : S w) : Early late S l w := fun _ => h
theorem Early.off {l : Array Bool} {w : World} (h : (late.all fun j => !l.getD j true) = false) : Early late S l w := fun hl => by
  rw [List.all_eq_true.2 (fun j hj => by simp [hl j hj])] at h
  cases h
/-- Take number i first. -/
theorem wpAnyP_take {l : List Bool} {i b : Nat} {oi : Oper} {n : Nat} {a : Act} {w : World} (_ : Seek l b i) (hi : ops[i]? = some oi)
    (h : ∃ v, Region.noSelect ops = true ∧ Region.free md ops l.toArray i = true ∧ (Region.ready md ops l.toArray).contains i = true ∧ waitsFor md ops late i = true ∧ late.contains i = false ∧ (late.all fun j => !l.toArray.getD j true) = true ∧
      (∀ c a w, Q (.panic c) (a.put oi.dst v) w → Q (.panic c) a w) ∧ YieldsIf P ops S oi v a ∧ S w ∧ wpAnyP P md ops Q late S n (l.toArray.setIfInBounds i true) (a.put oi.dst v) w) : wpAnyP P md ops Q late S (n + 1) l.toArray a w := by
  obtain ⟨v, hs, hf, hr, hw, hni, hl, hQ, hy, hS, h⟩ := h
  exact wpAnyP_first hi (Region.noSelect_spec hs) hQ hw (fun e => by rw [List.contains_iff_mem.2 e] at hni; cases hni) n _ a w (Region.free_spec hi hf) (fun j hj => by simpa using List.all_eq_true.1 hl j hj) (by simpa using hr) hy hS h
/-- One alone may come up: before the late ones. -/
theorem wpAnyP_one {n : Nat} {l : Array Bool} {a : Act} {w : World} (i : Nat) (hr : Region.ready md ops l = [i]) {o : Oper} (ho : ops[i]? = some o)
    (h : ∀ K' : Act → World → Prop, Shut (∀ a w, S w → (S w → wpAnyP P md ops Q late S n (l.setIfInBounds i true) a w) → K' a w) → if Region.wanted o (yielded ops a.tmps) = true then Oper.wp P o a w K' Q else K' (a.put o.dst undef) w) : wpAnyP P md ops Q late S (n + 1) l a w := by
  refine ⟨fun h0 => (by rw [hr] at h0; cases h0), fun j hj => ?_⟩
  rw [hr, List.mem_singleton] at hj
  subst hj
  exact wpOp_step ho (fun K' hK => h K' (fun a w hS hW => hK a w ⟨fun _ => hS, hW hS⟩))
/-- .. a late one, or one behind a late one. -/
theorem wpAnyP_last {n : Nat} {l : Array Bool} {a : Act} {w : World} (i : Nat) (hr : Region.ready md ops l = [i]) {o : Oper} (ho : ops[i]? = some o) (hlate : (late.all fun j => !(l.setIfInBounds i true).getD j true) = false)
    (h : ∀ K' : Act → World → Prop, Shut (∀ a w, wpAnyP P md ops Q late S n (l.setIfInBounds i true) a w → K' a w) → if Region.wanted o (yielded ops a.tmps) = true then Oper.wp P o a w K' Q else K' (a.put o.dst undef) w) : wpAnyP P md ops Q late S (n + 1) l a w := by
  refine ⟨fun h0 => (by rw [hr] at h0; cases h0), fun j hj => ?_⟩
  rw [hr, List.mem_singleton] at hj
  subst hj
  refine wpOp_step ho (fun K' hK => h K' (fun a w hW => hK a w ⟨fun hl => ?_, hW⟩))
  rw [List.all_eq_true.2 (fun j hj => by simp [hl j hj])] at hlate
  cases hlate
theorem wpAnyP_done {l : Array Bool} {a : Act} {w : World} (hr : Region.ready md ops l = []) (h : Q .normal a w) : ∀ n, wpAnyP P md ops Q late S n l a w
  | 0 => ⟨hr, h⟩
  | _ + 1 => ⟨fun _ => h, by rw [hr]; simp⟩
theorem wpAnyP_fresh {os : List Oper} {l : List Bool} {n : Nat} {a : Act} {w : World} (hl : Fresh os l) (h : wpAnyP P md os.toArray Q late S n l.toArray a w) : wpAnyP P md os.toArray Q late S n (Array.replicate os.toArray.size false) a w := by
  have : Array.replicate os.toArray.size false = l.toArray := by rw [hl.is]; simp
  rw [this]; exact h
/-- The beginning. -/
theorem wp_region_phase {id : Nat} {a : Act} {w : World} (late : List Nat) (hm : P.follows .mixedOrders = true) (hS : S w.drew)
    (h : S w.drew → wpAnyP P .any ops Q late S ops.size (Array.replicate ops.size false) a w.drew) : (Code.region id ops true).wp P Q a w :=
  wp_region_any hm (wpAny_of_P _ _ _ _ (h hS))
end
end Go.Proofs.YtibaibdgpnkdnaaDoor
