/-
  Scanning the headers: what stays. Plain.
-/
import Derived.Test.YtnlhammgcemchaaPgK
namespace Go.Proofs.Ytnlhammgcemchaa.Pg
set_option maxRecDepth 100000
set_option linter.unusedSimpArgs false
set_option linter.unusedVariables false
open Go.Proofs.Ytnlhammgcemchaa

structure Kept (o q : O) (k : Nat) : Prop where
  m : q.p.m = o.p.m
  cuts : q.p.cuts = o.p.cuts
  count : q.p.count = o.p.count
  frames : q.p.frames = o.p.frames
  turn : q.p.turn = o.p.turn
  freed : q.p.freed = o.p.freed
  la : q.p.at_.length = o.p.at_.length
  lh : q.p.holds.length = o.p.holds.length
  lv : q.vs.length = o.vs.length
  fixed : q.p.fixed ≤ o.p.fixed + 21 * k
theorem header_count (m : Cel.Mem) (count f : Nat) : (header m count f).2 ≤ 21 := by
  have h5 := word_count m (f * 20 + 19); have h6 := read_count m f
  unfold header
  split
  · dsimp only; omega
  · split <;> dsimp only <;> omega
theorem header_page {m : Cel.Mem} {count f i : Nat} (h : (header m count f).1.page = some i) : i < count := by
  unfold header at h
  split at h
  · cases h
  · split at h
    · cases h
    · rename_i h2
      cases h
      have := not_or.1 h2
      omega
theorem next_kept (o : O) (f : Nat) (h : Hd) : Kept o (o.next f h) 0 := by
  unfold O.next
  split
  · exact ⟨rfl, rfl, rfl, rfl, rfl, rfl, rfl, rfl, by simp, by simp⟩
  · split
    · exact ⟨rfl, rfl, rfl, rfl, rfl, rfl, by simp, by simp, by simp, by simp⟩
    · split
      · exact ⟨rfl, rfl, rfl, rfl, rfl, rfl, rfl, rfl, by simp, by simp⟩
      · exact ⟨rfl, rfl, rfl, rfl, rfl, rfl, by simp, by simp, by simp, by simp⟩
theorem scan_kept {m : Cel.Mem} {o : O} : ∀ k q, scan m o k = some q → Kept o q k := by
  intro k
  induction k with
  | zero => intro q h; unfold scan at h; cases h; exact ⟨rfl, rfl, rfl, rfl, rfl, rfl, rfl, rfl, rfl, by omega⟩
  | succ k ih =>
    intro q h
    unfold scan at h
    cases hs : scan m o k with
    | none => rw [hs] at h; cases h
    | some q0 =>
      rw [hs] at h
      simp only at h
      split at h
      · cases h
      · cases h
        have h1 := ih q0 hs
        have h2 := next_kept (q0.more (header m o.p.count k).2) k (header m o.p.count k).1
        have hc := header_count m o.p.count k
        exact ⟨h2.m.trans h1.m, h2.cuts.trans h1.cuts, h2.count.trans h1.count, h2.frames.trans h1.frames, h2.turn.trans h1.turn, h2.freed.trans h1.freed, h2.la.trans h1.la, h2.lh.trans h1.lh, h2.lv.trans h1.lv, by
          have h3 := h2.fixed; have h4 := h1.fixed
          have h5 : (q0.more (header m o.p.count k).2).p.fixed = q0.p.fixed + (header m o.p.count k).2 := rfl
          omega⟩
theorem scan_at {m : Cel.Mem} : ∀ k q, scan m (start m) k = some q → ∀ i f, q.p.at_.getD i none = some f → f < k := by
  intro k
  induction k with
  | zero =>
    intro q h i f hi
    unfold scan at h; cases h
    simp only [start, List.getD, List.getElem?_replicate] at hi
    split at hi <;> cases hi
  | succ k ih =>
    intro q h i f hi
    unfold scan at h
    cases hs : scan m (start m) k with
    | none => rw [hs] at h; cases h
    | some q0 =>
      rw [hs] at h
      simp only at h
      split at h
      · cases h
      · cases h
        have h1 := ih q0 hs
        have hset : ∀ (l : List (Option Nat)) (j : Nat) (hl : ∀ i f, l.getD i none = some f → f < k) (i f : Nat), (l.set j (some k)).getD i none = some f → f < k + 1 := fun l j hl i f h => by
          simp only [List.getD, List.getElem?_set] at h
          split at h
          · split at h
            · cases h; omega
            · cases h
          · have := hl i f h; omega
        unfold O.next at hi
        split at hi
        · have := h1 i f hi; omega
        · split at hi
          · exact hset _ _ h1 _ _ hi
          · split at hi
            · have := h1 i f hi; omega
            · exact hset _ _ h1 _ _ hi
theorem scan_succ {m : Cel.Mem} {o q : O} {k : Nat} (h : scan m o k = some q) (hb : (header m o.p.count k).1.bad = false) : scan m o (k + 1) = some ((q.more (header m o.p.count k).2).next k (header m o.p.count k).1) := by
  show (match scan m o k with
    | none => none
    | some q => if (header m o.p.count k).1.bad then none else some ((q.more (header m o.p.count k).2).next k (header m o.p.count k).1)) = _
  rw [h]
  simp only
  rw [if_neg (by rw [hb]; decide)]
theorem scan_bad {m : Cel.Mem} {o : O} {k : Nat} (hb : (header m o.p.count k).1.bad = true) : ∀ j, k < j → scan m o j = none := by
  have h1 : scan m o (k + 1) = none := by
    show (match scan m o k with
      | none => none
      | some q => if (header m o.p.count k).1.bad then none else some ((q.more (header m o.p.count k).2).next k (header m o.p.count k).1)) = _
    split
    · rfl
    · rw [if_pos hb]
  intro j
  induction j with
  | zero => intro h; omega
  | succ j ih =>
    intro h
    by_cases e : j = k
    · rw [e]; exact h1
    · show (match scan m o j with
        | none => none
        | some q => if (header m o.p.count j).1.bad then none else some ((q.more (header m o.p.count j).2).next j (header m o.p.count j).1)) = _
      rw [ih (by omega)]
end Go.Proofs.Ytnlhammgcemchaa.Pg
