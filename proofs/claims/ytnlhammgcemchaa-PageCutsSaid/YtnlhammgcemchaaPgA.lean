/-
  Frames: what the words of the memory show. Plain.
-/
import Derived.Test.YtnlhammgcemchaaPg
namespace Go.Proofs.Ytnlhammgcemchaa.Pg
set_option maxRecDepth 100000
set_option linter.unusedSimpArgs false
set_option linter.unusedVariables false
open Go.Proofs.Ytnlhammgcemchaa

structure Fr where
  page : Nat
  ver : Nat
  data : List UInt8
abbrev Fs := Nat → Option Fr
def Fr.words (x : Fr) : List Nat := frameWords x.page x.ver x.data
def Fr.all (x : Fr) : List Nat := x.words ++ [sealOf x.words]
theorem words_length (b : List UInt8) : (words b).length = 16 := by simp [words]
theorem Fr.words_length (x : Fr) : x.words.length = 19 := by simp [Fr.words, frameWords, Pg.words_length]
theorem Fr.all_length (x : Fr) : x.all.length = 20 := by simp [Fr.all, x.words_length]
theorem getD_last (l : List Nat) (s : Nat) : (l ++ [s]).getD l.length 0 = s := by simp [List.getD]
theorem Fr.all_last (x : Fr) : x.all.getD 19 0 = sealOf x.words := by
  unfold Fr.all
  have := getD_last x.words (sealOf x.words)
  rw [x.words_length] at this
  exact this
/-- A word of the memory is right and has this datum. -/
def Rd (m : Cel.Mem) (a n : Nat) : Prop := (word m a).1 = n ∧ (word m a).2.1 = true
def Shows (m : Cel.Mem) (fr : Fs) (frames : Nat) : Prop := ∀ f, f < frames → match fr f with
  | none => Rd m (f * 20 + 19) 0
  | some x => ∀ i, i < 20 → Rd m (f * 20 + i) (x.all.getD i 0)
theorem Shows.no {m : Cel.Mem} {fr : Fs} {frames f : Nat} (h : Shows m fr frames) (hf : f < frames) (e : fr f = none) : Rd m (f * 20 + 19) 0 := by
  have := h f hf; rw [e] at this; exact this
theorem Shows.yes {m : Cel.Mem} {fr : Fs} {frames f : Nat} {x : Fr} (h : Shows m fr frames) (hf : f < frames) (e : fr f = some x) {i : Nat} (hi : i < 20) : Rd m (f * 20 + i) (x.all.getD i 0) := by
  have := h f hf; rw [e] at this; exact this i hi
theorem getD_app {l r : List Nat} {i : Nat} (h : i < l.length) : (l ++ r).getD i 0 = l.getD i 0 := by simp [List.getD, List.getElem?_append_left h]
theorem rdK_ok {m : Cel.Mem} {f : Nat} {l : List Nat} : ∀ k, (∀ i, i < k → Rd m (f * 20 + i) (l.getD i 0)) → k ≤ l.length → (rdK m f k).1 = l.take k ∧ (rdK m f k).2.1 = true := by
  intro k
  induction k with
  | zero => intro _ _; exact ⟨by simp [rdK], rfl⟩
  | succ k ih =>
    intro h hk
    obtain ⟨h1, h2⟩ := ih (fun i hi => h i (by omega)) (by omega)
    obtain ⟨h3, h4⟩ := h k (by omega)
    unfold rdK
    rw [if_pos h2, if_pos h4, h1, h3]
    refine ⟨?_, rfl⟩
    rw [List.take_add_one]
    congr 1
    simp [List.getD, show k < l.length by omega]
theorem read_ok {m : Cel.Mem} {f : Nat} {x : Fr} (h : ∀ i, i < 20 → Rd m (f * 20 + i) (x.all.getD i 0)) : (read m f).1 = x.words ∧ (read m f).2.1 = true := by
  have hl := x.words_length
  obtain ⟨h1, h2⟩ := rdK_ok (m := m) (f := f) (l := x.words) 19 (fun i hi => by
    have := h i (by omega)
    unfold Fr.all at this
    rwa [getD_app (by omega)] at this) (by omega)
  have ht : x.words.take 19 = x.words := List.take_of_length_le (by omega)
  obtain ⟨h3, h4⟩ := h 19 (by omega)
  have h5 := x.all_last
  unfold read
  rw [if_pos h2, h1, ht, h4, h3, h5]
  exact ⟨rfl, by simp⟩
theorem sealOf_odd (l : List Nat) : sealOf l ≠ 0 := by
  unfold sealOf
  intro h
  have := congrArg (fun z => Nat.testBit z 0) h
  simp at this
theorem frameWords_at (i v : Nat) (b : List UInt8) : (frameWords i v b).getD 16 0 = i ∧ (frameWords i v b).getD 17 0 = v / 16777216 ∧ (frameWords i v b).getD 18 0 = v % 16777216 := by
  have hl := words_length b
  unfold frameWords
  simp only [List.getD]
  refine ⟨?_, ?_, ?_⟩
  · rw [List.getElem?_append_right (by omega), hl]; rfl
  · rw [List.getElem?_append_right (by omega), hl]; rfl
  · rw [List.getElem?_append_right (by omega), hl]; rfl
theorem header_no {m : Cel.Mem} {count f : Nat} (h : Rd m (f * 20 + 19) 0) : (header m count f).1 = ⟨none, 0, false⟩ := by
  unfold header
  rw [if_pos ⟨h.2, h.1⟩]
theorem header_yes {m : Cel.Mem} {count f : Nat} {x : Fr} (h : ∀ i, i < 20 → Rd m (f * 20 + i) (x.all.getD i 0)) (hp : x.page < count) : (header m count f).1 = ⟨some x.page, x.ver, false⟩ := by
  obtain ⟨h1, h2⟩ := read_ok h
  have h3 := (h 19 (by omega)).1
  have h5 := x.all_last
  obtain ⟨e1, e2, e3⟩ := frameWords_at x.page x.ver x.data
  unfold header
  rw [if_neg (by rw [h3, h5]; exact fun e => sealOf_odd _ e.2), h1, h2]
  unfold Fr.words
  rw [e1, e2, e3, if_neg (fun e => e.elim (fun e => nomatch e) (fun e => by omega))]
  have : x.ver / 16777216 * 16777216 + x.ver % 16777216 = x.ver := by omega
  rw [this]
/-- The bytes of the words. -/
theorem three_word (a b c : UInt8) : three (a.toNat * 65536 + b.toNat * 256 + c.toNat) = [a, b, c] := by
  have ha := a.toNat_lt; have hb := b.toNat_lt; have hc := c.toNat_lt
  unfold three
  congr 1
  · apply UInt8.toNat_inj.1; simp; omega
  congr 1
  · apply UInt8.toNat_inj.1; simp; omega
  congr 1
  apply UInt8.toNat_inj.1; simp
theorem words_back (b : List UInt8) (h : b.length = 48) : (words b).flatMap three = b := by
  have key : ∀ k, k ≤ 16 → (((List.range k).map fun k => (b.getD (3 * k) 0).toNat * 65536 + (b.getD (3 * k + 1) 0).toNat * 256 + (b.getD (3 * k + 2) 0).toNat).flatMap three) = b.take (3 * k) := by
    intro k
    induction k with
    | zero => intro _; simp
    | succ k ih =>
      intro hk
      rw [List.range_succ, List.map_append, List.flatMap_append, ih (by omega)]
      simp only [List.map_cons, List.map_nil, List.flatMap_cons, List.flatMap_nil, List.append_nil]
      rw [three_word, show 3 * (k + 1) = 3 * k + 1 + 1 + 1 by omega, List.take_add_one (l := b) (i := 3 * k + 1 + 1), List.take_add_one (l := b) (i := 3 * k + 1), List.take_add_one (l := b) (i := 3 * k), List.getElem?_eq_getElem (show 3 * k < b.length by omega), List.getElem?_eq_getElem (show 3 * k + 1 < b.length by omega), List.getElem?_eq_getElem (show 3 * k + 1 + 1 < b.length by omega)]
      simp only [List.getD, List.getElem?_eq_getElem (show 3 * k < b.length by omega), List.getElem?_eq_getElem (show 3 * k + 1 < b.length by omega), List.getElem?_eq_getElem (show 3 * k + 2 < b.length by omega), Option.getD_some, Option.toList, List.append_assoc, List.cons_append, List.nil_append]
  have := key 16 (by omega)
  unfold words
  rw [this, List.take_of_length_le (by omega)]
theorem content_words (x : Fr) (h : x.data.length = 48) : (x.words.take 16).flatMap three = x.data := by
  unfold Fr.words frameWords
  rw [List.take_left' (words_length _), words_back _ h]
end Go.Proofs.Ytnlhammgcemchaa.Pg
