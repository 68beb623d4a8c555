/-
  How the frames wear: those that are free are used in turn. Plain.
-/
import Derived.Test.YtnlhammgcemchaaPgK
namespace Go.Proofs.Ytnlhammgcemchaa.Pg
set_option maxRecDepth 100000
set_option linter.unusedSimpArgs false
set_option linter.unusedVariables false
open Go.Proofs.Ytnlhammgcemchaa

structure Worn (p : P) (N : Nat) (u : Nat → Nat) : Prop where
  writes : p.m.writes = 21 * (N : Int)
  wear : ∀ f, f < p.frames → ∀ k, k < 20 → p.m.wear.getD (f * 20 + k) 0 = if k = 19 then 2 * (u f : Int) else (u f : Int)
  rest : ∀ a, p.frames * 20 ≤ a → p.m.wear.getD a 0 = 0
  held : ∀ f, f < p.frames → p.holds.getD f none ≠ none → u f * (p.frames - p.count + 1) ≤ N + (p.frames - p.count)
  queue : ∀ j f, p.freed[j]? = some f → u f * (p.frames - p.count + 1) ≤ N + j
theorem Worn.turned {p : P} {N : Nat} {u : Nat → Nat} (h : Worn p N u) : Worn p.turned N u := ⟨h.writes, h.wear, h.rest, h.held, h.queue⟩
theorem Worn.more {p : P} {N : Nat} {u : Nat → Nat} (h : Worn p N u) (c : Nat) : Worn (p.more c) N u := ⟨h.writes, h.wear, h.rest, h.held, h.queue⟩
theorem wearK_append (f : Nat) (l r : List (Nat × Nat)) (ws : List Int) : wearK f (l ++ r) ws = wearK f r (wearK f l ws) := by
  induction l generalizing ws with
  | nil => rfl
  | cons x l ih => simp only [List.cons_append, wearK]; rw [ih]
theorem wearK_cons (f : Nat) (x : Nat × Nat) (l : List (Nat × Nat)) (ws : List Int) : wearK f (x :: l) ws = wearK f l (ws.set (f * 20 + x.1) (ws.getD (f * 20 + x.1) 0 + 1)) := rfl
theorem wearK_one (f : Nat) (x : Nat × Nat) (ws : List Int) : wearK f [x] ws = ws.set (f * 20 + x.1) (ws.getD (f * 20 + x.1) 0 + 1) := rfl
theorem wearK_length (f : Nat) (l : List (Nat × Nat)) (ws : List Int) : (wearK f l ws).length = ws.length := by
  induction l generalizing ws with
  | nil => rfl
  | cons x l ih => rw [wearK_cons, ih, List.length_set]
theorem wearK_other (f : Nat) (l : List (Nat × Nat)) (ws : List Int) (a : Nat) (h : ∀ x ∈ l, a ≠ f * 20 + x.1) : (wearK f l ws).getD a 0 = ws.getD a 0 := by
  induction l generalizing ws with
  | nil => rfl
  | cons x l ih =>
    rw [wearK_cons, ih _ (fun y hy => h y (List.mem_cons_of_mem _ hy))]
    simp only [List.getD, List.getElem?_set]
    rw [if_neg (fun e => h x List.mem_cons_self e.symm)]
theorem set_get (ws : List Int) (a b : Nat) (v : Int) (ha : a < ws.length) : (ws.set a v).getD b 0 = if b = a then v else ws.getD b 0 := getD_set ws a b v 0 ha
theorem wear_mid (f : Nat) (W : List Nat) (ws : List Int) (hf : f * 20 + 20 ≤ ws.length) (i : Nat) : ∀ n, n ≤ 19 → (wearK f (mid W n) ws).getD (f * 20 + i) 0 = ws.getD (f * 20 + i) 0 + if i < n then 1 else 0 := by
  intro n
  induction n with
  | zero => intro _; simp [mid, wearK]
  | succ n ih =>
    intro hn
    have ih := ih (by omega)
    rw [mid_succ, wearK_append, wearK_one]
    rw [set_get _ _ _ _ (by rw [wearK_length]; omega)]
    by_cases e : i = n
    · subst e
      rw [if_pos rfl, ih, if_neg (by omega), if_pos (by omega)]
      simp
    · rw [if_neg (by omega), ih]
      by_cases h : i < n
      · rw [if_pos h, if_pos (by omega)]
      · rw [if_neg h, if_neg (by omega)]
theorem wear_plan (f : Nat) (W : List Nat) (hl : W.length = 19) (ws : List Int) (hf : f * 20 + 20 ≤ ws.length) (i : Nat) (hi : i < 20) : (wearK f (plan W) ws).getD (f * 20 + i) 0 = ws.getD (f * 20 + i) 0 + if i = 19 then 2 else 1 := by
  rw [plan_mid W hl, wearK_cons, wearK_append, wearK_one]
  dsimp only
  have hm := fun i => wear_mid f W (ws.set (f * 20 + 19) (ws.getD (f * 20 + 19) 0 + 1)) (by rw [List.length_set]; exact hf) i 19 (Nat.le_refl _)
  rw [set_get _ _ _ _ (by rw [wearK_length, List.length_set]; omega)]
  by_cases e : i = 19
  · subst e
    rw [if_pos rfl, hm, if_neg (by omega), if_pos rfl, set_get _ _ _ _ (by omega), if_pos rfl]
    omega
  · rw [if_neg (by omega), hm, if_pos (by omega), if_neg e, set_get _ _ _ _ (by omega), if_neg (by omega)]
section
variable {B : Nat} {fr : Fs} {p : P} {st : List (List UInt8)} {i N : Nat} {u : Nat → Nat}
theorem Worn.place (hw : Worn p N u) (h : Live B fr p st) (hi : i < p.count) {b : List UInt8} {m' : Cel.Mem} {K : Int} (hr : Wrote (p.freed.getD 0 0) (plan (frameWords i (p.version + 1) b)) p.m m' K) :
    Worn (p.moved i (p.freed.getD 0 0) m') (N + 1) (fun g => if g = p.freed.getD 0 0 then u g + 1 else u g) := by
  have hfl := h.inv.count_freed
  have hcp := h.count_pos
  obtain ⟨f, l, hq⟩ : ∃ f l, p.freed = f :: l := by
    cases hq : p.freed with
    | nil => rw [hq] at hfl; simp at hfl; omega
    | cons f l => exact ⟨f, l, rfl⟩
  have hf0 : p.freed.getD 0 0 = f := by rw [hq]; rfl
  rw [hf0] at hr ⊢
  have hnd := h.inv.fnd
  rw [hq, List.nodup_cons] at hnd
  obtain ⟨hf1, hf2⟩ := (h.inv.fmem f).1 (by rw [hq]; exact List.mem_cons_self)
  have hwl : p.m.wear.length = p.m.words.length := h.wl
  have hfr := h.inv.fms
  have hxw : (frameWords i (p.version + 1) b).length = 19 := (Fr.mk i (p.version + 1) b).words_length
  have hin : f * 20 + 20 ≤ p.m.wear.length := by rw [hwl]; omega
  have hq0 := hw.queue 0 f (by rw [hq]; rfl)
  refine { writes := ?_, wear := fun g hg k hk => ?_, rest := fun a ha => ?_, held := fun g hg hh => ?_, queue := fun j g hj => ?_ }
  · show m'.writes = _
    rw [hr.writes, frame_plan, hw.writes]; omega
  · show m'.wear.getD (g * 20 + k) 0 = _
    rw [hr.wear]
    by_cases e : g = f
    · subst e
      rw [wear_plan g _ hxw _ hin k hk, hw.wear g hg k hk]
      by_cases e2 : k = 19
      · simp [e2]; omega
      · simp [e2]
    · rw [wearK_other _ _ _ _ (fun x hx e2 => by
        have := plan_pos hxw hx
        rcases Nat.lt_or_gt_of_ne e with h1 | h1 <;> omega), hw.wear g hg k hk]
      simp [e]
  · show m'.wear.getD a 0 = 0
    have ha : p.frames * 20 ≤ a := ha
    rw [hr.wear, wearK_other _ _ _ _ (fun x hx e2 => by have := plan_pos hxw hx; omega)]
    exact hw.rest a ha
  · have hg : g < p.frames := hg
    show (if g = f then u g + 1 else u g) * (p.frames - p.count + 1) ≤ N + 1 + (p.frames - p.count)
    by_cases e : g = f
    · subst e
      rw [if_pos rfl, Nat.add_mul]
      omega
    · rw [if_neg e]
      -- it was held before
      have hh2 : p.holds.getD g none ≠ none := fun e2 => hh (by
        show ((match p.at_.getD i none with | none => p.holds | some old => p.holds.set old none).set f (some i)).getD g none = none
        have hl : (match p.at_.getD i none with | none => p.holds | some old => p.holds.set old none).length = p.holds.length := by
          split
          · rfl
          · rw [List.length_set]
        rw [getD_set _ _ _ _ _ (by rw [hl, h.inv.cur.lh]; exact hf1), if_neg e]
        cases ha : p.at_.getD i none with
        | none => exact e2
        | some old =>
          obtain ⟨ho, _⟩ := h.inv.data_some hi ha
          simp only
          rw [getD_set _ _ _ _ _ (by rw [h.inv.cur.lh]; exact ho)]
          split
          · rfl
          · exact e2)
      have := hw.held g hg hh2
      omega
  · show (if g = f then u g + 1 else u g) * (p.frames - p.count + 1) ≤ N + 1 + j
    have hj : (p.freed.drop 1 ++ (p.at_.getD i none).toList)[j]? = some g := hj
    have hd : p.freed.drop 1 = l := by rw [hq]; rfl
    rw [hd, List.getElem?_append] at hj
    split at hj
    · have hmem := List.mem_of_getElem? hj
      rw [if_neg (fun e : g = f => hnd.1 (by rw [← e]; exact hmem))]
      have := hw.queue (j + 1) g (by rw [hq]; exact hj)
      omega
    · rename_i hjl
      cases ha : p.at_.getD i none with
      | none => rw [ha] at hj; simp [Option.toList] at hj
      | some old =>
        rw [ha] at hj
        obtain rfl : old = g := by
          have h9 := List.mem_of_getElem? hj
          have h8 : g = old := List.mem_singleton.1 h9
          exact h8.symm
        obtain ⟨ho, _⟩ := h.inv.data_some hi ha
        have hold := (h.inv.cur.held old ho i).2 ⟨hi, ha⟩
        rw [if_neg (fun e => by rw [e, hf2] at hold; cases hold)]
        have := hw.held old ho (by rw [hold]; simp)
        rw [hq] at hfl
        simp only [List.length_cons] at hfl
        omega
/-- What Write keeps. -/
theorem Live.write_keeps (Φ : P → Prop) (h1 : ∀ p, Φ p → Φ p.turned) (h2 : ∀ p c, Φ p → Φ (p.more c))
    (h3 : ∀ (B : Nat) fr p st i b m', Live B fr p st → i < p.count → b.length = 48 → Wrote (p.freed.getD 0 0) (plan (frameWords i (p.version + 1) b)) p.m m' B → Φ p → Φ (p.moved i (p.freed.getD 0 0) m'))
    (h : Live B fr p st) (hB : B ≤ 900000000) (hi : i < p.count) {b : List UInt8} (hb : b.length = 48) {p' : P} (he : p.write i b = (p', 0)) (hp : Φ p) : Φ p' := by
  have ha : p.access (i : Int) = 0 := by rw [h.access, if_neg (by omega)]
  have e0 : p.write i b = if p.move.2 ≠ 0 then p.move else p.move.1.place i b := by
    unfold P.write
    rw [if_neg (by omega), ha, if_neg (by simp), Int.toNat_natCast]
  rw [e0] at he
  have fin : ∀ (B2 : Nat) fr2 p2 st2, Live B2 fr2 p2 st2 → B2 ≤ 950000000 → p2.count = p.count → Φ p2 → p2.place i b = (p', 0) → Φ p' := fun B2 fr2 p2 st2 hl hB2 hc hp2 he2 => by
    rcases hl.place (i := i) (by omega) (by omega) hb with ⟨m', fr', e1, hw, _, _⟩ | ⟨m', fr', e1, _⟩
    · rw [e1] at he2
      cases he2
      exact h3 _ _ _ _ _ _ _ hl (by omega) hb hw hp2
    · rw [e1] at he2; cases he2
  cases e : p.holds.getD p.turn none with
  | none =>
    rw [move_none e, if_neg (by simp)] at he
    exact fin _ _ _ _ h.turned (by omega) rfl (h1 _ hp) he
  | some j =>
    obtain ⟨c, c1, c2, c3⟩ := h.move_some e
    have hj := h.held e
    rcases (h.turned.more (c := c) (by omega)).place (i := j) (by omega) hj (h.st_len hj) with ⟨m', fr', e1, hw, hl, _⟩ | ⟨m', fr', e1, _⟩
    · rw [c3, e1, if_neg (by simp)] at he
      exact fin _ _ _ _ hl (by omega) rfl (h3 _ _ _ _ _ _ _ (h.turned.more (c := c) (by omega)) hj (h.st_len hj) hw (h2 _ _ (h1 _ hp))) he
    · rw [c3, e1, if_pos (by simp)] at he
      cases he
theorem Worn.write (hw : ∃ N u, Worn p N u) (h : Live B fr p st) (hB : B ≤ 900000000) (hi : i < p.count) {b : List UInt8} (hb : b.length = 48) {p' : P} (he : p.write i b = (p', 0)) : ∃ N u, Worn p' N u :=
  Live.write_keeps (fun p => ∃ N u, Worn p N u) (fun _ ⟨N, u, h⟩ => ⟨N, u, h.turned⟩) (fun _ c ⟨N, u, h⟩ => ⟨N, u, h.more c⟩) (fun _ _ _ _ _ _ _ hl hi _ hr ⟨_, _, hw⟩ => ⟨_, _, hw.place hl hi hr⟩) h hB hi hb he hw
/-- No word wears out much faster than the others. -/
theorem Worn.even (hw : Worn p N u) (h : Live B fr p st) (hs : p.m.words.length ≤ 600) (a : Nat) : p.m.wear.getD a 0 ≤ 100 + (16 * p.m.writes) / (p.m.words.length : Int) := by
  have h1 := h.inv.cnt; have h2 := h.inv.fms; have h3 := h.big
  have hfl := h.inv.count_freed
  have hbig : ∀ f, f < p.frames → 2 * (u f : Int) ≤ 100 + (16 * p.m.writes) / (p.m.words.length : Int) := fun f hf => by
    have hu : u f * (p.frames - p.count + 1) ≤ N + 30 := by
      cases e : p.holds.getD f none with
      | some i => have := hw.held f hf (by rw [e]; simp); omega
      | none =>
        obtain ⟨j, hj, e2⟩ := List.mem_iff_getElem.1 ((h.inv.fmem f).2 ⟨hf, e⟩)
        have := hw.queue j f (by rw [List.getElem?_eq_getElem hj, e2])
        omega
    rw [hw.writes]
    have hR : p.m.words.length ≤ 168 * (p.frames - p.count + 1) := by omega
    have hmul : u f * p.m.words.length ≤ u f * (168 * (p.frames - p.count + 1)) := Nat.mul_le_mul_left _ hR
    have hmul2 : u f * (168 * (p.frames - p.count + 1)) = 168 * (u f * (p.frames - p.count + 1)) := by
      rw [Nat.mul_left_comm]
    have e4 : ((16 * (21 * (N : Int))) / (p.m.words.length : Int)) = (((336 * N) / p.m.words.length : Nat) : Int) := by
      rw [show (16 * (21 * (N : Int))) = ((336 * N : Nat) : Int) by omega]; simp
    rw [e4]
    have h5 : 2 * u f - 100 ≤ (336 * N) / p.m.words.length := by
      rw [Nat.le_div_iff_mul_le (by omega), Nat.sub_mul, Nat.mul_assoc]
      omega
    omega
  by_cases ha : p.frames * 20 ≤ a
  · rw [hw.rest a ha, hw.writes]
    have : 0 ≤ (16 * (21 * (N : Int))) / (p.m.words.length : Int) := Int.ediv_nonneg (by omega) (by omega)
    omega
  · have h6 := hw.wear (a / 20) (by omega) (a % 20) (by omega)
    have h7 := hbig (a / 20) (by omega)
    rw [show a / 20 * 20 + a % 20 = a by omega] at h6
    rw [h6]
    split <;> omega
end
/-- New pages of a new memory. -/
theorem worn_new {n : Nat} {p : P} (h1 : 240 ≤ n) (h2 : n ≤ 65536) (hm : p.m = Cel.Mem.new n 1073741824) : ∃ N u, Worn p N u := by
  have hg : ∀ a, (List.replicate n (0 : Int)).getD a 0 = 0 := fun a => by simp only [List.getD, List.getElem?_replicate]; split <;> rfl
  have hwe : p.m.wear = List.replicate n 0 := by rw [hm]; rfl
  refine ⟨0, fun _ => 0, ⟨by rw [hm]; rfl, fun f hf k hk => ?_, fun a ha => ?_, fun f hf hh => by simp, fun j f hj => by simp⟩⟩
  · rw [hwe, hg]; simp
  · rw [hwe, hg]
end Go.Proofs.Ytnlhammgcemchaa.Pg
