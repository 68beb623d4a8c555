/-
  Open: of each page the newest frame. Plain.
-/
import Derived.Test.YtnlhammgcemchaaPgA
namespace Go.Proofs.Ytnlhammgcemchaa.Pg
set_option maxRecDepth 100000
set_option linter.unusedSimpArgs false
set_option linter.unusedVariables false
open Go.Proofs.Ytnlhammgcemchaa

theorem getD_set {α : Type} (l : List α) (i j : Nat) (v d : α) (hi : i < l.length) : (l.set i v).getD j d = if j = i then v else l.getD j d := by
  simp only [List.getD, List.getElem?_set]
  by_cases h : i = j
  · subst h; simp [hi]
  · rw [if_neg h, if_neg (fun e => h e.symm)]
structure FsOk (fr : Fs) (count frames K : Nat) : Prop where
  ok : ∀ f, f < frames → ∀ x, fr f = some x → x.page < count ∧ x.data.length = 48 ∧ x.ver ≤ K
  diff : ∀ f, f < frames → ∀ g, g < frames → ∀ x y, fr f = some x → fr g = some y → x.ver = y.ver → f = g
/-- Of each page the newest of the first k frames. -/
structure Cur (fr : Fs) (count frames k : Nat) (at_ holds : List (Option Nat)) (version : Nat) : Prop where
  la : at_.length = count
  lh : holds.length = frames
  none_ : ∀ i, i < count → at_.getD i none = none → ∀ f, f < k → ∀ x, fr f = some x → x.page ≠ i
  some_ : ∀ i, i < count → ∀ f, at_.getD i none = some f → f < k ∧ ∃ x, fr f = some x ∧ x.page = i ∧ ∀ g, g < k → ∀ y, fr g = some y → y.page = i → y.ver ≤ x.ver
  held : ∀ f, f < frames → ∀ i, holds.getD f none = some i ↔ (i < count ∧ at_.getD i none = some f)
  ver : ∀ f, f < k → ∀ x, fr f = some x → x.ver ≤ version
def verOf (fr : Fs) (f : Nat) : Nat := match fr f with
  | none => 0
  | some x => x.ver
theorem verOf_some {fr : Fs} {f : Nat} {x : Fr} (h : fr f = some x) : verOf fr f = x.ver := by unfold verOf; rw [h]
theorem verOf_none {fr : Fs} {f : Nat} (h : fr f = none) : verOf fr f = 0 := by unfold verOf; rw [h]
structure Scn' (fr : Fs) (count frames K k : Nat) (o : O) : Prop where
  cur : Cur fr count frames k o.p.at_ o.p.holds o.p.version
  vs : ∀ f, f < k → o.vs.getD f 0 = verOf fr f
  lv : o.vs.length = frames
  cnt : o.p.count = count
  fms : o.p.frames = frames
  verK : o.p.version ≤ K
theorem Cur.skip {fr : Fs} {count frames k : Nat} {at_ holds : List (Option Nat)} {version : Nat} (h : Cur fr count frames k at_ holds version) (e : fr k = none) : Cur fr count frames (k + 1) at_ holds version :=
  { h with
    none_ := fun i hi hn f hf x hx => by
      rcases Nat.lt_or_ge f k with h1 | h1
      · exact h.none_ i hi hn f h1 x hx
      · obtain rfl : f = k := by omega
        rw [e] at hx; cases hx
    some_ := fun i hi f hs => by
      obtain ⟨h1, x, h2, h3, h4⟩ := h.some_ i hi f hs
      refine ⟨by omega, x, h2, h3, fun g hg y hy hp => ?_⟩
      rcases Nat.lt_or_ge g k with h5 | h5
      · exact h4 g h5 y hy hp
      · obtain rfl : g = k := by omega
        rw [e] at hy; cases hy
    ver := fun f hf x hx => by
      rcases Nat.lt_or_ge f k with h1 | h1
      · exact h.ver f h1 x hx
      · obtain rfl : f = k := by omega
        rw [e] at hx; cases hx }
theorem Cur.older {fr : Fs} {count frames k : Nat} {at_ holds : List (Option Nat)} {version : Nat} (h : Cur fr count frames k at_ holds version) {x y : Fr} (e : fr k = some x) {old : Nat} (hp : x.page < count) (ha : at_.getD x.page none = some old) (ho : fr old = some y) (hv : x.ver < y.ver) : Cur fr count frames (k + 1) at_ holds (max version x.ver) :=
  { h with
    none_ := fun i hi hn f hf z hz => by
      rcases Nat.lt_or_ge f k with h1 | h1
      · exact h.none_ i hi hn f h1 z hz
      · obtain rfl : f = k := by omega
        rw [e] at hz; cases hz
        rintro rfl
        rw [ha] at hn; cases hn
    some_ := fun i hi f hs => by
      obtain ⟨h1, z, h2, h3, h4⟩ := h.some_ i hi f hs
      refine ⟨by omega, z, h2, h3, fun g hg w hw hpw => ?_⟩
      rcases Nat.lt_or_ge g k with h5 | h5
      · exact h4 g h5 w hw hpw
      · obtain rfl : g = k := by omega
        rw [e] at hw; cases hw
        subst hpw
        rw [ha] at hs; cases hs
        rw [ho] at h2; cases h2
        omega
    ver := fun f hf z hz => by
      rcases Nat.lt_or_ge f k with h1 | h1
      · have := h.ver f h1 z hz; omega
      · obtain rfl : f = k := by omega
        rw [e] at hz; cases hz; omega }
/-- A frame that is the newest of its page so far: of none before, or of an older one. -/
theorem Cur.newer {fr : Fs} {count frames k : Nat} {at_ holds : List (Option Nat)} {version : Nat} (h : Cur fr count frames k at_ holds version) {x : Fr} (hk : k < frames) (e : fr k = some x) (hp : x.page < count)
    (hv : ∀ g, g < k → ∀ y, fr g = some y → y.page = x.page → y.ver ≤ x.ver) {holds' : List (Option Nat)} (hl : holds'.length = holds.length)
    (hh : ∀ f, f < frames → holds'.getD f none = if at_.getD x.page none = some f then none else holds.getD f none) : Cur fr count frames (k + 1) (at_.set x.page (some k)) (holds'.set k (some x.page)) (max version x.ver) := by
  have hset : ∀ j, (at_.set x.page (some k)).getD j none = if j = x.page then some k else at_.getD j none := fun j => getD_set at_ _ j _ _ (by rw [h.la]; exact hp)
  have hseth : ∀ f, (holds'.set k (some x.page)).getD f none = if f = k then some x.page else holds'.getD f none := fun f => getD_set holds' _ f _ _ (by rw [hl, h.lh]; exact hk)
  refine { la := by rw [List.length_set]; exact h.la, lh := by rw [List.length_set, hl]; exact h.lh, none_ := fun i hi hn f hf z hz => ?_, some_ := fun i hi f hs => ?_, held := fun f hf i => ?_, ver := fun f hf z hz => ?_ }
  · rw [hset] at hn
    by_cases hi2 : i = x.page
    · rw [if_pos hi2] at hn; cases hn
    rw [if_neg hi2] at hn
    rcases Nat.lt_or_ge f k with h1 | h1
    · exact h.none_ i hi hn f h1 z hz
    · obtain rfl : f = k := by omega
      rw [e] at hz; cases hz
      exact fun e => hi2 e.symm
  · rw [hset] at hs
    by_cases hi2 : i = x.page
    · rw [if_pos hi2] at hs
      obtain rfl : k = f := by cases hs; rfl
      refine ⟨by omega, x, e, hi2.symm, fun g hg y hy hpy => ?_⟩
      rcases Nat.lt_or_ge g k with h5 | h5
      · exact hv g h5 y hy (by rw [hpy, hi2])
      · obtain rfl : g = k := by omega
        rw [e] at hy; cases hy; exact Nat.le_refl _
    · rw [if_neg hi2] at hs
      obtain ⟨h1, z, h2, h3, h4⟩ := h.some_ i hi f hs
      refine ⟨by omega, z, h2, h3, fun g hg y hy hpy => ?_⟩
      rcases Nat.lt_or_ge g k with h5 | h5
      · exact h4 g h5 y hy hpy
      · obtain rfl : g = k := by omega
        rw [e] at hy; cases hy
        exact absurd hpy.symm hi2
  · rw [hseth, hset]
    by_cases hf2 : f = k
    · rw [if_pos hf2]
      subst hf2
      constructor
      · intro h1
        obtain rfl : x.page = i := by cases h1; rfl
        exact ⟨hp, by rw [if_pos rfl]⟩
      · rintro ⟨h1, h2⟩
        by_cases hi2 : i = x.page
        · rw [hi2]
        · rw [if_neg hi2] at h2
          have := (h.some_ i h1 f h2).1
          omega
    · rw [if_neg hf2, hh f hf]
      constructor
      · intro h1
        by_cases ha : at_.getD x.page none = some f
        · rw [if_pos ha] at h1; cases h1
        rw [if_neg ha] at h1
        obtain ⟨h2, h3⟩ := (h.held f hf i).1 h1
        refine ⟨h2, ?_⟩
        rw [if_neg (fun e2 => ha (by rw [← e2]; exact h3))]
        exact h3
      · rintro ⟨h1, h2⟩
        by_cases hi2 : i = x.page
        · rw [if_pos hi2] at h2
          exact absurd (by cases h2; rfl) hf2
        rw [if_neg hi2] at h2
        have h3 := (h.held f hf i).2 ⟨h1, h2⟩
        rw [if_neg]
        · exact h3
        · intro ha
          have h4 := (h.held f hf x.page).2 ⟨hp, ha⟩
          rw [h3] at h4
          exact hi2 (by cases h4; rfl)
  · rcases Nat.lt_or_ge f k with h1 | h1
    · have := h.ver f h1 z hz; omega
    · obtain rfl : f = k := by omega
      rw [e] at hz; cases hz; omega
theorem O.more_p (o : O) (c : Nat) : (o.more c).p.at_ = o.p.at_ ∧ (o.more c).p.holds = o.p.holds ∧ (o.more c).p.version = o.p.version ∧ (o.more c).vs = o.vs ∧ (o.more c).p.count = o.p.count ∧ (o.more c).p.frames = o.p.frames := ⟨rfl, rfl, rfl, rfl, rfl, rfl⟩
theorem Scn'.next {m : Cel.Mem} {fr : Fs} {count frames K k : Nat} {o : O} (ho : FsOk fr count frames K) (hs : Shows m fr frames) (h : Scn' fr count frames K k o) (hk : k < frames) (c : Nat) : (header m count k).1.bad = false ∧ Scn' fr count frames K (k + 1) ((o.more c).next k (header m count k).1) := by
  have hvs : ∀ v f, (o.vs.set k v).getD f 0 = if f = k then v else o.vs.getD f 0 := fun v f => getD_set o.vs k f v 0 (by rw [h.lv]; exact hk)
  cases e : fr k with
  | none =>
    rw [header_no (hs.no hk e)]
    refine ⟨rfl, { cur := h.cur.skip e, vs := fun f hf => ?_, lv := ?_, cnt := h.cnt, fms := h.fms, verK := h.verK }⟩
    · show (o.vs.set k 0).getD f 0 = _
      rw [hvs]
      by_cases hf2 : f = k
      · rw [if_pos hf2, hf2, verOf_none e]
      · rw [if_neg hf2]; exact h.vs f (by omega)
    · show (o.vs.set k 0).length = _
      rw [List.length_set]; exact h.lv
  | some x =>
    obtain ⟨hp, hd, hK⟩ := ho.ok k hk x e
    rw [header_yes (fun i hi => hs.yes hk e hi) hp]
    refine ⟨rfl, ?_⟩
    have hv2 : ∀ f, f < k + 1 → (o.vs.set k x.ver).getD f 0 = verOf fr f := fun f hf => by
      rw [hvs]
      by_cases hf2 : f = k
      · rw [if_pos hf2, hf2, verOf_some e]
      · rw [if_neg hf2]; exact h.vs f (by omega)
    have hlv : (o.vs.set k x.ver).length = frames := by rw [List.length_set]; exact h.lv
    have hmK : max o.p.version x.ver ≤ K := by have := h.verK; omega
    unfold O.next
    simp only [O.more]
    cases ha : o.p.at_.getD x.page none with
    | none =>
      simp only
      refine { cur := h.cur.newer hk e hp (fun g hg y hy hpy => absurd hpy (h.cur.none_ _ hp ha g hg y hy)) rfl (fun f hf => by rw [ha, if_neg (by rintro ⟨⟩)]), vs := hv2, lv := hlv, cnt := h.cnt, fms := h.fms, verK := hmK }
    | some old =>
      obtain ⟨h1, y, h2, h3, h4⟩ := h.cur.some_ _ hp old ha
      have hold : (o.vs.set k x.ver).getD old 0 = y.ver := by rw [hv2 old (by omega), verOf_some h2]
      simp only [hold]
      by_cases hlt : x.ver < y.ver
      · rw [if_pos hlt]
        exact { cur := h.cur.older e hp ha h2 hlt, vs := hv2, lv := hlv, cnt := h.cnt, fms := h.fms, verK := hmK }
      · rw [if_neg hlt]
        refine { cur := h.cur.newer hk e hp (fun g hg z hz hpz => by have := h4 g hg z hz hpz; omega) (by rw [List.length_set]) (fun f hf => ?_), vs := hv2, lv := hlv, cnt := h.cnt, fms := h.fms, verK := hmK }
        rw [getD_set _ _ _ _ _ (by rw [h.cur.lh]; omega), ha]
        by_cases hf2 : f = old
        · rw [if_pos hf2, if_pos (by rw [hf2])]
        · rw [if_neg hf2, if_neg (fun e => hf2 (by cases e; rfl))]
theorem scan_ok {m : Cel.Mem} {fr : Fs} {count frames K : Nat} {o : O} (ho : FsOk fr count frames K) (hs : Shows m fr frames) (h : Scn' fr count frames K 0 o) : ∀ k, k ≤ frames → ∃ q, scan m o k = some q ∧ Scn' fr count frames K k q := by
  intro k
  induction k with
  | zero => intro _; exact ⟨o, rfl, h⟩
  | succ k ih =>
    intro hk
    obtain ⟨q, h1, h2⟩ := ih (by omega)
    obtain ⟨h3, h4⟩ := h2.next ho hs (by omega) (header m o.p.count k).2
    refine ⟨_, ?_, h4⟩
    unfold scan
    rw [h1]
    simp only
    rw [h.cnt, if_neg (by rw [h3]; decide)]
theorem start_ok (m : Cel.Mem) (fr : Fs) (K : Nat) : Scn' fr (m.words.length / 24) (m.words.length / 20) K 0 (start m) :=
  { cur :=
      { la := by simp [start], lh := by simp [start], none_ := fun i hi hn f hf => absurd hf (Nat.not_lt_zero _)
        some_ := fun i hi f hs => by simp [start, List.getD, hi] at hs
        held := fun f hf i => by
          have h1 : ∀ n i : Nat, (List.replicate n (none : Option Nat)).getD i none = none := fun n i => by
            simp only [List.getD, List.getElem?_replicate]; split <;> rfl
          simp only [start, h1]
          exact ⟨fun h => (by cases h), fun h => (by cases h.2)⟩
        ver := fun f hf => absurd hf (Nat.not_lt_zero _) }
    vs := fun f hf => absurd hf (Nat.not_lt_zero _), lv := by simp [start], cnt := rfl, fms := rfl, verK := Nat.zero_le _ }
end Go.Proofs.Ytnlhammgcemchaa.Pg
