/-
  Frames that are written anew, or lose their seal; what the words show, power or not. Plain.
-/
import Derived.Test.YtnlhammgcemchaaPgS
namespace Go.Proofs.Ytnlhammgcemchaa.Pg
set_option maxRecDepth 100000
set_option linter.unusedSimpArgs false
set_option linter.unusedVariables false
open Go.Proofs.Ytnlhammgcemchaa

def upd (fr : Fs) (f : Nat) (x : Option Fr) : Fs := fun g => if g = f then x else fr g
theorem upd_same (fr : Fs) (f : Nat) (x : Option Fr) : upd fr f x f = x := if_pos rfl
theorem upd_other (fr : Fs) {f g : Nat} (x : Option Fr) (h : g ≠ f) : upd fr f x g = fr g := if_neg h
section
variable {fr : Fs} {count frames v f i : Nat} {at_ holds : List (Option Nat)} {x : Fr}
/-- No page lies in a free frame. -/
theorem Cur.free (h : Cur fr count frames frames at_ holds v) (hf : f < frames) (hfree : holds.getD f none = none) {j : Nat} (hj : j < count) : at_.getD j none ≠ some f := fun e => by
  have := (h.held f hf j).2 ⟨hj, e⟩
  rw [hfree] at this; cases this
theorem Cur.clear (h : Cur fr count frames frames at_ holds v) (hf : f < frames) (hfree : holds.getD f none = none) : Cur (upd fr f none) count frames frames at_ holds v :=
  { la := h.la, lh := h.lh, held := h.held
    none_ := fun j hj hn g hg y hy => by
      by_cases e : g = f
      · subst e; rw [upd_same] at hy; cases hy
      · rw [upd_other _ _ e] at hy; exact h.none_ j hj hn g hg y hy
    some_ := fun j hj g hs => by
      obtain ⟨h1, y, h2, h3, h4⟩ := h.some_ j hj g hs
      have hgf : g ≠ f := fun e => h.free hf hfree hj (e ▸ hs)
      refine ⟨h1, y, by rw [upd_other _ _ hgf]; exact h2, h3, fun k hk z hz hp => ?_⟩
      by_cases e : k = f
      · subst e; rw [upd_same] at hz; cases hz
      · rw [upd_other _ _ e] at hz; exact h4 k hk z hz hp
    ver := fun g hg y hy => by
      by_cases e : g = f
      · subst e; rw [upd_same] at hy; cases hy
      · rw [upd_other _ _ e] at hy; exact h.ver g hg y hy }
theorem Cur.put (h : Cur fr count frames frames at_ holds v) (hf : f < frames) (hfree : holds.getD f none = none) (hx : x.page < count) (hv : v < x.ver) {holds' : List (Option Nat)} (hl : holds'.length = holds.length)
    (hh : ∀ g, g < frames → holds'.getD g none = if at_.getD x.page none = some g then none else holds.getD g none) :
    Cur (upd fr f (some x)) count frames frames (at_.set x.page (some f)) (holds'.set f (some x.page)) x.ver := by
  have hset : ∀ j, (at_.set x.page (some f)).getD j none = if j = x.page then some f else at_.getD j none := fun j => getD_set at_ _ j _ _ (by rw [h.la]; exact hx)
  have hseth : ∀ g, (holds'.set f (some x.page)).getD g none = if g = f then some x.page else holds'.getD g none := fun g => getD_set holds' _ g _ _ (by rw [hl, h.lh]; exact hf)
  have hver : ∀ g, g < frames → ∀ y, (upd fr f (some x)) g = some y → y.ver ≤ x.ver := fun g hg y hy => by
    by_cases e : g = f
    · subst e; rw [upd_same] at hy; cases hy; exact Nat.le_refl _
    · rw [upd_other _ _ e] at hy; have := h.ver g hg y hy; omega
  refine { la := by rw [List.length_set]; exact h.la, lh := by rw [List.length_set, hl]; exact h.lh, none_ := fun j hj hn g hg y hy => ?_, some_ := fun j hj g hs => ?_, held := fun g hg j => ?_, ver := hver }
  · rw [hset] at hn
    by_cases e : j = x.page
    · rw [if_pos e] at hn; cases hn
    rw [if_neg e] at hn
    by_cases e2 : g = f
    · subst e2; rw [upd_same] at hy; cases hy; exact fun e3 => e e3.symm
    · rw [upd_other _ _ e2] at hy; exact h.none_ j hj hn g hg y hy
  · rw [hset] at hs
    by_cases e : j = x.page
    · rw [if_pos e] at hs
      obtain rfl : f = g := by cases hs; rfl
      exact ⟨hf, x, upd_same _ _ _, e.symm, fun k hk y hy _ => hver k hk y hy⟩
    · rw [if_neg e] at hs
      obtain ⟨h1, y, h2, h3, h4⟩ := h.some_ j hj g hs
      have hgf : g ≠ f := fun e => h.free hf hfree hj (e ▸ hs)
      refine ⟨h1, y, by rw [upd_other _ _ hgf]; exact h2, h3, fun k hk z hz hp => ?_⟩
      by_cases e2 : k = f
      · subst e2; rw [upd_same] at hz; cases hz; exact absurd hp.symm e
      · rw [upd_other _ _ e2] at hz; exact h4 k hk z hz hp
  · rw [hseth, hset]
    by_cases e : g = f
    · rw [if_pos e]
      subst e
      constructor
      · intro h1
        obtain rfl : x.page = j := by cases h1; rfl
        exact ⟨hx, by rw [if_pos rfl]⟩
      · rintro ⟨h1, h2⟩
        by_cases e2 : j = x.page
        · rw [e2]
        · rw [if_neg e2] at h2
          exact absurd h2 (h.free hf hfree h1)
    · rw [if_neg e, hh g hg]
      constructor
      · intro h1
        by_cases ha : at_.getD x.page none = some g
        · rw [if_pos ha] at h1; cases h1
        rw [if_neg ha] at h1
        obtain ⟨h2, h3⟩ := (h.held g hg j).1 h1
        refine ⟨h2, ?_⟩
        rw [if_neg (fun e2 => ha (by rw [← e2]; exact h3))]
        exact h3
      · rintro ⟨h1, h2⟩
        by_cases e2 : j = x.page
        · rw [if_pos e2] at h2
          exact absurd (by cases h2; rfl) e
        rw [if_neg e2] at h2
        have h3 := (h.held g hg j).2 ⟨h1, h2⟩
        rw [if_neg]
        · exact h3
        · intro ha
          have h4 := (h.held g hg x.page).2 ⟨hx, ha⟩
          rw [h3] at h4
          exact e2 (by cases h4; rfl)
theorem FsOk.put (h : FsOk fr count frames v) (hx : x.page < count) (hd : x.data.length = 48) (hv : v < x.ver) : FsOk (upd fr f (some x)) count frames x.ver :=
  { ok := fun g hg y hy => by
      by_cases e : g = f
      · subst e; rw [upd_same] at hy; cases hy; exact ⟨hx, hd, Nat.le_refl _⟩
      · rw [upd_other _ _ e] at hy; obtain ⟨a, b, c⟩ := h.ok g hg y hy; exact ⟨a, b, by omega⟩
    diff := fun g hg k hk y z hy hz hvz => by
      by_cases e : g = f
      · subst e; rw [upd_same] at hy; cases hy
        by_cases e2 : k = g
        · exact e2.symm
        · rw [upd_other _ _ e2] at hz; have := (h.ok k hk z hz).2.2; omega
      · rw [upd_other _ _ e] at hy
        by_cases e2 : k = f
        · subst e2; rw [upd_same] at hz; cases hz; have := (h.ok g hg y hy).2.2; omega
        · rw [upd_other _ _ e2] at hz; exact h.diff g hg k hk y z hy hz hvz }
theorem FsOk.clear (h : FsOk fr count frames v) : FsOk (upd fr f none) count frames v :=
  { ok := fun g hg y hy => by
      by_cases e : g = f
      · subst e; rw [upd_same] at hy; cases hy
      · rw [upd_other _ _ e] at hy; exact h.ok g hg y hy
    diff := fun g hg k hk y z hy hz hvz => by
      by_cases e : g = f
      · subst e; rw [upd_same] at hy; cases hy
      rw [upd_other _ _ e] at hy
      by_cases e2 : k = f
      · subst e2; rw [upd_same] at hz; cases hz
      · rw [upd_other _ _ e2] at hz; exact h.diff g hg k hk y z hy hz hvz }
theorem FsOk.mono {v' : Nat} (h : FsOk fr count frames v) (hv : v ≤ v') : FsOk fr count frames v' :=
  { ok := fun g hg y hy => by obtain ⟨a, b, c⟩ := h.ok g hg y hy; exact ⟨a, b, by omega⟩, diff := h.diff }
end
/-! Words. -/
abbrev Ws := List UInt32
structure Rw (ws : Ws) (a n : Nat) : Prop where
  lt : a < ws.length
  val : (Ecc.decode (ws.getD a 0).toNat).1 = n
  good : (Ecc.decode (ws.getD a 0).toNat).2 ≠ 2
def Exact (ws : Ws) : Prop := ∀ a, a < ws.length → (Ecc.decode (ws.getD a 0).toNat).2 = 0
theorem read_on {m : Cel.Mem} {a : Nat} (ho : m.off = false) (ha : a < m.words.length) : m.read a = (m.words.getD a 0, 0) := by
  unfold Cel.Mem.read
  have : m.access (a : Int) = 0 := (Cel.Mem.access_zero m _).2 ⟨ho, (Cel.Mem.has_iff m _).2 ⟨by omega, by omega⟩⟩
  rw [if_neg (by rw [this]; decide), Int.toNat_natCast]
theorem word_on {m : Cel.Mem} {a : Nat} (ho : m.off = false) (ha : a < m.words.length) : word m a = ((Ecc.decode (m.words.getD a 0).toNat).1, decide ((Ecc.decode (m.words.getD a 0).toNat).2 ≠ 2), if (Ecc.decode (m.words.getD a 0).toNat).2 = 1 then 1 else 0) := by
  unfold word
  rw [read_on ho ha, if_neg (by simp)]
theorem Rw.rd {m : Cel.Mem} {a n : Nat} (h : Rw m.words a n) (ho : m.off = false) : Rd m a n := by
  unfold Rd
  rw [word_on ho h.lt]
  exact ⟨h.val, decide_eq_true h.good⟩
def WShows (ws : Ws) (fr : Fs) (frames : Nat) : Prop := ∀ f, f < frames → match fr f with
  | none => Rw ws (f * 20 + 19) 0
  | some x => ∀ i, i < 20 → Rw ws (f * 20 + i) (x.all.getD i 0)
theorem WShows.no {ws : Ws} {fr : Fs} {frames f : Nat} (h : WShows ws fr frames) (hf : f < frames) (e : fr f = none) : Rw ws (f * 20 + 19) 0 := by
  have := h f hf; rw [e] at this; exact this
theorem WShows.yes {ws : Ws} {fr : Fs} {frames f : Nat} {x : Fr} (h : WShows ws fr frames) (hf : f < frames) (e : fr f = some x) {i : Nat} (hi : i < 20) : Rw ws (f * 20 + i) (x.all.getD i 0) := by
  have := h f hf; rw [e] at this; exact this i hi
theorem WShows.shows {m : Cel.Mem} {fr : Fs} {frames : Nat} (h : WShows m.words fr frames) (ho : m.off = false) : Shows m fr frames := by
  intro f hf
  cases e : fr f with
  | none => exact (h.no hf e).rd ho
  | some x => exact fun i hi => (h.yes hf e hi).rd ho
/-- The words behind writes into frame f. -/
def putw (f : Nat) : List (Nat × Nat) → Ws → Ws
  | [], ws => ws
  | x :: l, ws => putw f l (ws.set (f * 20 + x.1) (UInt32.ofNat (Ecc.code x.2)))
theorem putw_cons (f : Nat) (x : Nat × Nat) (l : List (Nat × Nat)) (ws : Ws) : putw f (x :: l) ws = putw f l (ws.set (f * 20 + x.1) (UInt32.ofNat (Ecc.code x.2))) := rfl
theorem putw_one (f : Nat) (x : Nat × Nat) (ws : Ws) : putw f [x] ws = ws.set (f * 20 + x.1) (UInt32.ofNat (Ecc.code x.2)) := rfl
theorem code_u32 (n : Nat) : (UInt32.ofNat (Ecc.code n)).toNat = Ecc.code n := by
  have := Ecc.code_lt n
  simp only [UInt32.toNat_ofNat']
  omega
theorem putw_length (f : Nat) (l : List (Nat × Nat)) (ws : Ws) : (putw f l ws).length = ws.length := by
  induction l generalizing ws with
  | nil => rfl
  | cons x l ih => unfold putw; rw [ih, List.length_set]
theorem putw_append (f : Nat) (l r : List (Nat × Nat)) (ws : Ws) : putw f (l ++ r) ws = putw f r (putw f l ws) := by
  induction l generalizing ws with
  | nil => rfl
  | cons x l ih => simp only [List.cons_append, putw]; rw [ih]
theorem putw_other (f : Nat) (l : List (Nat × Nat)) (ws : Ws) (a : Nat) (h : ∀ x ∈ l, a ≠ f * 20 + x.1) : (putw f l ws).getD a 0 = ws.getD a 0 := by
  induction l generalizing ws with
  | nil => rfl
  | cons x l ih =>
    rw [putw_cons, ih _ (fun y hy => h y (List.mem_cons_of_mem _ hy))]
    simp only [List.getD, List.getElem?_set]
    rw [if_neg (fun e => h x List.mem_cons_self e.symm)]
theorem set_at (ws : Ws) (a n : Nat) (ha : a < ws.length) (hn : n < 16777216) : Rw (ws.set a (UInt32.ofNat (Ecc.code n))) a n := by
  have e : (ws.set a (UInt32.ofNat (Ecc.code n))).getD a 0 = UInt32.ofNat (Ecc.code n) := by rw [getD_set ws a a _ _ ha, if_pos rfl]
  have hd := Ecc.decode_code n hn
  refine ⟨by rw [List.length_set]; exact ha, ?_, ?_⟩ <;> rw [e, code_u32, hd]
  simp
theorem Rw.of_getD {ws ws' : Ws} {a n : Nat} (h : Rw ws a n) (hl : ws'.length = ws.length) (e : ws'.getD a 0 = ws.getD a 0) : Rw ws' a n := ⟨by rw [hl]; exact h.lt, by rw [e]; exact h.val, by rw [e]; exact h.good⟩
theorem Exact.set {ws : Ws} (h : Exact ws) (a n : Nat) (hn : n < 16777216) : Exact (ws.set a (UInt32.ofNat (Ecc.code n))) := by
  intro b hb
  rw [List.length_set] at hb
  by_cases ha : a < ws.length
  · rw [getD_set ws a b _ _ ha]
    split
    · rw [code_u32, Ecc.decode_code n hn]
    · exact h b hb
  · rw [List.set_eq_of_length_le (by omega)]; exact h b hb
theorem Exact.putw {ws : Ws} (h : Exact ws) (f : Nat) (l : List (Nat × Nat)) (hl : ∀ x ∈ l, x.2 < 16777216) : Exact (putw f l ws) := by
  induction l generalizing ws with
  | nil => exact h
  | cons x l ih => exact ih (h.set _ _ (hl x List.mem_cons_self)) (fun y hy => hl y (List.mem_cons_of_mem _ hy))
def mid (W : List Nat) (n : Nat) : List (Nat × Nat) := (List.range n).map fun k => (k, W.getD k 0)
theorem mid_succ (W : List Nat) (n : Nat) : mid W (n + 1) = mid W n ++ [(n, W.getD n 0)] := by simp [mid, List.range_succ]
theorem plan_mid (W : List Nat) (h : W.length = 19) : plan W = (19, 0) :: (mid W 19 ++ [(19, sealOf W)]) := by
  unfold plan mid; rw [h]; rfl
theorem mid_at (f : Nat) (W : List Nat) (hW : ∀ k, W.getD k 0 < 16777216) (ws : Ws) (hf : f * 20 + 20 ≤ ws.length) : ∀ n, n ≤ 19 → ∀ i, i < n → Rw (putw f (mid W n) ws) (f * 20 + i) (W.getD i 0) := by
  intro n
  induction n with
  | zero => intro _ i hi; omega
  | succ n ih =>
    intro hn i hi
    rw [mid_succ, putw_append, putw_one]
    by_cases e : i = n
    · subst e
      exact set_at _ _ _ (by rw [putw_length]; omega) (hW _)
    · refine (ih (by omega) i (by omega)).of_getD (by rw [List.length_set]) ?_
      rw [getD_set _ _ _ _ _ (by rw [putw_length]; omega), if_neg (by omega)]
theorem mid_pos {W : List Nat} {n : Nat} {x : Nat × Nat} (h : x ∈ mid W n) : x.1 < n := by
  unfold mid at h
  obtain ⟨k, hk, rfl⟩ := List.mem_map.1 h
  exact List.mem_range.1 hk
/-- All is written. -/
theorem plan_done (f : Nat) (W : List Nat) (hl : W.length = 19) (hW : ∀ k, W.getD k 0 < 16777216) (ws : Ws) (hf : f * 20 + 20 ≤ ws.length) : ∀ i, i < 20 → Rw (putw f (plan W) ws) (f * 20 + i) ((W ++ [sealOf W]).getD i 0) := by
  intro i hi
  rw [plan_mid W hl, putw_cons, putw_append, putw_one]
  dsimp only
  by_cases e : i = 19
  · subst e
    have : (W ++ [sealOf W]).getD 19 0 = sealOf W := by have := getD_last W (sealOf W); rwa [hl] at this
    rw [this]
    exact set_at _ _ _ (by rw [putw_length, List.length_set]; omega) (sealOf_lt W)
  · have : (W ++ [sealOf W]).getD i 0 = W.getD i 0 := getD_app (by omega)
    rw [this]
    refine (mid_at f W hW (ws.set (f * 20 + 19) (UInt32.ofNat (Ecc.code 0))) (by rw [List.length_set]; omega) 19 (Nat.le_refl _) i (by omega)).of_getD (by rw [List.length_set]) ?_
    rw [getD_set _ _ _ _ _ (by rw [putw_length, List.length_set]; omega), if_neg (by omega)]
/-- A part is written. -/
theorem plan_part (f : Nat) (W : List Nat) (hl : W.length = 19) (ws : Ws) (hf : f * 20 + 20 ≤ ws.length) (k : Nat) (hk : k < 20) : Rw (putw f ((plan W).take (k + 1)) ws) (f * 20 + 19) 0 := by
  have e : (plan W).take (k + 1) = (19, 0) :: (mid W 19).take k := by
    rw [plan_mid W hl, List.take_succ_cons, List.take_append_of_le_length (by simp [mid]; omega)]
  rw [e, putw_cons]
  refine (set_at ws (f * 20 + 19) 0 (by omega) (by decide)).of_getD (putw_length _ _ _) (putw_other _ _ _ _ fun x hx => ?_)
  have := mid_pos (List.mem_of_mem_take hx); omega
theorem plan_pos {W : List Nat} (hl : W.length = 19) {x : Nat × Nat} (h : x ∈ plan W) : x.1 < 20 := by
  rw [plan_mid W hl] at h
  rcases List.mem_cons.1 h with rfl | h
  · show 19 < 20; omega
  rcases List.mem_append.1 h with h | h
  · have := mid_pos h; omega
  · obtain rfl := List.mem_singleton.1 h
    show 19 < 20; omega
theorem plan_lt {W : List Nat} (hl : W.length = 19) (hW : ∀ k, W.getD k 0 < 16777216) {x : Nat × Nat} (h : x ∈ plan W) : x.2 < 16777216 := by
  rw [plan_mid W hl] at h
  rcases List.mem_cons.1 h with rfl | h
  · show 0 < 16777216; omega
  rcases List.mem_append.1 h with h | h
  · unfold mid at h
    obtain ⟨k, hk, rfl⟩ := List.mem_map.1 h
    exact hW k
  · obtain rfl := List.mem_singleton.1 h
    exact sealOf_lt W
theorem plan_length {W : List Nat} (hl : W.length = 19) : (plan W).length = 21 := by rw [plan_mid W hl]; simp [mid]
section
variable {ws : Ws} {fr : Fs} {frames f : Nat}
def ShowsF (ws : Ws) (f : Nat) : Option Fr → Prop
  | none => Rw ws (f * 20 + 19) 0
  | some x => ∀ i, i < 20 → Rw ws (f * 20 + i) (x.all.getD i 0)
theorem WShows.upd {ws' : Ws} {y : Option Fr} (h : WShows ws fr frames) (hl : ws'.length = ws.length) (ho : ∀ g i, g ≠ f → i < 20 → ws'.getD (g * 20 + i) 0 = ws.getD (g * 20 + i) 0)
    (hy : ShowsF ws' f y) : WShows ws' (upd fr f y) frames := by
  intro g hg
  by_cases e : g = f
  · subst e
    rw [upd_same]
    cases y <;> exact hy
  · rw [upd_other _ _ e]
    cases e2 : fr g with
    | none => exact (h.no hg e2).of_getD hl (ho g 19 e (by omega))
    | some x => exact fun i hi => (h.yes hg e2 hi).of_getD hl (ho g i e hi)
theorem putw_frame {l : List (Nat × Nat)} (h : ∀ x ∈ l, x.1 < 20) (ws : Ws) (g i : Nat) (hg : g ≠ f) (hi : i < 20) : (putw f l ws).getD (g * 20 + i) 0 = ws.getD (g * 20 + i) 0 := by
  refine putw_other _ _ _ _ fun x hx e => ?_
  have := h x hx
  rcases Nat.lt_or_gt_of_ne hg with h1 | h1 <;> omega
theorem Fr.words_lt (x : Fr) (hp : x.page < 16777216) (hv : x.ver < 281474976710656) (k : Nat) : x.words.getD k 0 < 16777216 := by
  have h := frameWords_lt x.page x.ver x.data hp hv
  rw [List.getD]
  cases hk : x.words[k]? with
  | none => simp
  | some y => exact h y (List.mem_of_getElem? hk)
theorem WShows.put (h : WShows ws fr frames) (hf : f < frames) (hfr : frames * 20 ≤ ws.length) (x : Fr) (hp : x.page < 16777216) (hv : x.ver < 281474976710656) : WShows (putw f (plan x.words) ws) (Pg.upd fr f (some x)) frames :=
  h.upd (putw_length _ _ _) (fun g i hg hi => putw_frame (fun y hy => plan_pos x.words_length hy) ws g i hg hi) (plan_done f x.words x.words_length (x.words_lt hp hv) ws (by omega))
theorem WShows.part (h : WShows ws fr frames) (hf : f < frames) (hfr : frames * 20 ≤ ws.length) (W : List Nat) (hl : W.length = 19) (k : Nat) (hk : k < 20) : WShows (putw f ((plan W).take (k + 1)) ws) (Pg.upd fr f none) frames :=
  h.upd (putw_length _ _ _) (fun g i hg hi => putw_frame (fun y hy => plan_pos hl (List.mem_of_mem_take hy)) ws g i hg hi) (plan_part f W hl ws (by omega) k hk)
end
end Go.Proofs.Ytnlhammgcemchaa.Pg
