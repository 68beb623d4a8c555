/-
  The texts that the claims of this seat lean on, part 2.
-/
import Derived.Test.YtmhjddmamknglaaGreatZ0
import Derived.Test.YtmhjddmamknglaaGreatRows
import Derived.Laws.CopyOwn
import Derived.Laws.BitsAllLaws
import Derived.Outline
import Derived.Lib.Tables
import Derived.Lib.BitFns
import Derived.Deep.LoopGhost

section
namespace Go.Proofs.YtmhjddmamknglaaGreat.Pg
set_option maxRecDepth 100000
set_option linter.unusedSimpArgs false
set_option linter.unusedVariables false
open Go.Proofs.YtmhjddmamknglaaGreat

theorem getD_set {α : Type} (l : List α) (i j : Nat) (v d : α) (hi : i < l.length) : (l.set i v).getD j d = if j = i then v else l.getD j d := by
  simp only [List.getD, List.getElem?_set]
  by_cases h : i = j
  · subst h; simp [hi]
  · rw [if_neg h, if_neg (fun e => h e.symm)]
structure FsOk (fr : Fs) (count frames K : Nat) : Prop where
  ok : ∀ f, f < frames → ∀ x, fr f = some x → x.page < count ∧ x.data.length = 48 ∧ x.ver ≤ K
  diff : ∀ f, f < frames → ∀ g, g < frames → ∀ x y, fr f = some x → fr g = some y → x.ver = y.ver → f = g
/-- Of each page the newest of the first k frames. -/
structure Cur (fr : Fs) (count frames k : Nat) (at_ holds : List (Option Nat)) (version : Nat) : Prop where
  la : at_.length = count
  lh : holds.length = frames
  none_ : ∀ i, i < count → at_.getD i none = none → ∀ f, f < k → ∀ x, fr f = some x → x.page ≠ i
  some_ : ∀ i, i < count → ∀ f, at_.getD i none = some f → f < k ∧ ∃ x, fr f = some x ∧ x.page = i ∧ ∀ g, g < k → ∀ y, fr g = some y → y.page = i → y.ver ≤ x.ver
  held : ∀ f, f < frames → ∀ i, holds.getD f none = some i ↔ (i < count ∧ at_.getD i none = some f)
  ver : ∀ f, f < k → ∀ x, fr f = some x → x.ver ≤ version
def verOf (fr : Fs) (f : Nat) : Nat := match fr f with
  | none => 0
  | some x => x.ver
theorem verOf_some {fr : Fs} {f : Nat} {x : Fr} (h : fr f = some x) : verOf fr f = x.ver := by unfold verOf; rw [h]
theorem verOf_none {fr : Fs} {f : Nat} (h : fr f = none) : verOf fr f = 0 := by unfold verOf; rw [h]
structure Scn' (fr : Fs) (count frames K k : Nat) (o : O) : Prop where
  cur : Cur fr count frames k o.p.at_ o.p.holds o.p.version
  vs : ∀ f, f < k → o.vs.getD f 0 = verOf fr f
  lv : o.vs.length = frames
  cnt : o.p.count = count
  fms : o.p.frames = frames
  verK : o.p.version ≤ K
theorem Cur.skip {fr : Fs} {count frames k : Nat} {at_ holds : List (Option Nat)} {version : Nat} (h : Cur fr count frames k at_ holds version) (e : fr k = none) : Cur fr count frames (k + 1) at_ holds version :=
  { h with
    none_ := fun i hi hn f hf x hx => by
      rcases Nat.lt_or_ge f k with h1 | h1
      · exact h.none_ i hi hn f h1 x hx
      · obtain rfl : f = k := by omega
        rw [e] at hx; cases hx
    some_ := fun i hi f hs => by
      obtain ⟨h1, x, h2, h3, h4⟩ := h.some_ i hi f hs
      refine ⟨by omega, x, h2, h3, fun g hg y hy hp => ?_⟩
      rcases Nat.lt_or_ge g k with h5 | h5
      · exact h4 g h5 y hy hp
      · obtain rfl : g = k := by omega
        rw [e] at hy; cases hy
    ver := fun f hf x hx => by
      rcases Nat.lt_or_ge f k with h1 | h1
      · exact h.ver f h1 x hx
      · obtain rfl : f = k := by omega
        rw [e] at hx; cases hx }
theorem Cur.older {fr : Fs} {count frames k : Nat} {at_ holds : List (Option Nat)} {version : Nat} (h : Cur fr count frames k at_ holds version) {x y : Fr} (e : fr k = some x) {old : Nat} (hp : x.page < count) (ha : at_.getD x.page none = some old) (ho : fr old = some y) (hv : x.ver < y.ver) : Cur fr count frames (k + 1) at_ holds (max version x.ver) :=
  { h with
    none_ := fun i hi hn f hf z hz => by
      rcases Nat.lt_or_ge f k with h1 | h1
      · exact h.none_ i hi hn f h1 z hz
      · obtain rfl : f = k := by omega
        rw [e] at hz; cases hz
        rintro rfl
        rw [ha] at hn; cases hn
    some_ := fun i hi f hs => by
      obtain ⟨h1, z, h2, h3, h4⟩ := h.some_ i hi f hs
      refine ⟨by omega, z, h2, h3, fun g hg w hw hpw => ?_⟩
      rcases Nat.lt_or_ge g k with h5 | h5
      · exact h4 g h5 w hw hpw
      · obtain rfl : g = k := by omega
        rw [e] at hw; cases hw
        subst hpw
        rw [ha] at hs; cases hs
        rw [ho] at h2; cases h2
        omega
    ver := fun f hf z hz => by
      rcases Nat.lt_or_ge f k with h1 | h1
      · have := h.ver f h1 z hz; omega
      · obtain rfl : f = k := by omega
        rw [e] at hz; cases hz; omega }
/-- A frame that is the newest of its page so far: of none before, or of an older one. -/
theorem Cur.newer {fr : Fs} {count frames k : Nat} {at_ holds : List (Option Nat)} {version : Nat} (h : Cur fr count frames k at_ holds version) {x : Fr} (hk : k < frames) (e : fr k = some x) (hp : x.page < count)
    (hv : ∀ g, g < k → ∀ y, fr g = some y → y.page = x.page → y.ver ≤ x.ver) {holds' : List (Option Nat)} (hl : holds'.length = holds.length)
    (hh : ∀ f, f < frames → holds'.getD f none = if at_.getD x.page none = some f then none else holds.getD f none) : Cur fr count frames (k + 1) (at_.set x.page (some k)) (holds'.set k (some x.page)) (max version x.ver) := by
  have hset : ∀ j, (at_.set x.page (some k)).getD j none = if j = x.page then some k else at_.getD j none := fun j => getD_set at_ _ j _ _ (by rw [h.la]; exact hp)
  have hseth : ∀ f, (holds'.set k (some x.page)).getD f none = if f = k then some x.page else holds'.getD f none := fun f => getD_set holds' _ f _ _ (by rw [hl, h.lh]; exact hk)
  refine { la := by rw [List.length_set]; exact h.la, lh := by rw [List.length_set, hl]; exact h.lh, none_ := fun i hi hn f hf z hz => ?_, some_ := fun i hi f hs => ?_, held := fun f hf i => ?_, ver := fun f hf z hz => ?_ }
  · rw [hset] at hn
    by_cases hi2 : i = x.page
    · rw [if_pos hi2] at hn; cases hn
    rw [if_neg hi2] at hn
    rcases Nat.lt_or_ge f k with h1 | h1
    · exact h.none_ i hi hn f h1 z hz
    · obtain rfl : f = k := by omega
      rw [e] at hz; cases hz
      exact fun e => hi2 e.symm
  · rw [hset] at hs
    by_cases hi2 : i = x.page
    · rw [if_pos hi2] at hs
      obtain rfl : k = f := by cases hs; rfl
      refine ⟨by omega, x, e, hi2.symm, fun g hg y hy hpy => ?_⟩
      rcases Nat.lt_or_ge g k with h5 | h5
      · exact hv g h5 y hy (by rw [hpy, hi2])
      · obtain rfl : g = k := by omega
        rw [e] at hy; cases hy; exact Nat.le_refl _
    · rw [if_neg hi2] at hs
      obtain ⟨h1, z, h2, h3, h4⟩ := h.some_ i hi f hs
      refine ⟨by omega, z, h2, h3, fun g hg y hy hpy => ?_⟩
      rcases Nat.lt_or_ge g k with h5 | h5
      · exact h4 g h5 y hy hpy
      · obtain rfl : g = k := by omega
        rw [e] at hy; cases hy
        exact absurd hpy.symm hi2
  · rw [hseth, hset]
    by_cases hf2 : f = k
    · rw [if_pos hf2]
      subst hf2
      constructor
      · intro h1
        obtain rfl : x.page = i := by cases h1; rfl
        exact ⟨hp, by rw [if_pos rfl]⟩
      · rintro ⟨h1, h2⟩
        by_cases hi2 : i = x.page
        · rw [hi2]
        · rw [if_neg hi2] at h2
          have := (h.some_ i h1 f h2).1
          omega
    · rw [if_neg hf2, hh f hf]
      constructor
      · intro h1
        by_cases ha : at_.getD x.page none = some f
        · rw [if_pos ha] at h1; cases h1
        rw [if_neg ha] at h1
        obtain ⟨h2, h3⟩ := (h.held f hf i).1 h1
        refine ⟨h2, ?_⟩
        rw [if_neg (fun e2 => ha (by rw [← e2]; exact h3))]
        exact h3
      · rintro ⟨h1, h2⟩
        by_cases hi2 : i = x.page
        · rw [if_pos hi2] at h2
          exact absurd (by cases h2; rfl) hf2
        rw [if_neg hi2] at h2
        have h3 := (h.held f hf i).2 ⟨h1, h2⟩
        rw [if_neg]
        · exact h3
        · intro ha
          have h4 := (h.held f hf x.page).2 ⟨hp, ha⟩
          rw [h3] at h4
          exact hi2 (by cases h4; rfl)
  · rcases Nat.lt_or_ge f k with h1 | h1
    · have := h.ver f h1 z hz; omega
    · obtain rfl : f = k := by omega
      rw [e] at hz; cases hz; omega
theorem O.more_p (o : O) (c : Nat) : (o.more c).p.at_ = o.p.at_ ∧ (o.more c).p.holds = o.p.holds ∧ (o.more c).p.version = o.p.version ∧ (o.more c).vs = o.vs ∧ (o.more c).p.count = o.p.count ∧ (o.more c).p.frames = o.p.frames := ⟨rfl, rfl, rfl, rfl, rfl, rfl⟩
theorem Scn'.next {m : Cel.Mem} {fr : Fs} {count frames K k : Nat} {o : O} (ho : FsOk fr count frames K) (hs : Shows m fr frames) (h : Scn' fr count frames K k o) (hk : k < frames) (c : Nat) : (header m count k).1.bad = false ∧ Scn' fr count frames K (k + 1) ((o.more c).next k (header m count k).1) := by
  have hvs : ∀ v f, (o.vs.set k v).getD f 0 = if f = k then v else o.vs.getD f 0 := fun v f => getD_set o.vs k f v 0 (by rw [h.lv]; exact hk)
  cases e : fr k with
  | none =>
    rw [header_no (hs.no hk e)]
    refine ⟨rfl, { cur := h.cur.skip e, vs := fun f hf => ?_, lv := ?_, cnt := h.cnt, fms := h.fms, verK := h.verK }⟩
    · show (o.vs.set k 0).getD f 0 = _
      rw [hvs]
      by_cases hf2 : f = k
      · rw [if_pos hf2, hf2, verOf_none e]
      · rw [if_neg hf2]; exact h.vs f (by omega)
    · show (o.vs.set k 0).length = _
      rw [List.length_set]; exact h.lv
  | some x =>
    obtain ⟨hp, hd, hK⟩ := ho.ok k hk x e
    rw [header_yes (fun i hi => hs.yes hk e hi) hp]
    refine ⟨rfl, ?_⟩
    have hv2 : ∀ f, f < k + 1 → (o.vs.set k x.ver).getD f 0 = verOf fr f := fun f hf => by
      rw [hvs]
      by_cases hf2 : f = k
      · rw [if_pos hf2, hf2, verOf_some e]
      · rw [if_neg hf2]; exact h.vs f (by omega)
    have hlv : (o.vs.set k x.ver).length = frames := by rw [List.length_set]; exact h.lv
    have hmK : max o.p.version x.ver ≤ K := by have := h.verK; omega
    unfold O.next
    simp only [O.more]
    cases ha : o.p.at_.getD x.page none with
    | none =>
      simp only
      refine { cur := h.cur.newer hk e hp (fun g hg y hy hpy => absurd hpy (h.cur.none_ _ hp ha g hg y hy)) rfl (fun f hf => by rw [ha, if_neg (by rintro ⟨⟩)]), vs := hv2, lv := hlv, cnt := h.cnt, fms := h.fms, verK := hmK }
    | some old =>
      obtain ⟨h1, y, h2, h3, h4⟩ := h.cur.some_ _ hp old ha
      have hold : (o.vs.set k x.ver).getD old 0 = y.ver := by rw [hv2 old (by omega), verOf_some h2]
      simp only [hold]
      by_cases hlt : x.ver < y.ver
      · rw [if_pos hlt]
        exact { cur := h.cur.older e hp ha h2 hlt, vs := hv2, lv := hlv, cnt := h.cnt, fms := h.fms, verK := hmK }
      · rw [if_neg hlt]
        refine { cur := h.cur.newer hk e hp (fun g hg z hz hpz => by have := h4 g hg z hz hpz; omega) (by rw [List.length_set]) (fun f hf => ?_), vs := hv2, lv := hlv, cnt := h.cnt, fms := h.fms, verK := hmK }
        rw [getD_set _ _ _ _ _ (by rw [h.cur.lh]; omega), ha]
        by_cases hf2 : f = old
        · rw [if_pos hf2, if_pos (by rw [hf2])]
        · rw [if_neg hf2, if_neg (fun e => hf2 (by cases e; rfl))]
theorem scan_ok {m : Cel.Mem} {fr : Fs} {count frames K : Nat} {o : O} (ho : FsOk fr count frames K) (hs : Shows m fr frames) (h : Scn' fr count frames K 0 o) : ∀ k, k ≤ frames → ∃ q, scan m o k = some q ∧ Scn' fr count frames K k q := by
  intro k
  induction k with
  | zero => intro _; exact ⟨o, rfl, h⟩
  | succ k ih =>
    intro hk
    obtain ⟨q, h1, h2⟩ := ih (by omega)
    obtain ⟨h3, h4⟩ := h2.next ho hs (by omega) (header m o.p.count k).2
    refine ⟨_, ?_, h4⟩
    unfold scan
    rw [h1]
    simp only
    rw [h.cnt, if_neg (by rw [h3]; decide)]
theorem start_ok (m : Cel.Mem) (fr : Fs) (K : Nat) : Scn' fr (m.words.length / 24) (m.words.length / 20) K 0 (start m) :=
  { cur :=
      { la := by simp [start], lh := by simp [start], none_ := fun i hi hn f hf => absurd hf (Nat.not_lt_zero _)
        some_ := fun i hi f hs => by simp [start, List.getD, hi] at hs
        held := fun f hf i => by
          have h1 : ∀ n i : Nat, (List.replicate n (none : Option Nat)).getD i none = none := fun n i => by
            simp only [List.getD, List.getElem?_replicate]; split <;> rfl
          simp only [start, h1]
          exact ⟨fun h => (by cases h), fun h => (by cases h.2)⟩
        ver := fun f hf => absurd hf (Nat.not_lt_zero _) }
    vs := fun f hf => absurd hf (Nat.not_lt_zero _), lv := by simp [start], cnt := rfl, fms := rfl, verK := Nat.zero_le _ }
end Go.Proofs.YtmhjddmamknglaaGreat.Pg
end

section
namespace Go.Proofs.YtmhjddmamknglaaGreat
set_option maxRecDepth 100000
set_option linter.unusedSimpArgs false
set_option linter.unusedVariables false
open Go.RowKit

/-- The memory m lies in block g, its words in block gw, its wear in block gv. -/
structure MemAt (w : World) (g gw gv n cw cv : Nat) (m : Cel.Mem) : Prop where
  box : Blk w g 76 #[.slice (some ⟨gw, 0, none⟩) n cw, .slice (some ⟨gv, 0, none⟩) n cv, I64 m.endurance, I64 m.writes, I64 m.cuts, .bool m.off, .bool m.pending, I64 m.left]
  words : Own w 0 109 1 (some ⟨gw, 0, none⟩) n cw (m.words.map W32)
  wear : Own w 0 3 1 (some ⟨gv, 0, none⟩) n cv (m.wear.map I64)
  pos : 0 < n
  small : n ≤ 65536
  gw_ne : g ≠ gw
  gv_ne : g ≠ gv
  wv_ne : gw ≠ gv

section
variable {w w' : World} {g gw gv n cw cv : Nat} {m : Cel.Mem}
theorem MemAt.len (h : MemAt w g gw gv n cw cv m) : m.words.length = n := by have := h.words.len; simpa using this
theorem MemAt.lenw (h : MemAt w g gw gv n cw cv m) : m.wear.length = n := by have := h.wear.len; simpa using this
theorem MemAt.only {R : Nat → Prop} (h : MemAt w g gw gv n cw cv m) (ho : Only R w w') (h0 : ¬ R g) (h1 : ¬ R gw) (h2 : ¬ R gv) : MemAt w' g gw gv n cw cv m :=
  ⟨h.box.only ho h0, h.words.only ho (by intro q hq; simp at hq; subst hq; exact h1), h.wear.only ho (by intro q hq; simp at hq; subst hq; exact h2), h.pos, h.small, h.gw_ne, h.gv_ne, h.wv_ne⟩
theorem MemAt.below (h : MemAt w g gw gv n cw cv m) (hb : Below w.heap.size w w') : MemAt w' g gw gv n cw cv m :=
  h.only (R := fun _ => False) (Only.of_below hb) id id id
theorem MemAt.max (h : MemAt w g gw gv n cw cv m) : n ≤ 9223372036854775807 := by
  have := h.words.max; have := h.words.le; unfold maxLen at *; omega
end

section
variable {w : World} {g gw gv n cw cv : Nat} {m : Cel.Mem}
theorem MemAt.c0 (h : MemAt w g gw gv n cw cv m) : w.cell? ⟨g, 0, none⟩ = some (.slice (some ⟨gw, 0, none⟩) n cw) := h.box.cell 0
theorem MemAt.c1 (h : MemAt w g gw gv n cw cv m) : w.cell? ⟨g, 1, none⟩ = some (.slice (some ⟨gv, 0, none⟩) n cv) := h.box.cell 1
theorem MemAt.c2 (h : MemAt w g gw gv n cw cv m) : w.cell? ⟨g, 2, none⟩ = some (.int .i64 m.endurance) := h.box.cell 2
theorem MemAt.c3 (h : MemAt w g gw gv n cw cv m) : w.cell? ⟨g, 3, none⟩ = some (.int .i64 m.writes) := h.box.cell 3
theorem MemAt.c4 (h : MemAt w g gw gv n cw cv m) : w.cell? ⟨g, 4, none⟩ = some (.int .i64 m.cuts) := h.box.cell 4
theorem MemAt.c5 (h : MemAt w g gw gv n cw cv m) : w.cell? ⟨g, 5, none⟩ = some (.bool m.off) := h.box.cell 5
theorem MemAt.c6 (h : MemAt w g gw gv n cw cv m) : w.cell? ⟨g, 6, none⟩ = some (.bool m.pending) := h.box.cell 6
theorem MemAt.c7 (h : MemAt w g gw gv n cw cv m) : w.cell? ⟨g, 7, none⟩ = some (.int .i64 m.left) := h.box.cell 7
/-- A word's cell, and its wear's. -/
theorem MemAt.word (h : MemAt w g gw gv n cw cv m) {i : Nat} (hi : i < n) : w.cell? ⟨gw, i, none⟩ = some (.int .u32 ((m.words.getD i 0).toNat : Int)) := by
  obtain ⟨q, e, _, _, hc, _⟩ := h.words.elem hi
  obtain rfl : gw = q := by simpa using e
  have hl : i < m.words.length := by rw [h.len]; exact hi
  rw [hc]; simp [List.getD, List.getElem?_eq_getElem hl]
theorem MemAt.worn (h : MemAt w g gw gv n cw cv m) {i : Nat} (hi : i < n) : w.cell? ⟨gv, i, none⟩ = some (.int .i64 (m.wear.getD i 0)) := by
  obtain ⟨q, e, _, _, hc, _⟩ := h.wear.elem hi
  obtain rfl : gv = q := by simpa using e
  have hl : i < m.wear.length := by rw [h.lenw]; exact hi
  rw [hc]; simp [List.getD, List.getElem?_eq_getElem hl]
end

set_option maxHeartbeats 400000 in
theorem cell_made {w : World} {g gw gv n cw cv : Nat} {m : Cel.Mem} (h : MemAt w g gw gv n cw cv m) :
    Calls Tryz.prog 37 #[.pointer (some ⟨g, 0, none⟩)] w fun e w' => e = .returned (.bool true) ∧ w = w' := by
  have c0 := h.c0
  go_enter Tryz.func37, Tryz.ntmps37
  go_wp2_with fail
  go_ret
  exact ⟨rfl, rfl⟩

section
variable {w : World} {g gw gv n cw cv : Nat} {m : Cel.Mem} (h : MemAt w g gw gv n cw cv m)
include h

set_option maxHeartbeats 400000 in
theorem cell_Words : Calls Tryz.prog 38 #[.pointer (some ⟨g, 0, none⟩)] w fun e w' => e = .returned (.int .i64 (n : Int)) ∧ w = w' := by
  have c0 := h.c0
  go_enter Tryz.func38, Tryz.ntmps38
  go_wp2_with (go_at_call 37; refine (cell_made h).mono ?_; rintro e w1 ⟨rfl, rfl⟩)
  go_ret
  exact ⟨rfl, rfl⟩

set_option maxHeartbeats 400000 in
theorem cell_has (a : Int) : Calls Tryz.prog 94 #[.pointer (some ⟨g, 0, none⟩), .int .i64 a] w fun e w' => e = .returned (.bool (m.has a)) ∧ w = w' := by
  have hl := Lib.hid h.len
  have H := Lib.hid h
  by_cases h0 : 0 ≤ a
  · by_cases h1 : a < n
    · go_enter Tryz.func94, Tryz.ntmps94
      go_wp2_with (go_at_call 38; refine (cell_Words H.out).mono ?_; rintro e w1 ⟨rfl, rfl⟩)
      go_ret
      exact ⟨by rw [(m.has_iff a).2 ⟨h0, by rw [hl.out]; exact h1⟩]; rfl, rfl⟩
    · have hd : decide (a < (n : Int)) = false := by simpa using h1
      go_enter Tryz.func94, Tryz.ntmps94
      go_wp2_with (go_at_call 38; refine (cell_Words H.out).mono ?_; rintro e w1 ⟨rfl, rfl⟩)
      go_ret
      exact ⟨by rw [m.has_no a (by rw [hl.out]; omega)]; rfl, rfl⟩
  · go_enter Tryz.func94, Tryz.ntmps94
    go_wp2_with (go_at_call 38; refine (cell_Words H.out).mono ?_; rintro e w1 ⟨rfl, rfl⟩)
    go_ret
    exact ⟨by rw [m.has_no a (by omega)]; rfl, rfl⟩

set_option maxHeartbeats 400000 in
theorem cell_access (a : Int) : Calls Tryz.prog 96 #[.pointer (some ⟨g, 0, none⟩), .int .i64 a] w fun e w' => e = .returned (.int .i64 (m.access a)) ∧ w = w' := by
  have H := Lib.hid h
  have c5 := h.c5
  cases ho : m.off with
  | true =>
    rw [ho] at c5
    have HF := Lib.hid (show m.access a = 7 by simp [Cel.Mem.access, ho])
    clear ho
    go_enter Tryz.func96, Tryz.ntmps96
    go_wp2_with (go_at_call 37; refine (cell_made H.out).mono ?_; rintro e w1 ⟨rfl, rfl⟩)
    go_ret
    exact ⟨by rw [HF.out]; rfl, rfl⟩
  | false =>
    rw [ho] at c5
    cases hh : m.has a with
    | true =>
      have HF := Lib.hid (show m.access a = 0 by simp [Cel.Mem.access, ho, hh])
      clear ho
      go_enter Tryz.func96, Tryz.ntmps96
      go_wp2_with (first
        | (go_at_call 37; refine (cell_made H.out).mono ?_; rintro e w1 ⟨rfl, rfl⟩)
        | (go_at_call 94; refine (cell_has H.out a).mono ?_; rintro e w1 ⟨rfl, rfl⟩; rw [hh]))
      go_ret
      exact ⟨by rw [HF.out]; rfl, rfl⟩
    | false =>
      have HF := Lib.hid (show m.access a = 2 by simp [Cel.Mem.access, ho, hh])
      clear ho
      go_enter Tryz.func96, Tryz.ntmps96
      go_wp2_with (first
        | (go_at_call 37; refine (cell_made H.out).mono ?_; rintro e w1 ⟨rfl, rfl⟩)
        | (go_at_call 94; refine (cell_has H.out a).mono ?_; rintro e w1 ⟨rfl, rfl⟩; rw [hh]))
      go_ret
      exact ⟨by rw [HF.out]; rfl, rfl⟩

set_option maxHeartbeats 400000 in
theorem cell_Read (a : Int) : Calls Tryz.prog 82 #[.pointer (some ⟨g, 0, none⟩), .int .i64 a] w fun e w' => e = .returned (.tuple #[W32 (m.read a).1, .int .i64 (m.read a).2]) ∧ w = w' := by
  have H := Lib.hid h
  have c0 := h.c0
  cases ha : (m.access a != 0) with
  | true =>
    have HF := Lib.hid (show m.read a = (0, m.access a) by simp at ha; simp [Cel.Mem.read, ha])
    go_enter Tryz.func82, Tryz.ntmps82
    go_wp2_with (go_at_call 96; refine (cell_access H.out a).mono ?_; rintro e w1 ⟨rfl, rfl⟩)
    go_ret2
    exact ⟨by rw [HF.out]; rfl, rfl⟩
  | false =>
    have hz : m.access a = 0 := by simpa using ha
    have HF := Lib.hid (show m.read a = (m.words.getD a.toNat 0, 0) by simp [Cel.Mem.read, hz])
    have hb : 0 ≤ a ∧ a < n := by
      have := (m.has_iff a).1 ((m.access_zero a).1 hz).2
      rwa [h.len] at this
    obtain ⟨i, rfl⟩ := Int.eq_ofNat_of_zero_le hb.1
    have hi : i < n := by omega
    have ci := h.word hi
    clear hz
    have hbz := hb.2
    go_enter Tryz.func82, Tryz.ntmps82
    go_wp2_with (go_at_call 96; refine (cell_access H.out _).mono ?_; rintro e w1 ⟨rfl, rfl⟩)
    go_ret2
    exact ⟨by rw [HF.out]; rfl, rfl⟩

set_option maxHeartbeats 400000 in
theorem cell_Wear (a : Int) : Calls Tryz.prog 77 #[.pointer (some ⟨g, 0, none⟩), .int .i64 a] w fun e w' => e = .returned (.int .i64 (m.wearOf a)) ∧ w = w' := by
  have H := Lib.hid h
  have c1 := h.c1
  cases ha : m.has a with
  | false =>
    have HF := Lib.hid (show m.wearOf a = 0 by simp [Cel.Mem.wearOf, ha])
    go_enter Tryz.func77, Tryz.ntmps77
    go_wp2_with (go_at_call 94; refine (cell_has H.out a).mono ?_; rintro e w1 ⟨rfl, rfl⟩; rw [ha])
    go_ret
    exact ⟨by rw [HF.out]; rfl, rfl⟩
  | true =>
    have HF := Lib.hid (show m.wearOf a = m.wear.getD a.toNat 0 by simp [Cel.Mem.wearOf, ha])
    have hb : 0 ≤ a ∧ a < n := by
      have := (m.has_iff a).1 ha
      rwa [h.len] at this
    obtain ⟨i, rfl⟩ := Int.eq_ofNat_of_zero_le hb.1
    have hi : i < n := by omega
    have ci := h.worn hi
    have hbz := hb.2
    go_enter Tryz.func77, Tryz.ntmps77
    go_wp2_with (go_at_call 94; refine (cell_has H.out _).mono ?_; rintro e w1 ⟨rfl, rfl⟩; rw [ha])
    go_ret
    exact ⟨by rw [HF.out]; rfl, rfl⟩
end
end Go.Proofs.YtmhjddmamknglaaGreat
end

section
namespace Go.Proofs.YtmhjddmamknglaaGreat
set_option maxRecDepth 100000
set_option linter.unusedSimpArgs false
set_option linter.unusedVariables false
open Go.RowKit

/-- The memory's three blocks. -/
def MemR (g gw gv : Nat) (k : Nat) : Prop := k = g ∨ k = gw ∨ k = gv

section
variable {w : World} {g gw gv n cw cv : Nat} {m : Cel.Mem}
theorem MemAt.field (h : MemAt w g gw gv n cw cv m) (j : Nat) (u : Value) (m' : Cel.Mem) (hw : m'.words = m.words) (hv : m'.wear = m.wear)
    (hb : (#[.slice (some ⟨gw, 0, none⟩) n cw, .slice (some ⟨gv, 0, none⟩) n cv, I64 m.endurance, I64 m.writes, I64 m.cuts, .bool m.off, .bool m.pending, I64 m.left] : Array Value).setIfInBounds j u =
      #[.slice (some ⟨gw, 0, none⟩) n cw, .slice (some ⟨gv, 0, none⟩) n cv, I64 m'.endurance, I64 m'.writes, I64 m'.cuts, .bool m'.off, .bool m'.pending, I64 m'.left]) :
    MemAt (w.setCell ⟨g, j, none⟩ u) g gw gv n cw cv m' :=
  ⟨by rw [← hb]; exact h.box.set j u, by rw [hw]; exact h.words.setCell (by intro q hq; simp at hq; subst hq; exact h.gw_ne.symm) u,
    by rw [hv]; exact h.wear.setCell (by intro q hq; simp at hq; subst hq; exact h.gv_ne.symm) u, h.pos, h.small, h.gw_ne, h.gv_ne, h.wv_ne⟩
theorem MemAt.setWrites (h : MemAt w g gw gv n cw cv m) (x : Int) : MemAt (w.setCell ⟨g, 3, none⟩ (I64 x)) g gw gv n cw cv { m with writes := x } := h.field 3 _ _ rfl rfl rfl
theorem MemAt.setCuts (h : MemAt w g gw gv n cw cv m) (x : Int) : MemAt (w.setCell ⟨g, 4, none⟩ (I64 x)) g gw gv n cw cv { m with cuts := x } := h.field 4 _ _ rfl rfl rfl
theorem MemAt.setOff (h : MemAt w g gw gv n cw cv m) (x : Bool) : MemAt (w.setCell ⟨g, 5, none⟩ (.bool x)) g gw gv n cw cv { m with off := x } := h.field 5 _ _ rfl rfl rfl
theorem MemAt.setPending (h : MemAt w g gw gv n cw cv m) (x : Bool) : MemAt (w.setCell ⟨g, 6, none⟩ (.bool x)) g gw gv n cw cv { m with pending := x } := h.field 6 _ _ rfl rfl rfl
theorem MemAt.setLeft (h : MemAt w g gw gv n cw cv m) (x : Int) : MemAt (w.setCell ⟨g, 7, none⟩ (I64 x)) g gw gv n cw cv { m with left := x } := h.field 7 _ _ rfl rfl rfl
theorem MemAt.setWord (h : MemAt w g gw gv n cw cv m) {i : Nat} (hi : i < n) (v : UInt32) : MemAt (w.setCell ⟨gw, i, none⟩ (W32 v)) g gw gv n cw cv { m with words := m.words.set i v } := by
  obtain ⟨q, e, _, _, _, _, hs⟩ := h.words.elem hi
  obtain rfl : gw = q := by simpa using e
  refine ⟨h.box.far h.gw_ne _, ?_, h.wear.setCell (by intro q hq; simp at hq; subst hq; exact h.wv_ne.symm) _, h.pos, h.small, h.gw_ne, h.gv_ne, h.wv_ne⟩
  have := hs (W32 v)
  rwa [show (m.words.map W32).set i (W32 v) = (m.words.set i v).map W32 by rw [List.map_set]] at this
theorem MemAt.setWear (h : MemAt w g gw gv n cw cv m) {i : Nat} (hi : i < n) (x : Int) : MemAt (w.setCell ⟨gv, i, none⟩ (I64 x)) g gw gv n cw cv { m with wear := m.wear.set i x } := by
  obtain ⟨q, e, _, _, _, _, hs⟩ := h.wear.elem hi
  obtain rfl : gv = q := by simpa using e
  refine ⟨h.box.far h.gv_ne _, h.words.setCell (by intro q hq; simp at hq; subst hq; exact h.wv_ne) _, ?_, h.pos, h.small, h.gw_ne, h.gv_ne, h.wv_ne⟩
  have := hs (I64 x)
  rwa [show (m.wear.map I64).set i (I64 x) = (m.wear.set i x).map I64 by rw [List.map_set]] at this
theorem MemAt.drewN (h : MemAt w g gw gv n cw cv m) (k : Nat) : MemAt (w.drewN k) g gw gv n cw cv m := ⟨h.box, h.words, h.wear, h.pos, h.small, h.gw_ne, h.gv_ne, h.wv_ne⟩
theorem MemAt.drew (h : MemAt w g gw gv n cw cv m) : MemAt w.drew g gw gv n cw cv m := ⟨h.box, h.words, h.wear, h.pos, h.small, h.gw_ne, h.gv_ne, h.wv_ne⟩
theorem MemAt.fbox (h : MemAt w g gw gv n cw cv m) (j : Nat) : w.frozen? ⟨g, j, none⟩ = false := h.box.frozen j
theorem MemAt.fword (h : MemAt w g gw gv n cw cv m) {i : Nat} (hi : i < n) : w.frozen? ⟨gw, i, none⟩ = false := by
  obtain ⟨q, e, _, _, _, hf, _⟩ := h.words.elem hi
  obtain rfl : gw = q := by simpa using e
  exact hf
theorem MemAt.fwear (h : MemAt w g gw gv n cw cv m) {i : Nat} (hi : i < n) : w.frozen? ⟨gv, i, none⟩ = false := by
  obtain ⟨q, e, _, _, _, hf, _⟩ := h.wear.elem hi
  obtain rfl : gv = q := by simpa using e
  exact hf
end

theorem bit_eq (i : Nat) : ((Cel.bit i).toNat : Int) = (2 : Int) ^ (i % 32) := by
  unfold Cel.bit
  rw [UInt32.toNat_ofNat_of_lt' (Nat.lt_of_lt_of_le (Nat.pow_lt_pow_right (by omega) (Nat.mod_lt i (by omega : 0 < 32))) (by decide))]
  simp

theorem flip_eq (v : UInt32) (i : Nat) : bits BinOp.xor IntKind.u32 (v.toNat : Int) ((2 : Int) ^ (i % 32) % 4294967296) = ((v ^^^ Cel.bit i).toNat : Int) := by
  have h := Cel.bit i |>.toNat_lt
  have e : (2 : Int) ^ (i % 32) % 4294967296 = ((Cel.bit i).toNat : Int) := by
    rw [← bit_eq]; omega
  rw [e, u32_xor_nat _ _ v.toNat_lt h, UInt32.toNat_xor]

section
variable {w : World} {g gw gv n cw cv : Nat} {m : Cel.Mem} (h : MemAt w g gw gv n cw cv m)
include h

set_option maxHeartbeats 400000 in
theorem cell_Write_no (a : Int) (v : UInt32) (ha : m.access a ≠ 0) : Calls Tryz.prog 80 #[.pointer (some ⟨g, 0, none⟩), .int .i64 a, .int .u32 (v.toNat : Int)] w fun e w' => e = .returned (.int .i64 (m.access a)) ∧ w = w' := by
  have H := Lib.hid h
  have hb : (m.access a != 0) = true := by simpa using ha
  go_enter Tryz.func80, Tryz.ntmps80
  go_wp2_with (go_at_call 96; refine (cell_access H.out a).mono ?_; rintro e w1 ⟨rfl, rfl⟩)
  go_ret
  exact ⟨rfl, rfl⟩

set_option maxHeartbeats 400000 in
theorem cell_Write_cut (a : Int) (v : UInt32) (ha : m.access a = 0) (hp : m.pending = true) (hl : m.left = 0) (hc : m.cuts + 1 ≤ 9223372036854775807) (hc' : 0 ≤ m.cuts) : Calls Tryz.prog 80 #[.pointer (some ⟨g, 0, none⟩), .int .i64 a, .int .u32 (v.toNat : Int)] w fun e w' =>
    e = .returned (.int .i64 7) ∧ MemAt w' g gw gv n cw cv m.down ∧ Only (MemR g gw gv) w w' := by
  have H := Lib.hid h
  have hb : (m.access a != 0) = false := by simpa using ha
  have c4 := h.c4
  have c5 := h.c5
  have c6 := h.c6
  have c7 := h.c7
  have f4 := h.fbox 4
  have f5 := h.fbox 5
  have f6 := h.fbox 6
  rw [hp] at c6
  rw [hl] at c7
  clear ha hp hl
  go_enter Tryz.func80, Tryz.ntmps80
  go_wp2_with (go_at_call 96; refine (cell_access H.out a).mono ?_; rintro e w1 ⟨rfl, rfl⟩)
  go_ret
  exact ⟨rfl, ((h.setOff true).setPending false).setCuts (m.cuts + 1), (((Only.refl _ _).setCell (.inl rfl) _).setCell (.inl rfl) _).setCell (.inl rfl) _⟩

set_option maxRecDepth 100000 in
set_option maxHeartbeats 1000000 in
theorem cell_Write_yes (i : Nat) (v : UInt32) (hi : i < n) (ho : m.off = false) (hp : m.pending = true → m.left ≠ 0 ∧ -9223372036854775807 ≤ m.left ∧ m.left ≤ 9223372036854775807) (hw : 0 ≤ m.writes ∧ m.writes + 1 ≤ 9223372036854775807) (hv : 0 ≤ m.wear.getD i 0 ∧ m.wear.getD i 0 + 1 ≤ 9223372036854775807) :
    Calls Tryz.prog 80 #[.pointer (some ⟨g, 0, none⟩), .int .i64 (i : Int), .int .u32 (v.toNat : Int)] w fun e w' =>
    e = .returned (.int .i64 0) ∧ MemAt w' g gw gv n cw cv (m.tick.put i v) ∧ Only (MemR g gw gv) w w' := by
  have H := Lib.hid h
  have ha : m.access (i : Int) = 0 := (m.access_zero _).2 ⟨ho, (m.has_iff _).2 ⟨by omega, by rw [h.len]; omega⟩⟩
  have hb : (m.access (i : Int) != 0) = false := by simpa using ha
  have c0 := h.c0
  have c1 := h.c1
  have c2 := h.c2
  have c3 := h.c3
  have c6 := h.c6
  have c7 := h.c7
  have cw' := h.word hi
  have cv' := h.worn hi
  have f3 := h.fbox 3
  have f7 := h.fbox 7
  have fw := h.fword hi
  have fv := h.fwear hi
  have n1 := h.gw_ne
  have n2 := h.gv_ne
  have n3 := h.wv_ne
  have hm := h.max
  have w1 := hw.1
  have w2 := hw.2
  have v1 := hv.1
  have v2 := hv.2
  have p0 : (0 : Int) ≤ (i : Int) := by omega
  have p1 : (i : Int) < (n : Int) := by omega
  clear ha ho hw hv
  cases hpend : m.pending with
  | false =>
    rw [hpend] at c6
    have HP := Lib.hid hpend
    clear hpend hp
    by_cases hx : m.endurance < m.wear.getD i 0 + 1
    · have hd : decide (m.endurance < m.wear.getD i 0 + 1) = true := by simpa using hx
      generalize hwe : m.wear.getD i 0 = we at *
      have Hwe := Lib.hid hwe
      clear hwe
      have e1 := Lib.hid (show m.tick.put i v = { { { m with writes := m.writes + 1 } with wear := m.wear.set i (we + 1) } with words := m.words.set i (v ^^^ Cel.bit i) } by rw [m.tick_no HP.out, Cel.Mem.put_yes m i v we Hwe.out hx])
      go_enter Tryz.func80, Tryz.ntmps80
      go_wp2_with (go_at_call 96; refine (cell_access H.out _).mono ?_; rintro e w1 ⟨rfl, rfl⟩)
      go_quiet (fail)
      go_wp2_with fail
      go_ret
      rw [e1.out]
      rw [flip_eq]
      exact ⟨rfl, (((h.setWrites _).setWear hi _).setWord hi _).drewN nq, ((((Only.refl _ _).setCell (.inl rfl) _).setCell (.inr (.inr rfl)) _).setCell (.inr (.inl rfl)) _).drewN nq⟩
    · have hd : decide (m.endurance < m.wear.getD i 0 + 1) = false := by simpa using hx
      generalize hwe : m.wear.getD i 0 = we at *
      have Hwe := Lib.hid hwe
      clear hwe
      have e1 := Lib.hid (show m.tick.put i v = { { { m with writes := m.writes + 1 } with wear := m.wear.set i (we + 1) } with words := m.words.set i v } by rw [m.tick_no HP.out, Cel.Mem.put_no m i v we Hwe.out hx])
      go_enter Tryz.func80, Tryz.ntmps80
      go_wp2_with (go_at_call 96; refine (cell_access H.out _).mono ?_; rintro e w1 ⟨rfl, rfl⟩)
      go_quiet (fail)
      go_wp2_with fail
      go_ret
      rw [e1.out]
      exact ⟨rfl, (((h.setWrites _).setWear hi _).setWord hi _).drewN nq, ((((Only.refl _ _).setCell (.inl rfl) _).setCell (.inr (.inr rfl)) _).setCell (.inr (.inl rfl)) _).drewN nq⟩
  | true =>
    rw [hpend] at c6
    have HP := Lib.hid hpend
    obtain ⟨l0, l1, l2⟩ := hp hpend
    have hl : (m.left == 0) = false := by simpa using l0
    clear hpend hp
    by_cases hx : m.endurance < m.wear.getD i 0 + 1
    · have hd : decide (m.endurance < m.wear.getD i 0 + 1) = true := by simpa using hx
      generalize hwe : m.wear.getD i 0 = we at *
      have Hwe := Lib.hid hwe
      clear hwe
      have e1 := Lib.hid (show m.tick.put i v = { { { { m with left := m.left - 1 } with writes := m.writes + 1 } with wear := m.wear.set i (we + 1) } with words := m.words.set i (v ^^^ Cel.bit i) } by rw [m.tick_yes HP.out, Cel.Mem.put_yes { m with left := m.left - 1 } i v we Hwe.out hx])
      go_enter Tryz.func80, Tryz.ntmps80
      go_wp2_with (go_at_call 96; refine (cell_access H.out _).mono ?_; rintro e w1 ⟨rfl, rfl⟩)
      go_quiet (fail)
      go_wp2_with fail
      go_ret
      rw [e1.out]
      rw [flip_eq]
      exact ⟨rfl, ((((h.setLeft (m.left - 1)).setWrites _).setWear hi _).setWord hi _).drewN nq, (((((Only.refl _ _).setCell (.inl rfl) _).setCell (.inl rfl) _).setCell (.inr (.inr rfl)) _).setCell (.inr (.inl rfl)) _).drewN nq⟩
    · have hd : decide (m.endurance < m.wear.getD i 0 + 1) = false := by simpa using hx
      generalize hwe : m.wear.getD i 0 = we at *
      have Hwe := Lib.hid hwe
      clear hwe
      have e1 := Lib.hid (show m.tick.put i v = { { { { m with left := m.left - 1 } with writes := m.writes + 1 } with wear := m.wear.set i (we + 1) } with words := m.words.set i v } by rw [m.tick_yes HP.out, Cel.Mem.put_no { m with left := m.left - 1 } i v we Hwe.out hx])
      go_enter Tryz.func80, Tryz.ntmps80
      go_wp2_with (go_at_call 96; refine (cell_access H.out _).mono ?_; rintro e w1 ⟨rfl, rfl⟩)
      go_quiet (fail)
      go_wp2_with fail
      go_ret
      rw [e1.out]
      exact ⟨rfl, ((((h.setLeft (m.left - 1)).setWrites _).setWear hi _).setWord hi _).drewN nq, (((((Only.refl _ _).setCell (.inl rfl) _).setCell (.inl rfl) _).setCell (.inr (.inr rfl)) _).setCell (.inr (.inl rfl)) _).drewN nq⟩
end
end Go.Proofs.YtmhjddmamknglaaGreat
end

section
namespace Go.Proofs.YtmhjddmamknglaaGreat
set_option maxRecDepth 100000
set_option linter.unusedSimpArgs false
set_option linter.unusedVariables false
open Go.RowKit

theorem i_u32 : (Tryz.prog.info? 109).map (fun i => (i.zero, i.size, i.bytes)) = some (some (.int .u32 0), 1, 4) := by kernel_rfl
theorem i_int : (Tryz.prog.info? 3).map (fun i => (i.zero, i.size, i.bytes)) = some (some (.int .i64 0), 1, 8) := by kernel_rfl

set_option maxRecDepth 100000 in
set_option maxHeartbeats 1000000 in
theorem cell_New (n : Nat) (en : Int) (w : World) (h1 : 1 ≤ n) (h2 : n ≤ 65536) (h3 : 1 ≤ en) :
    Calls Tryz.prog 23 #[.agg #[.int .i64 (n : Int), .int .i64 en]] w fun e w' => ∃ g gw gv, e = .returned (.tuple #[.pointer (some ⟨g, 0, none⟩), .int .i64 0]) ∧
      MemAt w' g gw gv n n n (Cel.Mem.new n en) ∧ w.heap.size ≤ g ∧ w.heap.size ≤ gw ∧ w.heap.size ≤ gv ∧ Below w.heap.size w w' := by
  obtain ⟨iu, hiu, hu0, hu1, hu2⟩ := info_parts i_u32
  obtain ⟨ii, hii, hi0, hi1, hi2⟩ := info_parts i_int
  have mu : ∀ u : World, (Instr.makeSlice 74 (.int .i64 (n : Int)) (.int .i64 (n : Int))).run Tryz.prog u = .ok (.slice (some ⟨u.heap.size, 0, none⟩) n n) (u.alloc (.cells (madeCells #[.int .u32 0] n) 109)) := fun u => by
    have h := run_make (P := Tryz.prog) u 74 109 iu (.int .u32 0) Tryz.underlying74 hiu hu0 .i64 .i64 (n : Int) (n : Int) (by omega) (Int.le_refl _) (by rw [hu2]; omega) (by omega)
    simpa [hu1, Value.cells] using h
  have mi : ∀ u : World, (Instr.makeSlice 64 (.int .i64 (n : Int)) (.int .i64 (n : Int))).run Tryz.prog u = .ok (.slice (some ⟨u.heap.size, 0, none⟩) n n) (u.alloc (.cells (madeCells #[.int .i64 0] n) 3)) := fun u => by
    have h := run_make (P := Tryz.prog) u 64 3 ii (.int .i64 0) Tryz.underlying64 hii hi0 .i64 .i64 (n : Int) (n : Int) (by omega) (Int.le_refl _) (by rw [hi2]; omega) (by omega)
    simpa [hi1, Value.cells] using h
  have p1 : (1 : Int) ≤ (n : Int) := by omega
  have p2 : (n : Int) ≤ 65536 := by omega
  go_enter Tryz.func23, Tryz.ntmps23
  go_wp2_with fail
  go_region
  all_goals go_wp2_with fail
  · go_ret2
    refine ⟨w.heap.size + 3, w.heap.size + 1, w.heap.size + 2, rfl, ?_, by omega, by omega, by omega, ((((((Below.refl _ _).alloc (Nat.le_refl _) _).alloc (by simp) _).alloc (by simp; omega) _).alloc (by simp; omega) _)).drew⟩
    have hb1 := Blk.new' (g := w.heap.size + 1) (w.alloc (Obj.cells #[Value.int IntKind.i64 n, Value.int IntKind.i64 en] 62)) (t := 109) (cs := madeCells #[.int .u32 0] n) (by simp) rfl
    have hb2 := Blk.new' (g := w.heap.size + 2) ((w.alloc (Obj.cells #[Value.int IntKind.i64 n, Value.int IntKind.i64 en] 62)).alloc (Obj.cells (madeCells #[.int .u32 0] n) 109)) (t := 3) (cs := madeCells #[.int .i64 0] n) (by simp) rfl
    exact MemAt.drew ⟨Blk.new' _ (by simp) rfl, by
        rw [show (Cel.Mem.new n en).words.map W32 = List.replicate n (.int .u32 0) by simp [Cel.Mem.new, W32]]
        exact (Own.made hb1 (Nat.zero_le _) (by unfold maxLen; omega)).alloc _ |>.alloc _, by
        rw [show (Cel.Mem.new n en).wear.map I64 = List.replicate n (.int .i64 0) by simp [Cel.Mem.new, I64]]
        exact (Own.made hb2 (Nat.zero_le _) (by unfold maxLen; omega)).alloc _, by omega, h2, by omega, by omega, by omega⟩
  · go_ret2
    refine ⟨w.heap.size + 3, w.heap.size + 2, w.heap.size + 1, rfl, ?_, by omega, by omega, by omega, ((((((Below.refl _ _).alloc (Nat.le_refl _) _).alloc (by simp) _).alloc (by simp; omega) _).alloc (by simp; omega) _)).drew⟩
    have hb1 := Blk.new' (g := w.heap.size + 1) (w.alloc (Obj.cells #[Value.int IntKind.i64 n, Value.int IntKind.i64 en] 62)) (t := 3) (cs := madeCells #[.int .i64 0] n) (by simp) rfl
    have hb2 := Blk.new' (g := w.heap.size + 2) ((w.alloc (Obj.cells #[Value.int IntKind.i64 n, Value.int IntKind.i64 en] 62)).alloc (Obj.cells (madeCells #[.int .i64 0] n) 3)) (t := 109) (cs := madeCells #[.int .u32 0] n) (by simp) rfl
    exact MemAt.drew ⟨Blk.new' _ (by simp) rfl, by
        rw [show (Cel.Mem.new n en).words.map W32 = List.replicate n (.int .u32 0) by simp [Cel.Mem.new, W32]]
        exact (Own.made hb2 (Nat.zero_le _) (by unfold maxLen; omega)).alloc _, by
        rw [show (Cel.Mem.new n en).wear.map I64 = List.replicate n (.int .i64 0) by simp [Cel.Mem.new, I64]]
        exact (Own.made hb1 (Nat.zero_le _) (by unfold maxLen; omega)).alloc _ |>.alloc _, by omega, h2, by omega, by omega, by omega⟩
end Go.Proofs.YtmhjddmamknglaaGreat
end

section
namespace Go.Proofs.YtmhjddmamknglaaGreat
set_option maxRecDepth 100000
set_option linter.unusedSimpArgs false
set_option linter.unusedVariables false
open Go.RowKit

section
variable {w : World} {g gw gv n cw cv : Nat} {m : Cel.Mem} (h : MemAt w g gw gv n cw cv m)
include h

theorem cell_Write (a x : Int) (v : UInt32) (hx : x = (v.toNat : Int)) {K : Int} (hf : Cel.Fine K m) (hK : 0 ≤ K ∧ K ≤ 4611686018427387904) : Calls Tryz.prog 80 #[.pointer (some ⟨g, 0, none⟩), .int .i64 a, .int .u32 x] w fun e w' =>
    e = .returned (.int .i64 (m.write a v).2) ∧ MemAt w' g gw gv n cw cv (m.write a v).1 ∧ Only (MemR g gw gv) w w' := by
  subst hx
  by_cases ha : m.access a = 0
  · by_cases hp : m.pending = true ∧ m.left = 0
    · rw [m.write_cut a v ha hp.1 hp.2]
      exact cell_Write_cut h a v ha hp.1 hp.2 (by have := hf.cuts.2; omega) hf.cuts.1
    · rw [m.write_yes a v ha hp]
      obtain ⟨ho, hh⟩ := (m.access_zero a).1 ha
      obtain ⟨h0, h1⟩ := (m.has_iff a).1 hh
      rw [h.len] at h1
      obtain ⟨i, rfl⟩ := Int.eq_ofNat_of_zero_le h0
      have hg := hf.getD hK.1 i
      exact cell_Write_yes h i v (by omega) ho (fun hq => ⟨fun hl => hp ⟨hq, hl⟩, by have := hf.left.1; omega, hf.left.2⟩) ⟨hf.writes.1, by have := hf.writes.2; omega⟩ ⟨hg.1, by omega⟩
  · rw [m.write_no a v ha]
    exact (cell_Write_no h a v ha).mono fun e w' ⟨he, hw⟩ => by subst hw; exact ⟨he, h, Only.refl _ _⟩

set_option maxHeartbeats 400000 in
theorem cell_Power : Calls Tryz.prog 12 #[.pointer (some ⟨g, 0, none⟩)] w fun e w' => e = .returned (.bool (!m.off)) ∧ w = w' := by
  have H := Lib.hid h
  have c5 := h.c5
  cases hm : m.off <;>
  · rw [hm] at c5
    go_enter Tryz.func12, Tryz.ntmps12
    go_wp2_with (go_at_call 37; refine (cell_made H.out).mono ?_; rintro e w1 ⟨rfl, rfl⟩)
    go_ret
    exact ⟨rfl, rfl⟩

end

/-- The memory of the chapter's example. -/
def Cel.ex1 : Cel.Mem := ((Cel.Mem.new 40 2).write 33 5).1
def Cel.ex2 : Cel.Mem := (Cel.ex1.write 33 5).1
def Cel.ex3 : Cel.Mem := (Cel.ex2.write 33 5).1

end Go.Proofs.YtmhjddmamknglaaGreat
end

section
namespace Go.Proofs.YtmhjddmamknglaaGreat
set_option maxRecDepth 100000
set_option linter.unusedSimpArgs false
set_option linter.unusedVariables false
open Go.RowKit

/-- A slice of words: n of them, capacity c. -/
def Wds (w : World) (B : Nat) (A : Option Addr) (n c : Nat) (ws : List UInt32) : Prop := ws.length = n ∧ n ≤ c ∧ Row w B A (ws.map W32)
section
variable {w w' : World} {B B' : Nat} {A : Option Addr} {n c : Nat} {ws : List UInt32}
theorem Wds.below (h : Wds w B A n c ws) (hb : Below B w w') : Wds w' B A n c ws := ⟨h.1, h.2.1, h.2.2.below hb⟩
theorem Wds.more (h : Wds w B A n c ws) (hB : B ≤ B') : Wds w B' A n c ws := ⟨h.1, h.2.1, h.2.2.more hB⟩
theorem Wds.at_ (h : Wds w B A n c ws) {k : Nat} (hk : k < n) : ∃ b o, A = some ⟨b, o, none⟩ ∧ b < B ∧ w.cell? ⟨b, o + k, none⟩ = some (.int .u32 ((ws.getD k 0).toNat : Int)) := by
  have hl : k < ws.length := by rw [h.1]; exact hk
  obtain ⟨b, o, e, hb, hc⟩ := h.2.2.at_ (j := k) (by simpa using hl)
  exact ⟨b, o, e, hb, by rw [hc]; simp [List.getD, List.getElem?_eq_getElem hl]⟩
end
theorem wds_of_row {w : World} {a : Option Addr} {len cap : Nat} {zs : List Int}
    (h : (a = none ∧ len = 0 ∧ cap = 0 ∧ zs = []) ∨ ∃ x, a = some x ∧ len ≤ cap ∧ cap ≤ maxLen ∧ zs.length = cap ∧ (∀ i, i < zs.length → w.cell? (x.add i) = some (.int .u32 (zs.getD i 0))) ∧ ∀ n ∈ zs, (Lit.int .u32 n).wf = true) :
    ∃ ws, Wds w w.heap.size a len cap ws ∧ cap ≤ maxLen := by
  rcases h with ⟨rfl, rfl, rfl, rfl⟩ | ⟨x, rfl, hl, hm, hz, hc, hw⟩
  · exact ⟨[], ⟨rfl, Nat.le_refl _, Row.nil _ _ _⟩, Nat.zero_le _⟩
  · refine ⟨(zs.take len).map fun z => UInt32.ofNat z.toNat, ⟨by simp; omega, hl, fun hn => ?_⟩, hm⟩
    have hn' : 0 < len := by simp at hn; omega
    have hc0 := hc 0 (by omega)
    have hx0 : x.add 0 = x := by unfold Addr.add; simp
    rw [hx0] at hc0
    obtain ⟨b, o, s⟩ := x
    have hs : s = none := by
      cases s with
      | none => rfl
      | some q => simp only [World.cell?] at hc0; split at hc0 <;> simp at hc0
    subst hs
    refine ⟨b, o, rfl, World.block_lt_of_cell? w _ hc0, fun j hj => ?_⟩
    rw [List.length_map, List.length_map, List.length_take] at hj
    have hj' : j < zs.length := by omega
    have h1 := hc j hj'
    rw [add_eq] at h1
    rw [h1, List.getElem?_map, List.getElem?_map, List.getElem?_take, if_pos (by omega), List.getElem?_eq_getElem hj']
    have hb := hw zs[j] (List.getElem_mem hj')
    have hbd : 0 ≤ zs[j] ∧ zs[j] ≤ 4294967295 := by simpa [Lit.wf, IntKind.min, IntKind.max, IntKind.signed, IntKind.bits] using hb
    simp only [List.getD, List.getElem?_eq_getElem hj', Option.getD_some, Option.map_some, W32]
    congr 2
    rw [UInt32.toNat_ofNat_of_lt' (by simp only [UInt32.size]; omega)]
    omega
end Go.Proofs.YtmhjddmamknglaaGreat
end

section
namespace Go.Proofs.YtmhjddmamknglaaGreat
set_option maxRecDepth 100000
set_option linter.unusedSimpArgs false
set_option linter.unusedVariables false
open Go.RowKit

section
variable {w : World} {g gw gv n cw cv : Nat} {m : Cel.Mem} (h : MemAt w g gw gv n cw cv m)
include h

set_option maxHeartbeats 400000 in
theorem cell_Cuts : Calls Tryz.prog 39 #[.pointer (some ⟨g, 0, none⟩)] w fun e w' => e = .returned (.int .i64 m.cuts) ∧ w = w' := by
  have H := Lib.hid h
  have c4 := h.c4
  go_enter Tryz.func39, Tryz.ntmps39
  go_wp2_with (go_at_call 37; refine (cell_made H.out).mono ?_; rintro e w1 ⟨rfl, rfl⟩)
  go_ret
  exact ⟨rfl, rfl⟩

set_option maxHeartbeats 400000 in
theorem cell_Restore : Calls Tryz.prog 14 #[.pointer (some ⟨g, 0, none⟩)] w fun e w' => e = .returned (.tuple #[]) ∧ MemAt w' g gw gv n cw cv m.restore ∧ Only (MemR g gw gv) w w' := by
  have H := Lib.hid h
  have c5 := h.c5
  have c6 := h.c6
  have c7 := h.c7
  have f5 := h.fbox 5
  have f6 := h.fbox 6
  have f7 := h.fbox 7
  go_enter Tryz.func14, Tryz.ntmps14
  go_wp2_with (go_at_call 37; refine (cell_made H.out).mono ?_; rintro e w1 ⟨rfl, rfl⟩)
  go_end0
  exact ⟨rfl, ((h.setOff false).setPending false).setLeft 0, (((Only.refl _ _).setCell (.inl rfl) _).setCell (.inl rfl) _).setCell (.inl rfl) _⟩

set_option maxHeartbeats 400000 in
theorem cell_Cut (a : Int) : Calls Tryz.prog 11 #[.pointer (some ⟨g, 0, none⟩), .int .i64 a] w fun e w' => e = .returned (.int .i64 (m.cut a).2) ∧ MemAt w' g gw gv n cw cv (m.cut a).1 ∧ Only (MemR g gw gv) w w' := by
  have H := Lib.hid h
  have c5 := h.c5
  have c6 := h.c6
  have c7 := h.c7
  have f6 := h.fbox 6
  have f7 := h.fbox 7
  cases hm : m.off with
  | true =>
    rw [hm] at c5
    have HF := Lib.hid (show m.cut a = (m, 7) by unfold Cel.Mem.cut; rw [if_pos hm])
    go_enter Tryz.func11, Tryz.ntmps11
    go_wp2_with (go_at_call 37; refine (cell_made H.out).mono ?_; rintro e w1 ⟨rfl, rfl⟩)
    go_ret
    rw [HF.out]
    exact ⟨rfl, h, Only.refl _ _⟩
  | false =>
    rw [hm] at c5
    by_cases ha : a < 0
    · have HF := Lib.hid (show m.cut a = (m, 2) by unfold Cel.Mem.cut; rw [if_neg (by rw [hm]; decide), if_pos ha])
      go_enter Tryz.func11, Tryz.ntmps11
      go_wp2_with (go_at_call 37; refine (cell_made H.out).mono ?_; rintro e w1 ⟨rfl, rfl⟩)
      go_ret
      rw [HF.out]
      exact ⟨rfl, h, Only.refl _ _⟩
    · have HF := Lib.hid (show m.cut a = ({ m with pending := true, left := a }, 0) by unfold Cel.Mem.cut; rw [if_neg (by rw [hm]; decide), if_neg ha])
      go_enter Tryz.func11, Tryz.ntmps11
      go_wp2_with (go_at_call 37; refine (cell_made H.out).mono ?_; rintro e w1 ⟨rfl, rfl⟩)
      go_ret
      rw [HF.out]
      exact ⟨rfl, (h.setPending true).setLeft a, ((Only.refl _ _).setCell (.inl rfl) _).setCell (.inl rfl) _⟩

end
end Go.Proofs.YtmhjddmamknglaaGreat
end

section
namespace Go.Proofs.YtmhjddmamknglaaGreat
set_option maxRecDepth 100000
set_option linter.unusedSimpArgs false
set_option linter.unusedVariables false
open Go.RowKit

/-- No memory: nil, or a block without words. -/
def Nought (w : World) (p : Option Addr) : Prop := p = none ∨ ∃ g, p = some ⟨g, 0, none⟩ ∧ g < w.heap.size ∧ w.cell? ⟨g, 0, none⟩ = some (.slice none 0 0)
theorem Nought.below {w w' : World} {p : Option Addr} (h : Nought w p) (hb : Below w.heap.size w w') : Nought w' p := by
  rcases h with rfl | ⟨g, rfl, hg, hc⟩
  · exact .inl rfl
  · exact .inr ⟨g, rfl, Nat.lt_of_lt_of_le hg hb.size, (hb.cell (p := ⟨g, 0, none⟩) hg).trans hc⟩

section
variable {w : World} {p : Option Addr} (h : Nought w p)
include h

set_option maxHeartbeats 400000 in
theorem noCell_made : Calls Tryz.prog 37 #[.pointer p] w fun e w' => e = .returned (.bool false) ∧ w = w' := by
  rcases h with rfl | ⟨g, rfl, hg, hc⟩
  all_goals
    go_enter Tryz.func37, Tryz.ntmps37
    go_wp2_with fail
    go_ret
    exact ⟨rfl, rfl⟩

set_option maxHeartbeats 400000 in
theorem noCell_Words : Calls Tryz.prog 38 #[.pointer p] w fun e w' => e = .returned (.int .i64 0) ∧ w = w' := by
  have H := Lib.hid h
  go_enter Tryz.func38, Tryz.ntmps38
  go_wp2_with (first
    | (go_at_call 37; refine (noCell_made H.out).mono ?_; rintro e w1 ⟨rfl, rfl⟩))
  go_ret
  exact ⟨rfl, rfl⟩

set_option maxHeartbeats 400000 in
theorem noCell_has (a : Int) : Calls Tryz.prog 94 #[.pointer p, .int .i64 a] w fun e w' => e = .returned (.bool false) ∧ w = w' := by
  have H := Lib.hid h
  by_cases h0 : 0 ≤ a
  · go_enter Tryz.func94, Tryz.ntmps94
    go_wp2_with (go_at_call 38; refine (noCell_Words H.out).mono ?_; rintro e w1 ⟨rfl, rfl⟩)
    go_ret
    exact ⟨by simpa using h0, rfl⟩
  · go_enter Tryz.func94, Tryz.ntmps94
    go_wp2_with (go_at_call 38; refine (noCell_Words H.out).mono ?_; rintro e w1 ⟨rfl, rfl⟩)
    go_ret
    exact ⟨rfl, rfl⟩

set_option maxHeartbeats 400000 in
theorem noCell_access (a : Int) : Calls Tryz.prog 96 #[.pointer p, .int .i64 a] w fun e w' => e = .returned (.int .i64 31) ∧ w = w' := by
  have H := Lib.hid h
  go_enter Tryz.func96, Tryz.ntmps96
  go_wp2_with (first
    | (go_at_call 37; refine (noCell_made H.out).mono ?_; rintro e w1 ⟨rfl, rfl⟩))
  go_ret
  exact ⟨rfl, rfl⟩

set_option maxHeartbeats 400000 in
theorem noCell_Read (a : Int) : Calls Tryz.prog 82 #[.pointer p, .int .i64 a] w fun e w' => e = .returned (.tuple #[.int .u32 0, .int .i64 31]) ∧ w = w' := by
  have H := Lib.hid h
  go_enter Tryz.func82, Tryz.ntmps82
  go_wp2_with (first
    | (go_at_call 96; refine (noCell_access H.out a).mono ?_; rintro e w1 ⟨rfl, rfl⟩))
  go_ret2
  exact ⟨rfl, rfl⟩

set_option maxHeartbeats 400000 in
theorem noCell_Write (a : Int) (v : Int) : Calls Tryz.prog 80 #[.pointer p, .int .i64 a, .int .u32 v] w fun e w' => e = .returned (.int .i64 31) ∧ w = w' := by
  have H := Lib.hid h
  go_enter Tryz.func80, Tryz.ntmps80
  go_wp2_with (first
    | (go_at_call 96; refine (noCell_access H.out a).mono ?_; rintro e w1 ⟨rfl, rfl⟩))
  go_ret
  exact ⟨rfl, rfl⟩

set_option maxHeartbeats 400000 in
theorem noCell_Cut (a : Int) : Calls Tryz.prog 11 #[.pointer p, .int .i64 a] w fun e w' => e = .returned (.int .i64 31) ∧ w = w' := by
  have H := Lib.hid h
  go_enter Tryz.func11, Tryz.ntmps11
  go_wp2_with (first
    | (go_at_call 37; refine (noCell_made H.out).mono ?_; rintro e w1 ⟨rfl, rfl⟩))
  go_ret
  exact ⟨rfl, rfl⟩

set_option maxHeartbeats 400000 in
theorem noCell_Restore : Calls Tryz.prog 14 #[.pointer p] w fun e w' => e = .returned (.tuple #[]) ∧ w = w' := by
  have H := Lib.hid h
  go_enter Tryz.func14, Tryz.ntmps14
  go_wp2_with (first
    | (go_at_call 37; refine (noCell_made H.out).mono ?_; rintro e w1 ⟨rfl, rfl⟩))
  go_end0
  exact ⟨rfl, rfl⟩

set_option maxHeartbeats 400000 in
theorem noCell_Power : Calls Tryz.prog 12 #[.pointer p] w fun e w' => e = .returned (.bool false) ∧ w = w' := by
  have H := Lib.hid h
  go_enter Tryz.func12, Tryz.ntmps12
  go_wp2_with (first
    | (go_at_call 37; refine (noCell_made H.out).mono ?_; rintro e w1 ⟨rfl, rfl⟩))
  go_ret
  exact ⟨rfl, rfl⟩

set_option maxHeartbeats 400000 in
theorem noCell_Cuts : Calls Tryz.prog 39 #[.pointer p] w fun e w' => e = .returned (.int .i64 0) ∧ w = w' := by
  have H := Lib.hid h
  go_enter Tryz.func39, Tryz.ntmps39
  go_wp2_with (first
    | (go_at_call 37; refine (noCell_made H.out).mono ?_; rintro e w1 ⟨rfl, rfl⟩))
  go_ret
  exact ⟨rfl, rfl⟩

set_option maxHeartbeats 400000 in
theorem noCell_Wear (a : Int) : Calls Tryz.prog 77 #[.pointer p, .int .i64 a] w fun e w' => e = .returned (.int .i64 0) ∧ w = w' := by
  have H := Lib.hid h
  go_enter Tryz.func77, Tryz.ntmps77
  go_wp2_with (first
    | (go_at_call 94; refine (noCell_has H.out a).mono ?_; rintro e w1 ⟨rfl, rfl⟩))
  go_ret
  exact ⟨rfl, rfl⟩

end

end Go.Proofs.YtmhjddmamknglaaGreat
end

section
namespace Go.Proofs.YtmhjddmamknglaaGreat
set_option maxRecDepth 100000
set_option linter.unusedSimpArgs false
set_option linter.unusedVariables false
open Go.RowKit

theorem ecc_shr (w p : Nat) (hw : w < 4294967296) : bits BinOp.and IntKind.u32 ((w : Int) / 2 ^ p) 1 = ((Ecc.bit w p : Nat) : Int) := by
  have e : (w : Int) / 2 ^ p = ((w / 2 ^ p : Nat) : Int) := by simp
  have h1 : w / 2 ^ p < 4294967296 := Nat.lt_of_le_of_lt (Nat.div_le_self _ _) hw
  rw [e, show (1 : Int) = ((1 : Nat) : Int) from rfl, u32_and_nat _ _ h1 (by omega), nat_mask1]; rfl
theorem ofInt_i64 (a : Nat) (ha : a < 9223372036854775808) : (BitVec.ofInt 64 (a : Int)).toNat = a := by
  rw [BitVec.ofInt_natCast, BitVec.toNat_ofNat]; exact Nat.mod_eq_of_lt (by omega)
theorem i64_and_nat (a b : Nat) (ha : a < 9223372036854775808) (hb : b < 9223372036854775808) : bits .and .i64 (a : Int) (b : Int) = ((a &&& b : Nat) : Int) := by
  have hx : a &&& b < 2 ^ 63 := Nat.and_lt_two_pow _ (by omega)
  show IntKind.i64.wrap ((BitVec.ofInt 64 (a : Int) &&& BitVec.ofInt 64 (b : Int)).toNat : Int) = _
  rw [BitVec.toNat_and, ofInt_i64 a ha, ofInt_i64 b hb, IntKind.wrap_i64]
  omega
theorem i64_or_nat (a b : Nat) (ha : a < 9223372036854775808) (hb : b < 9223372036854775808) : bits .or .i64 (a : Int) (b : Int) = ((a ||| b : Nat) : Int) := by
  have hx : a ||| b < 2 ^ 63 := Nat.or_lt_two_pow (by omega) (by omega)
  show IntKind.i64.wrap ((BitVec.ofInt 64 (a : Int) ||| BitVec.ofInt 64 (b : Int)).toNat : Int) = _
  rw [BitVec.toNat_or, ofInt_i64 a ha, ofInt_i64 b hb, IntKind.wrap_i64]
  omega
theorem i64_xor_nat (a b : Nat) (ha : a < 9223372036854775808) (hb : b < 9223372036854775808) : bits .xor .i64 (a : Int) (b : Int) = ((a ^^^ b : Nat) : Int) := by
  have hx : a ^^^ b < 2 ^ 63 := Nat.xor_lt_two_pow (by omega) (by omega)
  show IntKind.i64.wrap ((BitVec.ofInt 64 (a : Int) ^^^ BitVec.ofInt 64 (b : Int)).toNat : Int) = _
  rw [BitVec.toNat_xor, ofInt_i64 a ha, ofInt_i64 b hb, IntKind.wrap_i64]
  omega
theorem ecc_xor (a b : Nat) (ha : a < 64) (hb : b < 64) : bits BinOp.xor IntKind.i64 (a : Int) (b : Int) = ((a ^^^ b : Nat) : Int) := i64_xor_nat a b (by omega) (by omega)

set_option maxHeartbeats 400000 in
theorem ecc_syndrome (x : Nat) (w : World) (hx : x < 4294967296) :
    Calls Tryz.prog 99 #[.int .u32 (x : Int)] w fun e w' => e = .returned (.int .i64 (Ecc.syn x : Nat)) ∧ w = w' := by
  go_enter Tryz.func99, Tryz.ntmps99
  go_wp2_with fail
  go_loopg [3, 4] 31 (fun g s p wr => ∃ k : Nat, k + g = 31 ∧ p = .int .i64 (k + 1 : Nat) ∧ s = .int .i64 (Ecc.synK x k : Nat) ∧ w = wr)
  case atStart => exact ⟨0, by omega, rfl, rfl, rfl⟩
  case round =>
    obtain ⟨k, hk, rfl, rfl, rfl⟩ := hrel
    cases gk with
    | zero =>
      obtain rfl : k = 31 := by omega
      go_wp2_with fail
      go_ret
      exact ⟨rfl, rfl⟩
    | succ g =>
      have hb := ecc_shr x (k + 1) hx
      have i0 : ((k : Nat) : Int) + 1 < 32 := by omega
      have hs := Lib.hid (Ecc.synK_succ x k)
      have hl := Ecc.synK_lt x k (by omega)
      rcases (show Ecc.bit x (k + 1) = 0 ∨ Ecc.bit x (k + 1) = 1 by have := Ecc.bit_lt x (k + 1); omega) with h | h
      · have h2 : (bits BinOp.and IntKind.u32 ((x : Int) / 2 ^ (k + 1)) 1 == 1) = false := by rw [hb, h]; rfl
        have H := Lib.hid h
        clear h hb
        go_wp2_with fail
        go_roundg g
        case measure => omega
        case rel => exact ⟨k + 1, by omega, by go_num, by rw [hs.out, show Ecc.sel x (k + 1) = 0 by simp [Ecc.sel, H.out], Nat.xor_zero], rfl⟩
      · have h2 : (bits BinOp.and IntKind.u32 ((x : Int) / 2 ^ (k + 1)) 1 == 1) = true := by rw [hb, h]; rfl
        have H := Lib.hid h
        have h3 := ecc_xor (Ecc.synK x k) (k + 1) (by omega) (by omega)
        have H3 := Lib.hid h3
        clear h hb h3
        go_wp2_with fail
        go_roundg g
        case measure => omega
        case rel => exact ⟨k + 1, by omega, by go_num, by rw [hs.out, show Ecc.sel x (k + 1) = k + 1 by simp [Ecc.sel, H.out], ← H3.out]; rfl, rfl⟩

theorem u32_byte (y : Nat) (hy : y < 4294967296) : bits BinOp.and IntKind.u32 (y : Int) 255 = (y : Int) % 256 := by
  rw [show (255 : Int) = ((255 : Nat) : Int) from rfl, u32_and_nat _ _ hy (by omega), nat_mask8]; omega
theorem pop8_small : ∀ n : Fin 256, Lib.pop8 (n.val : Int) = (Ecc.onesK n.val 8 : Int) := by decide +kernel
theorem pop8_ones (i : Int) (n : Nat) (h : i = (n : Int)) (hn : n < 256) : Lib.pop8 i = (Ecc.onesK n 8 : Int) := by subst h; exact pop8_small ⟨n, hn⟩
theorem bit_div (x a b : Nat) : Ecc.bit (x / 2 ^ a) b = Ecc.bit x (a + b) := by unfold Ecc.bit; rw [Nat.div_div_eq_div_mul, ← Nat.pow_add]
theorem bit_mod (x b : Nat) (h : b < 8) : Ecc.bit (x % 256) b = Ecc.bit x b := by
  rw [Ecc.bit_test, Ecc.bit_test, show (256 : Nat) = 2 ^ 8 from rfl, Nat.testBit_mod_two_pow]; simp [h]
theorem ones_eight (x : Nat) (a k : Nat) (h : k ≤ 8) : Ecc.onesK x (a + k) = Ecc.onesK x a + Ecc.onesK (x / 2 ^ a % 256) k := by
  induction k with
  | zero => rfl
  | succ k ih => rw [← Nat.add_assoc, Ecc.onesK_succ, Ecc.onesK_succ, ih (by omega), bit_mod _ _ (by omega), bit_div]; omega
theorem ones_split (x : Nat) : Ecc.ones x = Ecc.onesK (x % 256) 8 + Ecc.onesK (x / 256 % 256) 8 + Ecc.onesK (x / 65536 % 256) 8 + Ecc.onesK (x / 16777216 % 256) 8 := by
  unfold Ecc.ones
  rw [ones_eight x 24 8 (by omega), ones_eight x 16 8 (by omega), ones_eight x 8 8 (by omega), show (8 : Nat) = 0 + 8 from rfl, ones_eight x 0 8 (by omega)]
  simp [Ecc.onesK]

set_option maxRecDepth 100000 in
set_option maxHeartbeats 400000 in
theorem ecc_ones (x : Nat) (w : World) (hx : x < 4294967296) :
    Calls Tryz.prog 106 #[.int .u32 (x : Int)] w fun e w' => e = .returned (.int .i64 (Ecc.ones x : Nat)) ∧ ∃ k, w' = w.drewN k := by
  have j1 : 0 ≤ (x : Int) / 16777216 := by omega
  have j2 : (x : Int) / 16777216 ≤ 255 := by omega
  have j3 : bits BinOp.and IntKind.u32 ((x : Int) / 65536) 255 = (x : Int) / 65536 % 256 := u32_byte (x / 65536) (by omega)
  have j4 : bits BinOp.and IntKind.u32 ((x : Int) / 256) 255 = (x : Int) / 256 % 256 := u32_byte (x / 256) (by omega)
  have j5 : bits BinOp.and IntKind.u32 (x : Int) 255 = (x : Int) % 256 := u32_byte x (by omega)
  have HF : Hid (Ecc.ones x ≤ 32) := Lib.hid (Ecc.onesK_le x 32)
  go_enter Tryz.func106, Tryz.ntmps106
  go_wp2_with fail
  simp only [List.append_eq, List.cons_append, List.nil_append, Lib.fold_pop8tab]
  go_quiet (fail)
  clear j3 j4 j5
  go_wp2_with fail
  go_ret
  refine ⟨ret_int ?_, _, rfl⟩
  rw [pop8_ones ((x : Int) / 16777216) (x / 16777216 % 256) (by omega) (by omega), pop8_ones ((x : Int) / 65536 % 256) (x / 65536 % 256) (by omega) (by omega), pop8_ones ((x : Int) / 256 % 256) (x / 256 % 256) (by omega) (by omega), pop8_ones ((x : Int) % 256) (x % 256) (by omega) (by omega)]
  have := HF.out
  rw [ones_split] at this ⊢
  omega

/-- The array of the places when k of them are there. -/
def parr (k : Nat) : Array Value := ((List.range 24).map fun j => Value.int .i64 (if j < k then (Ecc.posAt j : Int) else 0)).toArray
theorem parr_size (k : Nat) : (parr k).size = 24 := by simp [parr]
theorem parr_one (k : Nat) : (parr k).all (·.oneCell') = true := by simp [parr, Value.oneCell']
theorem parr_set (k : Nat) : (parr k).setIfInBounds k (.int .i64 (Ecc.posAt k : Int)) = parr (k + 1) := by
  apply Array.ext_getElem?
  intro i
  simp only [parr, List.setIfInBounds_toArray, List.getElem?_toArray, List.getElem?_set, List.getElem?_map, List.length_map, List.length_range]
  by_cases hi : i < 24
  · rw [List.getElem?_range hi]
    by_cases e : k = i
    · subst e; simp [hi]
    · by_cases h : i < k
      · simp [e, h, show i < k + 1 by omega]
      · simp [e, h, show ¬ i < k + 1 by omega]
  · rw [List.getElem?_eq_none (by simp; omega)]
    by_cases e : k = i
    · subst e; simp [hi]
    · simp [e]
/-- How many places lie below p. -/
def cnt (p : Nat) : Nat := (Ecc.pos.filter (· < p)).length
def chkPow (c : Nat) : Prop := c = 1 ∨ c = 2 ∨ c = 4 ∨ c = 8 ∨ c = 16 ∨ c = 32
theorem cnt_le (p : Nat) : cnt p ≤ 24 := List.length_filter_le _ _
theorem cnt_lt : ∀ p, p < 30 → cnt p < 24 := by decide +kernel
theorem cnt_chk : ∀ p, p < 30 → (p = 4 ∨ p = 8 ∨ p = 16) → cnt (p + 1) = cnt p := by decide +kernel
theorem cnt_pos : ∀ p, p < 30 → 3 ≤ p → ¬ (p = 4 ∨ p = 8 ∨ p = 16) → cnt (p + 1) = cnt p + 1 ∧ Ecc.posAt (cnt p) = p := by decide +kernel

set_option maxRecDepth 100000 in
set_option maxHeartbeats 1000000 in
theorem ecc_positions (w : World) :
    Calls Tryz.prog 105 #[] w fun e w' => e = .returned (.agg (parr 24)) ∧ Below w.heap.size w w' := by
  have hsz : (Tryz.prog.info? 146).map (·.size) = some 24 := by kernel_rfl
  go_enter Tryz.func105, Tryz.ntmps105
  go_wp2_with fail
  go_step3
  go_wp2_with fail
  go_step3
  go_wp2_with fail
  go_loopg [2, 3, 4] 27 (fun g n p c wr => ∃ (k : Nat) (c' : Nat), k + g = 30 ∧ 3 ≤ k ∧ p = .int .i64 k ∧ n = .int .i64 (cnt k : Nat) ∧ Blk wr w.heap.size 146 (parr 0) ∧ Blk wr (w.heap.size + 1) 146 (parr (cnt k)) ∧ Below w.heap.size w wr)
  case atStart => exact ⟨3, 0, by omega, by omega, rfl, rfl, (Blk.new' _ rfl rfl).alloc _, Blk.new' _ (by simp) rfl, ((Below.refl _ _).alloc (Nat.le_refl _) _).alloc (by simp) _⟩
  case round =>
    obtain ⟨k, c', hk, hk3, rfl, rfl, hb1, hb2, hbel⟩ := hrel
    cases gk with
    | zero =>
      obtain rfl : k = 30 := by omega
      have e30 : cnt 30 = 24 := by decide +kernel
      rw [e30] at hb2 ⊢
      clear e30
      have hss : (parr 0).size = (parr 24).size := by rw [parr_size, parr_size]
      have hone := parr_one 24
      go_wp2_with (first
        | ((with_reducible show wpList _ _ _ (Oper.mk _ (Op.load 146 (Operand.tmp 1)) _ _ _ _ :: _) _ _); refine wpList_load_row rfl 146 (.tmp 1) rfl (w.heap.size + 1) rfl 146 (parr 24) (0, 0) _ hb2 Tryz.underlying146 rfl hsz ?_)
        | ((with_reducible show wpList _ _ _ (Oper.mk _ (Op.store 146 (Operand.tmp 0) (Operand.tmp 21)) _ _ _ _ :: _) _ _); refine wpList_store_row rfl 146 (.tmp 0) (.tmp 21) rfl w.heap.size (parr 24) rfl rfl 146 (parr 0) hb1 hsz hss hone ?_))
      have hb3 := hb1.setRow (parr 24)
      try rw [Exit.noGoto_ret]
      refine bodyPost_ret (v := .agg (parr 24)) (results_cell_row rfl _ _ w.heap.size 146 _ (0, 0) _ rfl hb3 Tryz.underlying146 rfl (by kernel_rfl)) rfl ⟨rfl, Below.setRow hbel (Nat.le_refl _) _⟩
    | succ g =>
      have hlt := cnt_lt k (by omega)
      have i0 : ((cnt k : Nat) : Int) < 24 := by omega
      go_wp2_with fail
      go_loopg [4] 6 (fun g2 c wx => ∃ c' : Nat, c = .int .i64 c' ∧ Hid (chkPow c') ∧ Hid ((k = 4 ∨ k = 8 ∨ k = 16) → c' ≤ k) ∧ 64 ≤ c' * 2 ^ g2 ∧ c' ≤ 32 ∧ wr = wx)
      case atStart => exact ⟨1, rfl, Lib.hid (.inl rfl), Lib.hid (by omega), by omega, by omega, rfl⟩
      case round =>
        obtain ⟨c', rfl, HP, HK, hc2, hc32, rfl⟩ := hrel
        by_cases h32 : c' < 32
        · have hg : 0 < gk := by
            rcases Nat.eq_zero_or_pos gk with rfl | h
            · simp at hc2; omega
            · exact h
          obtain ⟨g2, rfl⟩ : ∃ g2, gk = g2 + 1 := ⟨gk - 1, by omega⟩
          have hc3 : 64 ≤ c' * 2 * 2 ^ g2 := by rw [Nat.pow_succ] at hc2; rw [Nat.mul_assoc, Nat.mul_comm 2]; exact hc2
          have HC := Lib.hid hc3
          clear hc2 hc3
          by_cases he : k = c'
          · have hchk : k = 4 ∨ k = 8 ∨ k = 16 := by have := HP.out; unfold chkPow at this; omega
            have e1 := Lib.hid (cnt_chk k (by omega) hchk)
            have t1 : ((k : Int) == (c' : Int)) = true := by simp [he]
            have HE := Lib.hid he
            clear he hchk
            go_wp2_with fail
            go_roundg g
            case measure => omega
            case rel => exact ⟨k + 1, 0, by omega, by omega, by go_num, by rw [e1.out], hb1, by rw [e1.out]; exact hb2, hbel⟩
          · have t1 : ((k : Int) == (c' : Int)) = false := by simp; omega
            have HE := Lib.hid he
            clear he
            go_wp2_with fail
            go_roundg g2
            case measure => omega
            case rel => exact ⟨c' * 2, by go_num, Lib.hid (by have := HP.out; unfold chkPow at *; omega), Lib.hid (by intro h; have h1 := HK.out h; have h2 := HP.out; have h3 := HE.out; unfold chkPow at h2; omega), HC.out, by have := HP.out; unfold chkPow at this; omega, rfl⟩
        · have hn : ¬ (k = 4 ∨ k = 8 ∨ k = 16) := fun h => by have := HK.out h; omega
          obtain ⟨e1, e2⟩ := cnt_pos k (by omega) hk3 hn
          have E1 := Lib.hid e1
          have E2 := Lib.hid e2
          have hf := hb2.frozen (cnt k)
          obtain ⟨v0, hcl⟩ := hb2.has (cnt k) (by rw [parr_size]; omega)
          clear e1 e2 hn
          go_wp2_with fail
          go_roundg g
          case measure => omega
          case rel =>
            refine ⟨k + 1, 0, by omega, by omega, by go_num, by rw [E1.out]; go_num, hb1.far (by simp) _, ?_, hbel.setCell (by simp) _⟩
            rw [E1.out, ← parr_set]
            have := hb2.set (cnt k) (.int .i64 (k : Int))
            rw [E2.out]
            exact this
end Go.Proofs.YtmhjddmamknglaaGreat
end

section
namespace Go.Proofs.YtmhjddmamknglaaGreat
set_option maxRecDepth 100000
set_option linter.unusedSimpArgs false
set_option linter.unusedVariables false
open Go.RowKit

theorem parr_index (k : Nat) (hk : k < 24) (u : World) : (Instr.index 146 (.agg (parr 24)) (.int .i64 (k : Int))).run Tryz.prog u = .ok (.int .i64 (Ecc.posAt k : Int)) u := by
  match k, hk with
  | 0, _ => exact (by kernel_rfl : (Instr.index 146 (.agg (parr 24)) (.int .i64 ((0 : Nat) : Int))).run Tryz.prog u = .ok (.int .i64 (Ecc.posAt 0 : Int)) u)
  | 1, _ => exact (by kernel_rfl : (Instr.index 146 (.agg (parr 24)) (.int .i64 ((1 : Nat) : Int))).run Tryz.prog u = .ok (.int .i64 (Ecc.posAt 1 : Int)) u)
  | 2, _ => exact (by kernel_rfl : (Instr.index 146 (.agg (parr 24)) (.int .i64 ((2 : Nat) : Int))).run Tryz.prog u = .ok (.int .i64 (Ecc.posAt 2 : Int)) u)
  | 3, _ => exact (by kernel_rfl : (Instr.index 146 (.agg (parr 24)) (.int .i64 ((3 : Nat) : Int))).run Tryz.prog u = .ok (.int .i64 (Ecc.posAt 3 : Int)) u)
  | 4, _ => exact (by kernel_rfl : (Instr.index 146 (.agg (parr 24)) (.int .i64 ((4 : Nat) : Int))).run Tryz.prog u = .ok (.int .i64 (Ecc.posAt 4 : Int)) u)
  | 5, _ => exact (by kernel_rfl : (Instr.index 146 (.agg (parr 24)) (.int .i64 ((5 : Nat) : Int))).run Tryz.prog u = .ok (.int .i64 (Ecc.posAt 5 : Int)) u)
  | 6, _ => exact (by kernel_rfl : (Instr.index 146 (.agg (parr 24)) (.int .i64 ((6 : Nat) : Int))).run Tryz.prog u = .ok (.int .i64 (Ecc.posAt 6 : Int)) u)
  | 7, _ => exact (by kernel_rfl : (Instr.index 146 (.agg (parr 24)) (.int .i64 ((7 : Nat) : Int))).run Tryz.prog u = .ok (.int .i64 (Ecc.posAt 7 : Int)) u)
  | 8, _ => exact (by kernel_rfl : (Instr.index 146 (.agg (parr 24)) (.int .i64 ((8 : Nat) : Int))).run Tryz.prog u = .ok (.int .i64 (Ecc.posAt 8 : Int)) u)
  | 9, _ => exact (by kernel_rfl : (Instr.index 146 (.agg (parr 24)) (.int .i64 ((9 : Nat) : Int))).run Tryz.prog u = .ok (.int .i64 (Ecc.posAt 9 : Int)) u)
  | 10, _ => exact (by kernel_rfl : (Instr.index 146 (.agg (parr 24)) (.int .i64 ((10 : Nat) : Int))).run Tryz.prog u = .ok (.int .i64 (Ecc.posAt 10 : Int)) u)
  | 11, _ => exact (by kernel_rfl : (Instr.index 146 (.agg (parr 24)) (.int .i64 ((11 : Nat) : Int))).run Tryz.prog u = .ok (.int .i64 (Ecc.posAt 11 : Int)) u)
  | 12, _ => exact (by kernel_rfl : (Instr.index 146 (.agg (parr 24)) (.int .i64 ((12 : Nat) : Int))).run Tryz.prog u = .ok (.int .i64 (Ecc.posAt 12 : Int)) u)
  | 13, _ => exact (by kernel_rfl : (Instr.index 146 (.agg (parr 24)) (.int .i64 ((13 : Nat) : Int))).run Tryz.prog u = .ok (.int .i64 (Ecc.posAt 13 : Int)) u)
  | 14, _ => exact (by kernel_rfl : (Instr.index 146 (.agg (parr 24)) (.int .i64 ((14 : Nat) : Int))).run Tryz.prog u = .ok (.int .i64 (Ecc.posAt 14 : Int)) u)
  | 15, _ => exact (by kernel_rfl : (Instr.index 146 (.agg (parr 24)) (.int .i64 ((15 : Nat) : Int))).run Tryz.prog u = .ok (.int .i64 (Ecc.posAt 15 : Int)) u)
  | 16, _ => exact (by kernel_rfl : (Instr.index 146 (.agg (parr 24)) (.int .i64 ((16 : Nat) : Int))).run Tryz.prog u = .ok (.int .i64 (Ecc.posAt 16 : Int)) u)
  | 17, _ => exact (by kernel_rfl : (Instr.index 146 (.agg (parr 24)) (.int .i64 ((17 : Nat) : Int))).run Tryz.prog u = .ok (.int .i64 (Ecc.posAt 17 : Int)) u)
  | 18, _ => exact (by kernel_rfl : (Instr.index 146 (.agg (parr 24)) (.int .i64 ((18 : Nat) : Int))).run Tryz.prog u = .ok (.int .i64 (Ecc.posAt 18 : Int)) u)
  | 19, _ => exact (by kernel_rfl : (Instr.index 146 (.agg (parr 24)) (.int .i64 ((19 : Nat) : Int))).run Tryz.prog u = .ok (.int .i64 (Ecc.posAt 19 : Int)) u)
  | 20, _ => exact (by kernel_rfl : (Instr.index 146 (.agg (parr 24)) (.int .i64 ((20 : Nat) : Int))).run Tryz.prog u = .ok (.int .i64 (Ecc.posAt 20 : Int)) u)
  | 21, _ => exact (by kernel_rfl : (Instr.index 146 (.agg (parr 24)) (.int .i64 ((21 : Nat) : Int))).run Tryz.prog u = .ok (.int .i64 (Ecc.posAt 21 : Int)) u)
  | 22, _ => exact (by kernel_rfl : (Instr.index 146 (.agg (parr 24)) (.int .i64 ((22 : Nat) : Int))).run Tryz.prog u = .ok (.int .i64 (Ecc.posAt 22 : Int)) u)
  | 23, _ => exact (by kernel_rfl : (Instr.index 146 (.agg (parr 24)) (.int .i64 ((23 : Nat) : Int))).run Tryz.prog u = .ok (.int .i64 (Ecc.posAt 23 : Int)) u)
  | n + 24, h => omega
theorem posAt_lt (k : Nat) : Ecc.posAt k < 30 := by
  rcases Nat.lt_or_ge k 24 with h | h
  · have : ∀ k, k < 24 → Ecc.posAt k < 30 := by decide +kernel
    exact this k h
  · unfold Ecc.posAt; simp [List.getD, List.getElem?_eq_none (show Ecc.pos.length ≤ k from h)]

theorem pow_small (k m : Nat) (h : k ≤ m) : 2 ^ k ≤ 2 ^ m := Nat.pow_le_pow_right (by omega) h
theorem bit_mul (x k p m : Nat) (h : k ≤ m) : Ecc.bit x p * 2 ^ k ≤ 2 ^ m := by
  have := Ecc.bit_lt x p
  have h1 := pow_small k m h
  rcases (show Ecc.bit x p = 0 ∨ Ecc.bit x p = 1 by omega) with e | e
  · rw [e, Nat.zero_mul]; exact Nat.zero_le _
  · rw [e, Nat.one_mul]; exact h1
theorem data_step (x k : Nat) (hk : k < 24) : bits BinOp.or IntKind.i64 (Ecc.dataK x k : Int) (wrap64 (wrap64 (Ecc.bit x (Ecc.posAt k) : Int) * 2 ^ k)) = (Ecc.dataK x (k + 1) : Int) := by
  have h0 := Ecc.bit_lt x (Ecc.posAt k)
  have h1 : wrap64 (Ecc.bit x (Ecc.posAt k) : Int) = (Ecc.bit x (Ecc.posAt k) : Int) := by unfold wrap64; omega
  have h2 := bit_mul x k (Ecc.posAt k) 24 (by omega)
  have h3 : (Ecc.bit x (Ecc.posAt k) : Int) * 2 ^ k = ((Ecc.bit x (Ecc.posAt k) * 2 ^ k : Nat) : Int) := by simp
  have h4 : wrap64 ((Ecc.bit x (Ecc.posAt k) * 2 ^ k : Nat) : Int) = ((Ecc.bit x (Ecc.posAt k) * 2 ^ k : Nat) : Int) := by unfold wrap64; omega
  have h5 := Ecc.dataK_lt x k
  have h6 := pow_small k 24 (by omega)
  rw [h1, h3, h4, i64_or_nat _ _ (by omega) (by omega), Ecc.dataK_succ, Nat.or_comm, nat_join k _ _ (Nat.mul_mod_left _ _) h5, Nat.add_comm]

set_option maxHeartbeats 1000000 in
theorem ecc_data (x : Nat) (w : World) (hx : x < 4294967296) :
    Calls Tryz.prog 98 #[.int .u32 (x : Int)] w fun e w' => e = .returned (.int .i64 (Ecc.data x : Nat)) ∧ Below w.heap.size w w' := by
  go_enter Tryz.func98, Tryz.ntmps98
  go_wp2_with (go_at_call 105; refine (ecc_positions _).mono ?_; rintro e w1 ⟨rfl, hb1⟩)
  go_loopg [3, 7] 24 (fun g n i wr => ∃ k : Nat, k + g = 24 ∧ i = .int .i64 k ∧ n = .int .i64 (Ecc.dataK x k : Nat) ∧ w1 = wr)
  case atStart => exact ⟨0, by omega, rfl, rfl, rfl⟩
  case round =>
    obtain ⟨k, hk, rfl, rfl, rfl⟩ := hrel
    cases gk with
    | zero =>
      obtain rfl : k = 24 := by omega
      go_wp2_with fail
      go_ret
      exact ⟨rfl, hb1⟩
    | succ g =>
      have hix := parr_index k (by omega)
      have hp := posAt_lt k
      have hb := ecc_shr x (Ecc.posAt k) hx
      have i0 : (k : Int) < 24 := by omega
      have i1 : (Ecc.posAt k : Int) ≤ 32 := by omega
      have i2 : (k : Int) ≤ 64 := by omega
      go_wp2_with fail
      go_roundg g
      case measure => omega
      case rel =>
        refine ⟨k + 1, by omega, by go_num, ?_, rfl⟩
        rw [data_step x k (by omega)]

theorem ecc_shr64 (w p : Nat) (hw : w < 4294967296) : bits BinOp.and IntKind.i64 ((w : Int) / 2 ^ p) 1 = ((Ecc.bit w p : Nat) : Int) := by
  have e : (w : Int) / 2 ^ p = ((w / 2 ^ p : Nat) : Int) := by simp
  have h1 : w / 2 ^ p < 4294967296 := Nat.lt_of_le_of_lt (Nat.div_le_self _ _) hw
  rw [e, show (1 : Int) = ((1 : Nat) : Int) from rfl, i64_and_nat _ _ (by omega) (by omega), nat_mask1]; rfl
theorem lay_step (n k : Nat) (hn : n < 16777216) (hk : k < 24) :
    bits BinOp.or IntKind.u32 (Ecc.layK n k : Int) (bits BinOp.and IntKind.i64 ((n : Int) / 2 ^ k) 1 % 4294967296 * 2 ^ Ecc.posAt k % 4294967296) = (Ecc.layK n (k + 1) : Int) := by
  have h0 := Ecc.bit_lt n k
  have h2 := bit_mul n (Ecc.posAt k) k 29 (by have := posAt_lt k; omega)
  have h3 : (Ecc.bit n k : Int) % 4294967296 * 2 ^ Ecc.posAt k % 4294967296 = ((Ecc.bit n k * 2 ^ Ecc.posAt k : Nat) : Int) := by
    rw [show (Ecc.bit n k : Int) % 4294967296 = (Ecc.bit n k : Int) by omega, show (Ecc.bit n k : Int) * 2 ^ Ecc.posAt k = ((Ecc.bit n k * 2 ^ Ecc.posAt k : Nat) : Int) by simp]
    omega
  have h5 := Ecc.layK_lt n k (by omega)
  rw [ecc_shr64 n k (by omega), h3, u32_or_nat _ _ (by omega) (by omega), Ecc.layK_succ]
theorem chk_and (s c j : Nat) (hs : s < 32) (hc : c = 2 ^ j) (hj : j < 5) : (bits BinOp.and IntKind.i64 (s : Int) (c : Int) != 0) = s.testBit j := by
  have h1 : 2 ^ j ≤ 2 ^ 5 := pow_small j 5 (by omega)
  subst hc
  rw [i64_and_nat _ _ (by omega) (by omega), nat_bit, Nat.testBit_eq_decide_div_mod_eq]
  have hp : 0 < 2 ^ j := Nat.two_pow_pos j
  rcases Nat.mod_two_eq_zero_or_one (s / 2 ^ j) with h | h
  · rw [h]; simp
  · rw [h, Nat.one_mul]
    generalize 2 ^ j = q at *
    have h3 : (q : Int) ≠ 0 := by omega
    simpa using h3
theorem chkK_succ (s k : Nat) : Ecc.chkK s (k + 1) = if s.testBit k then Ecc.chkK s k ||| 2 ^ 2 ^ k else Ecc.chkK s k := by simp [Ecc.chkK, List.range_succ]
theorem chkK_lt (s k : Nat) (h : k ≤ 5) : Ecc.chkK s k < 2 ^ 30 := by
  induction k with
  | zero => simp [Ecc.chkK]
  | succ k ih =>
    rw [chkK_succ]
    split
    · refine Nat.or_lt_two_pow (ih (by omega)) ?_
      have h1 : 2 ^ k ≤ 2 ^ 4 := pow_small k 4 (by omega)
      exact Nat.pow_lt_pow_right (by omega) (by omega)
    · exact ih (by omega)
/-- The check places behind k of them: the place c, and what is laid so far. -/
def chkIs (s g c a : Nat) : Prop := ∃ j, j + g = 5 ∧ c = 2 ^ j ∧ a = Ecc.chkK s j
theorem or_low (a v c : Nat) (hc : c < 30) (h : a < 2 ^ 30) (hv : v < 2 ^ 30) : bits BinOp.or IntKind.u32 ((v ||| a : Nat) : Int) (2 ^ c % 4294967296) = ((v ||| (a ||| 2 ^ c) : Nat) : Int) := by
  have h1 := pow_small c 29 (by omega)
  have h2 : v ||| a < 2 ^ 30 := Nat.or_lt_two_pow hv h
  rw [show (2 : Int) ^ c % 4294967296 = ((2 ^ c : Nat) : Int) by rw [show (2 : Int) ^ c = ((2 ^ c : Nat) : Int) by simp]; generalize 2 ^ c = q at *; omega, u32_or_nat _ _ (by omega) (by omega), Nat.or_assoc]
theorem or_par (x : Nat) (h : x < 2 ^ 30) : bits BinOp.or IntKind.u32 (x : Int) (bits BinOp.and IntKind.i64 (Ecc.ones x : Int) 1 % 4294967296) = ((x ||| Ecc.ones x % 2 : Nat) : Int) := by
  have h1 : Ecc.ones x ≤ 32 := Ecc.onesK_le x 32
  rw [show (1 : Int) = ((1 : Nat) : Int) from rfl, i64_and_nat _ _ (by omega) (by omega), nat_mask1]
  rw [show ((Ecc.ones x % 2 : Nat) : Int) % 4294967296 = ((Ecc.ones x % 2 : Nat) : Int) by omega, u32_or_nat _ _ (by omega) (by omega)]

set_option maxHeartbeats 1000000 in
theorem ecc_code (n : Nat) (w : World) (hn : n < 16777216) :
    Calls Tryz.prog 95 #[.int .i64 (n : Int)] w fun e w' => e = .returned (.int .u32 (Ecc.code n : Nat)) ∧ Below w.heap.size w w' := by
  go_enter Tryz.func95, Tryz.ntmps95
  go_wp2_with (go_at_call 105; refine (ecc_positions _).mono ?_; rintro e w1 ⟨rfl, hb1⟩)
  go_loopg [3, 9] 24 (fun g v i wr => ∃ k : Nat, k + g = 24 ∧ i = .int .i64 k ∧ v = .int .u32 (Ecc.layK n k : Nat) ∧ w1 = wr)
  case atStart => exact ⟨0, by omega, rfl, rfl, rfl⟩
  case round =>
    obtain ⟨k, hk, rfl, rfl, rfl⟩ := hrel
    cases gk with
    | zero =>
      obtain rfl : k = 24 := by omega
      have hl := Ecc.lay_lt n
      unfold Ecc.lay at hl
      have hs := Ecc.syn_lt (Ecc.lay n)
      rw [show Ecc.layK n 24 = Ecc.lay n from rfl] at hl ⊢
      go_wp2_with (go_at_call 99; refine (ecc_syndrome _ _ (by omega)).mono ?_; rintro e w2 ⟨rfl, rfl⟩)
      go_loopg [3, 7] 5 (fun g v c wr => ∃ c' a : Nat, c = .int .i64 c' ∧ v = .int .u32 ((Ecc.lay n ||| a : Nat) : Int) ∧ Hid (chkIs (Ecc.syn (Ecc.lay n)) g c' a) ∧ w1 = wr)
      case atStart => exact ⟨1, 0, rfl, by rw [Nat.or_zero], Lib.hid ⟨0, rfl, rfl, rfl⟩, rfl⟩
      case round =>
        obtain ⟨c', a, rfl, rfl, HC, rfl⟩ := hrel
        obtain ⟨j, hj, hc, ha⟩ := HC.out
        have hal := chkK_lt (Ecc.syn (Ecc.lay n)) j (by omega)
        rw [← ha] at hal
        have hvl : Ecc.lay n ||| a < 2 ^ 30 := Nat.or_lt_two_pow hl hal
        cases gk with
        | zero =>
          have hc' : c' = 32 := by obtain rfl : j = 5 := by omega
                                   exact hc
          have e : Ecc.lay n ||| a = Ecc.pre n := by rw [ha, show j = 5 by omega]; rfl
          rw [e] at hvl ⊢
          have H := Lib.hid (or_par _ hvl)
          subst hc'
          clear ha e hc HC
          go_wp2_with (go_at_call 106; refine (ecc_ones _ _ (by omega)).mono ?_; rintro e w2 ⟨rfl, kk, rfl⟩)
          go_ret
          exact ⟨congrArg (fun x => Ending.returned (.int .u32 x)) H.out, Below.drewN hb1 _⟩
        | succ g =>
          have hj5 : j < 5 := by omega
          have hcl : c' < 30 := by rw [hc]; have := pow_small j 4 (by omega); omega
          have tb := chk_and _ c' j hs hc hj5
          have OL := Lib.hid (or_low a (Ecc.lay n) c' hcl hal hl)
          have hsc := chkK_succ (Ecc.syn (Ecc.lay n)) j
          have HA := Lib.hid ha
          have HCC := Lib.hid hc
          have i0 : (c' : Int) < 32 := by omega
          cases hb : (Ecc.syn (Ecc.lay n)).testBit j with
          | false =>
            rw [hb] at tb hsc
            have HS := Lib.hid hsc
            have HB := Lib.hid hb
            clear hb ha hc hsc HC
            go_wp2_with fail
            go_roundg g
            case measure => omega
            case rel => exact ⟨c' * 2, a, by go_num, rfl, Lib.hid ⟨j + 1, by omega, by rw [HCC.out, Nat.pow_succ], by rw [HS.out, HA.out]; rfl⟩, rfl⟩
          | true =>
            rw [hb] at tb hsc
            have HS := Lib.hid hsc
            have HB := Lib.hid hb
            clear hb ha hc hsc HC
            go_wp2_with fail
            go_roundg g
            case measure => omega
            case rel => exact ⟨c' * 2, a ||| 2 ^ c', by go_num, congrArg (Value.int .u32) OL.out, Lib.hid ⟨j + 1, by omega, by rw [HCC.out, Nat.pow_succ], by rw [HS.out, HA.out, HCC.out]; rfl⟩, rfl⟩
    | succ g =>
      have hix := parr_index k (by omega)
      have hp := posAt_lt k
      have i0 : (k : Int) < 24 := by omega
      have i1 : (Ecc.posAt k : Int) ≤ 32 := by omega
      have i2 : (k : Int) ≤ 64 := by omega
      go_wp2_with fail
      go_roundg g
      case measure => omega
      case rel =>
        refine ⟨k + 1, by omega, by go_num, ?_, rfl⟩
        rw [lay_step n k hn (by omega)]

theorem ones_even (x : Nat) : ((Ecc.ones x : Int) % 2 == 0) = (Ecc.ones x % 2 == 0) := by
  rcases Nat.mod_two_eq_zero_or_one (Ecc.ones x) with h | h
  · rw [h, show (Ecc.ones x : Int) % 2 = 0 by omega]; rfl
  · rw [h, show (Ecc.ones x : Int) % 2 = 1 by omega]; rfl
theorem high_bits (x : Nat) (hx : x < 4294967296) : (bits BinOp.and IntKind.u32 (x : Int) 3221225472 == 0) = (Ecc.bit x 30 == 0 && Ecc.bit x 31 == 0) := by
  rw [show (3221225472 : Int) = ((3221225472 : Nat) : Int) from rfl, u32_and_nat _ _ hx (by omega)]
  have e : x &&& 3221225472 = Ecc.bit x 30 * 2 ^ 30 + Ecc.bit x 31 * 2 ^ 31 := by
    have h1 : (3221225472 : Nat) = 2 ^ 30 ||| 2 ^ 31 := by decide
    rw [h1, Nat.and_or_distrib_left, nat_bit, nat_bit, Nat.or_comm, nat_join 31 _ _ (Nat.mul_mod_left _ _) (by have := Nat.mod_lt (x / 2 ^ 30) (show 0 < 2 by omega); omega), Nat.add_comm]
    rfl
  rw [e]
  have h0 := Ecc.bit_lt x 30
  have h1 := Ecc.bit_lt x 31
  rcases (show Ecc.bit x 30 = 0 ∨ Ecc.bit x 30 = 1 by omega) with h | h <;> rcases (show Ecc.bit x 31 = 0 ∨ Ecc.bit x 31 = 1 by omega) with h' | h' <;> rw [h, h'] <;> rfl

set_option maxHeartbeats 1000000 in
theorem ecc_isCode (x : Nat) (w : World) (hx : x < 4294967296) :
    Calls Tryz.prog 97 #[.int .u32 (x : Int)] w fun e w' => e = .returned (.bool (Ecc.isCode x)) ∧ ∃ k, w' = w.drewN k := by
  have he := Lib.hid (ones_even x)
  have hh := Lib.hid (high_bits x hx)
  have hol : Ecc.ones x ≤ 32 := Ecc.onesK_le x 32
  cases hs : (Ecc.syn x == 0) with
  | false =>
    have hs' : ((Ecc.syn x : Int) == 0) = false := by simp at hs ⊢; omega
    have HS := Lib.hid hs
    clear hs
    go_enter Tryz.func97, Tryz.ntmps97
    go_wp2_with (go_at_call 99; refine (ecc_syndrome _ _ hx).mono ?_; rintro e w2 ⟨rfl, rfl⟩)
    go_ret
    exact ⟨by rw [Ecc.isCode, HS.out]; rfl, 0, rfl⟩
  | true =>
    have hs' : ((Ecc.syn x : Int) == 0) = true := by simp at hs ⊢; omega
    have HS := Lib.hid hs
    clear hs
    cases ho : (Ecc.ones x % 2 == 0) with
    | false =>
      have ho' : ((Ecc.ones x : Int) % 2 == 0) = false := by rw [he.out, ho]
      have HO := Lib.hid ho
      clear ho
      go_enter Tryz.func97, Tryz.ntmps97
      go_wp2_with (first | (go_at_call 99; refine (ecc_syndrome _ _ hx).mono ?_; rintro e w2 ⟨rfl, rfl⟩) | (go_at_call 106; refine (ecc_ones _ _ (by omega)).mono ?_; rintro e w2 ⟨rfl, kk, rfl⟩))
      go_ret
      exact ⟨by rw [Ecc.isCode, HS.out, HO.out]; rfl, _, rfl⟩
    | true =>
      have ho' : ((Ecc.ones x : Int) % 2 == 0) = true := by rw [he.out, ho]
      have HO := Lib.hid ho
      clear ho
      go_enter Tryz.func97, Tryz.ntmps97
      go_wp2_with (first | (go_at_call 99; refine (ecc_syndrome _ _ hx).mono ?_; rintro e w2 ⟨rfl, rfl⟩) | (go_at_call 106; refine (ecc_ones _ _ (by omega)).mono ?_; rintro e w2 ⟨rfl, kk, rfl⟩))
      go_ret
      exact ⟨by rw [Ecc.isCode, HS.out, HO.out, hh.out]; simp, _, rfl⟩
end Go.Proofs.YtmhjddmamknglaaGreat
end

section
namespace Go.Proofs.YtmhjddmamknglaaGreat
set_option maxRecDepth 100000
set_option linter.unusedSimpArgs false
set_option linter.unusedVariables false
open Go.RowKit

/-- What Encode hands back. -/
def encW (d : Int) : Nat := if 0 ≤ d ∧ d < 16777216 then Ecc.code d.toNat else 0
def encE (d : Int) : Int := if 0 ≤ d ∧ d < 16777216 then 0 else 2

set_option maxHeartbeats 1000000 in
theorem ecc_Encode (d : Int) (w : World) :
    Calls Tryz.prog 79 #[.int .i64 d] w fun e w' => e = .returned (.tuple #[.int .u32 (encW d : Nat), .int .i64 (encE d)]) ∧ Below w.heap.size w w' := by
  by_cases h0 : 0 ≤ d
  · by_cases h1 : d < 16777216
    · obtain ⟨n, rfl⟩ := Int.eq_ofNat_of_zero_le h0
      have e1 : encW (n : Int) = Ecc.code n := by unfold encW; rw [if_pos ⟨h0, h1⟩]; rfl
      have e2 : encE (n : Int) = 0 := by unfold encE; rw [if_pos ⟨h0, h1⟩]
      rw [e1, e2]
      clear e1 e2
      have i2 : (n : Int) ≤ 16777215 := by omega
      have hn : n < 16777216 := by omega
      clear h1
      go_enter Tryz.func79, Tryz.ntmps79
      go_wp2_with (go_at_call 95; refine (ecc_code _ _ hn).mono ?_; rintro e w2 ⟨rfl, hb⟩)
      go_ret2
      exact ⟨rfl, hb⟩
    · have e1 : encW d = 0 := by unfold encW; rw [if_neg (fun h => h1 h.2)]
      have e2 : encE d = 2 := by unfold encE; rw [if_neg (fun h => h1 h.2)]
      rw [e1, e2]
      clear e1 e2
      have i1 : decide ((16777216 : Int) ≤ d) = true := by simp; omega
      have i2 : decide (d < 0) = false := by simp; omega
      go_enter Tryz.func79, Tryz.ntmps79
      go_wp2_with fail
      go_ret2
      exact ⟨rfl, Below.refl _ _⟩
  · have e1 : encW d = 0 := by unfold encW; rw [if_neg (fun h => h0 h.1)]
    have e2 : encE d = 2 := by unfold encE; rw [if_neg (fun h => h0 h.1)]
    rw [e1, e2]
    clear e1 e2
    have i2 : decide (d < 0) = true := by simp; omega
    go_enter Tryz.func79, Tryz.ntmps79
    go_wp2_with fail
    go_ret2
    exact ⟨rfl, Below.refl _ _⟩

theorem fix_lt (x : Nat) (h : x < 4294967296) : Ecc.fix x < 4294967296 := by
  have h1 := Ecc.syn_lt x
  have h2 := Nat.pow_lt_pow_right (a := 2) (by omega) h1
  exact Nat.xor_lt_two_pow (n := 32) h h2
theorem flip_bit (x p : Nat) (hx : x < 4294967296) (hp : p < 32) : bits BinOp.xor IntKind.u32 (x : Int) (2 ^ p % 4294967296) = ((x ^^^ 2 ^ p : Nat) : Int) := by
  have h1 := pow_small p 31 (by omega)
  rw [show (2 : Int) ^ p % 4294967296 = ((2 ^ p : Nat) : Int) by rw [show (2 : Int) ^ p = ((2 ^ p : Nat) : Int) by simp]; generalize 2 ^ p = q at *; omega, u32_xor_nat _ _ hx (by omega)]

set_option maxHeartbeats 1000000 in
theorem ecc_Decode (x : Nat) (w : World) (hx : x < 4294967296) :
    Calls Tryz.prog 83 #[.int .u32 (x : Int)] w fun e w' => e = .returned (.tuple #[.int .i64 ((Ecc.decode x).1 : Int), .int .i64 ((Ecc.decode x).2 : Int)]) ∧ Below w.heap.size w w' := by
  have hs := Ecc.syn_lt x
  have hf := fix_lt x hx
  cases h1 : Ecc.isCode x with
  | true =>
    have e : Ecc.decode x = (Ecc.data x, 0) := by unfold Ecc.decode; rw [if_pos h1]
    rw [e]
    clear e
    go_enter Tryz.func83, Tryz.ntmps83
    go_wp2_with fail
    refine (ecc_isCode _ _ hx).mono ?_
    rintro e w1 ⟨rfl, k, rfl⟩
    rw [h1]
    go_wp2_with (go_at_call 98; refine (ecc_data _ _ hx).mono ?_; rintro e w2 ⟨rfl, hb⟩)
    go_ret2
    exact ⟨rfl, (Below.drewN (Below.refl _ _) k).trans hb⟩
  | false =>
    have hfl := flip_bit x (Ecc.syn x) hx hs
    rw [show x ^^^ 2 ^ Ecc.syn x = Ecc.fix x from rfl] at hfl
    have i1 : (Ecc.syn x : Int) ≤ 32 := by omega
    cases h2 : Ecc.isCode (Ecc.fix x) with
    | true =>
      have e : Ecc.decode x = (Ecc.data (Ecc.fix x), 1) := by unfold Ecc.decode; rw [if_neg (by rw [h1]; simp), if_pos h2]
      rw [e]
      clear e
      go_enter Tryz.func83, Tryz.ntmps83
      go_wp2_with fail
      refine (ecc_isCode _ _ hx).mono ?_
      rintro e w1 ⟨rfl, k, rfl⟩
      rw [h1]
      go_wp2_with (go_at_call 99; refine (ecc_syndrome _ _ hx).mono ?_; rintro e w2 ⟨rfl, rfl⟩)
      refine (ecc_isCode _ _ hf).mono ?_
      rintro e w1 ⟨rfl, k, rfl⟩
      rw [h2]
      go_wp2_with (go_at_call 98; refine (ecc_data _ _ hf).mono ?_; rintro e w2 ⟨rfl, hb⟩)
      go_ret2
      exact ⟨rfl, (Below.drewN (Below.refl _ _) _).trans hb⟩
    | false =>
      have e : Ecc.decode x = (0, 2) := by unfold Ecc.decode; rw [if_neg (by rw [h1]; simp), if_neg (by rw [h2]; simp)]
      rw [e]
      clear e
      go_enter Tryz.func83, Tryz.ntmps83
      go_wp2_with fail
      refine (ecc_isCode _ _ hx).mono ?_
      rintro e w1 ⟨rfl, k, rfl⟩
      rw [h1]
      go_wp2_with (go_at_call 99; refine (ecc_syndrome _ _ hx).mono ?_; rintro e w2 ⟨rfl, rfl⟩)
      refine (ecc_isCode _ _ hf).mono ?_
      rintro e w1 ⟨rfl, k, rfl⟩
      rw [h2]
      go_wp2_with fail
      go_ret2
      exact ⟨rfl, Below.drewN (Below.refl _ _) _⟩
end Go.Proofs.YtmhjddmamknglaaGreat
end

section
namespace Go.Proofs.YtmhjddmamknglaaGreat
set_option maxRecDepth 100000
set_option linter.unusedSimpArgs false
set_option linter.unusedVariables false
open Go.RowKit
set_option maxHeartbeats 4000000

theorem Only.same {w w' : World} {g : Nat} {t : TypeId} {cs : Array Value} (ho : Only (fun q => q = g) w w') (h : Blk w g t cs) (h' : Blk w' g t cs) : Below w.heap.size w w' :=
  ⟨ho.os, ho.tape, ho.output, ho.size, fun k hk => by
    by_cases e : k = g
    · subst e; unfold Blk at h h'; rw [h, h']
    · exact ho.block k hk e⟩
theorem Mem.low {w0 w : World} {L : List Ent} {O : List Osl} (hm : Mem (fun _ => False) w0 w L O) : Below w0.heap.size w0 w := hm.only.below (Nat.le_refl _) (fun _ _ e => e)
theorem Byt.low {w0 w : World} {L : List Ent} {O : List Osl} {A : Option Addr} {n c : Nat} {bs : List UInt8} (h : Byt w0 w0.heap.size A n c bs) (hm : Mem (fun _ => False) w0 w L O) : Byt w w.heap.size A n c bs := (h.below hm.low).more hm.only.size
theorem Byt.only {w w' : World} {A : Option Addr} {n c : Nat} {bs : List UInt8} {R : Nat → Prop} (h : Byt w w.heap.size A n c bs) (ho : Only R w w') (hg : ∀ a, A = some a → 0 < n → ¬ R a.block) : Byt w' w'.heap.size A n c bs := by
  refine ⟨h.1, h.2.1, fun hn => ?_⟩
  obtain ⟨b, o, e, hb, hc⟩ := h.2.2 hn
  refine ⟨b, o, e, Nat.lt_of_lt_of_le hb ho.size, fun j hj => ?_⟩
  rw [← hc j hj]
  have h0 : 0 < n := by rw [length_bcells, h.1] at hn; exact hn
  have := ho.block b hb (hg _ e h0)
  unfold World.cell?
  rw [this]
theorem Mem.fresh {R : Nat → Prop} {s w : World} {L : List Ent} {O : List Osl} {x : Osl} (hm : Mem R s w L O) (k : Nat) (hk : O[k]? = some x) (hR : ∀ q, R q → ∃ e ∈ L, e.g = q) : Own w s.heap.size x.t x.s x.A x.n x.c x.cs := by
  have hmem := List.mem_of_getElem? hk
  have h := hm.sl _ hmem
  refine ⟨h.1, h.2.1, h.2.2.1, fun hc => ?_⟩
  obtain ⟨g, cur, e, hb, r⟩ := h.2.2.2 hc
  have hq : ownAt x.A x.c = some g := by unfold ownAt; rw [if_neg (by omega), e]; rfl
  refine ⟨g, cur, e, ?_, r⟩
  rcases hm.slR _ hmem g hq with h1 | h1
  · obtain ⟨e2, he, h2⟩ := hR g h1
    exact absurd (h2 ▸ hq) (hm.slL _ hmem e2 he)
  · exact h1
theorem Mem.own_ {w0 w : World} {L : List Ent} {O : List Osl} {x : Osl} (hm : Mem (fun _ => False) w0 w L O) (k : Nat) (hk : O[k]? = some x) : Own w w0.heap.size x.t x.s x.A x.n x.c x.cs := hm.fresh k hk (fun q hq => hq.elim)
theorem Mem.quiet {w w' : World} {L : List Ent} {O : List Osl} {g : Nat} {t : TypeId} {cs : Array Value} (hm : Mem (fun q => q = g) w w' (⟨g, t, cs⟩ :: L) O) (hb : Blk w g t cs) : Below w.heap.size w w' := Only.same hm.only hb (hm.at_ 0 rfl)
/-- A call that hands back bytes of its own. -/
def ORes (w : World) (bs : List UInt8) (e : Ending) (w' : World) : Prop :=
  ∃ A c, e = .returned (.slice A bs.length c) ∧ Own w' w.heap.size 5 1 A bs.length c (bcells bs) ∧ Below w.heap.size w w'
theorem ORes.len {w : World} {bs : List UInt8} {e : Ending} {w' : World} (h : ORes w bs e w') {n : Nat} (hn : bs.length = n) : ∃ A c, e = .returned (.slice A n c) ∧ Own w' w.heap.size 5 1 A n c (bcells bs) ∧ Below w.heap.size w w' := by
  subst hn; exact h
theorem ORes.mk {R : Nat → Prop} {L : List Ent} {O : List Osl} {w0 w : World} {bs X : List UInt8} {A : Option Addr} {n c : Nat} (hm : Mem R w0 w L O) (k : Nat) (hk : O[k]? = some ⟨5, 1, A, n, c, bcells X⟩) (hX : X = bs) (hn : bs.length = n) (hR : ∀ q, ¬ R q) : ORes w0 bs (.returned (.slice A n c)) w := by
  subst hX
  subst hn
  exact ⟨A, c, rfl, hm.fresh k hk (fun q hq => absurd hq (hR q)), hm.only.below (Nat.le_refl _) (fun _ _ => hR _)⟩
theorem Byt.sup {w : World} {A : Option Addr} {n c : Nat} {bs : List UInt8} (h : Byt w w.heap.size A n c bs) : Sup w (blks #[.slice A n c]) (fun u => Byt u u.heap.size A n c bs) := by
  have hin : 0 < n → ∀ a, A = some a → blks #[.slice A n c] a.block := fun hn a e => ⟨A, n, c, a, by simp, hn, e, rfl⟩
  refine ⟨h, fun q hq => ?_, fun R w' ho hd => h.only ho fun a e hn => hd _ (hin hn a e)⟩
  obtain ⟨A', n', c', a, hm, hn, e, rfl⟩ := hq
  simp at hm
  obtain ⟨rfl, rfl, rfl⟩ := hm
  obtain ⟨b, o, e2, hb⟩ := h.at_ hn
  rw [e] at e2; injection e2 with e2; subst e2
  exact hb
theorem ORes.nil {w w' : World} (h : Below w.heap.size w w') : ORes w [] (.returned (.slice none 0 0)) w' := ⟨none, 0, rfl, Own.none_ _ _ _ _ _, h⟩
/-- A slice that a call has made, with the whole of its block. -/
theorem Mem.gotB {R : Nat → Prop} {s w w' : World} {L : List Ent} {O : List Osl} {q : Nat} {t : TypeId} {cs : Array Value} (hm : Mem R s w L O) (hb : Below w.heap.size w w') (hq : w.heap.size ≤ q) (hB : Blk w' q t cs) : Mem R s w' (⟨q, t, cs⟩ :: L) O :=
  (hm.below hb).cons hB (.inr (Nat.le_trans hm.only.size hq)) (fun e he e2 => by have := hm.lt he; omega) (fun x hx e => by have := hm.slt hx e; omega)
theorem Own.whole {w : World} {base : Nat} {t : TypeId} {A : Option Addr} {n c : Nat} {x : UInt8} {xs : List UInt8} (h : Own w base t 1 A n c (bcells (x :: xs))) :
    ∃ q tl, A = some ⟨q, 0, none⟩ ∧ base ≤ q ∧ Blk w q t (B8 x :: (bcells xs ++ tl)).toArray := by
  have hn := h.len
  have hle := h.le
  have hn1 : (bcells (x :: xs)).length = xs.length + 1 := by simp
  obtain ⟨q, cur, e, hb, hh, _, ht⟩ := h.2.2.2 (by omega)
  refine ⟨q, cur.toList.drop (n * 1), e, hb, ?_⟩
  have : cur = (B8 x :: (bcells xs ++ cur.toList.drop (n * 1))).toArray := by
    apply Array.toList_inj.1
    show cur.toList = bcells (x :: xs) ++ cur.toList.drop (n * 1)
    rw [← ht, List.take_append_drop]
  unfold Blk
  rw [hh, ← this]
theorem Blk.byt {w : World} {q : Nat} {t : TypeId} {n c : Nat} {x : UInt8} {xs : List UInt8} {tl : List Value} (h : Blk w q t (B8 x :: (bcells xs ++ tl)).toArray) (hn : xs.length + 1 = n) (hc : n ≤ c) : Byt w w.heap.size (some ⟨q, 0, none⟩) n c (x :: xs) := by
  refine ⟨by simpa using hn, hc, ?_⟩
  have hr := h.row.take n
  rwa [show ((B8 x :: (bcells xs ++ tl)).toArray.toList).take n = bcells (x :: xs) by
    show (bcells (x :: xs) ++ tl).take n = _
    rw [List.take_left' (by simpa using hn)]] at hr
theorem ORes.of {w0 w : World} {bs : List UInt8} {A : Option Addr} {n c : Nat} (hn : bs.length = n) (ho : Own w w0.heap.size 5 1 A n c (bcells bs)) (hb : Below w0.heap.size w0 w) : ORes w0 bs (.returned (.slice A n c)) w := by subst hn; exact ⟨A, c, rfl, ho, hb⟩
/-- The one block that might have turned has not. -/
theorem Mem.still {w w' : World} {L : List Ent} {O : List Osl} {g : Nat} {t : TypeId} {cs : Array Value} (hm : Mem (fun q => q = g) w w' L O) (k : Nat) (hk : L[k]? = some ⟨g, t, cs⟩) (hb : Blk w g t cs) : Below w.heap.size w w' := Only.same hm.only hb (hm.at_ k hk)
theorem Mem.freshG {w w' : World} {L : List Ent} {O : List Osl} {g : Nat} {t : TypeId} {cs : Array Value} {x : Osl} (hm : Mem (fun q => q = g) w w' L O) (k j : Nat) (hk : L[k]? = some ⟨g, t, cs⟩) (hj : O[j]? = some x) : Own w' w.heap.size x.t x.s x.A x.n x.c x.cs :=
  hm.fresh j hj (fun q hq => ⟨_, List.mem_of_getElem? hk, hq.symm⟩)
end Go.Proofs.YtmhjddmamknglaaGreat
end

section
namespace Go.Proofs.YtmhjddmamknglaaGreat
set_option maxRecDepth 100000
set_option linter.unusedSimpArgs false
set_option linter.unusedVariables false
open Go.RowKit
set_option maxHeartbeats 8000000

/-- Where the parts of pages lie. -/
structure PgS where
  gm : Nat
  gw : Nat
  gv : Nat
  n : Nat
  cw : Nat
  cv : Nat
  A : Nat
  ca : Nat
  Ho : Nat
  ch : Nat
  F : Option Addr
  cf : Nat
  ra : List Value
  rh : List Value
def ecells (l : List (Option Nat)) : List Value := l.map fun o => I64 (Pg.enc o)
def ncells (l : List Nat) : List Value := l.map fun f : Nat => I64 (f : Int)
def pcs (s : PgS) (p : Pg.P) : Array Value :=
  #[.pointer (some ⟨s.gm, 0, none⟩), .int .i64 p.cuts, .int .i64 (p.count : Int), .int .i64 (p.frames : Int), .int .i64 (p.version : Int), .int .i64 (p.turn : Int), .slice (some ⟨s.A, 0, none⟩) p.at_.length s.ca, .slice (some ⟨s.Ho, 0, none⟩) p.holds.length s.ch, .slice s.F p.freed.length s.cf, .int .i64 (p.fixed : Int)]
/-- Pages at block g, all of whose memory is in G. -/
structure PAt (w : World) (g : Nat) (G : Nat → Prop) (s : PgS) (p : Pg.P) : Prop where
  blk : Blk w g 66 (pcs s p)
  mem : MemAt w s.gm s.gw s.gv s.n s.cw s.cv p.m
  at_ : Blk w s.A 3 (ecells p.at_ ++ s.ra).toArray
  holds : Blk w s.Ho 3 (ecells p.holds ++ s.rh).toArray
  freed : Row w w.heap.size s.F (ncells p.freed)
  cap : p.freed.length ≤ s.cf
  hg : ∀ q ∈ [g, s.gm, s.gw, s.gv, s.A, s.Ho], G q
  hF : ∀ a, s.F = some a → G a.block
  ne : [g, s.gm, s.gw, s.gv, s.A, s.Ho].Nodup
  nF : ∀ a, s.F = some a → a.block ∉ [g, s.gm, s.gw, s.gv, s.A, s.Ho]
  lt : ∀ q, G q → q < w.heap.size
section
variable {w w' : World} {g : Nat} {G R : Nat → Prop} {s : PgS} {p : Pg.P}
theorem Row.only {B : Nat} {A : Option Addr} {cs : List Value} (h : Row w w.heap.size A cs) (ho : Only R w w') (hd : ∀ a, A = some a → ¬ R a.block) : Row w' w'.heap.size A cs :=
  h.far (F := fun q => ¬ R q) (fun _ a e => hd a e) ho (fun q _ h1 h2 => h2 h1)
theorem PAt.away (H : PAt w g G s p) (ho : Only R w w') (hd : ∀ q, G q → ¬ R q) : PAt w' g G s p :=
  { H with
    blk := H.blk.only ho (hd _ (H.hg _ (by simp)))
    mem := H.mem.only ho (hd _ (H.hg _ (by simp))) (hd _ (H.hg _ (by simp))) (hd _ (H.hg _ (by simp)))
    at_ := H.at_.only ho (hd _ (H.hg _ (by simp)))
    holds := H.holds.only ho (hd _ (H.hg _ (by simp)))
    freed := Row.only (B := 0) H.freed ho (fun a e => hd _ (H.hF a e))
    lt := fun q hq => Nat.lt_of_lt_of_le (H.lt q hq) ho.size }
theorem PAt.below (H : PAt w g G s p) (hb : Below w.heap.size w w') : PAt w' g G s p := H.away (R := fun _ => False) (Only.of_below hb) (fun _ _ e => e)
theorem PAt.drewN (H : PAt w g G s p) (k : Nat) : PAt (w.drewN k) g G s p := { H with blk := H.blk, mem := H.mem.drewN k, at_ := H.at_.drewN k, holds := H.holds.drewN k, freed := H.freed, lt := H.lt }
/-- The memory has turned. -/
theorem PAt.memd (H : PAt w g G s p) (ho : Only (MemR s.gm s.gw s.gv) w w') {m : Cel.Mem} (hm : MemAt w' s.gm s.gw s.gv s.n s.cw s.cv m) : PAt w' g G s { p with m := m } := by
  have ne := H.ne
  simp only [List.nodup_cons, List.mem_cons, List.not_mem_nil, or_false, not_or] at ne
  obtain ⟨⟨n1, n2, n3, n4, n5⟩, ⟨n6, n7, n8, n9⟩, ⟨n10, n11, n12⟩, ⟨n13, n14⟩, n15, _⟩ := ne
  have hF : ∀ a, s.F = some a → ¬ MemR s.gm s.gw s.gv a.block := fun a e hr => H.nF a e (by rcases hr with h | h | h <;> simp [h])
  exact { H with
    blk := H.blk.only ho (by rintro (h | h | h) <;> contradiction)
    mem := hm
    at_ := H.at_.only ho (by rintro (h | h | h) <;> simp_all)
    holds := H.holds.only ho (by rintro (h | h | h) <;> simp_all)
    freed := Row.only (B := 0) H.freed ho hF
    lt := fun q hq => Nat.lt_of_lt_of_le (H.lt q hq) ho.size }
/-- The fields written anew, all else as it is. -/
theorem PAt.boxed (H : PAt w g G s p) (ho : Only (fun q => q = g) w w') (version turn fixed : Nat) (hb : Blk w' g 66 (pcs s { p with version := version, turn := turn, fixed := fixed })) : PAt w' g G s { p with version := version, turn := turn, fixed := fixed } := by
  have ne := H.ne
  simp only [List.nodup_cons, List.mem_cons, List.not_mem_nil, or_false, not_or] at ne
  obtain ⟨⟨n1, n2, n3, n4, n5⟩, _⟩ := ne
  exact { H with
    blk := hb
    mem := H.mem.only ho (fun e => n1 e.symm) (fun e => n2 e.symm) (fun e => n3 e.symm)
    at_ := H.at_.only ho (fun e => n4 e.symm)
    holds := H.holds.only ho (fun e => n5 e.symm)
    freed := Row.only (B := 0) H.freed ho (fun a e hr => H.nF a e (by simp [hr]))
    lt := fun q hq => Nat.lt_of_lt_of_le (H.lt q hq) ho.size }
end
section
variable {w : World} {g : Nat} {G : Nat → Prop} {s : PgS} {p : Pg.P}
theorem page_made (H : PAt w g G s p) : Calls Tryz.prog 25 #[.pointer (some ⟨g, 0, none⟩)] w fun e w' => e = .returned (.bool true) ∧ Below w.heap.size w w' := by
  have HK := Lib.hid H.blk
  have hm : Mem (fun q => q = g) w w [⟨g, _, _⟩] [] := Mem.one H.blk rfl
  clear H
  simp only [pcs] at hm HK
  go_enter Tryz.func25, Tryz.ntmps25
  go_wp2_with (first | go_skip | ((with_reducible show wpList _ _ _ _ _ (World.alloc _ _)); refine wpList_up hm ?_; clear hm; intro n w hn hn2 hk hm hd hd2 ho; (try rw [← hn]); replace hn := Nat.le_of_eq hn.symm) | ((first | ((with_reducible show wpList _ _ _ (Oper.mk _ (Op.box _ _) _ _ _ _ :: _) _ _); (refine bxA hm ?_; clear hm; intro n w hn hz hm ho; (try simp only [List.cons_append, List.nil_append] at hm))) | ((with_reducible show wpList _ _ _ (Oper.mk _ (Op.load _ _) _ _ _ _ :: _) _ _); first | (refine ldA hm ?_) | (refine laA hm ?_)) | ((with_reducible show wpList _ _ _ (Oper.mk _ (Op.store _ _ _) _ _ _ _ :: _) _ _); (refine stA hm ?_; clear hm; intro w hz hm ho)) | ((with_reducible show wpList _ _ _ (Oper.mk _ (Op.alloc _) _ _ _ _ :: _) _ _); (refine alA hm ?_; clear hm; intro n w hn hz hm ho; (try simp only [List.cons_append, List.nil_append] at hm)))); try simp only [Act.put, sxQ]))
  go_ret
  exact ⟨rfl, hm.still 0 rfl HK.out⟩
theorem page_Power (H : PAt w g G s p) (b : Bool) (hb : p.m.off = b) : Calls Tryz.prog 12 #[.pointer (some ⟨s.gm, 0, none⟩)] w fun e w' => e = .returned (.bool !b) ∧ w' = w :=
  (cell_Power H.mem).mono fun e w' h => ⟨by rw [← hb]; exact h.1, h.2.symm⟩
theorem page_Alive (H : PAt w g G s p) : Calls Tryz.prog 27 #[.pointer (some ⟨g, 0, none⟩)] w fun e w' => e = .returned (.bool p.alive) ∧ Below w.heap.size w w' := by
  have HK := Lib.hid H.blk
  have HH := Lib.hid H
  have hm : Mem (fun q => q = g) w w [⟨g, _, _⟩] [] := Mem.one H.blk rfl
  have e1 := Lib.hid (show p.alive = (!p.m.off && (p.m.cuts == p.cuts)) from rfl)
  clear H
  simp only [pcs] at hm HK
  cases ho : p.m.off with
  | true =>
    have HO := Lib.hid ho
    rw [ho] at e1
    clear ho
    go_enter Tryz.func27, Tryz.ntmps27
    go_wp2_with (first | go_skip | ((with_reducible show wpList _ _ _ _ _ (World.alloc _ _)); refine wpList_up hm ?_; clear hm; intro n w hn hn2 hk hm hd hd2 ho; (try rw [← hn]); replace hn := Nat.le_of_eq hn.symm) | ((first | ((with_reducible show wpList _ _ _ (Oper.mk _ (Op.box _ _) _ _ _ _ :: _) _ _); (refine bxA hm ?_; clear hm; intro n w hn hz hm ho; (try simp only [List.cons_append, List.nil_append] at hm))) | ((with_reducible show wpList _ _ _ (Oper.mk _ (Op.load _ _) _ _ _ _ :: _) _ _); first | (refine ldA hm ?_) | (refine laA hm ?_)) | ((with_reducible show wpList _ _ _ (Oper.mk _ (Op.store _ _ _) _ _ _ _ :: _) _ _); (refine stA hm ?_; clear hm; intro w hz hm ho)) | ((with_reducible show wpList _ _ _ (Oper.mk _ (Op.alloc _) _ _ _ _ :: _) _ _); (refine alA hm ?_; clear hm; intro n w hn hz hm ho; (try simp only [List.cons_append, List.nil_append] at hm)))); try simp only [Act.put, sxQ]))
    refine wp_region_noPanic ?_
    refine wp_region_held_drew (S := MemS _ _ _ _) (by kernel_rfl) (MemS.of hm.drew) (fun hHeld => ?_)
    refine wpAnyH_fresh (by repeat (first | apply Fresh.a | apply Fresh.b)) ?_
    replace hm := hm.drew
    iterate 1 (first | (refine takeN 0 hHeld ?_) | (refine takeY 0 ?_ hHeld ?_ ?_; rotate_left 1; (first | (intro w9 h9; (with_reducible show (execOp _ (Oper.mk _ (Op.load _ _) _ _ _ _)).run _ _ = _); first | exact h9.ldA) | focus (intro w9 hSw; go_simp; (try (with_reducible rfl)); done))); try simp only [Act.put, sxQ])
    refine wpAnyH_ready (rs := [1]) (by kernel_rfl) (by simp) ?_
    refine AllReadyH.cons2 (by simp only [sxN]; first | done | exact rfl) (fun K hK => ?_)
    rw [if_pos (by rfl)]
    go_simp
    refine (page_made (HH.out.below (hm.still 0 rfl HK.out))).mono ?_
    rintro e w2 ⟨rfl, hb2⟩
    replace hm := hm.below hb2
    go_simp
    refine hK.out _ _ (MemS.of hm) (fun hHeld => ?_)
    clear hK K
    try simp only [Act.put, sxQ]
    iterate 5 (first | (refine takeN 2 hHeld ?_) | (refine takeY 2 ?_ hHeld ?_ ?_; rotate_left 1; (first | (intro w9 h9; (with_reducible show (execOp _ (Oper.mk _ (Op.load _ _) _ _ _ _)).run _ _ = _); first | exact h9.ldA) | focus (intro w9 hSw; go_simp; (try (with_reducible rfl)); done))); try simp only [Act.put, sxQ])
    refine wpAnyH_ready (rs := [7]) (by kernel_rfl) (by simp) ?_
    refine AllReadyH.cons2 (by simp only [sxN]; first | done | exact rfl) (fun K hK => ?_)
    rw [if_pos (by rfl)]
    go_simp
    refine (page_Power (HH.out.below (hm.still 0 rfl HK.out)) _ HO.out).mono ?_
    rintro e w3 ⟨rfl, rfl⟩
    go_simp
    refine hK.out _ _ (MemS.of hm) (fun hHeld => ?_)
    clear hK K
    try simp only [Act.put, sxQ]
    iterate 6 (first | (refine takeN 8 hHeld ?_) | (refine takeY 8 ?_ hHeld ?_ ?_; rotate_left 1; (first | (intro w9 h9; (with_reducible show (execOp _ (Oper.mk _ (Op.load _ _) _ _ _ _)).run _ _ = _); first | exact h9.ldA) | focus (intro w9 hSw; go_simp; (try (with_reducible rfl)); done))); try simp only [Act.put, sxQ])
    refine wpAnyH_take3 (b := 14) (by repeat (first | apply Seek.a | apply Seek.b | apply Seek.c)) (by simp only [sxN]; first | done | exact rfl) ⟨undef, by kernel_rfl, by kernel_rfl, by kernel_rfl, fun _ _ _ h => h, Or.inr ⟨by kernel_rfl, rfl⟩, hHeld, ?_⟩
    try simp only [Act.put, sxQ]
    iterate 7 (first | (refine takeN 15 hHeld ?_) | (refine takeY 15 ?_ hHeld ?_ ?_; rotate_left 1; (first | (intro w9 h9; (with_reducible show (execOp _ (Oper.mk _ (Op.load _ _) _ _ _ _)).run _ _ = _); first | exact h9.ldA) | focus (intro w9 hSw; go_simp; (try (with_reducible rfl)); done))); try simp only [Act.put, sxQ])
    refine wpAnyH_done (by kernel_rfl) ?_ _
    refine NoPanic.normal ?_
    go_wp2_with (first | go_skip | ((with_reducible show wpList _ _ _ _ _ (World.alloc _ _)); refine wpList_up hm ?_; clear hm; intro n w hn hn2 hk hm hd hd2 ho; (try rw [← hn]); replace hn := Nat.le_of_eq hn.symm) | ((first | ((with_reducible show wpList _ _ _ (Oper.mk _ (Op.box _ _) _ _ _ _ :: _) _ _); (refine bxA hm ?_; clear hm; intro n w hn hz hm ho; (try simp only [List.cons_append, List.nil_append] at hm))) | ((with_reducible show wpList _ _ _ (Oper.mk _ (Op.load _ _) _ _ _ _ :: _) _ _); first | (refine ldA hm ?_) | (refine laA hm ?_)) | ((with_reducible show wpList _ _ _ (Oper.mk _ (Op.store _ _ _) _ _ _ _ :: _) _ _); (refine stA hm ?_; clear hm; intro w hz hm ho)) | ((with_reducible show wpList _ _ _ (Oper.mk _ (Op.alloc _) _ _ _ _ :: _) _ _); (refine alA hm ?_; clear hm; intro n w hn hz hm ho; (try simp only [List.cons_append, List.nil_append] at hm)))); try simp only [Act.put, sxQ]))
    go_ret
    exact ⟨by rw [e1.out]; rfl, hm.still 0 rfl HK.out⟩
  | false =>
    have HO := Lib.hid ho
    rw [ho] at e1
    clear ho
    go_enter Tryz.func27, Tryz.ntmps27
    go_wp2_with (first | go_skip | ((with_reducible show wpList _ _ _ _ _ (World.alloc _ _)); refine wpList_up hm ?_; clear hm; intro n w hn hn2 hk hm hd hd2 ho; (try rw [← hn]); replace hn := Nat.le_of_eq hn.symm) | ((first | ((with_reducible show wpList _ _ _ (Oper.mk _ (Op.box _ _) _ _ _ _ :: _) _ _); (refine bxA hm ?_; clear hm; intro n w hn hz hm ho; (try simp only [List.cons_append, List.nil_append] at hm))) | ((with_reducible show wpList _ _ _ (Oper.mk _ (Op.load _ _) _ _ _ _ :: _) _ _); first | (refine ldA hm ?_) | (refine laA hm ?_)) | ((with_reducible show wpList _ _ _ (Oper.mk _ (Op.store _ _ _) _ _ _ _ :: _) _ _); (refine stA hm ?_; clear hm; intro w hz hm ho)) | ((with_reducible show wpList _ _ _ (Oper.mk _ (Op.alloc _) _ _ _ _ :: _) _ _); (refine alA hm ?_; clear hm; intro n w hn hz hm ho; (try simp only [List.cons_append, List.nil_append] at hm)))); try simp only [Act.put, sxQ]))
    refine wp_region_noPanic ?_
    refine wp_region_held_drew (S := MemS _ _ _ _) (by kernel_rfl) (MemS.of hm.drew) (fun hHeld => ?_)
    refine wpAnyH_fresh (by repeat (first | apply Fresh.a | apply Fresh.b)) ?_
    replace hm := hm.drew
    iterate 1 (first | (refine takeN 0 hHeld ?_) | (refine takeY 0 ?_ hHeld ?_ ?_; rotate_left 1; (first | (intro w9 h9; (with_reducible show (execOp _ (Oper.mk _ (Op.load _ _) _ _ _ _)).run _ _ = _); first | exact h9.ldA) | focus (intro w9 hSw; go_simp; (try (with_reducible rfl)); done))); try simp only [Act.put, sxQ])
    refine wpAnyH_ready (rs := [1]) (by kernel_rfl) (by simp) ?_
    refine AllReadyH.cons2 (by simp only [sxN]; first | done | exact rfl) (fun K hK => ?_)
    rw [if_pos (by rfl)]
    go_simp
    refine (page_made (HH.out.below (hm.still 0 rfl HK.out))).mono ?_
    rintro e w2 ⟨rfl, hb2⟩
    replace hm := hm.below hb2
    go_simp
    refine hK.out _ _ (MemS.of hm) (fun hHeld => ?_)
    clear hK K
    try simp only [Act.put, sxQ]
    iterate 5 (first | (refine takeN 2 hHeld ?_) | (refine takeY 2 ?_ hHeld ?_ ?_; rotate_left 1; (first | (intro w9 h9; (with_reducible show (execOp _ (Oper.mk _ (Op.load _ _) _ _ _ _)).run _ _ = _); first | exact h9.ldA) | focus (intro w9 hSw; go_simp; (try (with_reducible rfl)); done))); try simp only [Act.put, sxQ])
    refine wpAnyH_ready (rs := [7]) (by kernel_rfl) (by simp) ?_
    refine AllReadyH.cons2 (by simp only [sxN]; first | done | exact rfl) (fun K hK => ?_)
    rw [if_pos (by rfl)]
    go_simp
    refine (page_Power (HH.out.below (hm.still 0 rfl HK.out)) _ HO.out).mono ?_
    rintro e w3 ⟨rfl, rfl⟩
    go_simp
    refine hK.out _ _ (MemS.of hm) (fun hHeld => ?_)
    clear hK K
    try simp only [Act.put, sxQ]
    iterate 6 (first | (refine takeN 8 hHeld ?_) | (refine takeY 8 ?_ hHeld ?_ ?_; rotate_left 1; (first | (intro w9 h9; (with_reducible show (execOp _ (Oper.mk _ (Op.load _ _) _ _ _ _)).run _ _ = _); first | exact h9.ldA) | focus (intro w9 hSw; go_simp; (try (with_reducible rfl)); done))); try simp only [Act.put, sxQ])
    iterate 4 (first | (refine takeN 15 hHeld ?_) | (refine takeY 15 ?_ hHeld ?_ ?_; rotate_left 1; (first | (intro w9 h9; (with_reducible show (execOp _ (Oper.mk _ (Op.load _ _) _ _ _ _)).run _ _ = _); first | exact h9.ldA) | focus (intro w9 hSw; go_simp; (try (with_reducible rfl)); done))); try simp only [Act.put, sxQ])
    refine wpAnyH_ready (rs := [14]) (by kernel_rfl) (by simp) ?_
    refine AllReadyH.cons2 (by simp only [sxN]; first | done | exact rfl) (fun K hK => ?_)
    rw [if_pos (by rfl)]
    go_simp
    refine (cell_Cuts (HH.out.below (hm.still 0 rfl HK.out)).mem).mono ?_
    rintro e w4 ⟨rfl, rfl⟩
    go_simp
    refine hK.out _ _ (MemS.of hm) (fun hHeld => ?_)
    clear hK K
    try simp only [Act.put, sxQ]
    iterate 3 (first | (refine takeN 19 hHeld ?_) | (refine takeY 19 ?_ hHeld ?_ ?_; rotate_left 1; (first | (intro w9 h9; (with_reducible show (execOp _ (Oper.mk _ (Op.load _ _) _ _ _ _)).run _ _ = _); first | exact h9.ldA) | focus (intro w9 hSw; go_simp; (try (with_reducible rfl)); done))); try simp only [Act.put, sxQ])
    refine wpAnyH_done (by kernel_rfl) ?_ _
    refine NoPanic.normal ?_
    go_wp2_with (first | go_skip | ((with_reducible show wpList _ _ _ _ _ (World.alloc _ _)); refine wpList_up hm ?_; clear hm; intro n w hn hn2 hk hm hd hd2 ho; (try rw [← hn]); replace hn := Nat.le_of_eq hn.symm) | ((first | ((with_reducible show wpList _ _ _ (Oper.mk _ (Op.box _ _) _ _ _ _ :: _) _ _); (refine bxA hm ?_; clear hm; intro n w hn hz hm ho; (try simp only [List.cons_append, List.nil_append] at hm))) | ((with_reducible show wpList _ _ _ (Oper.mk _ (Op.load _ _) _ _ _ _ :: _) _ _); first | (refine ldA hm ?_) | (refine laA hm ?_)) | ((with_reducible show wpList _ _ _ (Oper.mk _ (Op.store _ _ _) _ _ _ _ :: _) _ _); (refine stA hm ?_; clear hm; intro w hz hm ho)) | ((with_reducible show wpList _ _ _ (Oper.mk _ (Op.alloc _) _ _ _ _ :: _) _ _); (refine alA hm ?_; clear hm; intro n w hn hz hm ho; (try simp only [List.cons_append, List.nil_append] at hm)))); try simp only [Act.put, sxQ]))
    go_ret
    exact ⟨by rw [e1.out]; rfl, hm.still 0 rfl HK.out⟩
theorem page_Count (H : PAt w g G s p) : Calls Tryz.prog 8 #[.pointer (some ⟨g, 0, none⟩)] w fun e w' => e = .returned (.int .i64 (p.count : Int)) ∧ Below w.heap.size w w' := by
  have HK := Lib.hid H.blk
  have HH := Lib.hid H
  have hm : Mem (fun q => q = g) w w [⟨g, _, _⟩] [] := Mem.one H.blk rfl
  clear H
  simp only [pcs] at hm HK
  go_enter Tryz.func8, Tryz.ntmps8
  go_wp2_with (first | go_skip | ((with_reducible show wpList _ _ _ _ _ (World.alloc _ _)); refine wpList_up hm ?_; clear hm; intro n w hn hn2 hk hm hd hd2 ho; (try rw [← hn]); replace hn := Nat.le_of_eq hn.symm) | ((first | ((with_reducible show wpList _ _ _ (Oper.mk _ (Op.box _ _) _ _ _ _ :: _) _ _); (refine bxA hm ?_; clear hm; intro n w hn hz hm ho; (try simp only [List.cons_append, List.nil_append] at hm))) | ((with_reducible show wpList _ _ _ (Oper.mk _ (Op.load _ _) _ _ _ _ :: _) _ _); first | (refine ldA hm ?_) | (refine laA hm ?_)) | ((with_reducible show wpList _ _ _ (Oper.mk _ (Op.store _ _ _) _ _ _ _ :: _) _ _); (refine stA hm ?_; clear hm; intro w hz hm ho)) | ((with_reducible show wpList _ _ _ (Oper.mk _ (Op.alloc _) _ _ _ _ :: _) _ _); (refine alA hm ?_; clear hm; intro n w hn hz hm ho; (try simp only [List.cons_append, List.nil_append] at hm)))); try simp only [Act.put, sxQ]))
  go_at_call 25
  refine (page_made (HH.out.below (hm.still 0 rfl HK.out))).mono ?_
  rintro e w2 ⟨rfl, hb2⟩
  replace hm := hm.below hb2
  go_wp2_with (first | go_skip | ((with_reducible show wpList _ _ _ _ _ (World.alloc _ _)); refine wpList_up hm ?_; clear hm; intro n w hn hn2 hk hm hd hd2 ho; (try rw [← hn]); replace hn := Nat.le_of_eq hn.symm) | ((first | ((with_reducible show wpList _ _ _ (Oper.mk _ (Op.box _ _) _ _ _ _ :: _) _ _); (refine bxA hm ?_; clear hm; intro n w hn hz hm ho; (try simp only [List.cons_append, List.nil_append] at hm))) | ((with_reducible show wpList _ _ _ (Oper.mk _ (Op.load _ _) _ _ _ _ :: _) _ _); first | (refine ldA hm ?_) | (refine laA hm ?_)) | ((with_reducible show wpList _ _ _ (Oper.mk _ (Op.store _ _ _) _ _ _ _ :: _) _ _); (refine stA hm ?_; clear hm; intro w hz hm ho)) | ((with_reducible show wpList _ _ _ (Oper.mk _ (Op.alloc _) _ _ _ _ :: _) _ _); (refine alA hm ?_; clear hm; intro n w hn hz hm ho; (try simp only [List.cons_append, List.nil_append] at hm)))); try simp only [Act.put, sxQ]))
  go_ret
  exact ⟨rfl, hm.still 0 rfl HK.out⟩
theorem page_failure (H : PAt w g G s p) : Calls Tryz.prog 42 #[.pointer (some ⟨g, 0, none⟩)] w fun e w' => e = .returned (.int .i64 p.failure) ∧ Below w.heap.size w w' := by
  have HA := Lib.hid (page_Alive H)
  have e1 := Lib.hid (show p.failure = if p.alive then 9 else 7 from rfl)
  clear H
  cases ha : p.alive with
  | true =>
    rw [ha] at e1 HA
    clear ha
    go_enter Tryz.func42, Tryz.ntmps42
    go_wp2_with fail
    go_at_call 27
    refine HA.out.mono ?_
    rintro e w2 ⟨rfl, hb2⟩
    go_wp2_with fail
    go_ret
    exact ⟨by rw [e1.out]; rfl, hb2⟩
  | false =>
    rw [ha] at e1 HA
    clear ha
    go_enter Tryz.func42, Tryz.ntmps42
    go_wp2_with fail
    go_at_call 27
    refine HA.out.mono ?_
    rintro e w2 ⟨rfl, hb2⟩
    go_wp2_with fail
    go_ret
    exact ⟨by rw [e1.out]; rfl, hb2⟩
theorem page_access (H : PAt w g G s p) (i : Int) : Calls Tryz.prog 63 #[.pointer (some ⟨g, 0, none⟩), .int .i64 i] w fun e w' => e = .returned (.int .i64 (p.access i)) ∧ Below w.heap.size w w' := by
  have HK := Lib.hid H.blk
  have HH := Lib.hid H
  have hm : Mem (fun q => q = g) w w [⟨g, _, _⟩] [] := Mem.one H.blk rfl
  have HA := Lib.hid (page_Alive H)
  have e1 := Lib.hid (show p.access i = if p.alive = false then 7 else if i < 0 ∨ p.count ≤ i then 2 else 0 from rfl)
  clear H
  simp only [pcs] at hm HK
  cases ha : p.alive with
  | false =>
    rw [ha] at e1 HA
    clear ha
    go_enter Tryz.func63, Tryz.ntmps63
    go_wp2_with (first | go_skip | ((with_reducible show wpList _ _ _ _ _ (World.alloc _ _)); refine wpList_up hm ?_; clear hm; intro n w hn hn2 hk hm hd hd2 ho; (try rw [← hn]); replace hn := Nat.le_of_eq hn.symm) | ((first | ((with_reducible show wpList _ _ _ (Oper.mk _ (Op.box _ _) _ _ _ _ :: _) _ _); (refine bxA hm ?_; clear hm; intro n w hn hz hm ho; (try simp only [List.cons_append, List.nil_append] at hm))) | ((with_reducible show wpList _ _ _ (Oper.mk _ (Op.load _ _) _ _ _ _ :: _) _ _); first | (refine ldA hm ?_) | (refine laA hm ?_)) | ((with_reducible show wpList _ _ _ (Oper.mk _ (Op.store _ _ _) _ _ _ _ :: _) _ _); (refine stA hm ?_; clear hm; intro w hz hm ho)) | ((with_reducible show wpList _ _ _ (Oper.mk _ (Op.alloc _) _ _ _ _ :: _) _ _); (refine alA hm ?_; clear hm; intro n w hn hz hm ho; (try simp only [List.cons_append, List.nil_append] at hm)))); try simp only [Act.put, sxQ]))
    go_at_call 27
    refine HA.out.mono ?_
    rintro e w2 ⟨rfl, hb2⟩
    go_wp2_with fail
    go_ret
    exact ⟨by rw [e1.out]; rfl, hb2⟩
  | true =>
    rw [ha] at e1 HA
    clear ha
    by_cases h0 : i < 0
    · go_enter Tryz.func63, Tryz.ntmps63
      go_wp2_with (first | go_skip | ((with_reducible show wpList _ _ _ _ _ (World.alloc _ _)); refine wpList_up hm ?_; clear hm; intro n w hn hn2 hk hm hd hd2 ho; (try rw [← hn]); replace hn := Nat.le_of_eq hn.symm) | ((first | ((with_reducible show wpList _ _ _ (Oper.mk _ (Op.box _ _) _ _ _ _ :: _) _ _); (refine bxA hm ?_; clear hm; intro n w hn hz hm ho; (try simp only [List.cons_append, List.nil_append] at hm))) | ((with_reducible show wpList _ _ _ (Oper.mk _ (Op.load _ _) _ _ _ _ :: _) _ _); first | (refine ldA hm ?_) | (refine laA hm ?_)) | ((with_reducible show wpList _ _ _ (Oper.mk _ (Op.store _ _ _) _ _ _ _ :: _) _ _); (refine stA hm ?_; clear hm; intro w hz hm ho)) | ((with_reducible show wpList _ _ _ (Oper.mk _ (Op.alloc _) _ _ _ _ :: _) _ _); (refine alA hm ?_; clear hm; intro n w hn hz hm ho; (try simp only [List.cons_append, List.nil_append] at hm)))); try simp only [Act.put, sxQ]))
      go_at_call 27
      refine HA.out.mono ?_
      rintro e w2 ⟨rfl, hb2⟩
      replace hm := hm.below hb2
      go_wp2_with (first | go_skip | ((with_reducible show wpList _ _ _ _ _ (World.alloc _ _)); refine wpList_up hm ?_; clear hm; intro n w hn hn2 hk hm hd hd2 ho; (try rw [← hn]); replace hn := Nat.le_of_eq hn.symm) | ((first | ((with_reducible show wpList _ _ _ (Oper.mk _ (Op.box _ _) _ _ _ _ :: _) _ _); (refine bxA hm ?_; clear hm; intro n w hn hz hm ho; (try simp only [List.cons_append, List.nil_append] at hm))) | ((with_reducible show wpList _ _ _ (Oper.mk _ (Op.load _ _) _ _ _ _ :: _) _ _); first | (refine ldA hm ?_) | (refine laA hm ?_)) | ((with_reducible show wpList _ _ _ (Oper.mk _ (Op.store _ _ _) _ _ _ _ :: _) _ _); (refine stA hm ?_; clear hm; intro w hz hm ho)) | ((with_reducible show wpList _ _ _ (Oper.mk _ (Op.alloc _) _ _ _ _ :: _) _ _); (refine alA hm ?_; clear hm; intro n w hn hz hm ho; (try simp only [List.cons_append, List.nil_append] at hm)))); try simp only [Act.put, sxQ]))
      go_ret
      exact ⟨by rw [e1.out, if_neg (by decide), if_pos (.inl h0)]; rfl, hm.still 0 rfl HK.out⟩
    · have hd0 : decide (i < 0) = false := by simpa using h0
      by_cases h1 : (p.count : Int) ≤ i
      · have hd1 : decide ((p.count : Int) ≤ i) = true := by simpa using h1
        have h0h := Lib.hid h0; have h1h := Lib.hid h1; clear h0 h1
        go_enter Tryz.func63, Tryz.ntmps63
        go_wp2_with (first | go_skip | ((with_reducible show wpList _ _ _ _ _ (World.alloc _ _)); refine wpList_up hm ?_; clear hm; intro n w hn hn2 hk hm hd hd2 ho; (try rw [← hn]); replace hn := Nat.le_of_eq hn.symm) | ((first | ((with_reducible show wpList _ _ _ (Oper.mk _ (Op.box _ _) _ _ _ _ :: _) _ _); (refine bxA hm ?_; clear hm; intro n w hn hz hm ho; (try simp only [List.cons_append, List.nil_append] at hm))) | ((with_reducible show wpList _ _ _ (Oper.mk _ (Op.load _ _) _ _ _ _ :: _) _ _); first | (refine ldA hm ?_) | (refine laA hm ?_)) | ((with_reducible show wpList _ _ _ (Oper.mk _ (Op.store _ _ _) _ _ _ _ :: _) _ _); (refine stA hm ?_; clear hm; intro w hz hm ho)) | ((with_reducible show wpList _ _ _ (Oper.mk _ (Op.alloc _) _ _ _ _ :: _) _ _); (refine alA hm ?_; clear hm; intro n w hn hz hm ho; (try simp only [List.cons_append, List.nil_append] at hm)))); try simp only [Act.put, sxQ]))
        go_at_call 27
        refine HA.out.mono ?_
        rintro e w2 ⟨rfl, hb2⟩
        replace hm := hm.below hb2
        go_wp2_with (first | go_skip | ((with_reducible show wpList _ _ _ _ _ (World.alloc _ _)); refine wpList_up hm ?_; clear hm; intro n w hn hn2 hk hm hd hd2 ho; (try rw [← hn]); replace hn := Nat.le_of_eq hn.symm) | ((first | ((with_reducible show wpList _ _ _ (Oper.mk _ (Op.box _ _) _ _ _ _ :: _) _ _); (refine bxA hm ?_; clear hm; intro n w hn hz hm ho; (try simp only [List.cons_append, List.nil_append] at hm))) | ((with_reducible show wpList _ _ _ (Oper.mk _ (Op.load _ _) _ _ _ _ :: _) _ _); first | (refine ldA hm ?_) | (refine laA hm ?_)) | ((with_reducible show wpList _ _ _ (Oper.mk _ (Op.store _ _ _) _ _ _ _ :: _) _ _); (refine stA hm ?_; clear hm; intro w hz hm ho)) | ((with_reducible show wpList _ _ _ (Oper.mk _ (Op.alloc _) _ _ _ _ :: _) _ _); (refine alA hm ?_; clear hm; intro n w hn hz hm ho; (try simp only [List.cons_append, List.nil_append] at hm)))); try simp only [Act.put, sxQ]))
        go_ret
        exact ⟨by rw [e1.out, if_neg (by decide), if_pos (.inr h1h.out)]; rfl, hm.still 0 rfl HK.out⟩
      · have hd1 : decide ((p.count : Int) ≤ i) = false := by simpa using h1
        have h0h := Lib.hid h0; have h1h := Lib.hid h1; clear h0 h1
        go_enter Tryz.func63, Tryz.ntmps63
        go_wp2_with (first | go_skip | ((with_reducible show wpList _ _ _ _ _ (World.alloc _ _)); refine wpList_up hm ?_; clear hm; intro n w hn hn2 hk hm hd hd2 ho; (try rw [← hn]); replace hn := Nat.le_of_eq hn.symm) | ((first | ((with_reducible show wpList _ _ _ (Oper.mk _ (Op.box _ _) _ _ _ _ :: _) _ _); (refine bxA hm ?_; clear hm; intro n w hn hz hm ho; (try simp only [List.cons_append, List.nil_append] at hm))) | ((with_reducible show wpList _ _ _ (Oper.mk _ (Op.load _ _) _ _ _ _ :: _) _ _); first | (refine ldA hm ?_) | (refine laA hm ?_)) | ((with_reducible show wpList _ _ _ (Oper.mk _ (Op.store _ _ _) _ _ _ _ :: _) _ _); (refine stA hm ?_; clear hm; intro w hz hm ho)) | ((with_reducible show wpList _ _ _ (Oper.mk _ (Op.alloc _) _ _ _ _ :: _) _ _); (refine alA hm ?_; clear hm; intro n w hn hz hm ho; (try simp only [List.cons_append, List.nil_append] at hm)))); try simp only [Act.put, sxQ]))
        go_at_call 27
        refine HA.out.mono ?_
        rintro e w2 ⟨rfl, hb2⟩
        replace hm := hm.below hb2
        go_wp2_with (first | go_skip | ((with_reducible show wpList _ _ _ _ _ (World.alloc _ _)); refine wpList_up hm ?_; clear hm; intro n w hn hn2 hk hm hd hd2 ho; (try rw [← hn]); replace hn := Nat.le_of_eq hn.symm) | ((first | ((with_reducible show wpList _ _ _ (Oper.mk _ (Op.box _ _) _ _ _ _ :: _) _ _); (refine bxA hm ?_; clear hm; intro n w hn hz hm ho; (try simp only [List.cons_append, List.nil_append] at hm))) | ((with_reducible show wpList _ _ _ (Oper.mk _ (Op.load _ _) _ _ _ _ :: _) _ _); first | (refine ldA hm ?_) | (refine laA hm ?_)) | ((with_reducible show wpList _ _ _ (Oper.mk _ (Op.store _ _ _) _ _ _ _ :: _) _ _); (refine stA hm ?_; clear hm; intro w hz hm ho)) | ((with_reducible show wpList _ _ _ (Oper.mk _ (Op.alloc _) _ _ _ _ :: _) _ _); (refine alA hm ?_; clear hm; intro n w hn hz hm ho; (try simp only [List.cons_append, List.nil_append] at hm)))); try simp only [Act.put, sxQ]))
        go_ret
        exact ⟨by rw [e1.out, if_neg (by decide), if_neg (by have := h0h.out; have := h1h.out; omega)]; rfl, hm.still 0 rfl HK.out⟩
theorem page_word (H : PAt w g G s p) (f i : Nat) (x : Int) (hx : x = (i : Int)) (hf : f < 100000000 ∧ i < 100000000) (hfx : p.fixed + 1 < 4611686018427387904) :
    Calls Tryz.prog 73 #[.pointer (some ⟨g, 0, none⟩), .int .i64 (f : Int), .int .i64 x] w fun e w' =>
      e = .returned (.tuple #[.int .i64 ((Pg.word p.m (f * 20 + i)).1 : Int), .bool (Pg.word p.m (f * 20 + i)).2.1]) ∧ PAt w' g G s (p.more (Pg.word p.m (f * 20 + i)).2.2) ∧ Only (fun q => q = g) w w' := by
  subst hx
  have HK := Lib.hid H.blk
  have HH := Lib.hid H
  have hm : Mem (fun q => q = g) w w [⟨g, _, _⟩] [] := Mem.one H.blk rfl
  have ew : ((f : Int) * 20 + (i : Int)) = ((f * 20 + i : Nat) : Int) := by omega
  have e1 := Lib.hid (show Pg.word p.m (f * 20 + i) = if (p.m.read ((f * 20 + i : Nat) : Int)).2 ≠ 0 then (0, false, 0)
    else ((Ecc.decode (p.m.read ((f * 20 + i : Nat) : Int)).1.toNat).1, decide ((Ecc.decode (p.m.read ((f * 20 + i : Nat) : Int)).1.toNat).2 ≠ 2), if (Ecc.decode (p.m.read ((f * 20 + i : Nat) : Int)).1.toNat).2 = 1 then 1 else 0) from rfl)
  have HR : (∀ u, PAt u g G s p → Calls Tryz.prog 82 #[.pointer (some ⟨s.gm, 0, none⟩), .int .i64 ((f : Int) * 20 + (i : Int))] u fun e w' => e = .returned (.tuple #[W32 (p.m.read ((f * 20 + i : Nat) : Int)).1, .int .i64 (p.m.read ((f * 20 + i : Nat) : Int)).2]) ∧ u = w') :=
    (fun u h => by rw [ew]; exact cell_Read h.mem _)
  replace HR := Lib.hid HR
  clear ew
  have e0 := Lib.hid (show p.more 0 = p from rfl)
  clear H
  generalize hrd : p.m.read ((f * 20 + i : Nat) : Int) = rd at *
  obtain ⟨v, z⟩ := rd
  dsimp only at e1 HR
  simp only [pcs] at hm HK
  by_cases hz : z = 0
  · subst hz
    rw [if_neg (by simp)] at e1
    have hv := v.toNat_lt
    have HD : (∀ u, Calls Tryz.prog 83 #[W32 v] u fun e w' => e = .returned (.tuple #[.int .i64 ((Ecc.decode v.toNat).1 : Int), .int .i64 ((Ecc.decode v.toNat).2 : Int)]) ∧ Below u.heap.size u w') := fun u => ecc_Decode v.toNat u hv
    replace HD := Lib.hid HD
    rw [e1.out]
    dsimp only
    clear hv hrd e1
    generalize Ecc.decode v.toNat = d at HD ⊢
    obtain ⟨a, b⟩ := d
    dsimp only at HD ⊢
    have hbb := Lib.hid (show decide (b ≠ 2) = ((b : Int) != 2) by by_cases h : b = 2 <;> simp [h] <;> omega)
    by_cases hb : b = 1
    · subst hb
      go_enter Tryz.func73, Tryz.ntmps73
      go_wp2_with (first | go_skip | ((with_reducible show wpList _ _ _ _ _ (World.alloc _ _)); refine wpList_up hm ?_; clear hm; intro n w hn hn2 hk hm hd hd2 ho; (try rw [← hn]); replace hn := Nat.le_of_eq hn.symm) | ((first | ((with_reducible show wpList _ _ _ (Oper.mk _ (Op.box _ _) _ _ _ _ :: _) _ _); (refine bxA hm ?_; clear hm; intro n w hn hz hm ho; (try simp only [List.cons_append, List.nil_append] at hm))) | ((with_reducible show wpList _ _ _ (Oper.mk _ (Op.load _ _) _ _ _ _ :: _) _ _); first | (refine ldA hm ?_) | (refine laA hm ?_)) | ((with_reducible show wpList _ _ _ (Oper.mk _ (Op.store _ _ _) _ _ _ _ :: _) _ _); (refine stA hm ?_; clear hm; intro w hz hm ho)) | ((with_reducible show wpList _ _ _ (Oper.mk _ (Op.alloc _) _ _ _ _ :: _) _ _); (refine alA hm ?_; clear hm; intro n w hn hz hm ho; (try simp only [List.cons_append, List.nil_append] at hm)))); try simp only [Act.put, sxQ]))
      go_at_call 82
      refine (HR.out _ (HH.out.below (hm.still 0 rfl HK.out))).mono ?_
      rintro e w2 ⟨rfl, rfl⟩
      go_wp2_with (first | go_skip | ((with_reducible show wpList _ _ _ _ _ (World.alloc _ _)); refine wpList_up hm ?_; clear hm; intro n w hn hn2 hk hm hd hd2 ho; (try rw [← hn]); replace hn := Nat.le_of_eq hn.symm) | ((first | ((with_reducible show wpList _ _ _ (Oper.mk _ (Op.box _ _) _ _ _ _ :: _) _ _); (refine bxA hm ?_; clear hm; intro n w hn hz hm ho; (try simp only [List.cons_append, List.nil_append] at hm))) | ((with_reducible show wpList _ _ _ (Oper.mk _ (Op.load _ _) _ _ _ _ :: _) _ _); first | (refine ldA hm ?_) | (refine laA hm ?_)) | ((with_reducible show wpList _ _ _ (Oper.mk _ (Op.store _ _ _) _ _ _ _ :: _) _ _); (refine stA hm ?_; clear hm; intro w hz hm ho)) | ((with_reducible show wpList _ _ _ (Oper.mk _ (Op.alloc _) _ _ _ _ :: _) _ _); (refine alA hm ?_; clear hm; intro n w hn hz hm ho; (try simp only [List.cons_append, List.nil_append] at hm)))); try simp only [Act.put, sxQ]))
      go_at_call 83
      refine (HD.out _).mono ?_
      rintro e w3 ⟨rfl, hb3⟩
      replace hm := hm.below hb3
      go_wp2_with (first | go_skip | ((with_reducible show wpList _ _ _ _ _ (World.alloc _ _)); refine wpList_up hm ?_; clear hm; intro n w hn hn2 hk hm hd hd2 ho; (try rw [← hn]); replace hn := Nat.le_of_eq hn.symm) | ((first | ((with_reducible show wpList _ _ _ (Oper.mk _ (Op.box _ _) _ _ _ _ :: _) _ _); (refine bxA hm ?_; clear hm; intro n w hn hz hm ho; (try simp only [List.cons_append, List.nil_append] at hm))) | ((with_reducible show wpList _ _ _ (Oper.mk _ (Op.load _ _) _ _ _ _ :: _) _ _); first | (refine ldA hm ?_) | (refine laA hm ?_)) | ((with_reducible show wpList _ _ _ (Oper.mk _ (Op.store _ _ _) _ _ _ _ :: _) _ _); (refine stA hm ?_; clear hm; intro w hz hm ho)) | ((with_reducible show wpList _ _ _ (Oper.mk _ (Op.alloc _) _ _ _ _ :: _) _ _); (refine alA hm ?_; clear hm; intro n w hn hz hm ho; (try simp only [List.cons_append, List.nil_append] at hm)))); try simp only [Act.put, sxQ]))
      go_ret2
      refine ⟨by simp, ?_, hm.only⟩
      exact HH.out.boxed hm.only p.version p.turn (p.fixed + 1) (by exact hm.at_ 0 rfl)
    · have hbd : (b == 1) = false := by simpa using hb
      rw [if_neg hb, e0.out]
      clear hb
      go_enter Tryz.func73, Tryz.ntmps73
      go_wp2_with (first | go_skip | ((with_reducible show wpList _ _ _ _ _ (World.alloc _ _)); refine wpList_up hm ?_; clear hm; intro n w hn hn2 hk hm hd hd2 ho; (try rw [← hn]); replace hn := Nat.le_of_eq hn.symm) | ((first | ((with_reducible show wpList _ _ _ (Oper.mk _ (Op.box _ _) _ _ _ _ :: _) _ _); (refine bxA hm ?_; clear hm; intro n w hn hz hm ho; (try simp only [List.cons_append, List.nil_append] at hm))) | ((with_reducible show wpList _ _ _ (Oper.mk _ (Op.load _ _) _ _ _ _ :: _) _ _); first | (refine ldA hm ?_) | (refine laA hm ?_)) | ((with_reducible show wpList _ _ _ (Oper.mk _ (Op.store _ _ _) _ _ _ _ :: _) _ _); (refine stA hm ?_; clear hm; intro w hz hm ho)) | ((with_reducible show wpList _ _ _ (Oper.mk _ (Op.alloc _) _ _ _ _ :: _) _ _); (refine alA hm ?_; clear hm; intro n w hn hz hm ho; (try simp only [List.cons_append, List.nil_append] at hm)))); try simp only [Act.put, sxQ]))
      go_at_call 82
      refine (HR.out _ (HH.out.below (hm.still 0 rfl HK.out))).mono ?_
      rintro e w2 ⟨rfl, rfl⟩
      go_wp2_with (first | go_skip | ((with_reducible show wpList _ _ _ _ _ (World.alloc _ _)); refine wpList_up hm ?_; clear hm; intro n w hn hn2 hk hm hd hd2 ho; (try rw [← hn]); replace hn := Nat.le_of_eq hn.symm) | ((first | ((with_reducible show wpList _ _ _ (Oper.mk _ (Op.box _ _) _ _ _ _ :: _) _ _); (refine bxA hm ?_; clear hm; intro n w hn hz hm ho; (try simp only [List.cons_append, List.nil_append] at hm))) | ((with_reducible show wpList _ _ _ (Oper.mk _ (Op.load _ _) _ _ _ _ :: _) _ _); first | (refine ldA hm ?_) | (refine laA hm ?_)) | ((with_reducible show wpList _ _ _ (Oper.mk _ (Op.store _ _ _) _ _ _ _ :: _) _ _); (refine stA hm ?_; clear hm; intro w hz hm ho)) | ((with_reducible show wpList _ _ _ (Oper.mk _ (Op.alloc _) _ _ _ _ :: _) _ _); (refine alA hm ?_; clear hm; intro n w hn hz hm ho; (try simp only [List.cons_append, List.nil_append] at hm)))); try simp only [Act.put, sxQ]))
      go_at_call 83
      refine (HD.out _).mono ?_
      rintro e w3 ⟨rfl, hb3⟩
      replace hm := hm.below hb3
      go_wp2_with (first | go_skip | ((with_reducible show wpList _ _ _ _ _ (World.alloc _ _)); refine wpList_up hm ?_; clear hm; intro n w hn hn2 hk hm hd hd2 ho; (try rw [← hn]); replace hn := Nat.le_of_eq hn.symm) | ((first | ((with_reducible show wpList _ _ _ (Oper.mk _ (Op.box _ _) _ _ _ _ :: _) _ _); (refine bxA hm ?_; clear hm; intro n w hn hz hm ho; (try simp only [List.cons_append, List.nil_append] at hm))) | ((with_reducible show wpList _ _ _ (Oper.mk _ (Op.load _ _) _ _ _ _ :: _) _ _); first | (refine ldA hm ?_) | (refine laA hm ?_)) | ((with_reducible show wpList _ _ _ (Oper.mk _ (Op.store _ _ _) _ _ _ _ :: _) _ _); (refine stA hm ?_; clear hm; intro w hz hm ho)) | ((with_reducible show wpList _ _ _ (Oper.mk _ (Op.alloc _) _ _ _ _ :: _) _ _); (refine alA hm ?_; clear hm; intro n w hn hz hm ho; (try simp only [List.cons_append, List.nil_append] at hm)))); try simp only [Act.put, sxQ]))
      go_ret2
      exact ⟨by rw [hbb.out]; rfl, HH.out.below (hm.still 0 rfl HK.out), hm.only⟩
  · rw [if_pos hz] at e1
    have hzd : (z != 0) = true := by simpa using hz
    clear hz hrd
    rw [e1.out]
    dsimp only
    rw [e0.out]
    go_enter Tryz.func73, Tryz.ntmps73
    go_wp2_with (first | go_skip | ((with_reducible show wpList _ _ _ _ _ (World.alloc _ _)); refine wpList_up hm ?_; clear hm; intro n w hn hn2 hk hm hd hd2 ho; (try rw [← hn]); replace hn := Nat.le_of_eq hn.symm) | ((first | ((with_reducible show wpList _ _ _ (Oper.mk _ (Op.box _ _) _ _ _ _ :: _) _ _); (refine bxA hm ?_; clear hm; intro n w hn hz hm ho; (try simp only [List.cons_append, List.nil_append] at hm))) | ((with_reducible show wpList _ _ _ (Oper.mk _ (Op.load _ _) _ _ _ _ :: _) _ _); first | (refine ldA hm ?_) | (refine laA hm ?_)) | ((with_reducible show wpList _ _ _ (Oper.mk _ (Op.store _ _ _) _ _ _ _ :: _) _ _); (refine stA hm ?_; clear hm; intro w hz hm ho)) | ((with_reducible show wpList _ _ _ (Oper.mk _ (Op.alloc _) _ _ _ _ :: _) _ _); (refine alA hm ?_; clear hm; intro n w hn hz hm ho; (try simp only [List.cons_append, List.nil_append] at hm)))); try simp only [Act.put, sxQ]))
    go_at_call 82
    refine (HR.out _ (HH.out.below (hm.still 0 rfl HK.out))).mono ?_
    rintro e w2 ⟨rfl, rfl⟩
    go_wp2_with (first | go_skip | ((with_reducible show wpList _ _ _ _ _ (World.alloc _ _)); refine wpList_up hm ?_; clear hm; intro n w hn hn2 hk hm hd hd2 ho; (try rw [← hn]); replace hn := Nat.le_of_eq hn.symm) | ((first | ((with_reducible show wpList _ _ _ (Oper.mk _ (Op.box _ _) _ _ _ _ :: _) _ _); (refine bxA hm ?_; clear hm; intro n w hn hz hm ho; (try simp only [List.cons_append, List.nil_append] at hm))) | ((with_reducible show wpList _ _ _ (Oper.mk _ (Op.load _ _) _ _ _ _ :: _) _ _); first | (refine ldA hm ?_) | (refine laA hm ?_)) | ((with_reducible show wpList _ _ _ (Oper.mk _ (Op.store _ _ _) _ _ _ _ :: _) _ _); (refine stA hm ?_; clear hm; intro w hz hm ho)) | ((with_reducible show wpList _ _ _ (Oper.mk _ (Op.alloc _) _ _ _ _ :: _) _ _); (refine alA hm ?_; clear hm; intro n w hn hz hm ho; (try simp only [List.cons_append, List.nil_append] at hm)))); try simp only [Act.put, sxQ]))
    go_ret2
    exact ⟨rfl, HH.out.below (hm.still 0 rfl HK.out), hm.only⟩
end
end Go.Proofs.YtmhjddmamknglaaGreat
end

section
namespace Go.Proofs.YtmhjddmamknglaaGreat
set_option maxRecDepth 100000
set_option linter.unusedSimpArgs false
set_option linter.unusedVariables false
open Go.RowKit
set_option maxHeartbeats 8000000

/-- A slice of numbers. -/
def Nrow (w : World) (B : Nat) (A : Option Addr) (n c : Nat) (l : List Nat) : Prop := l.length = n ∧ n ≤ c ∧ Row w B A (ncells l)
theorem ncells_length (l : List Nat) : (ncells l).length = l.length := by simp [ncells]
theorem Nrow.at_ {w : World} {B : Nat} {A : Option Addr} {n c : Nat} {l : List Nat} (h : Nrow w B A n c l) {k : Nat} (hk : k < n) : ∃ b o, A = some ⟨b, o, none⟩ ∧ b < B ∧ w.cell? ⟨b, o + k, none⟩ = some (.int .i64 (l.getD k 0 : Nat)) := by
  obtain ⟨b, o, h1, h2, h3⟩ := h.2.2.at_ (j := k) (by rw [ncells_length, h.1]; exact hk)
  refine ⟨b, o, h1, h2, ?_⟩
  rw [h3]
  have hk2 : k < l.length := by rw [h.1]; exact hk
  simp [ncells, List.getD, List.getElem?_eq_getElem hk2, I64]
theorem Nrow.below {w w' : World} {B : Nat} {A : Option Addr} {n c : Nat} {l : List Nat} (h : Nrow w B A n c l) (hb : Below B w w') : Nrow w' B A n c l := ⟨h.1, h.2.1, h.2.2.below hb⟩
theorem Nrow.more {w : World} {B B' : Nat} {A : Option Addr} {n c : Nat} {l : List Nat} (h : Nrow w B A n c l) (hb : B ≤ B') : Nrow w B' A n c l := ⟨h.1, h.2.1, h.2.2.more hb⟩
theorem Own.nrow {w : World} {base : Nat} {t : TypeId} {A : Option Addr} {n c : Nat} {l : List Nat} (h : Own w base t 1 A n c (ncells l)) : Nrow w w.heap.size A n c l :=
  ⟨by have := h.len; rw [ncells_length] at this; omega, h.le, h.row⟩
theorem decode_lt (x : Nat) : (Ecc.decode x).1 < 16777216 := by
  unfold Ecc.decode
  split
  · exact Ecc.data_lt _
  · split
    · exact Ecc.data_lt _
    · show 0 < _; omega
theorem word_lt (m : Cel.Mem) (a : Nat) : (Pg.word m a).1 < 16777216 := by
  unfold Pg.word
  split
  · show 0 < _; omega
  · exact decode_lt _
theorem rdK_lt (m : Cel.Mem) (f : Nat) : ∀ k, ∀ x ∈ (Pg.rdK m f k).1, x < 16777216 := by
  intro k
  induction k with
  | zero => intro x hx; cases hx
  | succ k ih =>
    intro x hx
    unfold Pg.rdK at hx
    split at hx
    · split at hx
      · rcases List.mem_append.1 hx with h | h
        · exact ih x h
        · obtain rfl := List.mem_singleton.1 h; exact word_lt _ _
      · cases hx
    · cases hx
theorem rdK_length (m : Cel.Mem) (f : Nat) : ∀ k, (Pg.rdK m f k).2.1 = true → (Pg.rdK m f k).1.length = k := by
  intro k
  induction k with
  | zero => intro _; rfl
  | succ k ih =>
    intro h
    unfold Pg.rdK at h ⊢
    split at h
    · rename_i h1
      rw [if_pos h1]
      split at h
      · rename_i h2
        rw [if_pos h2, List.length_append, ih h1]; rfl
      · cases h
    · cases h
theorem sealK_succ (l : List Nat) (k : Nat) (hk : k < l.length) (h : Nat) : Pg.sealK (l.take (k + 1)) h = Pg.mix (Pg.sealK (l.take k) h) (l.getD k 0) := by
  have e : l.getD k 0 = l[k] := by simp [List.getD, List.getElem?_eq_getElem hk]
  rw [List.take_succ_eq_append_getElem hk, e]
  unfold Pg.sealK
  generalize Pg.mix = f
  rw [List.foldl_append, List.foldl_cons, List.foldl_nil]
theorem mix_lt (h n : Nat) : Pg.mix h n < 16777216 := by
  have hx : ((h ^^^ n) * 3083085 + 79225) % 16777216 < 16777216 := Nat.mod_lt _ (by omega)
  unfold Pg.mix
  generalize ((h ^^^ n) * 3083085 + 79225) % 16777216 = x at *
  have := Nat.xor_lt_two_pow (x := x) (y := x / 2048) (n := 24) (by omega) (by omega)
  simpa using this
theorem sealK_lt (l : List Nat) (h : Nat) (hh : h < 16777216) : Pg.sealK l h < 16777216 := by
  induction l generalizing h with
  | nil => exact hh
  | cons x l ih =>
    have := ih (Pg.mix h x) (mix_lt h x)
    unfold Pg.sealK at *
    rw [List.foldl_cons]
    exact this
theorem and_low24 (y : Nat) (hy : y < 9223372036854775808) : bits BinOp.and IntKind.i64 (y : Int) 16777215 = ((y % 16777216 : Nat) : Int) := by
  have h1 := i64_and_nat y 16777215 hy (by omega)
  have h2 := Nat.and_two_pow_sub_one_eq_mod y 24
  simp only [Nat.reducePow, Nat.reduceSub] at h2
  rw [h2] at h1
  exact h1
theorem mix_bits (h x : Nat) (hxx : h ^^^ x < 16777216) : bits BinOp.xor IntKind.i64 (bits BinOp.and IntKind.i64 (((h ^^^ x : Nat) : Int) * 3083085 + 79225) 16777215) (bits BinOp.and IntKind.i64 (((h ^^^ x : Nat) : Int) * 3083085 + 79225) 16777215 / 2048) = ((Pg.mix h x : Nat) : Int) := by
  have e : ((h ^^^ x : Nat) : Int) * 3083085 + 79225 = (((h ^^^ x) * 3083085 + 79225 : Nat) : Int) := by omega
  rw [e, and_low24 _ (by omega)]
  unfold Pg.mix
  have hm : ((h ^^^ x) * 3083085 + 79225) % 16777216 < 16777216 := Nat.mod_lt _ (by omega)
  generalize ((h ^^^ x) * 3083085 + 79225) % 16777216 = y at *
  have e2 : (y : Int) / 2048 = ((y / 2048 : Nat) : Int) := by omega
  rw [e2, i64_xor_nat y (y / 2048) (by omega) (by omega)]
theorem page_seal (A : Option Addr) (n c : Nat) (l : List Nat) (w : World) (H : Nrow w w.heap.size A n c l) (hl : ∀ x ∈ l, x < 16777216) (hn : n < 1000000) :
    Calls Tryz.prog 78 #[.slice A n c] w fun e w' => e = .returned (.int .i64 (Pg.sealOf l : Int)) ∧ w = w' := by
  have HL := Lib.hid H.1
  have HH := Lib.hid H
  have HX := Lib.hid hl
  clear H hl
  go_enter Tryz.func78, Tryz.ntmps78
  go_wp2_with fail
  go_loopg [3, 8] n (fun g h i wr => ∃ k : Nat, k + g = n ∧ i = .int .i64 k ∧ h = .int .i64 (Pg.sealK (l.take k) 5904323 : Nat) ∧ w = wr)
  case atStart => exact ⟨0, by omega, rfl, rfl, rfl⟩
  case round =>
    obtain ⟨k, hk, rfl, rfl, rfl⟩ := hrel
    have hlt := sealK_lt (l.take k) 5904323 (by omega)
    cases gk with
    | zero =>
      obtain rfl : k = n := by omega
      have e1 := Lib.hid (show Pg.sealOf l = Pg.sealK (l.take k) 5904323 ||| 1 by rw [List.take_of_length_le (by rw [HL.out]; omega), Pg.sealOf])
      generalize Pg.sealK (l.take k) 5904323 = h at *
      have eo := i64_or_nat h 1 (by omega) (by omega)
      go_wp2_with fail
      go_ret
      exact ⟨by rw [e1.out, ← eo]; rfl, rfl⟩
    | succ g =>
      have i0 : (k : Int) < (n : Int) := by omega
      have p0 : (0 : Int) ≤ (k : Int) := by omega
      obtain ⟨b1, o1, rfl, hb1, c1⟩ := HH.out.at_ (k := k) (by omega)
      have hxl := HX.out (l.getD k 0) (by
        have hk2 : k < l.length := by rw [HL.out]; omega
        rw [List.getD, List.getElem?_eq_getElem hk2]; exact List.getElem_mem hk2)
      have hs := Lib.hid (sealK_succ l k (by rw [HL.out]; omega) 5904323)
      generalize Pg.sealK (l.take k) 5904323 = h at *
      generalize l.getD k 0 = x at *
      have ex := i64_xor_nat h x (by omega) (by omega)
      have hxx : h ^^^ x < 16777216 := Nat.xor_lt_two_pow (n := 24) hlt hxl
      have hb := Lib.hid (mix_bits h x hxx)
      go_wp2_with fail
      go_roundg g
      case measure => omega
      case rel => exact ⟨k + 1, by omega, by go_num, by rw [hs.out, hb.out], rfl⟩
theorem i_int' : (Tryz.prog.info? 3).map (fun i => (i.zero, i.size, i.bytes)) = some (some (.int .i64 0), 1, 8) := by kernel_rfl
/-- A frame's words that are read: the slice, whether all is right; only the count of fixed words turns. -/
def RdRes (w : World) (g : Nat) (G : Nat → Prop) (s : PgS) (p : Pg.P) (l : List Nat) (ok : Bool) (c : Nat) (e : Ending) (w' : World) : Prop :=
  ∃ A m, e = .returned (.tuple #[.slice A l.length m, .bool ok]) ∧ Own w' w.heap.size 3 1 A l.length m (ncells l) ∧ PAt w' g G s (p.more c) ∧ Only (fun q => q = g) w w'
theorem rdK_count (m : Cel.Mem) (f : Nat) : ∀ k, (Pg.rdK m f k).2.2 ≤ k := by
  have hw : ∀ a, (Pg.word m a).2.2 ≤ 1 := fun a => by
    unfold Pg.word
    split
    · exact Nat.zero_le _
    · dsimp only; split <;> omega
  intro k
  induction k with
  | zero => exact Nat.le_refl _
  | succ k ih =>
    have := hw (f * 20 + k)
    unfold Pg.rdK
    split
    · split <;> (dsimp only; omega)
    · dsimp only; omega
theorem more_more (p : Pg.P) (a b : Nat) : (p.more a).more b = p.more (a + b) := by simp [Pg.P.more, Nat.add_assoc]
theorem rdK_bad (m : Cel.Mem) (f k : Nat) (h : (Pg.rdK m f k).2.1 = false) : ∀ j, k ≤ j → (Pg.rdK m f j).1 = [] ∧ (Pg.rdK m f j).2.1 = false ∧ (Pg.rdK m f j).2.2 = (Pg.rdK m f k).2.2 := by
  have h0 : ∀ j, (Pg.rdK m f j).2.1 = false → (Pg.rdK m f j).1 = [] := by
    intro j
    cases j with
    | zero => intro h; cases h
    | succ j =>
      intro h
      unfold Pg.rdK at h ⊢
      split
      · rename_i h1
        rw [if_pos h1] at h
        split
        · rename_i h2
          rw [if_pos h2] at h
          cases h
        · rfl
      · rfl
  intro j hj
  induction j with
  | zero => obtain rfl : k = 0 := by omega
            exact ⟨h0 _ h, h, rfl⟩
  | succ j ih =>
    by_cases hkj : k = j + 1
    · subst hkj; exact ⟨h0 _ h, h, rfl⟩
    · obtain ⟨h1, h2, h3⟩ := ih (by omega)
      have : Pg.rdK m f (j + 1) = ([], false, (Pg.rdK m f j).2.2) := by
        rw [Pg.rdK, if_neg (by rw [h2]; decide)]
      rw [this]
      exact ⟨rfl, rfl, h3⟩
theorem rdK_yes (m : Cel.Mem) (f k : Nat) (h : (Pg.rdK m f k).2.1 = true) (hw : (Pg.word m (f * 20 + k)).2.1 = true) : (Pg.rdK m f (k + 1)).1 = (Pg.rdK m f k).1 ++ [(Pg.word m (f * 20 + k)).1] ∧ (Pg.rdK m f (k + 1)).2.1 = true ∧ (Pg.rdK m f (k + 1)).2.2 = (Pg.rdK m f k).2.2 + (Pg.word m (f * 20 + k)).2.2 := by
  rw [Pg.rdK, if_pos h, if_pos hw]; exact ⟨rfl, rfl, rfl⟩
theorem rdK_no (m : Cel.Mem) (f k : Nat) (h : (Pg.rdK m f k).2.1 = true) (hw : (Pg.word m (f * 20 + k)).2.1 = false) : (Pg.rdK m f (k + 1)).2.1 = false ∧ (Pg.rdK m f (k + 1)).2.2 = (Pg.rdK m f k).2.2 + (Pg.word m (f * 20 + k)).2.2 := by
  rw [Pg.rdK, if_pos h, if_neg (by rw [hw]; decide)]; exact ⟨rfl, rfl⟩
theorem read_bad (m : Cel.Mem) (f k : Nat) (hk : k ≤ 19) (h : (Pg.rdK m f k).2.1 = false) : Pg.read m f = ([], false, (Pg.rdK m f k).2.2) := by
  obtain ⟨h1, h2, h3⟩ := rdK_bad m f k h 19 hk
  rw [Pg.read, if_neg (by rw [h2]; decide), h3]
theorem read_good (m : Cel.Mem) (f : Nat) (h : (Pg.rdK m f 19).2.1 = true) : (Pg.read m f).1 = (Pg.rdK m f 19).1 ∧ (Pg.read m f).2.1 = ((Pg.word m (f * 20 + 19)).2.1 && ((Pg.word m (f * 20 + 19)).1 == Pg.sealOf (Pg.rdK m f 19).1)) ∧ (Pg.read m f).2.2 = (Pg.rdK m f 19).2.2 + (Pg.word m (f * 20 + 19)).2.2 := by
  rw [Pg.read, if_pos h]; exact ⟨rfl, rfl, rfl⟩
theorem ncells_one (l : List Nat) : ∀ u ∈ ncells l, u.oneCell' = true := by
  intro u hu
  obtain ⟨x, _, rfl⟩ := List.mem_map.1 hu
  rfl
theorem ncells_append (a b : List Nat) : ncells (a ++ b) = ncells a ++ ncells b := by simp [ncells]
theorem beq_cast (x z : Nat) : ((x : Int) == (z : Int)) = (x == z) := by
  rw [Bool.eq_iff_iff]; simp; omega
theorem app_only {w w' : World} {A : Option Addr} {c : Nat} (hg : w.grownBy w' (ownAt A c)) : Only (fun q => ownAt A c = some q) w w' := (Only.refl _ _).grown hg (fun _ e => e)
theorem Only.newer {R R' : Nat → Prop} {s w w' : World} (h : Only R s w) (ho : Only R' w w') (hR : ∀ q, R' q → s.heap.size ≤ q) : Only R s w' := h.more ho (fun q _ hq => .inr (hR q hq))
theorem page_read {w : World} {g : Nat} {G : Nat → Prop} {s : PgS} {p : Pg.P} (H : PAt w g G s p) (f : Nat) (hf : f < 100000000) (hfx : p.fixed + 20 < 4611686018427387904) :
    Calls Tryz.prog 74 #[.pointer (some ⟨g, 0, none⟩), .int .i64 (f : Int)] w (RdRes w g G s p (Pg.read p.m f).1 (Pg.read p.m f).2.1 (Pg.read p.m f).2.2) := by
  obtain ⟨ti, hi0, hz0, hz1, hz2⟩ := info_parts i_int'
  have HH := Lib.hid H
  have HFX := Lib.hid hfx
  clear H hfx
  go_enter Tryz.func74, Tryz.ntmps74
  go_wp2_with fail
  go_loopg [6, 12] 19 (fun g2 v i wr => ∃ (k : Nat) (A2 : Option Addr) (c2 : Nat), k + g2 = 19 ∧ i = .int .i64 k ∧ v = .slice A2 k c2 ∧ Hid ((Pg.rdK p.m f k).2.1 = true) ∧ Own wr w.heap.size 3 1 A2 k c2 (ncells (Pg.rdK p.m f k).1) ∧ PAt wr g G s (p.more (Pg.rdK p.m f k).2.2) ∧ Only (fun q => q = g) w wr)
  case atStart => exact ⟨0, none, 0, by omega, rfl, rfl, Lib.hid rfl, Own.none_ _ _ _ _ _, HH.out, Only.refl _ _⟩
  case round =>
    obtain ⟨k, A2, c2, hk, rfl, rfl, hok, hown, hp, hbw⟩ := hrel
    cases gk with
    | zero =>
      obtain rfl : k = 19 := by omega
      have hlen := rdK_length p.m f 19 hok.out
      have hcnt := rdK_count p.m f 19
      have hrl := rdK_lt p.m f 19
      obtain ⟨r1, r2, r3⟩ := read_good p.m f hok.out
      have R1 := Lib.hid r1; have R2 := Lib.hid r2; have R3 := Lib.hid r3
      have HP := Lib.hid hp
      have HW := page_word hp f 19 19 rfl (by omega) (by have := HFX.out; simp only [Pg.P.more]; omega)
      have HN := Lib.hid hown
      have HB := Lib.hid hbw
      clear r1 r2 r3 hp hown hbw
      have hg : g < w.heap.size := HH.out.lt g (HH.out.hg g (by simp))
      rw [show (p.more (Pg.rdK p.m f 19).2.2).m = p.m from rfl] at HW
      have HE : (∀ e w2, (e = .returned (.tuple #[.slice A2 19 c2, .bool ((Pg.word p.m (f * 20 + 19)).2.1 && ((Pg.word p.m (f * 20 + 19)).1 == Pg.sealOf (Pg.rdK p.m f 19).1))])) → PAt w2 g G s ((p.more (Pg.rdK p.m f 19).2.2).more (Pg.word p.m (f * 20 + 19)).2.2) → Only (fun q => q = g) wr w2 → RdRes w g G s p (Pg.read p.m f).1 (Pg.read p.m f).2.1 (Pg.read p.m f).2.2 e w2) := by
        intro e w2 he hp2 ho2
        rw [R1.out, R2.out, R3.out]
        rw [more_more] at hp2
        refine ⟨A2, c2, by rw [hlen]; exact he, ?_, hp2, HB.out.trans ho2⟩
        rw [hlen]
        exact HN.out.only' ho2 (fun q e e2 => by have := (HN.out.lt q e).1; omega)
      replace HE := Lib.hid HE
      cases hw : (Pg.word p.m (f * 20 + 19)).2.1 with
      | true =>
        rw [hw] at HW HE
        replace HW := Lib.hid HW
        clear hw R1 R2 R3 hcnt
        generalize (Pg.word p.m (f * 20 + 19)).1 = x at *
        have HS : (∀ u, Own u w.heap.size 3 1 A2 19 c2 (ncells (Pg.rdK p.m f 19).1) → Calls Tryz.prog 78 #[.slice A2 19 c2] u fun e w' => e = .returned (.int .i64 (Pg.sealOf (Pg.rdK p.m f 19).1 : Int)) ∧ u = w') := fun u hu => page_seal A2 19 c2 _ u hu.nrow hrl (by omega)
        replace HS := Lib.hid HS
        clear hrl
        generalize Pg.sealOf (Pg.rdK p.m f 19).1 = z at *
        go_wp2_with fail
        go_at_call 73
        refine HW.out.mono ?_
        rintro e w2 ⟨rfl, hp2, ho2⟩
        have hown2 := Lib.hid (HN.out.only' ho2 (fun q e e2 => by have := (HN.out.lt q e).1; omega))
        go_wp2_with (go_at_call 78; refine (HS.out _ hown2.out).mono ?_; rintro e w3 ⟨rfl, rfl⟩)
        go_ret2
        exact HE.out _ _ (by simp [beq_cast]) hp2 ho2
      | false =>
        rw [hw] at HW HE
        replace HW := Lib.hid HW
        clear hw R1 R2 R3 hcnt hrl
        generalize (Pg.word p.m (f * 20 + 19)).1 = x at *
        go_wp2_with fail
        go_at_call 73
        refine HW.out.mono ?_
        rintro e w2 ⟨rfl, hp2, ho2⟩
        go_wp2_with fail
        go_ret2
        exact HE.out _ _ (by simp) hp2 ho2
    | succ g2 =>
      have i0 : (k : Int) < 19 := by omega
      have hcnt := rdK_count p.m f k
      have hlen := rdK_length p.m f k hok.out
      have HW := page_word hp f k k rfl (by omega) (by have := HFX.out; simp only [Pg.P.more]; omega)
      have HN := Lib.hid hown
      have HB := Lib.hid hbw
      have hg : g < w.heap.size := HH.out.lt g (HH.out.hg g (by simp))
      have hwl := hbw.size
      clear hp hown hbw
      rw [show (p.more (Pg.rdK p.m f k).2.2).m = p.m from rfl] at HW
      cases hw : (Pg.word p.m (f * 20 + k)).2.1 with
      | false =>
        obtain ⟨n1, n2⟩ := rdK_no p.m f k hok.out hw
        have hr := read_bad p.m f (k + 1) (by omega) n1
        rw [n2] at hr
        have HR := Lib.hid hr
        rw [hw] at HW
        replace HW := Lib.hid HW
        clear hw n1 n2 hr hcnt hlen
        go_wp2_with fail
        go_at_call 73
        refine HW.out.mono ?_
        rintro e w2 ⟨rfl, hp2, ho2⟩
        go_wp2_with fail
        go_ret2
        rw [HR.out]
        rw [more_more] at hp2
        exact ⟨none, 0, rfl, Own.none_ _ _ _ _ _, hp2, HB.out.trans ho2⟩
      | true =>
        obtain ⟨y1, y2, y3⟩ := rdK_yes p.m f k hok.out hw
        have Y1 := Lib.hid y1; have Y3 := Lib.hid y3; have Y2 := Lib.hid y2
        rw [hw] at HW
        replace HW := Lib.hid HW
        clear hw y1 y2 y3 hcnt
        generalize (Pg.word p.m (f * 20 + k)).1 = x at *
        go_wp2_with fail
        go_at_call 73
        refine HW.out.mono ?_
        rintro e w2 ⟨rfl, hp2, ho2⟩
        have hown2 := HN.out.only' ho2 (fun q e e2 => by have := (HN.out.lt q e).1; omega)
        have hsz := ho2.size
        go_wp2_with (at_builtin; refine wpList_append _ rfl (.tmp 24) (.tmp 26) 64 rfl w.heap.size 3 ti _ 1 8 Tryz.underlying64 hi0 hz0 hz1 hz2 rfl (by omega) A2 k c2 (ncells (Pg.rdK p.m f k).1) rfl (hown2.alloc _) (w2.heap.size + 1) (some ⟨w2.heap.size, 0, none⟩) 1 1 (ncells [x]) rfl (Row.new w2 rfl) (by simp [ncells]) (ncells_one _) (by unfold maxLen; omega) (by omega) (by simp; omega) ?_; intro A3 c3 w4 hown4 hg4 hat4)
        go_roundg g2
        case measure => omega
        case rel =>
          rw [more_more] at hp2
          have hO : Only (fun q => w.heap.size ≤ q) w2 w4 := ((Only.refl (fun q => w.heap.size ≤ q) w2).alloc _).trans ((app_only hg4).mono (fun q _ e => (HN.out.lt q e).1))
          refine ⟨k + 1, A3, c3, by omega, by go_num, rfl, Y2.out, ?_, ?_, ?_⟩
          · rw [Y1.out, ncells_append]; exact hown4
          · rw [Y3.out]; exact hp2.away hO (fun q hq h2 => by have := HH.out.lt q hq; omega)
          · exact (HB.out.trans ho2).newer hO (fun q hq => hq)
end Go.Proofs.YtmhjddmamknglaaGreat
end

section
namespace Go.Proofs.YtmhjddmamknglaaGreat
set_option maxRecDepth 100000
set_option linter.unusedSimpArgs false
set_option linter.unusedVariables false
open Go.RowKit
set_option maxHeartbeats 8000000

def hdV (h : Pg.Hd) : Value := .agg #[.int .i64 (Pg.enc h.page), .int .i64 (h.version : Int), .bool h.bad]
def HdRes (w : World) (g : Nat) (G : Nat → Prop) (s : PgS) (p : Pg.P) (r : Pg.Hd × Nat) (e : Ending) (w' : World) : Prop :=
  e = .returned (hdV r.1) ∧ PAt w' g G s (p.more r.2) ∧ Only (fun q => q = g) w w'
theorem read_length {m : Cel.Mem} {f : Nat} (h : (Pg.read m f).2.1 = true) : (Pg.read m f).1.length = 19 := by
  unfold Pg.read at h ⊢
  split at h
  · rename_i h1
    rw [if_pos h1]; exact rdK_length m f 19 h1
  · cases h
theorem read_lt (m : Cel.Mem) (f : Nat) : ∀ x ∈ (Pg.read m f).1, x < 16777216 := by
  unfold Pg.read
  split
  · exact rdK_lt m f 19
  · intro x hx; cases hx
theorem read_count (m : Cel.Mem) (f : Nat) : (Pg.read m f).2.2 ≤ 20 := by
  have h1 := rdK_count m f 19
  have h2 : (Pg.word m (f * 20 + 19)).2.2 ≤ 1 := by
    unfold Pg.word
    split
    · exact Nat.zero_le _
    · dsimp only; split <;> omega
  unfold Pg.read
  split <;> (dsimp only; omega)
theorem word_count (m : Cel.Mem) (a : Nat) : (Pg.word m a).2.2 ≤ 1 := by
  unfold Pg.word
  split
  · exact Nat.zero_le _
  · dsimp only; split <;> omega
theorem or_version (a b : Nat) (ha : a < 16777216) (hb : b < 16777216) : bits BinOp.or IntKind.i64 ((a : Int) * 16777216) (b : Int) = ((a * 16777216 + b : Nat) : Int) := by
  have e : (a : Int) * 16777216 = ((a * 16777216 : Nat) : Int) := by omega
  rw [e, i64_or_nat _ _ (by omega) (by omega)]
  have := Nat.two_pow_add_eq_or_of_lt (i := 24) (b := b) (by simpa using hb) a
  simp only [Nat.reducePow] at this
  rw [Nat.mul_comm a, ← this]
theorem page_header {w0 : World} {g : Nat} {G : Nat → Prop} {s : PgS} {p : Pg.P} (H : PAt w0 g G s p) (f : Nat) (hf : f < 100000000) (hfx : p.fixed + 21 < 4611686018427387904) :
    Calls Tryz.prog 59 #[.pointer (some ⟨g, 0, none⟩), .int .i64 (f : Int)] w0 (HdRes w0 g G s p (Pg.header p.m p.count f)) := by
  have hm : Mem (fun q => q = g) w0 w0 [⟨g, _, _⟩] [] := Mem.one H.blk rfl
  have HK := Lib.hid H.blk
  have HH := Lib.hid H
  have HW := (fun (u : World) (h : PAt u g G s p) => page_word h f 19 19 rfl ⟨hf, by omega⟩ (by omega))
  have HR := (fun (u : World) (p2 : Pg.P) (h : PAt u g G s p2) (h2 : p2.fixed ≤ p.fixed + 1) => page_read h f hf (by omega))
  have hc1 := word_count p.m (f * 20 + 19)
  have e1 : Pg.header p.m p.count f = if (Pg.word p.m (f * 20 + 19)).2.1 = true ∧ (Pg.word p.m (f * 20 + 19)).1 = 0 then (⟨none, 0, false⟩, (Pg.word p.m (f * 20 + 19)).2.2)
    else if (Pg.read p.m f).2.1 = false ∨ p.count ≤ (Pg.read p.m f).1.getD 16 0 then (⟨none, 0, true⟩, (Pg.word p.m (f * 20 + 19)).2.2 + (Pg.read p.m f).2.2)
    else (⟨some ((Pg.read p.m f).1.getD 16 0), (Pg.read p.m f).1.getD 17 0 * 16777216 + (Pg.read p.m f).1.getD 18 0, false⟩, (Pg.word p.m (f * 20 + 19)).2.2 + (Pg.read p.m f).2.2) := rfl
  have hrl := @read_length p.m f
  have hrt := read_lt p.m f
  rw [e1]
  clear e1 H
  replace HR : ∀ (u : World) (c : Nat), c ≤ 1 → PAt u g G s (p.more c) → Calls Tryz.prog 74 #[.pointer (some ⟨g, 0, none⟩), .int .i64 (f : Int)] u (RdRes u g G s (p.more c) (Pg.read p.m f).1 (Pg.read p.m f).2.1 (Pg.read p.m f).2.2) := fun u c hc h => HR u (p.more c) h (by simp only [Pg.P.more]; omega)
  generalize hWe : Pg.word p.m (f * 20 + 19) = W at *
  obtain ⟨x, ok, c1⟩ := W
  dsimp only at *
  clear hWe hfx
  generalize hRe : Pg.read p.m f = R at *
  obtain ⟨l, ok2, c2⟩ := R
  dsimp only at *
  clear hRe
  replace HR := Lib.hid HR
  replace HW := Lib.hid HW
  have HC1 := Lib.hid hc1
  clear hc1
  simp only [pcs] at hm HK
  by_cases h0 : ok = true ∧ x = 0
  · rw [if_pos h0]
    obtain ⟨rfl, rfl⟩ := h0
    clear hrl hrt
    go_enter Tryz.func59, Tryz.ntmps59
    go_wp2_with (first | go_skip | ((with_reducible show wpList _ _ _ _ _ (World.alloc _ _)); refine wpList_up hm ?_; clear hm; intro n w hn hn2 hk hm hd hd2 ho; (try rw [← hn]); replace hn := Nat.le_of_eq hn.symm) | ((first | ((with_reducible show wpList _ _ _ (Oper.mk _ (Op.box _ _) _ _ _ _ :: _) _ _); (refine bxA hm ?_; clear hm; intro n w hn hz hm ho; (try simp only [List.cons_append, List.nil_append] at hm))) | ((with_reducible show wpList _ _ _ (Oper.mk _ (Op.load _ _) _ _ _ _ :: _) _ _); first | (refine ldA hm ?_) | (refine laA hm ?_)) | ((with_reducible show wpList _ _ _ (Oper.mk _ (Op.store _ _ _) _ _ _ _ :: _) _ _); (refine stA hm ?_; clear hm; intro w hz hm ho)) | ((with_reducible show wpList _ _ _ (Oper.mk _ (Op.alloc _) _ _ _ _ :: _) _ _); (refine alA hm ?_; clear hm; intro n w hn hz hm ho; (try simp only [List.cons_append, List.nil_append] at hm)))); try simp only [Act.put, sxQ]))
    go_at_call 73
    refine (HW.out _ (HH.out.below (hm.still 0 rfl HK.out))).mono ?_
    rintro e w2 ⟨rfl, hp2, ho2⟩
    replace hm := hm.put 0 rfl ho2 hp2.blk
    simp only [List.set_cons_zero, pcs, Pg.P.more] at hm
    go_wp2_with (first | go_skip | ((with_reducible show wpList _ _ _ _ _ (World.alloc _ _)); refine wpList_up hm ?_; clear hm; intro n w hn hn2 hk hm hd hd2 ho; (try rw [← hn]); replace hn := Nat.le_of_eq hn.symm) | ((first | ((with_reducible show wpList _ _ _ (Oper.mk _ (Op.box _ _) _ _ _ _ :: _) _ _); (refine bxA hm ?_; clear hm; intro n w hn hz hm ho; (try simp only [List.cons_append, List.nil_append] at hm))) | ((with_reducible show wpList _ _ _ (Oper.mk _ (Op.load _ _) _ _ _ _ :: _) _ _); first | (refine ldA hm ?_) | (refine laA hm ?_)) | ((with_reducible show wpList _ _ _ (Oper.mk _ (Op.store _ _ _) _ _ _ _ :: _) _ _); (refine stA hm ?_; clear hm; intro w hz hm ho)) | ((with_reducible show wpList _ _ _ (Oper.mk _ (Op.alloc _) _ _ _ _ :: _) _ _); (refine alA hm ?_; clear hm; intro n w hn hz hm ho; (try simp only [List.cons_append, List.nil_append] at hm)))); try simp only [Act.put, sxQ]))
    refine bodyPost_ret (results_cell_row rfl _ _ _ 82 _ (0, 0) _ rfl (by exact hm.at_ 1 rfl) Tryz.underlying82 rfl (by kernel_rfl)) rfl ?_
    exact ⟨rfl, hp2.away ho (fun q hq e => by have := HH.out.lt q hq; omega), hm.only⟩
  · rw [if_neg h0]
    have hcase : ok = false ∨ (ok = true ∧ (x == 0) = false) := by
      cases ok
      · exact .inl rfl
      · exact .inr ⟨rfl, by simpa using fun e => h0 ⟨rfl, e⟩⟩
    clear h0
    by_cases hr : ok2 = false ∨ p.count ≤ l.getD 16 0
    · rw [if_pos hr]
      rcases hcase with rfl | ⟨rfl, hx0⟩
      all_goals
        cases ok2 with
        | false =>
          clear hr hrl hrt
          go_enter Tryz.func59, Tryz.ntmps59
          go_wp2_with (first | go_skip | ((with_reducible show wpList _ _ _ _ _ (World.alloc _ _)); refine wpList_up hm ?_; clear hm; intro n w hn hn2 hk hm hd hd2 ho; (try rw [← hn]); replace hn := Nat.le_of_eq hn.symm) | ((first | ((with_reducible show wpList _ _ _ (Oper.mk _ (Op.box _ _) _ _ _ _ :: _) _ _); (refine bxA hm ?_; clear hm; intro n w hn hz hm ho; (try simp only [List.cons_append, List.nil_append] at hm))) | ((with_reducible show wpList _ _ _ (Oper.mk _ (Op.load _ _) _ _ _ _ :: _) _ _); first | (refine ldA hm ?_) | (refine laA hm ?_)) | ((with_reducible show wpList _ _ _ (Oper.mk _ (Op.store _ _ _) _ _ _ _ :: _) _ _); (refine stA hm ?_; clear hm; intro w hz hm ho)) | ((with_reducible show wpList _ _ _ (Oper.mk _ (Op.alloc _) _ _ _ _ :: _) _ _); (refine alA hm ?_; clear hm; intro n w hn hz hm ho; (try simp only [List.cons_append, List.nil_append] at hm)))); try simp only [Act.put, sxQ]))
          go_at_call 73
          refine (HW.out _ (HH.out.below (hm.still 0 rfl HK.out))).mono ?_
          rintro e w2 ⟨rfl, hp2, ho2⟩
          replace hm := hm.put 0 rfl ho2 hp2.blk
          simp only [List.set_cons_zero, pcs, Pg.P.more] at hm
          go_wp2_with (first | go_skip | ((with_reducible show wpList _ _ _ _ _ (World.alloc _ _)); refine wpList_up hm ?_; clear hm; intro n w hn hn2 hk hm hd hd2 ho; (try rw [← hn]); replace hn := Nat.le_of_eq hn.symm) | ((first | ((with_reducible show wpList _ _ _ (Oper.mk _ (Op.box _ _) _ _ _ _ :: _) _ _); (refine bxA hm ?_; clear hm; intro n w hn hz hm ho; (try simp only [List.cons_append, List.nil_append] at hm))) | ((with_reducible show wpList _ _ _ (Oper.mk _ (Op.load _ _) _ _ _ _ :: _) _ _); first | (refine ldA hm ?_) | (refine laA hm ?_)) | ((with_reducible show wpList _ _ _ (Oper.mk _ (Op.store _ _ _) _ _ _ _ :: _) _ _); (refine stA hm ?_; clear hm; intro w hz hm ho)) | ((with_reducible show wpList _ _ _ (Oper.mk _ (Op.alloc _) _ _ _ _ :: _) _ _); (refine alA hm ?_; clear hm; intro n w hn hz hm ho; (try simp only [List.cons_append, List.nil_append] at hm)))); try simp only [Act.put, sxQ]))
          go_at_call 74
          refine (HR.out _ c1 HC1.out hp2).mono ?_
          rintro e w3 ⟨A, m, rfl, hown, hp3, ho3⟩
          rw [more_more] at hp3
          replace hm := hm.put 0 rfl ho3 hp3.blk
          simp only [List.set_cons_zero, pcs, Pg.P.more] at hm
          go_wp2_with (first | go_skip | ((with_reducible show wpList _ _ _ _ _ (World.alloc _ _)); refine wpList_up hm ?_; clear hm; intro n w hn hn2 hk hm hd hd2 ho; (try rw [← hn]); replace hn := Nat.le_of_eq hn.symm) | ((first | ((with_reducible show wpList _ _ _ (Oper.mk _ (Op.box _ _) _ _ _ _ :: _) _ _); (refine bxA hm ?_; clear hm; intro n w hn hz hm ho; (try simp only [List.cons_append, List.nil_append] at hm))) | ((with_reducible show wpList _ _ _ (Oper.mk _ (Op.load _ _) _ _ _ _ :: _) _ _); first | (refine ldA hm ?_) | (refine laA hm ?_)) | ((with_reducible show wpList _ _ _ (Oper.mk _ (Op.store _ _ _) _ _ _ _ :: _) _ _); (refine stA hm ?_; clear hm; intro w hz hm ho)) | ((with_reducible show wpList _ _ _ (Oper.mk _ (Op.alloc _) _ _ _ _ :: _) _ _); (refine alA hm ?_; clear hm; intro n w hn hz hm ho; (try simp only [List.cons_append, List.nil_append] at hm)))); try simp only [Act.put, sxQ]))
          refine wp_region_quiet_lit (by kernel_rfl) (by kernel_rfl) ?_
          repeat (first | go_big_quiet_skip | ((with_reducible show wpQuiet _ _ _ _ (Oper.mk _ (Op.load _ _) _ _ _ _ :: _) _); first | (refine wpQuiet_ldS (by rfl) _ _ rfl _ _ rfl hm _ _ (by repeat (first | apply In.a | apply In.b)) (by decide +kernel) _ (by simp only [sxN]; first | done | exact rfl) ?_; (try simp only [Act.put, sxQ]))) | go_big_quiet_step (fail))
          refine wpQuiet_nil ?_
          rintro _ ⟨nq, rfl⟩
          replace hm := hm.drewN nq
          go_wp2_with (first | go_skip | ((with_reducible show wpList _ _ _ _ _ (World.alloc _ _)); refine wpList_up hm ?_; clear hm; intro n w hn hn2 hk hm hd hd2 ho; (try rw [← hn]); replace hn := Nat.le_of_eq hn.symm) | ((first | ((with_reducible show wpList _ _ _ (Oper.mk _ (Op.box _ _) _ _ _ _ :: _) _ _); (refine bxA hm ?_; clear hm; intro n w hn hz hm ho; (try simp only [List.cons_append, List.nil_append] at hm))) | ((with_reducible show wpList _ _ _ (Oper.mk _ (Op.load _ _) _ _ _ _ :: _) _ _); first | (refine ldA hm ?_) | (refine laA hm ?_)) | ((with_reducible show wpList _ _ _ (Oper.mk _ (Op.store _ _ _) _ _ _ _ :: _) _ _); (refine stA hm ?_; clear hm; intro w hz hm ho)) | ((with_reducible show wpList _ _ _ (Oper.mk _ (Op.alloc _) _ _ _ _ :: _) _ _); (refine alA hm ?_; clear hm; intro n w hn hz hm ho; (try simp only [List.cons_append, List.nil_append] at hm)))); try simp only [Act.put, sxQ]))
          refine bodyPost_ret (results_cell_row rfl _ _ _ 82 _ (0, 0) _ rfl (by exact hm.at_ 1 rfl) Tryz.underlying82 rfl (by kernel_rfl)) rfl ?_
          exact ⟨rfl, (hp3.drewN nq).away ho (fun q hq e => by have := HH.out.lt q hq; omega), hm.only⟩
        | true =>
          have hrc : p.count ≤ l.getD 16 0 := by rcases hr with h | h; cases h; exact h
          have hll := hrl rfl
          clear hr hrl hrt
          go_enter Tryz.func59, Tryz.ntmps59
          go_wp2_with (first | go_skip | ((with_reducible show wpList _ _ _ _ _ (World.alloc _ _)); refine wpList_up hm ?_; clear hm; intro n w hn hn2 hk hm hd hd2 ho; (try rw [← hn]); replace hn := Nat.le_of_eq hn.symm) | ((first | ((with_reducible show wpList _ _ _ (Oper.mk _ (Op.box _ _) _ _ _ _ :: _) _ _); (refine bxA hm ?_; clear hm; intro n w hn hz hm ho; (try simp only [List.cons_append, List.nil_append] at hm))) | ((with_reducible show wpList _ _ _ (Oper.mk _ (Op.load _ _) _ _ _ _ :: _) _ _); first | (refine ldA hm ?_) | (refine laA hm ?_)) | ((with_reducible show wpList _ _ _ (Oper.mk _ (Op.store _ _ _) _ _ _ _ :: _) _ _); (refine stA hm ?_; clear hm; intro w hz hm ho)) | ((with_reducible show wpList _ _ _ (Oper.mk _ (Op.alloc _) _ _ _ _ :: _) _ _); (refine alA hm ?_; clear hm; intro n w hn hz hm ho; (try simp only [List.cons_append, List.nil_append] at hm)))); try simp only [Act.put, sxQ]))
          go_at_call 73
          refine (HW.out _ (HH.out.below (hm.still 0 rfl HK.out))).mono ?_
          rintro e w2 ⟨rfl, hp2, ho2⟩
          replace hm := hm.put 0 rfl ho2 hp2.blk
          simp only [List.set_cons_zero, pcs, Pg.P.more] at hm
          go_wp2_with (first | go_skip | ((with_reducible show wpList _ _ _ _ _ (World.alloc _ _)); refine wpList_up hm ?_; clear hm; intro n w hn hn2 hk hm hd hd2 ho; (try rw [← hn]); replace hn := Nat.le_of_eq hn.symm) | ((first | ((with_reducible show wpList _ _ _ (Oper.mk _ (Op.box _ _) _ _ _ _ :: _) _ _); (refine bxA hm ?_; clear hm; intro n w hn hz hm ho; (try simp only [List.cons_append, List.nil_append] at hm))) | ((with_reducible show wpList _ _ _ (Oper.mk _ (Op.load _ _) _ _ _ _ :: _) _ _); first | (refine ldA hm ?_) | (refine laA hm ?_)) | ((with_reducible show wpList _ _ _ (Oper.mk _ (Op.store _ _ _) _ _ _ _ :: _) _ _); (refine stA hm ?_; clear hm; intro w hz hm ho)) | ((with_reducible show wpList _ _ _ (Oper.mk _ (Op.alloc _) _ _ _ _ :: _) _ _); (refine alA hm ?_; clear hm; intro n w hn hz hm ho; (try simp only [List.cons_append, List.nil_append] at hm)))); try simp only [Act.put, sxQ]))
          go_at_call 74
          refine (HR.out _ c1 HC1.out hp2).mono ?_
          rintro e w3 ⟨A, m, rfl, hown, hp3, ho3⟩
          rw [more_more] at hp3
          replace hm := hm.put 0 rfl ho3 hp3.blk
          simp only [List.set_cons_zero, pcs, Pg.P.more] at hm
          have hn19 := hown.nrow
          rw [hll] at hn19 ⊢
          obtain ⟨b, o, rfl, hb, c16⟩ := hn19.at_ (k := 16) (by omega)
          have hrd : decide (p.count ≤ l.getD 16 0) = true := decide_eq_true hrc
          generalize l.getD 16 0 = y at *
          clear hn19 hown
          go_wp2_with (first | go_skip | ((with_reducible show wpList _ _ _ _ _ (World.alloc _ _)); refine wpList_up hm ?_; clear hm; intro n w hn hn2 hk hm hd hd2 ho; (try rw [← hn]); replace hn := Nat.le_of_eq hn.symm) | ((first | ((with_reducible show wpList _ _ _ (Oper.mk _ (Op.box _ _) _ _ _ _ :: _) _ _); (refine bxA hm ?_; clear hm; intro n w hn hz hm ho; (try simp only [List.cons_append, List.nil_append] at hm))) | ((with_reducible show wpList _ _ _ (Oper.mk _ (Op.load _ _) _ _ _ _ :: _) _ _); first | (refine ldA hm ?_) | (refine laA hm ?_)) | ((with_reducible show wpList _ _ _ (Oper.mk _ (Op.store _ _ _) _ _ _ _ :: _) _ _); (refine stA hm ?_; clear hm; intro w hz hm ho)) | ((with_reducible show wpList _ _ _ (Oper.mk _ (Op.alloc _) _ _ _ _ :: _) _ _); (refine alA hm ?_; clear hm; intro n w hn hz hm ho; (try simp only [List.cons_append, List.nil_append] at hm)))); try simp only [Act.put, sxQ]))
          refine wp_region_quiet_lit (by kernel_rfl) (by kernel_rfl) ?_
          repeat (first | go_big_quiet_skip | ((with_reducible show wpQuiet _ _ _ _ (Oper.mk _ (Op.load _ _) _ _ _ _ :: _) _); first | (refine wpQuiet_ldS (by rfl) _ _ rfl _ _ rfl hm _ _ (by repeat (first | apply In.a | apply In.b)) (by decide +kernel) _ (by simp only [sxN]; first | done | exact rfl) ?_; (try simp only [Act.put, sxQ]))) | go_big_quiet_step (fail))
          refine wpQuiet_nil ?_
          rintro _ ⟨nq, rfl⟩
          replace hm := hm.drewN nq
          go_wp2_with (first | go_skip | ((with_reducible show wpList _ _ _ _ _ (World.alloc _ _)); refine wpList_up hm ?_; clear hm; intro n w hn hn2 hk hm hd hd2 ho; (try rw [← hn]); replace hn := Nat.le_of_eq hn.symm) | ((first | ((with_reducible show wpList _ _ _ (Oper.mk _ (Op.box _ _) _ _ _ _ :: _) _ _); (refine bxA hm ?_; clear hm; intro n w hn hz hm ho; (try simp only [List.cons_append, List.nil_append] at hm))) | ((with_reducible show wpList _ _ _ (Oper.mk _ (Op.load _ _) _ _ _ _ :: _) _ _); first | (refine ldA hm ?_) | (refine laA hm ?_)) | ((with_reducible show wpList _ _ _ (Oper.mk _ (Op.store _ _ _) _ _ _ _ :: _) _ _); (refine stA hm ?_; clear hm; intro w hz hm ho)) | ((with_reducible show wpList _ _ _ (Oper.mk _ (Op.alloc _) _ _ _ _ :: _) _ _); (refine alA hm ?_; clear hm; intro n w hn hz hm ho; (try simp only [List.cons_append, List.nil_append] at hm)))); try simp only [Act.put, sxQ]))
          refine bodyPost_ret (results_cell_row rfl _ _ _ 82 _ (0, 0) _ rfl (by exact hm.at_ 1 rfl) Tryz.underlying82 rfl (by kernel_rfl)) rfl ?_
          exact ⟨rfl, (hp3.drewN nq).away ho (fun q hq e => by have := HH.out.lt q hq; omega), hm.only⟩
    · rw [if_neg hr]
      have hrk : ok2 = true ∧ l.getD 16 0 < p.count := by
        refine ⟨?_, by omega⟩
        cases ok2
        · exact absurd (.inl rfl) hr
        · rfl
      obtain ⟨rfl, hrc⟩ := hrk
      have hll := hrl rfl
      have ht : ∀ k, k < 19 → l.getD k 0 < 16777216 := fun k hk => hrt _ (by rw [List.getD, List.getElem?_eq_getElem (by omega)]; exact List.getElem_mem _)
      have h17 := ht 17 (by omega)
      have h18 := ht 18 (by omega)
      have hov := Lib.hid (or_version _ _ h17 h18)
      have HLL := Lib.hid hll
      generalize hy : l.getD 16 0 = y at *
      generalize hy1 : l.getD 17 0 = y1 at *
      generalize hy2 : l.getD 18 0 = y2 at *
      have HY := Lib.hid hy; have HY1 := Lib.hid hy1; have HY2 := Lib.hid hy2
      have hrd : decide (p.count ≤ y) = false := decide_eq_false (by omega)
      clear hr hrl hrt ht hll hy hy1 hy2 hrc
      rcases hcase with rfl | ⟨rfl, hx0⟩
      all_goals
        go_enter Tryz.func59, Tryz.ntmps59
        go_wp2_with (first | go_skip | ((with_reducible show wpList _ _ _ _ _ (World.alloc _ _)); refine wpList_up hm ?_; clear hm; intro n w hn hn2 hk hm hd hd2 ho; (try rw [← hn]); replace hn := Nat.le_of_eq hn.symm) | ((first | ((with_reducible show wpList _ _ _ (Oper.mk _ (Op.box _ _) _ _ _ _ :: _) _ _); (refine bxA hm ?_; clear hm; intro n w hn hz hm ho; (try simp only [List.cons_append, List.nil_append] at hm))) | ((with_reducible show wpList _ _ _ (Oper.mk _ (Op.load _ _) _ _ _ _ :: _) _ _); first | (refine ldA hm ?_) | (refine laA hm ?_)) | ((with_reducible show wpList _ _ _ (Oper.mk _ (Op.store _ _ _) _ _ _ _ :: _) _ _); (refine stA hm ?_; clear hm; intro w hz hm ho)) | ((with_reducible show wpList _ _ _ (Oper.mk _ (Op.alloc _) _ _ _ _ :: _) _ _); (refine alA hm ?_; clear hm; intro n w hn hz hm ho; (try simp only [List.cons_append, List.nil_append] at hm)))); try simp only [Act.put, sxQ]))
        go_at_call 73
        refine (HW.out _ (HH.out.below (hm.still 0 rfl HK.out))).mono ?_
        rintro e w2 ⟨rfl, hp2, ho2⟩
        replace hm := hm.put 0 rfl ho2 hp2.blk
        simp only [List.set_cons_zero, pcs, Pg.P.more] at hm
        go_wp2_with (first | go_skip | ((with_reducible show wpList _ _ _ _ _ (World.alloc _ _)); refine wpList_up hm ?_; clear hm; intro n w hn hn2 hk hm hd hd2 ho; (try rw [← hn]); replace hn := Nat.le_of_eq hn.symm) | ((first | ((with_reducible show wpList _ _ _ (Oper.mk _ (Op.box _ _) _ _ _ _ :: _) _ _); (refine bxA hm ?_; clear hm; intro n w hn hz hm ho; (try simp only [List.cons_append, List.nil_append] at hm))) | ((with_reducible show wpList _ _ _ (Oper.mk _ (Op.load _ _) _ _ _ _ :: _) _ _); first | (refine ldA hm ?_) | (refine laA hm ?_)) | ((with_reducible show wpList _ _ _ (Oper.mk _ (Op.store _ _ _) _ _ _ _ :: _) _ _); (refine stA hm ?_; clear hm; intro w hz hm ho)) | ((with_reducible show wpList _ _ _ (Oper.mk _ (Op.alloc _) _ _ _ _ :: _) _ _); (refine alA hm ?_; clear hm; intro n w hn hz hm ho; (try simp only [List.cons_append, List.nil_append] at hm)))); try simp only [Act.put, sxQ]))
        go_at_call 74
        refine (HR.out _ c1 HC1.out hp2).mono ?_
        rintro e w3 ⟨A, m, rfl, hown, hp3, ho3⟩
        rw [more_more] at hp3
        replace hm := hm.put 0 rfl ho3 hp3.blk
        simp only [List.set_cons_zero, pcs, Pg.P.more] at hm
        have hn19 := hown.nrow
        rw [HLL.out] at hn19 ⊢
        obtain ⟨b, o, rfl, hb, c16⟩ := hn19.at_ (k := 16) (by omega)
        obtain ⟨b', o', e', hb', c17⟩ := hn19.at_ (k := 17) (by omega)
        obtain ⟨rfl, rfl⟩ : b = b' ∧ o = o' := by simpa using e'
        clear e' hb'
        obtain ⟨b', o', e', hb', c18⟩ := hn19.at_ (k := 18) (by omega)
        obtain ⟨rfl, rfl⟩ : b = b' ∧ o = o' := by simpa using e'
        clear e' hb'
        rw [HY.out] at c16
        rw [HY1.out] at c17
        rw [HY2.out] at c18
        clear hn19 hown
        go_wp2_with (first | go_skip | ((with_reducible show wpList _ _ _ _ _ (World.alloc _ _)); refine wpList_up hm ?_; clear hm; intro n w hn hn2 hk hm hd hd2 ho; (try rw [← hn]); replace hn := Nat.le_of_eq hn.symm) | ((first | ((with_reducible show wpList _ _ _ (Oper.mk _ (Op.box _ _) _ _ _ _ :: _) _ _); (refine bxA hm ?_; clear hm; intro n w hn hz hm ho; (try simp only [List.cons_append, List.nil_append] at hm))) | ((with_reducible show wpList _ _ _ (Oper.mk _ (Op.load _ _) _ _ _ _ :: _) _ _); first | (refine ldA hm ?_) | (refine laA hm ?_)) | ((with_reducible show wpList _ _ _ (Oper.mk _ (Op.store _ _ _) _ _ _ _ :: _) _ _); (refine stA hm ?_; clear hm; intro w hz hm ho)) | ((with_reducible show wpList _ _ _ (Oper.mk _ (Op.alloc _) _ _ _ _ :: _) _ _); (refine alA hm ?_; clear hm; intro n w hn hz hm ho; (try simp only [List.cons_append, List.nil_append] at hm)))); try simp only [Act.put, sxQ]))
        refine wp_region_quiet_lit (by kernel_rfl) (by kernel_rfl) ?_
        repeat (first | go_big_quiet_skip | ((with_reducible show wpQuiet _ _ _ _ (Oper.mk _ (Op.load _ _) _ _ _ _ :: _) _); first | (refine wpQuiet_ldS (by rfl) _ _ rfl _ _ rfl hm _ _ (by repeat (first | apply In.a | apply In.b)) (by decide +kernel) _ (by simp only [sxN]; first | done | exact rfl) ?_; (try simp only [Act.put, sxQ]))) | go_big_quiet_step (fail))
        refine wpQuiet_nil ?_
        rintro _ ⟨nq, rfl⟩
        replace hm := hm.drewN nq
        go_wp2_with (first | go_skip | ((with_reducible show wpList _ _ _ _ _ (World.alloc _ _)); refine wpList_up hm ?_; clear hm; intro n w hn hn2 hk hm hd hd2 ho; (try rw [← hn]); replace hn := Nat.le_of_eq hn.symm) | ((first | ((with_reducible show wpList _ _ _ (Oper.mk _ (Op.box _ _) _ _ _ _ :: _) _ _); (refine bxA hm ?_; clear hm; intro n w hn hz hm ho; (try simp only [List.cons_append, List.nil_append] at hm))) | ((with_reducible show wpList _ _ _ (Oper.mk _ (Op.load _ _) _ _ _ _ :: _) _ _); first | (refine ldA hm ?_) | (refine laA hm ?_)) | ((with_reducible show wpList _ _ _ (Oper.mk _ (Op.store _ _ _) _ _ _ _ :: _) _ _); (refine stA hm ?_; clear hm; intro w hz hm ho)) | ((with_reducible show wpList _ _ _ (Oper.mk _ (Op.alloc _) _ _ _ _ :: _) _ _); (refine alA hm ?_; clear hm; intro n w hn hz hm ho; (try simp only [List.cons_append, List.nil_append] at hm)))); try simp only [Act.put, sxQ]))
        refine wp_region_quiet_tail 12 (by kernel_rfl) (by kernel_rfl) ?_
        simp only [List.take_succ_cons, List.take_zero]
        repeat (first | go_big_quiet_skip | ((with_reducible show wpQuiet _ _ _ _ (Oper.mk _ (Op.load _ _) _ _ _ _ :: _) _); first | (refine wpQuiet_ldS (by rfl) _ _ rfl _ _ rfl hm _ _ (by repeat (first | apply In.a | apply In.b)) (by decide +kernel) _ (by simp only [sxN]; first | done | exact rfl) ?_; (try simp only [Act.put, sxQ]))) | go_big_quiet_step (fail))
        refine wpQuiet_nil ?_
        rintro _ ⟨nq, rfl⟩
        simp only [List.drop_succ_cons, List.drop_zero]
        replace hm := hm.drewN nq
        go_wp2_with (first | go_skip | ((with_reducible show wpList _ _ _ _ _ (World.alloc _ _)); refine wpList_up hm ?_; clear hm; intro n w hn hn2 hk hm hd hd2 ho; (try rw [← hn]); replace hn := Nat.le_of_eq hn.symm) | ((first | ((with_reducible show wpList _ _ _ (Oper.mk _ (Op.box _ _) _ _ _ _ :: _) _ _); (refine bxA hm ?_; clear hm; intro n w hn hz hm ho; (try simp only [List.cons_append, List.nil_append] at hm))) | ((with_reducible show wpList _ _ _ (Oper.mk _ (Op.load _ _) _ _ _ _ :: _) _ _); first | (refine ldA hm ?_) | (refine laA hm ?_)) | ((with_reducible show wpList _ _ _ (Oper.mk _ (Op.store _ _ _) _ _ _ _ :: _) _ _); (refine stA hm ?_; clear hm; intro w hz hm ho)) | ((with_reducible show wpList _ _ _ (Oper.mk _ (Op.alloc _) _ _ _ _ :: _) _ _); (refine alA hm ?_; clear hm; intro n w hn hz hm ho; (try simp only [List.cons_append, List.nil_append] at hm)))); try simp only [Act.put, sxQ]))
        refine bodyPost_ret (results_cell_row rfl _ _ _ 82 _ (0, 0) _ rfl (by exact hm.at_ 1 rfl) Tryz.underlying82 rfl (by kernel_rfl)) rfl ?_
        refine ⟨?_, ((hp3.drewN _).drewN _).away ho (fun q hq e => by have := HH.out.lt q hq; omega), hm.only⟩
        rw [hov.out]
        rfl
end Go.Proofs.YtmhjddmamknglaaGreat
end

section
namespace Go.Proofs.YtmhjddmamknglaaGreat
set_option maxRecDepth 100000
set_option linter.unusedSimpArgs false
set_option linter.unusedVariables false
open Go.RowKit
set_option maxHeartbeats 8000000

theorem PAt.atc {w : World} {g : Nat} {G : Nat → Prop} {s : PgS} {p : Pg.P} (H : PAt w g G s p) {i : Nat} (hi : i < p.at_.length) : w.cell? ⟨s.A, i, none⟩ = some (.int .i64 (Pg.enc (p.at_.getD i none))) := by
  rw [H.at_.cell]; simp [ecells, List.getD, List.getElem?_append_left, hi, I64]
theorem PAt.holdc {w : World} {g : Nat} {G : Nat → Prop} {s : PgS} {p : Pg.P} (H : PAt w g G s p) {i : Nat} (hi : i < p.holds.length) : w.cell? ⟨s.Ho, i, none⟩ = some (.int .i64 (Pg.enc (p.holds.getD i none))) := by
  rw [H.holds.cell]; simp [ecells, List.getD, List.getElem?_append_left, hi, I64]
/-- Bytes, and an error; only the count of fixed words turns. -/
def CtRes (w : World) (g : Nat) (G : Nat → Prop) (s : PgS) (p : Pg.P) (bs : List UInt8) (er : Int) (c : Nat) (e : Ending) (w' : World) : Prop :=
  ∃ A m, e = .returned (.tuple #[.slice A bs.length m, .int .i64 er]) ∧ Own w' w.heap.size 5 1 A bs.length m (bcells bs) ∧ PAt w' g G s (p.more c) ∧ Only (fun q => q = g) w w'
theorem three_cells (d : Nat) (h : d < 16777216) : #[Value.int .u8 ((d : Int) / 65536), .int .u8 ((d : Int) / 256 % 256), .int .u8 ((d : Int) % 256)].toList = bcells (Pg.three d) := by
  simp [bcells, Pg.three, B8]
  omega
theorem u8_inf : (Tryz.prog.info? 5).map (fun i => (i.zero, i.size, i.bytes)) = some (some (.int .u8 0), 1, 1) := by kernel_rfl
theorem enc_some (f : Nat) : Pg.enc (some f) = (f : Int) := rfl
theorem flat_take (l : List Nat) (k : Nat) (hk : k < l.length) : (l.take (k + 1)).flatMap Pg.three = (l.take k).flatMap Pg.three ++ Pg.three (l.getD k 0) := by
  have e : l.getD k 0 = l[k] := by simp [List.getD, List.getElem?_eq_getElem hk]
  rw [List.take_succ_eq_append_getElem hk, e, List.flatMap_append]
  congr 1
theorem flat_length (l : List Nat) : (l.flatMap Pg.three).length = 3 * l.length := by
  induction l with
  | nil => rfl
  | cons x l ih => rw [List.flatMap_cons, List.length_append, ih]; simp [Pg.three]; omega
theorem page_content {w0 : World} {g : Nat} {G : Nat → Prop} {s : PgS} {p : Pg.P} (H : PAt w0 g G s p) (i : Nat) (hi : i < p.at_.length) (hf : ∀ f, p.at_.getD i none = some f → f < 100000000) (hfx : p.fixed + 20 < 4611686018427387904) :
    Calls Tryz.prog 64 #[.pointer (some ⟨g, 0, none⟩), .int .i64 (i : Int)] w0 (CtRes w0 g G s p (p.content i).1 (p.content i).2.1 (p.content i).2.2) := by
  obtain ⟨ti, hi0, hz0, hz1, hz2⟩ := info_parts u8_inf
  have hm : Mem (fun q => q = g) w0 w0 [⟨g, _, _⟩] [] := Mem.one H.blk rfl
  have HK := Lib.hid H.blk
  have HH := Lib.hid H
  have m48 : ∀ u : World, (Instr.makeSlice 33 (.int .i64 0) (.int .i64 48)).run Tryz.prog u = .ok (.slice (some ⟨u.heap.size, 0, none⟩) 0 48) (u.alloc (.cells (zc 48) 5)) := fun _ => by kernel_rfl
  have hg : g < w0.heap.size := H.lt g (H.hg g (by simp))
  clear H
  simp only [pcs] at hm HK
  cases ha : p.at_.getD i none with
  | none =>
    have e1 : p.content i = (Pg.zero48, 0, 0) := by unfold Pg.P.content; rw [ha]
    rw [e1]
    have HA := Lib.hid ha
    have HI := Lib.hid hi
    have i0 : (i : Int) < (p.at_.length : Int) := by omega
    have CA := Lib.hid (fun (u : World) (h : PAt u g G s p) => show u.cell? ⟨s.A, i, none⟩ = some (.int .i64 (-1)) by have := h.atc hi; rwa [ha] at this)
    clear e1 ha hf hi
    go_enter Tryz.func64, Tryz.ntmps64
    go_wp2_with (first | go_skip | ((with_reducible show wpList _ _ _ _ _ (World.alloc _ _)); refine wpList_up hm ?_; clear hm; intro n w hn hn2 hk hm hd hd2 ho; (try rw [← hn]); replace hn := Nat.le_of_eq hn.symm) | ((first | ((with_reducible show wpList _ _ _ (Oper.mk _ (Op.box _ _) _ _ _ _ :: _) _ _); (refine bxA hm ?_; clear hm; intro n w hn hz hm ho; (try simp only [List.cons_append, List.nil_append] at hm))) | ((with_reducible show wpList _ _ _ (Oper.mk _ (Op.load _ _) _ _ _ _ :: _) _ _); first | (refine ldA hm ?_) | (refine laA hm ?_)) | ((with_reducible show wpList _ _ _ (Oper.mk _ (Op.store _ _ _) _ _ _ _ :: _) _ _); (refine stA hm ?_; clear hm; intro w hz hm ho)) | ((with_reducible show wpList _ _ _ (Oper.mk _ (Op.alloc _) _ _ _ _ :: _) _ _); (refine alA hm ?_; clear hm; intro n w hn hz hm ho; (try simp only [List.cons_append, List.nil_append] at hm)))); try simp only [Act.put, sxQ]) | ((with_reducible show wpList _ _ _ (Oper.mk _ (Op.load _ _) _ _ _ _ :: _) _ _); refine wpList_lc (by rfl) _ _ rfl _ rfl (by decide +kernel) _ (CA.out _ (HH.out.below (hm.still 0 rfl HK.out))) ?_; (try simp only [Act.put, sxQ])))
    go_ret2
    refine ⟨some ⟨n, 0, none⟩, 48, rfl, ?_, HH.out.below (hm.still 0 rfl HK.out), hm.only⟩
    have h48 := Own.blk (s := 1) (n := 48) (c := 48) hk hn (by omega) (by unfold maxLen; omega) (by simp [zc, bcells, zs]) (by simp [zc, bcells, zs])
    rwa [show ((zc 48).toList.take (48 * 1)) = bcells Pg.zero48 by rw [List.take_of_length_le (by simp [zc, bcells, zs])]; rfl] at h48
  | some f =>
    have hf1 := hf f ha
    have e1 : p.content i = if (Pg.read p.m f).2.1 then (((Pg.read p.m f).1.take 16).flatMap Pg.three, 0, (Pg.read p.m f).2.2) else ([], p.failure, (Pg.read p.m f).2.2) := by unfold Pg.P.content; rw [ha]
    have HR := Lib.hid (fun (u : World) (h : PAt u g G s p) => page_read h f hf1 hfx)
    have hrl := Lib.hid (@read_length p.m f)
    have hrt := Lib.hid (read_lt p.m f)
    rw [e1]
    have HA := Lib.hid ha
    have HI := Lib.hid hi
    have i0 : (i : Int) < (p.at_.length : Int) := by omega
    have hfn : ((f : Int) == -1) = false := by rw [beq_eq_false_iff_ne]; omega
    have CA := Lib.hid (fun (u : World) (h : PAt u g G s p) => show u.cell? ⟨s.A, i, none⟩ = some (.int .i64 (f : Int)) by have := h.atc hi; rwa [ha] at this)
    clear e1 ha hf hi hfx
    generalize hRe : Pg.read p.m f = R at *
    obtain ⟨l, ok, c⟩ := R
    dsimp only at *
    clear hRe
    cases ok with
    | false =>
      have HF := Lib.hid (fun (u : World) (h : PAt u g G s (p.more c)) => page_failure h)
      rw [if_neg (by decide)]
      go_enter Tryz.func64, Tryz.ntmps64
      go_wp2_with (first | go_skip | ((with_reducible show wpList _ _ _ _ _ (World.alloc _ _)); refine wpList_up hm ?_; clear hm; intro n w hn hn2 hk hm hd hd2 ho; (try rw [← hn]); replace hn := Nat.le_of_eq hn.symm) | ((first | ((with_reducible show wpList _ _ _ (Oper.mk _ (Op.box _ _) _ _ _ _ :: _) _ _); (refine bxA hm ?_; clear hm; intro n w hn hz hm ho; (try simp only [List.cons_append, List.nil_append] at hm))) | ((with_reducible show wpList _ _ _ (Oper.mk _ (Op.load _ _) _ _ _ _ :: _) _ _); first | (refine ldA hm ?_) | (refine laA hm ?_)) | ((with_reducible show wpList _ _ _ (Oper.mk _ (Op.store _ _ _) _ _ _ _ :: _) _ _); (refine stA hm ?_; clear hm; intro w hz hm ho)) | ((with_reducible show wpList _ _ _ (Oper.mk _ (Op.alloc _) _ _ _ _ :: _) _ _); (refine alA hm ?_; clear hm; intro n w hn hz hm ho; (try simp only [List.cons_append, List.nil_append] at hm)))); try simp only [Act.put, sxQ]) | ((with_reducible show wpList _ _ _ (Oper.mk _ (Op.load _ _) _ _ _ _ :: _) _ _); refine wpList_lc (by rfl) _ _ rfl _ rfl (by decide +kernel) _ (CA.out _ (HH.out.below (hm.still 0 rfl HK.out))) ?_; (try simp only [Act.put, sxQ])))
      go_at_call 74
      refine (HR.out _ (HH.out.below (hm.still 0 rfl HK.out))).mono ?_
      rintro e w3 ⟨A, m, rfl, hown, hp3, ho3⟩
      go_wp2_with fail
      go_at_call 42
      refine (HF.out _ hp3).mono ?_
      rintro e w4 ⟨rfl, hb4⟩
      go_wp2_with fail
      go_ret2
      exact ⟨none, 0, rfl, Own.none_ _ _ _ _ _, hp3.below hb4, (hm.only.trans ho3).trans (Only.of_below hb4)⟩
    | true =>
      rw [if_pos rfl]
      have hll := hrl.out rfl
      go_enter Tryz.func64, Tryz.ntmps64
      go_wp2_with (first | go_skip | ((with_reducible show wpList _ _ _ _ _ (World.alloc _ _)); refine wpList_up hm ?_; clear hm; intro n w hn hn2 hk hm hd hd2 ho; (try rw [← hn]); replace hn := Nat.le_of_eq hn.symm) | ((first | ((with_reducible show wpList _ _ _ (Oper.mk _ (Op.box _ _) _ _ _ _ :: _) _ _); (refine bxA hm ?_; clear hm; intro n w hn hz hm ho; (try simp only [List.cons_append, List.nil_append] at hm))) | ((with_reducible show wpList _ _ _ (Oper.mk _ (Op.load _ _) _ _ _ _ :: _) _ _); first | (refine ldA hm ?_) | (refine laA hm ?_)) | ((with_reducible show wpList _ _ _ (Oper.mk _ (Op.store _ _ _) _ _ _ _ :: _) _ _); (refine stA hm ?_; clear hm; intro w hz hm ho)) | ((with_reducible show wpList _ _ _ (Oper.mk _ (Op.alloc _) _ _ _ _ :: _) _ _); (refine alA hm ?_; clear hm; intro n w hn hz hm ho; (try simp only [List.cons_append, List.nil_append] at hm)))); try simp only [Act.put, sxQ]) | ((with_reducible show wpList _ _ _ (Oper.mk _ (Op.load _ _) _ _ _ _ :: _) _ _); refine wpList_lc (by rfl) _ _ rfl _ rfl (by decide +kernel) _ (CA.out _ (HH.out.below (hm.still 0 rfl HK.out))) ?_; (try simp only [Act.put, sxQ])))
      go_at_call 74
      refine (HR.out _ (HH.out.below (hm.still 0 rfl HK.out))).mono ?_
      rintro e w3 ⟨A, m, rfl, hown, hp3, ho3⟩
      have hz := hm.only.size
      have h0 : Own w 0 5 1 (some ⟨n, 0, none⟩) 0 48 [] := Own.blk (s := 1) (n := 0) (c := 48) hk (Nat.zero_le _) (by omega) (by unfold maxLen; omega) (by simp [zc, bcells, zs]) (by simp)
      replace hm := hm.more (x := ⟨5, 1, some ⟨n, 0, none⟩, 0, 48, []⟩) h0 (fun q e => .inr (by cases e; exact hn)) (fun e he e1 => hd e he (by cases e1; rfl)) (fun y hy => by cases hy)
      replace hm := hm.put 0 rfl ho3 hp3.blk
      rw [hll] at hown ⊢
      replace hm := hm.more (x := ⟨3, 1, A, 19, m, ncells l⟩) (hown.mono (Nat.zero_le _)) (fun q e => .inr (Nat.le_trans hz (hown.lt q e).1)) (fun e he e1 => by
        obtain rfl := List.mem_singleton.1 he
        have := (hown.lt _ e1).1; have := hm.only.size; dsimp only at *; omega) (fun y hy q e e1 => by
        obtain rfl := List.mem_singleton.1 hy
        have := (hown.lt _ e1).1; cases e; have := hk.lt; dsimp only at *; omega)
      simp only [List.set_cons_zero, List.nil_append, List.cons_append] at hm
      have hmm := hown.le
      have HL := Lib.hid hll
      have HP := Lib.hid hp3
      clear hown hll hp3 h0 hd hd2 hk ho
      go_wp2_with fail
      go_loopg [6, 41] 16 (fun g2 v i wr => ∃ (k : Nat) (A2 : Option Addr) (c2 : Nat), k + g2 = 16 ∧ i = .int .i64 k ∧ v = .slice A2 (3 * k) c2 ∧ Mem (fun q => q = g) w0 wr [⟨g, 66, pcs s (p.more c)⟩] [⟨5, 1, A2, 3 * k, c2, bcells ((l.take k).flatMap Pg.three)⟩, ⟨3, 1, A, 19, m, ncells l⟩] ∧ Only (fun q => w0.heap.size ≤ q) w3 wr)
      case atStart => exact ⟨0, some ⟨n, 0, none⟩, 48, by omega, rfl, rfl, hm, Only.refl _ _⟩
      case round =>
        clear hm
        obtain ⟨k, A2, c2, hkg, rfl, rfl, hm, ho7⟩ := hrel
        cases gk with
        | zero =>
          obtain rfl : k = 16 := by omega
          go_wp2_with fail
          go_ret2
          have h48 : ((l.take 16).flatMap Pg.three).length = 48 := by rw [flat_length, List.length_take, HL.out]; rfl
          refine ⟨A2, c2, by rw [h48]; rfl, ?_, HP.out.away ho7 (fun q hq h2 => by have := HH.out.lt q hq; omega), hm.only⟩
          rw [h48]
          exact hm.freshG 0 0 rfl rfl
        | succ g2 =>
          have hown1 : ∀ q, ownAt A2 c2 = some q → w0.heap.size ≤ q := fun q e => ((hm.freshG 0 0 rfl rfl).lt q e).1
          have i1 : (k : Int) < 16 := by omega
          have p0 : (0 : Int) ≤ (k : Int) := by omega
          obtain ⟨b, o, rfl, hb, ck⟩ := (hm.sl_ 1 rfl).nrow.at_ (k := k) (show k < 19 by omega)
          have hxl := hrt.out (l.getD k 0) (by rw [List.getD, List.getElem?_eq_getElem (by rw [HL.out]; omega)]; exact List.getElem_mem _)
          have HT := Lib.hid (flat_take l k (by rw [HL.out]; omega))
          generalize l.getD k 0 = x at *
          have hc3 := Lib.hid (three_cells x hxl)
          go_wp2_with (first | go_skip | ((with_reducible show wpList _ _ _ _ _ (World.alloc _ _)); refine wpList_up hm ?_; clear hm; intro n w hn hn2 hk hm hd hd2 ho; (try rw [← hn]); replace hn := Nat.le_of_eq hn.symm) | ((first | ((with_reducible show wpList _ _ _ (Oper.mk _ (Op.box _ _) _ _ _ _ :: _) _ _); (refine bxA hm ?_; clear hm; intro n w hn hz hm ho; (try simp only [List.cons_append, List.nil_append] at hm))) | ((with_reducible show wpList _ _ _ (Oper.mk _ (Op.load _ _) _ _ _ _ :: _) _ _); first | (refine ldA hm ?_) | (refine laA hm ?_)) | ((with_reducible show wpList _ _ _ (Oper.mk _ (Op.store _ _ _) _ _ _ _ :: _) _ _); (refine stA hm ?_; clear hm; intro w hz hm ho)) | ((with_reducible show wpList _ _ _ (Oper.mk _ (Op.alloc _) _ _ _ _ :: _) _ _); (refine alA hm ?_; clear hm; intro n w hn hz hm ho; (try simp only [List.cons_append, List.nil_append] at hm)))); try simp only [Act.put, sxQ]) | (at_builtin; refine wpList_ap (by rfl) (.tmp 45) (.tmp 54) 33 rfl 5 ti _ 1 1 Tryz.underlying33 hi0 hz0 hz1 hz2 rfl (by omega) A2 (3 * k) c2 _ rfl hm 0 rfl _ (some ⟨_, 0, none⟩) 3 3 (bcells (Pg.three x)) rfl (by have := hk.row; rw [hc3.out] at this; exact this) (by simp [Pg.three]) (bcells_one _) (by unfold maxLen; omega) (by omega) ?_; clear hm; intro A3 c3 w hm ho9 hat; (try simp only [Act.put, sxQ])))
          go_roundg g2
          case measure => omega
          case rel =>
            simp only [List.set_cons_zero] at hm
            refine ⟨k + 1, A3, c3, by omega, by go_num, rfl, by rw [HT.out, bcells_append]; exact hm, ?_⟩
            exact (ho7.trans (Only.of_below ho)).trans (ho9.mono fun q _ e => hown1 q e)
theorem page_Read {w0 : World} {g : Nat} {G : Nat → Prop} {s : PgS} {p : Pg.P} (H : PAt w0 g G s p) (i : Int) (hc : p.at_.length = p.count) (hf : ∀ k f, p.at_.getD k none = some f → f < 100000000) (hfx : p.fixed + 20 < 4611686018427387904) :
    Calls Tryz.prog 44 #[.pointer (some ⟨g, 0, none⟩), .int .i64 i] w0 fun e w' =>
      ∃ A m, e = .returned (.tuple #[.slice A (p.read i).2.1.length m, .int .i64 (p.read i).2.2]) ∧ Own w' w0.heap.size 5 1 A (p.read i).2.1.length m (bcells (p.read i).2.1) ∧ PAt w' g G s (p.read i).1 ∧ Only (fun q => q = g) w0 w' := by
  have HM := Lib.hid (fun (u : World) (h : PAt u g G s p) => page_made h)
  have HA := Lib.hid (fun (u : World) (h : PAt u g G s p) => page_access h i)
  have HH := Lib.hid H
  have e1 : p.read i = if p.access i ≠ 0 then (p, [], p.access i) else (p.more (p.content i.toNat).2.2, (p.content i.toNat).1, (p.content i.toNat).2.1) := rfl
  by_cases ha : p.access i = 0
  · rw [if_neg (by rw [ha]; decide)] at e1
    rw [e1, ]
    have hi : 0 ≤ i ∧ i < p.count := by
      unfold Pg.P.access at ha
      split at ha
      · cases ha
      · split at ha
        · cases ha
        · rename_i h; omega
    obtain ⟨k, rfl⟩ := Int.eq_ofNat_of_zero_le hi.1
    have HC := Lib.hid (fun (u : World) (h : PAt u g G s p) => page_content h k (by omega) (hf k) hfx)
    rw [Int.toNat_natCast]
    rw [ha] at HA
    clear e1 hi ha hf hfx hc H
    go_enter Tryz.func44, Tryz.ntmps44
    go_wp2_with fail
    go_at_call 25
    refine (HM.out _ HH.out).mono ?_
    rintro e w1 ⟨rfl, hb1⟩
    go_wp2_with fail
    go_at_call 63
    refine (HA.out _ (HH.out.below hb1)).mono ?_
    rintro e w2 ⟨rfl, hb2⟩
    go_wp2_with fail
    go_at_call 64
    refine (HC.out _ ((HH.out.below hb1).below hb2)).mono ?_
    rintro e w3 ⟨A, m, rfl, hown, hp3, ho3⟩
    go_wp2_with fail
    go_ret2
    have hb := hb1.trans (hb2.mono hb1.size)
    exact ⟨A, m, rfl, hown.mono hb.size, hp3, (Only.of_below hb).trans ho3⟩
  · rw [if_pos ha] at e1
    rw [e1]
    have hz : (p.access i != 0) = true := by simpa using ha
    generalize p.access i = z at *
    clear e1 ha hf hfx hc H
    go_enter Tryz.func44, Tryz.ntmps44
    go_wp2_with fail
    go_at_call 25
    refine (HM.out _ HH.out).mono ?_
    rintro e w1 ⟨rfl, hb1⟩
    go_wp2_with fail
    go_at_call 63
    refine (HA.out _ (HH.out.below hb1)).mono ?_
    rintro e w2 ⟨rfl, hb2⟩
    go_wp2_with fail
    go_ret2
    have hb := hb1.trans (hb2.mono hb1.size)
    exact ⟨none, 0, rfl, Own.none_ _ _ _ _ _, HH.out.below hb, Only.of_below hb⟩
end Go.Proofs.YtmhjddmamknglaaGreat
end
