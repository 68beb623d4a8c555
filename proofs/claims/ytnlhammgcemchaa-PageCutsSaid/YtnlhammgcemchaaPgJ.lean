/-
  Pages that live: what Read, Write and Open do to the bytes of the pages. Plain.
-/
import Derived.Test.YtnlhammgcemchaaPgI
namespace Go.Proofs.Ytnlhammgcemchaa.Pg
set_option maxRecDepth 100000
set_option linter.unusedSimpArgs false
set_option linter.unusedVariables false
open Go.Proofs.Ytnlhammgcemchaa

/-- One write: the power lasts, or is cut. -/
theorem write_run {m : Cel.Mem} {a : Nat} {K : Int} (ho : m.off = false) (ha : a < m.words.length) (hf : Cel.Fine K m) (h0 : 0 ≤ K) (hK : K + 1 ≤ m.endurance) (v : UInt32) :
    (∃ m', m.write (a : Nat) v = (m', 0) ∧ m'.words = m.words.set a v ∧ m'.off = false ∧ m'.endurance = m.endurance ∧ m'.cuts = m.cuts ∧ m'.writes = m.writes + 1 ∧ m'.wear = m.wear.set a (m.wear.getD a 0 + 1) ∧ (m.pending = false → m'.pending = false)) ∨
      (m.pending = true ∧ m.write (a : Nat) v = (m.down, 7)) := by
  have hacc : m.access (a : Int) = 0 := (Cel.Mem.access_zero m _).2 ⟨ho, (Cel.Mem.has_iff m _).2 ⟨by omega, by omega⟩⟩
  by_cases hp : m.pending = true ∧ m.left = 0
  · exact .inr ⟨hp.1, Cel.Mem.write_cut m _ v hacc hp.1 hp.2⟩
  · have hg := hf.getD h0 a
    have ht : m.tick.words = m.words ∧ m.tick.off = m.off ∧ m.tick.endurance = m.endurance ∧ m.tick.cuts = m.cuts ∧ m.tick.writes = m.writes ∧ m.tick.wear = m.wear ∧ m.tick.pending = m.pending := by
      unfold Cel.Mem.tick; split <;> exact ⟨rfl, rfl, rfl, rfl, rfl, rfl, rfl⟩
    obtain ⟨t1, t2, t3, t4, t5, t6, t7⟩ := ht
    refine .inl ⟨m.tick.put a v, ?_, ?_, ?_, ?_, ?_, ?_, ?_, ?_⟩
    · rw [Cel.Mem.write_yes m _ v hacc hp, Int.toNat_natCast]
    · unfold Cel.Mem.put
      simp only
      rw [t6, t3, if_neg (by omega), t1]
    · show m.tick.off = false
      rw [t2]; exact ho
    · exact t3
    · exact t4
    · show m.tick.writes + 1 = _
      rw [t5]
    · show m.tick.wear.set a _ = _
      rw [t6]
    · intro h
      show m.tick.pending = false
      rw [t7]; exact h
def wearK (f : Nat) : List (Nat × Nat) → List Int → List Int
  | [], ws => ws
  | x :: l, ws => wearK f l (ws.set (f * 20 + x.1) (ws.getD (f * 20 + x.1) 0 + 1))
structure Wrote (f : Nat) (l : List (Nat × Nat)) (m m' : Cel.Mem) (K : Int) : Prop where
  words : m'.words = putw f l m.words
  off : m'.off = false
  endu : m'.endurance = m.endurance
  cuts : m'.cuts = m.cuts
  writes : m'.writes = m.writes + l.length
  wear : m'.wear = wearK f l m.wear
  pend : m.pending = false → m'.pending = false
  fine : Cel.Fine (K + l.length) m'
structure Broke (f : Nat) (l : List (Nat × Nat)) (m m' : Cel.Mem) (K : Int) : Prop where
  words : ∃ k, k < l.length ∧ m'.words = putw f (l.take k) m.words
  off : m'.off = true
  endu : m'.endurance = m.endurance
  cuts : m'.cuts = m.cuts + 1
  fine : Cel.Fine (K + l.length) m'
  wl : m'.wear.length = m.wear.length
  pend : m.pending = true
theorem put_run (f : Nat) (l : List (Nat × Nat)) : ∀ (m : Cel.Mem) (K : Int), m.off = false → (∀ x ∈ l, x.1 < 20) → f * 20 + 20 ≤ m.words.length → Cel.Fine K m → 0 ≤ K → K + l.length ≤ m.endurance →
    (∃ m', put f l m = (m', 0) ∧ Wrote f l m m' K) ∨ (∃ m', put f l m = (m', 7) ∧ Broke f l m m' K) := by
  induction l with
  | nil => exact fun m K ho _ _ hf _ _ => .inl ⟨m, rfl, ⟨rfl, ho, rfl, rfl, by simp, rfl, id, by simpa using hf⟩⟩
  | cons x l ih =>
    intro m K ho hx hl hf h0 hK
    have hx1 := hx x List.mem_cons_self
    simp only [List.length_cons] at hK
    have hfw := hf.write h0 ((f * 20 + x.1 : Nat) : Int) (UInt32.ofNat (Ecc.code x.2))
    have e1 : put f (x :: l) m = if (m.write (f * 20 + x.1 : Nat) (UInt32.ofNat (Ecc.code x.2))).2 ≠ 0 then m.write (f * 20 + x.1 : Nat) (UInt32.ofNat (Ecc.code x.2)) else put f l (m.write (f * 20 + x.1 : Nat) (UInt32.ofNat (Ecc.code x.2))).1 := rfl
    rcases write_run (a := f * 20 + x.1) ho (by omega) hf h0 (by omega) (UInt32.ofNat (Ecc.code x.2)) with ⟨m1, hw, a1, a2, a3, a4, a5, a6, a7⟩ | ⟨hp, hw⟩
    · rw [hw] at hfw e1
      rw [if_neg (by simp)] at e1
      rw [e1]
      rcases ih m1 (K + 1) a2 (fun y hy => hx y (List.mem_cons_of_mem _ hy)) (by rw [a1, List.length_set]; exact hl) hfw (by omega) (by rw [a3]; omega) with ⟨m2, h1, h2⟩ | ⟨m2, h1, h2⟩
      · refine .inl ⟨m2, h1, ⟨?_, h2.off, h2.endu.trans a3, h2.cuts.trans a4, ?_, ?_, fun hp => h2.pend (a7 hp), h2.fine.mono (by simp only [List.length_cons]; omega)⟩⟩
        · rw [h2.words, a1]; rfl
        · rw [h2.writes, a5]; simp only [List.length_cons]; omega
        · rw [h2.wear, a6]; rfl
      · obtain ⟨k, hk, hk2⟩ := h2.words
        refine .inr ⟨m2, h1, ⟨⟨k + 1, by simp only [List.length_cons]; omega, ?_⟩, h2.off, h2.endu.trans a3, by rw [h2.cuts, a4], h2.fine.mono (by simp only [List.length_cons]; omega), by rw [h2.wl, a6, List.length_set], ?_⟩⟩
        · rw [hk2, a1]; rfl
        · cases hpd : m.pending with
          | true => rfl
          | false => have := h2.pend; rw [a7 hpd] at this; cases this
    · rw [hw] at hfw e1
      rw [if_pos (by simp)] at e1
      refine .inr ⟨m.down, e1, ⟨⟨0, by simp, rfl⟩, rfl, rfl, rfl, hfw.mono (by simp only [List.length_cons]; omega), rfl, hp⟩⟩
/-- Of each page the newest frame says the bytes. -/
structure Disk (ws : Ws) (fr : Fs) (st : List (List UInt8)) (K : Nat) : Prop where
  shows : WShows ws fr (ws.length / 20)
  ok : FsOk fr (ws.length / 24) (ws.length / 20) K
  len : st.length = ws.length / 24
  none_ : ∀ i, i < ws.length / 24 → (∀ f, f < ws.length / 20 → ∀ x, fr f = some x → x.page ≠ i) → st.getD i [] = zero48
  some_ : ∀ i, i < ws.length / 24 → ∀ f, f < ws.length / 20 → ∀ x, fr f = some x → x.page = i → (∀ g, g < ws.length / 20 → ∀ y, fr g = some y → y.page = i → y.ver ≤ x.ver) → st.getD i [] = x.data
theorem Disk.mono {ws : Ws} {fr : Fs} {st : List (List UInt8)} {K K' : Nat} (h : Disk ws fr st K) (hK : K ≤ K') : Disk ws fr st K' := { h with ok := h.ok.mono hK }
theorem Disk.of_cur {ws : Ws} {fr : Fs} {st : List (List UInt8)} {K v count frames : Nat} {at_ holds : List (Option Nat)} (hs : WShows ws fr frames) (ho : FsOk fr count frames K) (hc : Cur fr count frames frames at_ holds v) (hl : st.length = count)
    (e1 : count = ws.length / 24) (e2 : frames = ws.length / 20) (h0 : ∀ i, i < count → at_.getD i none = none → st.getD i [] = zero48) (h1 : ∀ i, i < count → ∀ f x, at_.getD i none = some f → fr f = some x → st.getD i [] = x.data) : Disk ws fr st K := by
  subst e1; subst e2
  refine { shows := hs, ok := ho, len := hl, none_ := fun i hi hn => ?_, some_ := fun i hi f hf x hx hp hm => ?_ }
  · cases e : at_.getD i none with
    | none => exact h0 i hi e
    | some f =>
      obtain ⟨a, x, b, c, _⟩ := hc.some_ i hi f e
      exact absurd c (hn f a x b)
  · cases e : at_.getD i none with
    | none => exact absurd hp (hc.none_ i hi e f hf x hx)
    | some g =>
      obtain ⟨a, y, b, c, d⟩ := hc.some_ i hi g e
      have h3 := hm g a y b c
      have h4 := d f hf x hx hp
      obtain rfl := ho.diff f hf g a x y hx b (by omega)
      rw [b] at hx; cases hx
      exact h1 i hi _ _ e b
structure Inv (fr : Fs) (p : P) (st : List (List UInt8)) : Prop where
  disk : Disk p.m.words fr st p.version
  cnt : p.count = p.m.words.length / 24
  fms : p.frames = p.m.words.length / 20
  cur : Cur fr p.count p.frames p.frames p.at_ p.holds p.version
  fnd : p.freed.Nodup
  fmem : ∀ f, f ∈ p.freed ↔ f < p.frames ∧ p.holds.getD f none = none
  turn : p.turn < p.frames
section
variable {fr : Fs} {p : P} {st : List (List UInt8)} {i f : Nat}
theorem Inv.data_none (h : Inv fr p st) (hi : i < p.count) (e : p.at_.getD i none = none) : st.getD i [] = zero48 :=
  h.disk.none_ i (h.cnt ▸ hi) (fun f hf x hx => h.cur.none_ i hi e f (h.fms ▸ hf) x hx)
theorem Inv.data_some (h : Inv fr p st) (hi : i < p.count) (e : p.at_.getD i none = some f) : f < p.frames ∧ ∃ x, fr f = some x ∧ x.page = i ∧ x.data.length = 48 ∧ st.getD i [] = x.data := by
  obtain ⟨a, x, b, c, d⟩ := h.cur.some_ i hi f e
  exact ⟨a, x, b, c, (h.disk.ok.ok f (h.fms ▸ a) x b).2.1, h.disk.some_ i (h.cnt ▸ hi) f (h.fms ▸ a) x b c (fun g hg y hy hp => d g (h.fms ▸ hg) y hy hp)⟩
end
theorem sub_length : ∀ (l l' : List Nat), l.Nodup → (∀ x ∈ l, x ∈ l') → l.length ≤ l'.length := by
  intro l
  induction l with
  | nil => intro l' _ _; simp
  | cons a l ih =>
    intro l' hn hs
    rw [List.nodup_cons] at hn
    have ha := hs a List.mem_cons_self
    have := ih (l'.erase a) hn.2 (fun x hx => (List.mem_erase_of_ne (fun e => hn.1 (by rw [← e]; exact hx))).2 (hs x (List.mem_cons_of_mem _ hx)))
    rw [List.length_erase_of_mem ha] at this
    have := List.length_pos_of_mem ha
    simp only [List.length_cons]
    omega
theorem sub_map {α : Type} (g : Nat → α) (l : List Nat) (hn : l.Nodup) (hi : ∀ x ∈ l, ∀ y ∈ l, g x = g y → x = y) : (l.map g).Nodup := by
  induction l with
  | nil => exact List.nodup_nil
  | cons a l ih =>
    rw [List.nodup_cons] at hn
    rw [List.map_cons, List.nodup_cons]
    refine ⟨fun hm => ?_, ih hn.2 (fun x hx y hy => hi x (List.mem_cons_of_mem _ hx) y (List.mem_cons_of_mem _ hy))⟩
    obtain ⟨b, hb, e⟩ := List.mem_map.1 hm
    exact hn.1 (hi a List.mem_cons_self b (List.mem_cons_of_mem _ hb) e.symm ▸ hb)
theorem Inv.count_freed {fr : Fs} {p : P} {st : List (List UInt8)} (h : Inv fr p st) : p.frames ≤ p.freed.length + p.count ∧ p.freed.length ≤ p.frames := by
  have hr : ∀ n, (List.range n).Nodup := fun n => List.nodup_range
  refine ⟨?_, ?_⟩
  · let held := (List.range p.frames).filter fun f => (p.holds.getD f none).isSome
    have h1 : p.frames ≤ (p.freed ++ held).length := by
      have := sub_length (List.range p.frames) (p.freed ++ held) (hr _) (fun x hx => by
        rw [List.mem_append, h.fmem, List.mem_filter]
        have := List.mem_range.1 hx
        cases e : p.holds.getD x none with
        | none => exact .inl ⟨this, rfl⟩
        | some i => exact .inr ⟨hx, rfl⟩)
      rwa [List.length_range] at this
    have h2 : held.length ≤ p.count := by
      have hin : ∀ x ∈ held, ∃ i, p.holds.getD x none = some i ∧ i < p.count ∧ p.at_.getD i none = some x := fun x hx => by
        obtain ⟨a, b⟩ := List.mem_filter.1 hx
        obtain ⟨i, hi⟩ := Option.isSome_iff_exists.1 b
        exact ⟨i, hi, (h.cur.held x (List.mem_range.1 a) i).1 hi⟩
      have hm := sub_map (fun f => (p.holds.getD f none).getD 0) held ((hr _).filter _) (fun x hx y hy e => by
        obtain ⟨i, a1, _, a3⟩ := hin x hx
        obtain ⟨j, b1, _, b3⟩ := hin y hy
        simp only [a1, b1, Option.getD_some] at e
        subst e
        rw [a3] at b3; cases b3; rfl)
      have := sub_length _ (List.range p.count) hm (fun z hz => by
        obtain ⟨x, hx, rfl⟩ := List.mem_map.1 hz
        obtain ⟨i, a1, a2, _⟩ := hin x hx
        simp only [a1, Option.getD_some]
        exact List.mem_range.2 a2)
      rwa [List.length_map, List.length_range] at this
    rw [List.length_append] at h1
    omega
  · have := sub_length p.freed (List.range p.frames) h.fnd (fun x hx => List.mem_range.2 ((h.fmem x).1 hx).1)
    rwa [List.length_range] at this
/-! What lives, and what was cut. -/
structure Live (B : Nat) (fr : Fs) (p : P) (st : List (List UInt8)) : Prop where
  inv : Inv fr p st
  off : p.m.off = false
  cuts : p.m.cuts = p.cuts
  fine : Cel.Fine B p.m
  endu : p.m.endurance = 1073741824
  fixed : p.fixed ≤ B
  version : p.version ≤ B
  big : 240 ≤ p.m.words.length
  small : p.m.words.length ≤ 65536
  wl : p.m.wear.length = p.m.words.length
  low : 70000 ≤ B
structure Dead (B : Nat) (fr : Fs) (p : P) (st : List (List UInt8)) : Prop where
  disk : Disk p.m.words fr st B
  off : p.m.off = true
  cuts : p.m.cuts = p.cuts + 1
  cnt : p.count = p.m.words.length / 24
  fine : Cel.Fine B p.m
  endu : p.m.endurance = 1073741824
  big : 240 ≤ p.m.words.length
  small : p.m.words.length ≤ 65536
  wl : p.m.wear.length = p.m.words.length
  low : 70000 ≤ B
section
variable {B : Nat} {fr : Fs} {p : P} {st : List (List UInt8)} {i : Nat}
theorem Live.mono {B' : Nat} (h : Live B fr p st) (hB : B ≤ B') : Live B' fr p st := { h with fine := h.fine.mono (by omega), fixed := by have := h.fixed; omega, version := by have := h.version; omega, low := by have := h.low; omega }
theorem Live.alive (h : Live B fr p st) : p.alive = true := by unfold P.alive; rw [h.off, h.cuts]; simp
theorem Live.access (h : Live B fr p st) (i : Int) : p.access i = if i < 0 ∨ p.count ≤ i then 2 else 0 := by unfold P.access; rw [h.alive]; rfl
theorem Live.shows (h : Live B fr p st) : Shows p.m fr p.frames := by have := h.inv.disk.shows.shows h.off; rwa [← h.inv.fms] at this
theorem Live.more (h : Live B fr p st) {c : Nat} (hc : c ≤ 1000) : Live (B + 1000) fr (p.more c) st :=
  { inv := ⟨h.inv.disk, h.inv.cnt, h.inv.fms, h.inv.cur, h.inv.fnd, h.inv.fmem, h.inv.turn⟩, off := h.off, cuts := h.cuts, fine := h.fine.mono (by omega), endu := h.endu, fixed := by have := h.fixed; simp only [P.more]; omega, version := by have := h.version; simp only [P.more]; omega, big := h.big, small := h.small, wl := h.wl, low := by have := h.low; omega }
theorem Live.turned (h : Live B fr p st) : Live B fr p.turned st :=
  { h with inv := { h.inv with turn := by have := h.inv.turn; exact Nat.mod_lt _ (by omega) } }
theorem exact_word {m : Cel.Mem} (h : Exact m.words) (a : Nat) : (word m a).2.2 = 0 := by
  unfold word
  split
  · rfl
  · rename_i hr
    have ha : a < m.words.length := by
      unfold Cel.Mem.read at hr
      split at hr
      · rename_i h1; exact absurd h1 (by simpa using hr)
      · rename_i h1
        have h2 := (Cel.Mem.access_zero m (a : Int)).1 (by simpa using h1)
        have := (Cel.Mem.has_iff m _).1 h2.2; omega
    have hv : (m.read (a : Int)).1 = m.words.getD a 0 := by
      unfold Cel.Mem.read at hr ⊢
      split
      · rename_i h1; rw [if_pos h1] at hr; exact absurd h1 (by simpa using hr)
      · rw [Int.toNat_natCast]
    rw [hv, if_neg (by rw [h a ha]; decide)]
theorem exact_rdK {m : Cel.Mem} (h : Exact m.words) (f : Nat) : ∀ k, (rdK m f k).2.2 = 0
  | 0 => rfl
  | k + 1 => by
    have ih := exact_rdK h f k
    have hw := exact_word h (f * 20 + k)
    unfold rdK
    split
    · split <;> simp only [ih, hw]
    · exact ih
theorem exact_read {m : Cel.Mem} (h : Exact m.words) (f : Nat) : (read m f).2.2 = 0 := by
  unfold read
  split <;> simp only [exact_rdK h, exact_word h]
theorem exact_header {m : Cel.Mem} (h : Exact m.words) (count f : Nat) : (header m count f).2 = 0 := by
  unfold header
  split
  · exact exact_word h _
  · split <;> simp only [exact_read h, exact_word h]
theorem Live.content (h : Live B fr p st) (hi : i < p.count) : ∃ c, c ≤ 20 ∧ (Exact p.m.words → c = 0) ∧ p.content i = (st.getD i [], 0, c) := by
  unfold P.content
  cases e : p.at_.getD i none with
  | none => exact ⟨0, by omega, fun _ => rfl, by rw [h.inv.data_none hi e]⟩
  | some f =>
    obtain ⟨hf, x, h1, h2, h3, h4⟩ := h.inv.data_some hi e
    obtain ⟨r1, r2⟩ := read_ok (fun k hk => h.shows.yes hf h1 hk)
    refine ⟨(Pg.read p.m f).2.2, read_count _ _, fun he => exact_read he _, ?_⟩
    simp only
    rw [if_pos r2, r1, content_words x h3, h4]
theorem Live.len (h : Live B fr p st) : st.length = p.count := h.inv.disk.len.trans h.inv.cnt.symm
theorem Live.count_pos (h : Live B fr p st) : 10 ≤ p.count ∧ p.count ≤ 2730 ∧ p.frames ≤ 3276 ∧ p.count + 2 ≤ p.frames := by
  have h1 := h.inv.cnt; have h2 := h.inv.fms; have h3 := h.big; have h4 := h.small
  omega
theorem getD_mem {l : List (List UInt8)} {i : Nat} (hi : i < l.length) : l.getD i [] = l[i] := by simp [List.getD, hi]
theorem Live.st_len (h : Live B fr p st) (hi : i < p.count) : (st.getD i []).length = 48 := by
  cases e : p.at_.getD i none with
  | none => rw [h.inv.data_none hi e]; rfl
  | some f => obtain ⟨_, x, _, _, h3, h4⟩ := h.inv.data_some hi e; rw [h4]; exact h3
theorem frame_plan (i v : Nat) (b : List UInt8) : (plan (frameWords i v b)).length = 21 := plan_length (Fr.mk i v b).words_length
/-- A page is placed, or the power was cut. -/
theorem Live.place (h : Live B fr p st) (hB : B ≤ 1000000000) (hi : i < p.count) {b : List UInt8} (hb : b.length = 48) :
    (∃ m' fr', p.place i b = (p.moved i (p.freed.getD 0 0) m', 0) ∧ Wrote (p.freed.getD 0 0) (plan (frameWords i (p.version + 1) b)) p.m m' B ∧ Live (B + 100) fr' (p.moved i (p.freed.getD 0 0) m') (st.set i b) ∧ (Exact p.m.words → Exact m'.words)) ∨
      (∃ m' fr', p.place i b = ({ p with m := m' }, 7) ∧ p.m.pending = true ∧ Dead (B + 100) fr' { p with m := m' } st ∧ m'.words.length = p.m.words.length) := by
  obtain ⟨c1, c2, c3, c4⟩ := h.count_pos
  have hfl := h.inv.count_freed
  have hver := h.version
  have hlow := h.low
  have hfree : p.freed.getD 0 0 ∈ p.freed := by
    cases hq : p.freed with
    | nil => rw [hq] at hfl; simp at hfl; omega
    | cons a l => simp
  obtain ⟨hf1, hf2⟩ := (h.inv.fmem _).1 hfree
  generalize hff : p.freed.getD 0 0 = f at *
  have hfr : p.frames * 20 ≤ p.m.words.length := by have := h.inv.fms; omega
  have hxw : (frameWords i (p.version + 1) b).length = 19 := (Fr.mk i (p.version + 1) b).words_length
  have hpl := plan_length hxw
  have hrun := put_run f (plan (frameWords i (p.version + 1) b)) p.m B h.off (fun x hx => plan_pos hxw hx) (by omega) h.fine (by omega) (by rw [hpl, h.endu]; omega)
  have e0 : p.place i b = if (put f (plan (frameWords i (p.version + 1) b)) p.m).2 ≠ 0 then ({ p with m := (put f (plan (frameWords i (p.version + 1) b)) p.m).1 }, (put f (plan (frameWords i (p.version + 1) b)) p.m).2) else (p.moved i f (put f (plan (frameWords i (p.version + 1) b)) p.m).1, 0) := by unfold P.place; rw [hff]
  have hst : ∀ j, (st.set i b).getD j [] = if j = i then b else st.getD j [] := fun j => getD_set st i j b [] (by rw [h.len]; exact hi)
  rcases hrun with ⟨m', h1, hw⟩ | ⟨m', h1, hw⟩
  · rw [h1, if_neg (by simp)] at e0
    refine .inl ⟨m', upd fr f (some ⟨i, p.version + 1, b⟩), e0, hw, ?_, fun hx => by rw [hw.words]; exact hx.putw f _ (fun y hy => plan_lt hxw (fun k => (Fr.mk i (p.version + 1) b).words_lt (by simp only; omega) (by simp only; omega) k) hy)⟩
    have hlen : m'.words.length = p.m.words.length := by rw [hw.words, putw_length]
    -- what the frames hold behind it
    have hh : ∀ g, g < p.frames → (match p.at_.getD i none with | none => p.holds | some old => p.holds.set old none).getD g none = if p.at_.getD i none = some g then none else p.holds.getD g none := fun g hg => by
      cases ha : p.at_.getD i none with
      | none => simp
      | some old =>
        obtain ⟨ho, _⟩ := h.inv.data_some hi ha
        simp only
        rw [getD_set _ _ _ _ _ (by rw [h.inv.cur.lh]; exact ho)]
        by_cases e : g = old
        · rw [if_pos e, if_pos (by rw [e])]
        · rw [if_neg e, if_neg (fun e2 => e (by cases e2; rfl))]
    have hhl : (match p.at_.getD i none with | none => p.holds | some old => p.holds.set old none).length = p.holds.length := by
      split
      · rfl
      · rw [List.length_set]
    have hcur : Cur (upd fr f (some ⟨i, p.version + 1, b⟩)) p.count p.frames p.frames (p.at_.set i (some f)) ((match p.at_.getD i none with | none => p.holds | some old => p.holds.set old none).set f (some i)) (p.version + 1) :=
      h.inv.cur.put (x := ⟨i, p.version + 1, b⟩) hf1 hf2 hi (Nat.lt_succ_self _) hhl hh
    have hok : FsOk (upd fr f (some ⟨i, p.version + 1, b⟩)) p.count p.frames (p.version + 1) := by
      have := h.inv.disk.ok
      rw [← h.inv.cnt, ← h.inv.fms] at this
      exact this.put (x := ⟨i, p.version + 1, b⟩) hi hb (Nat.lt_succ_self _)
    have hsh : WShows m'.words (upd fr f (some ⟨i, p.version + 1, b⟩)) p.frames := by
      have := h.inv.disk.shows
      rw [← h.inv.fms] at this
      rw [hw.words]
      exact this.put hf1 hfr ⟨i, p.version + 1, b⟩ (by simp only; omega) (by simp only; omega)
    have hset : ∀ j, (p.at_.set i (some f)).getD j none = if j = i then some f else p.at_.getD j none := fun j => getD_set p.at_ i j _ _ (by rw [h.inv.cur.la]; exact hi)
    have hdisk : Disk m'.words (upd fr f (some ⟨i, p.version + 1, b⟩)) (st.set i b) (p.version + 1) := by
      refine Disk.of_cur hsh hok hcur (by rw [List.length_set]; exact h.len) (by rw [hlen]; exact h.inv.cnt) (by rw [hlen]; exact h.inv.fms) (fun j hj hn => ?_) (fun j hj g x hs hx => ?_)
      · rw [hset] at hn
        by_cases e : j = i
        · rw [if_pos e] at hn; cases hn
        · rw [if_neg e] at hn
          rw [hst, if_neg e]; exact h.inv.data_none hj hn
      · rw [hset] at hs
        by_cases e : j = i
        · rw [if_pos e] at hs
          obtain rfl : f = g := by cases hs; rfl
          rw [upd_same] at hx; cases hx
          rw [hst, if_pos e]
        · rw [if_neg e] at hs
          have hgf : g ≠ f := fun e2 => h.inv.cur.free hf1 hf2 hj (e2 ▸ hs)
          rw [upd_other _ _ hgf] at hx
          obtain ⟨_, y, h5, _, _, h6⟩ := h.inv.data_some hj hs
          rw [hx] at h5; cases h5
          rw [hst, if_neg e]; exact h6
    obtain ⟨a, l, hq⟩ : ∃ a l, p.freed = a :: l := by
      cases hq : p.freed with
      | nil => rw [hq] at hfree; cases hfree
      | cons a l => exact ⟨a, l, rfl⟩
    obtain rfl : a = f := by rw [hq] at hff; simpa using hff
    have hnd := h.inv.fnd
    rw [hq, List.nodup_cons] at hnd
    have hmem : ∀ g, g ∈ l ↔ g < p.frames ∧ p.holds.getD g none = none ∧ g ≠ a := fun g => by
      have := h.inv.fmem g
      rw [hq, List.mem_cons] at this
      constructor
      · intro hg
        have h1 := this.1 (.inr hg)
        exact ⟨h1.1, h1.2, fun e => hnd.1 (e ▸ hg)⟩
      · rintro ⟨h1, h2, h3⟩
        exact (this.2 ⟨h1, h2⟩).resolve_left h3
    have hfq : (p.freed.drop 1 ++ (p.at_.getD i none).toList).Nodup ∧ ∀ g, g ∈ p.freed.drop 1 ++ (p.at_.getD i none).toList ↔ g < p.frames ∧ ((match p.at_.getD i none with | none => p.holds | some old => p.holds.set old none).set a (some i)).getD g none = none := by
      have hs2 : ∀ g, ((match p.at_.getD i none with | none => p.holds | some old => p.holds.set old none).set a (some i)).getD g none = if g = a then some i else (match p.at_.getD i none with | none => p.holds | some old => p.holds.set old none).getD g none := fun g => getD_set _ a g _ _ (by rw [hhl, h.inv.cur.lh]; exact hf1)
      have hd1 : p.freed.drop 1 = l := by rw [hq]; rfl
      rw [hd1]
      refine ⟨?_, fun g => ?_⟩
      · cases ha : p.at_.getD i none with
        | none => simpa using hnd.2
        | some old =>
          obtain ⟨ho, _⟩ := h.inv.data_some hi ha
          have hold := (h.inv.cur.held old ho i).2 ⟨hi, ha⟩
          rw [List.nodup_append]
          refine ⟨hnd.2, by simp [Option.toList], fun x hx y hy => ?_⟩
          simp only [Option.toList, List.mem_singleton] at hy
          subst hy
          intro e
          have := ((hmem x).1 hx).2.1
          rw [e, hold] at this; cases this
      · rw [List.mem_append, hmem, hs2]
        by_cases hg : g < p.frames
        · rw [hh g hg]
          cases ha : p.at_.getD i none with
          | none =>
            simp only [Option.toList, List.not_mem_nil, or_false]
            by_cases e : g = a
            · simp [e]
            · simp [e, hg]
          | some old =>
            obtain ⟨ho, _⟩ := h.inv.data_some hi ha
            have hold := (h.inv.cur.held old ho i).2 ⟨hi, ha⟩
            have hoa : old ≠ a := fun e => by rw [e, hf2] at hold; cases hold
            simp only [Option.toList, List.mem_singleton]
            by_cases e : g = a
            · subst e
              simp [Ne.symm hoa]
            · rw [if_neg e]
              by_cases e2 : g = old
              · subst e2; simp [hg]
              · rw [if_neg (fun e3 => e2 (by cases e3; rfl))]
                simp [hg, e, e2]
        · constructor
          · rintro (h1 | h1)
            · exact absurd h1.1 hg
            · cases ha : p.at_.getD i none with
              | none => rw [ha] at h1; simp [Option.toList] at h1
              | some old =>
                obtain ⟨ho, _⟩ := h.inv.data_some hi ha
                rw [ha] at h1
                simp only [Option.toList, List.mem_singleton] at h1
                exact absurd (h1 ▸ ho) hg
          · rintro ⟨h1, _⟩; exact absurd h1 hg
    refine { inv := ⟨hdisk, ?_, ?_, hcur, hfq.1, hfq.2, h.inv.turn⟩, off := hw.off, cuts := hw.cuts.trans h.cuts, fine := hw.fine.mono (by rw [hpl]; omega), endu := hw.endu.trans h.endu, fixed := ?_, version := ?_, big := ?_, small := ?_, wl := ?_, low := by omega }
    · show p.count = m'.words.length / 24
      rw [hlen]; exact h.inv.cnt
    · show p.frames = m'.words.length / 20
      rw [hlen]; exact h.inv.fms
    · have := h.fixed
      show p.fixed ≤ _
      omega
    · show p.version + 1 ≤ _
      omega
    · show 240 ≤ m'.words.length
      rw [hlen]; exact h.big
    · show m'.words.length ≤ 65536
      rw [hlen]; exact h.small
    · show m'.wear.length = m'.words.length
      rw [hlen, hw.wear, ← h.wl]
      have : ∀ (l : List (Nat × Nat)) (ws : List Int), (wearK a l ws).length = ws.length := by
        intro l
        induction l with
        | nil => intro ws; rfl
        | cons x l ih => intro ws; unfold wearK; rw [ih, List.length_set]
      exact this _ _
  · rw [h1, if_pos (by show (7 : Int) ≠ 0; decide)] at e0
    have hlen : m'.words.length = p.m.words.length := by obtain ⟨k, _, hk⟩ := hw.words; rw [hk, putw_length]
    have hdead : ∃ fr', Disk m'.words fr' st (B + 100) := by
      obtain ⟨k, hk, hk2⟩ := hw.words
      have hok := h.inv.disk.ok
      have hsh := h.inv.disk.shows
      rw [← h.inv.cnt, ← h.inv.fms] at hok
      rw [← h.inv.fms] at hsh
      cases k with
      | zero =>
        rw [List.take_zero] at hk2
        refine ⟨fr, ?_⟩
        have : m'.words = p.m.words := hk2
        rw [this]
        exact h.inv.disk.mono (by omega)
      | succ k =>
        refine ⟨upd fr f none, Disk.of_cur (K := B + 100) (v := p.version) (count := p.count) (frames := p.frames) (at_ := p.at_) (holds := p.holds) ?_ (hok.clear.mono (by omega)) (h.inv.cur.clear hf1 hf2) h.len (by rw [hlen]; exact h.inv.cnt) (by rw [hlen]; exact h.inv.fms) (fun j hj hn => h.inv.data_none hj hn) (fun j hj g x hs hx => ?_)⟩
        · rw [hk2]
          exact hsh.part hf1 hfr _ hxw k (by omega)
        · have hgf : g ≠ f := fun e2 => h.inv.cur.free hf1 hf2 hj (e2 ▸ hs)
          rw [upd_other _ _ hgf] at hx
          obtain ⟨_, y, h5, _, _, h6⟩ := h.inv.data_some hj hs
          rw [hx] at h5; cases h5
          exact h6
    obtain ⟨fr', hd⟩ := hdead
    exact .inr ⟨m', fr', e0, hw.pend, { disk := hd, off := hw.off, cuts := by show m'.cuts = _; rw [hw.cuts, h.cuts], cnt := by show p.count = m'.words.length / 24; rw [hlen]; exact h.inv.cnt, fine := hw.fine.mono (by rw [hpl]; omega), endu := hw.endu.trans h.endu, big := by show 240 ≤ m'.words.length; rw [hlen]; exact h.big, small := by show m'.words.length ≤ 65536; rw [hlen]; exact h.small, wl := by show m'.wear.length = m'.words.length; rw [hlen, hw.wl]; exact h.wl, low := by omega }, hlen⟩
end
end Go.Proofs.Ytnlhammgcemchaa.Pg
