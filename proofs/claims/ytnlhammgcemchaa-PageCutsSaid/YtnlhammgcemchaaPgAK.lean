/-
  Wrong bits, plain: flips of one bit in each of any words; two flips in one word.
-/
import Derived.Test.YtnlhammgcemchaaPgAI
namespace Go.Proofs.Ytnlhammgcemchaa.Pg
set_option maxRecDepth 100000
set_option linter.unusedSimpArgs false
set_option linter.unusedVariables false
open Go.Proofs.Ytnlhammgcemchaa

theorem bit_nat {i : Nat} (hi : i < 32) : (Cel.bit i).toNat = 2 ^ i := by
  unfold Cel.bit
  rw [Nat.mod_eq_of_lt hi, UInt32.toNat_ofNat']
  exact Nat.mod_eq_of_lt (Nat.pow_lt_pow_right (by omega) hi)
theorem flip_eq (m : Cel.Mem) (a i : Nat) (ha : a < m.words.length) (hi : i < 32) : m.flip (a : Int) (i : Int) = ({ m with words := m.words.set a (m.words.getD a 0 ^^^ Cel.bit i) }, 0) := by
  unfold Cel.Mem.flip
  rw [if_pos ⟨(m.has_iff _).2 ⟨by omega, by omega⟩, by omega, by omega⟩, Int.toNat_natCast, Int.toNat_natCast]
theorem getD_setW (ws : Ws) (a b : Nat) (v : UInt32) (ha : a < ws.length) : (ws.set a v).getD b 0 = if b = a then v else ws.getD b 0 := getD_set ws a b v 0 ha
/-- The words behind flips: those that are not told have not turned. -/
structure Flp (ws vs : Ws) (fl : List Bool) : Prop where
  near : Near ws vs
  still : ∀ a, a < ws.length → fl.getD a false = false → vs.getD a 0 = ws.getD a 0
theorem Flp.start (ws : Ws) (fl : List Bool) : Flp ws ws fl := ⟨⟨rfl, fun _ _ => .inl rfl⟩, fun _ _ _ => rfl⟩
theorem Flp.told {ws vs : Ws} {fl : List Bool} (h : Flp ws vs fl) {a : Nat} (ha : a < fl.length) : Flp ws vs (fl.set a true) :=
  ⟨h.near, fun b hb e => h.still b hb (by
    rw [getD_set fl a b _ _ ha] at e
    split at e
    · cases e
    · exact e)⟩
theorem Flp.flip {ws vs : Ws} {fl : List Bool} (h : Flp ws vs fl) {a i : Nat} (ha : a < ws.length) (hf : a < fl.length) (hi : i < 32) (e : fl.getD a false = false) : Flp ws (vs.set a (vs.getD a 0 ^^^ Cel.bit i)) (fl.set a true) := by
  have hl := h.near.1
  refine ⟨⟨by rw [List.length_set]; exact hl, fun b hb => ?_⟩, fun b hb e2 => ?_⟩
  · rw [getD_setW _ _ _ _ (by omega)]
    by_cases e3 : b = a
    · rw [if_pos e3]
      subst e3
      exact .inr ⟨i, hi, by rw [UInt32.toNat_xor, bit_nat hi, h.still b hb e]⟩
    · rw [if_neg e3]
      exact h.near.2 b hb
  · rw [getD_set fl a b _ _ hf] at e2
    by_cases e3 : b = a
    · rw [if_pos e3] at e2; cases e2
    · rw [if_neg e3] at e2
      rw [getD_setW _ _ _ _ (by omega), if_neg e3]
      exact h.still b hb e2
/-! Two flips in one word. -/
def Weak (m : Cel.Mem) (fr : Fs) (frames : Nat) : Prop := ∀ f, f < frames → match fr f with
  | none => Rd m (f * 20 + 19) 0 ∨ (word m (f * 20 + 19)).2.1 = false
  | some x => ∀ i, i < 20 → Rd m (f * 20 + i) (x.all.getD i 0) ∨ (word m (f * 20 + i)).2.1 = false
theorem Weak.no {m : Cel.Mem} {fr : Fs} {frames f : Nat} (h : Weak m fr frames) (hf : f < frames) (e : fr f = none) : Rd m (f * 20 + 19) 0 ∨ (word m (f * 20 + 19)).2.1 = false := by
  have := h f hf; rw [e] at this; exact this
theorem Weak.yes {m : Cel.Mem} {fr : Fs} {frames f : Nat} {x : Fr} (h : Weak m fr frames) (hf : f < frames) (e : fr f = some x) {i : Nat} (hi : i < 20) : Rd m (f * 20 + i) (x.all.getD i 0) ∨ (word m (f * 20 + i)).2.1 = false := by
  have := h f hf; rw [e] at this; exact this i hi
theorem rdK_false {m : Cel.Mem} {f i : Nat} (h : (word m (f * 20 + i)).2.1 = false) : ∀ k, i < k → (rdK m f k).2.1 = false := by
  intro k hk
  have h1 : (rdK m f (i + 1)).2.1 = false := by
    unfold rdK
    split
    · rw [if_neg (by rw [h]; decide)]
    · rfl
  exact (rdK_bad m f (i + 1) h1 k (by omega)).2.1
theorem read_false {m : Cel.Mem} {f i : Nat} (hi : i < 20) (h : (word m (f * 20 + i)).2.1 = false) : (read m f).2.1 = false := by
  by_cases e : i = 19
  · subst e
    unfold read
    split
    · dsimp only; rw [h]; rfl
    · rfl
  · have := rdK_false h 19 (by omega)
    unfold read
    rw [if_neg (by rw [this]; decide)]
theorem Weak.or {m : Cel.Mem} {fr : Fs} {frames f : Nat} {x : Fr} (h : Weak m fr frames) (hf : f < frames) (e : fr f = some x) : (∀ i, i < 20 → Rd m (f * 20 + i) (x.all.getD i 0)) ∨ (read m f).2.1 = false := by
  by_cases hx : ∃ i, i < 20 ∧ (word m (f * 20 + i)).2.1 = false
  · obtain ⟨i, hi, h2⟩ := hx
    exact .inr (read_false hi h2)
  · refine .inl fun i hi => ?_
    rcases h.yes hf e hi with h2 | h2
    · exact h2
    · exact absurd ⟨i, hi, h2⟩ hx
theorem Weak.header {m : Cel.Mem} {fr : Fs} {frames f count : Nat} (h : Weak m fr frames) (hf : f < frames) (hb : (header m count f).1.bad = false) : match fr f with
    | none => Rd m (f * 20 + 19) 0
    | some x => ∀ i, i < 20 → Rd m (f * 20 + i) (x.all.getD i 0) := by
  have key : (word m (f * 20 + 19)).2.1 = true ∧ ((word m (f * 20 + 19)).1 = 0 ∨ (read m f).2.1 = true) := by
    unfold Pg.header at hb
    split at hb
    · rename_i h1; exact ⟨h1.1, .inl h1.2⟩
    · split at hb
      · cases hb
      · rename_i h1 h2
        have h3 : (read m f).2.1 = true := by
          cases h4 : (read m f).2.1 with
          | true => rfl
          | false => exact absurd (.inl h4) h2
        refine ⟨?_, .inr h3⟩
        cases h4 : (word m (f * 20 + 19)).2.1 with
        | true => rfl
        | false => rw [read_false (by omega) h4] at h3; cases h3
  cases e : fr f with
  | none =>
    rcases h.no hf e with h2 | h2
    · exact h2
    · rw [key.1] at h2; cases h2
  | some x =>
    rcases h.or hf e with h2 | h2
    · exact h2
    · rw [h2] at key
      have hz : (word m (f * 20 + 19)).1 = 0 := by
        rcases key.2 with h3 | h3
        · exact h3
        · cases h3
      rcases h.yes hf e (i := 19) (by omega) with h3 | h3
      · have h4 := h3.1
        rw [hz, x.all_last] at h4
        have : sealOf x.words ≠ 0 := by unfold sealOf; intro h5; have h6 := congrArg (Nat.testBit · 0) h5; simp at h6
        exact absurd h4.symm this
      · rw [key.1] at h3; cases h3
theorem Weak.scan {m : Cel.Mem} {fr : Fs} {frames : Nat} {o q : O} (h : Weak m fr frames) : ∀ k, k ≤ frames → scan m o k = some q → ∀ f, f < k → match fr f with
    | none => Rd m (f * 20 + 19) 0
    | some x => ∀ i, i < 20 → Rd m (f * 20 + i) (x.all.getD i 0) := by
  intro k hk hs f hf
  refine h.header (count := o.p.count) (by omega) ?_
  cases hb : (Pg.header m o.p.count f).1.bad with
  | false => rfl
  | true => rw [scan_bad hb k hf] at hs; cases hs
theorem Rd.rw {m : Cel.Mem} {a n : Nat} (h : Rd m a n) (ho : m.off = false) (ha : a < m.words.length) : Rw m.words a n := by
  unfold Rd at h
  rw [word_on ho ha] at h
  exact ⟨ha, h.1, of_decide_eq_true h.2⟩
/-- Pages some words of which cannot be read. -/
def Hurt (B : Nat) (fr : Fs) (p : P) (st : List (List UInt8)) : Prop := ∃ ws : Ws, ws.length = p.m.words.length ∧ Live B fr { p with m := { p.m with words := ws } } st ∧ Weak p.m fr p.frames
section
variable {B : Nat} {fr : Fs} {p : P} {st : List (List UInt8)}
theorem Live.hurt (h : Live B fr p st) : Hurt B fr p st := ⟨p.m.words, rfl, h, fun f hf => by
  cases e : fr f with
  | none => exact .inl (h.shows.no hf e)
  | some x => exact fun i hi => .inl (h.shows.yes hf e hi)⟩
theorem Hurt.more (h : Hurt B fr p st) {c : Nat} (hc : c ≤ 1000) : Hurt (B + 1000) fr (p.more c) st := by
  obtain ⟨ws, h1, h2, h3⟩ := h
  exact ⟨ws, h1, h2.more hc, h3⟩
theorem Hurt.mono {B' : Nat} (h : Hurt B fr p st) (hB : B ≤ B') : Hurt B' fr p st := by
  obtain ⟨ws, h1, h2, h3⟩ := h
  exact ⟨ws, h1, h2.mono hB, h3⟩
theorem Hurt.off (h : Hurt B fr p st) : p.m.off = false := by obtain ⟨ws, h1, h2, h3⟩ := h; exact h2.off
theorem Hurt.fine (h : Hurt B fr p st) : Cel.Fine B p.m := by
  obtain ⟨ws, h1, h2, h3⟩ := h
  have h4 := h2.fine
  exact ⟨h4.writes, h4.cuts, h4.left, h4.wear⟩
theorem Hurt.big (h : Hurt B fr p st) : 240 ≤ p.m.words.length := by obtain ⟨ws, h1, h2, h3⟩ := h; rw [← h1]; exact h2.big
theorem Hurt.len (h : Hurt B fr p st) : st.length = p.count := by obtain ⟨ws, h1, h2, h3⟩ := h; exact h2.len
theorem Hurt.alive (h : Hurt B fr p st) : p.alive = true := by obtain ⟨ws, h1, h2, h3⟩ := h; exact h2.alive
theorem Hurt.la (h : Hurt B fr p st) : p.at_.length = p.count := by obtain ⟨ws, h1, h2, h3⟩ := h; exact h2.inv.cur.la
theorem Hurt.at_small (h : Hurt B fr p st) (k f : Nat) (e : p.at_.getD k none = some f) : f < 100000000 := by obtain ⟨ws, h1, h2, h3⟩ := h; exact h2.at_small k f e
theorem Hurt.fixed (h : Hurt B fr p st) : p.fixed ≤ B := by obtain ⟨ws, h1, h2, h3⟩ := h; exact h2.fixed
theorem Hurt.st_len (h : Hurt B fr p st) {i : Nat} (hi : i < p.count) : (st.getD i []).length = 48 := by obtain ⟨ws, h1, h2, h3⟩ := h; exact h2.st_len hi
theorem Hurt.content (h : Hurt B fr p st) {i : Nat} (hi : i < p.count) : ∃ c, c ≤ 20 ∧ (p.content i = (st.getD i [], 0, c) ∨ p.content i = ([], 9, c)) := by
  have ha := h.alive
  obtain ⟨ws, h1, h2, h3⟩ := h
  unfold P.content
  cases e : p.at_.getD i none with
  | none => exact ⟨0, by omega, .inl (by rw [h2.inv.data_none hi e])⟩
  | some f =>
    obtain ⟨hf, x, e1, e2, e3, e4⟩ := h2.inv.data_some hi e
    refine ⟨(Pg.read p.m f).2.2, read_count _ _, ?_⟩
    rcases h3.or hf e1 with h4 | h4
    · obtain ⟨r1, r2⟩ := read_ok h4
      left
      simp only
      rw [if_pos r2, r1, content_words x e3, e4]
    · right
      simp only
      rw [if_neg (by rw [h4]; decide)]
      unfold P.failure
      rw [if_pos ha]
theorem Hurt.reads (h : Hurt B fr p st) {i : Nat} (hi : i < p.count) : ∃ c, c ≤ 20 ∧ (p.read i = (p.more c, st.getD i [], 0) ∨ p.read i = (p.more c, [], 9)) := by
  obtain ⟨c, h1, h2⟩ := h.content hi
  refine ⟨c, h1, ?_⟩
  have ha : p.access i = 0 := by unfold P.access; rw [h.alive]; rw [if_neg (by decide), if_neg (by omega)]
  unfold P.read
  rw [ha, if_neg (by decide), Int.toNat_natCast]
  rcases h2 with h2 | h2 <;> rw [h2]
  · exact .inl rfl
  · exact .inr rfl
/-- Open: nothing, or all as before. -/
theorem Hurt.can (h : Hurt B fr p st) {q : O} (hq : Pg.scan p.m (Pg.start p.m) (p.m.words.length / 20) = some q) : Can B fr p.m st := by
  have hoff := h.off
  have hfine := h.fine
  obtain ⟨ws, h1, h2, h3⟩ := h
  have hc := h2.can
  have hfr : p.frames = p.m.words.length / 20 := by rw [← h1]; exact h2.inv.fms
  have hd : Disk ws fr st B := hc.disk
  have hsh : WShows p.m.words fr (p.m.words.length / 20) := fun f hf => by
    have h4 := h3.scan _ (by rw [hfr]; exact Nat.le_refl _) hq f hf
    cases e : fr f with
    | none => rw [e] at h4; exact Rd.rw h4 hoff (by omega)
    | some x => rw [e] at h4; exact fun i hi => Rd.rw (h4 i hi) hoff (by omega)
  exact { disk := { shows := hsh, ok := by rw [← h1]; exact hd.ok, len := by rw [← h1]; exact hd.len, none_ := by rw [← h1]; exact hd.none_, some_ := by rw [← h1]; exact hd.some_ }, fine := hfine, endu := hc.endu, big := by rw [← h1]; exact hc.big, small := by rw [← h1]; exact hc.small, wl := by rw [← h1]; exact hc.wl, low := hc.low }
/-- Two flips. -/
theorem Live.flips (h : Live B fr p st) (hc : Coded p.m.words) {a i k : Nat} (ha : a < p.m.words.length) (hi : i < 32) (hk : k < 32) {m1 m2 : Cel.Mem} (e1 : p.m.flip (a : Int) (i : Int) = (m1, 0)) (e2 : m1.flip (a : Int) (k : Int) = (m2, 0)) :
    Hurt B fr { p with m := m2 } st ∧ (i = k → Live B fr { p with m := m2 } st) := by
  rw [flip_eq _ _ _ ha hi] at e1
  injection e1 with e1 _
  subst e1
  rw [flip_eq _ _ _ (by rw [List.length_set]; exact ha) hk] at e2
  injection e2 with e2 _
  dsimp only at e2
  have hat : (p.m.words.set a (p.m.words.getD a 0 ^^^ Cel.bit i)).getD a 0 = p.m.words.getD a 0 ^^^ Cel.bit i := by rw [getD_setW _ _ _ _ ha, if_pos rfl]
  rw [hat, List.set_set] at e2
  generalize hv : p.m.words.getD a 0 ^^^ Cel.bit i ^^^ Cel.bit k = v at e2
  have hvn : v.toNat = (p.m.words.getD a 0).toNat ^^^ 2 ^ i ^^^ 2 ^ k := by rw [← hv, UInt32.toNat_xor, UInt32.toNat_xor, bit_nat hi, bit_nat hk]
  have hg : ∀ b, (p.m.words.set a v).getD b 0 = if b = a then v else p.m.words.getD b 0 := fun b => getD_setW _ _ _ _ ha
  have hlen : (p.m.words.set a v).length = p.m.words.length := List.length_set
  subst e2
  refine ⟨⟨p.m.words, hlen.symm, h, ?_⟩, fun hik => ?_⟩
  · have key : ∀ b n, Rw p.m.words b n → Rd { p.m with words := p.m.words.set a v } b n ∨ (word { p.m with words := p.m.words.set a v } b).2.1 = false := fun b n hr => by
      have hoff : ({ p.m with words := p.m.words.set a v } : Cel.Mem).off = false := h.off
      by_cases e : b = a
      · subst e
        obtain ⟨n0, hn0, e0⟩ := hc b ha
        by_cases hik : i = k
        · subst hik
          left
          refine Rw.rd (m := { p.m with words := p.m.words.set b v }) (hr.of_getD hlen ?_) hoff
          rw [hg, if_pos rfl]
          apply UInt32.toNat_inj.1
          rw [hvn, Nat.xor_assoc, Nat.xor_self, Nat.xor_zero]
        · right
          rw [word_on hoff (by rw [hlen]; exact ha)]
          dsimp only
          rw [hg, if_pos rfl, hvn, e0, Ecc.decode_two n0 i k hi hk hik]
          rfl
      · left
        exact Rw.rd (m := { p.m with words := p.m.words.set a v }) (hr.of_getD hlen (by rw [hg, if_neg e])) hoff
    intro f hf
    have hs := h.inv.disk.shows
    have hfr := h.inv.fms
    have hf2 : f < p.m.words.length / 20 := by rw [← hfr]; exact hf
    cases e : fr f with
    | none => exact key _ _ (hs.no hf2 e)
    | some x => exact fun i hi => key _ _ (hs.yes hf2 e hi)
  · subst hik
    refine h.near hc ⟨hlen, fun b hb => .inl ?_⟩
    rw [hg]
    split
    · rename_i e
      subst e
      apply UInt32.toNat_inj.1
      rw [hvn, Nat.xor_assoc, Nat.xor_self, Nat.xor_zero]
    · rfl
end
end Go.Proofs.Ytnlhammgcemchaa.Pg
