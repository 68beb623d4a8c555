/-
  Write and Open on pages that live. Plain.
-/
import Derived.Test.YtnlhammgcemchaaPgJ
namespace Go.Proofs.Ytnlhammgcemchaa.Pg
set_option maxRecDepth 100000
set_option linter.unusedSimpArgs false
set_option linter.unusedVariables false
open Go.Proofs.Ytnlhammgcemchaa

section
variable {B : Nat} {fr : Fs} {p : P} {st : List (List UInt8)} {i : Nat}
theorem set_same (l : List (List UInt8)) (i : Nat) : l.set i (l.getD i []) = l := by
  apply List.ext_getElem?
  intro j
  rw [List.getElem?_set]
  split
  · rename_i h; subst h
    split
    · rename_i h; simp [List.getD, h]
    · rename_i h; rw [List.getElem?_eq_none (by omega)]
  · rfl
theorem move_none (h : p.holds.getD p.turn none = none) : p.move = (p.turned, 0) := by unfold P.move; rw [h]
theorem Live.held (h : Live B fr p st) {j : Nat} (e : p.holds.getD p.turn none = some j) : j < p.count := ((h.inv.cur.held p.turn h.inv.turn j).1 e).1
theorem Live.move_some (h : Live B fr p st) {j : Nat} (e : p.holds.getD p.turn none = some j) : ∃ c, c ≤ 20 ∧ (Exact p.m.words → c = 0) ∧ p.move = (p.turned.more c).place j (st.getD j []) := by
  obtain ⟨c, h1, h2, h3⟩ := h.content (h.held e)
  refine ⟨c, h1, h2, ?_⟩
  unfold P.move
  rw [e]
  simp only
  rw [h3, if_neg (by simp)]
/-- The page whose turn it is has moved, or the power was cut. -/
theorem Live.move (h : Live B fr p st) (hB : B ≤ 900000000) :
    (∃ p' fr', p.move = (p', 0) ∧ Live (B + 1100) fr' p' st ∧ p'.count = p.count ∧ p'.cuts = p.cuts ∧ p'.m.words.length = p.m.words.length ∧ (p.m.pending = false → p'.m.pending = false) ∧ p'.m.writes ≤ p.m.writes + 21 ∧ (Exact p.m.words → Exact p'.m.words ∧ p'.fixed = p.fixed)) ∨
      (∃ p' fr', p.move = (p', 7) ∧ p.m.pending = true ∧ Dead (B + 1100) fr' p' st ∧ p'.count = p.count ∧ p'.m.words.length = p.m.words.length) := by
  cases e : p.holds.getD p.turn none with
  | none => exact .inl ⟨_, fr, move_none e, h.turned.mono (by omega), rfl, rfl, rfl, id, by show p.m.writes ≤ _; omega, fun hx => ⟨hx, rfl⟩⟩
  | some j =>
    obtain ⟨c, h1, h2, h3⟩ := h.move_some e
    have hj := h.held e
    rcases (h.turned.more (c := c) (by omega)).place (i := j) (by omega) hj (h.st_len hj) with ⟨m', fr', e1, hw, hl, hx⟩ | ⟨m', fr', e1, hp, hd, hml⟩
    · rw [set_same] at hl
      refine .inl ⟨_, fr', h3.trans e1, hl, rfl, rfl, ?_, hw.pend, ?_, fun he => ⟨hx he, by show p.fixed + c = _; rw [h2 he]; rfl⟩⟩
      · show m'.words.length = _
        rw [hw.words, putw_length]; rfl
      · show m'.writes ≤ _
        rw [hw.writes, frame_plan]
        show p.m.writes + _ ≤ _
        omega
    · refine .inr ⟨_, fr', h3.trans e1, hp, hd, rfl, ?_⟩
      show m'.words.length = _
      exact hml
theorem Live.write (h : Live B fr p st) (hB : B ≤ 900000000) {i : Nat} (hi : i < p.count) {b : List UInt8} (hb : b.length = 48) :
    (∃ p' fr', p.write i b = (p', 0) ∧ Live (B + 1200) fr' p' (st.set i b) ∧ p'.count = p.count ∧ p'.cuts = p.cuts ∧ p'.m.words.length = p.m.words.length ∧ (p.m.pending = false → p'.m.pending = false) ∧ p'.m.writes ≤ p.m.writes + 42 ∧ (Exact p.m.words → Exact p'.m.words ∧ p'.fixed = p.fixed)) ∨
      (∃ p' fr', p.write i b = (p', 7) ∧ p.m.pending = true ∧ Dead (B + 1200) fr' p' st ∧ p'.count = p.count) := by
  have ha : p.access (i : Int) = 0 := by rw [h.access, if_neg (by omega)]
  have e0 : p.write i b = if p.move.2 ≠ 0 then p.move else p.move.1.place i b := by
    unfold P.write
    rw [if_neg (by omega), ha, if_neg (by simp), Int.toNat_natCast]
  rcases h.move hB with ⟨p1, fr1, e1, hl, hc, hcu, hwl, hpd, hwr, hex⟩ | ⟨p1, fr1, e1, hp, hd, hc, _⟩
  · rw [e1, if_neg (by simp)] at e0
    rcases hl.place (i := i) (by omega) (by omega) hb with ⟨m', fr', e2, hw, hl2, hx⟩ | ⟨m', fr', e2, hp2, hd2, _⟩
    · refine .inl ⟨_, fr', e0.trans e2, hl2.mono (by omega), hc, hcu, ?_, fun hp => hw.pend (hpd hp), ?_, fun he => ⟨hx (hex he).1, (hex he).2⟩⟩
      · show m'.words.length = _
        rw [hw.words, putw_length, hwl]
      · show m'.writes ≤ _
        rw [hw.writes, frame_plan]
        show p1.m.writes + 21 ≤ _
        omega
    · refine .inr ⟨_, fr', e0.trans e2, ?_, { hd2 with fine := hd2.fine.mono (by omega), disk := hd2.disk.mono (by omega), low := by have := hd2.low; omega }, hc⟩
      cases hq : p.m.pending with
      | true => rfl
      | false => rw [hpd hq] at hp2; cases hp2
  · rw [e1, if_pos (by simp)] at e0
    exact .inr ⟨p1, fr1, e0, hp, { hd with fine := hd.fine.mono (by omega), disk := hd.disk.mono (by omega), low := by have := hd.low; omega }, hc⟩
end
/-! Open. -/
theorem scan_facts {m : Cel.Mem} {o : O} : ∀ k q, scan m o k = some q → q.p.m = o.p.m ∧ q.p.cuts = o.p.cuts ∧ q.p.fixed ≤ o.p.fixed + 21 * k ∧ (Exact m.words → q.p.fixed = o.p.fixed) := by
  intro k
  induction k with
  | zero => intro q h; unfold scan at h; cases h; exact ⟨rfl, rfl, by omega, fun _ => rfl⟩
  | succ k ih =>
    intro q h
    unfold scan at h
    cases hs : scan m o k with
    | none => rw [hs] at h; cases h
    | some q0 =>
      rw [hs] at h
      simp only at h
      split at h
      · cases h
      · cases h
        obtain ⟨h1, h2, h3, h4⟩ := ih q0 hs
        have hc : (header m o.p.count k).2 ≤ 21 := by
          have h5 := word_count m (k * 20 + 19); have h6 := read_count m k
          unfold header
          split
          · dsimp only; omega
          · split <;> dsimp only <;> omega
        have hn : ∀ (o : O) (f : Nat) (h : Hd), (o.next f h).p.m = o.p.m ∧ (o.next f h).p.cuts = o.p.cuts ∧ (o.next f h).p.fixed = o.p.fixed := by
          intro o f h
          unfold O.next
          split
          · exact ⟨rfl, rfl, rfl⟩
          · split
            · exact ⟨rfl, rfl, rfl⟩
            · split <;> exact ⟨rfl, rfl, rfl⟩
        obtain ⟨n1, n2, n3⟩ := hn (q0.more (header m o.p.count k).2) k (header m o.p.count k).1
        refine ⟨n1.trans h1, n2.trans h2, ?_, fun he => ?_⟩
        · rw [n3]; show q0.p.fixed + _ ≤ _; omega
        · rw [n3]; show q0.p.fixed + _ = _; rw [exact_header he, h4 he]; rfl
theorem mem_frees {holds : List (Option Nat)} {f : Nat} : f ∈ frees holds ↔ f < holds.length ∧ holds.getD f none = none := by
  unfold frees
  rw [List.mem_filter, List.mem_range]
  exact and_congr_right fun _ => Option.isNone_iff_eq_none
/-- A memory that can be opened. -/
structure Can (B : Nat) (fr : Fs) (m : Cel.Mem) (st : List (List UInt8)) : Prop where
  disk : Disk m.words fr st B
  fine : Cel.Fine B m
  endu : m.endurance = 1073741824
  big : 240 ≤ m.words.length
  small : m.words.length ≤ 65536
  wl : m.wear.length = m.words.length
  low : 70000 ≤ B
theorem Dead.can {B : Nat} {fr : Fs} {p : P} {st : List (List UInt8)} (h : Dead B fr p st) : Can B fr p.m st := ⟨h.disk, h.fine, h.endu, h.big, h.small, h.wl, h.low⟩
theorem Live.can {B : Nat} {fr : Fs} {p : P} {st : List (List UInt8)} (h : Live B fr p st) : Can B fr p.m st := ⟨h.inv.disk.mono h.version, h.fine, h.endu, h.big, h.small, h.wl, h.low⟩
theorem Can.mono {B B' : Nat} {fr : Fs} {m : Cel.Mem} {st : List (List UInt8)} (h : Can B fr m st) (hB : B ≤ B') : Can B' fr m st := { h with disk := h.disk.mono hB, fine := h.fine.mono (by omega), low := by have := h.low; omega }
section
variable {B : Nat} {fr : Fs} {m : Cel.Mem} {st : List (List UInt8)}
theorem newest_lt (vs : List Nat) : ∀ k, 0 < k → newest vs k < k := by
  intro k
  induction k with
  | zero => intro h; omega
  | succ k ih =>
    intro _
    unfold newest
    split
    · omega
    · cases k with
      | zero => unfold newest; omega
      | succ k => have := ih (by omega); omega
theorem Can.scan (h : Can B fr m st) (ho : m.off = false) : ∃ q, Pg.scan m (start m) (m.words.length / 20) = some q ∧ Scn' fr (m.words.length / 24) (m.words.length / 20) B (m.words.length / 20) q :=
  scan_ok h.disk.ok (h.disk.shows.shows ho) (start_ok m fr B) _ (Nat.le_refl _)
theorem Can.opened (h : Can B fr m st) (ho : m.off = false) {p : P} (hp : Opened m p) : Live B fr p st ∧ p.m = m ∧ p.cuts = m.cuts ∧ p.count = m.words.length / 24 ∧ (Exact m.words → p.fixed = 0) := by
  obtain ⟨o, h1, fq, h2, rfl⟩ := hp
  obtain ⟨q, h3, h4⟩ := h.scan ho
  obtain rfl : q = o := by rw [h3] at h1; cases h1; rfl
  obtain ⟨f1, f2, f3, f4⟩ := scan_facts _ _ h3
  have e1 : q.p.m = m := f1
  have hb := h.big; have hs := h.small; have hl := h.low
  have hcur := h4.cur
  have hcnt := h4.cnt; have hfms := h4.fms
  have hok := h.disk.ok
  have hok2 : FsOk fr (m.words.length / 24) (m.words.length / 20) q.p.version := ⟨fun f hf x hx => ⟨(hok.ok f hf x hx).1, (hok.ok f hf x hx).2.1, hcur.ver f hf x hx⟩, hok.diff⟩
  refine ⟨{ inv := ⟨?_, ?_, ?_, ?_, ?_, ?_, ?_⟩, off := ?_, cuts := ?_, fine := ?_, endu := ?_, fixed := ?_, version := h4.verK, big := ?_, small := ?_, wl := ?_, low := hl }, e1, f2, hcnt, f4⟩
  · show Disk q.p.m.words fr st q.p.version
    rw [e1]
    exact { h.disk with ok := hok2 }
  · show q.p.count = q.p.m.words.length / 24
    rw [e1]; exact hcnt
  · show q.p.frames = q.p.m.words.length / 20
    rw [e1]; exact hfms
  · show Cur fr q.p.count q.p.frames q.p.frames q.p.at_ q.p.holds q.p.version
    rw [hcnt, hfms]; exact hcur
  · show fq.Nodup
    rw [h2.nodup_iff]
    exact List.nodup_range.filter _
  · intro f
    show f ∈ fq ↔ f < q.p.frames ∧ q.p.holds.getD f none = none
    rw [h2.mem_iff, mem_frees, hcur.lh, hfms]
  · show (newest q.vs q.p.frames + 1) % q.p.frames < q.p.frames
    exact Nat.mod_lt _ (by omega)
  · show q.p.m.off = false
    rw [e1]; exact ho
  · show q.p.m.cuts = q.p.cuts
    rw [e1, f2]; rfl
  · show Cel.Fine B q.p.m
    rw [e1]; exact h.fine
  · show q.p.m.endurance = _
    rw [e1]; exact h.endu
  · show q.p.fixed ≤ B
    have : (start m).p.fixed = 0 := rfl
    omega
  · show 240 ≤ q.p.m.words.length
    rw [e1]; exact hb
  · show q.p.m.words.length ≤ 65536
    rw [e1]; exact hs
  · show q.p.m.wear.length = q.p.m.words.length
    rw [e1]; exact h.wl
end
/-- A new memory. -/
def noFr : Fs := fun _ => none
def zeros (n : Nat) : List (List UInt8) := List.replicate (n / 24) zero48
theorem code_zero : Ecc.decode 0 = (0, 0) := by decide +kernel
theorem new_can (n : Nat) (h1 : 240 ≤ n) (h2 : n ≤ 65536) : Can 70000 noFr (Cel.Mem.new n 1073741824) (zeros n) ∧ Exact (Cel.Mem.new n 1073741824).words := by
  have hg : ∀ a, (List.replicate n (0 : UInt32)).getD a 0 = 0 := fun a => by simp only [List.getD, List.getElem?_replicate]; split <;> rfl
  have hl : (List.replicate n (0 : UInt32)).length = n := List.length_replicate
  refine ⟨{ disk := { shows := fun f hf => ?_, ok := ⟨fun f hf x hx => (by cases hx), fun f hf g hg x y hx => (by cases hx)⟩, len := by show _ = (List.replicate n (0 : UInt32)).length / 24; rw [hl]; simp [zeros], none_ := fun i hi _ => ?_, some_ := fun i hi f hf x hx => (by cases hx) }, fine := (Cel.fine_new n _).mono (by omega), endu := rfl, big := by show 240 ≤ (List.replicate n (0 : UInt32)).length; rw [hl]; exact h1, small := by show (List.replicate n (0 : UInt32)).length ≤ _; rw [hl]; exact h2, wl := by simp [Cel.Mem.new], low := by omega }, fun a ha => ?_⟩
  · show Rw (List.replicate n (0 : UInt32)) (f * 20 + 19) 0
    have : f < (List.replicate n (0 : UInt32)).length / 20 := hf
    rw [hl] at this
    refine ⟨by rw [hl]; omega, ?_, ?_⟩
    · rw [hg]; show (Ecc.decode 0).1 = 0; rw [code_zero]
    · rw [hg]; show (Ecc.decode 0).2 ≠ 2; rw [code_zero]; simp
  · have : i < (List.replicate n (0 : UInt32)).length / 24 := hi
    rw [hl] at this
    simp [zeros, List.getD, this]
  · show (Ecc.decode ((List.replicate n (0 : UInt32)).getD a 0).toNat).2 = 0
    rw [hg]
    show (Ecc.decode 0).2 = 0
    rw [code_zero]
end Go.Proofs.Ytnlhammgcemchaa.Pg
