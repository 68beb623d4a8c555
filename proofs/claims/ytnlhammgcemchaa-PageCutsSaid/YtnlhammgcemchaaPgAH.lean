/-
  Wrong bits: words that are coded, and words of which one bit is wrong. Plain.
-/
import Derived.Test.YtnlhammgcemchaaPgV
namespace Go.Proofs.Ytnlhammgcemchaa.Pg
set_option maxRecDepth 100000
set_option linter.unusedSimpArgs false
set_option linter.unusedVariables false
open Go.Proofs.Ytnlhammgcemchaa

/-- Every word is a code word. -/
def Coded (ws : Ws) : Prop := ∀ a, a < ws.length → ∃ n, n < 16777216 ∧ (ws.getD a 0).toNat = Ecc.code n
theorem Coded.exact {ws : Ws} (h : Coded ws) : Exact ws := fun a ha => by
  obtain ⟨n, hn, e⟩ := h a ha
  rw [e, Ecc.decode_code n hn]
theorem Coded.set {ws : Ws} (h : Coded ws) (a n : Nat) (hn : n < 16777216) : Coded (ws.set a (UInt32.ofNat (Ecc.code n))) := fun b hb => by
  rw [List.length_set] at hb
  by_cases e : a = b
  · subst e
    refine ⟨n, hn, ?_⟩
    rw [List.getD, List.getElem?_set_self hb]
    exact code_u32 n
  · obtain ⟨k, hk, e2⟩ := h b hb
    refine ⟨k, hk, ?_⟩
    rw [List.getD, List.getElem?_set_ne e]
    exact e2
theorem Coded.putw {ws : Ws} (h : Coded ws) (f : Nat) (l : List (Nat × Nat)) (hl : ∀ x ∈ l, x.2 < 16777216) : Coded (putw f l ws) := by
  induction l generalizing ws with
  | nil => exact h
  | cons x l ih =>
    rw [putw_cons]
    exact ih (h.set _ _ (hl x List.mem_cons_self)) (fun y hy => hl y (List.mem_cons_of_mem _ hy))
/-- A word of which at most one bit is wrong reads as it did. -/
def Near (ws vs : Ws) : Prop := vs.length = ws.length ∧ ∀ a, a < ws.length → vs.getD a 0 = ws.getD a 0 ∨ ∃ i, i < 32 ∧ (vs.getD a 0).toNat = (ws.getD a 0).toNat ^^^ 2 ^ i
theorem Near.rw {ws vs : Ws} (hc : Coded ws) (h : Near ws vs) {a n : Nat} (hr : Rw ws a n) : Rw vs a n := by
  obtain ⟨k, hk, e⟩ := hc a hr.lt
  have hv := hr.val
  rw [e, Ecc.decode_code k hk] at hv
  have hv : k = n := hv
  rcases h.2 a hr.lt with h2 | ⟨i, hi, h2⟩
  · exact hr.of_getD h.1 h2
  · refine ⟨by rw [h.1]; exact hr.lt, ?_, ?_⟩
    · rw [h2, e, Ecc.decode_one k i hk hi]; exact hv
    · rw [h2, e, Ecc.decode_one k i hk hi]; show (1 : Nat) ≠ 2; decide
theorem WShows.near {ws vs : Ws} {fr : Fs} {frames : Nat} (h : WShows ws fr frames) (hc : Coded ws) (hn : Near ws vs) : WShows vs fr frames := fun f hf => by
  have h1 := h f hf
  cases e : fr f with
  | none => rw [e] at h1; exact hn.rw hc h1
  | some x => rw [e] at h1; exact fun i hi => hn.rw hc (h1 i hi)
theorem Disk.near {ws vs : Ws} {fr : Fs} {st : List (List UInt8)} {K : Nat} (h : Disk ws fr st K) (hc : Coded ws) (hn : Near ws vs) : Disk vs fr st K := by
  have hl := hn.1
  exact { shows := by rw [hl]; exact h.shows.near hc hn, ok := by rw [hl]; exact h.ok, len := by rw [hl]; exact h.len, none_ := by rw [hl]; exact h.none_, some_ := by rw [hl]; exact h.some_ }
/-- One wrong bit in each of any words: the pages live as they did. -/
theorem Live.near {B : Nat} {fr : Fs} {p : P} {st : List (List UInt8)} {vs : Ws} (h : Live B fr p st) (hc : Coded p.m.words) (hn : Near p.m.words vs) : Live B fr { p with m := { p.m with words := vs } } st :=
  { h with
    inv := { h.inv with disk := h.inv.disk.near hc hn, cnt := h.inv.cnt.trans (by rw [← hn.1]), fms := h.inv.fms.trans (by rw [← hn.1]) }
    off := h.off
    cuts := h.cuts
    fine := { writes := h.fine.writes, cuts := h.fine.cuts, left := h.fine.left, wear := h.fine.wear }
    endu := h.endu
    big := by show 240 ≤ vs.length; rw [hn.1]; exact h.big
    small := by show vs.length ≤ 65536; rw [hn.1]; exact h.small
    wl := by show p.m.wear.length = vs.length; rw [hn.1]; exact h.wl }
theorem Live.write_keepsB {B : Nat} {fr : Fs} {p : P} {st : List (List UInt8)} {i : Nat} (Φ : P → Prop) (h1 : ∀ p, Φ p → Φ p.turned) (h2 : ∀ p c, Φ p → Φ (p.more c))
    (h3 : ∀ (B : Nat) fr p st i b m', B ≤ 1000000000 → Live B fr p st → i < p.count → b.length = 48 → Wrote (p.freed.getD 0 0) (plan (frameWords i (p.version + 1) b)) p.m m' B → Φ p → Φ (p.moved i (p.freed.getD 0 0) m'))
    (h : Live B fr p st) (hB : B ≤ 900000000) (hi : i < p.count) {b : List UInt8} (hb : b.length = 48) {p' : P} (he : p.write i b = (p', 0)) (hp : Φ p) : Φ p' := by
  have ha : p.access (i : Int) = 0 := by rw [h.access, if_neg (by omega)]
  have e0 : p.write i b = if p.move.2 ≠ 0 then p.move else p.move.1.place i b := by
    unfold P.write
    rw [if_neg (by omega), ha, if_neg (by simp), Int.toNat_natCast]
  rw [e0] at he
  have fin : ∀ (B2 : Nat) fr2 p2 st2, Live B2 fr2 p2 st2 → B2 ≤ 950000000 → p2.count = p.count → Φ p2 → p2.place i b = (p', 0) → Φ p' := fun B2 fr2 p2 st2 hl hB2 hc hp2 he2 => by
    rcases hl.place (i := i) (by omega) (by omega) hb with ⟨m', fr', e1, hw, _, _⟩ | ⟨m', fr', e1, _⟩
    · rw [e1] at he2
      cases he2
      exact h3 _ _ _ _ _ _ _ (by omega) hl (by omega) hb hw hp2
    · rw [e1] at he2; cases he2
  cases e : p.holds.getD p.turn none with
  | none =>
    rw [move_none e, if_neg (by simp)] at he
    exact fin _ _ _ _ h.turned (by omega) rfl (h1 _ hp) he
  | some j =>
    obtain ⟨c, c1, c2, c3⟩ := h.move_some e
    have hj := h.held e
    rcases (h.turned.more (c := c) (by omega)).place (i := j) (by omega) hj (h.st_len hj) with ⟨m', fr', e1, hw, hl, _⟩ | ⟨m', fr', e1, _⟩
    · rw [c3, e1, if_neg (by simp)] at he
      exact fin _ _ _ _ hl (by omega) rfl (h3 _ _ _ _ _ _ _ (by omega) (h.turned.more (c := c) (by omega)) hj (h.st_len hj) hw (h2 _ _ (h1 _ hp))) he
    · rw [c3, e1, if_pos (by simp)] at he
      cases he
/-- A write leaves code words. -/
theorem Live.write_coded {B : Nat} {fr : Fs} {p : P} {st : List (List UInt8)} {i : Nat} (hc : Coded p.m.words) (h : Live B fr p st) (hB : B ≤ 900000000) (hi : i < p.count) {b : List UInt8} (hb : b.length = 48) {p' : P} (he : p.write i b = (p', 0)) : Coded p'.m.words :=
  Live.write_keepsB (fun p => Coded p.m.words) (fun _ h => h) (fun _ _ h => h) (fun B fr p st i b m' hB hl hi hb hw hc => by
    show Coded m'.words
    rw [hw.words]
    have hcp := hl.count_pos
    have hver := hl.version
    exact hc.putw _ _ (fun y hy => plan_lt (Fr.mk i (p.version + 1) b).words_length (fun k => (Fr.mk i (p.version + 1) b).words_lt (by simp only; omega) (by simp only; omega) k) hy)) h hB hi hb he hc
theorem new_coded (n : Nat) (en : Int) : Coded (Cel.Mem.new n en).words := fun a ha => by
  refine ⟨0, by omega, ?_⟩
  have h : (Cel.Mem.new n en).words.getD a 0 = 0 := by
    show (List.replicate n (0 : UInt32)).getD a 0 = 0
    simp only [List.getD, List.getElem?_replicate]
    split <;> rfl
  rw [h]
  decide +kernel
end Go.Proofs.Ytnlhammgcemchaa.Pg
