/-
  What the promises of the secure channel come to, plainly.
-/
import Derived.Test.YtibaibdgpnkdnaaGreatDoorSec
namespace Go.Proofs.YtibaibdgpnkdnaaGreatDoor.Sec
set_option maxRecDepth 100000
set_option linter.unusedSimpArgs false
set_option linter.unusedVariables false
open Go.Proofs.YtibaibdgpnkdnaaGreatDoor
set_option maxHeartbeats 1000000

theorem wrap_facts {s : S} {x : Apd.Cmd} (h : wrapE s x = 0) : s.shut = false ∧ chkC x = 0 ∧ Apd.cok x.cla = true ∧ ¬ x.cla / 4 % 2 = 1 ∧ ¬ x.cla / 16 % 2 = 1 ∧ sz x.d.length (hb s.lvl 2) + (if hb s.lvl 1 then 8 else 0) ≤ 65535 := by
  unfold wrapE at h
  split at h
  · cases h
  rename_i h1
  split at h
  · rename_i h2; exact absurd h h2
  rename_i h2
  split at h
  · cases h
  rename_i h3
  by_cases h4 : 65535 < sz x.d.length (hb s.lvl 2) + (if hb s.lvl 1 then 8 else 0)
  · rw [if_pos h4] at h; cases h
  refine ⟨by simpa using h1, by simpa using h2, ?_, fun e => h3 (.inr (.inl e)), fun e => h3 (.inr (.inr e)), by omega⟩
  cases hc : Apd.cok x.cla with
  | true => rfl
  | false => exact absurd (.inl hc) h3
theorem cok_add {c : Int} (h : Apd.cok c = true) (h4 : ¬ c / 4 % 2 = 1) : Apd.cok (c + 4) = true ∧ (c + 4) / 4 % 2 = 1 ∧ (c + 4) / 16 % 2 = c / 16 % 2 ∧ c + 4 ≤ 254 ∧ 0 ≤ c := by
  have := of_decide_eq_true h
  refine ⟨decide_eq_true ?_, ?_, ?_, ?_, ?_⟩ <;> omega
theorem byt_iff (z : Int) : Apd.byt z = true ↔ 0 ≤ z ∧ z ≤ 255 := by unfold Apd.byt; simp
theorem chk_more {cla ins p1 p2 le : Int} {n m : Nat} {lg : Bool} (h : Apd.chk cla ins p1 p2 n le lg = 0) (hc : Apd.cok cla = true) (h4 : ¬ cla / 4 % 2 = 1) (h8 : 8 ≤ m) (hm : m ≤ 65535) : Apd.chk (cla + 4) ins p1 p2 m le (lg || decide (255 < m)) = 0 := by
  obtain ⟨_, _, _, hc4, hc0⟩ := cok_add hc h4
  unfold Apd.chk at h ⊢
  split at h
  · cases h
  rename_i h1
  split at h
  · cases h
  rename_i h2
  split at h
  · cases h
  rename_i h3
  split at h
  · cases h
  rename_i h5
  have h1 : Apd.byt cla = true ∧ Apd.byt ins = true ∧ Apd.byt p1 = true ∧ Apd.byt p2 = true := Decidable.not_not.1 h1
  rw [if_neg (by rw [Decidable.not_not]; exact ⟨(byt_iff _).2 ⟨by omega, by omega⟩, h1.2⟩), if_neg (by omega)]
  have hD : ¬ Apd.maxD (lg || decide (255 < m)) < m := by
    unfold Apd.maxD
    cases lg <;> by_cases hb : 255 < m <;> simp [hb] <;> omega
  have hL : ¬ (le < 0 ∨ Apd.maxL (lg || decide (255 < m)) < le) := by
    unfold Apd.maxL at h5 ⊢
    cases lg <;> by_cases hb : 255 < m <;> simp [hb] at h5 ⊢ <;> omega
  rw [if_neg hD, if_neg hL, if_neg (by omega)]
theorem cut8 (a b : List UInt8) (h : b.length = 8) : (a ++ b).drop ((a ++ b).length - 8) = b ∧ (a ++ b).take ((a ++ b).length - 8) = a := by
  rw [List.length_append, h, Nat.add_sub_cancel, List.drop_left, List.take_left]
  exact ⟨rfl, rfl⟩
/-- What Wrap hands out, when the level has LevelMac. -/
theorem wrap_mac {s : S} {x : Apd.Cmd} (h : wrapE s x = 0) (hm : hb s.lvl 1 = true) : wrap s x = ({ s with cnt := s.cnt + 1, exp := true, chain := wrapM s x }, ⟨x.cla + 4, x.ins, x.p1, x.p2, wrapD s x ++ wrapM s x, x.le, x.long || decide (255 < (wrapD s x ++ wrapM s x).length)⟩) := by
  unfold wrap
  rw [if_neg (fun e => e h), if_neg (by rw [hm]; decide)]
theorem wrap_no {s : S} {x : Apd.Cmd} (h : wrapE s x = 0) (hm : hb s.lvl 1 = false) : wrap s x = ({ s with cnt := s.cnt + 1, exp := true }, x) := by
  unfold wrap
  rw [if_neg (fun e => e h), if_pos hm]
theorem wrap_ok {s : S} (h : Ok s) (x : Apd.Cmd) : Ok (wrap s x).1 := by
  unfold wrap
  split
  · exact h
  split
  · exact { h with }
  · exact { h with chain := cmac_length _ _ _ _ _ _ _ h }
/-- The protected command passes the first tests of the other side. -/
theorem wrap_shape {s s' : S} {x : Apd.Cmd} (hk : Ok s) (h : wrapE s x = 0) (hm : hb s.lvl 1 = true) (hl : s'.lvl = s.lvl) (hs : s'.shut = false) (y : Apd.Cmd) (hy : y = (wrap s x).2) :
    unwrapE s' y = if y.d.drop (y.d.length - 8) ≠ cmac s' y.cla y.ins y.p1 y.p2 y.le (y.d.take (y.d.length - 8)) then 17
      else if hb s'.lvl 2 = true ∧ show? { s' with cnt := s'.cnt + 1 } false (y.d.take (y.d.length - 8)) = none then 4 else 0 := by
  obtain ⟨_, f2, f3, f4, f5, f6⟩ := wrap_facts h
  obtain ⟨g1, g2, g3, g4, g5⟩ := cok_add f3 f4
  rw [wrap_mac h hm] at hy
  subst hy
  have hM : (wrapM s x).length = 8 := cmac_length _ _ _ _ _ _ _ hk
  have hD := wrapD_length s x hk.enc
  rw [hm, if_pos rfl] at f6
  have hlen : (wrapD s x ++ wrapM s x).length = (wrapD s x).length + 8 := by rw [List.length_append, hM]
  unfold unwrapE
  rw [if_neg (by rw [hs]; decide)]
  have hc : chkC ⟨x.cla + 4, x.ins, x.p1, x.p2, wrapD s x ++ wrapM s x, x.le, x.long || decide (255 < (wrapD s x ++ wrapM s x).length)⟩ = 0 := by
    unfold chkC at f2 ⊢
    exact chk_more f2 f3 f4 (by rw [hlen]; omega) (by rw [hlen, hD]; exact f6)
  rw [if_neg (fun e => e hc)]
  rw [if_neg (by
    rintro (e | e | e)
    · have e : Apd.cok (x.cla + 4) = false := e
      rw [g1] at e; cases e
    · exact f5 (g3 ▸ e)
    · rw [hl, hm] at e; exact absurd e.2 (by decide))]
  rw [if_neg (by rw [hl, hm]; decide)]
  rw [if_neg (by
    rintro (e | e)
    · exact e g2
    · have e : (wrapD s x ++ wrapM s x).length < 8 := e
      omega)]
/-- What one side protects, the other one accepts, and returns as it was. -/
theorem unwrap_wrap {s : S} (hk : Ok s) (x : Apd.Cmd) (h : wrapE s x = 0) :
    unwrapE s (wrap s x).2 = 0 ∧ (unwrap s (wrap s x).2).1 = (wrap s x).1 ∧ (unwrap s (wrap s x).2).2 = { x with long := (wrap s x).2.long } := by
  obtain ⟨f1, f2, f3, f4, f5, f6⟩ := wrap_facts h
  cases hm : hb s.lvl 1 with
  | false =>
    rw [wrap_no h hm]
    have he : unwrapE s x = 0 := by
      unfold unwrapE
      rw [if_neg (by rw [f1]; decide), if_neg (fun e => e f2), if_neg (by
        rintro (e | e | e)
        · rw [f3] at e; cases e
        · exact f5 e
        · exact f4 e.1), if_pos hm]
    refine ⟨he, ?_, ?_⟩ <;> (show _ = _; unfold unwrap; rw [if_neg (by rw [f1]; decide), if_neg (fun e => e he), if_pos hm])
  | true =>
    have hsh := wrap_shape (s' := s) hk h hm rfl f1 _ rfl
    rw [wrap_mac h hm] at hsh ⊢
    have hM : (wrapM s x).length = 8 := cmac_length _ _ _ _ _ _ _ hk
    obtain ⟨c1, c2⟩ := cut8 (wrapD s x) (wrapM s x) hM
    have hshow : hb s.lvl 2 = true → show? { s with cnt := s.cnt + 1 } false (wrapD s x) = some x.d := fun e => by
      have : wrapD s x = hide { s with cnt := s.cnt + 1 } false x.d := by unfold wrapD; rw [if_pos e]
      rw [this]
      exact show_hide _ false x.d hk.enc
    have he : unwrapE s ⟨x.cla + 4, x.ins, x.p1, x.p2, wrapD s x ++ wrapM s x, x.le, x.long || decide (255 < (wrapD s x ++ wrapM s x).length)⟩ = 0 := by
      rw [hsh]
      rw [if_neg (by
        intro e
        refine e ?_
        show (wrapD s x ++ wrapM s x).drop _ = cmac s (x.cla + 4) x.ins x.p1 x.p2 x.le ((wrapD s x ++ wrapM s x).take _)
        rw [c1, c2]; rfl)]
      rw [if_neg (by
        rintro ⟨e, e2⟩
        have e2 : show? { s with cnt := s.cnt + 1 } false ((wrapD s x ++ wrapM s x).take ((wrapD s x ++ wrapM s x).length - 8)) = none := e2
        rw [c2, hshow e] at e2
        cases e2)]
    have hud : unwrapD s ⟨x.cla + 4, x.ins, x.p1, x.p2, wrapD s x ++ wrapM s x, x.le, x.long || decide (255 < (wrapD s x ++ wrapM s x).length)⟩ = x.d := by
      unfold unwrapD
      show (if hb s.lvl 2 = true then (show? _ false ((wrapD s x ++ wrapM s x).take ((wrapD s x ++ wrapM s x).length - 8))).getD [] else (wrapD s x ++ wrapM s x).take ((wrapD s x ++ wrapM s x).length - 8)) = x.d
      rw [c2]
      split
      · rename_i e; rw [hshow e]; rfl
      · rename_i e; unfold wrapD; rw [if_neg e]
    refine ⟨he, ?_, ?_⟩
    · show (unwrap s _).1 = _
      unfold unwrap
      rw [if_neg (by rw [f1]; decide), if_neg (fun e => e he), if_neg (by rw [hm]; decide)]
      show ({ s with cnt := s.cnt + 1, exp := true, chain := (wrapD s x ++ wrapM s x).drop ((wrapD s x ++ wrapM s x).length - 8) } : S) = _
      rw [c1]
    · show (unwrap s _).2 = _
      unfold unwrap
      rw [if_neg (by rw [f1]; decide), if_neg (fun e => e he), if_neg (by rw [hm]; decide), hud]
      show (⟨x.cla + 4 - 4, _, _, _, _, _, _⟩ : Apd.Cmd) = _
      rw [Int.add_sub_cancel]
/-- A command that was protected is refused under another chaining value. -/
theorem wrap_other {s s' : S} (hk : Ok s) (x : Apd.Cmd) (h : wrapE s x = 0) (hm : hb s.lvl 1 = true) (hl : s'.lvl = s.lvl) (hs : s'.shut = false) (hkey : s'.mac = s.mac) (hch : s'.chain ≠ s.chain) (hcl : s'.chain.length = 8) : unwrapE s' (wrap s x).2 = 17 := by
  have hsh := wrap_shape (s' := s') hk h hm hl hs _ rfl
  rw [wrap_mac h hm] at hsh ⊢
  have hM : (wrapM s x).length = 8 := cmac_length _ _ _ _ _ _ _ hk
  obtain ⟨c1, c2⟩ := cut8 (wrapD s x) (wrapM s x) hM
  rw [hsh, if_pos]
  show (wrapD s x ++ wrapM s x).drop _ ≠ cmac s' (x.cla + 4) x.ins x.p1 x.p2 x.le ((wrapD s x ++ wrapM s x).take _)
  rw [c1, c2]
  unfold wrapM cmac
  rw [hkey]
  exact fun e => hch (mcB_iv s.mac s.chain s'.chain _ hk.mac hk.chain hcl e).symm
/-- The response. -/
theorem opn_sea {s : S} (hk : Ok s) (d : List UInt8) (sw : Int) (h : sealE s d sw = 0) :
    openE s (sea s d sw).2.1 sw = 0 ∧ (opn s (sea s d sw).2.1 sw).1 = (sea s d sw).1 ∧ (opn s (sea s d sw).2.1 sw).2 = (d, sw) ∧ (sea s d sw).2.2 = sw := by
  have hn : ¬ (s.shut = true ∨ s.exp = false) := by
    intro e; unfold sealE at h; rw [if_pos e] at h; cases h
  have hsw : ¬ (sw < 0 ∨ 65535 < sw) := by
    intro e; unfold sealE at h; rw [if_neg hn, if_pos e] at h; cases h
  cases hm : hb s.lvl 16 with
  | false =>
    have e1 : sea s d sw = ({ s with exp := false }, d, sw) := by unfold sea; rw [if_neg (fun e => e h), if_pos hm]
    rw [e1]
    have he : openE s d sw = 0 := by unfold openE; rw [if_neg hn, if_neg hsw, if_pos hm]
    have ho : openD s d = d := by unfold openD; rw [if_pos hm]
    refine ⟨he, ?_, ?_, rfl⟩ <;> (show _ = _; unfold opn; rw [if_neg hn, if_neg (fun e => e he)])
    show (openD s d, sw) = _
    rw [ho]
  | true =>
    have e1 : sea s d sw = ({ s with exp := false }, sealD s d ++ rmc s (sealD s d) sw, sw) := by unfold sea; rw [if_neg (fun e => e h), if_neg (by rw [hm]; decide)]
    rw [e1]
    have hM : (rmc s (sealD s d) sw).length = 8 := rmc_length _ _ _ hk
    obtain ⟨c1, c2⟩ := cut8 (sealD s d) (rmc s (sealD s d) sw) hM
    have hshow : hb s.lvl 32 = true → show? s true (sealD s d) = some d := fun e => by
      have : sealD s d = hide s true d := by unfold sealD; rw [if_pos e]
      rw [this]
      exact show_hide _ true d hk.enc
    have he : openE s (sealD s d ++ rmc s (sealD s d) sw) sw = 0 := by
      unfold openE
      rw [if_neg hn, if_neg hsw, if_neg (by rw [hm]; decide), if_neg (by rw [List.length_append, hM]; omega), c1, c2, if_neg (fun e => e rfl), if_neg (fun e => by rw [hshow e.1] at e; cases e.2)]
    have ho : openD s (sealD s d ++ rmc s (sealD s d) sw) = d := by
      unfold openD
      rw [if_neg (by rw [hm]; decide), c2]
      split
      · rename_i e; rw [hshow e]; rfl
      · rename_i e; unfold sealD; rw [if_neg e]
    refine ⟨he, ?_, ?_, rfl⟩
    · show (opn s _ sw).1 = _
      unfold opn
      rw [if_neg hn, if_neg (fun e => e he)]
    · show (opn s _ sw).2 = _
      unfold opn
      rw [if_neg hn, if_neg (fun e => e he), ho]
/-- The size of what is protected. -/
theorem wrap_size {s : S} (hk : Ok s) (x : Apd.Cmd) (h : wrapE s x = 0) (hm : hb s.lvl 1 = true) :
    (wrap s x).2.d.length = (if hb s.lvl 2 = true ∧ 0 < x.d.length then x.d.length + 8 - x.d.length % 8 else x.d.length) + 8 ∧ (wrap s x).2.cla = x.cla + 4 ∧ (wrap s x).2.ins = x.ins ∧ (wrap s x).2.p1 = x.p1 ∧ (wrap s x).2.p2 = x.p2 ∧ (wrap s x).2.le = x.le ∧
      (hb s.lvl 2 = false → (wrap s x).2.d.take x.d.length = x.d) := by
  rw [wrap_mac h hm]
  have hM : (wrapM s x).length = 8 := cmac_length _ _ _ _ _ _ _ hk
  have hD := wrapD_length s x hk.enc
  refine ⟨?_, rfl, rfl, rfl, rfl, rfl, fun e => ?_⟩
  · show (wrapD s x ++ wrapM s x).length = _
    rw [List.length_append, hM, hD]
    unfold sz
    split <;> omega
  · show (wrapD s x ++ wrapM s x).take _ = _
    have : wrapD s x = x.d := by unfold wrapD; rw [if_neg (by rw [e]; decide)]
    rw [this, List.take_left]
/-! One bit turned. -/
theorem unwrap_bad {s : S} {y : Apd.Cmd} (hm : hb s.lvl 1 = true) (h : y.d.drop (y.d.length - 8) ≠ cmac s y.cla y.ins y.p1 y.p2 y.le (y.d.take (y.d.length - 8))) : unwrapE s y ≠ 0 := by
  unfold unwrapE
  split
  · decide
  split
  · assumption
  split
  · decide
  rw [if_neg (by rw [hm]; decide)]
  split
  · decide
  first | decide | (rw [if_pos h]; decide)
/-- The bytes that the MAC of a command covers. -/
def msg (cla ins p1 p2 le : Int) (d : List UInt8) : List UInt8 := [by8 cla, by8 ins, by8 p1, by8 p2] ++ three (d.length + 8 : Nat) ++ three le ++ d
theorem msg_len (cla ins p1 p2 le : Int) (d : List UInt8) : (msg cla ins p1 p2 le d).length = d.length + 10 := by
  unfold msg three; simp
theorem set_cut (a m : List UInt8) (i : Nat) (b : UInt8) (hm : m.length = 8) :
    ((a ++ m).set i b).drop (((a ++ m).set i b).length - 8) = (if i < a.length then m else m.set (i - a.length) b) ∧
    ((a ++ m).set i b).take (((a ++ m).set i b).length - 8) = (if i < a.length then a.set i b else a) := by
  rw [List.length_set, List.length_append, hm, Nat.add_sub_cancel]
  by_cases h : i < a.length
  · rw [if_pos h, if_pos h, List.set_append_left _ _ h]
    have : (a.set i b).length = a.length := List.length_set
    refine ⟨?_, ?_⟩
    · rw [← this, List.drop_left]
    · rw [← this, List.take_left]
  · rw [if_neg h, if_neg h, List.set_append_right _ _ (by omega), List.drop_left, List.take_left]
    exact ⟨rfl, rfl⟩
theorem set_ne (m : List UInt8) (j : Nat) (b : UInt8) (hj : j < m.length) (hb : b ≠ m.getD j 0) : m.set j b ≠ m := by
  intro e
  have h1 : (m.set j b)[j]? = m[j]? := by rw [e]
  rw [List.getElem?_set_self hj, List.getElem?_eq_getElem hj] at h1
  injection h1 with h1
  exact hb (by simp [List.getD, hj, h1])
/-- A byte of the data or of the MAC turned: the other side refuses it. -/
theorem only_data {s : S} {x : Apd.Cmd} (hk : Ok s) (h : wrapE s x = 0) (hm : hb s.lvl 1 = true) (y : Apd.Cmd) (hy : y = (wrap s x).2) (i : Nat) (b : UInt8) (hi : i < y.d.length) (hne : b ≠ y.d.getD i 0) :
    unwrapE s { y with d := y.d.set i b } ≠ 0 := by
  rw [wrap_mac h hm] at hy
  subst hy
  have hM : (wrapM s x).length = 8 := cmac_length _ _ _ _ _ _ _ hk
  obtain ⟨c1, c2⟩ := set_cut (wrapD s x) (wrapM s x) i b hM
  refine unwrap_bad hm ?_
  show ((wrapD s x ++ wrapM s x).set i b).drop _ ≠ cmac s (x.cla + 4) x.ins x.p1 x.p2 x.le (((wrapD s x ++ wrapM s x).set i b).take _)
  rw [c1, c2]
  have hi2 : i < (wrapD s x).length + 8 := by
    have : i < (wrapD s x ++ wrapM s x).length := hi
    rw [List.length_append, hM] at this
    exact this
  have hne : b ≠ (wrapD s x ++ wrapM s x).getD i 0 := hne
  by_cases hl : i < (wrapD s x).length
  · rw [if_pos hl, if_pos hl]
    have hg : (wrapD s x ++ wrapM s x).getD i 0 = (wrapD s x).getD i 0 := by simp [List.getD, List.getElem?_append_left hl]
    rw [hg] at hne
    have hset : msg (x.cla + 4) x.ins x.p1 x.p2 x.le ((wrapD s x).set i b) = (msg (x.cla + 4) x.ins x.p1 x.p2 x.le (wrapD s x)).set (i + 10) b := by
      unfold msg
      rw [List.length_set, List.set_append_right _ _ (by simp [three])]
      simp [three]
    have hget : (msg (x.cla + 4) x.ins x.p1 x.p2 x.le (wrapD s x)).getD (i + 10) 0 = (wrapD s x).getD i 0 := by
      unfold msg
      simp only [List.getD]
      rw [List.getElem?_append_right (by simp [three])]
      simp [three]
    have := mcB_set s.mac s.chain (msg (x.cla + 4) x.ins x.p1 x.p2 x.le (wrapD s x)) (i + 10) b hk.mac hk.chain (by rw [msg_len]; omega) (by rw [hget]; exact hne)
    rw [← hset] at this
    exact fun e => this e.symm
  · rw [if_neg hl, if_neg hl]
    have hg : (wrapD s x ++ wrapM s x).getD i 0 = (wrapM s x).getD (i - (wrapD s x).length) 0 := by simp [List.getD, List.getElem?_append_right (Nat.le_of_not_lt hl)]
    rw [hg] at hne
    exact set_ne _ _ _ (by omega) hne
theorem only_head {s : S} {x : Apd.Cmd} (hk : Ok s) (h : wrapE s x = 0) (hm : hb s.lvl 1 = true) (y : Apd.Cmd) (hy : y = (wrap s x).2) (y' : Apd.Cmd) (k : Nat) (b : UInt8) (hk10 : k < 10) (hd : y'.d = y.d)
    (hs : msg y'.cla y'.ins y'.p1 y'.p2 y'.le (wrapD s x) = (msg y.cla y.ins y.p1 y.p2 y.le (wrapD s x)).set k b) (hne : b ≠ (msg y.cla y.ins y.p1 y.p2 y.le (wrapD s x)).getD k 0) : unwrapE s y' ≠ 0 := by
  rw [wrap_mac h hm] at hy
  subst hy
  have hM : (wrapM s x).length = 8 := cmac_length _ _ _ _ _ _ _ hk
  obtain ⟨c1, c2⟩ := cut8 (wrapD s x) (wrapM s x) hM
  have hd : y'.d = wrapD s x ++ wrapM s x := hd
  refine unwrap_bad hm ?_
  rw [hd, c1, c2]
  have := mcB_set s.mac s.chain (msg (x.cla + 4) x.ins x.p1 x.p2 x.le (wrapD s x)) k b hk.mac hk.chain (by rw [msg_len]; omega) hne
  have hs : msg y'.cla y'.ins y'.p1 y'.p2 y'.le (wrapD s x) = (msg (x.cla + 4) x.ins x.p1 x.p2 x.le (wrapD s x)).set k b := hs
  rw [← hs] at this
  exact fun e => this e.symm
theorem only_ins {s : S} {x : Apd.Cmd} (hk : Ok s) (h : wrapE s x = 0) (hm : hb s.lvl 1 = true) (y : Apd.Cmd) (hy : y = (wrap s x).2) (v : Int) (hv : by8 v ≠ by8 y.ins) : unwrapE s { y with ins := v } ≠ 0 :=
  only_head hk h hm y hy _ 1 (by8 v) (by omega) rfl (by simp [msg]) (by simpa [msg] using hv)
theorem only_p1 {s : S} {x : Apd.Cmd} (hk : Ok s) (h : wrapE s x = 0) (hm : hb s.lvl 1 = true) (y : Apd.Cmd) (hy : y = (wrap s x).2) (v : Int) (hv : by8 v ≠ by8 y.p1) : unwrapE s { y with p1 := v } ≠ 0 :=
  only_head hk h hm y hy _ 2 (by8 v) (by omega) rfl (by simp [msg]) (by simpa [msg] using hv)
theorem only_p2 {s : S} {x : Apd.Cmd} (hk : Ok s) (h : wrapE s x = 0) (hm : hb s.lvl 1 = true) (y : Apd.Cmd) (hy : y = (wrap s x).2) (v : Int) (hv : by8 v ≠ by8 y.p2) : unwrapE s { y with p2 := v } ≠ 0 :=
  only_head hk h hm y hy _ 3 (by8 v) (by omega) rfl (by simp [msg]) (by simpa [msg] using hv)
/-- Responses: a byte of what the card protected turned. -/
theorem sea_mac {s : S} {d : List UInt8} {sw : Int} (h : sealE s d sw = 0) (hm : hb s.lvl 16 = true) : sea s d sw = ({ s with exp := false }, sealD s d ++ rmc s (sealD s d) sw, sw) := by
  unfold sea; rw [if_neg (fun e => e h), if_neg (by rw [hm]; decide)]
theorem seal_facts {s : S} {d : List UInt8} {sw : Int} (h : sealE s d sw = 0) : s.shut = false ∧ s.exp = true ∧ 0 ≤ sw ∧ sw ≤ 65535 := by
  unfold sealE at h
  split at h
  · cases h
  rename_i h1
  split at h
  · cases h
  rename_i h2
  refine ⟨?_, ?_, by omega, by omega⟩
  · cases e : s.shut with
    | false => rfl
    | true => exact absurd (.inl e) h1
  · cases e : s.exp with
    | true => rfl
    | false => exact absurd (.inr e) h1
theorem open_bad {s : S} {d : List UInt8} {sw : Int} (h1 : s.shut = false) (h2 : s.exp = true) (h3 : 0 ≤ sw) (h4 : sw ≤ 65535) (hm : hb s.lvl 16 = true) (hl : 8 ≤ d.length) (h : d.drop (d.length - 8) ≠ rmc s (d.take (d.length - 8)) sw) : openE s d sw = 17 := by
  unfold openE
  rw [if_neg (by rw [h1, h2]; decide), if_neg (by omega), if_neg (by rw [hm]; decide), if_neg (by omega), if_pos h]
theorem only_rdata {s : S} {d : List UInt8} {sw : Int} (hk : Ok s) (h : sealE s d sw = 0) (hm : hb s.lvl 16 = true) (r : List UInt8) (hr : r = (sea s d sw).2.1) (i : Nat) (b : UInt8) (hi : i < r.length) (hne : b ≠ r.getD i 0) : openE s (r.set i b) sw = 17 := by
  obtain ⟨f1, f2, f3, f4⟩ := seal_facts h
  rw [sea_mac h hm] at hr
  subst hr
  have hM : (rmc s (sealD s d) sw).length = 8 := rmc_length _ _ _ hk
  obtain ⟨c1, c2⟩ := set_cut (sealD s d) (rmc s (sealD s d) sw) i b hM
  have hi2 : i < (sealD s d).length + 8 := by
    have : i < (sealD s d ++ rmc s (sealD s d) sw).length := hi
    rw [List.length_append, hM] at this
    exact this
  have hne : b ≠ (sealD s d ++ rmc s (sealD s d) sw).getD i 0 := hne
  refine open_bad f1 f2 f3 f4 hm (by rw [List.length_set, List.length_append, hM]; omega) ?_
  show ((sealD s d ++ rmc s (sealD s d) sw).set i b).drop _ ≠ rmc s (((sealD s d ++ rmc s (sealD s d) sw).set i b).take _) sw
  rw [c1, c2]
  by_cases hl : i < (sealD s d).length
  · rw [if_pos hl, if_pos hl]
    have hg : (sealD s d ++ rmc s (sealD s d) sw).getD i 0 = (sealD s d).getD i 0 := by simp [List.getD, List.getElem?_append_left hl]
    rw [hg] at hne
    have hset : (sealD s d).set i b ++ [by8 (sw / 256), by8 sw] = (sealD s d ++ [by8 (sw / 256), by8 sw]).set i b := by rw [List.set_append_left _ _ hl]
    have hget : (sealD s d ++ [by8 (sw / 256), by8 sw]).getD i 0 = (sealD s d).getD i 0 := by simp [List.getD, List.getElem?_append_left hl]
    have := mcB_set s.rmac s.chain (sealD s d ++ [by8 (sw / 256), by8 sw]) i b hk.rmac hk.chain (by rw [List.length_append]; omega) (by rw [hget]; exact hne)
    rw [← hset] at this
    exact fun e => this e.symm
  · rw [if_neg hl, if_neg hl]
    have hg : (sealD s d ++ rmc s (sealD s d) sw).getD i 0 = (rmc s (sealD s d) sw).getD (i - (sealD s d).length) 0 := by simp [List.getD, List.getElem?_append_right (Nat.le_of_not_lt hl)]
    rw [hg] at hne
    exact set_ne _ _ _ (by omega) hne
theorem only_sw {s : S} {d : List UInt8} {sw : Int} (hk : Ok s) (h : sealE s d sw = 0) (hm : hb s.lvl 16 = true) (r : List UInt8) (hr : r = (sea s d sw).2.1) (v : Int) (h0 : 0 ≤ v) (h1 : v ≤ 65535)
    (hv : (by8 (v / 256) ≠ by8 (sw / 256) ∧ by8 v = by8 sw) ∨ (by8 (v / 256) = by8 (sw / 256) ∧ by8 v ≠ by8 sw)) : openE s r v = 17 := by
  obtain ⟨f1, f2, f3, f4⟩ := seal_facts h
  rw [sea_mac h hm] at hr
  subst hr
  have hM : (rmc s (sealD s d) sw).length = 8 := rmc_length _ _ _ hk
  obtain ⟨c1, c2⟩ := cut8 (sealD s d) (rmc s (sealD s d) sw) hM
  refine open_bad f1 f2 h0 h1 hm (by show 8 ≤ (sealD s d ++ rmc s (sealD s d) sw).length; rw [List.length_append, hM]; omega) ?_
  show (sealD s d ++ rmc s (sealD s d) sw).drop _ ≠ rmc s ((sealD s d ++ rmc s (sealD s d) sw).take _) v
  rw [c1, c2]
  have hl : (sealD s d ++ [by8 (sw / 256), by8 sw]).length = (sealD s d).length + 2 := by rw [List.length_append]; rfl
  have g0 : (sealD s d ++ [by8 (sw / 256), by8 sw]).getD (sealD s d).length 0 = by8 (sw / 256) := by simp [List.getD]
  have g1 : (sealD s d ++ [by8 (sw / 256), by8 sw]).getD ((sealD s d).length + 1) 0 = by8 sw := by simp [List.getD]
  rcases hv with ⟨a, b⟩ | ⟨a, b⟩
  · have hset : sealD s d ++ [by8 (v / 256), by8 v] = (sealD s d ++ [by8 (sw / 256), by8 sw]).set (sealD s d).length (by8 (v / 256)) := by
      rw [b, List.set_append_right _ _ (by omega), Nat.sub_self]; rfl
    have := mcB_set s.rmac s.chain (sealD s d ++ [by8 (sw / 256), by8 sw]) (sealD s d).length (by8 (v / 256)) hk.rmac hk.chain (by omega) (by rw [g0]; exact a)
    rw [← hset] at this
    exact fun e => this e.symm
  · have hset : sealD s d ++ [by8 (v / 256), by8 v] = (sealD s d ++ [by8 (sw / 256), by8 sw]).set ((sealD s d).length + 1) (by8 v) := by
      rw [a, List.set_append_right _ _ (by omega), Nat.add_sub_cancel_left]; rfl
    have := mcB_set s.rmac s.chain (sealD s d ++ [by8 (sw / 256), by8 sw]) ((sealD s d).length + 1) (by8 v) hk.rmac hk.chain (by omega) (by rw [g1]; exact b)
    rw [← hset] at this
    exact fun e => this e.symm
end Go.Proofs.YtibaibdgpnkdnaaGreatDoor.Sec
