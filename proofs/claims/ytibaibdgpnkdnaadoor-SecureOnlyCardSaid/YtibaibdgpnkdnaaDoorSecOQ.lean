/-
  What SecureOnly comes to, plainly: a bit of a protected command, or of a protected response, turned.
-/
import Derived.Test.YtibaibdgpnkdnaaDoorSecL
import Derived.Test.YtibaibdgpnkdnaaDoorSecOP
namespace Go.Proofs.YtibaibdgpnkdnaaDoor
set_option maxRecDepth 100000
set_option linter.unusedSimpArgs false
set_option linter.unusedVariables false
open Go.RowKit

namespace Sec
theorem wrap_bytes {s : S} {x y : Apd.Cmd} {s1 : S} (h : wrapE s x = 0) (hm : hb s.lvl 1 = true) (hx : wrap s x = (s1, y)) :
    (0 ≤ y.ins ∧ y.ins ≤ 255) ∧ (0 ≤ y.p1 ∧ y.p1 ≤ 255) ∧ (0 ≤ y.p2 ∧ y.p2 ≤ 255) := by
  have e := wrap_mac h hm
  rw [hx] at e
  obtain ⟨f1, f2⟩ := Prod.mk.inj e
  obtain ⟨_, hc, _⟩ := wrap_facts h
  unfold chkC Apd.chk at hc
  split at hc
  · cases hc
  rename_i h1
  obtain ⟨_, h2, h3, h4⟩ := Decidable.not_not.1 h1
  rw [f2]
  exact ⟨(byt_iff _).1 h2, (byt_iff _).1 h3, (byt_iff _).1 h4⟩
theorem wrap_len {s : S} {x y : Apd.Cmd} {s1 : S} (hk : Ok s) (h : wrapE s x = 0) (hm : hb s.lvl 1 = true) (hx : wrap s x = (s1, y)) (hd : x.d.length ≤ 600) : y.d.length ≤ 616 := by
  have e := wrap_mac h hm
  rw [hx] at e
  obtain ⟨f1, f2⟩ := Prod.mk.inj e
  have hM : (wrapM s x).length = 8 := cmac_length _ _ _ _ _ _ _ hk
  have hD := wrapD_length s x hk.enc
  have hsz : ∀ v, sz x.d.length v ≤ x.d.length + 8 := fun v => by unfold sz; split <;> omega
  have := hsz (hb s.lvl 2)
  rw [f2]
  simp [hM, hD]
  omega
/-- A small number with one of its bits turned is another byte. -/
theorem turn_int (z : Int) (k : Nat) (h : 0 ≤ z ∧ z ≤ 255) (hk : k < 8) : ∃ y : Int, bits .xor .i64 z ((2 : Int) ^ k) = y ∧ by8 y ≠ by8 z := by
  obtain ⟨a, rfl⟩ := Int.eq_ofNat_of_zero_le h.1
  obtain ⟨y, h1, h2, h3⟩ := flip_i64 a k 8 (by omega) (by omega) hk
  refine ⟨y, ?_, by8_ne h2 (by omega) h3⟩
  rw [← h1, show ((2 : Int) ^ k) = ((2 ^ k : Nat) : Int) by simp]
theorem one_p1 {s s1 : S} {x : Apd.Cmd} {y0 y1 y2 y3 yle : Int} {yd : List UInt8} {ylong : Bool} (hk : Ok s) (h : wrapE s x = 0) (hm : hb s.lvl 1 = true) (hx : wrap s x = (s1, ⟨y0, y1, y2, y3, yd, yle, ylong⟩)) (k : Nat) (hk8 : k < 8) :
    ∃ y' : Int, bits .xor .i64 y2 ((2 : Int) ^ k) = y' ∧ unwrapE s ⟨y0, y1, y', y3, yd, yle, ylong⟩ ≠ 0 := by
  obtain ⟨y', e, hne⟩ := turn_int y2 k (wrap_bytes h hm hx).2.1 hk8
  exact ⟨y', e, only_p1 hk h hm ⟨y0, y1, y2, y3, yd, yle, ylong⟩ (by rw [hx]) y' hne⟩
theorem one_p2 {s s1 : S} {x : Apd.Cmd} {y0 y1 y2 y3 yle : Int} {yd : List UInt8} {ylong : Bool} (hk : Ok s) (h : wrapE s x = 0) (hm : hb s.lvl 1 = true) (hx : wrap s x = (s1, ⟨y0, y1, y2, y3, yd, yle, ylong⟩)) (k : Nat) (hk8 : k < 8) :
    ∃ y' : Int, bits .xor .i64 y3 ((2 : Int) ^ k) = y' ∧ unwrapE s ⟨y0, y1, y2, y', yd, yle, ylong⟩ ≠ 0 := by
  obtain ⟨y', e, hne⟩ := turn_int y3 k (wrap_bytes h hm hx).2.2 hk8
  exact ⟨y', e, only_p2 hk h hm ⟨y0, y1, y2, y3, yd, yle, ylong⟩ (by rw [hx]) y' hne⟩
theorem one_ins {s s1 : S} {x : Apd.Cmd} {y0 y1 y2 y3 yle : Int} {yd : List UInt8} {ylong : Bool} (hk : Ok s) (h : wrapE s x = 0) (hm : hb s.lvl 1 = true) (hx : wrap s x = (s1, ⟨y0, y1, y2, y3, yd, yle, ylong⟩)) (k : Nat) (hk8 : k < 8) :
    ∃ y' : Int, bits .xor .i64 y1 ((2 : Int) ^ k) = y' ∧ unwrapE s ⟨y0, y', y2, y3, yd, yle, ylong⟩ ≠ 0 := by
  obtain ⟨y', e, hne⟩ := turn_int y1 k (wrap_bytes h hm hx).1 hk8
  exact ⟨y', e, only_ins hk h hm ⟨y0, y1, y2, y3, yd, yle, ylong⟩ (by rw [hx]) y' hne⟩
/-- A byte with one of its bits turned. -/
theorem turn_u8 (z : UInt8) (k : Nat) (hk : k < 8) : ∃ b : UInt8, bits .xor .u8 (z.toNat : Int) ((2 : Int) ^ k) = (b.toNat : Int) ∧ b ≠ z := by
  obtain ⟨y, h1, h2⟩ := flip_u8 ⟨z.toNat, z.toNat_lt⟩ ⟨k, hk⟩
  refine ⟨UInt8.ofNat y.val, ?_, fun e => h2 ?_⟩
  · rw [show ((2 : Int) ^ k) = ((2 ^ k : Nat) : Int) by simp, h1]; simp [Nat.mod_eq_of_lt y.isLt]
  · apply Fin.ext
    have := congrArg UInt8.toNat e
    simp [Nat.mod_eq_of_lt y.isLt] at this
    exact this
theorem one_data {s s1 : S} {x : Apd.Cmd} {y0 y1 y2 y3 yle : Int} {yd : List UInt8} {ylong : Bool} (hk : Ok s) (h : wrapE s x = 0) (hm : hb s.lvl 1 = true) (hx : wrap s x = (s1, ⟨y0, y1, y2, y3, yd, yle, ylong⟩)) (i k : Nat) (hi : i < yd.length) (hk8 : k < 8) :
    ∃ b : UInt8, bits .xor .u8 ((yd.getD i 0).toNat : Int) ((2 : Int) ^ k) = (b.toNat : Int) ∧ unwrapE s ⟨y0, y1, y2, y3, yd.set i b, yle, ylong⟩ ≠ 0 := by
  obtain ⟨b, e, hne⟩ := turn_u8 (yd.getD i 0) k hk8
  exact ⟨b, e, only_data hk h hm ⟨y0, y1, y2, y3, yd, yle, ylong⟩ (by rw [hx]) i b hi hne⟩
theorem one_rdata {s s2 : S} {d rr : List UInt8} {sw sw2 : Int} (hk : Ok s) (h : sealE s d sw = 0) (hm : hb s.lvl 16 = true) (hx : sea s d sw = (s2, rr, sw2)) (i k : Nat) (hi : i < rr.length) (hk8 : k < 8) :
    ∃ b : UInt8, bits .xor .u8 ((rr.getD i 0).toNat : Int) ((2 : Int) ^ k) = (b.toNat : Int) ∧ openE s (rr.set i b) sw = 17 := by
  obtain ⟨b, e, hne⟩ := turn_u8 (rr.getD i 0) k hk8
  exact ⟨b, e, only_rdata hk h hm rr (by rw [hx]) i b hi hne⟩
theorem by8_mod (a : Nat) : by8 (a : Int) = UInt8.ofNat (a % 256) := by
  unfold by8
  congr 1
theorem one_sw {s s2 : S} {d rr : List UInt8} {sw sw2 : Int} (hk : Ok s) (h : sealE s d sw = 0) (hm : hb s.lvl 16 = true) (hx : sea s d sw = (s2, rr, sw2)) (k : Nat) (hk16 : k < 16) :
    ∃ v : Int, bits .xor .i64 sw ((2 : Int) ^ k) = v ∧ openE s rr v = 17 := by
  obtain ⟨f1, f2, f3, f4⟩ := seal_facts h
  obtain ⟨a, rfl⟩ := Int.eq_ofNat_of_zero_le f3
  have ha : a < 2 ^ 16 := by omega
  obtain ⟨v, h1, h2, h3⟩ := flip_i64 a k 16 (by omega) ha hk16
  have h1' := xor_i64 a (2 ^ k) (by omega) (Nat.pow_lt_pow_right (by decide : 1 < 2) hk16)
  have hv : v = a ^^^ 2 ^ k := by have := h1.symm.trans h1'; exact Int.ofNat.inj this
  refine ⟨v, by rw [← h1, show ((2 : Int) ^ k) = ((2 ^ k : Nat) : Int) by simp], only_sw hk h hm rr (by rw [hx]) v (by omega) (by omega) ?_⟩
  have hb : ∀ z : Nat, z < 256 → ∀ z', z' < 256 → z ≠ z' → by8 (z : Int) ≠ by8 (z' : Int) := fun z hz z' hz' hne => by8_ne hz hz' hne
  have hd : ∀ z : Nat, by8 ((z : Int) / 256) = by8 ((z / 256 : Nat) : Int) := fun z => by rw [Int.natCast_ediv]; rfl
  have hl : ∀ z : Nat, by8 (z : Int) = by8 ((z % 256 : Nat) : Int) := fun z => by rw [by8_mod, by8_mod, Nat.mod_mod]
  rw [hd v, hd a, hl v, hl a]
  have hx1 : v % 256 = a % 256 ^^^ (2 ^ k) % 256 := by rw [hv]; exact Nat.xor_mod_two_pow (n := 8)
  have hx2 : v / 256 = a / 256 ^^^ (2 ^ k) / 256 := by rw [hv]; exact Nat.xor_div_two_pow (n := 8)
  by_cases h8 : k < 8
  · right
    have hp : 2 ^ k < 2 ^ 8 := Nat.pow_lt_pow_right (by decide) h8
    have e2 : v / 256 = a / 256 := by rw [hx2, Nat.div_eq_of_lt (show 2 ^ k < 256 by omega), Nat.xor_zero]
    exact ⟨by rw [e2], hb _ (by omega) _ (by omega) (by omega)⟩
  · left
    have hp : (2 ^ k) % 256 = 0 := by
      obtain ⟨j, rfl⟩ : ∃ j, k = 8 + j := ⟨k - 8, by omega⟩
      rw [Nat.pow_add]; exact Nat.mul_mod_right _ _
    have e2 : v % 256 = a % 256 := by rw [hx1, hp, Nat.xor_zero]
    exact ⟨hb _ (by omega) _ (by omega) (by omega), by rw [e2]⟩
/-- One turn, plainly. -/
theorem turn2 {s s1 : S} (hk : Ok s) (hs : s.shut = false) {x y : Apd.Cmd} (hd : x.d.length ≤ 600) (ha : wrapE s x = 0) (hx : wrap s x = (s1, y)) :
    y.d.length ≤ 65535 ∧ unwrapE s y = 0 ∧ unwrap s y = (s1, { x with long := y.long }) ∧ Ok s1 ∧ s1.lvl = s.lvl ∧ s1.shut = false ∧ s1.exp = true ∧ s1.cnt = s.cnt + 1 := by
  have hu := unwrap_wrap hk x ha
  have hk1 : Ok s1 := by have := wrap_ok hk x; rwa [hx] at this
  rw [hx] at hu
  have hlen : y.d.length ≤ 65535 ∧ s1.lvl = s.lvl ∧ s1.shut = false ∧ s1.exp = true ∧ s1.cnt = s.cnt + 1 := by
    cases h1 : hb s.lvl 1 with
    | false =>
      have e := wrap_no ha h1
      rw [hx] at e
      obtain ⟨f1, f2⟩ := Prod.mk.inj e
      exact ⟨by rw [f2]; omega, by rw [f1], by rw [f1]; exact hs, by rw [f1], by rw [f1]⟩
    | true =>
      have e := wrap_mac ha h1
      rw [hx] at e
      obtain ⟨f1, f2⟩ := Prod.mk.inj e
      have fa := (wrap_facts ha).2.2.2.2.2
      rw [h1, if_pos rfl] at fa
      have hM : (wrapM s x).length = 8 := cmac_length _ _ _ _ _ _ _ hk
      have hD := wrapD_length s x hk.enc
      exact ⟨by rw [f2]; simp [hM, hD]; omega, by rw [f1], by rw [f1]; exact hs, by rw [f1], by rw [f1]⟩
  exact ⟨hlen.1, hu.1, Prod.ext hu.2.1 hu.2.2, hk1, hlen.2⟩
theorem answer2 {s s2 : S} (hk : Ok s) (hs : s.shut = false) (he : s.exp = true) {d r : List UInt8} {sw sw2 : Int} (hd : d.length ≤ 600) (hsw : 0 ≤ sw ∧ sw ≤ 65535) (hx : sea s d sw = (s2, r, sw2)) :
    sealE s d sw = 0 ∧ sw2 = sw ∧ r.length ≤ 65536 ∧ openE s r sw = 0 ∧ opn s r sw = (s2, d, sw) ∧ Ok s2 ∧ s2.lvl = s.lvl ∧ s2.shut = false ∧ s2.cnt = s.cnt := by
  have hsz : ∀ v, sz d.length v + 8 ≤ 65536 := fun v => by unfold sz; split <;> omega
  have h0 : sealE s d sw = 0 := by
    unfold sealE
    rw [if_neg (by rw [hs, he]; rintro (e | e) <;> cases e), if_neg (by omega), if_neg]
    rintro (e | ⟨_, e⟩)
    · omega
    · have := hsz (hb s.lvl 32); omega
  have ho := opn_sea hk d sw h0
  rw [hx] at ho
  obtain ⟨o1, o2, o3, o4⟩ := ho
  have hlen : r.length ≤ 65536 ∧ s2 = { s with exp := false } := by
    cases h16 : hb s.lvl 16 with
    | false =>
      have e : sea s d sw = ({ s with exp := false }, d, sw) := by unfold sea; rw [if_neg (fun e => e h0), if_pos h16]
      rw [hx] at e
      obtain ⟨f1, f2⟩ := Prod.mk.inj e
      obtain ⟨f2, _⟩ := Prod.mk.inj f2
      exact ⟨by rw [f2]; omega, f1⟩
    | true =>
      have e := sea_mac h0 h16
      rw [hx] at e
      obtain ⟨f1, f2⟩ := Prod.mk.inj e
      obtain ⟨f2, _⟩ := Prod.mk.inj f2
      have hM : (rmc s (sealD s d) sw).length = 8 := rmc_length _ _ _ hk
      have hD : (sealD s d).length ≤ 65528 := by
        unfold sealD
        split
        · rw [hide_length s true d hk.enc]; split <;> omega
        · omega
      exact ⟨by rw [f2]; simp [hM]; omega, f1⟩
  obtain ⟨g1, g2⟩ := hlen
  refine ⟨h0, o4, g1, o1, Prod.ext o2 o3, by rw [g2]; exact { hk with }, by rw [g2], by rw [g2]; exact hs, by rw [g2]⟩
/-- A refused command leaves a closed side. -/
theorem unwrap_no {s : S} {y : Apd.Cmd} (hs : s.shut = false) (h : unwrapE s y ≠ 0) : unwrap s y = ({ s with shut := true }, cz) := by
  unfold unwrap
  rw [if_neg (by rw [hs]; decide), if_pos h]
theorem opn_no {s : S} {d : List UInt8} {sw : Int} (h1 : s.shut = false) (h2 : s.exp = true) (h : openE s d sw = 17) : opn s d sw = ({ s with shut := true }, [], 0) := by
  unfold opn
  rw [if_neg (by rw [h1, h2]; decide), if_pos (by rw [h]; decide)]
theorem wrap_closed {s : S} (x : Apd.Cmd) : wrapE { s with shut := true } x = 14 ∧ wrap { s with shut := true } x = ({ s with shut := true }, cz) := by
  have e : wrapE { s with shut := true } x = 14 := by unfold wrapE; rw [if_pos rfl]
  refine ⟨e, ?_⟩
  unfold wrap
  rw [if_pos (by rw [e]; decide)]
end Sec
end Go.Proofs.YtibaibdgpnkdnaaDoor
