/-
  The secure channel in plain mathematics, and what its promises lean on. Nothing here names a program.
-/
import Derived.Test.YtibaibdgpnkdnaaGreatDoorZ0
namespace Go.Proofs.YtibaibdgpnkdnaaGreatDoor.Sec
set_option maxRecDepth 100000
set_option linter.unusedSimpArgs false
set_option linter.unusedVariables false
open Go.Proofs.YtibaibdgpnkdnaaGreatDoor

/-! The MAC. -/
theorem xor_inj (a b y : List UInt8) (ha : a.length = b.length) (h : Oct.xor a y = Oct.xor b y) : a = b := by
  have h1 := Oct.xor_back a y
  rw [h, Oct.xor_back] at h1
  exact h1.symm
theorem xor_get (a b : List UInt8) (i : Nat) (h : i < a.length) : (Oct.xor a b).getD i 0 = a.getD i 0 ^^^ b.getD i 0 := by
  unfold Oct.xor
  simp [List.getD, h]
theorem xor_inj2 (a x y : List UInt8) (hx : x.length = a.length) (hy : y.length = a.length) (h : Oct.xor a x = Oct.xor a y) : x = y := by
  apply List.ext_getElem (by omega)
  intro i h1 h2
  have e : (Oct.xor a x).getD i 0 = (Oct.xor a y).getD i 0 := by rw [h]
  rw [xor_get _ _ _ (by omega), xor_get _ _ _ (by omega)] at e
  have e2 : x.getD i 0 = y.getD i 0 := by
    have := congrArg (fun z => a.getD i 0 ^^^ z) e
    simp only [← UInt8.xor_assoc, UInt8.xor_self, UInt8.zero_xor] at this
    exact this
  simpa [List.getD, h1, h2] using e2
/-- Another chaining value, another MAC. -/
theorem eSt_iv (key iv iv' d : List UInt8) (m : Nat) (h1 : iv.length = 8) (h2 : iv'.length = 8) (hd : d.length = 8 * m) : ∀ k, k ≤ m → (Mod.eSt key iv d k).2 = (Mod.eSt key iv' d k).2 → iv = iv' := by
  intro k
  induction k with
  | zero => intro _ h; exact h
  | succ k ih =>
    intro hk h
    rw [Mod.eSt_succ, Mod.eSt_succ] at h
    have hb := Mod.blk_length d k (by omega)
    have h3 := (Cip.crypt_inj key _ _ false (by rw [Mod.xor_length]; exact hb) (by rw [Mod.xor_length]; exact hb)).1 h
    exact ih (by omega) (xor_inj2 _ _ _ (by rw [hb]; exact Mod.eSt_y _ _ _ _ h1) (by rw [hb]; exact Mod.eSt_y _ _ _ _ h2) h3)
theorem mcB_iv (key iv iv' d : List UInt8) (hk : key.length = 16) (h1 : iv.length = 8) (h2 : iv'.length = 8) (h : Mod.mcB key iv d = Mod.mcB key iv' d) : iv = iv' := by
  unfold Mod.mcB at h
  rw [if_pos ⟨hk, h1⟩, if_pos ⟨hk, h2⟩] at h
  have hm := Oct.pad_mod d 8 (by omega)
  exact eSt_iv key iv iv' (Oct.pad d 8) ((Oct.pad d 8).length / 8) h1 h2 (by omega) _ (Nat.le_refl _) h
/-- One block turned, another MAC. -/
theorem eSt_one (key iv d d' : List UInt8) (m j : Nat) (hv : iv.length = 8) (hd : d.length = 8 * m) (hd' : d'.length = 8 * m) (hj : j < m) (hne : Mod.blk d j ≠ Mod.blk d' j) (hoth : ∀ i, i < m → i ≠ j → Mod.blk d i = Mod.blk d' i) :
    (Mod.eSt key iv d m).2 ≠ (Mod.eSt key iv d' m).2 := by
  have hlo : ∀ k, k ≤ j → (Mod.eSt key iv d k).2 = (Mod.eSt key iv d' k).2 := by
    intro k
    induction k with
    | zero => intro _; rw [Mod.eSt_nil, Mod.eSt_nil]
    | succ k ih =>
      intro hk
      rw [Mod.eSt_succ, Mod.eSt_succ]
      show Cip.crypt _ _ _ = Cip.crypt _ _ _
      rw [ih (by omega), hoth k (by omega) (by omega)]
  have hhi : ∀ n, j + 1 + n ≤ m → (Mod.eSt key iv d (j + 1 + n)).2 ≠ (Mod.eSt key iv d' (j + 1 + n)).2 := by
    intro n
    induction n with
    | zero =>
      intro _ h
      rw [Nat.add_zero, Mod.eSt_succ, Mod.eSt_succ] at h
      have hb := Mod.blk_length d j (by omega)
      have hb' := Mod.blk_length d' j (by omega)
      have h3 := (Cip.crypt_inj key _ _ false (by rw [Mod.xor_length]; exact hb) (by rw [Mod.xor_length]; exact hb')).1 h
      rw [hlo j (Nat.le_refl _)] at h3
      exact hne (xor_inj _ _ _ (by omega) h3)
    | succ n ih =>
      intro hn h
      rw [show j + 1 + (n + 1) = (j + 1 + n) + 1 by omega, Mod.eSt_succ, Mod.eSt_succ] at h
      have hb := Mod.blk_length d (j + 1 + n) (by omega)
      have he := hoth (j + 1 + n) (by omega) (by omega)
      rw [← he] at h
      have h3 := (Cip.crypt_inj key _ _ false (by rw [Mod.xor_length]; exact hb) (by rw [Mod.xor_length]; exact hb)).1 h
      exact ih (by omega) (xor_inj2 _ _ _ (by rw [hb]; exact Mod.eSt_y _ _ _ _ hv) (by rw [hb]; exact Mod.eSt_y _ _ _ _ hv) h3)
  have := hhi (m - j - 1) (by omega)
  rwa [show j + 1 + (m - j - 1) = m by omega] at this
/-- One byte turned, another MAC. -/
theorem mcB_set (key iv d : List UInt8) (i : Nat) (b : UInt8) (hk : key.length = 16) (hv : iv.length = 8) (hi : i < d.length) (hb : b ≠ d.getD i 0) : Mod.mcB key iv (d.set i b) ≠ Mod.mcB key iv d := by
  unfold Mod.mcB
  rw [if_pos ⟨hk, hv⟩, if_pos ⟨hk, hv⟩]
  have hp : Oct.pad (d.set i b) 8 = (Oct.pad d 8).set i b := by
    unfold Oct.pad
    rw [List.length_set, List.append_assoc, List.append_assoc, List.set_append_left _ _ hi]
  rw [hp, List.length_set]
  have hm := Oct.pad_mod d 8 (by omega)
  have hl := Oct.pad_length d 8
  have hget : ∀ k, ((Oct.pad d 8).set i b)[k]? = if k = i then (if i < (Oct.pad d 8).length then some b else none) else (Oct.pad d 8)[k]? := fun k => by
    rw [List.getElem?_set]
    by_cases h : i = k
    · subst h; simp
    · rw [if_neg h, if_neg (fun e => h e.symm)]
  refine fun e => eSt_one key iv _ _ ((Oct.pad d 8).length / 8) (i / 8) hv (by omega) (by rw [List.length_set]; omega) (by omega) (fun h => ?_) (fun q hq hne => ?_) e.symm
  · have hpi : (Oct.pad d 8)[i]? = some d[i] := by
      unfold Oct.pad
      rw [List.append_assoc, List.getElem?_append_left hi, List.getElem?_eq_getElem hi]
    have h8 : i % 8 < 8 := by omega
    have hq : 8 * (i / 8) + i % 8 = i := by omega
    have h2 : (Mod.blk (Oct.pad d 8) (i / 8))[i % 8]? = (Mod.blk ((Oct.pad d 8).set i b) (i / 8))[i % 8]? := by rw [h]
    unfold Mod.blk at h2
    rw [List.getElem?_take, List.getElem?_take, if_pos h8, if_pos h8, List.getElem?_drop, List.getElem?_drop, hq, hget, if_pos rfl, if_pos (by omega), hpi] at h2
    injection h2 with h2
    exact hb (by simp [List.getD, hi, h2])
  · apply List.ext_getElem?
    intro k
    simp only [Mod.blk, List.getElem?_take, List.getElem?_drop]
    split
    · rw [hget, if_neg (by omega)]
    · rfl

/-! The channel. -/
def by8 (z : Int) : UInt8 := UInt8.ofNat (z % 256).toNat
structure S where
  enc : List UInt8
  mac : List UInt8
  rmac : List UInt8
  dat : List UInt8
  lvl : Int
  chain : List UInt8
  cnt : Nat
  exp : Bool
  shut : Bool
/-- Has a level a bit? -/
def hb (lvl bit : Int) : Bool := lvl / bit % 2 == 1
def lvOk (lvl : Int) : Bool := decide (lvl = 0 ∨ lvl = 1 ∨ lvl = 3 ∨ lvl = 17 ∨ lvl = 19 ∨ lvl = 51)
def valid (enc mac rmac dat : List UInt8) (lvl : Int) (m : List UInt8) : Bool := decide (enc.length = 16 ∧ mac.length = 16 ∧ rmac.length = 16 ∧ dat.length = 16 ∧ lvOk lvl = true ∧ m.length = 8)
structure Ok (s : S) : Prop where
  enc : s.enc.length = 16
  mac : s.mac.length = 16
  rmac : s.rmac.length = 16
  dat : s.dat.length = 16
  lvl : lvOk s.lvl = true
  chain : s.chain.length = 8
/-- The initial value for the command or the response with the counter. -/
def iv (s : S) (r : Bool) : List UInt8 := Mod.cbB s.enc Mod.z8 ((if r then 128 else 0) :: Oct.putB s.cnt 7) false
def hide (s : S) (r : Bool) (b : List UInt8) : List UInt8 := if b = [] then [] else Mod.cbB s.enc (iv s r) (Oct.pad b 8) false
def show? (s : S) (r : Bool) (b : List UInt8) : Option (List UInt8) := if b = [] then some [] else if b.length % 8 = 0 then Oct.unp (Mod.cbB s.enc (iv s r) b true) else none
def three (n : Int) : List UInt8 := [by8 (n / 65536), by8 (n / 256), by8 n]
/-- Bytes of protected data for n bytes. -/
def sz (n : Nat) (enc : Bool) : Nat := if enc = true ∧ 0 < n then n / 8 * 8 + 8 else n
def cmac (s : S) (cla ins p1 p2 le : Int) (d : List UInt8) : List UInt8 := Mod.mcB s.mac s.chain ([by8 cla, by8 ins, by8 p1, by8 p2] ++ three (d.length + 8 : Nat) ++ three le ++ d)
def rmc (s : S) (d : List UInt8) (sw : Int) : List UInt8 := Mod.mcB s.rmac s.chain (d ++ [by8 (sw / 256), by8 sw])
def cz : Apd.Cmd := ⟨0, 0, 0, 0, [], 0, false⟩
def chkC (x : Apd.Cmd) : Int := Apd.chk x.cla x.ins x.p1 x.p2 x.d.length x.le x.long
/-- What is wrong with a command that is to be protected. -/
def wrapE (s : S) (x : Apd.Cmd) : Int :=
  if s.shut = true then 14 else if chkC x ≠ 0 then chkC x
  else if Apd.cok x.cla = false ∨ x.cla / 4 % 2 = 1 ∨ x.cla / 16 % 2 = 1 then 4
  else if 65535 < sz x.d.length (hb s.lvl 2) + (if hb s.lvl 1 then 8 else 0) then 3 else 0
def wrapD (s : S) (x : Apd.Cmd) : List UInt8 := if hb s.lvl 2 then hide { s with cnt := s.cnt + 1 } false x.d else x.d
def wrapM (s : S) (x : Apd.Cmd) : List UInt8 := cmac s (x.cla + 4) x.ins x.p1 x.p2 x.le (wrapD s x)
def wrap (s : S) (x : Apd.Cmd) : S × Apd.Cmd :=
  if wrapE s x ≠ 0 then (s, cz)
  else if hb s.lvl 1 = false then ({ s with cnt := s.cnt + 1, exp := true }, x)
  else ({ s with cnt := s.cnt + 1, exp := true, chain := wrapM s x }, ⟨x.cla + 4, x.ins, x.p1, x.p2, wrapD s x ++ wrapM s x, x.le, x.long || decide (255 < (wrapD s x ++ wrapM s x).length)⟩)
/-- What is wrong with a command that is received. -/
def unwrapE (s : S) (x : Apd.Cmd) : Int :=
  if s.shut = true then 14 else if chkC x ≠ 0 then chkC x
  else if Apd.cok x.cla = false ∨ x.cla / 16 % 2 = 1 ∨ (x.cla / 4 % 2 = 1 ∧ hb s.lvl 1 = false) then 4
  else if hb s.lvl 1 = false then 0
  else if ¬ x.cla / 4 % 2 = 1 ∨ x.d.length < 8 then 5
  else if x.d.drop (x.d.length - 8) ≠ cmac s x.cla x.ins x.p1 x.p2 x.le (x.d.take (x.d.length - 8)) then 17
  else if hb s.lvl 2 = true ∧ show? { s with cnt := s.cnt + 1 } false (x.d.take (x.d.length - 8)) = none then 4
  else 0
def unwrapD (s : S) (x : Apd.Cmd) : List UInt8 := if hb s.lvl 2 then (show? { s with cnt := s.cnt + 1 } false (x.d.take (x.d.length - 8))).getD [] else x.d.take (x.d.length - 8)
def unwrap (s : S) (x : Apd.Cmd) : S × Apd.Cmd :=
  if s.shut = true then (s, cz)
  else if unwrapE s x ≠ 0 then ({ s with shut := true }, cz)
  else if hb s.lvl 1 = false then ({ s with cnt := s.cnt + 1, exp := true }, x)
  else ({ s with cnt := s.cnt + 1, exp := true, chain := x.d.drop (x.d.length - 8) }, ⟨x.cla - 4, x.ins, x.p1, x.p2, unwrapD s x, x.le, x.long⟩)
/-- Responses: data and status word. -/
def sealE (s : S) (d : List UInt8) (sw : Int) : Int :=
  if s.shut = true ∨ s.exp = false then 14 else if sw < 0 ∨ 65535 < sw then 1
  else if 65536 < d.length ∨ (hb s.lvl 16 = true ∧ 65536 < sz d.length (hb s.lvl 32) + 8) then 3 else 0
def sealD (s : S) (d : List UInt8) : List UInt8 := if hb s.lvl 32 then hide s true d else d
def sea (s : S) (d : List UInt8) (sw : Int) : S × List UInt8 × Int :=
  if sealE s d sw ≠ 0 then (s, [], 0) else if hb s.lvl 16 = false then ({ s with exp := false }, d, sw)
  else ({ s with exp := false }, sealD s d ++ rmc s (sealD s d) sw, sw)
def openE (s : S) (d : List UInt8) (sw : Int) : Int :=
  if s.shut = true ∨ s.exp = false then 14 else if sw < 0 ∨ 65535 < sw then 1
  else if hb s.lvl 16 = false then 0 else if d.length < 8 then 5
  else if d.drop (d.length - 8) ≠ rmc s (d.take (d.length - 8)) sw then 17
  else if hb s.lvl 32 = true ∧ show? s true (d.take (d.length - 8)) = none then 4 else 0
def openD (s : S) (d : List UInt8) : List UInt8 := if hb s.lvl 16 = false then d else if hb s.lvl 32 then (show? s true (d.take (d.length - 8))).getD [] else d.take (d.length - 8)
def opn (s : S) (d : List UInt8) (sw : Int) : S × List UInt8 × Int :=
  if s.shut = true ∨ s.exp = false then (s, [], 0)
  else if openE s d sw ≠ 0 then ({ s with shut := true }, [], 0) else ({ s with exp := false }, openD s d, sw)

theorem lv_cases {l : Int} (h : lvOk l = true) : l = 0 ∨ l = 1 ∨ l = 3 ∨ l = 17 ∨ l = 19 ∨ l = 51 := of_decide_eq_true h
/-- What is encrypted is read again. -/
theorem iv_length (s : S) (r : Bool) (h : s.enc.length = 16) : (iv s r).length = 8 := by
  unfold iv
  have hl : ((if r = true then (128 : UInt8) else 0) :: Oct.putB s.cnt 7).length = 8 := by simp [Oct.putB_length]
  rw [Mod.cbB_length _ _ _ _ ((Mod.ok_iff _ _ _).2 ⟨h, by simp [Mod.z8], by rw [hl]⟩), hl]
theorem show_hide (s : S) (r : Bool) (b : List UInt8) (h : s.enc.length = 16) : show? s r (hide s r b) = some b := by
  unfold hide
  split
  · rename_i hb; subst hb; rfl
  · have hm := Oct.pad_mod b 8 (by omega)
    have hl := Oct.pad_length b 8
    have hv := iv_length s r h
    have hok : Mod.ok s.enc (iv s r) (Oct.pad b 8) = true := (Mod.ok_iff _ _ _).2 ⟨h, hv, hm⟩
    have hlen := Mod.cbB_length _ _ _ false hok
    unfold show?
    rw [if_neg (fun e => by have := congrArg List.length e; rw [hlen, List.length_nil] at this; omega), if_pos (by rw [hlen]; exact hm)]
    have e1 := (Mod.cb_ok s.enc (iv s r) (Oct.pad b 8) false h hv hm).2
    have e2 := (Mod.cb_ok s.enc (iv s r) (Mod.cbB s.enc (iv s r) (Oct.pad b 8) false) true h hv (by rw [hlen]; exact hm)).2
    rw [e2]
    simp only [if_true]
    rw [hlen, e1]
    simp only [Bool.false_eq_true, if_false]
    rw [Mod.dec_enc s.enc (iv s r) (Oct.pad b 8) ((Oct.pad b 8).length / 8) (by omega)]
    exact Oct.unp_pad b 8
theorem hide_length (s : S) (r : Bool) (b : List UInt8) (h : s.enc.length = 16) : (hide s r b).length = if 0 < b.length then b.length / 8 * 8 + 8 else 0 := by
  unfold hide
  split
  · rename_i hb; subst hb; rfl
  · rename_i hb
    have hpos : 0 < b.length := List.length_pos_iff.2 hb
    have hm := Oct.pad_mod b 8 (by omega)
    have hl := Oct.pad_length b 8
    have hlt := Oct.padN_lt b.length 8 (by omega)
    rw [Mod.cbB_length _ _ _ _ ((Mod.ok_iff _ _ _).2 ⟨h, iv_length s r h, hm⟩), if_pos hpos]
    omega
theorem wrapD_length (s : S) (x : Apd.Cmd) (h : s.enc.length = 16) : (wrapD s x).length = sz x.d.length (hb s.lvl 2) := by
  unfold wrapD sz
  cases hb s.lvl 2 with
  | false => simp
  | true =>
    rw [if_pos rfl, hide_length { s with cnt := s.cnt + 1 } false x.d h]
    by_cases h0 : 0 < x.d.length
    · rw [if_pos h0, if_pos ⟨rfl, h0⟩]
    · rw [if_neg h0, if_neg (fun e => h0 e.2)]; omega
theorem cmac_length (s : S) (cla ins p1 p2 le : Int) (d : List UInt8) (h : Ok s) : (cmac s cla ins p1 p2 le d).length = 8 := Mod.mcB_length _ _ _ ⟨h.mac, h.chain⟩
theorem rmc_length (s : S) (d : List UInt8) (sw : Int) (h : Ok s) : (rmc s d sw).length = 8 := Mod.mcB_length _ _ _ ⟨h.rmac, h.chain⟩
end Go.Proofs.YtibaibdgpnkdnaaGreatDoor.Sec
