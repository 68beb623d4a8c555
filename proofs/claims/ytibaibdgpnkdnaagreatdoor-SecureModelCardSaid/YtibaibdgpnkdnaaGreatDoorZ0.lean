/-
  The texts that the claims of this seat lean on, part 1.
-/
import Derived.WalkKit
import Derived.WalkSpells
import Derived.WalkLawsBesides
import Derived.Deep.QuietTactic
import Derived.Deep.RegionHeld3
import Derived.BigQuiet
import Derived.Deep.Draws
import Derived.Lib.Hide
import Derived.StillTail
import Derived.Deep.DeepCutAuto
import Derived.Test.YtibaibdgpnkdnaaGreatDoorRows
import Derived.Laws.BytesArg
import Derived.Laws.BytesString
import Derived.Laws.MakeOwn
import Derived.Lib.OthersKept
import Derived.Laws.RangeAny
import Derived.Laws.BitsAllLaws
import Derived.Deep.LoopGhost
import Derived.Outline
import Derived.Laws.Tables
import Derived.Laws.ResultCell
import Derived.Laws.Rows

section
namespace Go.Proofs.YtibaibdgpnkdnaaGreatDoor.Cip
set_option maxRecDepth 100000
set_option linter.unusedSimpArgs false
set_option linter.unusedVariables false

/-- Four bytes as a number. -/
def num (b : List UInt8) : UInt32 :=
  UInt32.ofNat ((b.getD 0 0).toNat * 16777216 + (b.getD 1 0).toNat * 65536 + (b.getD 2 0).toNat * 256 + (b.getD 3 0).toNat)
/-- The function of the rounds. -/
def mixF (x k : UInt32) : UInt32 :=
  let t := (x + k) * 2654435761
  (t ^^^ (t >>> 15)) * 2246822519
def rk (key : List UInt8) (i : Nat) : UInt32 := num (key.drop (4 * (i % 4))) + UInt32.ofNat i * 2654435769
def keys (key : List UInt8) (back : Bool) : List UInt32 :=
  (List.range 16).map fun i => rk key (if back then 15 - i else i)
def step (b : UInt32 × UInt32) (k : UInt32) : UInt32 × UInt32 := (b.2, b.1 ^^^ mixF b.2 k)
def steps (b : UInt32 × UInt32) (ks : List UInt32) : UInt32 × UInt32 := ks.foldl step b
def bytes4 (x : UInt32) : List UInt8 := [UInt8.ofNat (x.toNat / 16777216), UInt8.ofNat (x.toNat / 65536), UInt8.ofNat (x.toNat / 256), UInt8.ofNat x.toNat]
def out (b : UInt32 × UInt32) : List UInt8 := bytes4 b.2 ++ bytes4 b.1
def crypt (key block : List UInt8) (back : Bool) : List UInt8 := out (steps (num block, num (block.drop 4)) (keys key back))

/-- The error of a call, and its bytes. -/
def err (key block : List UInt8) : Int := if key.length ≠ 16 then 19 else if block.length ≠ 8 then 1 else 0
def res (key block : List UInt8) (back : Bool) : List UInt8 := if key.length ≠ 16 then [] else if block.length ≠ 8 then [] else crypt key block back
theorem err_key (key block : List UInt8) (h : key.length ≠ 16) : err key block = 19 := by simp [err, h]
theorem res_key (key block : List UInt8) (back : Bool) (h : key.length ≠ 16) : res key block back = [] := by simp [res, h]
theorem err_block (key block : List UInt8) (h : key.length = 16) (h' : block.length ≠ 8) : err key block = 1 := by simp [err, h, h']
theorem res_block (key block : List UInt8) (back : Bool) (h : key.length = 16) (h' : block.length ≠ 8) : res key block back = [] := by simp [res, h, h']
theorem err_ok (key block : List UInt8) (h : key.length = 16) (h' : block.length = 8) : err key block = 0 := by simp [err, h, h']
theorem res_ok (key block : List UInt8) (back : Bool) (h : key.length = 16) (h' : block.length = 8) : res key block back = crypt key block back := by simp [res, h, h']
theorem length_keys (key : List UInt8) (back : Bool) : (keys key back).length = 16 := by simp [keys]
theorem keys_get (key : List UInt8) (back : Bool) (k : Nat) (h : k < (keys key back).length) : (keys key back)[k] = rk key (if back then 15 - k else k) := by simp [keys]
theorem steps_succ (b : UInt32 × UInt32) (ks : List UInt32) (k : Nat) (h : k < ks.length) : steps b (ks.take (k + 1)) = step (steps b (ks.take k)) ks[k] := by
  unfold steps
  rw [List.take_succ_eq_append_getElem h, List.foldl_append]; rfl

theorem err_zero (key block : List UInt8) (h : (err key block != 0) = false) : key.length = 16 ∧ block.length = 8 := by
  simp only [err] at h
  split at h
  · simp at h
  · split at h
    · simp at h
    · omega
theorem res_none (key block : List UInt8) (back : Bool) (h : (err key block != 0) = true) : res key block back = [] := by
  simp only [err] at h
  unfold res
  split
  · rfl
  · split
    · rfl
    · rename_i h1 h2; simp [h1, h2] at h
theorem res_length (key block : List UInt8) (back : Bool) : (res key block back).length ≤ 8 := by
  unfold res; split
  · simp
  · split
    · simp
    · exact Nat.le_refl _

theorem num_toNat (b : List UInt8) : (num b).toNat = (b.getD 0 0).toNat * 16777216 + (b.getD 1 0).toNat * 65536 + (b.getD 2 0).toNat * 256 + (b.getD 3 0).toNat := by
  unfold num
  rw [UInt32.toNat_ofNat_of_lt']
  have h0 := (b.getD 0 0).toNat_lt
  have h1 := (b.getD 1 0).toNat_lt
  have h2 := (b.getD 2 0).toNat_lt
  have h3 := (b.getD 3 0).toNat_lt
  simp only [UInt32.size]
  omega
theorem num_take (b : List UInt8) : num (b.take 4) = num b := by
  simp [num, List.getD]
theorem num_bytes4 (x : UInt32) (r : List UInt8) : num (bytes4 x ++ r) = x := by
  apply UInt32.toNat_inj.1
  rw [num_toNat]
  have := x.toNat_lt
  simp [bytes4]
  omega
theorem bytes4_num (a b c d : UInt8) (r : List UInt8) : bytes4 (num (a :: b :: c :: d :: r)) = [a, b, c, d] := by
  have h0 := a.toNat_lt
  have h1 := b.toNat_lt
  have h2 := c.toNat_lt
  have h3 := d.toNat_lt
  have e : ∀ (x : UInt8) (n : Nat), n % 256 = x.toNat → UInt8.ofNat n = x := fun x n h => by
    apply UInt8.toNat_inj.1; simpa using h
  unfold bytes4
  rw [num_toNat]
  simp only [List.getD_cons_zero, List.getD_cons_succ]
  congr 1
  · apply e; omega
  congr 1
  · apply e; omega
  congr 1
  · apply e; omega
  congr 1
  · apply e; omega
theorem length_out (b : UInt32 × UInt32) : (out b).length = 8 := rfl
theorem length_crypt (key block : List UInt8) (back : Bool) : (crypt key block back).length = 8 := rfl

theorem step_swap (b : UInt32 × UInt32) (k : UInt32) : step (step b k).swap k = b.swap := by
  obtain ⟨l, r⟩ := b
  simp [step, Prod.swap, UInt32.xor_assoc]
theorem steps_back (ks : List UInt32) : ∀ b : UInt32 × UInt32, steps (steps b ks).swap ks.reverse = b.swap := by
  induction ks with
  | nil => intro b; rfl
  | cons k ks ih =>
    intro b
    simp only [steps, List.foldl_cons, List.reverse_cons, List.foldl_append, List.foldl_nil]
    have := ih (step b k)
    unfold steps at this
    rw [this, step_swap]
theorem keys_reverse (key : List UInt8) (back : Bool) : (keys key back).reverse = keys key (!back) := by
  cases back <;> rfl
theorem num_out0 (b : UInt32 × UInt32) : num (out b) = b.2 := num_bytes4 _ _
theorem num_out4 (b : UInt32 × UInt32) : num ((out b).drop 4) = b.1 := num_bytes4 b.1 []
theorem out_num (block : List UInt8) (h : block.length = 8) : out (num (block.drop 4), num block) = block := by
  match block, h with
  | [a, b, c, d, e, f, g, i], _ =>
    show bytes4 (num [a, b, c, d, e, f, g, i]) ++ bytes4 (num [e, f, g, i]) = _
    rw [bytes4_num, bytes4_num]; rfl
/-- Decryption undoes encryption, and the other way round. -/
theorem crypt_back (key block : List UInt8) (back : Bool) (h : block.length = 8) : crypt key (crypt key block back) (!back) = block := by
  have h1 : crypt key (crypt key block back) (!back) = out (steps (num (crypt key block back), num ((crypt key block back).drop 4)) (keys key (!back))) := rfl
  rw [h1]
  have h2 : crypt key block back = out (steps (num block, num (block.drop 4)) (keys key back)) := rfl
  rw [h2, num_out0, num_out4, ← keys_reverse]
  have h3 := steps_back (keys key back) (num block, num (block.drop 4))
  simp only [Prod.swap] at h3
  rw [h3]
  exact out_num block h
theorem crypt_inj (key a b : List UInt8) (back : Bool) (ha : a.length = 8) (hb : b.length = 8) : crypt key a back = crypt key b back ↔ a = b := by
  constructor
  · intro h
    rw [← crypt_back key a back ha, ← crypt_back key b back hb, h]
  · rintro rfl; rfl
end Go.Proofs.YtibaibdgpnkdnaaGreatDoor.Cip
end

section
namespace Go.Proofs.YtibaibdgpnkdnaaGreatDoor.Oct
set_option maxRecDepth 100000
set_option linter.unusedSimpArgs false
set_option linter.unusedVariables false

/-- The digit of a number below 16. -/
def dg (n : Nat) : UInt8 := if n < 10 then UInt8.ofNat (48 + n) else UInt8.ofNat (87 + n)
def hexS (b : List UInt8) : List UInt8 := b.flatMap fun x => [dg (x.toNat / 16), dg (x.toNat % 16)]
/-- The value of a digit, or -1. -/
def dv (c : Nat) : Int := if 48 ≤ c ∧ c ≤ 57 then (c : Int) - 48 else if 97 ≤ c ∧ c ≤ 102 then (c : Int) - 87 else if 65 ≤ c ∧ c ≤ 70 then (c : Int) - 55 else -1
theorem dv_bd (c : Nat) : -1 ≤ dv c ∧ dv c ≤ 15 := by unfold dv; repeat' split
                                                      all_goals omega
theorem dv_high (c : Nat) (h : 128 ≤ c) : dv c = -1 := by
  unfold dv; rw [if_neg (by omega), if_neg (by omega), if_neg (by omega)]
theorem dv_dg : ∀ n, n < 16 → dv (dg n).toNat = n := by decide +kernel
def isD (c : UInt8) : Bool := decide (0 ≤ dv c.toNat)
def dn (c : UInt8) : Nat := (dv c.toNat).toNat
theorem dn_lt (c : UInt8) : dn c < 16 := by have := dv_bd c.toNat; unfold dn; omega
/-- The bytes of pairs of digits. -/
def prs : List UInt8 → List UInt8
  | a :: b :: r => UInt8.ofNat (dn a * 16 + dn b) :: prs r
  | _ => []
def prOk (s : List UInt8) : Bool := s.length % 2 == 0 && s.all isD
def prE (s : List UInt8) : Int := if prOk s then 0 else 4
def prB (s : List UInt8) : List UInt8 := if prOk s then prs s else []
theorem prs_length : ∀ s : List UInt8, (prs s).length = s.length / 2
  | [] => rfl
  | [_] => by simp [prs]
  | a :: b :: r => by simp only [prs, List.length_cons]; rw [prs_length r]; omega
theorem prs_get : ∀ (s : List UInt8) (j : Nat), 2 * j + 1 < s.length → (prs s).getD j 0 = UInt8.ofNat (dn (s.getD (2 * j) 0) * 16 + dn (s.getD (2 * j + 1) 0))
  | [], j, h => by simp at h
  | [_], j, h => by simp at h
  | a :: b :: r, 0, _ => by simp [prs]
  | a :: b :: r, j + 1, h => by
    have := prs_get r j (by simp only [List.length_cons] at h; omega)
    simp only [prs, List.getD_cons_succ, show 2 * (j + 1) = 2 * j + 1 + 1 by omega]
    exact this
theorem hexS_length (b : List UInt8) : (hexS b).length = 2 * b.length := by
  induction b with
  | nil => rfl
  | cons x b ih => simp only [hexS, List.flatMap_cons, List.length_append, List.length_cons, List.length_nil] at *; omega
theorem hexS_ok (b : List UInt8) : prOk (hexS b) = true := by
  unfold prOk
  rw [hexS_length]
  simp only [Nat.mul_mod_right, beq_self_eq_true, Bool.true_and]
  rw [List.all_eq_true]
  intro c hc
  obtain ⟨x, _, hx⟩ := List.mem_flatMap.1 hc
  have hx256 := x.toNat_lt
  have : c = dg (x.toNat / 16) ∨ c = dg (x.toNat % 16) := by simpa using hx
  rcases this with rfl | rfl
  · unfold isD; rw [dv_dg _ (by omega)]; simp; omega
  · unfold isD; rw [dv_dg _ (by omega)]; simp; omega
theorem prs_hexS (b : List UInt8) : prs (hexS b) = b := by
  induction b with
  | nil => rfl
  | cons x b ih =>
    have hx := x.toNat_lt
    simp only [hexS, List.flatMap_cons, List.cons_append, List.nil_append, prs] at *
    rw [ih]
    congr 1
    unfold dn
    rw [dv_dg _ (by omega), dv_dg _ (by omega)]
    apply UInt8.toNat_inj.1
    rw [UInt8.toNat_ofNat']
    simp only [Int.toNat_natCast]
    omega
theorem hexS_take (b : List UInt8) (k : Nat) (h : k < b.length) : hexS (b.take (k + 1)) = hexS (b.take k) ++ [dg ((b.getD k 0).toNat / 16), dg ((b.getD k 0).toNat % 16)] := by
  rw [List.take_succ_eq_append_getElem h]
  simp only [hexS, List.flatMap_append, List.flatMap_cons, List.flatMap_nil, List.append_nil, List.getD, List.getElem?_eq_getElem h, Option.getD_some]

/-- Padding: the byte 80 and as few zeros as are necessary. -/
def padN (len n : Nat) : Nat := if (len + 1) % n = 0 then 0 else n - (len + 1) % n
def pad (b : List UInt8) (n : Nat) : List UInt8 := b ++ [0x80] ++ List.replicate (padN b.length n) 0
def padOk (n : Int) : Bool := decide (1 ≤ n) && decide (n ≤ 65536)
def padE (n : Int) : Int := if padOk n then 0 else 1
def padB (b : List UInt8) (n : Int) : List UInt8 := if padOk n then pad b n.toNat else []
def unpR : List UInt8 → Option (List UInt8)
  | [] => none
  | x :: r => if x = 0 then unpR r else if x = 0x80 then some r.reverse else none
def unp (b : List UInt8) : Option (List UInt8) := unpR b.reverse
def unpE (b : List UInt8) : Int := if (unp b).isSome then 0 else 4
def unpB (b : List UInt8) : List UInt8 := (unp b).getD []
theorem unp_snoc (l : List UInt8) (x : UInt8) : unp (l ++ [x]) = if x = 0 then unp l else if x = 0x80 then some l else none := by
  simp only [unp, List.reverse_append, List.reverse_cons, List.reverse_nil, List.nil_append, List.cons_append, unpR, List.reverse_reverse]
theorem unp_take (b : List UInt8) (k : Nat) (h : k < b.length) : unp (b.take (k + 1)) = if b.getD k 0 = 0 then unp (b.take k) else if b.getD k 0 = 0x80 then some (b.take k) else none := by
  rw [List.take_succ_eq_append_getElem h, unp_snoc]
  simp only [List.getD, List.getElem?_eq_getElem h, Option.getD_some]
theorem unp_pad (b : List UInt8) (n : Nat) : unp (pad b n) = some b := by
  unfold pad
  generalize padN b.length n = m
  induction m with
  | zero => rw [List.replicate_zero, List.append_nil, unp_snoc, if_neg (by decide), if_pos rfl]
  | succ m ih => rw [List.replicate_succ', ← List.append_assoc, unp_snoc, if_pos rfl]; exact ih
theorem padN_lt (len n : Nat) (h : 1 ≤ n) : padN len n < n := by
  unfold padN
  have := Nat.mod_lt (len + 1) (show 0 < n by omega)
  split <;> omega
theorem pad_length (b : List UInt8) (n : Nat) : (pad b n).length = b.length + 1 + padN b.length n := by simp [pad]; omega
theorem pad_mod (b : List UInt8) (n : Nat) (h : 1 ≤ n) : (pad b n).length % n = 0 := by
  rw [pad_length]
  unfold padN
  split
  · omega
  · have h1 := Nat.mod_lt (b.length + 1) (show 0 < n by omega)
    have h2 : b.length + 1 + (n - (b.length + 1) % n) = n * ((b.length + 1) / n) + n := by have := Nat.div_add_mod (b.length + 1) n; omega
    rw [h2]
    simp

/-- A number as bytes, the most significant one first. -/
def putB (n width : Nat) : List UInt8 := (List.range width).map fun j => UInt8.ofNat (n / 256 ^ (width - 1 - j))
def numK (b : List UInt8) (k : Nat) : Nat := (List.range k).foldl (fun n i => n * 256 + (b.getD i 0).toNat) 0
def num (b : List UInt8) : Nat := numK b b.length
theorem numK_succ (b : List UInt8) (k : Nat) : numK b (k + 1) = numK b k * 256 + (b.getD k 0).toNat := by simp [numK, List.range_succ]
theorem numK_lt (b : List UInt8) (k : Nat) : numK b k < 256 ^ k := by
  induction k with
  | zero => simp [numK]
  | succ k ih => rw [numK_succ, Nat.pow_succ]; have := (b.getD k 0).toNat_lt; omega
/-- The errors of Put, and its bytes. -/
def ptE (n width : Int) : Int := if width < 1 ∨ 8 < width then 1 else if n < 0 ∨ (256 : Int) ^ width.toNat ≤ n then 2 else 0
def ptB (n width : Int) : List UInt8 := if ptE n width = 0 then putB n.toNat width.toNat else []
def gtE (b : List UInt8) : Int := if 8 < b.length then 3 else if 9223372036854775808 ≤ num b then 2 else 0
def gtN (b : List UInt8) : Nat := if gtE b = 0 then num b else 0
theorem putB_length (n width : Nat) : (putB n width).length = width := by simp [putB]
theorem putB_get (n width j : Nat) (h : j < width) : (putB n width).getD j 0 = UInt8.ofNat (n / 256 ^ (width - 1 - j)) := by
  unfold putB
  rw [List.getD, List.getElem?_eq_getElem (by simpa using h)]; simp
theorem numK_putB (n width k : Nat) (h : k ≤ width) : numK (putB n width) k = n % 256 ^ width / 256 ^ (width - k) := by
  induction k with
  | zero => rw [Nat.sub_zero, Nat.div_eq_of_lt (Nat.mod_lt _ (Nat.pow_pos (by omega)))]; rfl
  | succ k ih =>
    rw [numK_succ, ih (by omega), putB_get n width k (by omega)]
    rw [UInt8.toNat_ofNat']
    have e1 : 256 ^ (width - k) = 256 ^ (width - (k + 1)) * 256 := by rw [show width - k = width - (k + 1) + 1 by omega, Nat.pow_succ]
    have e2 : width - 1 - k = width - (k + 1) := by omega
    have e3 : 256 ^ width = 256 ^ (width - (k + 1)) * 256 * 256 ^ k := by rw [← e1, ← Nat.pow_add]; congr 1; omega
    rw [e1, e2, ← Nat.div_div_eq_div_mul]
    have e4 : n / 256 ^ (width - (k + 1)) % 256 = n % 256 ^ width / 256 ^ (width - (k + 1)) % 256 := by
      generalize hq : 256 ^ (width - (k + 1)) = q at *
      have hd : n % 256 ^ width = n % (q * (256 * 256 ^ k)) := by rw [e3, Nat.mul_assoc]
      rw [hd, Nat.mod_mul_right_div_self, Nat.mod_mul_right_mod]
    rw [show 2 ^ 8 = 256 from rfl, e4]
    omega
theorem num_putB (n width : Nat) (h : n < 256 ^ width) : num (putB n width) = n := by
  unfold num
  rw [putB_length, numK_putB n width width (Nat.le_refl _), Nat.sub_self, Nat.pow_zero, Nat.div_one, Nat.mod_eq_of_lt h]

/-- The pieces of n bytes, the last of which may be shorter. -/
def pieces (n : Nat) : Nat → List UInt8 → List (List UInt8)
  | 0, _ => []
  | f + 1, b => if b = [] then [] else b.take n :: pieces n f (b.drop n)
def split (b : List UInt8) (n : Nat) : List (List UInt8) := pieces n b.length b
theorem pieces_fuel (n : Nat) (hn : 1 ≤ n) : ∀ (f g : Nat) (b : List UInt8), b.length ≤ f → b.length ≤ g → pieces n f b = pieces n g b
  | 0, g, b, hf, _ => by
    have : b = [] := List.eq_nil_of_length_eq_zero (by omega)
    subst this
    cases g <;> simp [pieces]
  | f + 1, 0, b, _, hg => by
    have : b = [] := List.eq_nil_of_length_eq_zero (by omega)
    subst this
    simp [pieces]
  | f + 1, g + 1, b, hf, hg => by
    simp only [pieces]
    split
    · rfl
    · rename_i hb
      have h0 : 0 < b.length := List.length_pos_iff.2 hb
      rw [pieces_fuel n hn f g (b.drop n) (by rw [List.length_drop]; omega) (by rw [List.length_drop]; omega)]
theorem split_nil (n : Nat) : split [] n = [] := rfl
theorem split_cons (b : List UInt8) (n : Nat) (hn : 1 ≤ n) (hb : 0 < b.length) : split b n = b.take n :: split (b.drop n) n := by
  unfold split
  obtain ⟨f, hf⟩ : ∃ f, b.length = f + 1 := ⟨b.length - 1, by omega⟩
  rw [hf]
  simp only [pieces]
  rw [if_neg (by intro e; subst e; simp at hb)]
  congr 1
  exact pieces_fuel n hn _ _ _ (by rw [List.length_drop]; omega) (Nat.le_refl _)
theorem split_flat (n : Nat) (hn : 1 ≤ n) : ∀ (m : Nat) (b : List UInt8), b.length ≤ m → (split b n).flatten = b
  | 0, b, h => by
    have : b = [] := List.eq_nil_of_length_eq_zero (by omega)
    subst this; rfl
  | m + 1, b, h => by
    rcases Nat.eq_zero_or_pos b.length with h0 | h0
    · have : b = [] := List.eq_nil_of_length_eq_zero h0
      subst this; rfl
    · rw [split_cons b n hn h0, List.flatten_cons, split_flat n hn m (b.drop n) (by rw [List.length_drop]; omega), List.take_append_drop]
theorem split_length_le (n : Nat) (hn : 1 ≤ n) : ∀ (m : Nat) (b : List UInt8), b.length ≤ m → (split b n).length ≤ b.length
  | 0, b, h => by
    have : b = [] := List.eq_nil_of_length_eq_zero (by omega)
    subst this; exact Nat.le_refl _
  | m + 1, b, h => by
    rcases Nat.eq_zero_or_pos b.length with h0 | h0
    · have : b = [] := List.eq_nil_of_length_eq_zero h0
      subst this; exact Nat.le_refl _
    · have := split_length_le n hn m (b.drop n) (by rw [List.length_drop]; omega)
      rw [split_cons b n hn h0, List.length_cons]
      rw [List.length_drop] at this
      omega
def spE (n : Int) : Int := if n < 1 then 1 else 0
def spB (b : List UInt8) (n : Int) : List (List UInt8) := if n < 1 then [] else split b n.toNat
def xor (a b : List UInt8) : List UInt8 := (List.range a.length).map fun i => a.getD i 0 ^^^ b.getD i 0
theorem xor_back (a b : List UInt8) : xor (xor a b) b = a := by
  apply List.ext_getElem
  · simp [xor]
  · intro i h1 h2
    have h3 : i < (xor a b).length := by simpa [xor] using h2
    simp only [xor, List.getElem_map, List.getElem_range]
    rw [List.getD, List.getElem?_eq_getElem (by simpa using h2)]
    simp [List.getD, List.getElem?_eq_getElem h2, UInt8.xor_assoc]
end Go.Proofs.YtibaibdgpnkdnaaGreatDoor.Oct
end

section
namespace Go.Proofs.YtibaibdgpnkdnaaGreatDoor.Mod
set_option maxRecDepth 100000
set_option linter.unusedSimpArgs false
set_option linter.unusedVariables false
open Go.Proofs.YtibaibdgpnkdnaaGreatDoor

/-- The i-th block. -/
def blk (d : List UInt8) (i : Nat) : List UInt8 := (d.drop (8 * i)).take 8
theorem blk_length (d : List UInt8) (i : Nat) (h : 8 * i + 8 ≤ d.length) : (blk d i).length = 8 := by simp [blk]; omega
theorem xor_length (a b : List UInt8) : (Oct.xor a b).length = a.length := by simp [Oct.xor]
theorem crypt_length (key x : List UInt8) (back : Bool) : (Cip.crypt key x back).length = 8 := rfl

/-- Encryption: what is written after k blocks, and the chaining value. -/
def eSt (key iv d : List UInt8) (k : Nat) : List UInt8 × List UInt8 :=
  (List.range k).foldl (fun s i => (s.1 ++ Cip.crypt key (Oct.xor (blk d i) s.2) false, Cip.crypt key (Oct.xor (blk d i) s.2) false)) ([], iv)
theorem eSt_succ (key iv d : List UInt8) (k : Nat) : eSt key iv d (k + 1) =
    ((eSt key iv d k).1 ++ Cip.crypt key (Oct.xor (blk d k) (eSt key iv d k).2) false, Cip.crypt key (Oct.xor (blk d k) (eSt key iv d k).2) false) := by
  simp [eSt, List.range_succ]
theorem eSt_length (key iv d : List UInt8) (k : Nat) : (eSt key iv d k).1.length = 8 * k := by
  induction k with
  | zero => rfl
  | succ k ih => rw [eSt_succ]; simp only [List.length_append, ih, crypt_length]; omega
theorem eSt_y (key iv d : List UInt8) (k : Nat) (h : iv.length = 8) : (eSt key iv d k).2.length = 8 := by
  cases k with
  | zero => exact h
  | succ k => rw [eSt_succ]; rfl
/-- Decryption. -/
def dSt (key iv d : List UInt8) (k : Nat) : List UInt8 × List UInt8 :=
  (List.range k).foldl (fun s i => (s.1 ++ Oct.xor (Cip.crypt key (blk d i) true) s.2, blk d i)) ([], iv)
theorem dSt_succ (key iv d : List UInt8) (k : Nat) : dSt key iv d (k + 1) = ((dSt key iv d k).1 ++ Oct.xor (Cip.crypt key (blk d k) true) (dSt key iv d k).2, blk d k) := by
  simp [dSt, List.range_succ]
theorem dSt_nil (key iv d : List UInt8) : dSt key iv d 0 = ([], iv) := rfl
theorem eSt_nil (key iv d : List UInt8) : eSt key iv d 0 = ([], iv) := rfl
theorem dSt_length (key iv d : List UInt8) (k : Nat) : (dSt key iv d k).1.length = 8 * k := by
  induction k with
  | zero => rfl
  | succ k ih => rw [dSt_succ]; simp only [List.length_append, ih, xor_length, crypt_length]; omega
theorem dSt_y (key iv d : List UInt8) (k : Nat) (h : iv.length = 8) (hk : 8 * k ≤ d.length) : (dSt key iv d k).2.length = 8 := by
  cases k with
  | zero => exact h
  | succ k => rw [dSt_succ]; exact blk_length d k (by omega)
def ok (key iv d : List UInt8) : Bool := key.length == 16 && iv.length == 8 && d.length % 8 == 0
def cbE (key iv d : List UInt8) : Int := if ok key iv d then 0 else 1
def cbB (key iv d : List UInt8) (back : Bool) : List UInt8 := if ok key iv d then (if back then (dSt key iv d (d.length / 8)).1 else (eSt key iv d (d.length / 8)).1) else []
theorem ok_iff (key iv d : List UInt8) : ok key iv d = true ↔ key.length = 16 ∧ iv.length = 8 ∧ d.length % 8 = 0 := by
  simp only [ok, Bool.and_eq_true, beq_iff_eq, and_assoc]
theorem cb_ok (key iv d : List UInt8) (back : Bool) (h1 : key.length = 16) (h2 : iv.length = 8) (h3 : d.length % 8 = 0) :
    cbE key iv d = 0 ∧ cbB key iv d back = if back then (dSt key iv d (d.length / 8)).1 else (eSt key iv d (d.length / 8)).1 := by
  have h : ok key iv d = true := (ok_iff _ _ _).2 ⟨h1, h2, h3⟩
  unfold cbE cbB; rw [if_pos h, if_pos h]; exact ⟨rfl, rfl⟩
theorem cb_bad (key iv d : List UInt8) (back : Bool) (h : ¬ (key.length = 16 ∧ iv.length = 8 ∧ d.length % 8 = 0)) : cbE key iv d = 1 ∧ cbB key iv d back = [] := by
  have h : ok key iv d = false := by
    cases e : ok key iv d with
    | false => rfl
    | true => exact absurd ((ok_iff _ _ _).1 e) h
  unfold cbE cbB; rw [h]; exact ⟨rfl, rfl⟩
theorem cbB_length (key iv d : List UInt8) (back : Bool) (h : ok key iv d = true) : (cbB key iv d back).length = d.length := by
  have hh := (ok_iff _ _ _).1 h
  unfold cbB
  rw [if_pos h]
  cases back
  · simp only [Bool.false_eq_true, if_false, eSt_length]; omega
  · simp only [if_true, dSt_length]; omega
theorem cbB_le (key iv d : List UInt8) (back : Bool) : (cbB key iv d back).length ≤ d.length := by
  cases h : ok key iv d with
  | false => unfold cbB; rw [h]; simp
  | true => rw [cbB_length _ _ _ _ h]; exact Nat.le_refl _
/-- A block of what is written. -/
theorem append_blk (a b : List UInt8) (i : Nat) (h : 8 * i + 8 ≤ a.length) : blk (a ++ b) i = blk a i := by
  unfold blk
  rw [List.drop_append_of_le_length (by omega), List.take_append_of_le_length (by rw [List.length_drop]; omega)]
theorem append_blk_last (a b : List UInt8) (i : Nat) (h : a.length = 8 * i) (hb : b.length = 8) : blk (a ++ b) i = b := by
  unfold blk
  rw [← h, List.drop_left, List.take_of_length_le (by omega)]
theorem blk_ext (a b : List UInt8) (m : Nat) (ha : a.length = 8 * m) (hb : b.length = 8 * m) (h : ∀ i, i < m → blk a i = blk b i) : a = b := by
  apply List.ext_getElem
  · omega
  · intro j h1 h2
    have hi := h (j / 8) (by omega)
    have := congrArg (fun l => l[j % 8]?) hi
    simp only [blk, List.getElem?_take, List.getElem?_drop] at this
    rw [if_pos (by omega), if_pos (by omega), show 8 * (j / 8) + j % 8 = j by omega, List.getElem?_eq_getElem h1, List.getElem?_eq_getElem h2] at this
    simpa using this
theorem eSt_blk (key iv d : List UInt8) (k i : Nat) (h : i < k) : blk (eSt key iv d k).1 i = (eSt key iv d (i + 1)).2 := by
  induction k with
  | zero => omega
  | succ k ih =>
    rw [eSt_succ key iv d k]
    by_cases e : i = k
    · subst e
      rw [append_blk_last _ _ _ (eSt_length _ _ _ _) rfl, eSt_succ]
    · rw [append_blk _ _ _ (by rw [eSt_length]; omega)]; exact ih (by omega)
theorem dSt_blk (key iv d : List UInt8) (k i : Nat) (h : i < k) : blk (dSt key iv d k).1 i = Oct.xor (Cip.crypt key (blk d i) true) (if i = 0 then iv else blk d (i - 1)) := by
  induction k with
  | zero => omega
  | succ k ih =>
    rw [dSt_succ key iv d k]
    by_cases e : i = k
    · subst e
      rw [append_blk_last _ _ _ (dSt_length _ _ _ _) (by rw [xor_length]; rfl)]
      congr 1
      cases i with
      | zero => rfl
      | succ i => rw [dSt_succ]; rfl
    · rw [append_blk _ _ _ (by rw [dSt_length]; omega)]; exact ih (by omega)
theorem dec_block (key x y : List UInt8) (hx : (Oct.xor x y).length = 8) : Oct.xor (Cip.crypt key (Cip.crypt key (Oct.xor x y) false) true) y = x := by
  have h : Cip.crypt key (Cip.crypt key (Oct.xor x y) false) true = Oct.xor x y := Cip.crypt_back key (Oct.xor x y) false hx
  rw [h]
  exact Oct.xor_back x y
theorem enc_block (key x y : List UInt8) (hx : x.length = 8) : Cip.crypt key (Oct.xor (Oct.xor (Cip.crypt key x true) y) y) false = x := by
  rw [Oct.xor_back]
  have h : Cip.crypt key (Cip.crypt key x true) false = x := Cip.crypt_back key x true hx
  exact h
/-- Decryption inverts encryption. -/
theorem dec_enc (key iv d : List UInt8) (m : Nat) (hd : d.length = 8 * m) : (dSt key iv (eSt key iv d m).1 m).1 = d := by
  refine blk_ext _ _ m (dSt_length _ _ _ _) hd fun i hi => ?_
  rw [dSt_blk _ _ _ _ _ hi, eSt_blk _ _ _ _ _ hi, eSt_succ]
  have hp : (if i = 0 then iv else blk (eSt key iv d m).1 (i - 1)) = (eSt key iv d i).2 := by
    cases i with
    | zero => rfl
    | succ i => rw [if_neg (by omega), Nat.add_sub_cancel, eSt_blk _ _ _ _ _ (by omega)]
  rw [hp]
  have hx : (Oct.xor (blk d i) (eSt key iv d i).2).length = 8 := by rw [xor_length]; exact blk_length d i (by omega)
  generalize (eSt key iv d i).2 = y at hx ⊢
  exact dec_block key (blk d i) y hx
theorem dSt_y_eq (key iv d : List UInt8) (i : Nat) : (dSt key iv d i).2 = if i = 0 then iv else blk d (i - 1) := by
  cases i with
  | zero => rfl
  | succ i => rw [dSt_succ]; rfl
/-- Encryption inverts decryption. -/
theorem enc_dec_aux (key iv d : List UInt8) (m : Nat) (hd : d.length = 8 * m) (hv : iv.length = 8) : ∀ i, i ≤ m → (eSt key iv (dSt key iv d m).1 i).2 = (if i = 0 then iv else blk d (i - 1))
  | 0, _ => rfl
  | i + 1, hi => by
    rw [eSt_succ, if_neg (by omega), Nat.add_sub_cancel, enc_dec_aux key iv d m hd hv i (by omega), dSt_blk _ _ _ _ _ (by omega)]
    have hb : (blk d i).length = 8 := blk_length d i (by omega)
    generalize (if i = 0 then iv else blk d (i - 1)) = y
    generalize blk d i = x at hb ⊢
    exact enc_block key x y hb
theorem enc_dec (key iv d : List UInt8) (m : Nat) (hd : d.length = 8 * m) (hv : iv.length = 8) : (eSt key iv (dSt key iv d m).1 m).1 = d := by
  refine blk_ext _ _ m (eSt_length _ _ _ _) hd fun i hi => ?_
  rw [eSt_blk _ _ _ _ _ hi, enc_dec_aux key iv d m hd hv (i + 1) (by omega), if_neg (by omega), Nat.add_sub_cancel]
/-- Two strings of blocks, one after the other. -/
theorem eSt_append (key iv x y : List UInt8) (m k : Nat) (hx : x.length = 8 * m) : eSt key iv (x ++ y) (m + k) = ((eSt key iv x m).1 ++ (eSt key (eSt key iv x m).2 y k).1, (eSt key (eSt key iv x m).2 y k).2) := by
  induction k with
  | zero =>
    have : ∀ j, j ≤ m → eSt key iv (x ++ y) j = eSt key iv x j := by
      intro j hj
      induction j with
      | zero => simp [eSt]
      | succ j ih => rw [eSt_succ, eSt_succ, ih (by omega), append_blk _ _ _ (by omega)]
    rw [Nat.add_zero, this m (Nat.le_refl _)]
    simp [eSt]
  | succ k ih =>
    have hb : blk (x ++ y) (m + k) = blk y k := by
      unfold blk
      rw [show 8 * (m + k) = x.length + 8 * k by omega, List.drop_append, List.drop_eq_nil_of_le (by omega), List.nil_append, Nat.add_sub_cancel_left]
    rw [← Nat.add_assoc, eSt_succ, ih, eSt_succ, hb]
    simp [List.append_assoc]
theorem eSt_last (key iv x : List UInt8) (m : Nat) (hm : 0 < m) : (eSt key iv x m).1.drop (8 * m - 8) = (eSt key iv x m).2 := by
  obtain ⟨k, rfl⟩ : ∃ k, m = k + 1 := ⟨m - 1, by omega⟩
  rw [eSt_succ, show 8 * (k + 1) - 8 = (eSt key iv x k).1.length by rw [eSt_length]; omega, List.drop_left]

/-- The MAC. -/
def mcE (key iv : List UInt8) : Int := if key.length = 16 ∧ iv.length = 8 then 0 else 1
def mcB (key iv d : List UInt8) : List UInt8 := if key.length = 16 ∧ iv.length = 8 then (eSt key iv (Oct.pad d 8) ((Oct.pad d 8).length / 8)).2 else []
theorem mcB_length (key iv d : List UInt8) (h : key.length = 16 ∧ iv.length = 8) : (mcB key iv d).length = 8 := by
  unfold mcB; rw [if_pos h]; exact eSt_y _ _ _ _ h.2
theorem mc_cb (key iv d : List UInt8) : cbE key iv (Oct.pad d 8) = mcE key iv ∧ (mcE key iv = 0 → mcB key iv d = (cbB key iv (Oct.pad d 8) false).drop ((Oct.pad d 8).length - 8) ∧ (cbB key iv (Oct.pad d 8) false).length = (Oct.pad d 8).length ∧ 8 ≤ (Oct.pad d 8).length) := by
  have hm := Oct.pad_mod d 8 (by omega)
  have hl := Oct.pad_length d 8
  by_cases h : key.length = 16 ∧ iv.length = 8
  · obtain ⟨e1, e2⟩ := cb_ok key iv (Oct.pad d 8) false h.1 h.2 hm
    refine ⟨by rw [e1]; unfold mcE; rw [if_pos h], fun _ => ?_⟩
    rw [e2]
    simp only [Bool.false_eq_true, if_false]
    refine ⟨?_, by rw [eSt_length]; omega, by omega⟩
    unfold mcB
    rw [if_pos h, ← eSt_last key iv (Oct.pad d 8) ((Oct.pad d 8).length / 8) (by omega)]
    congr 1
    omega
  · have e1 := (cb_bad key iv (Oct.pad d 8) false (fun hh => h ⟨hh.1, hh.2.1⟩)).1
    refine ⟨by rw [e1]; unfold mcE; rw [if_neg h], fun h0 => ?_⟩
    unfold mcE at h0; rw [if_neg h] at h0; cases h0
/-- The derived key. -/
def z8 : List UInt8 := List.replicate 8 0
def drB (key label : List UInt8) : List UInt8 := if key.length = 16 then mcB key z8 (1 :: label) ++ mcB key z8 (2 :: label) else []
def drE (key : List UInt8) : Int := if key.length = 16 then 0 else 1
def ckB (key : List UInt8) : List UInt8 := if key.length = 16 then (Cip.crypt key z8 false).take 3 else []

/-- The hash value. -/
def inv (x : List UInt8) : List UInt8 := x.map fun b => 255 - b
def hStep (h x : List UInt8) : List UInt8 := Oct.xor (Cip.crypt h x false) (h.take 8) ++ Oct.xor (Cip.crypt h (inv x) false) (h.drop 8)
theorem hStep_length (h x : List UInt8) : (hStep h x).length = 16 := by simp [hStep, xor_length, crypt_length]
def z16 : List UInt8 := List.replicate 16 0
def hK (b : List UInt8) (k : Nat) : List UInt8 := (List.range k).foldl (fun h i => hStep h (blk b i)) z16
theorem hK_succ (b : List UInt8) (k : Nat) : hK b (k + 1) = hStep (hK b k) (blk b k) := by simp [hK, List.range_succ]
theorem hK_length (b : List UInt8) (k : Nat) : (hK b k).length = 16 := by
  cases k with
  | zero => rfl
  | succ k => rw [hK_succ]; exact hStep_length _ _
def hbl (d : List UInt8) : List UInt8 := Oct.pad d 8 ++ Oct.putB d.length 8
theorem hbl_length (d : List UInt8) : (hbl d).length % 8 = 0 := by
  unfold hbl
  rw [List.length_append, Oct.putB_length]
  have := Oct.pad_mod d 8 (by omega)
  omega
def hash (d : List UInt8) : List UInt8 := hK (hbl d) ((hbl d).length / 8)
theorem split_blk (b : List UInt8) (m : Nat) (h : b.length = 8 * m) : Oct.split b 8 = (List.range m).map fun i => blk b i := by
  induction m generalizing b with
  | zero =>
    have : b = [] := List.eq_nil_of_length_eq_zero (by omega)
    subst this; rfl
  | succ m ih =>
    rw [Oct.split_cons b 8 (by omega) (by omega), ih (b.drop 8) (by rw [List.length_drop]; omega), List.range_succ_eq_map, List.map_cons, List.map_map]
    congr 1
    refine List.map_congr_left fun i _ => ?_
    simp only [Function.comp_apply, blk, List.drop_drop]
    congr 2
    omega
end Go.Proofs.YtibaibdgpnkdnaaGreatDoor.Mod
end

section
namespace Go.Proofs.YtibaibdgpnkdnaaGreatDoor.Apd
set_option maxRecDepth 100000
set_option linter.unusedSimpArgs false
set_option linter.unusedVariables false

def byt (x : Int) : Bool := decide (0 ≤ x ∧ x ≤ 255)
def maxD (long : Bool) : Int := if long then 65535 else 255
def maxL (long : Bool) : Int := if long then 65536 else 256
theorem maxD_t : maxD true = 65535 := rfl
theorem maxD_f : maxD false = 255 := rfl
theorem maxL_t : maxL true = 65536 := rfl
theorem maxL_f : maxL false = 256 := rfl
/-- The error of a command with n bytes of data. -/
def chk (cla ins p1 p2 : Int) (n : Nat) (le : Int) (long : Bool) : Int :=
  if ¬ (byt cla = true ∧ byt ins = true ∧ byt p1 = true ∧ byt p2 = true) then 2
  else if cla = 255 ∨ ins / 16 = 6 ∨ ins / 16 = 9 then 1
  else if maxD long < n then 3
  else if le < 0 ∨ maxL long < le then 2
  else if long = true ∧ n = 0 ∧ le = 0 then 4
  else 0
/-- The case of a command. -/
def cas (cla ins p1 p2 : Int) (n : Nat) (le : Int) (long : Bool) : Int :=
  if chk cla ins p1 p2 n le long = 0 then 1 + (if 0 < n then 2 else 0) + (if 0 < le then 1 else 0) else 0

/-- What may be found out about a command, one test after another. -/
theorem chk_cases (cla ins p1 p2 : Int) (n : Nat) (le : Int) (long : Bool) :
    (byt cla = false ∧ chk cla ins p1 p2 n le long = 2) ∨ (byt cla = true ∧ byt ins = false ∧ chk cla ins p1 p2 n le long = 2) ∨
    (byt cla = true ∧ byt ins = true ∧ byt p1 = false ∧ chk cla ins p1 p2 n le long = 2) ∨ (byt cla = true ∧ byt ins = true ∧ byt p1 = true ∧ byt p2 = false ∧ chk cla ins p1 p2 n le long = 2) ∨
    (byt cla = true ∧ byt ins = true ∧ byt p1 = true ∧ byt p2 = true ∧ (
      (cla = 255 ∧ chk cla ins p1 p2 n le long = 1) ∨ (cla ≠ 255 ∧ ins / 16 = 6 ∧ chk cla ins p1 p2 n le long = 1) ∨ (cla ≠ 255 ∧ ins / 16 ≠ 6 ∧ ins / 16 = 9 ∧ chk cla ins p1 p2 n le long = 1) ∨
      (cla ≠ 255 ∧ ins / 16 ≠ 6 ∧ ins / 16 ≠ 9 ∧ (
        (maxD long < n ∧ chk cla ins p1 p2 n le long = 3) ∨ (n ≤ maxD long ∧ le < 0 ∧ chk cla ins p1 p2 n le long = 2) ∨ (n ≤ maxD long ∧ 0 ≤ le ∧ maxL long < le ∧ chk cla ins p1 p2 n le long = 2) ∨
        (n ≤ maxD long ∧ 0 ≤ le ∧ le ≤ maxL long ∧ (
          (long = false ∧ chk cla ins p1 p2 n le long = 0) ∨ (long = true ∧ 0 < n ∧ chk cla ins p1 p2 n le long = 0) ∨ (long = true ∧ n = 0 ∧ 0 < le ∧ chk cla ins p1 p2 n le long = 0) ∨ (long = true ∧ n = 0 ∧ le = 0 ∧ chk cla ins p1 p2 n le long = 4))))))) := by
  unfold chk
  cases byt cla <;> cases byt ins <;> cases byt p1 <;> cases byt p2 <;> simp
  by_cases h1 : cla = 255
  · simp [h1]
  by_cases h2 : ins / 16 = 6
  · simp [h1, h2]
  by_cases h3 : ins / 16 = 9
  · simp [h1, h3]
  by_cases h4 : maxD long < n
  · simp [h1, h2, h3, h4]
  by_cases h5 : le < 0
  · simp [h1, h2, h3, h4, h5]; omega
  by_cases h6 : maxL long < le
  · simp [h1, h2, h3, h4, h5, h6]; omega
  cases long
  · simp [h1, h2, h3, h4, h5, h6]; omega
  by_cases h7 : n = 0
  · by_cases h8 : le = 0
    · subst h7 h8; simp [h1, h2, h3] at *; simp [maxD, maxL]
    · simp [h1, h2, h3, h5, h6, h7, h8]; omega
  · simp [h1, h2, h3, h4, h5, h6, h7]; omega
def b8 (x : Int) : UInt8 := UInt8.ofNat x.toNat
def wid (long : Bool) : Nat := if long then 2 else 1
/-- The bytes of a command that is valid. -/
def encB (cla ins p1 p2 : Int) (d : List UInt8) (le : Int) (long : Bool) : List UInt8 :=
  [b8 cla, b8 ins, b8 p1, b8 p2] ++ (if long then [0] else []) ++ (if 0 < d.length then Oct.putB d.length (wid long) ++ d else []) ++ (if 0 < le then Oct.putB le.toNat (wid long) else [])
/-- What Encode returns. -/
def encR (cla ins p1 p2 : Int) (d : List UInt8) (le : Int) (long : Bool) : List UInt8 :=
  if chk cla ins p1 p2 d.length le long = 0 then encB cla ins p1 p2 d le long else []
theorem chk_zero {cla ins p1 p2 : Int} {n : Nat} {le : Int} {long : Bool} (h : chk cla ins p1 p2 n le long = 0) :
    (0 ≤ cla ∧ cla ≤ 254) ∧ (0 ≤ ins ∧ ins ≤ 255) ∧ (0 ≤ p1 ∧ p1 ≤ 255) ∧ (0 ≤ p2 ∧ p2 ≤ 255) ∧ n ≤ maxD long ∧ 0 ≤ le ∧ le ≤ maxL long ∧ ¬ (long = true ∧ n = 0 ∧ le = 0) := by
  have hC := chk_cases cla ins p1 p2 n le long
  have hby : ∀ x, byt x = true → 0 ≤ x ∧ x ≤ 255 := fun x h => of_decide_eq_true h
  rcases hC with ⟨e0, hc⟩ | ⟨e0, e1, hc⟩ | ⟨e0, e1, e2, hc⟩ | ⟨e0, e1, e2, e3, hc⟩ | ⟨e0, e1, e2, e3, hC⟩
  · omega
  · omega
  · omega
  · omega
  have b0 := hby _ e0
  have b1 := hby _ e1
  have b2 := hby _ e2
  have b3 := hby _ e3
  rcases hC with ⟨h1, hc⟩ | ⟨h1, h2, hc⟩ | ⟨h1, h2, h3, hc⟩ | ⟨h1, h2, h3, hC⟩
  · omega
  · omega
  · omega
  rcases hC with ⟨h4, hc⟩ | ⟨h4, h5, hc⟩ | ⟨h4, h5, h6, hc⟩ | ⟨h4, h5, h6, hC⟩
  · omega
  · omega
  · omega
  refine ⟨by omega, b1, b2, b3, h4, h5, h6, ?_⟩
  rcases hC with ⟨h7, hc⟩ | ⟨h7, h8, hc⟩ | ⟨h7, h8, h9, hc⟩ | ⟨h7, h8, h9, hc⟩
  · rw [h7]; simp
  · omega
  · omega
  · omega
end Go.Proofs.YtibaibdgpnkdnaaGreatDoor.Apd
end

section
namespace Go.Proofs.YtibaibdgpnkdnaaGreatDoor
set_option maxRecDepth 100000
set_option linter.unusedSimpArgs false
set_option linter.unusedVariables false
open Go.RowKit

/-- A byte as a value. -/
abbrev B8 (b : UInt8) : Value := .int .u8 (b.toNat : Int)
abbrev W32 (b : UInt32) : Value := .int .u32 (b.toNat : Int)
/-- The cells of bytes. -/
def bcells (bs : List UInt8) : List Value := bs.map B8
@[simp] theorem length_bcells (bs : List UInt8) : (bcells bs).length = bs.length := by simp [bcells]
theorem bcells_append (a b : List UInt8) : bcells (a ++ b) = bcells a ++ bcells b := by simp [bcells]
theorem bcells_get (bs : List UInt8) (j : Nat) : (bcells bs)[j]? = (bs[j]?).map B8 := by simp [bcells]
theorem bcells_one (bs : List UInt8) : ∀ u ∈ bcells bs, u.oneCell' = true := by
  intro u hu; simp only [bcells, List.mem_map] at hu; obtain ⟨b, _, rfl⟩ := hu; rfl

/-- Address A leads to the cells cs, in a block below number B (nothing is asked if there are none). -/
def Row (w : World) (B : Nat) (A : Option Addr) (cs : List Value) : Prop :=
  0 < cs.length → ∃ b o, A = some ⟨b, o, none⟩ ∧ b < B ∧ ∀ j, j < cs.length → w.cell? ⟨b, o + j, none⟩ = cs[j]?

section
variable {w w' : World} {B B' : Nat} {A : Option Addr} {cs : List Value}
theorem Row.nil (w : World) (B : Nat) (A : Option Addr) : Row w B A [] := fun h => absurd h (by simp)
theorem Row.more (h : Row w B A cs) (hB : B ≤ B') : Row w B' A cs := fun hn => by
  obtain ⟨b, o, e, hb, hc⟩ := h hn; exact ⟨b, o, e, by omega, hc⟩
theorem Row.keep (h : Row w B A cs) (hk : ∀ p : Addr, p.block < B → w'.cell? p = w.cell? p) : Row w' B A cs := fun hn => by
  obtain ⟨b, o, e, hb, hc⟩ := h hn; exact ⟨b, o, e, hb, fun j hj => (hk _ hb).trans (hc j hj)⟩
theorem Row.below (h : Row w B A cs) (hb : Below B w w') : Row w' B A cs := h.keep fun _ hp => hb.cell hp
theorem Row.drew (h : Row w B A cs) : Row w.drew B A cs := h
theorem Row.drewN (h : Row w B A cs) (k : Nat) : Row (w.drewN k) B A cs := h
theorem Row.alloc (h : Row w B A cs) (hB : B ≤ w.heap.size) (o : Obj) : Row (w.alloc o) B A cs :=
  h.keep fun p hp => World.cell?_of_block (Below.heap_alloc w o p.block (by omega))
theorem Row.setCell (h : Row w B A cs) {p : Addr} (hp : B ≤ p.block) (u : Value) : Row (w.setCell p u) B A cs :=
  h.keep fun q hq => World.cell?_of_block (Below.heap_setCell w p u q.block (by omega))
/-- The cell that a round reads. -/
theorem Row.at_ (h : Row w B A cs) {j : Nat} (hj : j < cs.length) : ∃ b o, A = some ⟨b, o, none⟩ ∧ b < B ∧ w.cell? ⟨b, o + j, none⟩ = some cs[j] := by
  obtain ⟨b, o, e, hb, hc⟩ := h (by omega)
  exact ⟨b, o, e, hb, by rw [hc j hj, List.getElem?_eq_getElem hj]⟩
theorem Row.take (h : Row w B A cs) (k : Nat) : Row w B A (cs.take k) := fun hn => by
  rw [List.length_take] at hn
  obtain ⟨b, o, e, hb, hc⟩ := h (by omega)
  refine ⟨b, o, e, hb, fun j hj => ?_⟩
  rw [List.length_take] at hj
  rw [hc j (by omega), List.getElem?_take, if_pos (by omega)]
theorem Row.drop {b o : Nat} (h : Row w B (some ⟨b, o, none⟩) cs) (k : Nat) : Row w B (some ⟨b, o + k, none⟩) (cs.drop k) := fun hn => by
  rw [List.length_drop] at hn
  obtain ⟨b', o', e, hb, hc⟩ := h (by omega)
  obtain ⟨rfl, rfl⟩ : b = b' ∧ o = o' := by simpa using e
  refine ⟨b, o + k, rfl, hb, fun j hj => ?_⟩
  rw [List.length_drop] at hj
  rw [Nat.add_assoc, hc (k + j) (by omega), List.getElem?_drop]
end

theorem Row.bdrop {w : World} {B b o : Nat} {bs : List UInt8} (h : Row w B (some ⟨b, o, none⟩) (bcells bs)) (k : Nat) : Row w B (some ⟨b, o + k, none⟩) (bcells (bs.drop k)) := by
  have := h.drop k; rwa [show (bcells bs).drop k = bcells (bs.drop k) by simp [bcells, List.map_drop]] at this
theorem Row.btake {w : World} {B : Nat} {A : Option Addr} {bs : List UInt8} (h : Row w B A (bcells bs)) (k : Nat) : Row w B A (bcells (bs.take k)) := by
  have := h.take k; rwa [show (bcells bs).take k = bcells (bs.take k) by simp [bcells, List.map_take]] at this
theorem Row.byte {w : World} {B : Nat} {b o : Nat} {bs : List UInt8} (h : Row w B (some ⟨b, o, none⟩) (bcells bs)) (j : Nat) (hj : j < bs.length) :
    w.cell? ⟨b, o + j, none⟩ = some (.int .u8 ((bs.getD j 0).toNat : Int)) := by
  obtain ⟨b', o', e, _, hc⟩ := h.at_ (j := j) (by simpa using hj)
  obtain ⟨rfl, rfl⟩ : b = b' ∧ o = o' := by simpa using e
  rw [hc]
  simp [bcells, List.getD, List.getElem?_eq_getElem hj]
theorem ret_int {k : IntKind} {a b : Int} (h : a = b) : Ending.returned (.int k a) = .returned (.int k b) := by rw [h]

/-- A slice of bytes: n of them, capacity c. -/
def Byt (w : World) (B : Nat) (A : Option Addr) (n c : Nat) (bs : List UInt8) : Prop := bs.length = n ∧ n ≤ c ∧ Row w B A (bcells bs)
section
variable {w w' : World} {B B' : Nat} {A : Option Addr} {n c : Nat} {bs : List UInt8}
theorem Byt.below (h : Byt w B A n c bs) (hb : Below B w w') : Byt w' B A n c bs := ⟨h.1, h.2.1, h.2.2.below hb⟩
theorem Byt.more (h : Byt w B A n c bs) (hB : B ≤ B') : Byt w B' A n c bs := ⟨h.1, h.2.1, h.2.2.more hB⟩
theorem Byt.at_ (h : Byt w B A n c bs) (hn : 0 < n) : ∃ b o, A = some ⟨b, o, none⟩ ∧ b < B := by
  obtain ⟨b, o, e, hb, _⟩ := h.2.2 (by rw [length_bcells, h.1]; exact hn)
  exact ⟨b, o, e, hb⟩
end

/-- A block that is known whole: its cells, its element's type, nothing in it frozen. -/
def Blk (w : World) (g : Nat) (t : TypeId) (cs : Array Value) : Prop := w.heap[g]? = some (.cells cs t (0, 0))

section
variable {w w' : World} {g : Nat} {t : TypeId} {cs : Array Value}
theorem Blk.lt (h : Blk w g t cs) : g < w.heap.size := by
  rcases Nat.lt_or_ge g w.heap.size with hlt | hge
  · exact hlt
  · unfold Blk at h; rw [Array.getElem?_eq_none hge] at h; cases h
theorem Blk.cell (h : Blk w g t cs) (i : Nat) : w.cell? ⟨g, i, none⟩ = cs[i]? := by unfold Blk at h; simp [World.cell?, h]
theorem Blk.has (h : Blk w g t cs) (i : Nat) (hi : i < cs.size) : ∃ v, w.cell? ⟨g, i, none⟩ = some v := ⟨cs[i], by rw [h.cell, Array.getElem?_eq_getElem hi]⟩
theorem Blk.frozen (h : Blk w g t cs) (i : Nat) : w.frozen? ⟨g, i, none⟩ = false := by unfold Blk at h; simp [World.frozen?, h]
theorem Blk.below {B : Nat} (h : Blk w g t cs) (hb : Below B w w') (hg : g < B) : Blk w' g t cs := (hb.block g hg).trans h
theorem Blk.alloc (h : Blk w g t cs) (o : Obj) : Blk (w.alloc o) g t cs := (Below.heap_alloc w o g h.lt).trans h
theorem Blk.drew (h : Blk w g t cs) : Blk w.drew g t cs := h
theorem Blk.drewN (h : Blk w g t cs) (k : Nat) : Blk (w.drewN k) g t cs := h
theorem Blk.new (w : World) (t : TypeId) (cs : Array Value) : Blk (w.alloc (.cells cs t)) w.heap.size t cs := heap_alloc_new w _
theorem Blk.new' (w : World) {t : TypeId} {cs cs' : Array Value} {g : Nat} (hg : g = w.heap.size) (hc : cs = cs') : Blk (w.alloc (.cells cs t)) g t cs' := by subst hg hc; exact Blk.new w t cs
theorem Blk.set (h : Blk w g t cs) (i : Nat) (u : Value) : Blk (w.setCell ⟨g, i, none⟩ u) g t (cs.setIfInBounds i u) := by
  unfold Blk at h ⊢; simp [World.setCell, Array.getElem?_modify, h]
theorem Blk.far (h : Blk w g t cs) {p : Addr} (hp : g ≠ p.block) (u : Value) : Blk (w.setCell p u) g t cs := (Below.heap_setCell w p u g hp).trans h
theorem Blk.row (h : Blk w g t cs) : Row w w.heap.size (some ⟨g, 0, none⟩) cs.toList := fun _ =>
  ⟨g, 0, rfl, h.lt, fun j _ => by rw [h.cell (0 + j)]; simp⟩
end

theorem Below.drewN {B : Nat} {a w : World} (h : Below B a w) (k : Nat) : Below B a (w.drewN k) := ⟨h.os, h.tape, h.output, h.size, h.block⟩
theorem Below.setRow {B : Nat} {a w : World} (h : Below B a w) {g : Nat} (hg : B ≤ g) (cs : Array Value) : Below B a (w.setRow g cs) :=
  h.trans ⟨rfl, rfl, rfl, by simp, fun k hk => setRow_other w g k cs (by omega)⟩
theorem Blk.setRow {w : World} {g : Nat} {t : TypeId} {cs : Array Value} (h : Blk w g t cs) (cs' : Array Value) : Blk (w.setRow g cs') g t cs' := setRow_heap w g cs cs' t (0, 0) h
theorem Blk.setRow_far {w : World} {g g' : Nat} {t : TypeId} {cs : Array Value} (h : Blk w g t cs) (hne : g ≠ g') (cs' : Array Value) : Blk (w.setRow g' cs') g t cs := (setRow_other w g' g cs' hne).trans h

theorem Row.new (w : World) {t : TypeId} {cs : Array Value} {l : List Value} (h : cs.toList = l) : Row (w.alloc (.cells cs t)) (w.heap.size + 1) (some ⟨w.heap.size, 0, none⟩) l := by
  have := (Blk.new w t cs).row
  rw [h] at this
  simpa using this

/-- Bytes that are all zero, as cells. -/
def zs (n : Nat) : List UInt8 := List.replicate n 0
theorem zs_length (n : Nat) : (zs n).length = n := by simp [zs]
def zc (n : Nat) : Array Value := (bcells (zs n)).toArray
theorem byt_blk {w : World} {g B n : Nat} {t : TypeId} {bs : List UInt8} (h : Blk w g t (bcells bs).toArray) (hB : g < B) (hn : bs.length = n) : Byt w B (some ⟨g, 0, none⟩) n n bs :=
  ⟨hn, Nat.le_refl _, fun _ => ⟨g, 0, rfl, hB, fun j _ => by rw [h.cell (0 + j)]; simp⟩⟩
theorem byt_zc {w : World} {g B n : Nat} {t : TypeId} (h : Blk w g t (zc n)) (hB : g < B) : Byt w B (some ⟨g, 0, none⟩) n n (zs n) :=
  byt_blk h hB (zs_length n)

/-- A slice value of the call's own: n elements of s cells each, capacity c, in a block from 'base' on (a slice without capacity may point anywhere). -/
def Own (w : World) (base : Nat) (t : TypeId) (s : Nat) (A : Option Addr) (n c : Nat) (cs : List Value) : Prop :=
  cs.length = n * s ∧ n ≤ c ∧ c ≤ maxLen ∧ (0 < c → ∃ g cur, A = some ⟨g, 0, none⟩ ∧ base ≤ g ∧ w.heap[g]? = some (.cells cur t (0, 0)) ∧ c * s ≤ cur.size ∧ cur.toList.take (n * s) = cs)

/-- The block that an append to the slice may write. -/
def ownAt (A : Option Addr) (c : Nat) : Option Nat := if c = 0 then none else A.map (·.block)

section
variable {w w' : World} {base : Nat} {t : TypeId} {s : Nat} {A : Option Addr} {n c : Nat} {cs : List Value}
theorem Own.none_ (w : World) (base : Nat) (t : TypeId) (s : Nat) (A : Option Addr) : Own w base t s A 0 0 [] :=
  ⟨by simp, Nat.le_refl _, Nat.zero_le _, fun h => absurd h (by omega)⟩
theorem Own.len (h : Own w base t s A n c cs) : cs.length = n * s := h.1
theorem Own.le (h : Own w base t s A n c cs) : n ≤ c := h.2.1
theorem Own.max (h : Own w base t s A n c cs) : c ≤ maxLen := h.2.2.1
theorem Own.mono {base' : Nat} (h : Own w base t s A n c cs) (hb : base' ≤ base) : Own w base' t s A n c cs :=
  ⟨h.1, h.2.1, h.2.2.1, fun hc => by obtain ⟨g, cur, e, hg, r⟩ := h.2.2.2 hc; exact ⟨g, cur, e, by omega, r⟩⟩
theorem Own.row (h : Own w base t s A n c cs) : Row w w.heap.size A cs := fun hn => by
  obtain ⟨hl, hnc, _, hc⟩ := h
  have hn0 : 0 < n := by
    rcases Nat.eq_zero_or_pos n with h0 | h0
    · subst h0; simp at hl; simp [hl] at hn
    · exact h0
  obtain ⟨g, cur, e, hg, hh, hs, ht⟩ := hc (by omega)
  refine ⟨g, 0, e, (Array.getElem?_eq_some_iff.1 hh).1, fun j hj => ?_⟩
  rw [← ht] at hj ⊢
  rw [List.length_take] at hj
  rw [List.getElem?_take, if_pos (by omega)]
  simp [World.cell?, hh]
theorem Own.byt {bs : List UInt8} {m : Nat} (h : Own w base t 1 A m c (bcells bs)) {B : Nat} (hB : w.heap.size ≤ B) : Byt w B A m c bs :=
  ⟨by have := h.1; simpa using this, h.2.1, h.row.more hB⟩
theorem Own.kept (h : Own w base t s A n c cs) {row : Option Nat} (hg : w.grownBy w' row) (hne : c = 0 ∨ ∀ g, A.map (·.block) = some g → row ≠ some g) : Own w' base t s A n c cs := by
  refine ⟨h.1, h.2.1, h.2.2.1, fun hc => ?_⟩
  obtain ⟨g, cur, e, hb, hh, r⟩ := h.2.2.2 hc
  refine ⟨g, cur, e, hb, ?_, r⟩
  rw [hg.block g (Array.getElem?_eq_some_iff.1 hh).1 ?_]; · exact hh
  rcases hne with h0 | h0
  · omega
  · have := h0 g (by rw [e]; rfl); exact fun e' => this e'.symm
/-- What the call owns stays its own while nothing that exists is written. -/
theorem Own.below (h : Own w base t s A n c cs) (hb : Below w.heap.size w w') : Own w' base t s A n c cs := by
  refine ⟨h.1, h.2.1, h.2.2.1, fun hc => ?_⟩
  obtain ⟨g, cur, e, hg, hh, r⟩ := h.2.2.2 hc
  exact ⟨g, cur, e, hg, (hb.block g (Array.getElem?_eq_some_iff.1 hh).1).trans hh, r⟩
theorem Own.alloc (h : Own w base t s A n c cs) (o : Obj) : Own (w.alloc o) base t s A n c cs := h.below ((Below.refl _ _).alloc (Nat.le_refl _) o)
theorem Own.drew (h : Own w base t s A n c cs) : Own w.drew base t s A n c cs := h
theorem Own.drewN (h : Own w base t s A n c cs) (k : Nat) : Own (w.drewN k) base t s A n c cs := h
/-- A slice over a block that has just been made whole. -/
theorem Own.blk {g : Nat} {cur : Array Value} (hb : Blk w g t cur) (hg : base ≤ g) (hn : n ≤ c) (hm : c ≤ maxLen) (hc : c * s ≤ cur.size) (hs : n * s ≤ cur.size) :
    Own w base t s (some ⟨g, 0, none⟩) n c (cur.toList.take (n * s)) :=
  ⟨by rw [List.length_take, Array.length_toList]; omega, hn, hm, fun _ => ⟨g, cur, rfl, hg, hb, hc, rfl⟩⟩
theorem Own.lt (h : Own w base t s A n c cs) : ∀ g, ownAt A c = some g → base ≤ g ∧ g < w.heap.size := by
  intro g hg
  unfold ownAt at hg
  split at hg
  · cases hg
  · obtain ⟨g', cur, e, hb, hh, _⟩ := h.2.2.2 (by omega)
    subst e
    simp only [Option.map_some, Option.some.injEq] at hg
    subst hg
    exact ⟨hb, (Array.getElem?_eq_some_iff.1 hh).1⟩
end

/-- One element of a slice of the call's own (an element a cell): where it lies, and what a store makes of it. -/
theorem Own.elem {w : World} {base : Nat} {t : TypeId} {A : Option Addr} {n c : Nat} {cs : List Value} (h : Own w base t 1 A n c cs) {i : Nat} (hi : i < n) :
    ∃ g, A = some ⟨g, 0, none⟩ ∧ base ≤ g ∧ g < w.heap.size ∧ w.cell? ⟨g, i, none⟩ = cs[i]? ∧ w.frozen? ⟨g, i, none⟩ = false ∧ ∀ v, Own (w.setCell ⟨g, i, none⟩ v) base t 1 A n c (cs.set i v) := by
  obtain ⟨hl, hnc, hm, hc⟩ := h
  obtain ⟨g, cur, e, hb, hh, hs, ht⟩ := hc (by omega)
  have hB : Blk w g t cur := hh
  refine ⟨g, e, hb, hB.lt, ?_, hB.frozen i, fun v => ⟨by rw [List.length_set]; exact hl, hnc, hm, fun _ => ⟨g, _, e, hb, hB.set i v, by simpa using hs, ?_⟩⟩⟩
  · rw [hB.cell, ← ht, List.getElem?_take, if_pos (by omega)]; simp
  · rw [Array.toList_setIfInBounds, List.take_set, ht]

/-- Behind an append onto a slice of the call's own nothing below 'base' has turned. -/
theorem Own.grown {w w2 a : World} {base : Nat} {t : TypeId} {s : Nat} {A : Option Addr} {n c : Nat} {cs : List Value} (h : Own w base t s A n c cs) (hg : w.grownBy w2 (ownAt A c)) (hb : Below base a w) (hbase : base ≤ w.heap.size) : Below base a w2 :=
  hb.grown hg hbase fun k hk => (h.lt k hk).1

section
variable {P : Program} (w : World)

theorem append_same (t ty e : TypeId) (i : TypeInfo) (ht : P.underlying t = some (.slice e)) (hi : P.info? e = some i) (A : Option Addr) (n c : Nat) (A' : Option Addr) (c' : Nat) (hnc : n ≤ c) :
    (Builtin.append_ #[t, t] ty #[.slice A n c, .slice A' 0 c']).run P w = .ok (.slice A n c) w := by
  cases A <;> cases A' <;> simp [Builtin.append_, run_underlying ht, sizeOf, typeInfo, hi, Builtin.lenOf, Builtin.firstCells, hnc, loadCells, loadCellsFrom, storeCells]

theorem add_eq (b o j : Nat) : (⟨b, o, none⟩ : Addr).add j = ⟨b, o + j, none⟩ := by unfold Addr.add; split <;> simp_all

theorem run_append (base : Nat) (t ty e : TypeId) (i : TypeInfo) (z : Value) (s bytes : Nat) (ht : P.underlying t = some (.slice e)) (hi : P.info? e = some i) (hz : i.zero = some z)
    (hsize : i.size = s) (hby : i.bytes = bytes) (hzs : z.cells.size = s) (hsz : 0 < s)
    (A : Option Addr) (n c : Nat) (cs : List Value) (hown : Own w base e s A n c cs)
    (B : Nat) (A' : Option Addr) (m c' : Nat) (news : List Value) (hr : Row w B A' news) (hl : news.length = m * s) (h1 : ∀ u ∈ news, u.oneCell' = true)
    (h63 : n + m ≤ maxLen) (hbytes : (n + m) * bytes ≤ 140737488355328) (hbase : base ≤ w.heap.size) :
    ∃ A2 c2 w2, (Builtin.append_ #[t, t] ty #[.slice A n c, .slice A' m c']).run P w = .ok (.slice A2 (n + m) c2) w2 ∧ Own w2 base e s A2 (n + m) c2 (cs ++ news) ∧ w.grownBy w2 (ownAt A c) ∧
      (ownAt A2 c2 = ownAt A c ∨ ownAt A2 c2 = some w.heap.size) := by
  subst hsize
  subst hby
  obtain ⟨hlen, hnc, hcm, hc⟩ := hown
  have hsmall : n + m ≤ 9223372036854775807 := by simp only [maxLen] at h63; omega
  rcases Nat.eq_zero_or_pos m with rfl | hm
  · have hn : news = [] := List.eq_nil_of_length_eq_zero (by simpa using hl)
    subst hn
    exact ⟨A, c, w, append_same w t ty e i ht hi A n c A' c' hnc, ⟨by simpa using hlen, hnc, hcm, by simpa using hc⟩, ⟨rfl, rfl, rfl, Nat.le_refl _, fun _ _ _ => rfl⟩, .inl rfl⟩
  have hnl : 0 < news.length := by rw [hl]; exact Nat.mul_pos hm hsz
  obtain ⟨b, o, rfl, _, hcell⟩ := hr hnl
  have hnews : ∀ j u, news[j]? = some u → w.cell? ((⟨b, o, none⟩ : Addr).add j) = some u := by
    intro j u hu
    have hj : j < news.length := (List.getElem?_eq_some_iff.1 hu).1
    rw [add_eq, hcell j hj]; exact hu
  have hlen2 : (cs ++ news).length = (n + m) * i.size := by rw [List.length_append, hlen, hl, Nat.add_mul]
  have grown : ∀ (old : Nat), old < n + m → ∀ (row : Option Nat),
      Own (w.drew.alloc (.cells (cs.toArray ++ news.toArray ++ Builtin.zeroCells z.cells (grownCap w (n + m) old e - (n + m))) e)) base e i.size
        (some ⟨w.heap.size, 0, none⟩) (n + m) (grownCap w (n + m) old e) (cs ++ news) ∧
      w.grownBy (w.drew.alloc (.cells (cs.toArray ++ news.toArray ++ Builtin.zeroCells z.cells (grownCap w (n + m) old e - (n + m))) e)) row ∧ 0 < grownCap w (n + m) old e := by
    intro old ho row
    have hge := grownCap_ge w (n + m) old e
    have hcm := grownCap_le_maxLen w (n + m) old e h63
    refine ⟨⟨hlen2, hge, hcm, fun _ => ⟨w.heap.size, _, rfl, hbase, heap_alloc_new w.drew _, ?_, ?_⟩⟩, ⟨rfl, rfl, rfl, by simp, fun k hk _ => Below.heap_alloc w.drew _ k hk⟩, by omega⟩
    · refine Nat.le_of_eq ?_
      simp only [Array.size_append, List.size_toArray, size_zeroCells, hzs, hlen, hl, ← Nat.add_mul]
      congr 1
      omega
    · simp only [Array.toList_append, List.append_assoc]
      rw [← List.append_assoc, ← hlen2]
      exact List.take_left
  rcases Nat.eq_zero_or_pos c with rfl | hc0
  · obtain rfl : n = 0 := by omega
    have hcs : cs = [] := List.eq_nil_of_length_eq_zero (by simpa using hlen)
    subst hcs
    have hgr := grown 0 (by omega) (ownAt A 0)
    cases A with
    | none =>
      have hr := run_append_nil (P := P) w t ty e i z ht hi hz ⟨b, o, none⟩ m c' news hl hnews hm (by omega) (by have hb := hbytes; simp only [Nat.zero_add] at hb; omega)
      simp only [Nat.zero_add, List.nil_append, Array.empty_append] at hgr ⊢
      exact ⟨_, _, _, hr, hgr.1, hgr.2.1, .inr (by have := hgr.2.2; simp [ownAt]; omega)⟩
    | some ad =>
      have hr := run_append_grow (P := P) w t ty e i z ht hi hz ad 0 0 [] (by simp) (by simp) ⟨b, o, none⟩ m c' news hl hnews (by omega) (by omega) (growslice_fits (by omega) hbytes)
      simp only [Nat.zero_add, List.nil_append, Array.empty_append] at hr hgr ⊢
      exact ⟨_, _, _, hr, hgr.1, hgr.2.1, .inr (by have := hgr.2.2; simp [ownAt]; omega)⟩
  · obtain ⟨g, cur, rfl, hbg, hg, hcs, htake⟩ := hc hc0
    by_cases hroom : n + m ≤ c
    · have hfit : n * i.size + news.length ≤ cur.size := by
        rw [hl, ← Nat.add_mul]; exact Nat.le_trans (Nat.mul_le_mul_right _ hroom) hcs
      have hr := run_append_room (P := P) w t ty e i ht hi g n c cur hg ⟨b, o, none⟩ m c' news hl hnews h1 hroom hfit
      refine ⟨_, _, _, hr, ⟨hlen2, hroom, hcm, fun _ => ⟨g, _, rfl, hbg, setRow_heap w g cur _ e _ hg, ?_, ?_⟩⟩, ⟨rfl, rfl, rfl, by simp, fun k hk hne => setRow_other w g k _ (fun e => hne (by simp [ownAt, e]; omega))⟩, .inl rfl⟩
      · simp only [List.size_toArray, List.length_append, List.length_take, List.length_drop, Array.length_toList]
        omega
      · rw [htake, ← hlen2]
        exact List.take_left
    · have holds : ∀ j u, cs[j]? = some u → w.cell? ((⟨g, 0, none⟩ : Addr).add j) = some u := by
        intro j u hu
        rw [add_eq, Nat.zero_add, cell_of_row w g j cur e (0, 0) hg]
        rw [← htake, List.getElem?_take] at hu
        split at hu
        · simpa using hu
        · cases hu
      have hr := run_append_grow (P := P) w t ty e i z ht hi hz ⟨g, 0, none⟩ n c cs hlen holds ⟨b, o, none⟩ m c' news hl hnews (by omega) (by omega) (growslice_fits (by omega) hbytes)
      have hgr := grown c (by omega) (ownAt (some ⟨g, 0, none⟩) c)
      exact ⟨_, _, _, hr, hgr.1, hgr.2.1, .inr (by have := hgr.2.2; simp [ownAt]; omega)⟩

theorem wp_append {o : Oper} {a : Act} {K : Act → World → Prop} {Q : Exit → Act → World → Prop} (x y : Operand) (t : TypeId)
    (ho : o.op = .call { callee := .builtin .append, args := #[x, y], argTypes := #[t, t] })
    (base : Nat) (e : TypeId) (i : TypeInfo) (z : Value) (s bytes : Nat) (ht : P.underlying t = some (.slice e)) (hi : P.info? e = some i) (hz : i.zero = some z)
    (hsize : i.size = s) (hby : i.bytes = bytes) (hzs : z.cells.size = s) (hsz : 0 < s)
    (A : Option Addr) (n c : Nat) (cs : List Value) (hx : a.eval x = .slice A n c) (hown : Own w base e s A n c cs)
    (B : Nat) (A' : Option Addr) (m c' : Nat) (news : List Value) (hy : a.eval y = .slice A' m c') (hr : Row w B A' news) (hl : news.length = m * s) (h1 : ∀ u ∈ news, u.oneCell' = true)
    (h63 : n + m ≤ maxLen) (hbytes : (n + m) * bytes ≤ 140737488355328) (hbase : base ≤ w.heap.size)
    (h : ∀ A2 c2 w2, Own w2 base e s A2 (n + m) c2 (cs ++ news) → w.grownBy w2 (ownAt A c) → (ownAt A2 c2 = ownAt A c ∨ ownAt A2 c2 = some w.heap.size) → K (a.put o.dst (.slice A2 (n + m) c2)) w2) : o.wp P a w K Q := by
  obtain ⟨A2, c2, w2, hrun, h2, h3, h4⟩ := run_append (P := P) w base t o.type e i z s bytes ht hi hz hsize hby hzs hsz A n c cs hown B A' m c' news hr hl h1 h63 hbytes hbase
  unfold Oper.wp execOp
  simp only [ho, resolve, invoke, builtin, Sem.run_bind, Sem.run_pure, Result.andThen_ok, List.map_toArray, List.map_cons, List.map_nil, hx, hy, hrun]
  exact h A2 c2 w2 h2 h3 h4

theorem wpList_append {ops : Array Oper} {rest : List Oper} {o : Oper} {a : Act} {Q : Exit → Act → World → Prop} (hgd : o.guard = none) (x y : Operand) (t : TypeId)
    (ho : o.op = .call { callee := .builtin .append, args := #[x, y], argTypes := #[t, t] })
    (base : Nat) (e : TypeId) (i : TypeInfo) (z : Value) (s bytes : Nat) (ht : P.underlying t = some (.slice e)) (hi : P.info? e = some i) (hz : i.zero = some z)
    (hsize : i.size = s) (hby : i.bytes = bytes) (hzs : z.cells.size = s) (hsz : 0 < s)
    (A : Option Addr) (n c : Nat) (cs : List Value) (hx : a.eval x = .slice A n c) (hown : Own w base e s A n c cs)
    (B : Nat) (A' : Option Addr) (m c' : Nat) (news : List Value) (hy : a.eval y = .slice A' m c') (hr : Row w B A' news) (hl : news.length = m * s) (h1 : ∀ u ∈ news, u.oneCell' = true)
    (h63 : n + m ≤ maxLen) (hbytes : (n + m) * bytes ≤ 140737488355328) (hbase : base ≤ w.heap.size)
    (h : ∀ A2 c2 w2, Own w2 base e s A2 (n + m) c2 (cs ++ news) → w.grownBy w2 (ownAt A c) → (ownAt A2 c2 = ownAt A c ∨ ownAt A2 c2 = some w.heap.size) → wpList P ops Q rest (a.put o.dst (.slice A2 (n + m) c2)) w2) : wpList P ops Q (o :: rest) a w :=
  wpList_plain hgd fun _ hK => wp_append w x y t ho base e i z s bytes ht hi hz hsize hby hzs hsz A n c cs hx hown B A' m c' news hy hr hl h1 h63 hbytes hbase fun A2 c2 w2 h2 h3 h4 => hK _ _ (h A2 c2 w2 h2 h3 h4)
end

/-! ### A region that draws its order: quiet operations, then a tail whose order is forced -/
section
variable {P : Program} {ops : Array Oper} {md : Region.Mode} {C : World → Prop}

/-- The head alone, whatever order is picked, in worlds of the class. -/
def headQ (P : Program) (md : Region.Mode) (ops : Array Oper) (C : World → Prop) (n : Nat) (L : Array Bool → Act → Prop) : Nat → Array Bool → Act → Prop
  | 0, listed, a => L listed a
  | f + 1, listed, a =>
    Region.ready md ops listed ≠ [] ∧ ∀ i ∈ Region.ready md ops listed, i < n ∧ qOp P ops C i (headQ P md ops C n L f (listed.setIfInBounds i true)) a

theorem wpAny_of_headQ {n g : Nat} {L : Array Bool → Act → Prop} {Q' : Exit → Act → World → Prop} (hL : ∀ listed a w, C w → L listed a → wpAny P md ops Q' g listed a w) :
    ∀ (f : Nat) (listed : Array Bool) (a : Act) (w : World), C w → headQ P md ops C n L f listed a → wpAny P md ops Q' (f + g) listed a w
  | 0, listed, a, w, hw, h => by rw [Nat.zero_add]; exact hL _ _ _ hw h
  | f + 1, listed, a, w, hw, h => by
    rw [show f + 1 + g = (f + g) + 1 by omega]
    exact ⟨fun h0 => absurd h0 h.1, fun i hi => wpOp_of_qOp hw (fun a' w' hw' h' => wpAny_of_headQ hL f _ a' w' hw' h') (h.2 i hi).2⟩

theorem headQ_first {n i : Nat} {oi : Oper} {v : Value} {L : Array Bool → Act → Prop} (hi : ops[i]? = some oi) (hsel : ∀ (j : Nat) (o : Oper) cs b, ops[j]? = some o → o.op ≠ .select cs b)
    (hs : Region.sinkB md ops n = true) (hc : Region.chainB md ops n = true) (hn : n < ops.size) (hin : i < n)
    (hdone : ∀ listed a, L listed a → ∀ j ∈ Region.ready md ops listed, n ≤ j) :
    ∀ (f : Nat) (listed : Array Bool) (a : Act), HeadInv md ops n listed →
      (∀ j oj, ops[j]? = some oj → j ≠ i → listed.getD j true = false → (∀ e ∈ oj.after, Region.binds md e = true → e.on ≠ i) → oi.apart ops oj = true) →
      i ∈ Region.ready md ops listed → YieldsIn P ops C oi v a →
      headQ P md ops C n L f (listed.setIfInBounds i true) (a.put oi.dst v) → headQ P md ops C n L (f + 1) listed a := by
  intro f
  induction f with
  | zero =>
    intro listed a inv hfree hr hy H
    refine ⟨fun h => (by rw [h] at hr; cases hr), fun j hj => ?_⟩
    have hjn : j < n := by
      rcases Nat.lt_or_ge j n with h | h
      · exact h
      · exact absurd hj (tail_waits hs hc hn inv _ i rfl hin (mem_ready.1 hr).1 j h)
    by_cases hji : j = i
    · subst hji; exact ⟨hjn, hy.qOp hi H⟩
    · have := hdone _ _ H j (ready_mono hj hji)
      omega
  | succ f ih =>
    intro listed a inv hfree hr hy H
    refine ⟨fun h => (by rw [h] at hr; cases hr), fun j hj => ?_⟩
    have hjn : j < n := by
      rcases Nat.lt_or_ge j n with h | h
      · exact h
      · exact absurd hj (tail_waits hs hc hn inv _ i rfl hin (mem_ready.1 hr).1 j h)
    by_cases hji : j = i
    · subst hji; exact ⟨hjn, hy.qOp hi H⟩
    · refine ⟨hjn, ?_⟩
      have h1 := (H.2 j (ready_mono hj hji)).2
      obtain ⟨hjun, oj, hoj, hall⟩ := mem_ready.1 hj
      have hnot : ∀ e ∈ oj.after, Region.binds md e = true → e.on ≠ i := fun e he hb heq => by
        have h1 := hall e he hb
        have h0 := (mem_ready.1 hr).1
        rw [heq] at h1
        rcases Nat.lt_or_ge i listed.size with h' | h'
        · simp [h'] at h0 h1; rw [h0] at h1; cases h1
        · simp [Array.getElem?_eq_none h'] at h1
      have h2 := qOp_put hoj (hfree j oj hoj hji hjun hnot) (fun cs b => hsel i oi cs b hi) (fun cs b => hsel j oj cs b hoj) hy h1
      have hfree' : ∀ k ok, ops[k]? = some ok → k ≠ i → (listed.setIfInBounds j true).getD k true = false →
          (∀ e ∈ ok.after, Region.binds md e = true → e.on ≠ i) → oi.apart ops ok = true := fun k ok hk hki hun hno => by
        refine hfree k ok hk hki ?_ hno
        by_cases hjk : j = k
        · subst hjk; exact hjun
        · rw [getD_set_ne true hjk] at hun; exact hun
      refine qOp_mono (fun a' h3 => ih (listed.setIfInBounds j true) a' (inv.set hj hjn) hfree' (ready_mono hr (Ne.symm hji)) h3.1 ?_) h2
      rw [Array.setIfInBounds_comm _ _ hji]
      exact h3.2

theorem headQ_lex {n g : Nat} {Lq : Act → Prop} (hsel : Region.noSelect ops = true) (hs : Region.sinkB md ops n = true) (hc : Region.chainB md ops n = true) (hn : n < ops.size) :
    ∀ (l : List Oper) (k : Nat) (listed : Array Bool) (a : Act), (∀ j, j < l.length → l[j]? = ops[k + j]?) → k + l.length = n → HeadInv md ops n listed →
    Region.lexHead md ops g l.length k listed = true → wpQuiet P ops C Lq l a →
    headQ P md ops C n (fun listed' a' => Region.seqB md ops g n listed' = true ∧ Lq a') l.length listed a
  | [], k, listed, a, _, hk, _, hB, h => by
    have : k = n := by simpa using hk
    subst this
    exact ⟨by simpa [Region.lexHead] using hB, h⟩
  | o :: l, k, listed, a, hl, hk, inv, hB, h => by
    have h0 : ops[k]? = some o := by simpa using (hl 0 (by simp)).symm
    simp only [List.length_cons, Region.lexHead, Bool.and_eq_true] at hB
    obtain ⟨⟨hr, hf⟩, hB'⟩ := hB
    have hkn : k < n := by simp only [List.length_cons] at hk; omega
    have hr' : k ∈ Region.ready md ops listed := by simpa using hr
    have hst : qOp P ops C k (wpQuiet P ops C Lq l) a := by unfold qOp; simp only [h0]; exact h
    obtain ⟨v, hy, hK⟩ := yieldsIn_of_qOp h0 hst
    exact headQ_first h0 (Region.noSelect_spec hsel) hs hc hn hkn (fun listed' a' hL => seqB_ready hL.1) l.length listed a inv (Region.free_spec h0 hf) hr' hy
      (headQ_lex hsel hs hc hn l (k + 1) _ _ (fun j hj => by have := hl (j + 1) (by simp; omega); simpa [Nat.add_assoc, Nat.add_comm 1 j] using this) (by simp only [List.length_cons] at hk; omega) (inv.set hr' hkn) hB' hK)

/-- Quiet operations in whatever order, then the tail from operation n on, in its own order. -/
theorem wp_region_quiet_tail {id : Nat} {Q : Exit → Act → World → Prop} {a : Act} {w : World} {l : List Oper} (n : Nat) (hm : P.follows .mixedOrders = true) (hB : Region.lexTailB .any l.toArray n = true)
    (h : wpQuiet P l.toArray (fun w' => ∃ k, w' = w.drewN k) (fun a' => ∀ w', (∃ k, w' = w.drewN k) → wpList P l.toArray Q (l.drop n) a' w') (l.take n) a) : (Code.region id l.toArray true).wp P Q a w := by
  simp only [Region.lexTailB, Bool.and_eq_true, decide_eq_true_eq] at hB
  obtain ⟨⟨⟨⟨hsel, hn⟩, hs⟩, hc⟩, hlex⟩ := hB
  have hn' : n < l.length := by simpa using hn
  have htl : (l.take n).length = n := by simp; omega
  have hdl : (l.drop n).length = l.toArray.size - n := by simp
  have inv0 : HeadInv .any l.toArray n (Array.replicate l.toArray.size false) :=
    ⟨by simp, fun j oj _ hl => (by rw [getD_replicate_false] at hl; cases hl), fun t _ ht => getD_in (by simpa using ht) (getD_replicate_false _ _)⟩
  have H := headQ_lex (C := fun w' => ∃ k, w' = w.drewN k) (md := .any) (g := l.toArray.size - n) hsel hs hc hn (l.take n) 0 _ a (fun j hj => by
    have hj' : j < n := by rw [htl] at hj; exact hj
    simp [hj']) (by simpa using htl) inv0 (by rw [htl]; exact hlex) h
  refine wp_region_any hm ?_
  have := wpAny_of_headQ (C := fun w' => ∃ k, w' = w.drewN k) (Q' := Q) (g := l.toArray.size - n) (fun listed a' w' hw' hL => by
    have := wpAny_of_seq (md := .any) (Q' := Q) (l.drop n) n listed a' w' (fun j => by simp [List.getElem?_drop]) (by rw [hdl]; exact hL.1) (hL.2 w' hw')
    rwa [hdl] at this) _ _ _ _ ⟨1, rfl⟩ H
  rw [htl] at this
  rwa [show n + (l.toArray.size - n) = l.toArray.size by simp; omega] at this
end
end Go.Proofs.YtibaibdgpnkdnaaGreatDoor
end

section
namespace Go.Proofs.YtibaibdgpnkdnaaGreatDoor
set_option maxRecDepth 100000
set_option linter.unusedSimpArgs false
set_option linter.unusedVariables false
open Go.RowKit

/-- From w to w' only blocks that meet R, and new ones, may have turned. -/
structure Only (R : Nat → Prop) (w w' : World) : Prop where
  os : w'.os = w.os
  tape : w'.tape = w.tape
  output : w'.output = w.output
  size : w.heap.size ≤ w'.heap.size
  block : ∀ k, k < w.heap.size → ¬ R k → w'.heap[k]? = w.heap[k]?

section
variable {R R' : Nat → Prop} {w w' w'' a : World}
theorem Only.refl (R : Nat → Prop) (w : World) : Only R w w := ⟨rfl, rfl, rfl, Nat.le_refl _, fun _ _ _ => rfl⟩
theorem Only.trans (h : Only R w w') (k : Only R w' w'') : Only R w w'' :=
  ⟨k.os.trans h.os, k.tape.trans h.tape, k.output.trans h.output, Nat.le_trans h.size k.size, fun i hi hn => (k.block i (Nat.lt_of_lt_of_le hi h.size) hn).trans (h.block i hi hn)⟩
theorem Only.mono (h : Only R w w') (hR : ∀ k, k < w.heap.size → R k → R' k) : Only R' w w' := ⟨h.os, h.tape, h.output, h.size, fun k hk hn => h.block k hk fun hr => hn (hR k hk hr)⟩
theorem Only.setCell (h : Only R a w) {p : Addr} (hp : R p.block) (u : Value) : Only R a (w.setCell p u) :=
  ⟨h.os, h.tape, h.output, by simp [World.setCell]; exact h.size, fun k hk hn => (Below.heap_setCell w p u k (fun e => hn (by rw [e]; exact hp))).trans (h.block k hk hn)⟩
theorem Only.setRow (h : Only R a w) {g : Nat} (hg : R g) (cs : Array Value) : Only R a (w.setRow g cs) :=
  ⟨h.os, h.tape, h.output, by simp; exact h.size, fun k hk hn => (setRow_other w g k cs (fun e => hn (by rw [e]; exact hg))).trans (h.block k hk hn)⟩
theorem Only.alloc (h : Only R a w) (o : Obj) : Only R a (w.alloc o) :=
  ⟨h.os, h.tape, h.output, by simp; have := h.size; omega, fun k hk hn => (Below.heap_alloc w o k (Nat.lt_of_lt_of_le hk h.size)).trans (h.block k hk hn)⟩
theorem Only.drew (h : Only R a w) : Only R a w.drew := ⟨h.os, h.tape, h.output, h.size, h.block⟩
theorem Only.drewN (h : Only R a w) (k : Nat) : Only R a (w.drewN k) := ⟨h.os, h.tape, h.output, h.size, h.block⟩
theorem Only.of_below (h : Below w.heap.size w w') : Only R w w' := ⟨h.os, h.tape, h.output, h.size, fun k hk _ => h.block k hk⟩
theorem Only.below (h : Only R w w') {B : Nat} (hB : B ≤ w.heap.size) (hR : ∀ k, k < B → ¬ R k) : Below B w w' :=
  ⟨h.os, h.tape, h.output, h.size, fun k hk => h.block k (Nat.lt_of_lt_of_le hk hB) (hR k hk)⟩
theorem Only.grown (h : Only R a w) {row : Option Nat} (hg : w.grownBy w' row) (hr : ∀ k, row = some k → R k) : Only R a w' :=
  ⟨hg.os.trans h.os, hg.tape.trans h.tape, hg.output.trans h.output, Nat.le_trans h.size hg.size, fun k hk hn =>
    (hg.block k (Nat.lt_of_lt_of_le hk h.size) (fun e => hn (hr k e.symm))).trans (h.block k hk hn)⟩
theorem Blk.only {g : Nat} {t : TypeId} {cs : Array Value} (h : Blk w g t cs) (ho : Only R w w') (hg : ¬ R g) : Blk w' g t cs := (ho.block g h.lt hg).trans h
theorem Own.only {base : Nat} {t : TypeId} {s : Nat} {A : Option Addr} {n c : Nat} {cs : List Value} (h : Own w base t s A n c cs) (ho : Only R w w') (hg : ∀ g, A.map (·.block) = some g → ¬ R g) : Own w' base t s A n c cs := by
  refine ⟨h.1, h.2.1, h.2.2.1, fun hc => ?_⟩
  obtain ⟨g, cur, e, hb, hh, r⟩ := h.2.2.2 hc
  exact ⟨g, cur, e, hb, (ho.block g (Array.getElem?_eq_some_iff.1 hh).1 (hg g (by rw [e]; rfl))).trans hh, r⟩
theorem Own.setCell {base : Nat} {t : TypeId} {s : Nat} {A : Option Addr} {n c : Nat} {cs : List Value} (h : Own w base t s A n c cs) {p : Addr} (hp : ∀ g, A.map (·.block) = some g → g ≠ p.block) (u : Value) : Own (w.setCell p u) base t s A n c cs := by
  refine ⟨h.1, h.2.1, h.2.2.1, fun hc => ?_⟩
  obtain ⟨g, cur, e, hb, hh, r⟩ := h.2.2.2 hc
  exact ⟨g, cur, e, hb, (Below.heap_setCell w p u g (hp g (by rw [e]; rfl))).trans hh, r⟩
/-- Blocks of different element types differ. -/
theorem Blk.ne {g g' : Nat} {t t' : TypeId} {cs cs' : Array Value} (h : Blk w g t cs) (h' : Blk w g' t' cs') (hne : t ≠ t') : g ≠ g' := by
  rintro rfl
  unfold Blk at h h'
  rw [h] at h'
  injection h' with h'
  injection h' with _ ht
  exact hne ht
end
abbrev I64 (z : Int) : Value := .int .i64 z
theorem madeCells_eq (z : Value) (n : Nat) : madeCells #[z] n = (List.replicate n z).toArray := by
  apply Array.ext
  · simp [madeCells]
  · intro i h1 h2; simp [madeCells, Nat.mod_one]
theorem Own.made {w : World} {g n base : Nat} {t : TypeId} {z : Value} (hb : Blk w g t (madeCells #[z] n)) (hg : base ≤ g) (hm : n ≤ maxLen) : Own w base t 1 (some ⟨g, 0, none⟩) n n (List.replicate n z) := by
  have h := Own.blk (s := 1) (n := n) (c := n) hb hg (Nat.le_refl _) hm (by simp [madeCells]) (by simp [madeCells])
  rwa [madeCells_eq, show ((List.replicate n z).toArray.toList.take (n * 1)) = List.replicate n z by simp] at h
end Go.Proofs.YtibaibdgpnkdnaaGreatDoor
end

section
namespace Go.Proofs.YtibaibdgpnkdnaaGreatDoor
set_option maxRecDepth 100000
set_option linter.unusedSimpArgs false
set_option linter.unusedVariables false
open Go.RowKit

/-- A command by value. -/
def cmdV (cla ins p1 p2 : Int) (A : Option Addr) (n c : Nat) (le : Int) (long : Bool) : Value :=
  .agg #[I64 cla, I64 ins, I64 p1, I64 p2, .slice A n c, I64 le, .bool long]

theorem apdu_isByte (x : Int) (w : World) : Calls Tryz.prog 57 #[.int .i64 x] w fun e w' => e = .returned (.bool (Apd.byt x)) ∧ w = w' := by
  unfold Apd.byt
  by_cases h0 : 0 ≤ x
  · go_enter Tryz.func57, Tryz.ntmps57
    go_wp2_with fail
    go_ret
    exact ⟨by simp [h0], rfl⟩
  · go_enter Tryz.func57, Tryz.ntmps57
    go_wp2_with fail
    go_ret
    exact ⟨by simp; omega, rfl⟩
theorem ref04_isByte (x : Int) (w : World) : Calls Tryz.prog 84 #[.int .i64 x] w fun e w' => e = .returned (.bool (Apd.byt x)) ∧ w = w' := by
  unfold Apd.byt
  by_cases h0 : 0 ≤ x
  · go_enter Tryz.func84, Tryz.ntmps84
    go_wp2_with fail
    go_ret
    exact ⟨by simp [h0], rfl⟩
  · go_enter Tryz.func84, Tryz.ntmps84
    go_wp2_with fail
    go_ret
    exact ⟨by simp; omega, rfl⟩

set_option maxRecDepth 100000 in
set_option maxHeartbeats 4000000 in
theorem apdu_Check (cla ins p1 p2 : Int) (A : Option Addr) (n c : Nat) (le : Int) (long : Bool) (w : World) :
    Calls Tryz.prog 31 #[cmdV cla ins p1 p2 A n c le long] w fun e w' => e = .returned (.int .i64 (Apd.chk cla ins p1 p2 n le long)) ∧ Below w.heap.size w w' := by
  have HB := Lib.hid (fun o => (Below.refl w.heap.size w).alloc (Nat.le_refl _) o)
  have hC := Apd.chk_cases cla ins p1 p2 n le long
  have hby : ∀ x, Apd.byt x = true → 0 ≤ x ∧ x ≤ 255 := fun x h => of_decide_eq_true h
  unfold cmdV
  rcases hC with ⟨e0, hc⟩ | ⟨e0, e1, hc⟩ | ⟨e0, e1, e2, hc⟩ | ⟨e0, e1, e2, e3, hc⟩ | ⟨e0, e1, e2, e3, hC⟩
  rotate_left 4
  obtain ⟨q0, q1⟩ := hby ins e1
  have qt : ins.tdiv 16 = ins / 16 := Int.tdiv_eq_ediv_of_nonneg q0
  rcases hC with ⟨h1, hc⟩ | ⟨h1, h2, hc⟩ | ⟨h1, h2, h3, hc⟩ | ⟨h1, h2, h3, hC⟩
  rotate_left 3
  rcases hC with ⟨h4, hc⟩ | ⟨h4, h5, hc⟩ | ⟨h4, h5, h6, hc⟩ | ⟨h4, h5, h6, hC⟩
  rotate_left 3
  rcases hC with ⟨h7, hc⟩ | ⟨h7, h8, hc⟩ | ⟨h7, h8, h9, hc⟩ | ⟨h7, h8, h9, hc⟩
  all_goals
    rw [hc]
    clear hby hc
    try subst h1
    try replace h1 := beq_eq_false_iff_ne.2 h1
    try replace h2 := beq_eq_false_iff_ne.2 h2
    try replace h3 := beq_eq_false_iff_ne.2 h3
    cases long
  all_goals first
    | (cases h7; done)
    | (try simp only [Apd.maxD_t, Apd.maxD_f, Apd.maxL_t, Apd.maxL_f] at *
       try clear h7
       go_enter Tryz.func31, Tryz.ntmps31
       go_wp2_with (go_at_call 57; refine (apdu_isByte _ _).mono ?_; rintro e w1 ⟨rfl, rfl⟩; first | rw [e0] | rw [e1] | rw [e2] | rw [e3])
       go_ret
       exact ⟨rfl, HB.out _⟩)

set_option maxRecDepth 100000 in
set_option maxHeartbeats 4000000 in
theorem ref04_Check (cla ins p1 p2 : Int) (A : Option Addr) (n c : Nat) (le : Int) (long : Bool) (w : World) :
    Calls Tryz.prog 66 #[cmdV cla ins p1 p2 A n c le long] w fun e w' => e = .returned (.int .i64 (Apd.chk cla ins p1 p2 n le long)) ∧ Below w.heap.size w w' := by
  have HB := Lib.hid (fun o => (Below.refl w.heap.size w).alloc (Nat.le_refl _) o)
  have hC := Apd.chk_cases cla ins p1 p2 n le long
  have hby : ∀ x, Apd.byt x = true → 0 ≤ x ∧ x ≤ 255 := fun x h => of_decide_eq_true h
  unfold cmdV
  rcases hC with ⟨e0, hc⟩ | ⟨e0, e1, hc⟩ | ⟨e0, e1, e2, hc⟩ | ⟨e0, e1, e2, e3, hc⟩ | ⟨e0, e1, e2, e3, hC⟩
  rotate_left 4
  obtain ⟨q0, q1⟩ := hby ins e1
  have qt : ins.tdiv 16 = ins / 16 := Int.tdiv_eq_ediv_of_nonneg q0
  rcases hC with ⟨h1, hc⟩ | ⟨h1, h2, hc⟩ | ⟨h1, h2, h3, hc⟩ | ⟨h1, h2, h3, hC⟩
  rotate_left 3
  rcases hC with ⟨h4, hc⟩ | ⟨h4, h5, hc⟩ | ⟨h4, h5, h6, hc⟩ | ⟨h4, h5, h6, hC⟩
  rotate_left 3
  rcases hC with ⟨h7, hc⟩ | ⟨h7, h8, hc⟩ | ⟨h7, h8, h9, hc⟩ | ⟨h7, h8, h9, hc⟩
  all_goals
    rw [hc]
    clear hby hc
    try subst h1
    try replace h1 := beq_eq_false_iff_ne.2 h1
    try replace h2 := beq_eq_false_iff_ne.2 h2
    try replace h3 := beq_eq_false_iff_ne.2 h3
    cases long
  all_goals first
    | (cases h7; done)
    | (try simp only [Apd.maxD_t, Apd.maxD_f, Apd.maxL_t, Apd.maxL_f] at *
       try clear h7
       go_enter Tryz.func66, Tryz.ntmps66
       go_wp2_with (go_at_call 84; refine (ref04_isByte _ _).mono ?_; rintro e w1 ⟨rfl, rfl⟩; first | rw [e0] | rw [e1] | rw [e2] | rw [e3])
       go_ret
       exact ⟨rfl, HB.out _⟩)
end Go.Proofs.YtibaibdgpnkdnaaGreatDoor
end

section
namespace Go.Proofs.YtibaibdgpnkdnaaGreatDoor.Oct
set_option maxRecDepth 100000
set_option linter.unusedSimpArgs false
set_option linter.unusedVariables false

/-- Byte by byte; a beginning of another string comes before it. -/
def cmp : List UInt8 → List UInt8 → Int
  | [], [] => 0
  | [], _ :: _ => -1
  | _ :: _, [] => 1
  | a :: as1, b :: bs => if a.toNat < b.toNat then -1 else if b.toNat < a.toNat then 1 else cmp as1 bs

theorem cmp_zero : ∀ (a b : List UInt8), cmp a b = 0 ↔ a = b
  | [], [] => by simp [cmp]
  | [], _ :: _ => by simp [cmp]
  | _ :: _, [] => by simp [cmp]
  | a :: as1, b :: bs => by
    simp only [cmp]
    split
    · rename_i h
      constructor
      · intro h'; cases h'
      · intro h'; obtain ⟨rfl, _⟩ := List.cons.inj h'; omega
    · split
      · rename_i h
        constructor
        · intro h'; cases h'
        · intro h'; obtain ⟨rfl, _⟩ := List.cons.inj h'; omega
      · rename_i h1 h2
        have e : a = b := UInt8.toNat_inj.1 (by omega)
        subst e
        rw [cmp_zero as1 bs]
        simp
theorem cmp_bd : ∀ (a b : List UInt8), -1 ≤ cmp a b ∧ cmp a b ≤ 1
  | [], [] => by simp [cmp]
  | [], _ :: _ => by simp [cmp]
  | _ :: _, [] => by simp [cmp]
  | a :: as1, b :: bs => by
    simp only [cmp]
    split
    · omega
    · split
      · omega
      · exact cmp_bd as1 bs
theorem cmp_step (a b : List UInt8) (k : Nat) (ha : k < a.length) (hb : k < b.length) :
    cmp (a.drop k) (b.drop k) = if (a.getD k 0).toNat < (b.getD k 0).toNat then -1 else if (b.getD k 0).toNat < (a.getD k 0).toNat then 1 else cmp (a.drop (k + 1)) (b.drop (k + 1)) := by
  rw [List.drop_eq_getElem_cons ha, List.drop_eq_getElem_cons hb]
  simp [cmp, List.getD, List.getElem?_eq_getElem ha, List.getElem?_eq_getElem hb]
theorem cmp_end (a b : List UInt8) (k : Nat) (ha : k ≤ a.length) (hb : k ≤ b.length) (h : k = a.length ∨ k = b.length) :
    cmp (a.drop k) (b.drop k) = if a.length < b.length then -1 else if b.length < a.length then 1 else 0 := by
  rcases h with h | h
  · rw [h, List.drop_length]
    rcases Nat.lt_or_ge a.length b.length with h' | h'
    · rw [List.drop_eq_getElem_cons h', if_pos h']; rfl
    · have e : b.length = a.length := by omega
      rw [if_neg (by omega), if_neg (by omega), ← e, List.drop_length]; rfl
  · rw [h, List.drop_length]
    rcases Nat.lt_or_ge b.length a.length with h' | h'
    · rw [List.drop_eq_getElem_cons h', if_neg (by omega), if_pos h']; rfl
    · have e : a.length = b.length := by omega
      rw [if_neg (by omega), if_neg (by omega), ← e, List.drop_length]; rfl
/-- Are two strings the same? -/
def same (a b : List UInt8) : Bool := decide (a = b)
theorem same_refl (a : List UInt8) : same a a = true := by simp [same]
theorem same_iff (a b : List UInt8) : same a b = true ↔ a = b := by simp [same]
theorem same_cmp (a b : List UInt8) : (cmp a b == 0) = same a b := by
  rw [Bool.eq_iff_iff, same_iff, beq_iff_eq, cmp_zero]
end Go.Proofs.YtibaibdgpnkdnaaGreatDoor.Oct
end

section
namespace Go.Proofs.YtibaibdgpnkdnaaGreatDoor
set_option maxRecDepth 100000
set_option linter.unusedSimpArgs false
set_option linter.unusedVariables false
open Go.RowKit

set_option maxHeartbeats 1000000 in
theorem ref01_Compare (A A' : Option Addr) (n n' c c' : Nat) (xs ys : List UInt8) (w : World) (hx : Byt w w.heap.size A n c xs) (hy : Byt w w.heap.size A' n' c' ys) (hn : n ≤ 9223372036854775807) (hn' : n' ≤ 9223372036854775807) :
    Calls Tryz.prog 56 #[.slice A n c, .slice A' n' c'] w fun e w' => e = .returned (.int .i64 (Oct.cmp xs ys)) ∧ ∃ k, w' = w.drewN k := by
  have lx := Lib.hid hx.1
  have ly := Lib.hid hy.1
  have rx := hx.2.2
  have ry := hy.2.2
  clear hx hy
  go_enter Tryz.func56, Tryz.ntmps56
  go_wp2_with fail
  go_loopw [5] (fun i wr => ∃ k : Nat, k ≤ n ∧ k ≤ n' ∧ i = .int .i64 k ∧ Hid (Oct.cmp xs ys = Oct.cmp (xs.drop k) (ys.drop k)) ∧ ∃ d, wr = w.drewN d) (fun i _ => n - (intOf i).toNat)
  case atStart => exact ⟨0, by omega, by omega, rfl, rfl, 0, rfl⟩
  case round =>
    obtain ⟨k, hk, hk', rfl, he, d, rfl⟩ := hrel
    by_cases h1 : k < n
    · by_cases h2 : k < n'
      · obtain ⟨b, o, rfl, hb, -⟩ := rx.at_ (j := k) (by rw [length_bcells, lx.out]; exact h1)
        obtain ⟨b', o', rfl, hb', -⟩ := ry.at_ (j := k) (by rw [length_bcells, ly.out]; exact h2)
        have c1 := rx.byte k (by rw [lx.out]; exact h1)
        have c2 := ry.byte k (by rw [ly.out]; exact h2)
        have hst := Lib.hid (Oct.cmp_step xs ys k (by rw [lx.out]; exact h1) (by rw [ly.out]; exact h2))
        generalize (xs.getD k 0).toNat = x at *
        generalize (ys.getD k 0).toNat = y at *
        have i0 : (0 : Int) ≤ (k : Int) := by omega
        have i1 : (k : Int) < (n : Int) := by omega
        have i2 : (k : Int) < (n' : Int) := by omega
        rcases (show x < y ∨ (y < x ∧ ¬ x < y) ∨ (¬ y < x ∧ ¬ x < y) by omega) with h | ⟨h, h'⟩ | ⟨h, h'⟩
        · have hd : decide (x < y) = true := by simpa using h
          go_wp2_with fail
          go_quiet (fail)
          go_wp2_with fail
          go_ret
          exact ⟨ret_int (by rw [he.out, hst.out, if_pos h]), _, by first | rfl | (simp only [World.drewN_drewN]; rfl)⟩
        · have hd : decide (x < y) = false := by simpa using h'
          have hd' : decide (y < x) = true := by simpa using h
          go_wp2_with fail
          go_quiet (fail)
          go_wp2_with fail
          go_quiet (fail)
          go_wp2_with fail
          go_ret
          exact ⟨ret_int (by rw [he.out, hst.out, if_neg h', if_pos h]), _, by first | rfl | (simp only [World.drewN_drewN]; rfl)⟩
        · have hd : decide (x < y) = false := by simpa using h'
          have hd' : decide (y < x) = false := by simpa using h
          go_wp2_with fail
          go_quiet (fail)
          go_wp2_with fail
          go_quiet (fail)
          go_wp2_with fail
          go_roundw
          case rel => exact ⟨k + 1, by omega, by omega, by go_num, by rw [he.out, hst.out, if_neg h', if_neg h]; rfl, _, by first | rfl | (simp only [World.drewN_drewN]; rfl)⟩
          case measure => simp [intOf]; omega
      · obtain rfl : k = n' := by omega
        have hst := Lib.hid (Oct.cmp_end xs ys k (by rw [lx.out]; exact hk) (by rw [ly.out]; exact hk') (.inr ly.out.symm))
        go_wp2_with fail
        go_ret
        exact ⟨ret_int (by rw [he.out, hst.out, lx.out, ly.out, if_neg (by omega), if_pos h1]), _, by first | rfl | (simp only [World.drewN_drewN]; rfl)⟩
    · obtain rfl : k = n := by omega
      have hst := Lib.hid (Oct.cmp_end xs ys k (by rw [lx.out]; exact hk) (by rw [ly.out]; exact hk') (.inl lx.out.symm))
      by_cases h2 : k < n'
      · go_wp2_with fail
        go_ret
        exact ⟨ret_int (by rw [he.out, hst.out, lx.out, ly.out, if_pos h2]), _, by first | rfl | (simp only [World.drewN_drewN]; rfl)⟩
      · go_wp2_with fail
        go_ret
        exact ⟨ret_int (by rw [he.out, hst.out, lx.out, ly.out, if_neg h2, if_neg (by omega)]), _, by first | rfl | (simp only [World.drewN_drewN]; rfl)⟩

set_option maxHeartbeats 400000 in
theorem ref01_Same (A A' : Option Addr) (n n' c c' : Nat) (xs ys : List UInt8) (w : World) (hx : Byt w w.heap.size A n c xs) (hy : Byt w w.heap.size A' n' c' ys) (hn : n ≤ 9223372036854775807) (hn' : n' ≤ 9223372036854775807) :
    Calls Tryz.prog 27 #[.slice A n c, .slice A' n' c'] w fun e w' => e = .returned (.bool (Oct.same xs ys)) ∧ ∃ k, w' = w.drewN k := by
  have hs := Lib.hid (Oct.same_cmp xs ys)
  go_enter Tryz.func27, Tryz.ntmps27
  go_wp2_with (go_at_call 56; refine (ref01_Compare A A' n n' c c' xs ys w hx hy hn hn').mono ?_; rintro e w1 ⟨rfl, k1, rfl⟩)
  go_ret
  exact ⟨by rw [← hs.out]; rfl, _, rfl⟩
end Go.Proofs.YtibaibdgpnkdnaaGreatDoor
end

section
namespace Go.Proofs.YtibaibdgpnkdnaaGreatDoor
set_option maxRecDepth 100000
set_option linter.unusedSimpArgs false
set_option linter.unusedVariables false
open Go.RowKit

theorem Own.made0 {w : World} {g base c : Nat} {t : TypeId} {z : Value} (hb : Blk w g t (madeCells #[z] c)) (hg : base ≤ g) (hm : c ≤ maxLen) : Own w base t 1 (some ⟨g, 0, none⟩) 0 c [] := by
  have h := Own.blk (s := 1) (n := 0) (c := c) hb hg (Nat.zero_le _) hm (by simp [madeCells]) (by simp)
  simpa using h
theorem bcells_zs (n : Nat) : List.replicate n (Value.int .u8 0) = bcells (zs n) := by simp [bcells, zs, B8]
/-- The cells of a slice of bytes are read off as they stand. -/
theorem byt_load {P : Program} {w : World} {B : Nat} {a : Addr} {n c : Nat} {bs : List UInt8} (h : Byt w B (some a) n c bs) : (loadCells a n).run P w = .ok (bcells bs).toArray w := by
  have := run_loadCells_list (P := P) w a (bcells bs) (fun j v hj => by
    have hjl : j < (bcells bs).length := (List.getElem?_eq_some_iff.1 hj).1
    obtain ⟨b, o, e, _, hc⟩ := h.2.2 (by omega)
    obtain rfl : a = ⟨b, o, none⟩ := by simpa using e
    rw [add_eq, hc j hjl, hj])
  rw [length_bcells, h.1] at this
  exact this
theorem byt_string {P : Program} {w : World} {B : Nat} {A : Option Addr} {n c : Nat} {bs : List UInt8} (src e : TypeId) (hs : P.underlying src = some (.slice e)) (he : P.underlying e = some (.int .u8)) (h : Byt w B A n c bs) (dst : TypeId) (hd : P.underlying dst = some .string) :
    (convert src dst (.slice A n c)).run P w = .ok (.string ⟨bs.toArray⟩) w := by
  cases A with
  | none =>
    have hb : bs = [] := by
      rcases Nat.eq_zero_or_pos n with h0 | h0
      · exact List.eq_nil_of_length_eq_zero (by rw [h.1]; exact h0)
      · obtain ⟨b, o, e, _⟩ := h.at_ h0; cases e
    subst hb
    exact run_convert_bytes_nil w src e hs he n c dst hd
  | some a =>
    have hl : (loadCells a n).run P w = .ok ((bs.map fun b => (b.toNat : Int)).map (Value.int .u8)).toArray w := by
      rw [byt_load h, List.map_map]; rfl
    rw [run_convert_bytes_string w src dst e _ n c hs he hd, run_bytesToString w a n c _ hl, foldl_push_bytes]
    simp only [List.map_map]
    congr 2
    have : (bs.map ((fun n : Int => UInt8.ofNat n.toNat) ∘ fun b : UInt8 => (b.toNat : Int))) = bs := by
      rw [List.map_congr_left (g := id)]
      · simp
      · intro b _; simp
    rw [this]
    simp [ByteArray.empty, ByteArray.emptyWithCapacity]
    rfl
theorem made_u8 {P : Program} (t e : TypeId) (i : TypeInfo) (ht : P.underlying t = some (.slice e)) (hi : P.info? e = some i) (hz : i.zero = some (.int .u8 0)) (hs : i.size = 1) (hb : i.bytes = 1)
    (n : Nat) (hn : n ≤ 1099511627776) (u : World) : (Instr.makeSlice t (.int .i64 (n : Int)) (.int .i64 (n : Int))).run P u = .ok (.slice (some ⟨u.heap.size, 0, none⟩) n n) (u.alloc (.cells (madeCells #[.int .u8 0] n) e)) := by
  have h := run_make (P := P) u t e i (.int .u8 0) ht hi hz .i64 .i64 (n : Int) (n : Int) (by omega) (Int.le_refl _) (by rw [hb]; omega) (by omega)
  rw [hs, Int.toNat_natCast, Nat.mul_one] at h
  exact h
theorem made0_u8 {P : Program} (t e : TypeId) (i : TypeInfo) (ht : P.underlying t = some (.slice e)) (hi : P.info? e = some i) (hz : i.zero = some (.int .u8 0)) (hs : i.size = 1) (hb : i.bytes = 1)
    (n : Nat) (hn : n ≤ 1099511627776) (u : World) : (Instr.makeSlice t (.int .i64 0) (.int .i64 (n : Int))).run P u = .ok (.slice (some ⟨u.heap.size, 0, none⟩) 0 n) (u.alloc (.cells (madeCells #[.int .u8 0] n) e)) := by
  have h := run_make (P := P) u t e i (.int .u8 0) ht hi hz .i64 .i64 0 (n : Int) (by omega) (by omega) (by rw [hb]; omega) (by omega)
  rw [hs, Int.toNat_natCast, Nat.mul_one] at h
  exact h
/-- A quiet call behind an earlier quiet region: the draws are joined. -/
theorem Calls.quiet_more {P : Program} {f : FuncId} {args : Array Value} {w : World} {d k : Nat} {v : Value} (h : Calls P f args (w.drewN (d + k)) fun e u => e = .returned v ∧ ∃ m, u = (w.drewN (d + k)).drewN m) :
    Calls P f args (w.drewN (d + k)) fun e u => e = .returned v ∧ ∃ m, u = w.drewN (d + m) :=
  h.mono fun _ _ ⟨he, m, hu⟩ => ⟨he, k + m, by rw [hu, World.drewN_drewN, Nat.add_assoc]⟩
/-- What a call leaves that hands back bytes and an error. -/
def BRes (t : TypeId) (w : World) (bs : List UInt8) (er : Int) (e : Ending) (w' : World) : Prop :=
  ∃ A c, e = .returned (.tuple #[.slice A bs.length c, .int .i64 er]) ∧ Own w' w.heap.size t 1 A bs.length c (bcells bs) ∧ Below w.heap.size w w'
theorem BRes.nil (t : TypeId) {w w' : World} {er : Int} (h : Below w.heap.size w w') : BRes t w [] er (.returned (.tuple #[.slice none 0 0, .int .i64 er])) w' := ⟨none, 0, rfl, Own.none_ _ _ _ _ _, h⟩
theorem BRes.mk {t : TypeId} {w w' : World} {A : Option Addr} {n c : Nat} {bs : List UInt8} {er : Int} (hn : bs.length = n) (h : Own w' w.heap.size t 1 A n c (bcells bs)) (hb : Below w.heap.size w w') : BRes t w bs er (.returned (.tuple #[.slice A n c, .int .i64 er])) w' := by
  subst hn; exact ⟨A, c, rfl, h, hb⟩
section
variable {P : Program} (w : World)
/-- 'wp_append' as a step of a region that draws its order. -/
theorem step_append {ops : Array Oper} {o : Oper} {a : Act} {K : Act → World → Prop} {Q : Exit → Act → World → Prop} {E : Prop} (hgd : o.guard = none) (x y : Operand) (t : TypeId)
    (ho : o.op = .call { callee := .builtin .append, args := #[x, y], argTypes := #[t, t] })
    (base : Nat) (e : TypeId) (i : TypeInfo) (z : Value) (s bytes : Nat) (ht : P.underlying t = some (.slice e)) (hi : P.info? e = some i) (hz : i.zero = some z)
    (hsize : i.size = s) (hby : i.bytes = bytes) (hzs : z.cells.size = s) (hsz : 0 < s)
    (A : Option Addr) (n c : Nat) (cs : List Value) (hx : a.eval x = .slice A n c) (hown : Own w base e s A n c cs)
    (B : Nat) (A' : Option Addr) (m c' : Nat) (news : List Value) (hy : a.eval y = .slice A' m c') (hr : Row w B A' news) (hl : news.length = m * s) (h1 : ∀ u ∈ news, u.oneCell' = true)
    (h63 : n + m ≤ maxLen) (hbytes : (n + m) * bytes ≤ 140737488355328) (hbase : base ≤ w.heap.size)
    (h : ∀ A2 c2 w2, Own w2 base e s A2 (n + m) c2 (cs ++ news) → w.grownBy w2 (ownAt A c) → (ownAt A2 c2 = ownAt A c ∨ ownAt A2 c2 = some w.heap.size) → K (a.put o.dst (.slice A2 (n + m) c2)) w2) :
    if Region.wanted o (yielded ops a.tmps) = true then Oper.wp P o a w K Q else E := by
  have hw : Region.wanted o (yielded ops a.tmps) = true := by simp [Region.wanted, hgd]
  rw [if_pos hw]
  exact wp_append w x y t ho base e i z s bytes ht hi hz hsize hby hzs hsz A n c cs hx hown B A' m c' news hy hr hl h1 h63 hbytes hbase h
end
end Go.Proofs.YtibaibdgpnkdnaaGreatDoor
end

section
namespace Go.Proofs.YtibaibdgpnkdnaaGreatDoor
set_option maxRecDepth 100000
set_option linter.unusedSimpArgs false
set_option linter.unusedVariables false
open Go.RowKit

theorem o_u8 : (Tryz.prog.info? 5).map (fun i => (i.zero, i.size, i.bytes)) = some (some (.int .u8 0), 1, 1) := by kernel_rfl
set_option maxRecDepth 100000 in
theorem digit_index (k : Nat) (hk : k < 16) (u : World) : (Instr.index 9 (.string ⟨#[48, 49, 50, 51, 52, 53, 54, 55, 56, 57, 97, 98, 99, 100, 101, 102]⟩) (.int .u8 (k : Int))).run Tryz.prog u = .ok (.int .u8 ((Oct.dg k).toNat : Int)) u := by
  match k, hk with
  | 0, _ => exact (by kernel_rfl : (Instr.index 9 (.string ⟨#[48, 49, 50, 51, 52, 53, 54, 55, 56, 57, 97, 98, 99, 100, 101, 102]⟩) (.int .u8 ((0 : Nat) : Int))).run Tryz.prog u = .ok (.int .u8 ((Oct.dg 0).toNat : Int)) u)
  | 1, _ => exact (by kernel_rfl : (Instr.index 9 (.string ⟨#[48, 49, 50, 51, 52, 53, 54, 55, 56, 57, 97, 98, 99, 100, 101, 102]⟩) (.int .u8 ((1 : Nat) : Int))).run Tryz.prog u = .ok (.int .u8 ((Oct.dg 1).toNat : Int)) u)
  | 2, _ => exact (by kernel_rfl : (Instr.index 9 (.string ⟨#[48, 49, 50, 51, 52, 53, 54, 55, 56, 57, 97, 98, 99, 100, 101, 102]⟩) (.int .u8 ((2 : Nat) : Int))).run Tryz.prog u = .ok (.int .u8 ((Oct.dg 2).toNat : Int)) u)
  | 3, _ => exact (by kernel_rfl : (Instr.index 9 (.string ⟨#[48, 49, 50, 51, 52, 53, 54, 55, 56, 57, 97, 98, 99, 100, 101, 102]⟩) (.int .u8 ((3 : Nat) : Int))).run Tryz.prog u = .ok (.int .u8 ((Oct.dg 3).toNat : Int)) u)
  | 4, _ => exact (by kernel_rfl : (Instr.index 9 (.string ⟨#[48, 49, 50, 51, 52, 53, 54, 55, 56, 57, 97, 98, 99, 100, 101, 102]⟩) (.int .u8 ((4 : Nat) : Int))).run Tryz.prog u = .ok (.int .u8 ((Oct.dg 4).toNat : Int)) u)
  | 5, _ => exact (by kernel_rfl : (Instr.index 9 (.string ⟨#[48, 49, 50, 51, 52, 53, 54, 55, 56, 57, 97, 98, 99, 100, 101, 102]⟩) (.int .u8 ((5 : Nat) : Int))).run Tryz.prog u = .ok (.int .u8 ((Oct.dg 5).toNat : Int)) u)
  | 6, _ => exact (by kernel_rfl : (Instr.index 9 (.string ⟨#[48, 49, 50, 51, 52, 53, 54, 55, 56, 57, 97, 98, 99, 100, 101, 102]⟩) (.int .u8 ((6 : Nat) : Int))).run Tryz.prog u = .ok (.int .u8 ((Oct.dg 6).toNat : Int)) u)
  | 7, _ => exact (by kernel_rfl : (Instr.index 9 (.string ⟨#[48, 49, 50, 51, 52, 53, 54, 55, 56, 57, 97, 98, 99, 100, 101, 102]⟩) (.int .u8 ((7 : Nat) : Int))).run Tryz.prog u = .ok (.int .u8 ((Oct.dg 7).toNat : Int)) u)
  | 8, _ => exact (by kernel_rfl : (Instr.index 9 (.string ⟨#[48, 49, 50, 51, 52, 53, 54, 55, 56, 57, 97, 98, 99, 100, 101, 102]⟩) (.int .u8 ((8 : Nat) : Int))).run Tryz.prog u = .ok (.int .u8 ((Oct.dg 8).toNat : Int)) u)
  | 9, _ => exact (by kernel_rfl : (Instr.index 9 (.string ⟨#[48, 49, 50, 51, 52, 53, 54, 55, 56, 57, 97, 98, 99, 100, 101, 102]⟩) (.int .u8 ((9 : Nat) : Int))).run Tryz.prog u = .ok (.int .u8 ((Oct.dg 9).toNat : Int)) u)
  | 10, _ => exact (by kernel_rfl : (Instr.index 9 (.string ⟨#[48, 49, 50, 51, 52, 53, 54, 55, 56, 57, 97, 98, 99, 100, 101, 102]⟩) (.int .u8 ((10 : Nat) : Int))).run Tryz.prog u = .ok (.int .u8 ((Oct.dg 10).toNat : Int)) u)
  | 11, _ => exact (by kernel_rfl : (Instr.index 9 (.string ⟨#[48, 49, 50, 51, 52, 53, 54, 55, 56, 57, 97, 98, 99, 100, 101, 102]⟩) (.int .u8 ((11 : Nat) : Int))).run Tryz.prog u = .ok (.int .u8 ((Oct.dg 11).toNat : Int)) u)
  | 12, _ => exact (by kernel_rfl : (Instr.index 9 (.string ⟨#[48, 49, 50, 51, 52, 53, 54, 55, 56, 57, 97, 98, 99, 100, 101, 102]⟩) (.int .u8 ((12 : Nat) : Int))).run Tryz.prog u = .ok (.int .u8 ((Oct.dg 12).toNat : Int)) u)
  | 13, _ => exact (by kernel_rfl : (Instr.index 9 (.string ⟨#[48, 49, 50, 51, 52, 53, 54, 55, 56, 57, 97, 98, 99, 100, 101, 102]⟩) (.int .u8 ((13 : Nat) : Int))).run Tryz.prog u = .ok (.int .u8 ((Oct.dg 13).toNat : Int)) u)
  | 14, _ => exact (by kernel_rfl : (Instr.index 9 (.string ⟨#[48, 49, 50, 51, 52, 53, 54, 55, 56, 57, 97, 98, 99, 100, 101, 102]⟩) (.int .u8 ((14 : Nat) : Int))).run Tryz.prog u = .ok (.int .u8 ((Oct.dg 14).toNat : Int)) u)
  | 15, _ => exact (by kernel_rfl : (Instr.index 9 (.string ⟨#[48, 49, 50, 51, 52, 53, 54, 55, 56, 57, 97, 98, 99, 100, 101, 102]⟩) (.int .u8 ((15 : Nat) : Int))).run Tryz.prog u = .ok (.int .u8 ((Oct.dg 15).toNat : Int)) u)
  | n + 16, h => omega

end Go.Proofs.YtibaibdgpnkdnaaGreatDoor
end

section
namespace Go.Proofs.YtibaibdgpnkdnaaGreatDoor
set_option maxRecDepth 100000
set_option linter.unusedSimpArgs false
set_option linter.unusedVariables false
open Go.RowKit

/-- The bytes while k digits are read. -/
def outK (s : List UInt8) (k : Nat) : List UInt8 := (List.range (s.length / 2)).map fun j => if 2 * j + 1 < k then UInt8.ofNat (Oct.dn (s.getD (2 * j) 0) * 16 + Oct.dn (s.getD (2 * j + 1) 0)) else if 2 * j < k then UInt8.ofNat (Oct.dn (s.getD (2 * j) 0)) else 0
theorem outK_zero (s : List UInt8) : outK s 0 = zs (s.length / 2) := by
  unfold outK zs
  apply List.ext_getElem
  · simp
  · intro j h1 h2; simp
theorem outK_get (s : List UInt8) (k j : Nat) (h : j < s.length / 2) : (outK s k).getD j 0 = if 2 * j + 1 < k then UInt8.ofNat (Oct.dn (s.getD (2 * j) 0) * 16 + Oct.dn (s.getD (2 * j + 1) 0)) else if 2 * j < k then UInt8.ofNat (Oct.dn (s.getD (2 * j) 0)) else 0 := by
  rw [List.getD, List.getElem?_eq_getElem (by simpa [outK] using h)]; simp [outK]
theorem outK_length (s : List UInt8) (k : Nat) : (outK s k).length = s.length / 2 := by simp [outK]
theorem outK_full (s : List UInt8) (h : s.length % 2 = 0) : outK s s.length = Oct.prs s := by
  apply List.ext_getElem
  · rw [outK_length, Oct.prs_length]
  · intro j h1 h2
    have hj : 2 * j + 1 < s.length := by rw [outK_length] at h1; omega
    have := Oct.prs_get s j hj
    rw [List.getD, List.getElem?_eq_getElem h2, Option.getD_some] at this
    rw [this]
    simp [outK, hj]
theorem outK_set (s : List UInt8) (k : Nat) (hk : k < s.length / 2 * 2) : (outK s k).set (k / 2) (UInt8.ofNat (((outK s k).getD (k / 2) 0).toNat * 16 % 256 + Oct.dn (s.getD k 0))) = outK s (k + 1) := by
  have hj : k / 2 < s.length / 2 := by omega
  rw [outK_get s k (k / 2) hj]
  apply List.ext_getElem
  · simp [outK]
  · intro i h1 h2
    rw [List.getElem_set]
    simp only [outK, List.getElem_map, List.getElem_range]
    by_cases e : k / 2 = i
    · subst e
      rw [if_pos rfl, if_neg (by omega)]
      have d0 := Oct.dn_lt (s.getD (2 * (k / 2)) 0)
      rcases Nat.mod_two_eq_zero_or_one k with hm | hm
      · have ek : 2 * (k / 2) = k := by omega
        rw [ek, if_neg (by omega), if_neg (by omega), if_pos (by omega)]
        simp
      · have ek : 2 * (k / 2) + 1 = k := by omega
        have ek2 : s.getD (2 * (k / 2) + 1) 0 = s.getD k 0 := by rw [ek]
        rw [if_pos (by omega), if_pos (by omega), ek2, UInt8.toNat_ofNat_of_lt' (by simp only [UInt8.size]; omega), Nat.mod_eq_of_lt (by omega)]
    · rw [if_neg e]
      by_cases h3 : 2 * i + 1 < k
      · rw [if_pos h3, if_pos (by omega)]
      · rw [if_neg h3, if_neg (by omega), if_neg (by omega), if_neg (by omega)]
theorem bcells_set (bs : List UInt8) (i : Nat) (x : UInt8) : bcells (bs.set i x) = (bcells bs).set i (B8 x) := by simp [bcells, List.map_set]
theorem or_digit (x d : Nat) (hd : d < 16) : bits BinOp.or IntKind.u8 ((x : Int) * 16 % 256) (d : Int) = ((x * 16 % 256 + d : Nat) : Int) := by
  rw [show (x : Int) * 16 % 256 = ((x * 16 % 256 : Nat) : Int) by omega, u8_or_nat _ _ (by omega) (by omega), nat_join 4 _ _ (by omega) (by omega)]

theorem Only.iterAt (w : World) (K : Nat) (s : ByteArray) (p : Nat) : Only (fun q => q = K) w (w.iterAt K s p) :=
  ⟨rfl, rfl, rfl, by rw [Lib.iterAt_size]; exact Nat.le_refl _, fun q _ hq => Lib.iterAt_other w K q s p hq⟩
theorem rune_dv (s : ByteArray) (k : Nat) (h : k < s.size) : Oct.dv (Utf8.decode s k).1 = Oct.dv (s.data.toList.getD k 0).toNat ∧ (0 ≤ Oct.dv (s.data.toList.getD k 0).toNat → (Utf8.decode s k).2 = 1) := by
  have e : s.data.toList.getD k 0 = s[k]'h := by
    rw [List.getD, List.getElem?_eq_getElem (by simpa using h)]; rfl
  rw [e]
  by_cases ha : (s[k]'h).toNat < 128
  · rw [decode_ascii s k h ha]; exact ⟨rfl, fun _ => rfl⟩
  · have hh := (decode_high s k h (by omega)).1
    rw [Oct.dv_high _ hh, Oct.dv_high _ (by omega)]
    exact ⟨rfl, fun h0 => by omega⟩
theorem prOk_bad (l : List UInt8) (k : Nat) (h : k < l.length) (hd : ¬ 0 ≤ Oct.dv (l.getD k 0).toNat) : Oct.prB l = [] ∧ Oct.prE l = 4 := by
  have : Oct.prOk l = false := by
    unfold Oct.prOk
    rw [Bool.and_eq_false_iff]
    right
    rw [List.all_eq_false]
    refine ⟨l[k], List.getElem_mem h, ?_⟩
    unfold Oct.isD
    rw [List.getD, List.getElem?_eq_getElem h] at hd
    simpa using hd
  constructor
  · unfold Oct.prB; rw [this]; rfl
  · unfold Oct.prE; rw [this]; rfl
theorem prOk_good (l : List UInt8) (h : l.length % 2 = 0) (hd : ∀ j, j < l.length → 0 ≤ Oct.dv (l.getD j 0).toNat) : Oct.prB l = Oct.prs l ∧ Oct.prE l = 0 := by
  have : Oct.prOk l = true := by
    unfold Oct.prOk
    rw [h]
    simp only [beq_self_eq_true, Bool.true_and]
    rw [List.all_eq_true]
    intro c hc
    obtain ⟨j, hj, rfl⟩ := List.mem_iff_getElem.1 hc
    have := hd j hj
    rw [List.getD, List.getElem?_eq_getElem hj] at this
    unfold Oct.isD
    simpa using this
  constructor
  · unfold Oct.prB; rw [this]; rfl
  · unfold Oct.prE; rw [this]; rfl

end Go.Proofs.YtibaibdgpnkdnaaGreatDoor
end

section
namespace Go.Proofs.YtibaibdgpnkdnaaGreatDoor
set_option maxRecDepth 100000
set_option linter.unusedSimpArgs false
set_option linter.unusedVariables false
open Go.RowKit

theorem oxor_get (a b : List UInt8) (j : Nat) (h : j < a.length) : (Oct.xor a b).getD j 0 = a.getD j 0 ^^^ b.getD j 0 := by
  rw [List.getD, List.getElem?_eq_getElem (by simpa [Oct.xor] using h)]; simp [Oct.xor]
/-- The first k bytes of l, zeros behind them. -/
def upTo (l : List UInt8) (k : Nat) : List UInt8 := (List.range l.length).map fun j => if j < k then l.getD j 0 else 0
theorem upTo_zero (l : List UInt8) : upTo l 0 = zs l.length := by
  unfold upTo zs
  apply List.ext_getElem
  · simp
  · intro j h1 h2; simp
theorem upTo_full (l : List UInt8) : upTo l l.length = l := by
  apply List.ext_getElem
  · simp [upTo]
  · intro j h1 h2; simp [upTo, List.getD, h2]
theorem upTo_length (l : List UInt8) (k : Nat) : (upTo l k).length = l.length := by simp [upTo]
theorem upTo_set (l : List UInt8) (k : Nat) : (upTo l k).set k (l.getD k 0) = upTo l (k + 1) := by
  apply List.ext_getElem
  · simp [upTo]
  · intro i h1 h2
    rw [List.getElem_set]
    simp only [upTo, List.getElem_map, List.getElem_range]
    by_cases e : k = i
    · subst e; simp
    · rw [if_neg e]
      by_cases h : i < k
      · rw [if_pos h, if_pos (by omega)]
      · rw [if_neg h, if_neg (by omega)]
/-- The last k bytes of l, zeros ahead of them. -/
def lastK (l : List UInt8) (k : Nat) : List UInt8 := (List.range l.length).map fun j => if l.length - k ≤ j then l.getD j 0 else 0
theorem lastK_zero (l : List UInt8) : lastK l 0 = zs l.length := by
  unfold lastK zs
  apply List.ext_getElem
  · simp
  · intro j h1 h2
    have : j < l.length := by simpa using h2
    simp
    intro h3; omega
theorem lastK_full (l : List UInt8) : lastK l l.length = l := by
  apply List.ext_getElem
  · simp [lastK]
  · intro j h1 h2; simp [lastK, List.getD, List.getElem?_eq_getElem h2]
theorem lastK_length (l : List UInt8) (k : Nat) : (lastK l k).length = l.length := by simp [lastK]
theorem lastK_set (l : List UInt8) (k : Nat) (h : k < l.length) : (lastK l k).set (l.length - 1 - k) (l.getD (l.length - 1 - k) 0) = lastK l (k + 1) := by
  apply List.ext_getElem
  · simp [lastK]
  · intro i h1 h2
    rw [List.getElem_set]
    simp only [lastK, List.getElem_map, List.getElem_range]
    by_cases e : l.length - 1 - k = i
    · subst e; rw [if_pos rfl, if_pos (by omega)]
    · rw [if_neg e]
      by_cases h : l.length - k ≤ i
      · rw [if_pos h, if_pos (by omega)]
      · rw [if_neg h, if_neg (by omega)]

def xrE (a b : List UInt8) : Int := if a.length = b.length then 0 else 1
def xrB (a b : List UInt8) : List UInt8 := if a.length = b.length then Oct.xor a b else []

set_option maxHeartbeats 2000000 in
theorem octets_Xor (A A' : Option Addr) (n n' c c' : Nat) (a b : List UInt8) (w : World) (h : Byt w w.heap.size A n c a) (h' : Byt w w.heap.size A' n' c' b) (hn : n ≤ 1000000) :
    Calls Tryz.prog 89 #[.slice A n c, .slice A' n' c'] w (BRes 5 w (xrB a b) (xrE a b)) := by
  obtain ⟨ti, hti, hz0, hz1, hz2⟩ := info_parts o_u8
  by_cases he : n = n'
  · subst he
    have e1 : xrB a b = Oct.xor a b ∧ xrE a b = 0 := by
      unfold xrB xrE; rw [h.1, h'.1, if_pos rfl, if_pos rfl]; exact ⟨rfl, rfl⟩
    rw [e1.1, e1.2]
    clear e1
    have hla := Lib.hid h.1
    have hlb := Lib.hid h'.1
    have hra := h.2.2
    have hrb := h'.2.2
    have hlx : (Oct.xor a b).length = n := by rw [← h.1]; simp [Oct.xor]
    have HLX := Lib.hid hlx
    have mk := made_u8 (P := Tryz.prog) 22 5 ti Tryz.underlying22 hti hz0 hz1 hz2 n (by omega)
    have hown0 : ∀ (W : World), Blk W w.heap.size 5 (madeCells #[.int .u8 0] n) → Own W w.heap.size 5 1 (some ⟨w.heap.size, 0, none⟩) n n (bcells (upTo (Oct.xor a b) 0)) := by
      intro W hb
      rw [upTo_zero, hlx, ← bcells_zs]
      exact Own.made hb (Nat.le_refl _) (by unfold maxLen; omega)
    have HO := Lib.hid hown0
    clear hown0 hlx h h'
    go_enter Tryz.func89, Tryz.ntmps89
    go_wp2_with fail
    go_loopg [18] n (fun g i wr => ∃ k : Nat, k + g = n ∧ i = .int .i64 k ∧ Own wr w.heap.size 5 1 (some ⟨w.heap.size, 0, none⟩) n n (bcells (upTo (Oct.xor a b) k)) ∧ Below w.heap.size w wr)
    case atStart => exact ⟨0, by omega, rfl, HO.out _ (Blk.new' _ rfl rfl), (Below.refl _ _).alloc (Nat.le_refl _) _⟩
    case round =>
      obtain ⟨k, hk, rfl, hown, hbw⟩ := hrel
      cases gk with
      | zero =>
        obtain rfl : k = n := by omega
        have hf := upTo_full (Oct.xor a b)
        rw [HLX.out] at hf
        rw [hf] at hown
        clear hf
        go_wp2_with fail
        go_ret2
        exact BRes.mk HLX.out hown hbw
      | succ g =>
        have hlt : (k : Int) < (n : Int) := by omega
        have p0 : (0 : Int) ≤ (k : Int) := by omega
        obtain ⟨b1, o1, rfl, hb1, -⟩ := hra.at_ (j := k) (by rw [length_bcells, hla.out]; omega)
        obtain ⟨b2, o2, rfl, hb2, -⟩ := hrb.at_ (j := k) (by rw [length_bcells, hlb.out]; omega)
        have c1 := (hra.below hbw).byte k (by rw [hla.out]; omega)
        have c2 := (hrb.below hbw).byte k (by rw [hlb.out]; omega)
        have hst := Lib.hid (upTo_set (Oct.xor a b) k)
        have hxg := oxor_get a b k (by rw [hla.out]; omega)
        obtain ⟨q, hq, hqb, hqs, hcell, hfr, hstore⟩ := hown.elem (i := k) (by omega)
        obtain rfl : w.heap.size = q := by simpa using hq
        have hcell2 : ∃ v, wr.cell? ⟨w.heap.size, k, none⟩ = some v := by
          rw [hcell]; exact ⟨_, List.getElem?_eq_getElem (by rw [length_bcells, upTo_length, HLX.out]; omega)⟩
        obtain ⟨v0, hcell2⟩ := hcell2
        have hs2 := Lib.hid (hstore (B8 ((Oct.xor a b).getD k 0)))
        have hxx : Hid (bits BinOp.xor IntKind.u8 ((a.getD k 0).toNat : Int) ((b.getD k 0).toNat : Int) = (((Oct.xor a b).getD k 0).toNat : Int)) := by
          show _ = _
          rw [u8_xor_nat _ _ (a.getD k 0).toNat_lt (b.getD k 0).toNat_lt, hxg, UInt8.toNat_xor]
        clear hcell hstore hq hxg
        generalize (a.getD k 0).toNat = x at *
        generalize (b.getD k 0).toNat = y at *
        go_wp2_with fail
        refine wp_region_quiet_tail 12 (by kernel_rfl) (by kernel_rfl) ?_
        simp only [List.take_succ_cons, List.take_zero]
        repeat (go_big_quiet_step (fail))
        refine wpQuiet_nil ?_
        rintro _ ⟨nq, rfl⟩
        simp only [List.drop_succ_cons, List.drop_zero]
        go_wp2_with fail
        go_roundg g
        case measure => omega
        case rel =>
          refine ⟨k + 1, by omega, by go_num, ?_, ?_⟩
          · rw [← hst.out, bcells_set, hxx.out]; exact hs2.out.drewN _
          · exact (Below.drewN hbw _).setCell (by simp) _
  · have e1 : xrB a b = [] ∧ xrE a b = 1 := by
      unfold xrB xrE; rw [h.1, h'.1, if_neg he, if_neg he]; exact ⟨rfl, rfl⟩
    rw [e1.1, e1.2]
    have hne : ((n : Int) != (n' : Int)) = true := by rw [bne_iff_ne]; omega
    clear e1 h h'
    go_enter Tryz.func89, Tryz.ntmps89
    go_wp2_with fail
    go_ret2
    exact BRes.nil _ (Below.refl _ _)

set_option maxHeartbeats 1000000 in
theorem slices_Clone (A : Option Addr) (n c : Nat) (bs : List UInt8) (w : World) (h : Byt w w.heap.size A n c bs) (hn : n ≤ 1000000000) :
    Calls Tryz.prog 11 #[.slice A n c] w fun e w' => ∃ A2 c2, e = .returned (.slice A2 n c2) ∧ Own w' w.heap.size 5 1 A2 n c2 (bcells bs) ∧ Below w.heap.size w w' := by
  obtain ⟨ti, hti, hz0, hz1, hz2⟩ := info_parts o_u8
  have hu : ∀ u : World, (binOp .eql 22 (.slice A n c) (.slice none 0 0)).run Tryz.prog u = .ok (.bool A.isNone) u := fun u => by
    have := Lib.run_eql_slice_nil u 22 5 A n c 0 0 Tryz.underlying22
    exact this
  cases A with
  | none =>
    have hn0 : n = 0 := by
      rcases Nat.eq_zero_or_pos n with h0 | h0
      · exact h0
      · obtain ⟨b, o, e, _⟩ := h.at_ h0; cases e
    have hb : bs = [] := List.eq_nil_of_length_eq_zero (by rw [h.1]; exact hn0)
    subst hn0 hb
    have hu2 : ∀ u : World, (binOp .eql 22 (.slice none 0 c) (.slice none 0 0)).run Tryz.prog u = .ok (.bool true) u := hu
    clear h hu
    go_enter Tryz.func11, Tryz.ntmps11
    go_wp2_with fail
    go_ret
    exact ⟨none, 0, rfl, Own.none_ _ _ _ _ _, Below.refl _ _⟩
  | some a =>
    have hu2 : ∀ u : World, (binOp .eql 22 (.slice (some a) n c) (.slice none 0 0)).run Tryz.prog u = .ok (.bool false) u := hu
    clear hu
    have hl := Lib.hid h.1
    have hr := h.2.2
    clear h
    go_enter Tryz.func11, Tryz.ntmps11
    have hb1 := (Below.refl w.heap.size w).alloc (Nat.le_refl _) (.cells #[] 5)
    have hown : Own (w.alloc (.cells #[] 5)) w.heap.size 5 1 (some ⟨w.heap.size, 0, none⟩) 0 0 [] := Own.none_ _ _ _ _ _
    go_wp2_with (at_builtin; refine wpList_append _ rfl (.tmp 5) (.tmp 6) 22 rfl w.heap.size 5 ti _ 1 1 Tryz.underlying22 hti hz0 hz1 hz2 rfl (by omega) (some ⟨w.heap.size, 0, none⟩) 0 0 _ rfl hown w.heap.size (some a) n c (bcells bs) rfl (hr.alloc (Nat.le_refl _) _) (by rw [length_bcells, hl.out]; omega) (bcells_one _) (by unfold maxLen; omega) (by omega) (by simp) ?_; intro A3 c3 w4 hown4 hg4 hat4; rw [Nat.zero_add, List.nil_append] at hown4)
    go_ret
    exact ⟨_, _, rfl, hown4, hown.grown hg4 hb1 (by simp)⟩

theorem unp_none (bs : List UInt8) (h : Oct.unp bs = none) : Oct.unpB bs = [] ∧ Oct.unpE bs = 4 := by
  unfold Oct.unpB Oct.unpE; rw [h]; exact ⟨rfl, rfl⟩
theorem unp_some (bs l : List UInt8) (h : Oct.unp bs = some l) : Oct.unpB bs = l ∧ Oct.unpE bs = 0 := by
  unfold Oct.unpB Oct.unpE; rw [h]; exact ⟨rfl, rfl⟩
theorem byte_eq (x : UInt8) (m : Nat) (hm : m < 256) : (x = UInt8.ofNat m) ↔ x.toNat = m := by
  constructor
  · rintro rfl; exact UInt8.toNat_ofNat_of_lt' (by simpa [UInt8.size] using hm)
  · intro h; apply UInt8.toNat_inj.1; rw [h]; exact (UInt8.toNat_ofNat_of_lt' (by simpa [UInt8.size] using hm)).symm

set_option maxHeartbeats 2000000 in
theorem octets_Unpad (A : Option Addr) (n c : Nat) (bs : List UInt8) (w : World) (h : Byt w w.heap.size A n c bs) (hn : n ≤ 1000000000) :
    Calls Tryz.prog 79 #[.slice A n c] w (BRes 5 w (Oct.unpB bs) (Oct.unpE bs)) := by
  have hl := Lib.hid h.1
  have hc := h.2.1
  have hr := h.2.2
  clear h
  go_enter Tryz.func79, Tryz.ntmps79
  go_wp2_with fail
  go_loopg [4] n (fun g i wr => ∃ k : Nat, k = g ∧ k ≤ n ∧ i = .int .i64 ((k : Int) - 1) ∧ Hid (Oct.unp bs = Oct.unp (bs.take k)) ∧ w = wr)
  case atStart => exact ⟨n, by omega, by omega, rfl, Lib.hid (by rw [List.take_of_length_le (by rw [hl.out]; omega)]), rfl⟩
  case round =>
    obtain ⟨k, hkg, hk, rfl, hU, rfl⟩ := hrel
    cases gk with
    | zero =>
      subst hkg
      have hno := Lib.hid (unp_none bs (by rw [hU.out]; rfl))
      rw [show ((0 : Nat) : Int) - 1 = -1 by omega]
      go_wp2_with fail
      go_ret2
      rw [hno.out.1, hno.out.2]
      exact BRes.nil _ (Below.refl _ _)
    | succ g =>
      subst hkg
      rw [show ((g + 1 : Nat) : Int) - 1 = (g : Int) by omega]
      have hgl : g < bs.length := by rw [hl.out]; omega
      have hstep := Oct.unp_take bs g hgl
      obtain ⟨b1, o1, rfl, hb1, -⟩ := hr.at_ (j := g) (by rw [length_bcells]; exact hgl)
      have c1 := hr.byte g hgl
      have hx256 := (bs.getD g 0).toNat_lt
      have e0 := byte_eq (bs.getD g 0) 0 (by omega)
      have e8 := byte_eq (bs.getD g 0) 128 (by omega)
      rw [show UInt8.ofNat 0 = 0 from rfl] at e0
      rw [show UInt8.ofNat 128 = 0x80 from rfl] at e8
      have i0 : (0 : Int) ≤ (g : Int) := by omega
      have i1 : (g : Int) < (n : Int) := by omega
      by_cases hz : (bs.getD g 0).toNat = 0
      · rw [if_pos (e0.2 hz)] at hstep
        have HS := Lib.hid hstep
        rw [hz] at c1
        clear hstep e0 e8 hz hx256
        go_wp2_with fail
        go_roundg g
        case measure => omega
        case rel => exact ⟨g, rfl, by omega, by go_num, Lib.hid (by rw [hU.out, HS.out]), rfl⟩
      · rw [if_neg (fun e => hz (e0.1 e))] at hstep
        have t1 : (((bs.getD g 0).toNat : Int) == 0) = false := by simp at hz ⊢; omega
        by_cases h8 : (bs.getD g 0).toNat = 128
        · rw [if_pos (e8.2 h8)] at hstep
          have hso := Lib.hid (unp_some bs _ (by rw [hU.out, hstep]))
          rw [h8] at c1
          clear hstep e0 e8 hz hx256 t1 h8
          have i2 : (g : Int) ≤ (c : Int) := by omega
          go_wp2_with fail
          refine (slices_Clone (some ⟨b1, o1, none⟩) g c (bs.take g) _ ⟨by rw [List.length_take]; omega, by omega, hr.btake g⟩ (by omega)).mono ?_
          rintro e w2 ⟨A2, c2, rfl, hown, hb2⟩
          go_wp2_with fail
          go_ret2
          rw [hso.out.1, hso.out.2]
          exact BRes.mk (by rw [List.length_take]; omega) hown hb2
        · rw [if_neg (fun e => h8 (e8.1 e))] at hstep
          have hno := Lib.hid (unp_none bs (by rw [hU.out, hstep]))
          have t2 : (((bs.getD g 0).toNat : Int) != 128) = true := by rw [bne_iff_ne]; omega
          clear hstep e0 e8 hz h8
          generalize (bs.getD g 0).toNat = x at *
          go_wp2_with fail
          go_ret2
          rw [hno.out.1, hno.out.2]
          exact BRes.nil _ (Below.refl _ _)
end Go.Proofs.YtibaibdgpnkdnaaGreatDoor
end

section
namespace Go.Proofs.YtibaibdgpnkdnaaGreatDoor
set_option maxRecDepth 100000
set_option linter.unusedSimpArgs false
set_option linter.unusedVariables false
open Go.RowKit

/-- A slice of bytes as a value, with what it shows. -/
structure SV where
  a : Option Addr
  n : Nat
  c : Nat
  bs : List UInt8
def SV.val (v : SV) : Value := .slice v.a v.n v.c
/-- What the strings are together. -/
def joined (vs : List SV) : List UInt8 := vs.flatMap (·.bs)
theorem joined_nil : joined [] = [] := rfl
theorem joined_take (vs : List SV) (k : Nat) (h : k < vs.length) : joined (vs.take (k + 1)) = joined (vs.take k) ++ vs[k].bs := by
  unfold joined
  rw [List.take_succ_eq_append_getElem h, List.flatMap_append]; simp
theorem joined_le (vs : List SV) (k : Nat) : (joined (vs.take k)).length ≤ (joined vs).length := by
  have h : joined vs = joined (vs.take k) ++ joined (vs.drop k) := by
    unfold joined; rw [← List.flatMap_append, List.take_append_drop]
  rw [h, List.length_append]; omega
/-- A slice of such slices. -/
def Byts (w : World) (B : Nat) (A : Option Addr) (vs : List SV) : Prop := Row w B A (vs.map SV.val) ∧ ∀ v ∈ vs, Byt w B v.a v.n v.c v.bs
section
variable {w w' : World} {B B' : Nat} {A : Option Addr} {vs : List SV}
theorem Byts.below (h : Byts w B A vs) (hb : Below B w w') : Byts w' B A vs := ⟨h.1.below hb, fun v hv => (h.2 v hv).below hb⟩
theorem Byts.more (h : Byts w B A vs) (hB : B ≤ B') : Byts w B' A vs := ⟨h.1.more hB, fun v hv => (h.2 v hv).more hB⟩
theorem Byts.at_ (h : Byts w B A vs) {k : Nat} (hk : k < vs.length) : ∃ b o, A = some ⟨b, o, none⟩ ∧ w.cell? ⟨b, o + k, none⟩ = some (.slice vs[k].a vs[k].n vs[k].c) ∧ Byt w B vs[k].a vs[k].n vs[k].c vs[k].bs := by
  obtain ⟨b, o, e, _, hc⟩ := h.1.at_ (j := k) (by simpa using hk)
  exact ⟨b, o, e, by rw [hc, List.getElem_map]; rfl, h.2 _ (List.getElem_mem hk)⟩
end
/-- One slice in a block of its own. -/
theorem Byts.one {w : World} {A : Option Addr} {n c : Nat} {bs : List UInt8} {t : TypeId} (h : Byt w w.heap.size A n c bs) :
    Byts (w.alloc (.cells #[.slice A n c] t)) (w.heap.size + 1) (some ⟨w.heap.size, 0, none⟩) [⟨A, n, c, bs⟩] := by
  refine ⟨Row.new w rfl, fun v hv => ?_⟩
  obtain rfl := List.mem_singleton.1 hv
  exact (h.below ((Below.refl _ _).alloc (Nat.le_refl _) _)).more (by omega)
end Go.Proofs.YtibaibdgpnkdnaaGreatDoor
end

section
namespace Go.Proofs.YtibaibdgpnkdnaaGreatDoor
set_option maxRecDepth 100000
set_option linter.unusedSimpArgs false
set_option linter.unusedVariables false
open Go.RowKit

theorem pt_arg (n width : Int) (h : width < 1 ∨ 8 < width) : Oct.ptB n width = [] ∧ Oct.ptE n width = 1 := by
  have e : Oct.ptE n width = 1 := by unfold Oct.ptE; rw [if_pos h]
  exact ⟨by unfold Oct.ptB; rw [e]; rfl, e⟩
theorem pt_range (n : Int) (m : Nat) (h1 : 1 ≤ m) (h8 : m ≤ 8) (h : n < 0 ∨ (256 : Int) ^ m ≤ n) : Oct.ptB n (m : Int) = [] ∧ Oct.ptE n (m : Int) = 2 := by
  have e : Oct.ptE n (m : Int) = 2 := by unfold Oct.ptE; rw [if_neg (by omega), if_pos (by simpa using h)]
  exact ⟨by unfold Oct.ptB; rw [e]; rfl, e⟩
theorem pt_ok (n m : Nat) (h1 : 1 ≤ m) (h8 : m ≤ 8) (h : n < 256 ^ m) : Oct.ptB (n : Int) (m : Int) = Oct.putB n m ∧ Oct.ptE (n : Int) (m : Int) = 0 := by
  have hi : (n : Int) < (256 : Int) ^ m := by have : ((n : Nat) : Int) < ((256 ^ m : Nat) : Int) := by omega
                                              simpa using this
  have e : Oct.ptE (n : Int) (m : Int) = 0 := by unfold Oct.ptE; rw [if_neg (by omega), if_neg (by simp only [Int.toNat_natCast]; omega)]
  exact ⟨by unfold Oct.ptB; rw [if_pos e]; simp, e⟩

theorem pow8 (m : Nat) : 2 ^ (8 * m) = 256 ^ m := by rw [Nat.pow_mul]
theorem shr8 (k m : Nat) : ((k : Int) / 2 ^ (8 * m)) = ((k / 256 ^ m : Nat) : Int) := by
  rw [← pow8]; simp
theorem shr8_ne (k m : Nat) : ((k : Int) / 2 ^ (8 * m) != 0) = decide (256 ^ m ≤ k) := by
  rw [shr8]
  have hp : 0 < 256 ^ m := Nat.pow_pos (by omega)
  by_cases h : 256 ^ m ≤ k
  · have := (Nat.le_div_iff_mul_le hp (x := 1) (y := k)).2 (by omega)
    simp only [h, decide_true, bne_iff_ne]
    omega
  · rw [Nat.div_eq_of_lt (by omega)]; simp [h]

set_option maxHeartbeats 2000000 in
theorem octets_Put (n width : Int) (w : World) (hn : n ≤ 9223372036854775807) :
    Calls Tryz.prog 61 #[.int .i64 n, .int .i64 width] w (BRes 5 w (Oct.ptB n width) (Oct.ptE n width)) := by
  obtain ⟨ti, hti, hz0, hz1, hz2⟩ := info_parts o_u8
  by_cases hw1 : width < 1
  · have e := Lib.hid (pt_arg n width (.inl hw1))
    have t1 : decide (width < 1) = true := by simpa using hw1
    clear hw1
    go_enter Tryz.func61, Tryz.ntmps61
    go_wp2_with fail
    go_ret2
    rw [e.out.1, e.out.2]
    exact BRes.nil _ (Below.refl _ _)
  by_cases hw8 : 8 < width
  · have e := Lib.hid (pt_arg n width (.inr hw8))
    have t1 : decide (width < 1) = false := by simpa using hw1
    have t2 : decide (8 < width) = true := by simpa using hw8
    clear hw1 hw8
    go_enter Tryz.func61, Tryz.ntmps61
    go_wp2_with fail
    go_ret2
    rw [e.out.1, e.out.2]
    exact BRes.nil _ (Below.refl _ _)
  obtain ⟨m, rfl⟩ := Int.eq_ofNat_of_zero_le (show 0 ≤ width by omega)
  have h1 : 1 ≤ m := by omega
  have h8 : m ≤ 8 := by omega
  have t1 : decide ((m : Int) < 1) = false := by simpa using hw1
  have t2 : decide ((8 : Int) < (m : Int)) = false := by simpa using hw8
  clear hw1 hw8
  by_cases hn0 : n < 0
  · have e := Lib.hid (pt_range n m h1 h8 (.inl hn0))
    have t3 : decide (n < 0) = true := by simpa using hn0
    clear hn0
    go_enter Tryz.func61, Tryz.ntmps61
    go_wp2_with fail
    go_ret2
    rw [e.out.1, e.out.2]
    exact BRes.nil _ (Below.refl _ _)
  obtain ⟨k, rfl⟩ := Int.eq_ofNat_of_zero_le (show 0 ≤ n by omega)
  have t3 : decide ((k : Int) < 0) = false := by simp
  clear hn0
  by_cases hm : m < 8
  · have t4 : decide ((m : Int) < 8) = true := by simp; omega
    by_cases hr : 256 ^ m ≤ k
    · have t5 := shr8_ne k m
      rw [decide_eq_true hr] at t5
      have e := Lib.hid (pt_range k m h1 h8 (.inr (by have : ((256 ^ m : Nat) : Int) ≤ ((k : Nat) : Int) := by omega
                                                      simpa using this)))
      clear hr
      go_enter Tryz.func61, Tryz.ntmps61
      go_wp2_with fail
      go_ret2
      rw [e.out.1, e.out.2]
      exact BRes.nil _ (Below.refl _ _)
    have hlt : k < 256 ^ m := by omega
    have t5 := shr8_ne k m
    rw [decide_eq_false hr] at t5
    clear hr hm
    have ep := pt_ok k m h1 h8 hlt
    have hlen : (Oct.putB k m).length = m := Oct.putB_length k m
    have hown0 : ∀ (W : World), Blk W w.heap.size 5 (madeCells #[.int .u8 0] m) → Own W w.heap.size 5 1 (some ⟨w.heap.size, 0, none⟩) m m (bcells (lastK (Oct.putB k m) 0)) := by
      intro W hb
      rw [lastK_zero, hlen, ← bcells_zs]
      exact Own.made hb (Nat.le_refl _) (by unfold maxLen; omega)
    have HO := Lib.hid hown0
    have HLEN := Lib.hid hlen
    have EP := Lib.hid ep
    have hk63 : (k : Int) ≤ 9223372036854775807 := hn
    clear hown0 hlen ep
    have mk := made_u8 (P := Tryz.prog) 22 5 ti Tryz.underlying22 hti hz0 hz1 hz2 m (by omega)
    go_enter Tryz.func61, Tryz.ntmps61
    go_wp2_with fail
    go_loopg [31] m (fun g i wr => ∃ j : Nat, j + g = m ∧ i = .int .i64 j ∧ Own wr w.heap.size 5 1 (some ⟨w.heap.size, 0, none⟩) m m (bcells (lastK (Oct.putB k m) j)) ∧ Below w.heap.size w wr)
    case atStart => exact ⟨0, by omega, rfl, HO.out _ (Blk.new' _ rfl rfl), (Below.refl _ _).alloc (Nat.le_refl _) _⟩
    case round =>
      obtain ⟨j, hj, rfl, hown, hbw⟩ := hrel
      cases gk with
      | zero =>
        obtain rfl : j = m := by omega
        have hf := lastK_full (Oct.putB k j)
        rw [HLEN.out] at hf
        rw [hf] at hown
        clear hf
        go_wp2_with fail
        go_ret2
        rw [EP.out.1, EP.out.2]
        exact BRes.mk HLEN.out hown hbw
      | succ g =>
        have hjm : (j : Int) < (m : Int) := by omega
        have hst := lastK_set (Oct.putB k m) j (by rw [HLEN.out]; omega)
        rw [HLEN.out, Oct.putB_get k m (m - 1 - j) (by omega), show m - 1 - (m - 1 - j) = j by omega] at hst
        have HST := Lib.hid hst
        obtain ⟨q, hq, hqb, hqs, hcell, hfr, hstore⟩ := hown.elem (i := m - 1 - j) (by omega)
        obtain rfl : w.heap.size = q := by simpa using hq
        have hcell2 : ∃ v, wr.cell? ⟨w.heap.size, m - 1 - j, none⟩ = some v := by
          rw [hcell]; exact ⟨_, List.getElem?_eq_getElem (by rw [length_bcells, lastK_length, HLEN.out]; omega)⟩
        obtain ⟨v0, hcell2⟩ := hcell2
        have hs2 := Lib.hid (hstore (B8 (UInt8.ofNat (k / 256 ^ j))))
        have HSH := Lib.hid (shr8 k j)
        have i0 : 0 ≤ (m : Int) - 1 - (j : Int) := by omega
        have i1 : (m : Int) - 1 - (j : Int) < (m : Int) := by omega
        have i2 : ((m : Int) - 1 - (j : Int)).toNat = m - 1 - j := by omega
        clear hcell hstore hq hst
        go_wp2_with fail
        go_roundg g
        case measure => omega
        case rel =>
          refine ⟨j + 1, by omega, by go_num, ?_, hbw.setCell (by simp) _⟩
          rw [← HST.out, bcells_set, HSH.out]
          have := hs2.out
          rw [B8, UInt8.toNat_ofNat'] at this
          rw [B8, UInt8.toNat_ofNat']
          exact this
  · have t4 : decide ((m : Int) < 8) = false := by simp; omega
    have hlt : k < 256 ^ m := by
      obtain rfl : m = 8 := by omega
      omega
    clear hm
    have ep := pt_ok k m h1 h8 hlt
    have hlen : (Oct.putB k m).length = m := Oct.putB_length k m
    have hown0 : ∀ (W : World), Blk W w.heap.size 5 (madeCells #[.int .u8 0] m) → Own W w.heap.size 5 1 (some ⟨w.heap.size, 0, none⟩) m m (bcells (lastK (Oct.putB k m) 0)) := by
      intro W hb
      rw [lastK_zero, hlen, ← bcells_zs]
      exact Own.made hb (Nat.le_refl _) (by unfold maxLen; omega)
    have HO := Lib.hid hown0
    have HLEN := Lib.hid hlen
    have EP := Lib.hid ep
    have hk63 : (k : Int) ≤ 9223372036854775807 := hn
    clear hown0 hlen ep
    have mk := made_u8 (P := Tryz.prog) 22 5 ti Tryz.underlying22 hti hz0 hz1 hz2 m (by omega)
    go_enter Tryz.func61, Tryz.ntmps61
    go_wp2_with fail
    go_loopg [31] m (fun g i wr => ∃ j : Nat, j + g = m ∧ i = .int .i64 j ∧ Own wr w.heap.size 5 1 (some ⟨w.heap.size, 0, none⟩) m m (bcells (lastK (Oct.putB k m) j)) ∧ Below w.heap.size w wr)
    case atStart => exact ⟨0, by omega, rfl, HO.out _ (Blk.new' _ rfl rfl), (Below.refl _ _).alloc (Nat.le_refl _) _⟩
    case round =>
      obtain ⟨j, hj, rfl, hown, hbw⟩ := hrel
      cases gk with
      | zero =>
        obtain rfl : j = m := by omega
        have hf := lastK_full (Oct.putB k j)
        rw [HLEN.out] at hf
        rw [hf] at hown
        clear hf
        go_wp2_with fail
        go_ret2
        rw [EP.out.1, EP.out.2]
        exact BRes.mk HLEN.out hown hbw
      | succ g =>
        have hjm : (j : Int) < (m : Int) := by omega
        have hst := lastK_set (Oct.putB k m) j (by rw [HLEN.out]; omega)
        rw [HLEN.out, Oct.putB_get k m (m - 1 - j) (by omega), show m - 1 - (m - 1 - j) = j by omega] at hst
        have HST := Lib.hid hst
        obtain ⟨q, hq, hqb, hqs, hcell, hfr, hstore⟩ := hown.elem (i := m - 1 - j) (by omega)
        obtain rfl : w.heap.size = q := by simpa using hq
        have hcell2 : ∃ v, wr.cell? ⟨w.heap.size, m - 1 - j, none⟩ = some v := by
          rw [hcell]; exact ⟨_, List.getElem?_eq_getElem (by rw [length_bcells, lastK_length, HLEN.out]; omega)⟩
        obtain ⟨v0, hcell2⟩ := hcell2
        have hs2 := Lib.hid (hstore (B8 (UInt8.ofNat (k / 256 ^ j))))
        have HSH := Lib.hid (shr8 k j)
        have i0 : 0 ≤ (m : Int) - 1 - (j : Int) := by omega
        have i1 : (m : Int) - 1 - (j : Int) < (m : Int) := by omega
        have i2 : ((m : Int) - 1 - (j : Int)).toNat = m - 1 - j := by omega
        clear hcell hstore hq hst
        go_wp2_with fail
        go_roundg g
        case measure => omega
        case rel =>
          refine ⟨j + 1, by omega, by go_num, ?_, hbw.setCell (by simp) _⟩
          rw [← HST.out, bcells_set, HSH.out]
          have := hs2.out
          rw [B8, UInt8.toNat_ofNat'] at this
          rw [B8, UInt8.toNat_ofNat']
          exact this

/-- A number below 2^64 as an int. -/
def sg (n : Nat) : Int := if n < 9223372036854775808 then (n : Int) else (n : Int) - 18446744073709551616
theorem sg_small (n : Nat) (h : n < 9223372036854775808) : sg n = (n : Int) := by unfold sg; rw [if_pos h]
theorem sg_big (n : Nat) (h : 9223372036854775808 ≤ n) (h2 : n < 18446744073709551616) : sg n < 0 := by unfold sg; rw [if_neg (by omega)]; omega
theorem numK_56 (b : List UInt8) (k : Nat) (h : k ≤ 7) : Oct.numK b k < 72057594037927936 :=
  Nat.lt_of_lt_of_le (Oct.numK_lt b k) (Nat.le_trans (Nat.pow_le_pow_right (by omega) h) (by decide))
theorem or_get (n x : Nat) (hn : n < 72057594037927936) (hx : x < 256) : bits BinOp.or IntKind.i64 (wrap64 ((n : Int) * 256)) (x : Int) = sg (n * 256 + x) := by
  have e1 : (BitVec.ofInt 64 (wrap64 ((n : Int) * 256))).toNat = n * 256 := by
    rw [BitVec.toNat_ofInt]
    simp only [wrap64]
    omega
  have e2 : (BitVec.ofInt 64 (x : Int)).toNat = x := by
    rw [BitVec.ofInt_natCast, BitVec.toNat_ofNat]; omega
  show IntKind.i64.wrap ((BitVec.ofInt 64 (wrap64 ((n : Int) * 256)) ||| BitVec.ofInt 64 (x : Int)).toNat : Int) = _
  rw [BitVec.toNat_or, e1, e2, nat_join 8 _ _ (by omega) (by omega), IntKind.wrap_i64]
  unfold sg
  split <;> omega
theorem gt_long (b : List UInt8) (h : 8 < b.length) : Oct.gtN b = 0 ∧ Oct.gtE b = 3 := by
  have e : Oct.gtE b = 3 := by unfold Oct.gtE; rw [if_pos h]
  exact ⟨by unfold Oct.gtN; rw [e]; rfl, e⟩
theorem gt_big (b : List UInt8) (h : b.length ≤ 8) (hb : 9223372036854775808 ≤ Oct.num b) : Oct.gtN b = 0 ∧ Oct.gtE b = 2 := by
  have e : Oct.gtE b = 2 := by unfold Oct.gtE; rw [if_neg (by omega), if_pos hb]
  exact ⟨by unfold Oct.gtN; rw [e]; rfl, e⟩
theorem gt_ok (b : List UInt8) (h : b.length ≤ 8) (hb : Oct.num b < 9223372036854775808) : Oct.gtN b = Oct.num b ∧ Oct.gtE b = 0 := by
  have e : Oct.gtE b = 0 := by unfold Oct.gtE; rw [if_neg (by omega), if_neg (by omega)]
  exact ⟨by unfold Oct.gtN; rw [if_pos e], e⟩

set_option maxHeartbeats 1000000 in
theorem octets_Join (A : Option Addr) (n c : Nat) (vs : List SV) (w : World) (h : Byts w w.heap.size A vs) (hn : vs.length = n) (hm : n ≤ 9223372036854775807) (ht : (joined vs).length ≤ 1099511627776) :
    Calls Tryz.prog 39 #[.slice A n c] w fun e w' => ∃ A2 c2, e = .returned (.slice A2 (joined vs).length c2) ∧ Own w' w.heap.size 5 1 A2 (joined vs).length c2 (bcells (joined vs)) ∧ Below w.heap.size w w' := by
  obtain ⟨ti, hti, hz0, hz1, hz2⟩ := info_parts o_u8
  have hl := Lib.hid hn
  clear hn
  go_enter Tryz.func39, Tryz.ntmps39
  go_wp2_with fail
  go_loopg [3, 8] n (fun g v i wr => ∃ (k : Nat) (A2 : Option Addr) (m c2 : Nat), k + g = n ∧ i = .int .i64 k ∧ v = .slice A2 m c2 ∧ Hid (m = (joined (vs.take k)).length) ∧ Own wr w.heap.size 5 1 A2 m c2 (bcells (joined (vs.take k))) ∧ Below w.heap.size w wr)
  case atStart => exact ⟨0, none, 0, 0, by omega, rfl, rfl, rfl, Own.none_ _ _ _ _ _, Below.refl _ _⟩
  case round =>
    obtain ⟨k, A2, m, c2, hk, rfl, rfl, hM, hown, hbw⟩ := hrel
    cases gk with
    | zero =>
      obtain rfl : k = n := by omega
      have e1 : vs.take k = vs := List.take_of_length_le (by rw [hl.out]; omega)
      rw [e1] at hM hown
      go_wp2_with fail
      go_ret
      rw [← hM.out]
      exact ⟨A2, c2, rfl, hown, hbw⟩
    | succ g =>
      have hkv : k < vs.length := by rw [hl.out]; omega
      obtain ⟨b, o, rfl, hc, hy⟩ := (h.below hbw).at_ hkv
      have jt := Lib.hid (joined_take vs k hkv)
      have j1 := joined_le vs (k + 1)
      rw [jt.out, List.length_append] at j1
      generalize vs[k] = x at *
      have p0 : (0 : Int) ≤ (k : Int) := by omega
      have p1 : (k : Int) < (n : Int) := by omega
      have j2 : x.bs.length = x.n := hy.1
      have j3 : m + x.n ≤ 1099511627776 := by rw [hM.out, ← j2]; omega
      clear j1
      have J2 := Lib.hid j2
      clear j2
      go_wp2_with (at_builtin; refine wpList_append _ rfl (.tmp 12) (.tmp 13) 22 rfl w.heap.size 5 ti _ 1 1 Tryz.underlying22 hti hz0 hz1 hz2 rfl (by omega) A2 m c2 _ rfl hown w.heap.size x.a x.n x.c (bcells x.bs) rfl hy.2.2 (by rw [length_bcells, J2.out]; omega) (bcells_one _) (by unfold maxLen; omega) (by omega) hbw.size ?_; intro A3 c3 w4 hown4 hg4 hat4)
      go_roundg g
      case measure => omega
      case rel => exact ⟨k + 1, A3, _, c3, by omega, by go_num, rfl, by rw [jt.out, List.length_append, J2.out]; exact congrArg (· + x.n) hM.out, by rw [jt.out, bcells_append]; exact hown4, hown.grown hg4 hbw hbw.size⟩
end Go.Proofs.YtibaibdgpnkdnaaGreatDoor
end

section
namespace Go.Proofs.YtibaibdgpnkdnaaGreatDoor
set_option maxRecDepth 100000
set_option linter.unusedSimpArgs false
set_option linter.unusedVariables false
open Go.RowKit

theorem zeroCells_u8 (m : Nat) : Builtin.zeroCells #[Value.int .u8 0] m = (bcells (zs m)).toArray := by
  apply Array.ext
  · simp [Builtin.zeroCells, zs]
  · intro i h1 h2; simp [Builtin.zeroCells, Nat.mod_one, bcells, zs, B8]

section
variable {P : Program} (w : World)
theorem run_appendz (base : Nat) (t ti ty e : TypeId) (i : TypeInfo) (ht : P.underlying t = some (.slice e)) (hti : P.underlying ti = some (.int .i64)) (hi : P.info? e = some i) (hz : i.zero = some (.int .u8 0))
    (hs : i.size = 1) (hb : i.bytes = 1) (A : Option Addr) (n c : Nat) (cs : List Value) (hown : Own w base e 1 A n c cs) (hc0 : 0 < c) (m : Nat) (hm : 0 < m) (hnm : n + m ≤ 1099511627776) (hbase : base ≤ w.heap.size) :
    ∃ A2 c2 w2, (Builtin.append_ #[t, ti] ty #[.slice A n c, .int .i64 (m : Int)]).run P w = .ok (.slice A2 (n + m) c2) w2 ∧ Own w2 base e 1 A2 (n + m) c2 (cs ++ bcells (zs m)) ∧ w.grownBy w2 (ownAt A c) := by
  obtain ⟨hlen, hnc, hcm, hc⟩ := hown
  obtain ⟨g, cur, rfl, hbg, hg, hcs, htake⟩ := hc hc0
  have wm : IntKind.i64.wrap (m : Int) = (m : Int) := by rw [IntKind.wrap_i64]; omega
  have n1 : ¬ (m : Int) < 0 := by omega
  have n2 : ¬ (281474976710656 : Int) < (m : Int) := by omega
  have n3 : ¬ m = 0 := by omega
  have hlen2 : (cs ++ bcells (zs m)).length = (n + m) * 1 := by rw [List.length_append, hlen, length_bcells, zs_length]; omega
  by_cases hroom : n + m ≤ c
  · have hst := run_storeCells_at P g n e (bcells (zs m)) 0 cur w hg (by rw [length_bcells, zs_length]; omega) (bcells_one _)
    simp only [Nat.add_zero] at hst
    have hr : (Builtin.append_ #[t, ti] ty #[.slice (some ⟨g, 0, none⟩) n c, .int .i64 (m : Int)]).run P w = .ok (.slice (some ⟨g, 0, none⟩) (n + m) c) (w.setRow g (cur.toList.take n ++ bcells (zs m) ++ cur.toList.drop (n + (bcells (zs m)).length)).toArray) := by
      simp [Builtin.append_, run_underlying ht, run_underlying hti, sizeOf, typeInfo, zeroValue, asInt, asIntOf, hi, hz, hs, hb, wm, n1, n2, n3, hroom, Addr.add_lit, zeroCells_u8, Value.cells] at hst ⊢
      rw [hst]; rfl
    refine ⟨_, _, _, hr, ⟨hlen2, hroom, hcm, fun _ => ⟨g, _, rfl, hbg, setRow_heap w g cur _ e _ hg, ?_, ?_⟩⟩, ⟨rfl, rfl, rfl, by simp, fun k hk hne => setRow_other w g k _ (fun e => hne (by simp [ownAt, e]; omega))⟩⟩
    · simp only [List.size_toArray, List.length_append, List.length_take, List.length_drop, Array.length_toList]
      omega
    · rw [← htake, Nat.mul_one, Nat.mul_one, show n + m = (cur.toList.take n ++ bcells (zs m)).length by rw [List.length_append, List.length_take, Array.length_toList, length_bcells, zs_length]; omega]
      exact List.take_left
  · have hfo := run_firstCells_some (P := P) w.drew 1 n ⟨g, 0, none⟩ n c cs hlen (fun j u hu => by
      have hj : j < cs.length := (List.getElem?_eq_some_iff.1 hu).1
      show w.cell? _ = _
      rw [add_eq, Nat.zero_add, cell_of_row w g j cur e (0, 0) hg]
      rw [← htake, List.getElem?_take] at hu
      split at hu
      · simpa using hu
      · cases hu)
    have hcap := grownCap_ge w (n + m) c e
    have hcap2 := grownCap_le_maxLen w (n + m) c e (by unfold maxLen; omega)
    have h63 : ¬ (9223372036854775807 < ((n : Int) + (m : Int))) := by omega
    have h48 : ¬ (281474976710656 < Builtin.nextslicecap (n + m) c) := by
      have := growslice_fits (need := n + m) (old := c) (bytes := 1) (by omega) (by omega)
      omega
    have hr : (Builtin.append_ #[t, ti] ty #[.slice (some ⟨g, 0, none⟩) n c, .int .i64 (m : Int)]).run P w =
        .ok (.slice (some ⟨w.heap.size, 0, none⟩) (n + m) (grownCap w (n + m) c e))
          (w.drew.alloc (.cells (cs.toArray ++ (bcells (zs m)).toArray ++ Builtin.zeroCells #[.int .u8 0] (grownCap w (n + m) c e - (n + m))) e)) := by
      simp [Builtin.append_, run_underlying ht, run_underlying hti, sizeOf, typeInfo, zeroValue, asInt, asIntOf, hi, hz, hs, hb, wm, n1, n2, n3, hroom, h63, h48, Question.forced, zeroCells_u8, Value.cells, hfo, newRow, grownCap]
    refine ⟨_, _, _, hr, ⟨hlen2, hcap, hcap2, fun _ => ⟨w.heap.size, _, rfl, hbase, heap_alloc_new w.drew _, ?_, ?_⟩⟩, ⟨rfl, rfl, rfl, by simp, fun k hk _ => Below.heap_alloc w.drew _ k hk⟩⟩
    · simp only [Array.size_append, List.size_toArray, size_zeroCells, hlen, length_bcells, zs_length]
      simp
      omega
    · simp only [Array.toList_append]
      rw [← hlen2]
      exact List.take_left

theorem wpList_appendz {ops : Array Oper} {rest : List Oper} {o : Oper} {a : Act} {Q : Exit → Act → World → Prop} (hgd : o.guard = none) (x y : Operand) (t ti : TypeId)
    (ho : o.op = .call { callee := .builtin .append, args := #[x, y], argTypes := #[t, ti] })
    (base : Nat) (e : TypeId) (i : TypeInfo) (ht : P.underlying t = some (.slice e)) (hti : P.underlying ti = some (.int .i64)) (hi : P.info? e = some i) (hz : i.zero = some (.int .u8 0))
    (hs : i.size = 1) (hb : i.bytes = 1) (A : Option Addr) (n c : Nat) (cs : List Value) (hx : a.eval x = .slice A n c) (hown : Own w base e 1 A n c cs) (hc0 : 0 < c) (z : Int) (m : Nat) (hzm : z = (m : Int)) (hy : a.eval y = .int .i64 z) (hm : 0 < m) (hnm : n + m ≤ 1099511627776) (hbase : base ≤ w.heap.size)
    (h : ∀ A2 c2 w2, Own w2 base e 1 A2 (n + m) c2 (cs ++ bcells (zs m)) → w.grownBy w2 (ownAt A c) → wpList P ops Q rest (a.put o.dst (.slice A2 (n + m) c2)) w2) : wpList P ops Q (o :: rest) a w := by
  subst hzm
  refine wpList_plain hgd fun _ hK => ?_
  obtain ⟨A2, c2, w2, hrun, h2, h3⟩ := run_appendz (P := P) w base t ti o.type e i ht hti hi hz hs hb A n c cs hown hc0 m hm hnm hbase
  unfold Oper.wp execOp
  simp only [ho, resolve, invoke, builtin, Sem.run_bind, Sem.run_pure, Result.andThen_ok, List.map_toArray, List.map_cons, List.map_nil, hx, hy, hrun]
  exact hK _ _ (h A2 c2 w2 h2 h3)
end
end Go.Proofs.YtibaibdgpnkdnaaGreatDoor
end

section
namespace Go.Proofs.YtibaibdgpnkdnaaGreatDoor
set_option maxRecDepth 100000
set_option linter.unusedSimpArgs false
set_option linter.unusedVariables false
open Go.RowKit

theorem pad_no (bs : List UInt8) (n : Int) (h : n < 1 ∨ 65536 < n) : Oct.padB bs n = [] ∧ Oct.padE n = 1 := by
  have e : Oct.padOk n = false := by unfold Oct.padOk; simp; omega
  unfold Oct.padB Oct.padE; rw [e]; exact ⟨rfl, rfl⟩
theorem pad_yes (bs : List UInt8) (m : Nat) (h1 : 1 ≤ m) (h2 : m ≤ 65536) : Oct.padB bs (m : Int) = Oct.pad bs m ∧ Oct.padE (m : Int) = 0 := by
  have e : Oct.padOk (m : Int) = true := by unfold Oct.padOk; simp; omega
  unfold Oct.padB Oct.padE; rw [e]; exact ⟨by simp, rfl⟩

set_option maxHeartbeats 4000000 in
theorem octets_Pad (A : Option Addr) (n c : Nat) (bs : List UInt8) (p : Int) (w : World) (h : Byt w w.heap.size A n c bs) (hn : n ≤ 1000000000) :
    Calls Tryz.prog 58 #[.slice A n c, .int .i64 p] w (BRes 5 w (Oct.padB bs p) (Oct.padE p)) := by
  obtain ⟨ti, hti, hz0, hz1, hz2⟩ := info_parts o_u8
  by_cases hp1 : p < 1
  · have e := Lib.hid (pad_no bs p (.inl hp1))
    have t1 : decide (p < 1) = true := by simpa using hp1
    clear hp1 h
    go_enter Tryz.func58, Tryz.ntmps58
    go_wp2_with fail
    go_ret2
    rw [e.out.1, e.out.2]
    exact BRes.nil _ (Below.refl _ _)
  by_cases hp2 : 65536 < p
  · have e := Lib.hid (pad_no bs p (.inr hp2))
    have t1 : decide (p < 1) = false := by simpa using hp1
    have t2 : decide (65536 < p) = true := by simpa using hp2
    clear hp1 hp2 h
    go_enter Tryz.func58, Tryz.ntmps58
    go_wp2_with fail
    go_ret2
    rw [e.out.1, e.out.2]
    exact BRes.nil _ (Below.refl _ _)
  obtain ⟨m, rfl⟩ := Int.eq_ofNat_of_zero_le (show 0 ≤ p by omega)
  have t1 : decide ((m : Int) < 1) = false := by simpa using hp1
  have t2 : decide ((65536 : Int) < (m : Int)) = false := by simpa using hp2
  have hm1 : 1 ≤ m := by omega
  have hm2 : m ≤ 65536 := by omega
  have e := Lib.hid (pad_yes bs m hm1 hm2)
  have hl := Lib.hid h.1
  have hbyts : Byts ((w.alloc (.cells #[.int .u8 128] 5)).alloc (.cells #[.slice A n c, .slice (some ⟨w.heap.size, 0, none⟩) 1 1] 22)) (w.heap.size + 2) (some ⟨w.heap.size + 1, 0, none⟩) [⟨A, n, c, bs⟩, ⟨some ⟨w.heap.size, 0, none⟩, 1, 1, [0x80]⟩] := by
    refine ⟨?_, fun v hv => ?_⟩
    · have := Row.new (w.alloc (.cells #[.int .u8 128] 5)) (t := 22) (cs := #[.slice A n c, .slice (some ⟨w.heap.size, 0, none⟩) 1 1]) rfl
      simpa [SV.val] using this
    · simp only [List.mem_cons, List.not_mem_nil, or_false] at hv
      rcases hv with rfl | rfl
      · exact ((h.below ((Below.refl _ _).alloc (Nat.le_refl _) _)).below ((Below.refl _ _).alloc (by simp) _)).more (by omega)
      · exact byt_blk ((Blk.new' _ rfl rfl).alloc _) (by omega) rfl
  have hj : joined [⟨A, n, c, bs⟩, ⟨some ⟨w.heap.size, 0, none⟩, 1, 1, [0x80]⟩] = bs ++ [0x80] := by simp [joined]
  have HB := Lib.hid hbyts
  have HJ := Lib.hid hj
  clear hp1 hp2 hbyts hj h
  go_enter Tryz.func58, Tryz.ntmps58
  go_wp2_with fail
  refine (octets_Join (some ⟨w.heap.size + 1, 0, none⟩) 2 2 _ _ (HB.out.more (by simp)) rfl (by omega) (by rw [HJ.out, List.length_append, hl.out]; simp; omega)).mono ?_
  rintro e1 w1 ⟨A2, c2, rfl, hown, hb1⟩
  rw [HJ.out] at hown ⊢
  have hlj : (bs ++ [(0x80 : UInt8)]).length = n + 1 := by rw [List.length_append, hl.out]; rfl
  rw [hlj] at hown ⊢
  have hc2 := hown.le
  have hb01 : Below w.heap.size w w1 := (((Below.refl w.heap.size w).alloc (Nat.le_refl _) _).alloc (by simp) _).trans (hb1.mono (by simp; omega))
  have hown1 : Own w1 w.heap.size 5 1 A2 (n + 1) c2 (bcells (bs ++ [0x80])) := hown.mono (by simp; omega)
  have hmlt := Nat.mod_lt (n + 1) (show 0 < m by omega)
  have hmi : ((n : Int) + 1) % (m : Int) = (((n + 1) % m : Nat) : Int) := by simp
  clear hown hlj hb1
  generalize hrr : (n + 1) % m = r at *
  have HRR := Lib.hid hrr
  clear hrr
  by_cases hr : r = 0
  · have hpad : Oct.pad bs m = bs ++ [0x80] := by
      unfold Oct.pad Oct.padN; rw [hl.out, HRR.out, if_pos hr]; simp
    have HP := Lib.hid hpad
    subst hr
    clear hpad
    go_wp2_with fail
    go_ret2
    rw [e.out.1, e.out.2, HP.out]
    exact BRes.mk (by rw [List.length_append, hl.out]; rfl) hown1 hb01
  · have hpad : Oct.pad bs m = bs ++ [0x80] ++ zs (m - r) := by
      unfold Oct.pad Oct.padN; rw [hl.out, HRR.out, if_neg hr]; rfl
    have HP := Lib.hid hpad
    have t3 : ((r : Int) != 0) = true := by rw [bne_iff_ne]; omega
    have i0 : (0 : Int) ≤ (r : Int) := by omega
    have i1 : (r : Int) < (m : Int) := by omega
    have i2 : (m : Int) ≤ 65536 := by omega
    clear hpad hr
    go_wp2_with (at_builtin; refine wpList_appendz _ rfl (.tmp 24) (.tmp 27) 22 3 rfl w.heap.size 5 ti Tryz.underlying22 Tryz.underlying3 hti hz0 hz1 hz2 A2 (n + 1) c2 _ rfl hown1 (by omega) ((m : Int) - (r : Int)) (m - r) (by omega) rfl (by omega) (by omega) hb01.size ?_; intro A3 c3 w4 hown4 hg4)
    go_ret2
    rw [e.out.1, e.out.2, HP.out]
    refine BRes.mk (by rw [List.length_append, List.length_append, hl.out, zs_length]; rfl) ?_ (hown1.grown hg4 hb01 hb01.size)
    rw [bcells_append]
    exact hown4
end Go.Proofs.YtibaibdgpnkdnaaGreatDoor
end

section
namespace Go.Proofs.YtibaibdgpnkdnaaGreatDoor
set_option maxRecDepth 100000
set_option linter.unusedSimpArgs false
set_option linter.unusedVariables false
open Go.RowKit

theorem ofInt_i64 (a : Nat) (ha : a < 9223372036854775808) : (BitVec.ofInt 64 (a : Int)).toNat = a := by
  rw [BitVec.ofInt_natCast, BitVec.toNat_ofNat]; exact Nat.mod_eq_of_lt (by omega)
theorem i64_and_nat (a b : Nat) (ha : a < 9223372036854775808) (hb : b < 9223372036854775808) : bits .and .i64 (a : Int) (b : Int) = ((a &&& b : Nat) : Int) := by
  have hx : a &&& b < 2 ^ 63 := Nat.and_lt_two_pow _ (by omega)
  show IntKind.i64.wrap ((BitVec.ofInt 64 (a : Int) &&& BitVec.ofInt 64 (b : Int)).toNat : Int) = _
  rw [BitVec.toNat_and, ofInt_i64 a ha, ofInt_i64 b hb, IntKind.wrap_i64]
  omega
theorem i64_or_nat (a b : Nat) (ha : a < 9223372036854775808) (hb : b < 9223372036854775808) : bits .or .i64 (a : Int) (b : Int) = ((a ||| b : Nat) : Int) := by
  have hx : a ||| b < 2 ^ 63 := Nat.or_lt_two_pow (by omega) (by omega)
  show IntKind.i64.wrap ((BitVec.ofInt 64 (a : Int) ||| BitVec.ofInt 64 (b : Int)).toNat : Int) = _
  rw [BitVec.toNat_or, ofInt_i64 a ha, ofInt_i64 b hb, IntKind.wrap_i64]
  omega
theorem i64_xor_nat (a b : Nat) (ha : a < 9223372036854775808) (hb : b < 9223372036854775808) : bits .xor .i64 (a : Int) (b : Int) = ((a ^^^ b : Nat) : Int) := by
  have hx : a ^^^ b < 2 ^ 63 := Nat.xor_lt_two_pow (by omega) (by omega)
  show IntKind.i64.wrap ((BitVec.ofInt 64 (a : Int) ^^^ BitVec.ofInt 64 (b : Int)).toNat : Int) = _
  rw [BitVec.toNat_xor, ofInt_i64 a ha, ofInt_i64 b hb, IntKind.wrap_i64]
  omega
theorem ecc_xor (a b : Nat) (ha : a < 64) (hb : b < 64) : bits BinOp.xor IntKind.i64 (a : Int) (b : Int) = ((a ^^^ b : Nat) : Int) := i64_xor_nat a b (by omega) (by omega)
theorem and255 (n : Nat) (h : n ≤ 65536) : bits .and .i64 (n : Int) 255 = ((n % 256 ^ 1 : Nat) : Int) := by
  rw [show (255 : Int) = ((255 : Nat) : Int) from rfl, i64_and_nat _ _ (by omega) (by omega), show 255 = 2 ^ 8 - 1 from rfl, Nat.and_two_pow_sub_one_eq_mod]
theorem and65535 (n : Nat) (h : n ≤ 65536) : bits .and .i64 (n : Int) 65535 = ((n % 256 ^ 2 : Nat) : Int) := by
  rw [show (65535 : Int) = ((65535 : Nat) : Int) from rfl, i64_and_nat _ _ (by omega) (by omega), show 65535 = 2 ^ 16 - 1 from rfl, Nat.and_two_pow_sub_one_eq_mod]

theorem putB_mod (n m : Nat) (hm : m = 1 ∨ m = 2) : Oct.putB (n % 256 ^ m) m = Oct.putB n m := by
  unfold Oct.putB
  rcases hm with rfl | rfl
  · simp [List.range_succ]
    apply UInt8.toNat_inj.1; simp
  · simp [List.range_succ]
    constructor
    · apply UInt8.toNat_inj.1; simp <;> omega
    · apply UInt8.toNat_inj.1; simp <;> omega

end Go.Proofs.YtibaibdgpnkdnaaGreatDoor
end

section
namespace Go.Proofs.YtibaibdgpnkdnaaGreatDoor
set_option maxRecDepth 100000
set_option linter.unusedSimpArgs false
set_option linter.unusedVariables false
open Go.RowKit

/-- 'wpAnyH_take' with the operation found ahead of all else. -/
theorem wpAnyH_take2 {P : Program} {md : Region.Mode} {ops : Array Oper} {Q : Exit → Act → World → Prop} {S : World → Prop} {i : Nat} {oi : Oper} {fuel : Nat} {listed : Array Bool} {a : Act} {w : World} (hi : ops[i]? = some oi)
    (h : ∃ v, Region.noSelect ops = true ∧ Region.free md ops listed i = true ∧ (Region.ready md ops listed).contains i = true ∧
      (∀ c a w, Q (.panic c) (a.put oi.dst v) w → Q (.panic c) a w) ∧ YieldsIf P ops S oi v a ∧ S w ∧ wpAnyH P md ops Q S fuel (listed.setIfInBounds i true) (a.put oi.dst v) w) : wpAnyH P md ops Q S (fuel + 1) listed a w := by
  obtain ⟨v, hs, hf, hr, hQ, hy, hS, h⟩ := h
  exact wpAnyH_take hi hs hf hr hQ hy hS h

/-- 'AllReadyH.cons' with the operation found ahead of all else. -/
theorem AllReadyH.cons2 {P : Program} {md : Region.Mode} {ops : Array Oper} {Q : Exit → Act → World → Prop} {S : World → Prop} {fuel : Nat} {listed : Array Bool} {a : Act} {w : World} {i : Nat} {o : Oper} (ho : ops[i]? = some o)
    (h : ∀ K' : Act → World → Prop, Shut (∀ a w, S w → (S w → wpAnyH P md ops Q S fuel (listed.setIfInBounds i true) a w) → K' a w) → if Region.wanted o (yielded ops a.tmps) = true then Oper.wp P o a w K' Q else K' (a.put o.dst undef) w)
     : AllReadyH P md ops Q S fuel listed a w [i] := AllReadyH.cons ho h AllReadyH.nil

theorem AllReadyH.cons3 {P : Program} {md : Region.Mode} {ops : Array Oper} {Q : Exit → Act → World → Prop} {S : World → Prop} {fuel : Nat} {listed : Array Bool} {a : Act} {w : World} {i : Nat} {o : Oper} {rs : List Nat} (ho : ops[i]? = some o)
    (h : ∀ K' : Act → World → Prop, Shut (∀ a w, S w → (S w → wpAnyH P md ops Q S fuel (listed.setIfInBounds i true) a w) → K' a w) → if Region.wanted o (yielded ops a.tmps) = true then Oper.wp P o a w K' Q else K' (a.put o.dst undef) w)
    (hs : AllReadyH P md ops Q S fuel listed a w rs) : AllReadyH P md ops Q S fuel listed a w (i :: rs) := AllReadyH.cons ho h hs

/-- A load of a whole struct out of a block that is known, as a step of a region. -/
theorem step_load_row {P : Program} {ops : Array Oper} {o : Oper} {a : Act} {w : World} {K : Act → World → Prop} {Q : Exit → Act → World → Prop} {E : Prop} (hgd : o.guard = none) (ty : TypeId) (x : Operand) (ho : o.op = .load ty x)
    (g : Nat) (hx : a.eval x = .pointer (some ⟨g, 0, none⟩)) (t : TypeId) (cs : Array Value) (fr : Nat × Nat) (d : TypeDesc) (hg : w.heap[g]? = some (.cells cs t fr))
    (hu : P.underlying ty = some d) (hd : (match d with | .struct _ | .array _ _ => true | _ => false) = true) (hi : (P.info? ty).map (·.size) = some cs.size)
    (h : K (a.put o.dst (.agg cs)) w) : if Region.wanted o (yielded ops a.tmps) = true then Oper.wp P o a w K Q else E := by
  have hw : Region.wanted o (yielded ops a.tmps) = true := by simp [Region.wanted, hgd]
  rw [if_pos hw]
  exact wp_load_row ty x ho g hx t cs fr d hg hu hd hi h

/-- A load of a whole struct out of the middle of a block. -/
theorem step_load_mid {P : Program} {ops : Array Oper} {o : Oper} {a : Act} {w : World} {K : Act → World → Prop} {Q : Exit → Act → World → Prop} {E : Prop} (hgd : o.guard = none) (ty : TypeId) (x : Operand) (ho : o.op = .load ty x)
    (b q : Nat) (hx : a.eval x = .pointer (some ⟨b, q, none⟩)) (cs : List Value) (d : TypeDesc) (hc : w.rangeAt b q cs)
    (hu : P.underlying ty = some d) (hd : d.isRow = true) (hi : (P.info? ty).map (·.size) = some cs.length)
    (h : K (a.put o.dst (.agg cs.toArray)) w) : if Region.wanted o (yielded ops a.tmps) = true then Oper.wp P o a w K Q else E := by
  have hw : Region.wanted o (yielded ops a.tmps) = true := by simp [Region.wanted, hgd]
  rw [if_pos hw]
  exact wp_load_mid ty x ho b q hx cs d hc hu hd hi h
theorem rangeAt4 {w : World} {g o : Nat} {a0 a1 a2 a3 : Value} (h0 : w.cell? ⟨g, o, none⟩ = some a0) (h1 : w.cell? ⟨g, o + 1, none⟩ = some a1) (h2 : w.cell? ⟨g, o + 2, none⟩ = some a2) (h3 : w.cell? ⟨g, o + 3, none⟩ = some a3) : w.rangeAt g o [a0, a1, a2, a3] := fun j v hv => by
  match j with
  | 0 => simp at hv; subst hv; exact h0
  | 1 => simp at hv; subst hv; exact h1
  | 2 => simp at hv; subst hv; exact h2
  | 3 => simp at hv; subst hv; exact h3
  | j + 4 => simp at hv

/-- A store of a whole struct, as a step of a region. -/
theorem step_store_row {P : Program} {ops : Array Oper} {o : Oper} {a : Act} {w : World} {K : Act → World → Prop} {Q : Exit → Act → World → Prop} {E : Prop} (hgd : o.guard = none) (ty : TypeId) (x y : Operand) (ho : o.op = .store ty x y)
    (g : Nat) (cells : Array Value) (hx : a.eval x = .pointer (some ⟨g, 0, none⟩)) (hy : a.eval y = .agg cells)
    (t : TypeId) (old : Array Value) (hg : w.heap[g]? = some (.cells old t (0, 0))) (hi : (P.info? ty).map (·.size) = some cells.size)
    (hold : old.size = cells.size) (h1 : cells.all (·.oneCell') = true)
    (h : K (a.put o.dst undef) (w.setRow g cells)) : if Region.wanted o (yielded ops a.tmps) = true then Oper.wp P o a w K Q else E := by
  have hw : Region.wanted o (yielded ops a.tmps) = true := by simp [Region.wanted, hgd]
  rw [if_pos hw]
  exact wp_store_row ty x y ho g cells hx hy t old hg hi hold h1 h
theorem rangeAt_setRow {w : World} {g g' o : Nat} {l : List Value} (h : w.rangeAt g o l) (hne : g ≠ g') (cs : Array Value) : (w.setRow g' cs).rangeAt g o l := fun j v hv => by
  have e := setRow_other w g' g cs hne
  have := h j v hv
  unfold World.cell? at this ⊢
  rw [e]; exact this
theorem rangeAt_blk {w : World} {g : Nat} {t : TypeId} {cs : Array Value} (h : Blk w g t cs) : w.rangeAt g 0 cs.toList := fun j v hv => by
  rw [h.cell]; simpa using hv
theorem cells7 {w : World} {g : Nat} {a0 a1 a2 a3 a4 a5 a6 : Value} (h : w.rangeAt g 0 [a0, a1, a2, a3, a4, a5, a6]) :
    w.cell? ⟨g, 0, none⟩ = some a0 ∧ w.cell? ⟨g, 1, none⟩ = some a1 ∧ w.cell? ⟨g, 2, none⟩ = some a2 ∧ w.cell? ⟨g, 3, none⟩ = some a3 ∧ w.cell? ⟨g, 4, none⟩ = some a4 ∧ w.cell? ⟨g, 5, none⟩ = some a5 ∧ w.cell? ⟨g, 6, none⟩ = some a6 :=
  ⟨h 0 _ rfl, h 1 _ rfl, h 2 _ rfl, h 3 _ rfl, h 4 _ rfl, h 5 _ rfl, h 6 _ rfl⟩
end Go.Proofs.YtibaibdgpnkdnaaGreatDoor
end

section
namespace Go.Proofs.YtibaibdgpnkdnaaGreatDoor
set_option maxRecDepth 100000
set_option linter.unusedSimpArgs false
set_option linter.unusedVariables false
open Go.RowKit

theorem b8_val (x : Int) (h0 : 0 ≤ x) (h1 : x ≤ 255) : B8 (Apd.b8 x) = .int .u8 x := by
  unfold B8 Apd.b8
  rw [UInt8.toNat_ofNat_of_lt' (by simp only [UInt8.size]; omega), Int.toNat_of_nonneg h0]

theorem app8 {ops : Array Oper} {rest : List Oper} {o : Oper} {a : Act} {Q : Exit → Act → World → Prop} {w : World} (hgd : o.guard = none) (x y : Operand)
    (ho : o.op = .call { callee := .builtin .append, args := #[x, y], argTypes := #[22, 22] }) (base : Nat)
    (A : Option Addr) (n c : Nat) (L : List UInt8) (hx : a.eval x = .slice A n c) (hown : Own w base 5 1 A n c (bcells L))
    (A' : Option Addr) (m c' : Nat) (M : List UInt8) (hy : a.eval y = .slice A' m c') (B : Nat) (hr : Row w B A' (bcells M)) (hm : M.length = m) (hsz : n + m ≤ 1000000000)
    (w0 : World) (hbw : Below base w0 w) (hbase : base ≤ w0.heap.size)
    (h : ∀ A2 c2 w2, Own w2 base 5 1 A2 (n + m) c2 (bcells (L ++ M)) → Below base w0 w2 → wpList Tryz.prog ops Q rest (a.put o.dst (.slice A2 (n + m) c2)) w2) : wpList Tryz.prog ops Q (o :: rest) a w := by
  obtain ⟨ti, hti, hz0, hz1, hz2⟩ := info_parts o_u8
  refine wpList_append w hgd x y 22 ho base 5 ti _ 1 1 Tryz.underlying22 hti hz0 hz1 hz2 rfl (by omega) A n c (bcells L) hx hown B A' m c' (bcells M) hy hr (by rw [length_bcells, hm]; omega) (bcells_one _) (by unfold maxLen; omega) (by omega) (Nat.le_trans hbase hbw.size) ?_
  intro A2 c2 w2 h1 h2 _
  refine h A2 c2 w2 (by rw [show bcells (L ++ M) = bcells L ++ bcells M by simp [bcells]]; exact h1) (hown.grown h2 hbw (Nat.le_trans hbase hbw.size))

theorem step_app8 {ops : Array Oper} {o : Oper} {a : Act} {K : Act → World → Prop} {Q : Exit → Act → World → Prop} {E : Prop} {w : World} (hgd : o.guard = none) (x y : Operand)
    (ho : o.op = .call { callee := .builtin .append, args := #[x, y], argTypes := #[22, 22] }) (base : Nat)
    (A : Option Addr) (n c : Nat) (L : List UInt8) (hx : a.eval x = .slice A n c) (hown : Own w base 5 1 A n c (bcells L))
    (A' : Option Addr) (m c' : Nat) (M : List UInt8) (hy : a.eval y = .slice A' m c') (B : Nat) (hr : Row w B A' (bcells M)) (hm : M.length = m) (hsz : n + m ≤ 1000000000)
    (w0 : World) (hbw : Below base w0 w) (hbase : base ≤ w0.heap.size)
    (h : ∀ A2 c2 w2, Own w2 base 5 1 A2 (n + m) c2 (bcells (L ++ M)) → Below base w0 w2 → K (a.put o.dst (.slice A2 (n + m) c2)) w2) : if Region.wanted o (yielded ops a.tmps) = true then Oper.wp Tryz.prog o a w K Q else E := by
  obtain ⟨ti, hti, hz0, hz1, hz2⟩ := info_parts o_u8
  refine step_append w hgd x y 22 ho base 5 ti _ 1 1 Tryz.underlying22 hti hz0 hz1 hz2 rfl (by omega) A n c (bcells L) hx hown B A' m c' (bcells M) hy hr (by rw [length_bcells, hm]; omega) (bcells_one _) (by unfold maxLen; omega) (by omega) (Nat.le_trans hbase hbw.size) ?_
  intro A2 c2 w2 h1 h2 _
  refine h A2 c2 w2 (by rw [show bcells (L ++ M) = bcells L ++ bcells M by simp [bcells]]; exact h1) (hown.grown h2 hbw (Nat.le_trans hbase hbw.size))

end Go.Proofs.YtibaibdgpnkdnaaGreatDoor
end

section
namespace Go.Proofs.YtibaibdgpnkdnaaGreatDoor
set_option maxRecDepth 100000
set_option linter.unusedSimpArgs false
set_option linter.unusedVariables false
open Go.RowKit


end Go.Proofs.YtibaibdgpnkdnaaGreatDoor
end

section
namespace Go.Proofs.YtibaibdgpnkdnaaGreatDoor
set_option maxRecDepth 100000
set_option linter.unusedSimpArgs false
set_option linter.unusedVariables false
open Go.RowKit

theorem results_row_tmp {P : Program} {fn : Func} {p u : Tmp} {ty : TypeId} (h : fn.results = #[.cell p ty, .tmp u]) (tmps : Array Value) (w : World) (g : Nat) (t : TypeId) (cs : Array Value) (fr : Nat × Nat) (d : TypeDesc)
    (hp : tmps.getD p undef = .pointer (some ⟨g, 0, none⟩)) (hg : w.heap[g]? = some (.cells cs t fr))
    (hu : P.underlying ty = some d) (hd : (match d with | .struct _ | .array _ _ => true | _ => false) = true) (hi : (P.info? ty).map (·.size) = some cs.size) :
    (results fn tmps).run P w = .ok (.tuple #[.agg cs, tmps.getD u undef]) w := by
  rw [results_cell_tmp h, hp]
  simp [asAddr, run_loadVar_row w g t ty cs fr d hg hu hd hi]
end Go.Proofs.YtibaibdgpnkdnaaGreatDoor
end

section
namespace Go.Proofs.YtibaibdgpnkdnaaGreatDoor
set_option maxRecDepth 100000
set_option linter.unusedSimpArgs false
set_option linter.unusedVariables false
open Go.RowKit

/-- The class byte with a meaning. -/
def Apd.cby (ch : Int) (s c p : Bool) : Int := if ch < 0 ∨ 4 ≤ ch then 0 else ch + (if s then 4 else 0) + (if c then 16 else 0) + (if p then 128 else 0)
def Apd.cbe (ch : Int) : Int := if ch < 0 ∨ 4 ≤ ch then 2 else 0
/-- Is it a class byte? -/
def Apd.cok (x : Int) : Bool := decide (0 ≤ x ∧ x ≤ 254 ∧ x / 64 % 2 ≠ 1 ∧ x / 32 % 2 ≠ 1 ∧ x / 8 % 2 ≠ 1)
/-- The meaning of a class byte, by value. -/
def infoV (ch : Int) (s c p : Bool) : Value := .agg #[I64 ch, .bool s, .bool c, .bool p]
def Apd.clsV (x : Int) : Value := if Apd.cok x then infoV (x % 4) (x / 4 % 2 == 1) (x / 16 % 2 == 1) (x / 128 == 1) else infoV 0 false false false

theorem or_4 : ∀ h : Fin 4, bits .or .i64 (h.val : Int) 4 = (h.val : Int) + 4 := by decide +kernel
theorem or_16 : ∀ h : Fin 4, bits .or .i64 (h.val : Int) 16 = (h.val : Int) + 16 := by decide +kernel
theorem or_416 : ∀ h : Fin 4, bits .or .i64 ((h.val : Int) + 4) 16 = (h.val : Int) + 4 + 16 := by decide +kernel
theorem or_128 : ∀ h : Fin 4, bits .or .i64 (h.val : Int) 128 = (h.val : Int) + 128 := by decide +kernel
theorem or_4128 : ∀ h : Fin 4, bits .or .i64 ((h.val : Int) + 4) 128 = (h.val : Int) + 4 + 128 := by decide +kernel
theorem or_16128 : ∀ h : Fin 4, bits .or .i64 ((h.val : Int) + 16) 128 = (h.val : Int) + 16 + 128 := by decide +kernel
theorem or_all : ∀ h : Fin 4, bits .or .i64 ((h.val : Int) + 4 + 16) 128 = (h.val : Int) + 4 + 16 + 128 := by decide +kernel
theorem or_all2 : ∀ h : Fin 4, bits .or .i64 ((h.val : Int) + 20) 128 = (h.val : Int) + 4 + 16 + 128 := by decide +kernel

set_option maxRecDepth 100000 in
set_option maxHeartbeats 2000000 in
theorem apdu_Byte (ch : Int) (s c p : Bool) (w : World) :
    Calls Tryz.prog 36 #[infoV ch s c p] w fun e w' => e = .returned (.tuple #[.int .i64 (Apd.cby ch s c p), .int .i64 (Apd.cbe ch)]) ∧ Below w.heap.size w w' := by
  have HB := Lib.hid (fun o => (Below.refl w.heap.size w).alloc (Nat.le_refl _) o)
  unfold infoV
  by_cases h0 : ch < 0
  · have e1 : Apd.cby ch s c p = 0 := by unfold Apd.cby; rw [if_pos (.inl h0)]
    have e2 : Apd.cbe ch = 2 := by unfold Apd.cbe; rw [if_pos (.inl h0)]
    rw [e1, e2]
    clear e1 e2
    go_enter Tryz.func36, Tryz.ntmps36
    go_wp2_with fail
    go_ret2
    exact ⟨rfl, HB.out _⟩
  by_cases h4 : 4 ≤ ch
  · have e1 : Apd.cby ch s c p = 0 := by unfold Apd.cby; rw [if_pos (.inr h4)]
    have e2 : Apd.cbe ch = 2 := by unfold Apd.cbe; rw [if_pos (.inr h4)]
    rw [e1, e2]
    clear e1 e2
    go_enter Tryz.func36, Tryz.ntmps36
    go_wp2_with fail
    go_ret2
    exact ⟨rfl, HB.out _⟩
  have e1 : Apd.cby ch s c p = ch + (if s then 4 else 0) + (if c then 16 else 0) + (if p then 128 else 0) := by unfold Apd.cby; rw [if_neg (by omega)]
  have e2 : Apd.cbe ch = 0 := by unfold Apd.cbe; rw [if_neg (by omega)]
  rw [e1, e2]
  clear e1 e2
  obtain ⟨h, rfl⟩ := Int.eq_ofNat_of_zero_le (show 0 ≤ ch by omega)
  have hh : h < 4 := by omega
  have f1 := or_4 ⟨h, hh⟩
  have f2 := or_16 ⟨h, hh⟩
  have f3 := or_416 ⟨h, hh⟩
  have f4 := or_128 ⟨h, hh⟩
  have f5 := or_4128 ⟨h, hh⟩
  have f6 := or_16128 ⟨h, hh⟩
  have f7 := or_all ⟨h, hh⟩
  simp only at f1 f2 f3 f4 f5 f6 f7
  cases s <;> cases c <;> cases p
  all_goals
    go_enter Tryz.func36, Tryz.ntmps36
    go_wp2_with fail
    go_ret2
    exact ⟨by simp, HB.out _⟩

set_option maxRecDepth 100000 in
set_option maxHeartbeats 2000000 in
theorem ref04_Byte (ch : Int) (s c p : Bool) (w : World) :
    Calls Tryz.prog 46 #[infoV ch s c p] w fun e w' => e = .returned (.tuple #[.int .i64 (Apd.cby ch s c p), .int .i64 (Apd.cbe ch)]) ∧ Below w.heap.size w w' := by
  have HB := Lib.hid (fun o => (Below.refl w.heap.size w).alloc (Nat.le_refl _) o)
  unfold infoV
  by_cases h0 : ch < 0
  · have e1 : Apd.cby ch s c p = 0 := by unfold Apd.cby; rw [if_pos (.inl h0)]
    have e2 : Apd.cbe ch = 2 := by unfold Apd.cbe; rw [if_pos (.inl h0)]
    rw [e1, e2]
    clear e1 e2
    go_enter Tryz.func46, Tryz.ntmps46
    go_wp2_with fail
    go_ret2
    exact ⟨rfl, HB.out _⟩
  by_cases h4 : 4 ≤ ch
  · have e1 : Apd.cby ch s c p = 0 := by unfold Apd.cby; rw [if_pos (.inr h4)]
    have e2 : Apd.cbe ch = 2 := by unfold Apd.cbe; rw [if_pos (.inr h4)]
    rw [e1, e2]
    clear e1 e2
    go_enter Tryz.func46, Tryz.ntmps46
    go_wp2_with fail
    go_ret2
    exact ⟨rfl, HB.out _⟩
  have e1 : Apd.cby ch s c p = ch + (if s then 4 else 0) + (if c then 16 else 0) + (if p then 128 else 0) := by unfold Apd.cby; rw [if_neg (by omega)]
  have e2 : Apd.cbe ch = 0 := by unfold Apd.cbe; rw [if_neg (by omega)]
  rw [e1, e2]
  clear e1 e2
  obtain ⟨h, rfl⟩ := Int.eq_ofNat_of_zero_le (show 0 ≤ ch by omega)
  have hh : h < 4 := by omega
  cases s <;> cases c <;> cases p
  all_goals
    go_enter Tryz.func46, Tryz.ntmps46
    go_wp2_with fail
    go_ret2
    exact ⟨by simp, HB.out _⟩
end Go.Proofs.YtibaibdgpnkdnaaGreatDoor
end

section
namespace Go.Proofs.YtibaibdgpnkdnaaGreatDoor
set_option maxRecDepth 100000
set_option linter.unusedSimpArgs false
set_option linter.unusedVariables false
open Go.RowKit

theorem blk_of_two {w w1 : World} {X Y : Array Value} {t s : TypeId} (h : Below ((w.alloc (.cells X t)).alloc (.cells Y s)).heap.size ((w.alloc (.cells X t)).alloc (.cells Y s)) w1) :
    Blk w1 w.heap.size t X ∧ Blk w1 (w.heap.size + 1) s Y ∧ Below w.heap.size w w1 :=
  ⟨((Blk.new w t X).alloc _).below h (by simp; omega), (Blk.new' (g := w.heap.size + 1) (w.alloc (.cells X t)) (by simp) rfl).below h (by simp),
    (((Below.refl _ _).alloc (Nat.le_refl _) _).alloc (by simp) _).trans (h.mono (by simp; omega))⟩

theorem cls_bits : ∀ x : Fin 255, bits .and .i64 (x.val : Int) 3 = (x.val : Int) % 4 ∧ (bits .and .i64 (x.val : Int) 4 != 0) = ((x.val : Int) / 4 % 2 == 1) ∧ (bits .and .i64 (x.val : Int) 16 != 0) = ((x.val : Int) / 16 % 2 == 1) ∧ (bits .and .i64 (x.val : Int) 128 != 0) = ((x.val : Int) / 128 == 1) := by decide +kernel
theorem cls_back : ∀ x : Fin 255, (Apd.cby ((x.val : Int) % 4) ((x.val : Int) / 4 % 2 == 1) ((x.val : Int) / 16 % 2 == 1) ((x.val : Int) / 128 == 1) != (x.val : Int)) = !Apd.cok (x.val : Int) := by decide +kernel



set_option maxRecDepth 100000 in
set_option maxHeartbeats 2000000 in
theorem apdu_Class (x : Int) (w : World) :
    Calls Tryz.prog 32 #[.int .i64 x] w fun e w' => e = .returned (.tuple #[Apd.clsV x, .bool (Apd.cok x)]) ∧ Below w.heap.size w w' := by
  have HB := Lib.hid (fun o => (Below.refl w.heap.size w).alloc (Nat.le_refl _) o)
  by_cases hr : 0 ≤ x ∧ x ≤ 254
  case neg =>
    have e1 : Apd.cok x = false := by unfold Apd.cok; exact decide_eq_false (by omega)
    have e2 : Apd.clsV x = infoV 0 false false false := by unfold Apd.clsV; rw [e1]; rfl
    rw [e1, e2]
    clear e1 e2
    rcases (show x < 0 ∨ (0 ≤ x ∧ 254 < x) by omega) with h0 | ⟨h0, h1⟩
    all_goals
      clear hr
      go_enter Tryz.func32, Tryz.ntmps32
      go_wp2_with fail
      refine bodyPost_ret (results_row_tmp rfl _ _ w.heap.size 72 _ (0, 0) _ rfl (Blk.new' _ (by simp) rfl) Tryz.underlying72 rfl (by kernel_rfl)) rfl ⟨rfl, HB.out _⟩
  obtain ⟨h0, h1⟩ := hr
  obtain ⟨k, rfl⟩ := Int.eq_ofNat_of_zero_le h0
  have hk : k < 255 := by omega
  obtain ⟨f1, f2, f3, f4⟩ := cls_bits ⟨k, hk⟩
  have f5 := cls_back ⟨k, hk⟩
  simp only at f1 f2 f3 f4 f5
  cases hc : Apd.cok (k : Int) with
  | false =>
    have e2 : Apd.clsV (k : Int) = infoV 0 false false false := by unfold Apd.clsV; rw [hc]; rfl
    rw [e2]
    rw [hc] at f5
    clear e2 hc
    have hB := Lib.hid (fun u => apdu_Byte ((k : Int) % 4) ((k : Int) / 4 % 2 == 1) ((k : Int) / 16 % 2 == 1) ((k : Int) / 128 == 1) u)
    unfold infoV at hB
    generalize Apd.cby ((k : Int) % 4) ((k : Int) / 4 % 2 == 1) ((k : Int) / 16 % 2 == 1) ((k : Int) / 128 == 1) = y at *
    go_enter Tryz.func32, Tryz.ntmps32
    go_wp2_with fail
    refine (hB.out _).mono ?_
    rintro e w1 ⟨rfl, hb1⟩
    obtain ⟨B1, B2, hbw⟩ := blk_of_two hb1
    have hF := Lib.hid B1
    have hbW := Lib.hid hbw
    clear B1 B2 hbw hb1
    have q0 := hF.out.cell 0
    have q1 := hF.out.cell 1
    have q2 := hF.out.cell 2
    have q3 := hF.out.cell 3
    have r0 := hF.out.frozen 0
    have r1 := hF.out.frozen 1
    have r2 := hF.out.frozen 2
    have r3 := hF.out.frozen 3
    go_wp2_with fail
    have hb4 := (((hbW.out.setCell (p := ⟨w.heap.size, 0, none⟩) (Nat.le_refl _) (.int .i64 0)).setCell (p := ⟨w.heap.size, 1, none⟩) (Nat.le_refl _) (.bool false)).setCell (p := ⟨w.heap.size, 2, none⟩) (Nat.le_refl _) (.bool false)).setCell (p := ⟨w.heap.size, 3, none⟩) (Nat.le_refl _) (.bool false)
    refine bodyPost_ret (results_row_tmp rfl _ _ w.heap.size 72 #[(.int .i64 0), (.bool false), (.bool false), (.bool false)] (0, 0) _ rfl ((((hF.out.set 0 (.int .i64 0)).set 1 (.bool false)).set 2 (.bool false)).set 3 (.bool false)) Tryz.underlying72 rfl (by kernel_rfl)) rfl ⟨rfl, hb4⟩
  | true =>
    have e2 : Apd.clsV (k : Int) = infoV ((k : Int) % 4) ((k : Int) / 4 % 2 == 1) ((k : Int) / 16 % 2 == 1) ((k : Int) / 128 == 1) := by unfold Apd.clsV; rw [hc]; rfl
    rw [e2]
    rw [hc] at f5
    clear e2 hc
    have hB := Lib.hid (fun u => apdu_Byte ((k : Int) % 4) ((k : Int) / 4 % 2 == 1) ((k : Int) / 16 % 2 == 1) ((k : Int) / 128 == 1) u)
    unfold infoV at hB
    generalize Apd.cby ((k : Int) % 4) ((k : Int) / 4 % 2 == 1) ((k : Int) / 16 % 2 == 1) ((k : Int) / 128 == 1) = y at *
    go_enter Tryz.func32, Tryz.ntmps32
    go_wp2_with fail
    refine (hB.out _).mono ?_
    rintro e w1 ⟨rfl, hb1⟩
    obtain ⟨B1, B2, hbw⟩ := blk_of_two hb1
    have hF := Lib.hid B1
    have s0 := B2.cell 0
    have s1 := B2.cell 1
    have s2 := B2.cell 2
    have s3 := B2.cell 3
    have hbW := Lib.hid hbw
    clear B1 B2 hbw hb1
    have q0 := hF.out.cell 0
    have q1 := hF.out.cell 1
    have q2 := hF.out.cell 2
    have q3 := hF.out.cell 3
    have r0 := hF.out.frozen 0
    have r1 := hF.out.frozen 1
    have r2 := hF.out.frozen 2
    have r3 := hF.out.frozen 3
    go_wp2_with fail
    have hb4 := (((hbW.out.setCell (p := ⟨w.heap.size, 0, none⟩) (Nat.le_refl _) (.int .i64 ((k : Int) % 4))).setCell (p := ⟨w.heap.size, 1, none⟩) (Nat.le_refl _) (.bool ((k : Int) / 4 % 2 == 1))).setCell (p := ⟨w.heap.size, 2, none⟩) (Nat.le_refl _) (.bool ((k : Int) / 16 % 2 == 1))).setCell (p := ⟨w.heap.size, 3, none⟩) (Nat.le_refl _) (.bool ((k : Int) / 128 == 1))
    refine bodyPost_ret (results_row_tmp rfl _ _ w.heap.size 72 #[(.int .i64 ((k : Int) % 4)), (.bool ((k : Int) / 4 % 2 == 1)), (.bool ((k : Int) / 16 % 2 == 1)), (.bool ((k : Int) / 128 == 1))] (0, 0) _ rfl ((((hF.out.set 0 (.int .i64 ((k : Int) % 4))).set 1 (.bool ((k : Int) / 4 % 2 == 1))).set 2 (.bool ((k : Int) / 16 % 2 == 1))).set 3 (.bool ((k : Int) / 128 == 1))) Tryz.underlying72 rfl (by kernel_rfl)) rfl ⟨rfl, hb4⟩

theorem cok_no (x : Int) (h : Apd.cok x = false) : x < 0 ∨ (0 ≤ x ∧ 254 < x) ∨ (0 ≤ x ∧ x ≤ 254 ∧ x / 64 % 2 = 1) ∨ (0 ≤ x ∧ x ≤ 254 ∧ x / 64 % 2 ≠ 1 ∧ x / 32 % 2 = 1) ∨ (0 ≤ x ∧ x ≤ 254 ∧ x / 64 % 2 ≠ 1 ∧ x / 32 % 2 ≠ 1 ∧ x / 8 % 2 = 1) := by
  have := of_decide_eq_false h
  omega

set_option maxRecDepth 100000 in
set_option maxHeartbeats 2000000 in
theorem ref04_Class (x : Int) (w : World) :
    Calls Tryz.prog 45 #[.int .i64 x] w fun e w' => e = .returned (.tuple #[Apd.clsV x, .bool (Apd.cok x)]) ∧ Below w.heap.size w w' := by
  have HB := Lib.hid (fun o => (Below.refl w.heap.size w).alloc (Nat.le_refl _) o)
  have hq : ∀ (d : Int), 0 ≤ x → x.tdiv d = x / d := fun d h => Int.tdiv_eq_ediv_of_nonneg h
  have hm : ∀ (y : Int), 0 ≤ y → y.tmod 2 = y % 2 := fun y h => Int.tmod_eq_emod_of_nonneg h
  have hm4 : 0 ≤ x → x.tmod 4 = x % 4 := fun h => Int.tmod_eq_emod_of_nonneg h
  cases hc : Apd.cok x with
  | false =>
    have e2 : Apd.clsV x = infoV 0 false false false := by unfold Apd.clsV; rw [hc]; rfl
    rw [e2]
    clear e2
    rcases cok_no x hc with h0 | ⟨h0, h1⟩ | ⟨h0, h1, h2⟩ | ⟨h0, h1, h2, h3⟩ | ⟨h0, h1, h2, h3, h4⟩
    all_goals
      clear hc
      try (have g1 := hq 64 h0; have g2 := hq 32 h0; have g3 := hq 8 h0; have g4 := hm (x / 64) (by omega); have g5 := hm (x / 32) (by omega); have g6 := hm (x / 8) (by omega))
      try replace h2 := beq_eq_false_iff_ne.2 h2
      try replace h3 := beq_eq_false_iff_ne.2 h3
      clear hq hm hm4
      go_enter Tryz.func45, Tryz.ntmps45
      go_wp2_with fail
      refine bodyPost_ret (results_row_tmp rfl _ _ w.heap.size 72 _ (0, 0) _ rfl (Blk.new' _ (by simp) rfl) Tryz.underlying72 rfl (by kernel_rfl)) rfl ⟨rfl, HB.out _⟩
  | true =>
    have e2 : Apd.clsV x = infoV (x % 4) (x / 4 % 2 == 1) (x / 16 % 2 == 1) (x / 128 == 1) := by unfold Apd.clsV; rw [hc]; rfl
    rw [e2]
    clear e2
    obtain ⟨h0, h1, h2, h3, h4⟩ := of_decide_eq_true hc
    have g1 := hq 64 h0
    have g2 := hq 32 h0
    have g3 := hq 8 h0
    have g7 := hq 4 h0
    have g8 := hq 16 h0
    have g9 := hq 128 h0
    have g4 := hm (x / 64) (by omega)
    have g5 := hm (x / 32) (by omega)
    have g6 := hm (x / 8) (by omega)
    have ga := hm (x / 4) (by omega)
    have gb := hm (x / 16) (by omega)
    have gc := hm4 h0
    replace h2 := beq_eq_false_iff_ne.2 h2
    replace h3 := beq_eq_false_iff_ne.2 h3
    replace h4 := beq_eq_false_iff_ne.2 h4
    clear hq hm hm4 hc
    go_enter Tryz.func45, Tryz.ntmps45
    go_wp2_with fail
    refine bodyPost_ret (results_row_tmp rfl _ _ w.heap.size 72 _ (0, 0) _ rfl (Blk.new' _ (by simp) rfl) Tryz.underlying72 rfl (by kernel_rfl)) rfl ⟨rfl, HB.out _⟩
end Go.Proofs.YtibaibdgpnkdnaaGreatDoor
end

section
namespace Go.Proofs.YtibaibdgpnkdnaaGreatDoor
set_option maxRecDepth 100000
set_option linter.unusedSimpArgs false
set_option linter.unusedVariables false
open Go.RowKit

/-- The Le that bytes denote. -/
def Apd.exn (b : List UInt8) : Nat := if Oct.num b = 0 ∧ 0 < b.length then 256 ^ b.length else Oct.num b

theorem gt_small (b : List UInt8) (h : b.length ≤ 2) : Oct.gtN b = Oct.num b := by
  have hl : Oct.num b < 256 ^ b.length := Oct.numK_lt b b.length
  have hp : 256 ^ b.length ≤ 256 ^ 2 := Nat.pow_le_pow_right (by omega) h
  have e : Oct.gtE b = 0 := by unfold Oct.gtE; rw [if_neg (by omega), if_neg (by omega)]
  unfold Oct.gtN; rw [if_pos e]

end Go.Proofs.YtibaibdgpnkdnaaGreatDoor
end

section
namespace Go.Proofs.YtibaibdgpnkdnaaGreatDoor
set_option maxRecDepth 100000
set_option linter.unusedSimpArgs false
set_option linter.unusedVariables false
open Go.RowKit

theorem o_sl : (Tryz.prog.info? 22).map (fun i => (i.zero, i.size, i.bytes)) = some (some (.slice none 0 0), 1, 24) := by kernel_rfl

/-- What a call leaves that hands back strings of its own and an error. -/
def SRes (t t' : TypeId) (w : World) (l : List (List UInt8)) (er : Int) (e : Ending) (w' : World) : Prop :=
  ∃ (A : Option Addr) (c : Nat) (vs : List SV), e = .returned (.tuple #[.slice A l.length c, .int .i64 er]) ∧ vs.map SV.bs = l ∧ Own w' w.heap.size t' 1 A l.length c (vs.map SV.val) ∧ (∀ v ∈ vs, Own w' w.heap.size t 1 v.a v.n v.c (bcells v.bs)) ∧ Below w.heap.size w w'

/-- Slices of different types lie in different blocks. -/
theorem Own.ne {w : World} {b b' : Nat} {t t' : TypeId} {s s' : Nat} {A A' : Option Addr} {n n' c c' : Nat} {cs cs' : List Value} (h : Own w b t s A n c cs) (h' : Own w b' t' s' A' n' c' cs') (hne : t ≠ t') : c = 0 ∨ ∀ g, A.map (·.block) = some g → ownAt A' c' ≠ some g := by
  rcases Nat.eq_zero_or_pos c with h0 | h0
  · exact .inl h0
  · refine .inr fun g hg => ?_
    obtain ⟨g1, cur, rfl, _, hh, _⟩ := h.2.2.2 h0
    simp at hg
    subst hg
    unfold ownAt
    split
    · simp
    · obtain ⟨g2, cur2, rfl, _, hh2, _⟩ := h'.2.2.2 (by omega)
      intro e
      simp at e
      subst e
      rw [hh] at hh2
      injection hh2 with hh2
      injection hh2 with _ ht
      exact hne ht
theorem Byt.drop {w : World} {B b o n c : Nat} {bs : List UInt8} (h : Byt w B (some ⟨b, o, none⟩) n c bs) (k : Nat) (hk : k ≤ n) : Byt w B (some ⟨b, o + k, none⟩) (n - k) (c - k) (bs.drop k) :=
  ⟨by rw [List.length_drop, h.1], by have := h.2.1; omega, h.2.2.bdrop k⟩
theorem Byt.take {w : World} {B n c : Nat} {A : Option Addr} {bs : List UInt8} (h : Byt w B A n c bs) (k d : Nat) (hk : k ≤ n) (hd : k ≤ d) : Byt w B A k d (bs.take k) :=
  ⟨by rw [List.length_take, h.1]; omega, hd, h.2.2.btake k⟩
theorem Byt.empty {w : World} {B c : Nat} {A : Option Addr} : Byt w B A 0 c [] := ⟨rfl, Nat.zero_le _, Row.nil _ _ _⟩

end Go.Proofs.YtibaibdgpnkdnaaGreatDoor
end

section
namespace Go.Proofs.YtibaibdgpnkdnaaGreatDoor
set_option maxRecDepth 100000
set_option linter.unusedSimpArgs false
set_option linter.unusedVariables false
open Go.RowKit

theorem own_ge {w : World} {base : Nat} {t : TypeId} {s : Nat} {A : Option Addr} {n c : Nat} {cs : List Value} (h : Own w base t s A n c cs) (hn : 0 < n) {g : Nat} (hg : g < base) : ∀ g', A.map (·.block) = some g' → g' ≠ g := by
  intro g' e
  obtain ⟨g2, cur, rfl, hb, _⟩ := h.2.2.2 (by have := h.2.1; omega)
  simp at e; omega

/-- What follows the header, behind the mark of a long command. -/
def Apd.rst (b : List UInt8) (wd : Nat) (long : Bool) : Int × List UInt8 × Nat :=
  if b.length < wd then (5, [], 0)
  else if long = true ∧ b.length = wd then (0, [], Apd.exn b)
  else if Oct.num (b.take wd) = 0 then (4, [], 0)
  else if (b.drop wd).length < Oct.num (b.take wd) then (5, [], 0)
  else if (b.drop wd).length ≠ Oct.num (b.take wd) ∧ (b.drop wd).length ≠ Oct.num (b.take wd) + wd then (4, [], 0)
  else (0, (b.drop wd).take (Oct.num (b.take wd)), Apd.exn ((b.drop wd).drop (Oct.num (b.take wd))))
/-- What follows the header. -/
def Apd.bdE (b : List UInt8) : Int := if b.length ≤ 1 then 0 else if b.getD 0 0 = 0 then (Apd.rst (b.drop 1) 2 true).1 else (Apd.rst b 1 false).1
def Apd.bdD (b : List UInt8) : List UInt8 := if b.length ≤ 1 then [] else if b.getD 0 0 = 0 then (Apd.rst (b.drop 1) 2 true).2.1 else (Apd.rst b 1 false).2.1
def Apd.bdL (b : List UInt8) : Nat := if b.length ≤ 1 then (if b.length = 1 then Apd.exn b else 0) else if b.getD 0 0 = 0 then (Apd.rst (b.drop 1) 2 true).2.2 else (Apd.rst b 1 false).2.2
def Apd.bdG (b : List UInt8) : Bool := if b.length ≤ 1 then false else b.getD 0 0 == 0

def BodyRes (w : World) (g : Nat) (cla ins p1 p2 : Int) (b : List UInt8) (e : Ending) (w' : World) : Prop :=
  e = .returned (.int .i64 (Apd.bdE b)) ∧ Below g w w' ∧ (Apd.bdE b = 0 → ∃ A c, Blk w' g 28 #[I64 cla, I64 ins, I64 p1, I64 p2, .slice A (Apd.bdD b).length c, I64 (Apd.bdL b : Int), .bool (Apd.bdG b)] ∧ Own w' (g + 1) 5 1 A (Apd.bdD b).length c (bcells (Apd.bdD b)))

end Go.Proofs.YtibaibdgpnkdnaaGreatDoor
end

section
namespace Go.Proofs.YtibaibdgpnkdnaaGreatDoor
set_option maxRecDepth 100000
set_option linter.unusedSimpArgs false
set_option linter.unusedVariables false
open Go.RowKit

/-- A byte as a number. -/
def Apd.cel (b : List UInt8) (i : Nat) : Int := ((b.getD i 0).toNat : Int)
/-- The error of Decode. -/
def Apd.dcE (b : List UInt8) : Int :=
  if b.length < 4 then 5 else if Apd.bdE (b.drop 4) ≠ 0 then Apd.bdE (b.drop 4)
  else Apd.chk (Apd.cel b 0) (Apd.cel b 1) (Apd.cel b 2) (Apd.cel b 3) (Apd.bdD (b.drop 4)).length (Apd.bdL (b.drop 4) : Int) (Apd.bdG (b.drop 4))
/-- What Decode leaves. -/
def DRes (w : World) (b : List UInt8) (e : Ending) (w' : World) : Prop :=
  Below w.heap.size w w' ∧
  ((Apd.dcE b ≠ 0 ∧ e = .returned (.tuple #[cmdV 0 0 0 0 none 0 0 0 false, .int .i64 (Apd.dcE b)])) ∨
   (Apd.dcE b = 0 ∧ ∃ A c, e = .returned (.tuple #[cmdV (Apd.cel b 0) (Apd.cel b 1) (Apd.cel b 2) (Apd.cel b 3) A (Apd.bdD (b.drop 4)).length c (Apd.bdL (b.drop 4) : Int) (Apd.bdG (b.drop 4)), .int .i64 0]) ∧
     Own w' w.heap.size 5 1 A (Apd.bdD (b.drop 4)).length c (bcells (Apd.bdD (b.drop 4)))))

theorem Own.setRow_ne {w : World} {b g : Nat} {t t' : TypeId} {A : Option Addr} {n c : Nat} {cs : List Value} {old : Array Value} (h : Own w b t 1 A n c cs) (hB : Blk w g t' old) (hne : t ≠ t') (cells : Array Value) : Own (w.setRow g cells) b t 1 A n c cs :=
  ⟨h.1, h.2.1, h.2.2.1, fun hc => by
    obtain ⟨g2, cur, e, hg, hh, r⟩ := h.2.2.2 hc
    refine ⟨g2, cur, e, hg, ?_, r⟩
    have hgg : g2 ≠ g := fun e2 => by
      subst e2
      unfold Blk at hB
      rw [hh] at hB
      injection hB with hB
      injection hB with _ h2 _
      exact hne h2
    exact Blk.setRow_far hh hgg cells⟩

theorem cmd_one (cla ins p1 p2 : Int) (A : Option Addr) (n c : Nat) (le : Int) (long : Bool) : (#[I64 cla, I64 ins, I64 p1, I64 p2, .slice A n c, I64 le, .bool long] : Array Value).all (·.oneCell') = true := by simp [Value.oneCell']

end Go.Proofs.YtibaibdgpnkdnaaGreatDoor
end

section
namespace Go.Proofs.YtibaibdgpnkdnaaGreatDoor
set_option maxRecDepth 100000
set_option linter.unusedSimpArgs false
set_option linter.unusedVariables false
open Go.RowKit

/-- A command. -/
structure Apd.Cmd where
  cla : Int
  ins : Int
  p1 : Int
  p2 : Int
  d : List UInt8
  le : Int
  long : Bool
/-- A command as it lies in memory. -/
structure CV where
  cla : Int
  ins : Int
  p1 : Int
  p2 : Int
  d : SV
  le : Int
  long : Bool
def CV.cells (x : CV) : List Value := [I64 x.cla, I64 x.ins, I64 x.p1, I64 x.p2, x.d.val, I64 x.le, .bool x.long]
def CV.cmd (x : CV) : Apd.Cmd := ⟨x.cla, x.ins, x.p1, x.p2, x.d.bs, x.le, x.long⟩
def ccells (l : List CV) : List Value := l.flatMap CV.cells
theorem ccells_append (a b : List CV) : ccells (a ++ b) = ccells a ++ ccells b := by simp [ccells]
theorem ccells_one (x : CV) : ccells [x] = x.cells := by simp [ccells]
theorem length_ccells (l : List CV) : (ccells l).length = 7 * l.length := by
  induction l with
  | nil => rfl
  | cons x l ih =>
    rw [show x :: l = [x] ++ l from rfl, ccells_append, List.length_append, ih, ccells_one, List.length_append]
    show 7 + _ = _
    simp; omega
theorem CV.ones (x : CV) : ∀ u ∈ x.cells, u.oneCell' = true := by
  intro u hu
  simp only [CV.cells, SV.val, List.mem_cons, List.not_mem_nil, or_false] at hu
  rcases hu with rfl | rfl | rfl | rfl | rfl | rfl | rfl <;> simp [Value.oneCell']
/-- A slice of commands. -/
def Cmds (w : World) (B : Nat) (A : Option Addr) (vs : List CV) : Prop := Row w B A (ccells vs) ∧ ∀ v ∈ vs, Byt w B v.d.a v.d.n v.d.c v.d.bs
theorem Cmds.below {w w' : World} {B : Nat} {A : Option Addr} {vs : List CV} (h : Cmds w B A vs) (hb : Below B w w') : Cmds w' B A vs := ⟨h.1.below hb, fun v hv => (h.2 v hv).below hb⟩
theorem Cmds.more {w : World} {B B' : Nat} {A : Option Addr} {vs : List CV} (h : Cmds w B A vs) (hB : B ≤ B') : Cmds w B' A vs := ⟨h.1.more hB, fun v hv => (h.2 v hv).more hB⟩
/-- What Chain leaves. -/
def ChRes (w : World) (l : List Apd.Cmd) (er : Int) (e : Ending) (w' : World) : Prop :=
  ∃ (A : Option Addr) (c : Nat) (vs : List CV), e = .returned (.tuple #[.slice A l.length c, .int .i64 er]) ∧ vs.map CV.cmd = l ∧ Cmds w' w'.heap.size A vs ∧ Below w.heap.size w w'

/-- The error of Chain. -/
def Apd.chE (x : Apd.Cmd) (n : Int) : Int :=
  if Apd.chk x.cla x.ins x.p1 x.p2 x.d.length x.le x.long ≠ 0 then Apd.chk x.cla x.ins x.p1 x.p2 x.d.length x.le x.long
  else if n < 1 ∨ 255 < n then 1 else if ¬ (Apd.cok x.cla = true ∧ x.cla / 16 % 2 ≠ 1) then 4 else 0
def Apd.pcs (x : Apd.Cmd) (m : Nat) : List (List UInt8) := if x.d.length ≤ m then [x.d] else Oct.split x.d m
def Apd.mid (x : Apd.Cmd) (b : List UInt8) : Apd.Cmd := ⟨x.cla + 16, x.ins, x.p1, x.p2, b, 0, false⟩
def Apd.fin (x : Apd.Cmd) (b : List UInt8) : Apd.Cmd := ⟨x.cla, x.ins, x.p1, x.p2, b, x.le, x.long⟩
/-- The commands of a chain with these pieces of data. -/
def Apd.lst (x : Apd.Cmd) : List (List UInt8) → List Apd.Cmd
  | [] => []
  | [b] => [Apd.fin x b]
  | b :: c :: l => Apd.mid x b :: Apd.lst x (c :: l)
def Apd.chL (x : Apd.Cmd) (n : Int) : List Apd.Cmd := if Apd.chE x n = 0 then Apd.lst x (Apd.pcs x n.toNat) else []
theorem Apd.lst_snoc (x : Apd.Cmd) (l : List (List UInt8)) (b : List UInt8) : Apd.lst x (l ++ [b]) = l.map (Apd.mid x) ++ [Apd.fin x b] := by
  induction l with
  | nil => rfl
  | cons a l ih =>
    cases l with
    | nil => rfl
    | cons a2 l2 => rw [List.cons_append, List.cons_append, Apd.lst, ← List.cons_append, ih]; rfl

theorem own_cell_ne {w : World} {b g : Nat} {t t' : TypeId} {A : Option Addr} {n c : Nat} {cs : List Value} {old : Array Value} (h : Own w b t 1 A n c cs) (hB : Blk w g t' old) (hne : t ≠ t') (i : Nat) (v : Value) : Own (w.setCell ⟨g, i, none⟩ v) b t 1 A n c cs :=
  ⟨h.1, h.2.1, h.2.2.1, fun hc => by
    obtain ⟨g2, cur, e, hg, hh, r⟩ := h.2.2.2 hc
    refine ⟨g2, cur, e, hg, ?_, r⟩
    have hgg : g2 ≠ g := fun e2 => by
      subst e2
      unfold Blk at hB
      rw [hh] at hB
      injection hB with hB
      injection hB with _ h2 _
      exact hne h2
    exact Blk.far hh hgg v⟩

end Go.Proofs.YtibaibdgpnkdnaaGreatDoor
end
