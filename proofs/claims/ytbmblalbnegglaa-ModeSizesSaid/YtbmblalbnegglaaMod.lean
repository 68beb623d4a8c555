/-
  The modes of the cipher in plain mathematics. Nothing here names a program.
-/
import Derived.Test.YtbmblalbnegglaaCip
import Derived.Test.YtbmblalbnegglaaOctP
namespace Go.Proofs.Ytbmblalbnegglaa.Mod
open Go.Proofs.Ytbmblalbnegglaa

/-- The i-th block. -/
def blk (d : List UInt8) (i : Nat) : List UInt8 := (d.drop (8 * i)).take 8
theorem blk_length (d : List UInt8) (i : Nat) (h : 8 * i + 8 ≤ d.length) : (blk d i).length = 8 := by simp [blk]; omega
theorem xor_length (a b : List UInt8) : (Oct.xor a b).length = a.length := by simp [Oct.xor]
theorem crypt_length (key x : List UInt8) (back : Bool) : (Cip.crypt key x back).length = 8 := rfl

/-- Encryption: what is written after k blocks, and the chaining value. -/
def eSt (key iv d : List UInt8) (k : Nat) : List UInt8 × List UInt8 :=
  (List.range k).foldl (fun s i => (s.1 ++ Cip.crypt key (Oct.xor (blk d i) s.2) false, Cip.crypt key (Oct.xor (blk d i) s.2) false)) ([], iv)
theorem eSt_succ (key iv d : List UInt8) (k : Nat) : eSt key iv d (k + 1) =
    ((eSt key iv d k).1 ++ Cip.crypt key (Oct.xor (blk d k) (eSt key iv d k).2) false, Cip.crypt key (Oct.xor (blk d k) (eSt key iv d k).2) false) := by
  simp [eSt, List.range_succ]
theorem eSt_length (key iv d : List UInt8) (k : Nat) : (eSt key iv d k).1.length = 8 * k := by
  induction k with
  | zero => rfl
  | succ k ih => rw [eSt_succ]; simp only [List.length_append, ih, crypt_length]; omega
theorem eSt_y (key iv d : List UInt8) (k : Nat) (h : iv.length = 8) : (eSt key iv d k).2.length = 8 := by
  cases k with
  | zero => exact h
  | succ k => rw [eSt_succ]; rfl
/-- Decryption. -/
def dSt (key iv d : List UInt8) (k : Nat) : List UInt8 × List UInt8 :=
  (List.range k).foldl (fun s i => (s.1 ++ Oct.xor (Cip.crypt key (blk d i) true) s.2, blk d i)) ([], iv)
theorem dSt_succ (key iv d : List UInt8) (k : Nat) : dSt key iv d (k + 1) = ((dSt key iv d k).1 ++ Oct.xor (Cip.crypt key (blk d k) true) (dSt key iv d k).2, blk d k) := by
  simp [dSt, List.range_succ]
theorem dSt_nil (key iv d : List UInt8) : dSt key iv d 0 = ([], iv) := rfl
theorem eSt_nil (key iv d : List UInt8) : eSt key iv d 0 = ([], iv) := rfl
theorem dSt_length (key iv d : List UInt8) (k : Nat) : (dSt key iv d k).1.length = 8 * k := by
  induction k with
  | zero => rfl
  | succ k ih => rw [dSt_succ]; simp only [List.length_append, ih, xor_length, crypt_length]; omega
theorem dSt_y (key iv d : List UInt8) (k : Nat) (h : iv.length = 8) (hk : 8 * k ≤ d.length) : (dSt key iv d k).2.length = 8 := by
  cases k with
  | zero => exact h
  | succ k => rw [dSt_succ]; exact blk_length d k (by omega)
def ok (key iv d : List UInt8) : Bool := key.length == 16 && iv.length == 8 && d.length % 8 == 0
def cbE (key iv d : List UInt8) : Int := if ok key iv d then 0 else 1
def cbB (key iv d : List UInt8) (back : Bool) : List UInt8 := if ok key iv d then (if back then (dSt key iv d (d.length / 8)).1 else (eSt key iv d (d.length / 8)).1) else []
theorem ok_iff (key iv d : List UInt8) : ok key iv d = true ↔ key.length = 16 ∧ iv.length = 8 ∧ d.length % 8 = 0 := by
  simp only [ok, Bool.and_eq_true, beq_iff_eq, and_assoc]
theorem cb_ok (key iv d : List UInt8) (back : Bool) (h1 : key.length = 16) (h2 : iv.length = 8) (h3 : d.length % 8 = 0) :
    cbE key iv d = 0 ∧ cbB key iv d back = if back then (dSt key iv d (d.length / 8)).1 else (eSt key iv d (d.length / 8)).1 := by
  have h : ok key iv d = true := (ok_iff _ _ _).2 ⟨h1, h2, h3⟩
  unfold cbE cbB; rw [if_pos h, if_pos h]; exact ⟨rfl, rfl⟩
theorem cb_bad (key iv d : List UInt8) (back : Bool) (h : ¬ (key.length = 16 ∧ iv.length = 8 ∧ d.length % 8 = 0)) : cbE key iv d = 1 ∧ cbB key iv d back = [] := by
  have h : ok key iv d = false := by
    cases e : ok key iv d with
    | false => rfl
    | true => exact absurd ((ok_iff _ _ _).1 e) h
  unfold cbE cbB; rw [h]; exact ⟨rfl, rfl⟩
theorem cbB_length (key iv d : List UInt8) (back : Bool) (h : ok key iv d = true) : (cbB key iv d back).length = d.length := by
  have hh := (ok_iff _ _ _).1 h
  unfold cbB
  rw [if_pos h]
  cases back
  · simp only [Bool.false_eq_true, if_false, eSt_length]; omega
  · simp only [if_true, dSt_length]; omega
theorem cbB_le (key iv d : List UInt8) (back : Bool) : (cbB key iv d back).length ≤ d.length := by
  cases h : ok key iv d with
  | false => unfold cbB; rw [h]; simp
  | true => rw [cbB_length _ _ _ _ h]; exact Nat.le_refl _
/-- A block of what is written. -/
theorem append_blk (a b : List UInt8) (i : Nat) (h : 8 * i + 8 ≤ a.length) : blk (a ++ b) i = blk a i := by
  unfold blk
  rw [List.drop_append_of_le_length (by omega), List.take_append_of_le_length (by rw [List.length_drop]; omega)]
theorem append_blk_last (a b : List UInt8) (i : Nat) (h : a.length = 8 * i) (hb : b.length = 8) : blk (a ++ b) i = b := by
  unfold blk
  rw [← h, List.drop_left, List.take_of_length_le (by omega)]
theorem blk_ext (a b : List UInt8) (m : Nat) (ha : a.length = 8 * m) (hb : b.length = 8 * m) (h : ∀ i, i < m → blk a i = blk b i) : a = b := by
  apply List.ext_getElem
  · omega
  · intro j h1 h2
    have hi := h (j / 8) (by omega)
    have := congrArg (fun l => l[j % 8]?) hi
    simp only [blk, List.getElem?_take, List.getElem?_drop] at this
    rw [if_pos (by omega), if_pos (by omega), show 8 * (j / 8) + j % 8 = j by omega, List.getElem?_eq_getElem h1, List.getElem?_eq_getElem h2] at this
    simpa using this
theorem eSt_blk (key iv d : List UInt8) (k i : Nat) (h : i < k) : blk (eSt key iv d k).1 i = (eSt key iv d (i + 1)).2 := by
  induction k with
  | zero => omega
  | succ k ih =>
    rw [eSt_succ key iv d k]
    by_cases e : i = k
    · subst e
      rw [append_blk_last _ _ _ (eSt_length _ _ _ _) rfl, eSt_succ]
    · rw [append_blk _ _ _ (by rw [eSt_length]; omega)]; exact ih (by omega)
theorem dSt_blk (key iv d : List UInt8) (k i : Nat) (h : i < k) : blk (dSt key iv d k).1 i = Oct.xor (Cip.crypt key (blk d i) true) (if i = 0 then iv else blk d (i - 1)) := by
  induction k with
  | zero => omega
  | succ k ih =>
    rw [dSt_succ key iv d k]
    by_cases e : i = k
    · subst e
      rw [append_blk_last _ _ _ (dSt_length _ _ _ _) (by rw [xor_length]; rfl)]
      congr 1
      cases i with
      | zero => rfl
      | succ i => rw [dSt_succ]; rfl
    · rw [append_blk _ _ _ (by rw [dSt_length]; omega)]; exact ih (by omega)
theorem dec_block (key x y : List UInt8) (hx : (Oct.xor x y).length = 8) : Oct.xor (Cip.crypt key (Cip.crypt key (Oct.xor x y) false) true) y = x := by
  have h : Cip.crypt key (Cip.crypt key (Oct.xor x y) false) true = Oct.xor x y := Cip.crypt_back key (Oct.xor x y) false hx
  rw [h]
  exact Oct.xor_back x y
theorem enc_block (key x y : List UInt8) (hx : x.length = 8) : Cip.crypt key (Oct.xor (Oct.xor (Cip.crypt key x true) y) y) false = x := by
  rw [Oct.xor_back]
  have h : Cip.crypt key (Cip.crypt key x true) false = x := Cip.crypt_back key x true hx
  exact h
/-- Decryption inverts encryption. -/
theorem dec_enc (key iv d : List UInt8) (m : Nat) (hd : d.length = 8 * m) : (dSt key iv (eSt key iv d m).1 m).1 = d := by
  refine blk_ext _ _ m (dSt_length _ _ _ _) hd fun i hi => ?_
  rw [dSt_blk _ _ _ _ _ hi, eSt_blk _ _ _ _ _ hi, eSt_succ]
  have hp : (if i = 0 then iv else blk (eSt key iv d m).1 (i - 1)) = (eSt key iv d i).2 := by
    cases i with
    | zero => rfl
    | succ i => rw [if_neg (by omega), Nat.add_sub_cancel, eSt_blk _ _ _ _ _ (by omega)]
  rw [hp]
  have hx : (Oct.xor (blk d i) (eSt key iv d i).2).length = 8 := by rw [xor_length]; exact blk_length d i (by omega)
  generalize (eSt key iv d i).2 = y at hx ⊢
  exact dec_block key (blk d i) y hx
theorem dSt_y_eq (key iv d : List UInt8) (i : Nat) : (dSt key iv d i).2 = if i = 0 then iv else blk d (i - 1) := by
  cases i with
  | zero => rfl
  | succ i => rw [dSt_succ]; rfl
/-- Encryption inverts decryption. -/
theorem enc_dec_aux (key iv d : List UInt8) (m : Nat) (hd : d.length = 8 * m) (hv : iv.length = 8) : ∀ i, i ≤ m → (eSt key iv (dSt key iv d m).1 i).2 = (if i = 0 then iv else blk d (i - 1))
  | 0, _ => rfl
  | i + 1, hi => by
    rw [eSt_succ, if_neg (by omega), Nat.add_sub_cancel, enc_dec_aux key iv d m hd hv i (by omega), dSt_blk _ _ _ _ _ (by omega)]
    have hb : (blk d i).length = 8 := blk_length d i (by omega)
    generalize (if i = 0 then iv else blk d (i - 1)) = y
    generalize blk d i = x at hb ⊢
    exact enc_block key x y hb
theorem enc_dec (key iv d : List UInt8) (m : Nat) (hd : d.length = 8 * m) (hv : iv.length = 8) : (eSt key iv (dSt key iv d m).1 m).1 = d := by
  refine blk_ext _ _ m (eSt_length _ _ _ _) hd fun i hi => ?_
  rw [eSt_blk _ _ _ _ _ hi, enc_dec_aux key iv d m hd hv (i + 1) (by omega), if_neg (by omega), Nat.add_sub_cancel]
/-- Two strings of blocks, one after the other. -/
theorem eSt_append (key iv x y : List UInt8) (m k : Nat) (hx : x.length = 8 * m) : eSt key iv (x ++ y) (m + k) = ((eSt key iv x m).1 ++ (eSt key (eSt key iv x m).2 y k).1, (eSt key (eSt key iv x m).2 y k).2) := by
  induction k with
  | zero =>
    have : ∀ j, j ≤ m → eSt key iv (x ++ y) j = eSt key iv x j := by
      intro j hj
      induction j with
      | zero => simp [eSt]
      | succ j ih => rw [eSt_succ, eSt_succ, ih (by omega), append_blk _ _ _ (by omega)]
    rw [Nat.add_zero, this m (Nat.le_refl _)]
    simp [eSt]
  | succ k ih =>
    have hb : blk (x ++ y) (m + k) = blk y k := by
      unfold blk
      rw [show 8 * (m + k) = x.length + 8 * k by omega, List.drop_append, List.drop_eq_nil_of_le (by omega), List.nil_append, Nat.add_sub_cancel_left]
    rw [← Nat.add_assoc, eSt_succ, ih, eSt_succ, hb]
    simp [List.append_assoc]
theorem eSt_last (key iv x : List UInt8) (m : Nat) (hm : 0 < m) : (eSt key iv x m).1.drop (8 * m - 8) = (eSt key iv x m).2 := by
  obtain ⟨k, rfl⟩ : ∃ k, m = k + 1 := ⟨m - 1, by omega⟩
  rw [eSt_succ, show 8 * (k + 1) - 8 = (eSt key iv x k).1.length by rw [eSt_length]; omega, List.drop_left]

/-- The MAC. -/
def mcE (key iv : List UInt8) : Int := if key.length = 16 ∧ iv.length = 8 then 0 else 1
def mcB (key iv d : List UInt8) : List UInt8 := if key.length = 16 ∧ iv.length = 8 then (eSt key iv (Oct.pad d 8) ((Oct.pad d 8).length / 8)).2 else []
theorem mcB_length (key iv d : List UInt8) (h : key.length = 16 ∧ iv.length = 8) : (mcB key iv d).length = 8 := by
  unfold mcB; rw [if_pos h]; exact eSt_y _ _ _ _ h.2
theorem mc_cb (key iv d : List UInt8) : cbE key iv (Oct.pad d 8) = mcE key iv ∧ (mcE key iv = 0 → mcB key iv d = (cbB key iv (Oct.pad d 8) false).drop ((Oct.pad d 8).length - 8) ∧ (cbB key iv (Oct.pad d 8) false).length = (Oct.pad d 8).length ∧ 8 ≤ (Oct.pad d 8).length) := by
  have hm := Oct.pad_mod d 8 (by omega)
  have hl := Oct.pad_length d 8
  by_cases h : key.length = 16 ∧ iv.length = 8
  · obtain ⟨e1, e2⟩ := cb_ok key iv (Oct.pad d 8) false h.1 h.2 hm
    refine ⟨by rw [e1]; unfold mcE; rw [if_pos h], fun _ => ?_⟩
    rw [e2]
    simp only [Bool.false_eq_true, if_false]
    refine ⟨?_, by rw [eSt_length]; omega, by omega⟩
    unfold mcB
    rw [if_pos h, ← eSt_last key iv (Oct.pad d 8) ((Oct.pad d 8).length / 8) (by omega)]
    congr 1
    omega
  · have e1 := (cb_bad key iv (Oct.pad d 8) false (fun hh => h ⟨hh.1, hh.2.1⟩)).1
    refine ⟨by rw [e1]; unfold mcE; rw [if_neg h], fun h0 => ?_⟩
    unfold mcE at h0; rw [if_neg h] at h0; cases h0
/-- The derived key. -/
def z8 : List UInt8 := List.replicate 8 0
def drB (key label : List UInt8) : List UInt8 := if key.length = 16 then mcB key z8 (1 :: label) ++ mcB key z8 (2 :: label) else []
def drE (key : List UInt8) : Int := if key.length = 16 then 0 else 1
def ckB (key : List UInt8) : List UInt8 := if key.length = 16 then (Cip.crypt key z8 false).take 3 else []

/-- The hash value. -/
def inv (x : List UInt8) : List UInt8 := x.map fun b => 255 - b
def hStep (h x : List UInt8) : List UInt8 := Oct.xor (Cip.crypt h x false) (h.take 8) ++ Oct.xor (Cip.crypt h (inv x) false) (h.drop 8)
theorem hStep_length (h x : List UInt8) : (hStep h x).length = 16 := by simp [hStep, xor_length, crypt_length]
def z16 : List UInt8 := List.replicate 16 0
def hK (b : List UInt8) (k : Nat) : List UInt8 := (List.range k).foldl (fun h i => hStep h (blk b i)) z16
theorem hK_succ (b : List UInt8) (k : Nat) : hK b (k + 1) = hStep (hK b k) (blk b k) := by simp [hK, List.range_succ]
theorem hK_length (b : List UInt8) (k : Nat) : (hK b k).length = 16 := by
  cases k with
  | zero => rfl
  | succ k => rw [hK_succ]; exact hStep_length _ _
def hbl (d : List UInt8) : List UInt8 := Oct.pad d 8 ++ Oct.putB d.length 8
theorem hbl_length (d : List UInt8) : (hbl d).length % 8 = 0 := by
  unfold hbl
  rw [List.length_append, Oct.putB_length]
  have := Oct.pad_mod d 8 (by omega)
  omega
def hash (d : List UInt8) : List UInt8 := hK (hbl d) ((hbl d).length / 8)
theorem split_blk (b : List UInt8) (m : Nat) (h : b.length = 8 * m) : Oct.split b 8 = (List.range m).map fun i => blk b i := by
  induction m generalizing b with
  | zero =>
    have : b = [] := List.eq_nil_of_length_eq_zero (by omega)
    subst this; rfl
  | succ m ih =>
    rw [Oct.split_cons b 8 (by omega) (by omega), ih (b.drop 8) (by rw [List.length_drop]; omega), List.range_succ_eq_map, List.map_cons, List.map_map]
    congr 1
    refine List.map_congr_left fun i _ => ?_
    simp only [Function.comp_apply, blk, List.drop_drop]
    congr 2
    omega
end Go.Proofs.Ytbmblalbnegglaa.Mod
