/-
  Strings of bytes in plain mathematics: digits, padding, numbers, pieces. Nothing here names a program.
-/
namespace Go.Proofs.Ytapfiapjefnjjaa.Oct

/-- The digit of a number below 16. -/
def dg (n : Nat) : UInt8 := if n < 10 then UInt8.ofNat (48 + n) else UInt8.ofNat (87 + n)
def hexS (b : List UInt8) : List UInt8 := b.flatMap fun x => [dg (x.toNat / 16), dg (x.toNat % 16)]
/-- The value of a digit, or -1. -/
def dv (c : Nat) : Int := if 48 ≤ c ∧ c ≤ 57 then (c : Int) - 48 else if 97 ≤ c ∧ c ≤ 102 then (c : Int) - 87 else if 65 ≤ c ∧ c ≤ 70 then (c : Int) - 55 else -1
theorem dv_bd (c : Nat) : -1 ≤ dv c ∧ dv c ≤ 15 := by unfold dv; repeat' split
                                                      all_goals omega
theorem dv_high (c : Nat) (h : 128 ≤ c) : dv c = -1 := by
  unfold dv; rw [if_neg (by omega), if_neg (by omega), if_neg (by omega)]
theorem dv_dg : ∀ n, n < 16 → dv (dg n).toNat = n := by decide +kernel
def isD (c : UInt8) : Bool := decide (0 ≤ dv c.toNat)
def dn (c : UInt8) : Nat := (dv c.toNat).toNat
theorem dn_lt (c : UInt8) : dn c < 16 := by have := dv_bd c.toNat; unfold dn; omega
/-- The bytes of pairs of digits. -/
def prs : List UInt8 → List UInt8
  | a :: b :: r => UInt8.ofNat (dn a * 16 + dn b) :: prs r
  | _ => []
def prOk (s : List UInt8) : Bool := s.length % 2 == 0 && s.all isD
def prE (s : List UInt8) : Int := if prOk s then 0 else 4
def prB (s : List UInt8) : List UInt8 := if prOk s then prs s else []
theorem prs_length : ∀ s : List UInt8, (prs s).length = s.length / 2
  | [] => rfl
  | [_] => by simp [prs]
  | a :: b :: r => by simp only [prs, List.length_cons]; rw [prs_length r]; omega
theorem prs_get : ∀ (s : List UInt8) (j : Nat), 2 * j + 1 < s.length → (prs s).getD j 0 = UInt8.ofNat (dn (s.getD (2 * j) 0) * 16 + dn (s.getD (2 * j + 1) 0))
  | [], j, h => by simp at h
  | [_], j, h => by simp at h
  | a :: b :: r, 0, _ => by simp [prs]
  | a :: b :: r, j + 1, h => by
    have := prs_get r j (by simp only [List.length_cons] at h; omega)
    simp only [prs, List.getD_cons_succ, show 2 * (j + 1) = 2 * j + 1 + 1 by omega]
    exact this
theorem hexS_length (b : List UInt8) : (hexS b).length = 2 * b.length := by
  induction b with
  | nil => rfl
  | cons x b ih => simp only [hexS, List.flatMap_cons, List.length_append, List.length_cons, List.length_nil] at *; omega
theorem hexS_ok (b : List UInt8) : prOk (hexS b) = true := by
  unfold prOk
  rw [hexS_length]
  simp only [Nat.mul_mod_right, beq_self_eq_true, Bool.true_and]
  rw [List.all_eq_true]
  intro c hc
  obtain ⟨x, _, hx⟩ := List.mem_flatMap.1 hc
  have hx256 := x.toNat_lt
  have : c = dg (x.toNat / 16) ∨ c = dg (x.toNat % 16) := by simpa using hx
  rcases this with rfl | rfl
  · unfold isD; rw [dv_dg _ (by omega)]; simp; omega
  · unfold isD; rw [dv_dg _ (by omega)]; simp; omega
theorem prs_hexS (b : List UInt8) : prs (hexS b) = b := by
  induction b with
  | nil => rfl
  | cons x b ih =>
    have hx := x.toNat_lt
    simp only [hexS, List.flatMap_cons, List.cons_append, List.nil_append, prs] at *
    rw [ih]
    congr 1
    unfold dn
    rw [dv_dg _ (by omega), dv_dg _ (by omega)]
    apply UInt8.toNat_inj.1
    rw [UInt8.toNat_ofNat']
    simp only [Int.toNat_natCast]
    omega
theorem hexS_take (b : List UInt8) (k : Nat) (h : k < b.length) : hexS (b.take (k + 1)) = hexS (b.take k) ++ [dg ((b.getD k 0).toNat / 16), dg ((b.getD k 0).toNat % 16)] := by
  rw [List.take_succ_eq_append_getElem h]
  simp only [hexS, List.flatMap_append, List.flatMap_cons, List.flatMap_nil, List.append_nil, List.getD, List.getElem?_eq_getElem h, Option.getD_some]

/-- Padding: the byte 80 and as few zeros as are necessary. -/
def padN (len n : Nat) : Nat := if (len + 1) % n = 0 then 0 else n - (len + 1) % n
def pad (b : List UInt8) (n : Nat) : List UInt8 := b ++ [0x80] ++ List.replicate (padN b.length n) 0
def padOk (n : Int) : Bool := decide (1 ≤ n) && decide (n ≤ 65536)
def padE (n : Int) : Int := if padOk n then 0 else 1
def padB (b : List UInt8) (n : Int) : List UInt8 := if padOk n then pad b n.toNat else []
def unpR : List UInt8 → Option (List UInt8)
  | [] => none
  | x :: r => if x = 0 then unpR r else if x = 0x80 then some r.reverse else none
def unp (b : List UInt8) : Option (List UInt8) := unpR b.reverse
def unpE (b : List UInt8) : Int := if (unp b).isSome then 0 else 4
def unpB (b : List UInt8) : List UInt8 := (unp b).getD []
theorem unp_snoc (l : List UInt8) (x : UInt8) : unp (l ++ [x]) = if x = 0 then unp l else if x = 0x80 then some l else none := by
  simp only [unp, List.reverse_append, List.reverse_cons, List.reverse_nil, List.nil_append, List.cons_append, unpR, List.reverse_reverse]
theorem unp_take (b : List UInt8) (k : Nat) (h : k < b.length) : unp (b.take (k + 1)) = if b.getD k 0 = 0 then unp (b.take k) else if b.getD k 0 = 0x80 then some (b.take k) else none := by
  rw [List.take_succ_eq_append_getElem h, unp_snoc]
  simp only [List.getD, List.getElem?_eq_getElem h, Option.getD_some]
theorem unp_pad (b : List UInt8) (n : Nat) : unp (pad b n) = some b := by
  unfold pad
  generalize padN b.length n = m
  induction m with
  | zero => rw [List.replicate_zero, List.append_nil, unp_snoc, if_neg (by decide), if_pos rfl]
  | succ m ih => rw [List.replicate_succ', ← List.append_assoc, unp_snoc, if_pos rfl]; exact ih
theorem padN_lt (len n : Nat) (h : 1 ≤ n) : padN len n < n := by
  unfold padN
  have := Nat.mod_lt (len + 1) (show 0 < n by omega)
  split <;> omega
theorem pad_length (b : List UInt8) (n : Nat) : (pad b n).length = b.length + 1 + padN b.length n := by simp [pad]; omega
theorem pad_mod (b : List UInt8) (n : Nat) (h : 1 ≤ n) : (pad b n).length % n = 0 := by
  rw [pad_length]
  unfold padN
  split
  · omega
  · have h1 := Nat.mod_lt (b.length + 1) (show 0 < n by omega)
    have h2 : b.length + 1 + (n - (b.length + 1) % n) = n * ((b.length + 1) / n) + n := by have := Nat.div_add_mod (b.length + 1) n; omega
    rw [h2]
    simp

/-- A number as bytes, the most significant one first. -/
def putB (n width : Nat) : List UInt8 := (List.range width).map fun j => UInt8.ofNat (n / 256 ^ (width - 1 - j))
def numK (b : List UInt8) (k : Nat) : Nat := (List.range k).foldl (fun n i => n * 256 + (b.getD i 0).toNat) 0
def num (b : List UInt8) : Nat := numK b b.length
theorem numK_succ (b : List UInt8) (k : Nat) : numK b (k + 1) = numK b k * 256 + (b.getD k 0).toNat := by simp [numK, List.range_succ]
theorem numK_lt (b : List UInt8) (k : Nat) : numK b k < 256 ^ k := by
  induction k with
  | zero => simp [numK]
  | succ k ih => rw [numK_succ, Nat.pow_succ]; have := (b.getD k 0).toNat_lt; omega
/-- The errors of Put, and its bytes. -/
def ptE (n width : Int) : Int := if width < 1 ∨ 8 < width then 1 else if n < 0 ∨ (256 : Int) ^ width.toNat ≤ n then 2 else 0
def ptB (n width : Int) : List UInt8 := if ptE n width = 0 then putB n.toNat width.toNat else []
def gtE (b : List UInt8) : Int := if 8 < b.length then 3 else if 9223372036854775808 ≤ num b then 2 else 0
def gtN (b : List UInt8) : Nat := if gtE b = 0 then num b else 0
theorem putB_length (n width : Nat) : (putB n width).length = width := by simp [putB]
theorem putB_get (n width j : Nat) (h : j < width) : (putB n width).getD j 0 = UInt8.ofNat (n / 256 ^ (width - 1 - j)) := by
  unfold putB
  rw [List.getD, List.getElem?_eq_getElem (by simpa using h)]; simp
theorem numK_putB (n width k : Nat) (h : k ≤ width) : numK (putB n width) k = n % 256 ^ width / 256 ^ (width - k) := by
  induction k with
  | zero => rw [Nat.sub_zero, Nat.div_eq_of_lt (Nat.mod_lt _ (Nat.pow_pos (by omega)))]; rfl
  | succ k ih =>
    rw [numK_succ, ih (by omega), putB_get n width k (by omega)]
    rw [UInt8.toNat_ofNat']
    have e1 : 256 ^ (width - k) = 256 ^ (width - (k + 1)) * 256 := by rw [show width - k = width - (k + 1) + 1 by omega, Nat.pow_succ]
    have e2 : width - 1 - k = width - (k + 1) := by omega
    have e3 : 256 ^ width = 256 ^ (width - (k + 1)) * 256 * 256 ^ k := by rw [← e1, ← Nat.pow_add]; congr 1; omega
    rw [e1, e2, ← Nat.div_div_eq_div_mul]
    have e4 : n / 256 ^ (width - (k + 1)) % 256 = n % 256 ^ width / 256 ^ (width - (k + 1)) % 256 := by
      generalize hq : 256 ^ (width - (k + 1)) = q at *
      have hd : n % 256 ^ width = n % (q * (256 * 256 ^ k)) := by rw [e3, Nat.mul_assoc]
      rw [hd, Nat.mod_mul_right_div_self, Nat.mod_mul_right_mod]
    rw [show 2 ^ 8 = 256 from rfl, e4]
    omega
theorem num_putB (n width : Nat) (h : n < 256 ^ width) : num (putB n width) = n := by
  unfold num
  rw [putB_length, numK_putB n width width (Nat.le_refl _), Nat.sub_self, Nat.pow_zero, Nat.div_one, Nat.mod_eq_of_lt h]

/-- The pieces of n bytes, the last of which may be shorter. -/
def pieces (n : Nat) : Nat → List UInt8 → List (List UInt8)
  | 0, _ => []
  | f + 1, b => if b = [] then [] else b.take n :: pieces n f (b.drop n)
def split (b : List UInt8) (n : Nat) : List (List UInt8) := pieces n b.length b
theorem pieces_fuel (n : Nat) (hn : 1 ≤ n) : ∀ (f g : Nat) (b : List UInt8), b.length ≤ f → b.length ≤ g → pieces n f b = pieces n g b
  | 0, g, b, hf, _ => by
    have : b = [] := List.eq_nil_of_length_eq_zero (by omega)
    subst this
    cases g <;> simp [pieces]
  | f + 1, 0, b, _, hg => by
    have : b = [] := List.eq_nil_of_length_eq_zero (by omega)
    subst this
    simp [pieces]
  | f + 1, g + 1, b, hf, hg => by
    simp only [pieces]
    split
    · rfl
    · rename_i hb
      have h0 : 0 < b.length := List.length_pos_iff.2 hb
      rw [pieces_fuel n hn f g (b.drop n) (by rw [List.length_drop]; omega) (by rw [List.length_drop]; omega)]
theorem split_nil (n : Nat) : split [] n = [] := rfl
theorem split_cons (b : List UInt8) (n : Nat) (hn : 1 ≤ n) (hb : 0 < b.length) : split b n = b.take n :: split (b.drop n) n := by
  unfold split
  obtain ⟨f, hf⟩ : ∃ f, b.length = f + 1 := ⟨b.length - 1, by omega⟩
  rw [hf]
  simp only [pieces]
  rw [if_neg (by intro e; subst e; simp at hb)]
  congr 1
  exact pieces_fuel n hn _ _ _ (by rw [List.length_drop]; omega) (Nat.le_refl _)
theorem split_flat (n : Nat) (hn : 1 ≤ n) : ∀ (m : Nat) (b : List UInt8), b.length ≤ m → (split b n).flatten = b
  | 0, b, h => by
    have : b = [] := List.eq_nil_of_length_eq_zero (by omega)
    subst this; rfl
  | m + 1, b, h => by
    rcases Nat.eq_zero_or_pos b.length with h0 | h0
    · have : b = [] := List.eq_nil_of_length_eq_zero h0
      subst this; rfl
    · rw [split_cons b n hn h0, List.flatten_cons, split_flat n hn m (b.drop n) (by rw [List.length_drop]; omega), List.take_append_drop]
theorem split_length_le (n : Nat) (hn : 1 ≤ n) : ∀ (m : Nat) (b : List UInt8), b.length ≤ m → (split b n).length ≤ b.length
  | 0, b, h => by
    have : b = [] := List.eq_nil_of_length_eq_zero (by omega)
    subst this; exact Nat.le_refl _
  | m + 1, b, h => by
    rcases Nat.eq_zero_or_pos b.length with h0 | h0
    · have : b = [] := List.eq_nil_of_length_eq_zero h0
      subst this; exact Nat.le_refl _
    · have := split_length_le n hn m (b.drop n) (by rw [List.length_drop]; omega)
      rw [split_cons b n hn h0, List.length_cons]
      rw [List.length_drop] at this
      omega
def spE (n : Int) : Int := if n < 1 then 1 else 0
def spB (b : List UInt8) (n : Int) : List (List UInt8) := if n < 1 then [] else split b n.toNat
def xor (a b : List UInt8) : List UInt8 := (List.range a.length).map fun i => a.getD i 0 ^^^ b.getD i 0
theorem xor_back (a b : List UInt8) : xor (xor a b) b = a := by
  apply List.ext_getElem
  · simp [xor]
  · intro i h1 h2
    have h3 : i < (xor a b).length := by simpa [xor] using h2
    simp only [xor, List.getElem_map, List.getElem_range]
    rw [List.getD, List.getElem?_eq_getElem (by simpa using h2)]
    simp [List.getD, List.getElem?_eq_getElem h2, UInt8.xor_assoc]
end Go.Proofs.Ytapfiapjefnjjaa.Oct
