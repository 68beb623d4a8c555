/-
  The cipher in plain mathematics: what both texts compute, and the laws of it. Nothing here names a program.
-/
namespace Go.Proofs.Ytbmblalbnegglaa.Cip

/-- Four bytes as a number. -/
def num (b : List UInt8) : UInt32 :=
  UInt32.ofNat ((b.getD 0 0).toNat * 16777216 + (b.getD 1 0).toNat * 65536 + (b.getD 2 0).toNat * 256 + (b.getD 3 0).toNat)
/-- The function of the rounds. -/
def mixF (x k : UInt32) : UInt32 :=
  let t := (x + k) * 2654435761
  (t ^^^ (t >>> 15)) * 2246822519
def rk (key : List UInt8) (i : Nat) : UInt32 := num (key.drop (4 * (i % 4))) + UInt32.ofNat i * 2654435769
def keys (key : List UInt8) (back : Bool) : List UInt32 :=
  (List.range 16).map fun i => rk key (if back then 15 - i else i)
def step (b : UInt32 × UInt32) (k : UInt32) : UInt32 × UInt32 := (b.2, b.1 ^^^ mixF b.2 k)
def steps (b : UInt32 × UInt32) (ks : List UInt32) : UInt32 × UInt32 := ks.foldl step b
def bytes4 (x : UInt32) : List UInt8 := [UInt8.ofNat (x.toNat / 16777216), UInt8.ofNat (x.toNat / 65536), UInt8.ofNat (x.toNat / 256), UInt8.ofNat x.toNat]
def out (b : UInt32 × UInt32) : List UInt8 := bytes4 b.2 ++ bytes4 b.1
def crypt (key block : List UInt8) (back : Bool) : List UInt8 := out (steps (num block, num (block.drop 4)) (keys key back))

/-- The error of a call, and its bytes. -/
def err (key block : List UInt8) : Int := if key.length ≠ 16 then 19 else if block.length ≠ 8 then 1 else 0
def res (key block : List UInt8) (back : Bool) : List UInt8 := if key.length ≠ 16 then [] else if block.length ≠ 8 then [] else crypt key block back
theorem err_key (key block : List UInt8) (h : key.length ≠ 16) : err key block = 19 := by simp [err, h]
theorem res_key (key block : List UInt8) (back : Bool) (h : key.length ≠ 16) : res key block back = [] := by simp [res, h]
theorem err_block (key block : List UInt8) (h : key.length = 16) (h' : block.length ≠ 8) : err key block = 1 := by simp [err, h, h']
theorem res_block (key block : List UInt8) (back : Bool) (h : key.length = 16) (h' : block.length ≠ 8) : res key block back = [] := by simp [res, h, h']
theorem err_ok (key block : List UInt8) (h : key.length = 16) (h' : block.length = 8) : err key block = 0 := by simp [err, h, h']
theorem res_ok (key block : List UInt8) (back : Bool) (h : key.length = 16) (h' : block.length = 8) : res key block back = crypt key block back := by simp [res, h, h']
theorem length_keys (key : List UInt8) (back : Bool) : (keys key back).length = 16 := by simp [keys]
theorem keys_get (key : List UInt8) (back : Bool) (k : Nat) (h : k < (keys key back).length) : (keys key back)[k] = rk key (if back then 15 - k else k) := by simp [keys]
theorem steps_succ (b : UInt32 × UInt32) (ks : List UInt32) (k : Nat) (h : k < ks.length) : steps b (ks.take (k + 1)) = step (steps b (ks.take k)) ks[k] := by
  unfold steps
  rw [List.take_succ_eq_append_getElem h, List.foldl_append]; rfl

theorem err_zero (key block : List UInt8) (h : (err key block != 0) = false) : key.length = 16 ∧ block.length = 8 := by
  simp only [err] at h
  split at h
  · simp at h
  · split at h
    · simp at h
    · omega
theorem res_none (key block : List UInt8) (back : Bool) (h : (err key block != 0) = true) : res key block back = [] := by
  simp only [err] at h
  unfold res
  split
  · rfl
  · split
    · rfl
    · rename_i h1 h2; simp [h1, h2] at h
theorem res_length (key block : List UInt8) (back : Bool) : (res key block back).length ≤ 8 := by
  unfold res; split
  · simp
  · split
    · simp
    · exact Nat.le_refl _

theorem num_toNat (b : List UInt8) : (num b).toNat = (b.getD 0 0).toNat * 16777216 + (b.getD 1 0).toNat * 65536 + (b.getD 2 0).toNat * 256 + (b.getD 3 0).toNat := by
  unfold num
  rw [UInt32.toNat_ofNat_of_lt']
  have h0 := (b.getD 0 0).toNat_lt
  have h1 := (b.getD 1 0).toNat_lt
  have h2 := (b.getD 2 0).toNat_lt
  have h3 := (b.getD 3 0).toNat_lt
  simp only [UInt32.size]
  omega
theorem num_take (b : List UInt8) : num (b.take 4) = num b := by
  simp [num, List.getD]
theorem num_bytes4 (x : UInt32) (r : List UInt8) : num (bytes4 x ++ r) = x := by
  apply UInt32.toNat_inj.1
  rw [num_toNat]
  have := x.toNat_lt
  simp [bytes4]
  omega
theorem bytes4_num (a b c d : UInt8) (r : List UInt8) : bytes4 (num (a :: b :: c :: d :: r)) = [a, b, c, d] := by
  have h0 := a.toNat_lt
  have h1 := b.toNat_lt
  have h2 := c.toNat_lt
  have h3 := d.toNat_lt
  have e : ∀ (x : UInt8) (n : Nat), n % 256 = x.toNat → UInt8.ofNat n = x := fun x n h => by
    apply UInt8.toNat_inj.1; simpa using h
  unfold bytes4
  rw [num_toNat]
  simp only [List.getD_cons_zero, List.getD_cons_succ]
  congr 1
  · apply e; omega
  congr 1
  · apply e; omega
  congr 1
  · apply e; omega
  congr 1
  · apply e; omega
theorem length_out (b : UInt32 × UInt32) : (out b).length = 8 := rfl
theorem length_crypt (key block : List UInt8) (back : Bool) : (crypt key block back).length = 8 := rfl

theorem step_swap (b : UInt32 × UInt32) (k : UInt32) : step (step b k).swap k = b.swap := by
  obtain ⟨l, r⟩ := b
  simp [step, Prod.swap, UInt32.xor_assoc]
theorem steps_back (ks : List UInt32) : ∀ b : UInt32 × UInt32, steps (steps b ks).swap ks.reverse = b.swap := by
  induction ks with
  | nil => intro b; rfl
  | cons k ks ih =>
    intro b
    simp only [steps, List.foldl_cons, List.reverse_cons, List.foldl_append, List.foldl_nil]
    have := ih (step b k)
    unfold steps at this
    rw [this, step_swap]
theorem keys_reverse (key : List UInt8) (back : Bool) : (keys key back).reverse = keys key (!back) := by
  cases back <;> rfl
theorem num_out0 (b : UInt32 × UInt32) : num (out b) = b.2 := num_bytes4 _ _
theorem num_out4 (b : UInt32 × UInt32) : num ((out b).drop 4) = b.1 := num_bytes4 b.1 []
theorem out_num (block : List UInt8) (h : block.length = 8) : out (num (block.drop 4), num block) = block := by
  match block, h with
  | [a, b, c, d, e, f, g, i], _ =>
    show bytes4 (num [a, b, c, d, e, f, g, i]) ++ bytes4 (num [e, f, g, i]) = _
    rw [bytes4_num, bytes4_num]; rfl
/-- Decryption undoes encryption, and the other way round. -/
theorem crypt_back (key block : List UInt8) (back : Bool) (h : block.length = 8) : crypt key (crypt key block back) (!back) = block := by
  have h1 : crypt key (crypt key block back) (!back) = out (steps (num (crypt key block back), num ((crypt key block back).drop 4)) (keys key (!back))) := rfl
  rw [h1]
  have h2 : crypt key block back = out (steps (num block, num (block.drop 4)) (keys key back)) := rfl
  rw [h2, num_out0, num_out4, ← keys_reverse]
  have h3 := steps_back (keys key back) (num block, num (block.drop 4))
  simp only [Prod.swap] at h3
  rw [h3]
  exact out_num block h
theorem crypt_inj (key a b : List UInt8) (back : Bool) (ha : a.length = 8) (hb : b.length = 8) : crypt key a back = crypt key b back ↔ a = b := by
  constructor
  · intro h
    rw [← crypt_back key a back ha, ← crypt_back key b back hb, h]
  · rintro rfl; rfl
end Go.Proofs.Ytbmblalbnegglaa.Cip
