/-
  The walks of the code's functions: data, code, isCode, Encode, Decode.
-/
import Derived.Test.YtknpppbceogbfaaEccW
namespace Go.Proofs.Ytknpppbceogbfaa
open Go.RowKit

theorem parr_index (k : Nat) (hk : k < 24) (u : World) : (Instr.index 48 (.agg (parr 24)) (.int .i64 (k : Int))).run Try.prog u = .ok (.int .i64 (Ecc.posAt k : Int)) u := by
  match k, hk with
  | 0, _ => exact (by kernel_rfl : (Instr.index 48 (.agg (parr 24)) (.int .i64 ((0 : Nat) : Int))).run Try.prog u = .ok (.int .i64 (Ecc.posAt 0 : Int)) u)
  | 1, _ => exact (by kernel_rfl : (Instr.index 48 (.agg (parr 24)) (.int .i64 ((1 : Nat) : Int))).run Try.prog u = .ok (.int .i64 (Ecc.posAt 1 : Int)) u)
  | 2, _ => exact (by kernel_rfl : (Instr.index 48 (.agg (parr 24)) (.int .i64 ((2 : Nat) : Int))).run Try.prog u = .ok (.int .i64 (Ecc.posAt 2 : Int)) u)
  | 3, _ => exact (by kernel_rfl : (Instr.index 48 (.agg (parr 24)) (.int .i64 ((3 : Nat) : Int))).run Try.prog u = .ok (.int .i64 (Ecc.posAt 3 : Int)) u)
  | 4, _ => exact (by kernel_rfl : (Instr.index 48 (.agg (parr 24)) (.int .i64 ((4 : Nat) : Int))).run Try.prog u = .ok (.int .i64 (Ecc.posAt 4 : Int)) u)
  | 5, _ => exact (by kernel_rfl : (Instr.index 48 (.agg (parr 24)) (.int .i64 ((5 : Nat) : Int))).run Try.prog u = .ok (.int .i64 (Ecc.posAt 5 : Int)) u)
  | 6, _ => exact (by kernel_rfl : (Instr.index 48 (.agg (parr 24)) (.int .i64 ((6 : Nat) : Int))).run Try.prog u = .ok (.int .i64 (Ecc.posAt 6 : Int)) u)
  | 7, _ => exact (by kernel_rfl : (Instr.index 48 (.agg (parr 24)) (.int .i64 ((7 : Nat) : Int))).run Try.prog u = .ok (.int .i64 (Ecc.posAt 7 : Int)) u)
  | 8, _ => exact (by kernel_rfl : (Instr.index 48 (.agg (parr 24)) (.int .i64 ((8 : Nat) : Int))).run Try.prog u = .ok (.int .i64 (Ecc.posAt 8 : Int)) u)
  | 9, _ => exact (by kernel_rfl : (Instr.index 48 (.agg (parr 24)) (.int .i64 ((9 : Nat) : Int))).run Try.prog u = .ok (.int .i64 (Ecc.posAt 9 : Int)) u)
  | 10, _ => exact (by kernel_rfl : (Instr.index 48 (.agg (parr 24)) (.int .i64 ((10 : Nat) : Int))).run Try.prog u = .ok (.int .i64 (Ecc.posAt 10 : Int)) u)
  | 11, _ => exact (by kernel_rfl : (Instr.index 48 (.agg (parr 24)) (.int .i64 ((11 : Nat) : Int))).run Try.prog u = .ok (.int .i64 (Ecc.posAt 11 : Int)) u)
  | 12, _ => exact (by kernel_rfl : (Instr.index 48 (.agg (parr 24)) (.int .i64 ((12 : Nat) : Int))).run Try.prog u = .ok (.int .i64 (Ecc.posAt 12 : Int)) u)
  | 13, _ => exact (by kernel_rfl : (Instr.index 48 (.agg (parr 24)) (.int .i64 ((13 : Nat) : Int))).run Try.prog u = .ok (.int .i64 (Ecc.posAt 13 : Int)) u)
  | 14, _ => exact (by kernel_rfl : (Instr.index 48 (.agg (parr 24)) (.int .i64 ((14 : Nat) : Int))).run Try.prog u = .ok (.int .i64 (Ecc.posAt 14 : Int)) u)
  | 15, _ => exact (by kernel_rfl : (Instr.index 48 (.agg (parr 24)) (.int .i64 ((15 : Nat) : Int))).run Try.prog u = .ok (.int .i64 (Ecc.posAt 15 : Int)) u)
  | 16, _ => exact (by kernel_rfl : (Instr.index 48 (.agg (parr 24)) (.int .i64 ((16 : Nat) : Int))).run Try.prog u = .ok (.int .i64 (Ecc.posAt 16 : Int)) u)
  | 17, _ => exact (by kernel_rfl : (Instr.index 48 (.agg (parr 24)) (.int .i64 ((17 : Nat) : Int))).run Try.prog u = .ok (.int .i64 (Ecc.posAt 17 : Int)) u)
  | 18, _ => exact (by kernel_rfl : (Instr.index 48 (.agg (parr 24)) (.int .i64 ((18 : Nat) : Int))).run Try.prog u = .ok (.int .i64 (Ecc.posAt 18 : Int)) u)
  | 19, _ => exact (by kernel_rfl : (Instr.index 48 (.agg (parr 24)) (.int .i64 ((19 : Nat) : Int))).run Try.prog u = .ok (.int .i64 (Ecc.posAt 19 : Int)) u)
  | 20, _ => exact (by kernel_rfl : (Instr.index 48 (.agg (parr 24)) (.int .i64 ((20 : Nat) : Int))).run Try.prog u = .ok (.int .i64 (Ecc.posAt 20 : Int)) u)
  | 21, _ => exact (by kernel_rfl : (Instr.index 48 (.agg (parr 24)) (.int .i64 ((21 : Nat) : Int))).run Try.prog u = .ok (.int .i64 (Ecc.posAt 21 : Int)) u)
  | 22, _ => exact (by kernel_rfl : (Instr.index 48 (.agg (parr 24)) (.int .i64 ((22 : Nat) : Int))).run Try.prog u = .ok (.int .i64 (Ecc.posAt 22 : Int)) u)
  | 23, _ => exact (by kernel_rfl : (Instr.index 48 (.agg (parr 24)) (.int .i64 ((23 : Nat) : Int))).run Try.prog u = .ok (.int .i64 (Ecc.posAt 23 : Int)) u)
  | n + 24, h => omega
theorem posAt_lt (k : Nat) : Ecc.posAt k < 30 := by
  rcases Nat.lt_or_ge k 24 with h | h
  · have : ∀ k, k < 24 → Ecc.posAt k < 30 := by decide +kernel
    exact this k h
  · unfold Ecc.posAt; simp [List.getD, List.getElem?_eq_none (show Ecc.pos.length ≤ k from h)]

theorem pow_small (k m : Nat) (h : k ≤ m) : 2 ^ k ≤ 2 ^ m := Nat.pow_le_pow_right (by omega) h
theorem bit_mul (x k p m : Nat) (h : k ≤ m) : Ecc.bit x p * 2 ^ k ≤ 2 ^ m := by
  have := Ecc.bit_lt x p
  have h1 := pow_small k m h
  rcases (show Ecc.bit x p = 0 ∨ Ecc.bit x p = 1 by omega) with e | e
  · rw [e, Nat.zero_mul]; exact Nat.zero_le _
  · rw [e, Nat.one_mul]; exact h1
theorem data_step (x k : Nat) (hk : k < 24) : bits BinOp.or IntKind.i64 (Ecc.dataK x k : Int) (wrap64 (wrap64 (Ecc.bit x (Ecc.posAt k) : Int) * 2 ^ k)) = (Ecc.dataK x (k + 1) : Int) := by
  have h0 := Ecc.bit_lt x (Ecc.posAt k)
  have h1 : wrap64 (Ecc.bit x (Ecc.posAt k) : Int) = (Ecc.bit x (Ecc.posAt k) : Int) := by unfold wrap64; omega
  have h2 := bit_mul x k (Ecc.posAt k) 24 (by omega)
  have h3 : (Ecc.bit x (Ecc.posAt k) : Int) * 2 ^ k = ((Ecc.bit x (Ecc.posAt k) * 2 ^ k : Nat) : Int) := by simp
  have h4 : wrap64 ((Ecc.bit x (Ecc.posAt k) * 2 ^ k : Nat) : Int) = ((Ecc.bit x (Ecc.posAt k) * 2 ^ k : Nat) : Int) := by unfold wrap64; omega
  have h5 := Ecc.dataK_lt x k
  have h6 := pow_small k 24 (by omega)
  rw [h1, h3, h4, i64_or_nat _ _ (by omega) (by omega), Ecc.dataK_succ, Nat.or_comm, nat_join k _ _ (Nat.mul_mod_left _ _) h5, Nat.add_comm]

set_option maxHeartbeats 1000000 in
theorem ecc_data (x : Nat) (w : World) (hx : x < 4294967296) :
    Calls Try.prog 27 #[.int .u32 (x : Int)] w fun e w' => e = .returned (.int .i64 (Ecc.data x : Nat)) ∧ Below w.heap.size w w' := by
  go_enter Try.func27, Try.ntmps27
  go_wp2_with (go_at_call 32; refine (ecc_positions _).mono ?_; rintro e w1 ⟨rfl, hb1⟩)
  go_loopg [3, 7] 24 (fun g n i wr => ∃ k : Nat, k + g = 24 ∧ i = .int .i64 k ∧ n = .int .i64 (Ecc.dataK x k : Nat) ∧ w1 = wr)
  case atStart => exact ⟨0, by omega, rfl, rfl, rfl⟩
  case round =>
    obtain ⟨k, hk, rfl, rfl, rfl⟩ := hrel
    cases gk with
    | zero =>
      obtain rfl : k = 24 := by omega
      go_wp2_with fail
      go_ret
      exact ⟨rfl, hb1⟩
    | succ g =>
      have hix := parr_index k (by omega)
      have hp := posAt_lt k
      have hb := ecc_shr x (Ecc.posAt k) hx
      have i0 : (k : Int) < 24 := by omega
      have i1 : (Ecc.posAt k : Int) ≤ 32 := by omega
      have i2 : (k : Int) ≤ 64 := by omega
      go_wp2_with fail
      go_roundg g
      case measure => omega
      case rel =>
        refine ⟨k + 1, by omega, by go_num, ?_, rfl⟩
        rw [data_step x k (by omega)]

theorem ecc_shr64 (w p : Nat) (hw : w < 4294967296) : bits BinOp.and IntKind.i64 ((w : Int) / 2 ^ p) 1 = ((Ecc.bit w p : Nat) : Int) := by
  have e : (w : Int) / 2 ^ p = ((w / 2 ^ p : Nat) : Int) := by simp
  have h1 : w / 2 ^ p < 4294967296 := Nat.lt_of_le_of_lt (Nat.div_le_self _ _) hw
  rw [e, show (1 : Int) = ((1 : Nat) : Int) from rfl, i64_and_nat _ _ (by omega) (by omega), nat_mask1]; rfl
theorem lay_step (n k : Nat) (hn : n < 16777216) (hk : k < 24) :
    bits BinOp.or IntKind.u32 (Ecc.layK n k : Int) (bits BinOp.and IntKind.i64 ((n : Int) / 2 ^ k) 1 % 4294967296 * 2 ^ Ecc.posAt k % 4294967296) = (Ecc.layK n (k + 1) : Int) := by
  have h0 := Ecc.bit_lt n k
  have h2 := bit_mul n (Ecc.posAt k) k 29 (by have := posAt_lt k; omega)
  have h3 : (Ecc.bit n k : Int) % 4294967296 * 2 ^ Ecc.posAt k % 4294967296 = ((Ecc.bit n k * 2 ^ Ecc.posAt k : Nat) : Int) := by
    rw [show (Ecc.bit n k : Int) % 4294967296 = (Ecc.bit n k : Int) by omega, show (Ecc.bit n k : Int) * 2 ^ Ecc.posAt k = ((Ecc.bit n k * 2 ^ Ecc.posAt k : Nat) : Int) by simp]
    omega
  have h5 := Ecc.layK_lt n k (by omega)
  rw [ecc_shr64 n k (by omega), h3, u32_or_nat _ _ (by omega) (by omega), Ecc.layK_succ]
theorem chk_and (s c j : Nat) (hs : s < 32) (hc : c = 2 ^ j) (hj : j < 5) : (bits BinOp.and IntKind.i64 (s : Int) (c : Int) != 0) = s.testBit j := by
  have h1 : 2 ^ j ≤ 2 ^ 5 := pow_small j 5 (by omega)
  subst hc
  rw [i64_and_nat _ _ (by omega) (by omega), nat_bit, Nat.testBit_eq_decide_div_mod_eq]
  have hp : 0 < 2 ^ j := Nat.two_pow_pos j
  rcases Nat.mod_two_eq_zero_or_one (s / 2 ^ j) with h | h
  · rw [h]; simp
  · rw [h, Nat.one_mul]
    generalize 2 ^ j = q at *
    have h3 : (q : Int) ≠ 0 := by omega
    simpa using h3
theorem chkK_succ (s k : Nat) : Ecc.chkK s (k + 1) = if s.testBit k then Ecc.chkK s k ||| 2 ^ 2 ^ k else Ecc.chkK s k := by simp [Ecc.chkK, List.range_succ]
theorem chkK_lt (s k : Nat) (h : k ≤ 5) : Ecc.chkK s k < 2 ^ 30 := by
  induction k with
  | zero => simp [Ecc.chkK]
  | succ k ih =>
    rw [chkK_succ]
    split
    · refine Nat.or_lt_two_pow (ih (by omega)) ?_
      have h1 : 2 ^ k ≤ 2 ^ 4 := pow_small k 4 (by omega)
      exact Nat.pow_lt_pow_right (by omega) (by omega)
    · exact ih (by omega)
/-- The check places behind k of them: the place c, and what is laid so far. -/
def chkIs (s g c a : Nat) : Prop := ∃ j, j + g = 5 ∧ c = 2 ^ j ∧ a = Ecc.chkK s j
theorem or_low (a v c : Nat) (hc : c < 30) (h : a < 2 ^ 30) (hv : v < 2 ^ 30) : bits BinOp.or IntKind.u32 ((v ||| a : Nat) : Int) (2 ^ c % 4294967296) = ((v ||| (a ||| 2 ^ c) : Nat) : Int) := by
  have h1 := pow_small c 29 (by omega)
  have h2 : v ||| a < 2 ^ 30 := Nat.or_lt_two_pow hv h
  rw [show (2 : Int) ^ c % 4294967296 = ((2 ^ c : Nat) : Int) by rw [show (2 : Int) ^ c = ((2 ^ c : Nat) : Int) by simp]; generalize 2 ^ c = q at *; omega, u32_or_nat _ _ (by omega) (by omega), Nat.or_assoc]
theorem or_par (x : Nat) (h : x < 2 ^ 30) : bits BinOp.or IntKind.u32 (x : Int) (bits BinOp.and IntKind.i64 (Ecc.ones x : Int) 1 % 4294967296) = ((x ||| Ecc.ones x % 2 : Nat) : Int) := by
  have h1 : Ecc.ones x ≤ 32 := Ecc.onesK_le x 32
  rw [show (1 : Int) = ((1 : Nat) : Int) from rfl, i64_and_nat _ _ (by omega) (by omega), nat_mask1]
  rw [show ((Ecc.ones x % 2 : Nat) : Int) % 4294967296 = ((Ecc.ones x % 2 : Nat) : Int) by omega, u32_or_nat _ _ (by omega) (by omega)]

set_option maxHeartbeats 1000000 in
theorem ecc_code (n : Nat) (w : World) (hn : n < 16777216) :
    Calls Try.prog 22 #[.int .i64 (n : Int)] w fun e w' => e = .returned (.int .u32 (Ecc.code n : Nat)) ∧ Below w.heap.size w w' := by
  go_enter Try.func22, Try.ntmps22
  go_wp2_with (go_at_call 32; refine (ecc_positions _).mono ?_; rintro e w1 ⟨rfl, hb1⟩)
  go_loopg [3, 9] 24 (fun g v i wr => ∃ k : Nat, k + g = 24 ∧ i = .int .i64 k ∧ v = .int .u32 (Ecc.layK n k : Nat) ∧ w1 = wr)
  case atStart => exact ⟨0, by omega, rfl, rfl, rfl⟩
  case round =>
    obtain ⟨k, hk, rfl, rfl, rfl⟩ := hrel
    cases gk with
    | zero =>
      obtain rfl : k = 24 := by omega
      have hl := Ecc.lay_lt n
      unfold Ecc.lay at hl
      have hs := Ecc.syn_lt (Ecc.lay n)
      rw [show Ecc.layK n 24 = Ecc.lay n from rfl] at hl ⊢
      go_wp2_with (go_at_call 28; refine (ecc_syndrome _ _ (by omega)).mono ?_; rintro e w2 ⟨rfl, rfl⟩)
      go_loopg [3, 7] 5 (fun g v c wr => ∃ c' a : Nat, c = .int .i64 c' ∧ v = .int .u32 ((Ecc.lay n ||| a : Nat) : Int) ∧ Hid (chkIs (Ecc.syn (Ecc.lay n)) g c' a) ∧ w1 = wr)
      case atStart => exact ⟨1, 0, rfl, by rw [Nat.or_zero], Lib.hid ⟨0, rfl, rfl, rfl⟩, rfl⟩
      case round =>
        obtain ⟨c', a, rfl, rfl, HC, rfl⟩ := hrel
        obtain ⟨j, hj, hc, ha⟩ := HC.out
        have hal := chkK_lt (Ecc.syn (Ecc.lay n)) j (by omega)
        rw [← ha] at hal
        have hvl : Ecc.lay n ||| a < 2 ^ 30 := Nat.or_lt_two_pow hl hal
        cases gk with
        | zero =>
          have hc' : c' = 32 := by obtain rfl : j = 5 := by omega
                                   exact hc
          have e : Ecc.lay n ||| a = Ecc.pre n := by rw [ha, show j = 5 by omega]; rfl
          rw [e] at hvl ⊢
          have H := Lib.hid (or_par _ hvl)
          subst hc'
          clear ha e hc HC
          go_wp2_with (go_at_call 33; refine (ecc_ones _ _ (by omega)).mono ?_; rintro e w2 ⟨rfl, kk, rfl⟩)
          go_ret
          exact ⟨congrArg (fun x => Ending.returned (.int .u32 x)) H.out, Below.drewN hb1 _⟩
        | succ g =>
          have hj5 : j < 5 := by omega
          have hcl : c' < 30 := by rw [hc]; have := pow_small j 4 (by omega); omega
          have tb := chk_and _ c' j hs hc hj5
          have OL := Lib.hid (or_low a (Ecc.lay n) c' hcl hal hl)
          have hsc := chkK_succ (Ecc.syn (Ecc.lay n)) j
          have HA := Lib.hid ha
          have HCC := Lib.hid hc
          have i0 : (c' : Int) < 32 := by omega
          cases hb : (Ecc.syn (Ecc.lay n)).testBit j with
          | false =>
            rw [hb] at tb hsc
            have HS := Lib.hid hsc
            have HB := Lib.hid hb
            clear hb ha hc hsc HC
            go_wp2_with fail
            go_roundg g
            case measure => omega
            case rel => exact ⟨c' * 2, a, by go_num, rfl, Lib.hid ⟨j + 1, by omega, by rw [HCC.out, Nat.pow_succ], by rw [HS.out, HA.out]; rfl⟩, rfl⟩
          | true =>
            rw [hb] at tb hsc
            have HS := Lib.hid hsc
            have HB := Lib.hid hb
            clear hb ha hc hsc HC
            go_wp2_with fail
            go_roundg g
            case measure => omega
            case rel => exact ⟨c' * 2, a ||| 2 ^ c', by go_num, congrArg (Value.int .u32) OL.out, Lib.hid ⟨j + 1, by omega, by rw [HCC.out, Nat.pow_succ], by rw [HS.out, HA.out, HCC.out]; rfl⟩, rfl⟩
    | succ g =>
      have hix := parr_index k (by omega)
      have hp := posAt_lt k
      have i0 : (k : Int) < 24 := by omega
      have i1 : (Ecc.posAt k : Int) ≤ 32 := by omega
      have i2 : (k : Int) ≤ 64 := by omega
      go_wp2_with fail
      go_roundg g
      case measure => omega
      case rel =>
        refine ⟨k + 1, by omega, by go_num, ?_, rfl⟩
        rw [lay_step n k hn (by omega)]

theorem ones_even (x : Nat) : ((Ecc.ones x : Int) % 2 == 0) = (Ecc.ones x % 2 == 0) := by
  rcases Nat.mod_two_eq_zero_or_one (Ecc.ones x) with h | h
  · rw [h, show (Ecc.ones x : Int) % 2 = 0 by omega]; rfl
  · rw [h, show (Ecc.ones x : Int) % 2 = 1 by omega]; rfl
theorem high_bits (x : Nat) (hx : x < 4294967296) : (bits BinOp.and IntKind.u32 (x : Int) 3221225472 == 0) = (Ecc.bit x 30 == 0 && Ecc.bit x 31 == 0) := by
  rw [show (3221225472 : Int) = ((3221225472 : Nat) : Int) from rfl, u32_and_nat _ _ hx (by omega)]
  have e : x &&& 3221225472 = Ecc.bit x 30 * 2 ^ 30 + Ecc.bit x 31 * 2 ^ 31 := by
    have h1 : (3221225472 : Nat) = 2 ^ 30 ||| 2 ^ 31 := by decide
    rw [h1, Nat.and_or_distrib_left, nat_bit, nat_bit, Nat.or_comm, nat_join 31 _ _ (Nat.mul_mod_left _ _) (by have := Nat.mod_lt (x / 2 ^ 30) (show 0 < 2 by omega); omega), Nat.add_comm]
    rfl
  rw [e]
  have h0 := Ecc.bit_lt x 30
  have h1 := Ecc.bit_lt x 31
  rcases (show Ecc.bit x 30 = 0 ∨ Ecc.bit x 30 = 1 by omega) with h | h <;> rcases (show Ecc.bit x 31 = 0 ∨ Ecc.bit x 31 = 1 by omega) with h' | h' <;> rw [h, h'] <;> rfl

set_option maxHeartbeats 1000000 in
theorem ecc_isCode (x : Nat) (w : World) (hx : x < 4294967296) :
    Calls Try.prog 26 #[.int .u32 (x : Int)] w fun e w' => e = .returned (.bool (Ecc.isCode x)) ∧ ∃ k, w' = w.drewN k := by
  have he := Lib.hid (ones_even x)
  have hh := Lib.hid (high_bits x hx)
  have hol : Ecc.ones x ≤ 32 := Ecc.onesK_le x 32
  cases hs : (Ecc.syn x == 0) with
  | false =>
    have hs' : ((Ecc.syn x : Int) == 0) = false := by simp at hs ⊢; omega
    have HS := Lib.hid hs
    clear hs
    go_enter Try.func26, Try.ntmps26
    go_wp2_with (go_at_call 28; refine (ecc_syndrome _ _ hx).mono ?_; rintro e w2 ⟨rfl, rfl⟩)
    go_ret
    exact ⟨by rw [Ecc.isCode, HS.out]; rfl, 0, rfl⟩
  | true =>
    have hs' : ((Ecc.syn x : Int) == 0) = true := by simp at hs ⊢; omega
    have HS := Lib.hid hs
    clear hs
    cases ho : (Ecc.ones x % 2 == 0) with
    | false =>
      have ho' : ((Ecc.ones x : Int) % 2 == 0) = false := by rw [he.out, ho]
      have HO := Lib.hid ho
      clear ho
      go_enter Try.func26, Try.ntmps26
      go_wp2_with (first | (go_at_call 28; refine (ecc_syndrome _ _ hx).mono ?_; rintro e w2 ⟨rfl, rfl⟩) | (go_at_call 33; refine (ecc_ones _ _ (by omega)).mono ?_; rintro e w2 ⟨rfl, kk, rfl⟩))
      go_ret
      exact ⟨by rw [Ecc.isCode, HS.out, HO.out]; rfl, _, rfl⟩
    | true =>
      have ho' : ((Ecc.ones x : Int) % 2 == 0) = true := by rw [he.out, ho]
      have HO := Lib.hid ho
      clear ho
      go_enter Try.func26, Try.ntmps26
      go_wp2_with (first | (go_at_call 28; refine (ecc_syndrome _ _ hx).mono ?_; rintro e w2 ⟨rfl, rfl⟩) | (go_at_call 33; refine (ecc_ones _ _ (by omega)).mono ?_; rintro e w2 ⟨rfl, kk, rfl⟩))
      go_ret
      exact ⟨by rw [Ecc.isCode, HS.out, HO.out, hh.out]; simp, _, rfl⟩
end Go.Proofs.Ytknpppbceogbfaa
