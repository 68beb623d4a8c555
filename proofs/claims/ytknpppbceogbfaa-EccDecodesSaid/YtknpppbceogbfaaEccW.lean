/-
  The walks of the code's small functions.
-/
import Derived.Test.YtknpppbceogbfaaRows
import Derived.Test.YtknpppbceogbfaaMem
import Derived.Test.YtknpppbceogbfaaEcc
import Derived.Laws.BitsAllLaws
import Derived.Outline
import Derived.Lib.Tables
import Derived.Lib.BitFns
import Derived.Deep.LoopGhost
namespace Go.Proofs.Ytknpppbceogbfaa
open Go.RowKit

theorem ecc_shr (w p : Nat) (hw : w < 4294967296) : bits BinOp.and IntKind.u32 ((w : Int) / 2 ^ p) 1 = ((Ecc.bit w p : Nat) : Int) := by
  have e : (w : Int) / 2 ^ p = ((w / 2 ^ p : Nat) : Int) := by simp
  have h1 : w / 2 ^ p < 4294967296 := Nat.lt_of_le_of_lt (Nat.div_le_self _ _) hw
  rw [e, show (1 : Int) = ((1 : Nat) : Int) from rfl, u32_and_nat _ _ h1 (by omega), nat_mask1]; rfl
theorem ofInt_i64 (a : Nat) (ha : a < 9223372036854775808) : (BitVec.ofInt 64 (a : Int)).toNat = a := by
  rw [BitVec.ofInt_natCast, BitVec.toNat_ofNat]; exact Nat.mod_eq_of_lt (by omega)
theorem i64_and_nat (a b : Nat) (ha : a < 9223372036854775808) (hb : b < 9223372036854775808) : bits .and .i64 (a : Int) (b : Int) = ((a &&& b : Nat) : Int) := by
  have hx : a &&& b < 2 ^ 63 := Nat.and_lt_two_pow _ (by omega)
  show IntKind.i64.wrap ((BitVec.ofInt 64 (a : Int) &&& BitVec.ofInt 64 (b : Int)).toNat : Int) = _
  rw [BitVec.toNat_and, ofInt_i64 a ha, ofInt_i64 b hb, IntKind.wrap_i64]
  omega
theorem i64_or_nat (a b : Nat) (ha : a < 9223372036854775808) (hb : b < 9223372036854775808) : bits .or .i64 (a : Int) (b : Int) = ((a ||| b : Nat) : Int) := by
  have hx : a ||| b < 2 ^ 63 := Nat.or_lt_two_pow (by omega) (by omega)
  show IntKind.i64.wrap ((BitVec.ofInt 64 (a : Int) ||| BitVec.ofInt 64 (b : Int)).toNat : Int) = _
  rw [BitVec.toNat_or, ofInt_i64 a ha, ofInt_i64 b hb, IntKind.wrap_i64]
  omega
theorem i64_xor_nat (a b : Nat) (ha : a < 9223372036854775808) (hb : b < 9223372036854775808) : bits .xor .i64 (a : Int) (b : Int) = ((a ^^^ b : Nat) : Int) := by
  have hx : a ^^^ b < 2 ^ 63 := Nat.xor_lt_two_pow (by omega) (by omega)
  show IntKind.i64.wrap ((BitVec.ofInt 64 (a : Int) ^^^ BitVec.ofInt 64 (b : Int)).toNat : Int) = _
  rw [BitVec.toNat_xor, ofInt_i64 a ha, ofInt_i64 b hb, IntKind.wrap_i64]
  omega
theorem ecc_xor (a b : Nat) (ha : a < 64) (hb : b < 64) : bits BinOp.xor IntKind.i64 (a : Int) (b : Int) = ((a ^^^ b : Nat) : Int) := i64_xor_nat a b (by omega) (by omega)

set_option maxHeartbeats 400000 in
theorem ecc_syndrome (x : Nat) (w : World) (hx : x < 4294967296) :
    Calls Try.prog 28 #[.int .u32 (x : Int)] w fun e w' => e = .returned (.int .i64 (Ecc.syn x : Nat)) ∧ w = w' := by
  go_enter Try.func28, Try.ntmps28
  go_wp2_with fail
  go_loopg [3, 4] 31 (fun g s p wr => ∃ k : Nat, k + g = 31 ∧ p = .int .i64 (k + 1 : Nat) ∧ s = .int .i64 (Ecc.synK x k : Nat) ∧ w = wr)
  case atStart => exact ⟨0, by omega, rfl, rfl, rfl⟩
  case round =>
    obtain ⟨k, hk, rfl, rfl, rfl⟩ := hrel
    cases gk with
    | zero =>
      obtain rfl : k = 31 := by omega
      go_wp2_with fail
      go_ret
      exact ⟨rfl, rfl⟩
    | succ g =>
      have hb := ecc_shr x (k + 1) hx
      have i0 : ((k : Nat) : Int) + 1 < 32 := by omega
      have hs := Lib.hid (Ecc.synK_succ x k)
      have hl := Ecc.synK_lt x k (by omega)
      rcases (show Ecc.bit x (k + 1) = 0 ∨ Ecc.bit x (k + 1) = 1 by have := Ecc.bit_lt x (k + 1); omega) with h | h
      · have h2 : (bits BinOp.and IntKind.u32 ((x : Int) / 2 ^ (k + 1)) 1 == 1) = false := by rw [hb, h]; rfl
        have H := Lib.hid h
        clear h hb
        go_wp2_with fail
        go_roundg g
        case measure => omega
        case rel => exact ⟨k + 1, by omega, by go_num, by rw [hs.out, show Ecc.sel x (k + 1) = 0 by simp [Ecc.sel, H.out], Nat.xor_zero], rfl⟩
      · have h2 : (bits BinOp.and IntKind.u32 ((x : Int) / 2 ^ (k + 1)) 1 == 1) = true := by rw [hb, h]; rfl
        have H := Lib.hid h
        have h3 := ecc_xor (Ecc.synK x k) (k + 1) (by omega) (by omega)
        have H3 := Lib.hid h3
        clear h hb h3
        go_wp2_with fail
        go_roundg g
        case measure => omega
        case rel => exact ⟨k + 1, by omega, by go_num, by rw [hs.out, show Ecc.sel x (k + 1) = k + 1 by simp [Ecc.sel, H.out], ← H3.out]; rfl, rfl⟩

theorem u32_byte (y : Nat) (hy : y < 4294967296) : bits BinOp.and IntKind.u32 (y : Int) 255 = (y : Int) % 256 := by
  rw [show (255 : Int) = ((255 : Nat) : Int) from rfl, u32_and_nat _ _ hy (by omega), nat_mask8]; omega
theorem pop8_small : ∀ n : Fin 256, Lib.pop8 (n.val : Int) = (Ecc.onesK n.val 8 : Int) := by decide +kernel
theorem pop8_ones (i : Int) (n : Nat) (h : i = (n : Int)) (hn : n < 256) : Lib.pop8 i = (Ecc.onesK n 8 : Int) := by subst h; exact pop8_small ⟨n, hn⟩
theorem bit_div (x a b : Nat) : Ecc.bit (x / 2 ^ a) b = Ecc.bit x (a + b) := by unfold Ecc.bit; rw [Nat.div_div_eq_div_mul, ← Nat.pow_add]
theorem bit_mod (x b : Nat) (h : b < 8) : Ecc.bit (x % 256) b = Ecc.bit x b := by
  rw [Ecc.bit_test, Ecc.bit_test, show (256 : Nat) = 2 ^ 8 from rfl, Nat.testBit_mod_two_pow]; simp [h]
theorem ones_eight (x : Nat) (a k : Nat) (h : k ≤ 8) : Ecc.onesK x (a + k) = Ecc.onesK x a + Ecc.onesK (x / 2 ^ a % 256) k := by
  induction k with
  | zero => rfl
  | succ k ih => rw [← Nat.add_assoc, Ecc.onesK_succ, Ecc.onesK_succ, ih (by omega), bit_mod _ _ (by omega), bit_div]; omega
theorem ones_split (x : Nat) : Ecc.ones x = Ecc.onesK (x % 256) 8 + Ecc.onesK (x / 256 % 256) 8 + Ecc.onesK (x / 65536 % 256) 8 + Ecc.onesK (x / 16777216 % 256) 8 := by
  unfold Ecc.ones
  rw [ones_eight x 24 8 (by omega), ones_eight x 16 8 (by omega), ones_eight x 8 8 (by omega), show (8 : Nat) = 0 + 8 from rfl, ones_eight x 0 8 (by omega)]
  simp [Ecc.onesK]

set_option maxRecDepth 100000 in
set_option maxHeartbeats 400000 in
theorem ecc_ones (x : Nat) (w : World) (hx : x < 4294967296) :
    Calls Try.prog 33 #[.int .u32 (x : Int)] w fun e w' => e = .returned (.int .i64 (Ecc.ones x : Nat)) ∧ ∃ k, w' = w.drewN k := by
  have j1 : 0 ≤ (x : Int) / 16777216 := by omega
  have j2 : (x : Int) / 16777216 ≤ 255 := by omega
  have j3 : bits BinOp.and IntKind.u32 ((x : Int) / 65536) 255 = (x : Int) / 65536 % 256 := u32_byte (x / 65536) (by omega)
  have j4 : bits BinOp.and IntKind.u32 ((x : Int) / 256) 255 = (x : Int) / 256 % 256 := u32_byte (x / 256) (by omega)
  have j5 : bits BinOp.and IntKind.u32 (x : Int) 255 = (x : Int) % 256 := u32_byte x (by omega)
  have HF : Hid (Ecc.ones x ≤ 32) := Lib.hid (Ecc.onesK_le x 32)
  go_enter Try.func33, Try.ntmps33
  go_wp2_with fail
  simp only [List.append_eq, List.cons_append, List.nil_append, Lib.fold_pop8tab]
  go_quiet (fail)
  clear j3 j4 j5
  go_wp2_with fail
  go_ret
  refine ⟨ret_int ?_, _, rfl⟩
  rw [pop8_ones ((x : Int) / 16777216) (x / 16777216 % 256) (by omega) (by omega), pop8_ones ((x : Int) / 65536 % 256) (x / 65536 % 256) (by omega) (by omega), pop8_ones ((x : Int) / 256 % 256) (x / 256 % 256) (by omega) (by omega), pop8_ones ((x : Int) % 256) (x % 256) (by omega) (by omega)]
  have := HF.out
  rw [ones_split] at this ⊢
  omega

/-- The array of the places when k of them are there. -/
def parr (k : Nat) : Array Value := ((List.range 24).map fun j => Value.int .i64 (if j < k then (Ecc.posAt j : Int) else 0)).toArray
theorem parr_size (k : Nat) : (parr k).size = 24 := by simp [parr]
theorem parr_one (k : Nat) : (parr k).all (·.oneCell') = true := by simp [parr, Value.oneCell']
theorem parr_set (k : Nat) : (parr k).setIfInBounds k (.int .i64 (Ecc.posAt k : Int)) = parr (k + 1) := by
  apply Array.ext_getElem?
  intro i
  simp only [parr, List.setIfInBounds_toArray, List.getElem?_toArray, List.getElem?_set, List.getElem?_map, List.length_map, List.length_range]
  by_cases hi : i < 24
  · rw [List.getElem?_range hi]
    by_cases e : k = i
    · subst e; simp [hi]
    · by_cases h : i < k
      · simp [e, h, show i < k + 1 by omega]
      · simp [e, h, show ¬ i < k + 1 by omega]
  · rw [List.getElem?_eq_none (by simp; omega)]
    by_cases e : k = i
    · subst e; simp [hi]
    · simp [e]
/-- How many places lie below p. -/
def cnt (p : Nat) : Nat := (Ecc.pos.filter (· < p)).length
def chkPow (c : Nat) : Prop := c = 1 ∨ c = 2 ∨ c = 4 ∨ c = 8 ∨ c = 16 ∨ c = 32
theorem cnt_le (p : Nat) : cnt p ≤ 24 := List.length_filter_le _ _
theorem cnt_lt : ∀ p, p < 30 → cnt p < 24 := by decide +kernel
theorem cnt_chk : ∀ p, p < 30 → (p = 4 ∨ p = 8 ∨ p = 16) → cnt (p + 1) = cnt p := by decide +kernel
theorem cnt_pos : ∀ p, p < 30 → 3 ≤ p → ¬ (p = 4 ∨ p = 8 ∨ p = 16) → cnt (p + 1) = cnt p + 1 ∧ Ecc.posAt (cnt p) = p := by decide +kernel

set_option maxRecDepth 100000 in
set_option maxHeartbeats 1000000 in
theorem ecc_positions (w : World) :
    Calls Try.prog 32 #[] w fun e w' => e = .returned (.agg (parr 24)) ∧ Below w.heap.size w w' := by
  have hsz : (Try.prog.info? 48).map (·.size) = some 24 := by kernel_rfl
  go_enter Try.func32, Try.ntmps32
  go_wp2_with fail
  go_step3
  go_wp2_with fail
  go_step3
  go_wp2_with fail
  go_loopg [2, 3, 4] 27 (fun g n p c wr => ∃ (k : Nat) (c' : Nat), k + g = 30 ∧ 3 ≤ k ∧ p = .int .i64 k ∧ n = .int .i64 (cnt k : Nat) ∧ Blk wr w.heap.size 48 (parr 0) ∧ Blk wr (w.heap.size + 1) 48 (parr (cnt k)) ∧ Below w.heap.size w wr)
  case atStart => exact ⟨3, 0, by omega, by omega, rfl, rfl, (Blk.new' _ rfl rfl).alloc _, Blk.new' _ (by simp) rfl, ((Below.refl _ _).alloc (Nat.le_refl _) _).alloc (by simp) _⟩
  case round =>
    obtain ⟨k, c', hk, hk3, rfl, rfl, hb1, hb2, hbel⟩ := hrel
    cases gk with
    | zero =>
      obtain rfl : k = 30 := by omega
      have e30 : cnt 30 = 24 := by decide +kernel
      rw [e30] at hb2 ⊢
      clear e30
      have hss : (parr 0).size = (parr 24).size := by rw [parr_size, parr_size]
      have hone := parr_one 24
      go_wp2_with (first
        | ((with_reducible show wpList _ _ _ (Oper.mk _ (Op.load 48 (Operand.tmp 1)) _ _ _ _ :: _) _ _); refine wpList_load_row rfl 48 (.tmp 1) rfl (w.heap.size + 1) rfl 48 (parr 24) (0, 0) _ hb2 Try.underlying48 rfl hsz ?_)
        | ((with_reducible show wpList _ _ _ (Oper.mk _ (Op.store 48 (Operand.tmp 0) (Operand.tmp 21)) _ _ _ _ :: _) _ _); refine wpList_store_row rfl 48 (.tmp 0) (.tmp 21) rfl w.heap.size (parr 24) rfl rfl 48 (parr 0) hb1 hsz hss hone ?_))
      have hb3 := hb1.setRow (parr 24)
      try rw [Exit.noGoto_ret]
      refine bodyPost_ret (v := .agg (parr 24)) (results_cell_row rfl _ _ w.heap.size 48 _ (0, 0) _ rfl hb3 Try.underlying48 rfl (by kernel_rfl)) rfl ⟨rfl, Below.setRow hbel (Nat.le_refl _) _⟩
    | succ g =>
      have hlt := cnt_lt k (by omega)
      have i0 : ((cnt k : Nat) : Int) < 24 := by omega
      go_wp2_with fail
      go_loopg [4] 6 (fun g2 c wx => ∃ c' : Nat, c = .int .i64 c' ∧ Hid (chkPow c') ∧ Hid ((k = 4 ∨ k = 8 ∨ k = 16) → c' ≤ k) ∧ 64 ≤ c' * 2 ^ g2 ∧ c' ≤ 32 ∧ wr = wx)
      case atStart => exact ⟨1, rfl, Lib.hid (.inl rfl), Lib.hid (by omega), by omega, by omega, rfl⟩
      case round =>
        obtain ⟨c', rfl, HP, HK, hc2, hc32, rfl⟩ := hrel
        by_cases h32 : c' < 32
        · have hg : 0 < gk := by
            rcases Nat.eq_zero_or_pos gk with rfl | h
            · simp at hc2; omega
            · exact h
          obtain ⟨g2, rfl⟩ : ∃ g2, gk = g2 + 1 := ⟨gk - 1, by omega⟩
          have hc3 : 64 ≤ c' * 2 * 2 ^ g2 := by rw [Nat.pow_succ] at hc2; rw [Nat.mul_assoc, Nat.mul_comm 2]; exact hc2
          have HC := Lib.hid hc3
          clear hc2 hc3
          by_cases he : k = c'
          · have hchk : k = 4 ∨ k = 8 ∨ k = 16 := by have := HP.out; unfold chkPow at this; omega
            have e1 := Lib.hid (cnt_chk k (by omega) hchk)
            have t1 : ((k : Int) == (c' : Int)) = true := by simp [he]
            have HE := Lib.hid he
            clear he hchk
            go_wp2_with fail
            go_roundg g
            case measure => omega
            case rel => exact ⟨k + 1, 0, by omega, by omega, by go_num, by rw [e1.out], hb1, by rw [e1.out]; exact hb2, hbel⟩
          · have t1 : ((k : Int) == (c' : Int)) = false := by simp; omega
            have HE := Lib.hid he
            clear he
            go_wp2_with fail
            go_roundg g2
            case measure => omega
            case rel => exact ⟨c' * 2, by go_num, Lib.hid (by have := HP.out; unfold chkPow at *; omega), Lib.hid (by intro h; have h1 := HK.out h; have h2 := HP.out; have h3 := HE.out; unfold chkPow at h2; omega), HC.out, by have := HP.out; unfold chkPow at this; omega, rfl⟩
        · have hn : ¬ (k = 4 ∨ k = 8 ∨ k = 16) := fun h => by have := HK.out h; omega
          obtain ⟨e1, e2⟩ := cnt_pos k (by omega) hk3 hn
          have E1 := Lib.hid e1
          have E2 := Lib.hid e2
          have hf := hb2.frozen (cnt k)
          obtain ⟨v0, hcl⟩ := hb2.has (cnt k) (by rw [parr_size]; omega)
          clear e1 e2 hn
          go_wp2_with fail
          go_roundg g
          case measure => omega
          case rel =>
            refine ⟨k + 1, 0, by omega, by omega, by go_num, by rw [E1.out]; go_num, hb1.far (by simp) _, ?_, hbel.setCell (by simp) _⟩
            rw [E1.out, ← parr_set]
            have := hb2.set (cnt k) (.int .i64 (k : Int))
            rw [E2.out]
            exact this
end Go.Proofs.Ytknpppbceogbfaa
