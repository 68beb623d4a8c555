/-
  The walks of the reference's Encode, data and Decode.
-/
import Derived.Test.YtknpppbceogbfaaEccR
namespace Go.Proofs.Ytknpppbceogbfaa
open Go.RowKit

theorem chkB_true (p : Nat) (h3 : 3 ≤ p) (h : chkB p = true) : p = 4 ∨ p = 8 ∨ p = 16 := by
  simp only [chkB, Bool.or_eq_true, beq_iff_eq] at h; omega
theorem chkB_false (p : Nat) (h : chkB p = false) : ¬ (p = 4 ∨ p = 8 ∨ p = 16) := by
  simp only [chkB, Bool.or_eq_false_iff, beq_eq_false_iff_ne] at h; omega
theorem bit_add (x a p : Nat) (h : a ≤ 24) : IntKind.i64.wrap ((Ecc.bit x p : Int) * 2 ^ a) = ((Ecc.bit x p * 2 ^ a : Nat) : Int) := by
  have h2 := bit_mul x a p 24 h
  rw [show (Ecc.bit x p : Int) * 2 ^ a = ((Ecc.bit x p * 2 ^ a : Nat) : Int) by simp, IntKind.wrap_i64]
  omega

set_option maxHeartbeats 1000000 in
theorem ref10_data (x : Nat) (w : World) (hx : x < 4294967296) :
    Calls Try.prog 30 #[.int .u32 (x : Int)] w fun e w' => e = .returned (.int .i64 (Ecc.data x : Nat)) ∧ w = w' := by
  go_enter Try.func30, Try.ntmps30
  go_wp2_with fail
  go_loopg [3, 4, 5] 27 (fun g n a p wr => ∃ k c : Nat, k + g = 30 ∧ 3 ≤ k ∧ Hid (c = cnt k) ∧ c ≤ 24 ∧ p = .int .i64 k ∧ a = .int .i64 c ∧ n = .int .i64 (Ecc.dataK x c : Nat) ∧ w = wr)
  case atStart => exact ⟨3, 0, by omega, by omega, rfl, by omega, rfl, rfl, rfl, rfl⟩
  case round =>
    obtain ⟨k, c, hk, hk3, hc, hc24, rfl, rfl, rfl, rfl⟩ := hrel
    cases gk with
    | zero =>
      obtain rfl : k = 30 := by omega
      obtain rfl : c = 24 := by rw [hc.out]; decide +kernel
      go_wp2_with fail
      go_ret
      exact ⟨rfl, rfl⟩
    | succ g =>
      have i0 : (k : Int) < 30 := by omega
      have hcl : c < 24 := by rw [hc.out]; exact cnt_lt k (by omega)
      have hd := Ecc.dataK_lt x c
      have hp2 := pow_small c 24 (by omega)
      have hd2 : Ecc.dataK x c < 16777216 := by omega
      clear hd hp2
      cases hb : chkB k with
      | true =>
        have e1 := Lib.hid (cnt_chk k (by omega) (chkB_true k hk3 hb))
        have HB := Lib.hid hb
        clear hb
        go_wp2_with fail
        refine (ref10_isCheck k _).mono ?_
        rintro e w1 ⟨rfl, rfl⟩
        rw [HB.out]
        go_wp2_with fail
        go_roundg g
        case measure => omega
        case rel => exact ⟨k + 1, c, by omega, by omega, by rw [e1.out]; exact hc, by omega, by go_num, rfl, rfl, rfl⟩
      | false =>
        have h2 := cnt_pos k (by omega) hk3 (chkB_false k hb)
        rw [← hc.out] at h2
        have E1 := Lib.hid h2.1
        have E2 := Lib.hid h2.2
        have HB := Lib.hid hb
        have hbs := bit_mul x c k 24 (by omega)
        have HS := Lib.hid (Ecc.dataK_succ x c)
        have hba := bit_add x c k (by omega)
        have i2 : (c : Int) ≤ 64 := by omega
        clear hb h2
        go_wp2_with fail
        refine (ref10_isCheck k _).mono ?_
        rintro e w1 ⟨rfl, rfl⟩
        rw [HB.out]
        go_wp2_with (go_at_call 34; refine (ref10_bit x k _ _ hx (by omega) rfl).mono ?_; rintro e w1 ⟨rfl, rfl⟩)
        go_roundg g
        case measure => omega
        case rel =>
          refine ⟨k + 1, c + 1, by omega, by omega, by rw [E1.out]; rfl, by omega, by go_num, by go_num, ?_, rfl⟩
          have e3 : (Ecc.bit x k : Int) * 2 ^ c = ((Ecc.bit x k * 2 ^ c : Nat) : Int) := by simp
          rw [HS.out, E2.out]
          try rw [e3]
          congr 1
          simp only [wrap64]
          omega

set_option maxHeartbeats 1000000 in
theorem ref10_Decode (x : Nat) (w : World) (hx : x < 4294967296) :
    Calls Try.prog 13 #[.int .u32 (x : Int)] w fun e w' => e = .returned (.tuple #[.int .i64 ((Ecc.decode x).1 : Int), .int .i64 ((Ecc.decode x).2 : Int)]) ∧ w = w' := by
  cases h1 : Ecc.isCode x with
  | true =>
    have e : Ecc.decode x = (Ecc.data x, 0) := by unfold Ecc.decode; rw [if_pos h1]
    rw [e]
    clear e
    go_enter Try.func13, Try.ntmps13
    go_wp2_with fail
    refine (ref10_IsCode _ _ hx).mono ?_
    rintro e w1 ⟨rfl, rfl⟩
    rw [h1]
    go_wp2_with (go_at_call 30; refine (ref10_data _ _ hx).mono ?_; rintro e w2 ⟨rfl, rfl⟩)
    go_ret2
    exact ⟨rfl, rfl⟩
  | false =>
    have hdec := Lib.hid (show Ecc.decode x = if Ecc.isCode (Ecc.fix x) then (Ecc.data (Ecc.fix x), 1) else (0, 2) by unfold Ecc.decode; rw [if_neg (by rw [h1]; simp)])
    have H1 := Lib.hid h1
    clear h1
    generalize hD : Ecc.decode x = D at *
    have HD := Lib.hid hD
    clear hD
    obtain ⟨d, how⟩ := D
    go_enter Try.func13, Try.ntmps13
    go_wp2_with fail
    refine (ref10_IsCode _ _ hx).mono ?_
    rintro e w1 ⟨rfl, rfl⟩
    rw [H1.out]
    go_wp2_with fail
    go_loopg [4] 32 (fun g p wr => ∃ k : Nat, k + g = 32 ∧ p = .int .i64 k ∧ Hid (Ecc.isCode (Ecc.fix x) = true → k ≤ Ecc.syn x) ∧ w = wr)
    case atStart => exact ⟨0, by omega, rfl, Lib.hid (fun _ => Nat.zero_le _), rfl⟩
    case round =>
      obtain ⟨k, hk, rfl, hle, rfl⟩ := hrel
      cases gk with
      | zero =>
        obtain rfl : k = 32 := by omega
        have hn : Ecc.isCode (Ecc.fix x) = false := by
          cases hc : Ecc.isCode (Ecc.fix x) with
          | false => rfl
          | true => have := hle.out hc; have := Ecc.syn_lt x; omega
        have e := hdec.out
        rw [hn, if_neg (by simp)] at e
        obtain ⟨rfl, rfl⟩ : d = 0 ∧ how = 2 := by simpa using e
        clear e hn
        go_wp2_with fail
        go_ret2
        exact ⟨rfl, rfl⟩
      | succ g =>
        have i0 : (k : Int) < 32 := by omega
        have i1 : (k : Int) ≤ 32 := by omega
        have hfl := flip_bit x k hx (by omega)
        have hxl : x ^^^ 2 ^ k < 4294967296 := Nat.xor_lt_two_pow (n := 32) hx (Nat.pow_lt_pow_right (by omega) (by omega))
        cases hc : Ecc.isCode (x ^^^ 2 ^ k) with
        | true =>
          have hs := Ecc.isCode_syn x k (by omega) hc
          have hfx : Ecc.fix x = x ^^^ 2 ^ k := by unfold Ecc.fix; rw [hs]
          have e := hdec.out
          rw [hfx, if_pos hc] at e
          obtain ⟨rfl, rfl⟩ : d = Ecc.data (x ^^^ 2 ^ k) ∧ how = 1 := by simpa using e
          have HC := Lib.hid hc
          clear e hfx hs hc hdec
          go_wp2_with fail
          refine (ref10_IsCode _ _ hxl).mono ?_
          rintro e w1 ⟨rfl, rfl⟩
          rw [HC.out]
          go_wp2_with (go_at_call 30; refine (ref10_data _ _ hxl).mono ?_; rintro e w2 ⟨rfl, rfl⟩)
          go_ret2
          exact ⟨rfl, rfl⟩
        | false =>
          have HC := Lib.hid hc
          clear hc
          go_wp2_with fail
          refine (ref10_IsCode _ _ hxl).mono ?_
          rintro e w1 ⟨rfl, rfl⟩
          rw [HC.out]
          go_wp2_with fail
          go_roundg g
          case measure => omega
          case rel =>
            refine ⟨k + 1, by omega, by go_num, Lib.hid (fun h => ?_), rfl⟩
            have h2 := hle.out h
            rcases Nat.lt_or_ge k (Ecc.syn x) with h3 | h3
            · exact h3
            · exfalso
              have : k = Ecc.syn x := by omega
              have h4 := HC.out
              rw [this] at h4
              rw [show Ecc.fix x = x ^^^ 2 ^ Ecc.syn x from rfl, h4] at h
              cases h

theorem test_bit (n k : Nat) (hn : n < 16777216) : (bits BinOp.and IntKind.i64 ((n : Int) / 2 ^ k) 1 == 1) = (Ecc.bit n k == 1) := by
  rw [ecc_shr64 n k (by omega)]
  rcases (show Ecc.bit n k = 0 ∨ Ecc.bit n k = 1 by have := Ecc.bit_lt n k; omega) with h | h <;> rw [h] <;> rfl
theorem or_bit (x p : Nat) (hx : x < 4294967296) (hp : p < 32) : bits BinOp.or IntKind.u32 (x : Int) (2 ^ p % 4294967296) = ((x ||| 2 ^ p : Nat) : Int) := by
  have h1 := pow_small p 31 (by omega)
  rw [show (2 : Int) ^ p % 4294967296 = ((2 ^ p : Nat) : Int) by rw [show (2 : Int) ^ p = ((2 ^ p : Nat) : Int) by simp]; generalize 2 ^ p = q at *; omega, u32_or_nat _ _ hx (by omega)]
theorem or_one (x : Nat) (hx : x < 4294967296) : bits BinOp.or IntKind.u32 (x : Int) 1 = ((x ||| 1 : Nat) : Int) := by
  rw [show (1 : Int) = ((1 : Nat) : Int) from rfl, u32_or_nat _ _ hx (by omega)]

set_option maxHeartbeats 1000000 in
theorem ref10_Encode_out (d : Int) (w : World) (h : ¬ (0 ≤ d ∧ d < 16777216)) :
    Calls Try.prog 10 #[.int .i64 d] w fun e w' => e = .returned (.tuple #[.int .u32 0, .int .i64 2]) ∧ w = w' := by
  by_cases h0 : 0 ≤ d
  · have i1 : decide ((16777216 : Int) ≤ d) = true := by simp; omega
    have i2 : decide (d < 0) = false := by simp; omega
    clear h
    go_enter Try.func10, Try.ntmps10
    go_wp2_with fail
    go_ret2
    exact ⟨rfl, rfl⟩
  · have i2 : decide (d < 0) = true := by simp; omega
    clear h h0
    go_enter Try.func10, Try.ntmps10
    go_wp2_with fail
    go_ret2
    exact ⟨rfl, rfl⟩

set_option maxHeartbeats 1000000 in
theorem ref10_Encode_in (n : Nat) (w : World) (hn : n < 16777216) :
    Calls Try.prog 10 #[.int .i64 (n : Int)] w fun e w' => e = .returned (.tuple #[.int .u32 (Ecc.code n : Nat), .int .i64 0]) ∧ w = w' := by
  have i2 : (n : Int) ≤ 16777215 := by omega
  go_enter Try.func10, Try.ntmps10
  go_wp2_with fail
  go_loopg [4, 5, 6] 27 (fun g v a p wr => ∃ k c : Nat, k + g = 30 ∧ 3 ≤ k ∧ Hid (c = cnt k) ∧ c ≤ 24 ∧ p = .int .i64 k ∧ a = .int .i64 c ∧ v = .int .u32 (Ecc.layK n c : Nat) ∧ w = wr)
  case atStart => exact ⟨3, 0, by omega, by omega, rfl, by omega, rfl, rfl, rfl, rfl⟩
  case round =>
    obtain ⟨k, c, hk, hk3, hc, hc24, rfl, rfl, rfl, rfl⟩ := hrel
    cases gk with
    | zero =>
      obtain rfl : k = 30 := by omega
      obtain rfl : c = 24 := by rw [hc.out]; decide +kernel
      have hl := Ecc.lay_lt n
      have hs := Ecc.syn_lt (Ecc.lay n)
      rw [show Ecc.layK n 24 = Ecc.lay n from rfl]
      go_wp2_with (go_at_call 24; refine (ref10_syndrome _ _ (by omega)).mono ?_; rintro e w2 ⟨rfl, rfl⟩)
      go_loopg [4, 8] 5 (fun g v c wr => ∃ c' a : Nat, c = .int .i64 c' ∧ v = .int .u32 ((Ecc.lay n ||| a : Nat) : Int) ∧ Hid (chkIs (Ecc.syn (Ecc.lay n)) g c' a) ∧ w = wr)
      case atStart => exact ⟨1, 0, rfl, by rw [Nat.or_zero], Lib.hid ⟨0, rfl, rfl, rfl⟩, rfl⟩
      case round =>
        obtain ⟨c', a, rfl, rfl, HC, rfl⟩ := hrel
        obtain ⟨j, hj, hc, ha⟩ := HC.out
        have hal := chkK_lt (Ecc.syn (Ecc.lay n)) j (by omega)
        rw [← ha] at hal
        have hvl : Ecc.lay n ||| a < 2 ^ 30 := Nat.or_lt_two_pow hl hal
        cases gk with
        | zero =>
          have hc' : c' = 32 := by obtain rfl : j = 5 := by omega
                                   exact hc
          have e : Ecc.lay n ||| a = Ecc.pre n := by rw [ha, show j = 5 by omega]; rfl
          rw [e] at hvl ⊢
          subst hc'
          clear ha e hc HC
          have hor := Lib.hid (or_one (Ecc.pre n) (by omega))
          rcases Nat.mod_two_eq_zero_or_one (Ecc.ones (Ecc.pre n)) with h | h
          · have H := Lib.hid h
            have he : (Ecc.ones (Ecc.pre n) % 2 == 0) = true := by rw [h]; rfl
            have HE := Lib.hid he
            clear h he
            go_wp2_with fail
            refine (ref10_even _ _ (by omega)).mono ?_
            rintro e w2 ⟨rfl, rfl⟩
            rw [HE.out]
            go_wp2_with fail
            go_ret2
            exact ⟨by rw [Ecc.code, H.out, Nat.or_zero]; rfl, rfl⟩
          · have H := Lib.hid h
            have he : (Ecc.ones (Ecc.pre n) % 2 == 0) = false := by rw [h]; rfl
            have HE := Lib.hid he
            clear h he
            go_wp2_with fail
            refine (ref10_even _ _ (by omega)).mono ?_
            rintro e w2 ⟨rfl, rfl⟩
            rw [HE.out]
            go_wp2_with fail
            go_ret2
            exact ⟨by rw [Ecc.code, H.out, hor.out]; rfl, rfl⟩
        | succ g =>
          have hj5 : j < 5 := by omega
          have hcl : c' < 30 := by rw [hc]; have := pow_small j 4 (by omega); omega
          have tb := chk_and _ c' j hs hc hj5
          have OL := Lib.hid (or_low a (Ecc.lay n) c' hcl hal hl)
          have hsc := chkK_succ (Ecc.syn (Ecc.lay n)) j
          have HA := Lib.hid ha
          have HCC := Lib.hid hc
          have i0 : (c' : Int) < 32 := by omega
          cases hb : (Ecc.syn (Ecc.lay n)).testBit j with
          | false =>
            rw [hb] at tb hsc
            have HS := Lib.hid hsc
            have HB := Lib.hid hb
            clear hb ha hc hsc HC
            go_wp2_with fail
            go_roundg g
            case measure => omega
            case rel => exact ⟨2 * c', a, by go_num, rfl, Lib.hid ⟨j + 1, by omega, by rw [HCC.out, Nat.pow_succ, Nat.mul_comm], by rw [HS.out, HA.out]; rfl⟩, rfl⟩
          | true =>
            rw [hb] at tb hsc
            have HS := Lib.hid hsc
            have HB := Lib.hid hb
            clear hb ha hc hsc HC
            go_wp2_with fail
            go_roundg g
            case measure => omega
            case rel => exact ⟨2 * c', a ||| 2 ^ c', by go_num, congrArg (Value.int .u32) OL.out, Lib.hid ⟨j + 1, by omega, by rw [HCC.out, Nat.pow_succ, Nat.mul_comm], by rw [HS.out, HA.out, HCC.out]; rfl⟩, rfl⟩
    | succ g =>
      have i0 : (k : Int) < 30 := by omega
      have hcl : c < 24 := by rw [hc.out]; exact cnt_lt k (by omega)
      have hll := Ecc.layK_lt n c (by omega)
      cases hb : chkB k with
      | true =>
        have e1 := Lib.hid (cnt_chk k (by omega) (chkB_true k hk3 hb))
        have HB := Lib.hid hb
        clear hb
        go_wp2_with fail
        refine (ref10_isCheck k _).mono ?_
        rintro e w1 ⟨rfl, rfl⟩
        rw [HB.out]
        go_wp2_with fail
        go_roundg g
        case measure => omega
        case rel => exact ⟨k + 1, c, by omega, by omega, by rw [e1.out]; exact hc, by omega, by go_num, rfl, rfl, rfl⟩
      | false =>
        have h2 := cnt_pos k (by omega) hk3 (chkB_false k hb)
        rw [← hc.out] at h2
        have E1 := Lib.hid h2.1
        have E2 := Lib.hid h2.2
        have HB := Lib.hid hb
        have HS := Lib.hid (Ecc.layK_succ n c)
        have tb := test_bit n c hn
        have i2 : (c : Int) ≤ 64 := by omega
        have i3 : (k : Int) ≤ 32 := by omega
        have OB := Lib.hid (or_bit (Ecc.layK n c) k (by omega) (by omega))
        clear hb h2
        rcases (show Ecc.bit n c = 0 ∨ Ecc.bit n c = 1 by have := Ecc.bit_lt n c; omega) with h | h
        · have H := Lib.hid h
          rw [h, show ((0 : Nat) == 1) = false from rfl] at tb
          clear h
          go_wp2_with fail
          refine (ref10_isCheck k _).mono ?_
          rintro e w1 ⟨rfl, rfl⟩
          rw [HB.out]
          go_wp2_with fail
          go_roundg g
          case measure => omega
          case rel => exact ⟨k + 1, c + 1, by omega, by omega, by rw [E1.out]; rfl, by omega, by go_num, by go_num, by rw [HS.out, H.out, Nat.zero_mul, Nat.or_zero], rfl⟩
        · have H := Lib.hid h
          rw [h, show ((1 : Nat) == 1) = true from rfl] at tb
          clear h
          go_wp2_with fail
          refine (ref10_isCheck k _).mono ?_
          rintro e w1 ⟨rfl, rfl⟩
          rw [HB.out]
          go_wp2_with fail
          go_roundg g
          case measure => omega
          case rel => exact ⟨k + 1, c + 1, by omega, by omega, by rw [E1.out]; rfl, by omega, by go_num, by go_num, by rw [HS.out, H.out, Nat.one_mul, E2.out, OB.out], rfl⟩

theorem ref10_Encode (d : Int) (w : World) :
    Calls Try.prog 10 #[.int .i64 d] w fun e w' => e = .returned (.tuple #[.int .u32 (encW d : Nat), .int .i64 (encE d)]) ∧ w = w' := by
  by_cases h : 0 ≤ d ∧ d < 16777216
  · obtain ⟨n, rfl⟩ := Int.eq_ofNat_of_zero_le h.1
    have e1 : encW (n : Int) = Ecc.code n := by unfold encW; rw [if_pos h]; rfl
    have e2 : encE (n : Int) = 0 := by unfold encE; rw [if_pos h]
    rw [e1, e2]
    exact ref10_Encode_in n w (by omega)
  · have e1 : encW d = 0 := by unfold encW; rw [if_neg h]
    have e2 : encE d = 2 := by unfold encE; rw [if_neg h]
    rw [e1, e2]
    exact ref10_Encode_out d w h
end Go.Proofs.Ytknpppbceogbfaa
