/-
  The walks of Case, and of number.
-/
import Derived.Test.YtapfiapjefnjjaaApdW
import Derived.Test.YtapfiapjefnjjaaOctE
namespace Go.Proofs.Ytapfiapjefnjjaa
set_option linter.unusedSimpArgs false
open Go.RowKit

set_option maxRecDepth 100000 in
set_option maxHeartbeats 2000000 in
theorem apdu_Case (cla ins p1 p2 : Int) (A : Option Addr) (n c : Nat) (le : Int) (long : Bool) (w : World) :
    Calls Try.prog 16 #[cmdV cla ins p1 p2 A n c le long] w fun e w' => e = .returned (.int .i64 (Apd.cas cla ins p1 p2 n le long)) ∧ Below w.heap.size w w' := by
  have HC := Lib.hid (apdu_Check cla ins p1 p2 A n c le long)
  have HB := Lib.hid (Blk.new w 24 #[I64 cla, I64 ins, I64 p1, I64 p2, .slice A n c, I64 le, .bool long])
  have HE := Lib.hid ((Below.refl w.heap.size w).alloc (Nat.le_refl _) (.cells #[I64 cla, I64 ins, I64 p1, I64 p2, .slice A n c, I64 le, .bool long] 24))
  unfold cmdV at HC ⊢
  have hs : w.heap.size ≤ (w.alloc (.cells #[I64 cla, I64 ins, I64 p1, I64 p2, .slice A n c, I64 le, .bool long] 24)).heap.size := HE.out.size
  by_cases h0 : Apd.chk cla ins p1 p2 n le long = 0
  · have e : Apd.cas cla ins p1 p2 n le long = 1 + (if 0 < n then 2 else 0) + (if 0 < le then 1 else 0) := by unfold Apd.cas; rw [if_pos h0]
    rw [e]
    have hc := HC.out
    rw [h0] at hc
    replace HC := Lib.hid hc
    clear e h0 hc
    by_cases h1 : 0 < n <;> by_cases h2 : 0 < le
    all_goals
      go_enter Try.func16, Try.ntmps16
      go_wp2_with (go_at_call 14; refine (HC.out _).mono ?_; rintro e w1 ⟨rfl, hb1⟩; have B1 := HB.out.below hb1 HB.out.lt; have k4 := B1.cell 4; have k5 := B1.cell 5; clear B1)
      go_ret
      exact ⟨by simp [h1, h2], HE.out.trans (hb1.mono hs)⟩
  · have e : Apd.cas cla ins p1 p2 n le long = 0 := by unfold Apd.cas; rw [if_neg h0]
    rw [e]
    clear e
    go_enter Try.func16, Try.ntmps16
    go_wp2_with (go_at_call 14; refine (HC.out _).mono ?_; rintro e w1 ⟨rfl, hb1⟩)
    go_ret
    exact ⟨rfl, HE.out.trans (hb1.mono hs)⟩
set_option maxRecDepth 100000 in
set_option maxHeartbeats 2000000 in
theorem ref04_Case (cla ins p1 p2 : Int) (A : Option Addr) (n c : Nat) (le : Int) (long : Bool) (w : World) :
    Calls Try.prog 17 #[cmdV cla ins p1 p2 A n c le long] w fun e w' => e = .returned (.int .i64 (Apd.cas cla ins p1 p2 n le long)) ∧ Below w.heap.size w w' := by
  have HC := Lib.hid (ref04_Check cla ins p1 p2 A n c le long)
  have HB := Lib.hid (Blk.new w 24 #[I64 cla, I64 ins, I64 p1, I64 p2, .slice A n c, I64 le, .bool long])
  have HE := Lib.hid ((Below.refl w.heap.size w).alloc (Nat.le_refl _) (.cells #[I64 cla, I64 ins, I64 p1, I64 p2, .slice A n c, I64 le, .bool long] 24))
  unfold cmdV at HC ⊢
  have hs : w.heap.size ≤ (w.alloc (.cells #[I64 cla, I64 ins, I64 p1, I64 p2, .slice A n c, I64 le, .bool long] 24)).heap.size := HE.out.size
  by_cases h0 : Apd.chk cla ins p1 p2 n le long = 0
  · have e : Apd.cas cla ins p1 p2 n le long = 1 + (if 0 < n then 2 else 0) + (if 0 < le then 1 else 0) := by unfold Apd.cas; rw [if_pos h0]
    rw [e]
    have hc := HC.out
    rw [h0] at hc
    replace HC := Lib.hid hc
    clear e h0 hc
    by_cases h1 : 0 < n <;> by_cases h2 : 0 < le
    all_goals
      go_enter Try.func17, Try.ntmps17
      go_wp2_with (go_at_call 15; refine (HC.out _).mono ?_; rintro e w1 ⟨rfl, hb1⟩; have B1 := HB.out.below hb1 HB.out.lt; have k4 := B1.cell 4; have k5 := B1.cell 5; clear B1)
      go_ret
      exact ⟨by simp [h1, h2], HE.out.trans (hb1.mono hs)⟩
  · have e : Apd.cas cla ins p1 p2 n le long = 0 := by unfold Apd.cas; rw [if_neg h0]
    rw [e]
    clear e
    go_enter Try.func17, Try.ntmps17
    go_wp2_with (go_at_call 15; refine (HC.out _).mono ?_; rintro e w1 ⟨rfl, hb1⟩)
    go_ret
    exact ⟨rfl, HE.out.trans (hb1.mono hs)⟩

theorem ofInt_i64 (a : Nat) (ha : a < 9223372036854775808) : (BitVec.ofInt 64 (a : Int)).toNat = a := by
  rw [BitVec.ofInt_natCast, BitVec.toNat_ofNat]; exact Nat.mod_eq_of_lt (by omega)
theorem i64_and_nat (a b : Nat) (ha : a < 9223372036854775808) (hb : b < 9223372036854775808) : bits .and .i64 (a : Int) (b : Int) = ((a &&& b : Nat) : Int) := by
  have hx : a &&& b < 2 ^ 63 := Nat.and_lt_two_pow _ (by omega)
  show IntKind.i64.wrap ((BitVec.ofInt 64 (a : Int) &&& BitVec.ofInt 64 (b : Int)).toNat : Int) = _
  rw [BitVec.toNat_and, ofInt_i64 a ha, ofInt_i64 b hb, IntKind.wrap_i64]
  omega
theorem i64_or_nat (a b : Nat) (ha : a < 9223372036854775808) (hb : b < 9223372036854775808) : bits .or .i64 (a : Int) (b : Int) = ((a ||| b : Nat) : Int) := by
  have hx : a ||| b < 2 ^ 63 := Nat.or_lt_two_pow (by omega) (by omega)
  show IntKind.i64.wrap ((BitVec.ofInt 64 (a : Int) ||| BitVec.ofInt 64 (b : Int)).toNat : Int) = _
  rw [BitVec.toNat_or, ofInt_i64 a ha, ofInt_i64 b hb, IntKind.wrap_i64]
  omega
theorem i64_xor_nat (a b : Nat) (ha : a < 9223372036854775808) (hb : b < 9223372036854775808) : bits .xor .i64 (a : Int) (b : Int) = ((a ^^^ b : Nat) : Int) := by
  have hx : a ^^^ b < 2 ^ 63 := Nat.xor_lt_two_pow (by omega) (by omega)
  show IntKind.i64.wrap ((BitVec.ofInt 64 (a : Int) ^^^ BitVec.ofInt 64 (b : Int)).toNat : Int) = _
  rw [BitVec.toNat_xor, ofInt_i64 a ha, ofInt_i64 b hb, IntKind.wrap_i64]
  omega
theorem ecc_xor (a b : Nat) (ha : a < 64) (hb : b < 64) : bits BinOp.xor IntKind.i64 (a : Int) (b : Int) = ((a ^^^ b : Nat) : Int) := i64_xor_nat a b (by omega) (by omega)
theorem and255 (n : Nat) (h : n ≤ 65536) : bits .and .i64 (n : Int) 255 = ((n % 256 ^ 1 : Nat) : Int) := by
  rw [show (255 : Int) = ((255 : Nat) : Int) from rfl, i64_and_nat _ _ (by omega) (by omega), show 255 = 2 ^ 8 - 1 from rfl, Nat.and_two_pow_sub_one_eq_mod]
theorem and65535 (n : Nat) (h : n ≤ 65536) : bits .and .i64 (n : Int) 65535 = ((n % 256 ^ 2 : Nat) : Int) := by
  rw [show (65535 : Int) = ((65535 : Nat) : Int) from rfl, i64_and_nat _ _ (by omega) (by omega), show 65535 = 2 ^ 16 - 1 from rfl, Nat.and_two_pow_sub_one_eq_mod]

theorem putB_mod (n m : Nat) (hm : m = 1 ∨ m = 2) : Oct.putB (n % 256 ^ m) m = Oct.putB n m := by
  unfold Oct.putB
  rcases hm with rfl | rfl
  · simp [List.range_succ]
    apply UInt8.toNat_inj.1; simp
  · simp [List.range_succ]
    constructor
    · apply UInt8.toNat_inj.1; simp <;> omega
    · apply UInt8.toNat_inj.1; simp <;> omega

set_option maxHeartbeats 2000000 in
theorem apdu_number (n m : Nat) (w : World) (hm : m = 1 ∨ m = 2) (hn : n ≤ 65536) :
    Calls Try.prog 40 #[.int .i64 (n : Int), .int .i64 (m : Int)] w fun e w' => ∃ A2 c2, e = .returned (.slice A2 m c2) ∧ Own w' w.heap.size 5 1 A2 m c2 (bcells (Oct.putB n m)) ∧ Below w.heap.size w w' := by
  have hp := pt_ok (n % 256 ^ m) m (by omega) (by omega) (Nat.mod_lt _ (Nat.pow_pos (by omega)))
  rw [putB_mod n m hm] at hp
  have hP := octets_Put ((n % 256 ^ m : Nat) : Int) (m : Int) w (by have : n % 256 ^ m ≤ n := Nat.mod_le _ _; omega)
  rw [hp.1, hp.2] at hP
  have HP := Lib.hid hP
  clear hP hp
  have hl : (Oct.putB n m).length = m := Oct.putB_length n m
  rcases hm with rfl | rfl
  all_goals
    go_enter Try.func40, Try.ntmps40
    go_wp2_with (go_at_call 57; (first | rw [and255 n hn] | rw [and65535 n hn]); refine HP.out.mono ?_; rintro e w1 ⟨A2, c2, rfl, ho, hb⟩; rw [hl] at ho ⊢)
    go_ret
    exact ⟨A2, c2, rfl, ho, hb⟩

set_option maxHeartbeats 2000000 in
theorem ref04_number (k m : Nat) (w : World) (hm : m = 1 ∨ m = 2) (hn : k ≤ 65536) :
    Calls Try.prog 41 #[.int .i64 (k : Int), .int .i64 (m : Int)] w fun e w' => ∃ A2 c2, e = .returned (.slice A2 m c2) ∧ Own w' w.heap.size 5 1 A2 m c2 (bcells (Oct.putB k m)) ∧ Below w.heap.size w w' := by
  obtain ⟨ti, hti, hz0, hz1, hz2⟩ := info_parts o_u8
  have h1 : 1 ≤ m := by omega
  have h8 : m ≤ 8 := by omega
  have hlen : (Oct.putB k m).length = m := Oct.putB_length k m
  have hown0 : ∀ (W : World), Blk W w.heap.size 5 (madeCells #[.int .u8 0] m) → Own W w.heap.size 5 1 (some ⟨w.heap.size, 0, none⟩) m m (bcells (lastK (Oct.putB k m) 0)) := by
    intro W hb
    rw [lastK_zero, hlen, ← bcells_zs]
    exact Own.made hb (Nat.le_refl _) (by unfold maxLen; omega)
  have HO := Lib.hid hown0
  have HLEN := Lib.hid hlen
  have mk := made_u8 (P := Try.prog) 22 5 ti Try.underlying22 hti hz0 hz1 hz2 m (by omega)
  clear hown0 hlen hm
  go_enter Try.func41, Try.ntmps41
  go_wp2_with fail
  go_loopg [0, 6] m (fun g nn i wr => ∃ j q : Nat, j + g = m ∧ Hid (q = k / 256 ^ j) ∧ q ≤ k ∧ i = .int .i64 ((g : Int) - 1) ∧ nn = .int .i64 (q : Int) ∧ Own wr w.heap.size 5 1 (some ⟨w.heap.size, 0, none⟩) m m (bcells (lastK (Oct.putB k m) j)) ∧ Below w.heap.size w wr)
  case atStart => exact ⟨0, k, by omega, Lib.hid (by simp), Nat.le_refl _, rfl, rfl, HO.out _ (Blk.new' _ rfl rfl), (Below.refl _ _).alloc (Nat.le_refl _) _⟩
  case round =>
    obtain ⟨j, q, hj, hq, hqk, rfl, rfl, hown, hbw⟩ := hrel
    cases gk with
    | zero =>
      obtain rfl : j = m := by omega
      rw [show ((0 : Nat) : Int) - 1 = -1 by omega]
      have hf := lastK_full (Oct.putB k j)
      rw [HLEN.out] at hf
      rw [hf] at hown
      clear hf
      go_wp2_with fail
      go_ret
      exact ⟨_, _, rfl, hown, hbw⟩
    | succ g =>
      rw [show ((g + 1 : Nat) : Int) - 1 = (g : Int) by omega]
      have hgm : g = m - 1 - j := by omega
      have hst := lastK_set (Oct.putB k m) j (by rw [HLEN.out]; omega)
      rw [HLEN.out, ← hgm, Oct.putB_get k m g (by omega), show m - 1 - g = j by omega, ← hq.out] at hst
      have HST := Lib.hid hst
      obtain ⟨q2, hq2, hqb, hqs, hcell, hfr, hstore⟩ := hown.elem (i := g) (by omega)
      obtain rfl : w.heap.size = q2 := by simpa using hq2
      have hcell2 : ∃ v, wr.cell? ⟨w.heap.size, g, none⟩ = some v := by
        rw [hcell]; exact ⟨_, List.getElem?_eq_getElem (by rw [length_bcells, lastK_length, HLEN.out]; omega)⟩
      obtain ⟨v0, hcell2⟩ := hcell2
      have hs2 := Lib.hid (hstore (B8 (UInt8.ofNat q)))
      have i0 : (0 : Int) ≤ (g : Int) := by omega
      have i1 : (g : Int) < (m : Int) := by omega
      have i2 : (0 : Int) ≤ (q : Int) := by omega
      have i3 : (q : Int) ≤ 9223372036854775807 := by omega
      have hqn : Hid (q / 256 = k / 256 ^ (j + 1)) := by show _ = _; rw [hq.out, Nat.pow_succ, Nat.div_div_eq_div_mul]
      clear hcell hstore hq2 hst hgm
      go_wp2_with fail
      go_roundg g
      case measure => omega
      case rel =>
        refine ⟨j + 1, q / 256, by omega, hqn, by omega, by go_num, by go_num, ?_, hbw.setCell (by simp) _⟩
        rw [← HST.out, bcells_set]
        have := hs2.out
        rw [B8, UInt8.toNat_ofNat'] at this
        rw [B8, UInt8.toNat_ofNat']
        first | exact this | (have e3 : ((q % 2 ^ 8 : Nat) : Int) = (q : Int) % 256 := by omega
                              rw [e3] at this ⊢
                              exact this)
end Go.Proofs.Ytapfiapjefnjjaa
