/-
  The walks of the library of strings of bytes: Put, Get, Join.
-/
import Derived.Test.YtapfiapjefnjjaaOctC
import Derived.Test.YtapfiapjefnjjaaByts
namespace Go.Proofs.Ytapfiapjefnjjaa
open Go.RowKit

theorem pt_arg (n width : Int) (h : width < 1 ∨ 8 < width) : Oct.ptB n width = [] ∧ Oct.ptE n width = 1 := by
  have e : Oct.ptE n width = 1 := by unfold Oct.ptE; rw [if_pos h]
  exact ⟨by unfold Oct.ptB; rw [e]; rfl, e⟩
theorem pt_range (n : Int) (m : Nat) (h1 : 1 ≤ m) (h8 : m ≤ 8) (h : n < 0 ∨ (256 : Int) ^ m ≤ n) : Oct.ptB n (m : Int) = [] ∧ Oct.ptE n (m : Int) = 2 := by
  have e : Oct.ptE n (m : Int) = 2 := by unfold Oct.ptE; rw [if_neg (by omega), if_pos (by simpa using h)]
  exact ⟨by unfold Oct.ptB; rw [e]; rfl, e⟩
theorem pt_ok (n m : Nat) (h1 : 1 ≤ m) (h8 : m ≤ 8) (h : n < 256 ^ m) : Oct.ptB (n : Int) (m : Int) = Oct.putB n m ∧ Oct.ptE (n : Int) (m : Int) = 0 := by
  have hi : (n : Int) < (256 : Int) ^ m := by have : ((n : Nat) : Int) < ((256 ^ m : Nat) : Int) := by omega
                                              simpa using this
  have e : Oct.ptE (n : Int) (m : Int) = 0 := by unfold Oct.ptE; rw [if_neg (by omega), if_neg (by simp only [Int.toNat_natCast]; omega)]
  exact ⟨by unfold Oct.ptB; rw [if_pos e]; simp, e⟩

theorem pow8 (m : Nat) : 2 ^ (8 * m) = 256 ^ m := by rw [Nat.pow_mul]
theorem shr8 (k m : Nat) : ((k : Int) / 2 ^ (8 * m)) = ((k / 256 ^ m : Nat) : Int) := by
  rw [← pow8]; simp
theorem shr8_ne (k m : Nat) : ((k : Int) / 2 ^ (8 * m) != 0) = decide (256 ^ m ≤ k) := by
  rw [shr8]
  have hp : 0 < 256 ^ m := Nat.pow_pos (by omega)
  by_cases h : 256 ^ m ≤ k
  · have := (Nat.le_div_iff_mul_le hp (x := 1) (y := k)).2 (by omega)
    simp only [h, decide_true, bne_iff_ne]
    omega
  · rw [Nat.div_eq_of_lt (by omega)]; simp [h]

set_option maxHeartbeats 2000000 in
theorem octets_Put (n width : Int) (w : World) (hn : n ≤ 9223372036854775807) :
    Calls Try.prog 57 #[.int .i64 n, .int .i64 width] w (BRes 5 w (Oct.ptB n width) (Oct.ptE n width)) := by
  obtain ⟨ti, hti, hz0, hz1, hz2⟩ := info_parts o_u8
  by_cases hw1 : width < 1
  · have e := Lib.hid (pt_arg n width (.inl hw1))
    have t1 : decide (width < 1) = true := by simpa using hw1
    clear hw1
    go_enter Try.func57, Try.ntmps57
    go_wp2_with fail
    go_ret2
    rw [e.out.1, e.out.2]
    exact BRes.nil _ (Below.refl _ _)
  by_cases hw8 : 8 < width
  · have e := Lib.hid (pt_arg n width (.inr hw8))
    have t1 : decide (width < 1) = false := by simpa using hw1
    have t2 : decide (8 < width) = true := by simpa using hw8
    clear hw1 hw8
    go_enter Try.func57, Try.ntmps57
    go_wp2_with fail
    go_ret2
    rw [e.out.1, e.out.2]
    exact BRes.nil _ (Below.refl _ _)
  obtain ⟨m, rfl⟩ := Int.eq_ofNat_of_zero_le (show 0 ≤ width by omega)
  have h1 : 1 ≤ m := by omega
  have h8 : m ≤ 8 := by omega
  have t1 : decide ((m : Int) < 1) = false := by simpa using hw1
  have t2 : decide ((8 : Int) < (m : Int)) = false := by simpa using hw8
  clear hw1 hw8
  by_cases hn0 : n < 0
  · have e := Lib.hid (pt_range n m h1 h8 (.inl hn0))
    have t3 : decide (n < 0) = true := by simpa using hn0
    clear hn0
    go_enter Try.func57, Try.ntmps57
    go_wp2_with fail
    go_ret2
    rw [e.out.1, e.out.2]
    exact BRes.nil _ (Below.refl _ _)
  obtain ⟨k, rfl⟩ := Int.eq_ofNat_of_zero_le (show 0 ≤ n by omega)
  have t3 : decide ((k : Int) < 0) = false := by simp
  clear hn0
  by_cases hm : m < 8
  · have t4 : decide ((m : Int) < 8) = true := by simp; omega
    by_cases hr : 256 ^ m ≤ k
    · have t5 := shr8_ne k m
      rw [decide_eq_true hr] at t5
      have e := Lib.hid (pt_range k m h1 h8 (.inr (by have : ((256 ^ m : Nat) : Int) ≤ ((k : Nat) : Int) := by omega
                                                      simpa using this)))
      clear hr
      go_enter Try.func57, Try.ntmps57
      go_wp2_with fail
      go_ret2
      rw [e.out.1, e.out.2]
      exact BRes.nil _ (Below.refl _ _)
    have hlt : k < 256 ^ m := by omega
    have t5 := shr8_ne k m
    rw [decide_eq_false hr] at t5
    clear hr hm
    have ep := pt_ok k m h1 h8 hlt
    have hlen : (Oct.putB k m).length = m := Oct.putB_length k m
    have hown0 : ∀ (W : World), Blk W w.heap.size 5 (madeCells #[.int .u8 0] m) → Own W w.heap.size 5 1 (some ⟨w.heap.size, 0, none⟩) m m (bcells (lastK (Oct.putB k m) 0)) := by
      intro W hb
      rw [lastK_zero, hlen, ← bcells_zs]
      exact Own.made hb (Nat.le_refl _) (by unfold maxLen; omega)
    have HO := Lib.hid hown0
    have HLEN := Lib.hid hlen
    have EP := Lib.hid ep
    have hk63 : (k : Int) ≤ 9223372036854775807 := hn
    clear hown0 hlen ep
    have mk := made_u8 (P := Try.prog) 22 5 ti Try.underlying22 hti hz0 hz1 hz2 m (by omega)
    go_enter Try.func57, Try.ntmps57
    go_wp2_with fail
    go_loopg [31] m (fun g i wr => ∃ j : Nat, j + g = m ∧ i = .int .i64 j ∧ Own wr w.heap.size 5 1 (some ⟨w.heap.size, 0, none⟩) m m (bcells (lastK (Oct.putB k m) j)) ∧ Below w.heap.size w wr)
    case atStart => exact ⟨0, by omega, rfl, HO.out _ (Blk.new' _ rfl rfl), (Below.refl _ _).alloc (Nat.le_refl _) _⟩
    case round =>
      obtain ⟨j, hj, rfl, hown, hbw⟩ := hrel
      cases gk with
      | zero =>
        obtain rfl : j = m := by omega
        have hf := lastK_full (Oct.putB k j)
        rw [HLEN.out] at hf
        rw [hf] at hown
        clear hf
        go_wp2_with fail
        go_ret2
        rw [EP.out.1, EP.out.2]
        exact BRes.mk HLEN.out hown hbw
      | succ g =>
        have hjm : (j : Int) < (m : Int) := by omega
        have hst := lastK_set (Oct.putB k m) j (by rw [HLEN.out]; omega)
        rw [HLEN.out, Oct.putB_get k m (m - 1 - j) (by omega), show m - 1 - (m - 1 - j) = j by omega] at hst
        have HST := Lib.hid hst
        obtain ⟨q, hq, hqb, hqs, hcell, hfr, hstore⟩ := hown.elem (i := m - 1 - j) (by omega)
        obtain rfl : w.heap.size = q := by simpa using hq
        have hcell2 : ∃ v, wr.cell? ⟨w.heap.size, m - 1 - j, none⟩ = some v := by
          rw [hcell]; exact ⟨_, List.getElem?_eq_getElem (by rw [length_bcells, lastK_length, HLEN.out]; omega)⟩
        obtain ⟨v0, hcell2⟩ := hcell2
        have hs2 := Lib.hid (hstore (B8 (UInt8.ofNat (k / 256 ^ j))))
        have HSH := Lib.hid (shr8 k j)
        have i0 : 0 ≤ (m : Int) - 1 - (j : Int) := by omega
        have i1 : (m : Int) - 1 - (j : Int) < (m : Int) := by omega
        have i2 : ((m : Int) - 1 - (j : Int)).toNat = m - 1 - j := by omega
        clear hcell hstore hq hst
        go_wp2_with fail
        go_roundg g
        case measure => omega
        case rel =>
          refine ⟨j + 1, by omega, by go_num, ?_, hbw.setCell (by simp) _⟩
          rw [← HST.out, bcells_set, HSH.out]
          have := hs2.out
          rw [B8, UInt8.toNat_ofNat'] at this
          rw [B8, UInt8.toNat_ofNat']
          exact this
  · have t4 : decide ((m : Int) < 8) = false := by simp; omega
    have hlt : k < 256 ^ m := by
      obtain rfl : m = 8 := by omega
      omega
    clear hm
    have ep := pt_ok k m h1 h8 hlt
    have hlen : (Oct.putB k m).length = m := Oct.putB_length k m
    have hown0 : ∀ (W : World), Blk W w.heap.size 5 (madeCells #[.int .u8 0] m) → Own W w.heap.size 5 1 (some ⟨w.heap.size, 0, none⟩) m m (bcells (lastK (Oct.putB k m) 0)) := by
      intro W hb
      rw [lastK_zero, hlen, ← bcells_zs]
      exact Own.made hb (Nat.le_refl _) (by unfold maxLen; omega)
    have HO := Lib.hid hown0
    have HLEN := Lib.hid hlen
    have EP := Lib.hid ep
    have hk63 : (k : Int) ≤ 9223372036854775807 := hn
    clear hown0 hlen ep
    have mk := made_u8 (P := Try.prog) 22 5 ti Try.underlying22 hti hz0 hz1 hz2 m (by omega)
    go_enter Try.func57, Try.ntmps57
    go_wp2_with fail
    go_loopg [31] m (fun g i wr => ∃ j : Nat, j + g = m ∧ i = .int .i64 j ∧ Own wr w.heap.size 5 1 (some ⟨w.heap.size, 0, none⟩) m m (bcells (lastK (Oct.putB k m) j)) ∧ Below w.heap.size w wr)
    case atStart => exact ⟨0, by omega, rfl, HO.out _ (Blk.new' _ rfl rfl), (Below.refl _ _).alloc (Nat.le_refl _) _⟩
    case round =>
      obtain ⟨j, hj, rfl, hown, hbw⟩ := hrel
      cases gk with
      | zero =>
        obtain rfl : j = m := by omega
        have hf := lastK_full (Oct.putB k j)
        rw [HLEN.out] at hf
        rw [hf] at hown
        clear hf
        go_wp2_with fail
        go_ret2
        rw [EP.out.1, EP.out.2]
        exact BRes.mk HLEN.out hown hbw
      | succ g =>
        have hjm : (j : Int) < (m : Int) := by omega
        have hst := lastK_set (Oct.putB k m) j (by rw [HLEN.out]; omega)
        rw [HLEN.out, Oct.putB_get k m (m - 1 - j) (by omega), show m - 1 - (m - 1 - j) = j by omega] at hst
        have HST := Lib.hid hst
        obtain ⟨q, hq, hqb, hqs, hcell, hfr, hstore⟩ := hown.elem (i := m - 1 - j) (by omega)
        obtain rfl : w.heap.size = q := by simpa using hq
        have hcell2 : ∃ v, wr.cell? ⟨w.heap.size, m - 1 - j, none⟩ = some v := by
          rw [hcell]; exact ⟨_, List.getElem?_eq_getElem (by rw [length_bcells, lastK_length, HLEN.out]; omega)⟩
        obtain ⟨v0, hcell2⟩ := hcell2
        have hs2 := Lib.hid (hstore (B8 (UInt8.ofNat (k / 256 ^ j))))
        have HSH := Lib.hid (shr8 k j)
        have i0 : 0 ≤ (m : Int) - 1 - (j : Int) := by omega
        have i1 : (m : Int) - 1 - (j : Int) < (m : Int) := by omega
        have i2 : ((m : Int) - 1 - (j : Int)).toNat = m - 1 - j := by omega
        clear hcell hstore hq hst
        go_wp2_with fail
        go_roundg g
        case measure => omega
        case rel =>
          refine ⟨j + 1, by omega, by go_num, ?_, hbw.setCell (by simp) _⟩
          rw [← HST.out, bcells_set, HSH.out]
          have := hs2.out
          rw [B8, UInt8.toNat_ofNat'] at this
          rw [B8, UInt8.toNat_ofNat']
          exact this

/-- A number below 2^64 as an int. -/
def sg (n : Nat) : Int := if n < 9223372036854775808 then (n : Int) else (n : Int) - 18446744073709551616
theorem sg_small (n : Nat) (h : n < 9223372036854775808) : sg n = (n : Int) := by unfold sg; rw [if_pos h]
theorem sg_big (n : Nat) (h : 9223372036854775808 ≤ n) (h2 : n < 18446744073709551616) : sg n < 0 := by unfold sg; rw [if_neg (by omega)]; omega
theorem numK_56 (b : List UInt8) (k : Nat) (h : k ≤ 7) : Oct.numK b k < 72057594037927936 :=
  Nat.lt_of_lt_of_le (Oct.numK_lt b k) (Nat.le_trans (Nat.pow_le_pow_right (by omega) h) (by decide))
theorem or_get (n x : Nat) (hn : n < 72057594037927936) (hx : x < 256) : bits BinOp.or IntKind.i64 (wrap64 ((n : Int) * 256)) (x : Int) = sg (n * 256 + x) := by
  have e1 : (BitVec.ofInt 64 (wrap64 ((n : Int) * 256))).toNat = n * 256 := by
    rw [BitVec.toNat_ofInt]
    simp only [wrap64]
    omega
  have e2 : (BitVec.ofInt 64 (x : Int)).toNat = x := by
    rw [BitVec.ofInt_natCast, BitVec.toNat_ofNat]; omega
  show IntKind.i64.wrap ((BitVec.ofInt 64 (wrap64 ((n : Int) * 256)) ||| BitVec.ofInt 64 (x : Int)).toNat : Int) = _
  rw [BitVec.toNat_or, e1, e2, nat_join 8 _ _ (by omega) (by omega), IntKind.wrap_i64]
  unfold sg
  split <;> omega
theorem gt_long (b : List UInt8) (h : 8 < b.length) : Oct.gtN b = 0 ∧ Oct.gtE b = 3 := by
  have e : Oct.gtE b = 3 := by unfold Oct.gtE; rw [if_pos h]
  exact ⟨by unfold Oct.gtN; rw [e]; rfl, e⟩
theorem gt_big (b : List UInt8) (h : b.length ≤ 8) (hb : 9223372036854775808 ≤ Oct.num b) : Oct.gtN b = 0 ∧ Oct.gtE b = 2 := by
  have e : Oct.gtE b = 2 := by unfold Oct.gtE; rw [if_neg (by omega), if_pos hb]
  exact ⟨by unfold Oct.gtN; rw [e]; rfl, e⟩
theorem gt_ok (b : List UInt8) (h : b.length ≤ 8) (hb : Oct.num b < 9223372036854775808) : Oct.gtN b = Oct.num b ∧ Oct.gtE b = 0 := by
  have e : Oct.gtE b = 0 := by unfold Oct.gtE; rw [if_neg (by omega), if_neg (by omega)]
  exact ⟨by unfold Oct.gtN; rw [if_pos e], e⟩

set_option maxHeartbeats 2000000 in
theorem octets_Get (A : Option Addr) (n c : Nat) (bs : List UInt8) (w : World) (h : Byt w w.heap.size A n c bs) :
    Calls Try.prog 59 #[.slice A n c] w fun e w' => e = .returned (.tuple #[.int .i64 (Oct.gtN bs : Int), .int .i64 (Oct.gtE bs)]) ∧ w = w' := by
  have hl := Lib.hid h.1
  have hr := h.2.2
  by_cases h8 : 8 < n
  · have e := gt_long bs (by rw [h.1]; exact h8)
    rw [e.1, e.2]
    have t1 : decide ((8 : Int) < (n : Int)) = true := by simp; omega
    clear e h h8
    go_enter Try.func59, Try.ntmps59
    go_wp2_with fail
    go_ret2
    exact ⟨rfl, rfl⟩
  · have t1 : decide ((8 : Int) < (n : Int)) = false := by simp; omega
    have n8 : n ≤ 8 := by omega
    have hcase : (9223372036854775808 ≤ Oct.num bs ∧ Oct.gtN bs = 0 ∧ Oct.gtE bs = 2) ∨ (Oct.num bs < 9223372036854775808 ∧ Oct.gtN bs = Oct.num bs ∧ Oct.gtE bs = 0) := by
      rcases Nat.lt_or_ge (Oct.num bs) 9223372036854775808 with hh | hh
      · exact .inr ⟨hh, gt_ok bs (by rw [h.1]; exact n8) hh⟩
      · exact .inl ⟨hh, gt_big bs (by rw [h.1]; exact n8) hh⟩
    have HC := Lib.hid hcase
    generalize Oct.gtN bs = rn at *
    generalize Oct.gtE bs = re at *
    clear hcase h h8
    go_enter Try.func59, Try.ntmps59
    go_wp2_with fail
    go_loopg [4, 12] n (fun g v i wr => ∃ k : Nat, k + g = n ∧ i = .int .i64 k ∧ v = .int .i64 (sg (Oct.numK bs k)) ∧ w = wr)
    case atStart => exact ⟨0, by omega, rfl, rfl, rfl⟩
    case round =>
      obtain ⟨k, hk, rfl, rfl, rfl⟩ := hrel
      cases gk with
      | zero =>
        obtain rfl : k = n := by omega
        have hnum : Oct.numK bs k = Oct.num bs := by unfold Oct.num; rw [hl.out]
        have hlt := Oct.numK_lt bs k
        have hp : 256 ^ k ≤ 256 ^ 8 := Nat.pow_le_pow_right (by omega) n8
        rw [hnum] at hlt ⊢
        have hb := sg_big (Oct.num bs)
        have hs := sg_small (Oct.num bs)
        generalize sg (Oct.num bs) = z at *
        rcases HC.out with ⟨hh, e1, e2⟩ | ⟨hh, e1, e2⟩
        · have hneg := hb hh (by omega)
          subst e1 e2
          have t2 : decide (z < 0) = true := by simpa using hneg
          clear hb hs hnum hlt hp hh HC hneg
          go_wp2_with fail
          go_ret2
          exact ⟨rfl, rfl⟩
        · have hz := hs hh
          subst e2
          subst hz
          have t2 : decide ((Oct.num bs : Int) < 0) = false := by simp
          have E1 := Lib.hid e1
          clear hb hs hnum hlt hp hh HC e1
          go_wp2_with fail
          go_ret2
          exact ⟨by rw [E1.out]; rfl, rfl⟩
      | succ g =>
        have hlt : (k : Int) < (n : Int) := by omega
        have p0 : (0 : Int) ≤ (k : Int) := by omega
        obtain ⟨b1, o1, rfl, hb1, -⟩ := hr.at_ (j := k) (by rw [length_bcells, hl.out]; omega)
        have c1 := hr.byte k (by rw [hl.out]; omega)
        have hx := (bs.getD k 0).toNat_lt
        have h56 := numK_56 bs k (by omega)
        have hor := Lib.hid (or_get (Oct.numK bs k) (bs.getD k 0).toNat h56 hx)
        have hsu := Lib.hid (Oct.numK_succ bs k)
        rw [sg_small _ (by omega)]
        generalize (bs.getD k 0).toNat = x at *
        go_wp2_with fail
        go_roundg g
        case measure => omega
        case rel => exact ⟨k + 1, by omega, by go_num, by rw [hsu.out, ← hor.out], rfl⟩

set_option maxHeartbeats 1000000 in
theorem octets_Join (A : Option Addr) (n c : Nat) (vs : List SV) (w : World) (h : Byts w w.heap.size A vs) (hn : vs.length = n) (hm : n ≤ 9223372036854775807) (ht : (joined vs).length ≤ 1099511627776) :
    Calls Try.prog 52 #[.slice A n c] w fun e w' => ∃ A2 c2, e = .returned (.slice A2 (joined vs).length c2) ∧ Own w' w.heap.size 5 1 A2 (joined vs).length c2 (bcells (joined vs)) ∧ Below w.heap.size w w' := by
  obtain ⟨ti, hti, hz0, hz1, hz2⟩ := info_parts o_u8
  have hl := Lib.hid hn
  clear hn
  go_enter Try.func52, Try.ntmps52
  go_wp2_with fail
  go_loopg [3, 8] n (fun g v i wr => ∃ (k : Nat) (A2 : Option Addr) (m c2 : Nat), k + g = n ∧ i = .int .i64 k ∧ v = .slice A2 m c2 ∧ Hid (m = (joined (vs.take k)).length) ∧ Own wr w.heap.size 5 1 A2 m c2 (bcells (joined (vs.take k))) ∧ Below w.heap.size w wr)
  case atStart => exact ⟨0, none, 0, 0, by omega, rfl, rfl, rfl, Own.none_ _ _ _ _ _, Below.refl _ _⟩
  case round =>
    obtain ⟨k, A2, m, c2, hk, rfl, rfl, hM, hown, hbw⟩ := hrel
    cases gk with
    | zero =>
      obtain rfl : k = n := by omega
      have e1 : vs.take k = vs := List.take_of_length_le (by rw [hl.out]; omega)
      rw [e1] at hM hown
      go_wp2_with fail
      go_ret
      rw [← hM.out]
      exact ⟨A2, c2, rfl, hown, hbw⟩
    | succ g =>
      have hkv : k < vs.length := by rw [hl.out]; omega
      obtain ⟨b, o, rfl, hc, hy⟩ := (h.below hbw).at_ hkv
      have jt := Lib.hid (joined_take vs k hkv)
      have j1 := joined_le vs (k + 1)
      rw [jt.out, List.length_append] at j1
      generalize vs[k] = x at *
      have p0 : (0 : Int) ≤ (k : Int) := by omega
      have p1 : (k : Int) < (n : Int) := by omega
      have j2 : x.bs.length = x.n := hy.1
      have j3 : m + x.n ≤ 1099511627776 := by rw [hM.out, ← j2]; omega
      clear j1
      have J2 := Lib.hid j2
      clear j2
      go_wp2_with (at_builtin; refine wpList_append _ rfl (.tmp 12) (.tmp 13) 22 rfl w.heap.size 5 ti _ 1 1 Try.underlying22 hti hz0 hz1 hz2 rfl (by omega) A2 m c2 _ rfl hown w.heap.size x.a x.n x.c (bcells x.bs) rfl hy.2.2 (by rw [length_bcells, J2.out]; omega) (bcells_one _) (by unfold maxLen; omega) (by omega) hbw.size ?_; intro A3 c3 w4 hown4 hg4 hat4)
      go_roundg g
      case measure => omega
      case rel => exact ⟨k + 1, A3, _, c3, by omega, by go_num, rfl, by rw [jt.out, List.length_append, J2.out]; exact congrArg (· + x.n) hM.out, by rw [jt.out, bcells_append]; exact hown4, hown.grown hg4 hbw hbw.size⟩
end Go.Proofs.Ytapfiapjefnjjaa
