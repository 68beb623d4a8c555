/-
  The walks of the reference of strings of bytes: Xor, Put, Get, Unpad, Pad.
-/
import Derived.Test.YtpegechahbldlaaOctH
namespace Go.Proofs.Ytpegechahbldlaa
open Go.RowKit

theorem take_get (l : List UInt8) (k : Nat) (h : k < l.length) : l.take (k + 1) = l.take k ++ [l.getD k 0] := by
  rw [List.take_succ_eq_append_getElem h]; simp [List.getD, List.getElem?_eq_getElem h]

set_option maxHeartbeats 2000000 in
theorem ref01_Xor (A A' : Option Addr) (n n' c c' : Nat) (a b : List UInt8) (w : World) (h : Byt w w.heap.size A n c a) (h' : Byt w w.heap.size A' n' c' b) (hn : n ≤ 1000000) :
    Calls Try.prog 26 #[.slice A n c, .slice A' n' c'] w (BRes 5 w (xrB a b) (xrE a b)) := by
  obtain ⟨ti, hti, hz0, hz1, hz2⟩ := info_parts o_u8
  by_cases he : n = n'
  · subst he
    have e1 : xrB a b = Oct.xor a b ∧ xrE a b = 0 := by
      unfold xrB xrE; rw [h.1, h'.1, if_pos rfl, if_pos rfl]; exact ⟨rfl, rfl⟩
    rw [e1.1, e1.2]
    clear e1
    have hla := Lib.hid h.1
    have hlb := Lib.hid h'.1
    have hra := h.2.2
    have hrb := h'.2.2
    have hlx : (Oct.xor a b).length = n := by rw [← h.1]; simp [Oct.xor]
    have HLX := Lib.hid hlx
    clear hlx h h'
    go_enter Try.func26, Try.ntmps26
    go_wp2_with fail
    go_loopg [6, 7] n (fun g v i wr => ∃ (k : Nat) (A2 : Option Addr) (c2 : Nat), k + g = n ∧ i = .int .i64 k ∧ v = .slice A2 k c2 ∧ Own wr w.heap.size 5 1 A2 k c2 (bcells ((Oct.xor a b).take k)) ∧ Below w.heap.size w wr)
    case atStart => exact ⟨0, none, 0, by omega, rfl, rfl, Own.none_ _ _ _ _ _, Below.refl _ _⟩
    case round =>
      obtain ⟨k, A2, c2, hk, rfl, rfl, hown, hbw⟩ := hrel
      cases gk with
      | zero =>
        obtain rfl : k = n := by omega
        rw [List.take_of_length_le (by rw [HLX.out]; omega)] at hown
        go_wp2_with fail
        go_ret2
        exact BRes.mk HLX.out hown hbw
      | succ g =>
        have hlt : (k : Int) < (n : Int) := by omega
        have p0 : (0 : Int) ≤ (k : Int) := by omega
        obtain ⟨b1, o1, rfl, hb1, -⟩ := hra.at_ (j := k) (by rw [length_bcells, hla.out]; omega)
        obtain ⟨b2, o2, rfl, hb2, -⟩ := hrb.at_ (j := k) (by rw [length_bcells, hlb.out]; omega)
        have c1 := (hra.below hbw).byte k (by rw [hla.out]; omega)
        have c2' := (hrb.below hbw).byte k (by rw [hlb.out]; omega)
        have hst := Lib.hid (take_get (Oct.xor a b) k (by rw [HLX.out]; omega))
        have hxg := oxor_get a b k (by rw [hla.out]; omega)
        have hxx : Hid (bits BinOp.xor IntKind.u8 ((a.getD k 0).toNat : Int) ((b.getD k 0).toNat : Int) = (((Oct.xor a b).getD k 0).toNat : Int)) := by
          show _ = _
          rw [u8_xor_nat _ _ (a.getD k 0).toNat_lt (b.getD k 0).toNat_lt, hxg, UInt8.toNat_xor]
        clear hxg
        generalize (a.getD k 0).toNat = x at *
        generalize (b.getD k 0).toNat = y at *
        generalize (Oct.xor a b).getD k 0 = z at *
        have hxx2 := hxx.out
        go_wp2_with fail
        have hkeep : ∀ u : World, Below w.heap.size wr u → u.cell? ⟨b1, o1 + k, none⟩ = some (.int .u8 (x : Int)) ∧ u.cell? ⟨b2, o2 + k, none⟩ = some (.int .u8 (y : Int)) := fun u hu =>
          ⟨(hu.cell (p := ⟨b1, o1 + k, none⟩) hb1).trans c1, (hu.cell (p := ⟨b2, o2 + k, none⟩) hb2).trans c2'⟩
        have HKP := Lib.hid hkeep
        clear hkeep
        go_region_held3 (fun u => u.cell? ⟨b1, o1 + k, none⟩ = some (.int .u8 (x : Int)) ∧ u.cell? ⟨b2, o2 + k, none⟩ = some (.int .u8 (y : Int)))
          (first
            | exact ⟨c1, c2'⟩
            | exact HKP.out _ ((Below.refl _ _).alloc hbw.size _)
            | exact HKP.out _ ((Below.refl _ _).alloc hbw.size _).drew
            | exact HKP.out _ ((hown.alloc _).drew.grown hg4 ((Below.refl _ _).alloc hbw.size _).drew (by simp; have := hbw.size; omega)))
          ((refine step_append _ rfl (.tmp 19) (.tmp 29) 22 rfl w.heap.size 5 ti _ 1 1 Try.underlying22 hti hz0 hz1 hz2 rfl (by omega) A2 k c2 (bcells ((Oct.xor a b).take k)) rfl (hown.alloc _).drew (wr.heap.size + 1) (some ⟨wr.heap.size, 0, none⟩) 1 1 (bcells [z]) rfl (Row.new wr rfl).drew (by simp) (bcells_one _) (by unfold maxLen; omega) (by omega) (by simp; have := hbw.size; omega) ?_; intro A3 c3 w4 hown4 hg4 hat4))
        all_goals
          clear hxx2
          go_wp2_with fail
          go_roundg g
          case measure => omega
          case rel =>
            refine ⟨k + 1, A3, c3, by omega, by go_num, rfl, ?_, (hown.alloc _).drew.grown hg4 (hbw.alloc hbw.size _).drew (by simp; have := hbw.size; omega)⟩
            rw [hst.out, bcells_append]
            exact hown4
  · have e1 : xrB a b = [] ∧ xrE a b = 1 := by
      unfold xrB xrE; rw [h.1, h'.1, if_neg he, if_neg he]; exact ⟨rfl, rfl⟩
    rw [e1.1, e1.2]
    have hne : ((n : Int) != (n' : Int)) = true := by rw [bne_iff_ne]; omega
    clear e1 h h'
    go_enter Try.func26, Try.ntmps26
    go_wp2_with fail
    go_ret2
    exact BRes.nil _ (Below.refl _ _)

set_option maxHeartbeats 2000000 in
theorem ref01_Get (A : Option Addr) (n c : Nat) (bs : List UInt8) (w : World) (h : Byt w w.heap.size A n c bs) :
    Calls Try.prog 34 #[.slice A n c] w fun e w' => e = .returned (.tuple #[.int .i64 (Oct.gtN bs : Int), .int .i64 (Oct.gtE bs)]) ∧ w = w' := by
  have hl := Lib.hid h.1
  have hr := h.2.2
  by_cases h8 : 8 < n
  · have e := gt_long bs (by rw [h.1]; exact h8)
    rw [e.1, e.2]
    have t1 : decide ((8 : Int) < (n : Int)) = true := by simp; omega
    clear e h h8
    go_enter Try.func34, Try.ntmps34
    go_wp2_with fail
    go_ret2
    exact ⟨rfl, rfl⟩
  have t1 : decide ((8 : Int) < (n : Int)) = false := by simp; omega
  have n8 : n ≤ 8 := by omega
  by_cases hbig : n = 8 ∧ 127 < (bs.getD 0 0).toNat
  · obtain ⟨rfl, hb0⟩ := hbig
    have hnum : 9223372036854775808 ≤ Oct.num bs := by
      unfold Oct.num
      rw [h.1]
      have hb := hb0
      simp only [Oct.numK_succ, show Oct.numK bs 0 = 0 from rfl]
      omega
    have e := gt_big bs (by rw [h.1]; omega) hnum
    rw [e.1, e.2]
    obtain ⟨b1, o1, rfl, hb1, -⟩ := hr.at_ (j := 0) (by rw [length_bcells, hl.out]; omega)
    have c1 := hr.byte 0 (by rw [hl.out]; omega)
    rw [Nat.add_zero] at c1
    have t2 : decide ((127 : Int) < ((bs.getD 0 0).toNat : Int)) = true := by simp at hb0 ⊢; omega
    clear e h h8 hnum hb0
    generalize (bs.getD 0 0).toNat = x at *
    go_enter Try.func34, Try.ntmps34
    go_wp2_with fail
    go_ret2
    exact ⟨rfl, rfl⟩
  · have hnum : Oct.num bs < 9223372036854775808 := by
      unfold Oct.num
      rw [h.1]
      rcases Nat.lt_or_ge n 8 with h7 | h7
      · have := numK_56 bs n (by omega); omega
      · obtain rfl : n = 8 := by omega
        have hb : (bs.getD 0 0).toNat ≤ 127 := by
          rcases Nat.lt_or_ge 127 (bs.getD 0 0).toNat with h2 | h2
          · exact absurd ⟨rfl, h2⟩ hbig
          · exact h2
        have x1 := (bs.getD 1 0).toNat_lt
        have x2 := (bs.getD 2 0).toNat_lt
        have x3 := (bs.getD 3 0).toNat_lt
        have x4 := (bs.getD 4 0).toNat_lt
        have x5 := (bs.getD 5 0).toNat_lt
        have x6 := (bs.getD 6 0).toNat_lt
        have x7 := (bs.getD 7 0).toNat_lt
        simp only [Oct.numK_succ, show Oct.numK bs 0 = 0 from rfl]
        omega
    have e := gt_ok bs (by rw [h.1]; exact n8) hnum
    rw [e.1, e.2]
    have hn8 : (n = 8 ∧ (bs.getD 0 0).toNat ≤ 127) ∨ n < 8 := by
      rcases Nat.lt_or_ge n 8 with h7 | h7
      · exact .inr h7
      · rcases Nat.lt_or_ge 127 (bs.getD 0 0).toNat with h2 | h2
        · exact absurd ⟨by omega, h2⟩ hbig
        · exact .inl ⟨by omega, h2⟩
    have hle : ∀ k, k ≤ n → Oct.numK bs k ≤ Oct.num bs := by
      intro k hk
      unfold Oct.num
      rw [h.1]
      obtain ⟨d, rfl⟩ : ∃ d, n = k + d := ⟨n - k, by omega⟩
      clear hk h hl t1 n8 hbig e hnum hn8 h8
      induction d with
      | zero => exact Nat.le_refl _
      | succ d ih => rw [← Nat.add_assoc, Oct.numK_succ]; omega
    have HLE := Lib.hid hle
    have HN := Lib.hid hnum
    have hnn : Hid (Oct.num bs = Oct.numK bs n) := by show _ = _; unfold Oct.num; rw [h.1]
    clear e hbig hle hnum h8
    have loop : True := trivial
    rcases hn8 with ⟨hn8, hb0⟩ | hn8
    · subst hn8
      obtain ⟨b1, o1, rfl, hb1, -⟩ := hr.at_ (j := 0) (by rw [length_bcells, hl.out]; omega)
      have c1 := hr.byte 0 (by rw [hl.out]; omega)
      rw [Nat.add_zero] at c1
      have t2 : decide ((127 : Int) < ((bs.getD 0 0).toNat : Int)) = false := decide_eq_false (by omega)
      have HB := Lib.hid hb0
      clear hb0 h
      generalize (bs.getD 0 0).toNat = x0 at *
      go_enter Try.func34, Try.ntmps34
      go_wp2_with fail
      clear c1 t2
      go_loopg [4, 5] 8 (fun g v i wr => ∃ k : Nat, k + g = 8 ∧ i = .int .i64 k ∧ v = .int .i64 (Oct.numK bs k : Nat) ∧ w = wr)
      case atStart => exact ⟨0, by omega, rfl, rfl, rfl⟩
      case round =>
        obtain ⟨k, hk, rfl, rfl, rfl⟩ := hrel
        cases gk with
        | zero =>
          obtain rfl : k = 8 := by omega
          go_wp2_with fail
          go_ret2
          exact ⟨by rw [hnn.out]; rfl, rfl⟩
        | succ g =>
          have hlt : (k : Int) < 8 := by omega
          have p0 : (0 : Int) ≤ (k : Int) := by omega
          have c1 := hr.byte k (by rw [hl.out]; omega)
          have hx := (bs.getD k 0).toNat_lt
          have hsu := Lib.hid (Oct.numK_succ bs k)
          have h63 := HLE.out (k + 1) (by omega)
          have h64 := HN.out
          rw [hsu.out] at h63
          generalize (bs.getD k 0).toNat = x at *
          have hbd : Oct.numK bs k * 256 + x < 9223372036854775808 := by omega
          clear h63 h64
          go_wp2_with fail
          go_roundg g
          case measure => omega
          case rel => exact ⟨k + 1, by omega, by go_num, by rw [hsu.out]; go_num, rfl⟩
    · have t2 : ((n : Int) == 8) = false := by simp; omega
      clear h
      go_enter Try.func34, Try.ntmps34
      go_wp2_with fail
      go_loopg [4, 5] n (fun g v i wr => ∃ k : Nat, k + g = n ∧ i = .int .i64 k ∧ v = .int .i64 (Oct.numK bs k : Nat) ∧ w = wr)
      case atStart => exact ⟨0, by omega, rfl, rfl, rfl⟩
      case round =>
        obtain ⟨k, hk, rfl, rfl, rfl⟩ := hrel
        cases gk with
        | zero =>
          obtain rfl : k = n := by omega
          go_wp2_with fail
          go_ret2
          exact ⟨by rw [hnn.out]; rfl, rfl⟩
        | succ g =>
          have hlt : (k : Int) < (n : Int) := by omega
          have p0 : (0 : Int) ≤ (k : Int) := by omega
          obtain ⟨b1, o1, rfl, hb1, -⟩ := hr.at_ (j := k) (by rw [length_bcells, hl.out]; omega)
          have c1 := hr.byte k (by rw [hl.out]; omega)
          have hx := (bs.getD k 0).toNat_lt
          have hsu := Lib.hid (Oct.numK_succ bs k)
          have h63 := HLE.out (k + 1) (by omega)
          have h64 := HN.out
          rw [hsu.out] at h63
          generalize (bs.getD k 0).toNat = x at *
          have hbd : Oct.numK bs k * 256 + x < 9223372036854775808 := by omega
          clear h63 h64
          go_wp2_with fail
          go_roundg g
          case measure => omega
          case rel => exact ⟨k + 1, by omega, by go_num, by rw [hsu.out]; go_num, rfl⟩
end Go.Proofs.Ytpegechahbldlaa
