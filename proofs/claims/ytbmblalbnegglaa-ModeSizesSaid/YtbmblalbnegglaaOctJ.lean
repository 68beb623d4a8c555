/-
  The walks of the reference of strings of bytes: Put, Unpad, Pad.
-/
import Derived.Test.YtbmblalbnegglaaOctI
namespace Go.Proofs.Ytbmblalbnegglaa
open Go.RowKit

set_option maxHeartbeats 2000000 in
theorem ref01_Put (n width : Int) (w : World) (hn : n ≤ 9223372036854775807) :
    Calls Try.prog 37 #[.int .i64 n, .int .i64 width] w (BRes 5 w (Oct.ptB n width) (Oct.ptE n width)) := by
  obtain ⟨ti, hti, hz0, hz1, hz2⟩ := info_parts o_u8
  by_cases hw1 : width < 1
  · have e := Lib.hid (pt_arg n width (.inl hw1))
    have t1 : decide (width < 1) = true := by simpa using hw1
    clear hw1
    go_enter Try.func37, Try.ntmps37
    go_wp2_with fail
    go_ret2
    rw [e.out.1, e.out.2]
    exact BRes.nil _ (Below.refl _ _)
  by_cases hw8 : 8 < width
  · have e := Lib.hid (pt_arg n width (.inr hw8))
    have t1 : decide (width < 1) = false := by simpa using hw1
    have t2 : decide (8 < width) = true := by simpa using hw8
    clear hw1 hw8
    go_enter Try.func37, Try.ntmps37
    go_wp2_with fail
    go_ret2
    rw [e.out.1, e.out.2]
    exact BRes.nil _ (Below.refl _ _)
  obtain ⟨m, rfl⟩ := Int.eq_ofNat_of_zero_le (show 0 ≤ width by omega)
  have h1 : 1 ≤ m := by omega
  have h8 : m ≤ 8 := by omega
  have t1 : decide ((m : Int) < 1) = false := by simpa using hw1
  have t2 : decide ((8 : Int) < (m : Int)) = false := by simpa using hw8
  clear hw1 hw8
  by_cases hn0 : n < 0
  · have e := Lib.hid (pt_range n m h1 h8 (.inl hn0))
    have t3 : decide (n < 0) = true := by simpa using hn0
    clear hn0
    go_enter Try.func37, Try.ntmps37
    go_wp2_with fail
    go_ret2
    rw [e.out.1, e.out.2]
    exact BRes.nil _ (Below.refl _ _)
  obtain ⟨k, rfl⟩ := Int.eq_ofNat_of_zero_le (show 0 ≤ n by omega)
  have t3 : decide ((k : Int) < 0) = false := by simp
  have hlen : (Oct.putB k m).length = m := Oct.putB_length k m
  have hown0 : ∀ (W : World), Blk W w.heap.size 5 (madeCells #[.int .u8 0] m) → Own W w.heap.size 5 1 (some ⟨w.heap.size, 0, none⟩) m m (bcells (lastK (Oct.putB k m) 0)) := by
    intro W hb
    rw [lastK_zero, hlen, ← bcells_zs]
    exact Own.made hb (Nat.le_refl _) (by unfold maxLen; omega)
  have HO := Lib.hid hown0
  have HLEN := Lib.hid hlen
  have mk := made_u8 (P := Try.prog) 22 5 ti Try.underlying22 hti hz0 hz1 hz2 m (by omega)
  clear hown0 hlen hn0
  go_enter Try.func37, Try.ntmps37
  go_wp2_with fail
  go_loopg [0, 7] m (fun g nn i wr => ∃ j q : Nat, j + g = m ∧ Hid (q = k / 256 ^ j) ∧ q ≤ k ∧ i = .int .i64 ((g : Int) - 1) ∧ nn = .int .i64 (q : Int) ∧ Own wr w.heap.size 5 1 (some ⟨w.heap.size, 0, none⟩) m m (bcells (lastK (Oct.putB k m) j)) ∧ Below w.heap.size w wr)
  case atStart => exact ⟨0, k, by omega, Lib.hid (by simp), Nat.le_refl _, rfl, rfl, HO.out _ (Blk.new' _ rfl rfl), (Below.refl _ _).alloc (Nat.le_refl _) _⟩
  case round =>
    obtain ⟨j, q, hj, hq, hqk, rfl, rfl, hown, hbw⟩ := hrel
    cases gk with
    | zero =>
      obtain rfl : j = m := by omega
      rw [show ((0 : Nat) : Int) - 1 = -1 by omega]
      have hp : 0 < 256 ^ j := Nat.pow_pos (by omega)
      rcases Nat.eq_zero_or_pos q with h0 | h0
      · have hlt : k < 256 ^ j := by
          have := hq.out; rw [h0] at this
          rcases Nat.lt_or_ge k (256 ^ j) with h | h
          · exact h
          · have := Nat.div_pos h hp; omega
        have e := Lib.hid (pt_ok k j h1 h8 hlt)
        have hf := lastK_full (Oct.putB k j)
        rw [HLEN.out] at hf
        rw [hf] at hown
        subst h0
        clear hlt hp hf
        go_wp2_with fail
        go_ret2
        rw [e.out.1, e.out.2]
        exact BRes.mk HLEN.out hown hbw
      · have hge : 256 ^ j ≤ k := by
          rcases Nat.lt_or_ge k (256 ^ j) with h | h
          · have := hq.out; rw [Nat.div_eq_of_lt h] at this; omega
          · exact h
        have e := Lib.hid (pt_range k j h1 h8 (.inr (by have : ((256 ^ j : Nat) : Int) ≤ ((k : Nat) : Int) := by omega
                                                        simpa using this)))
        have i0 : (0 : Int) < (q : Int) := by omega
        clear hge hp h0
        go_wp2_with fail
        go_ret2
        rw [e.out.1, e.out.2]
        exact BRes.nil _ hbw
    | succ g =>
      rw [show ((g + 1 : Nat) : Int) - 1 = (g : Int) by omega]
      have hgm : g = m - 1 - j := by omega
      have hst := lastK_set (Oct.putB k m) j (by rw [HLEN.out]; omega)
      rw [HLEN.out, ← hgm, Oct.putB_get k m g (by omega), show m - 1 - g = j by omega, ← hq.out] at hst
      have HST := Lib.hid hst
      obtain ⟨q2, hq2, hqb, hqs, hcell, hfr, hstore⟩ := hown.elem (i := g) (by omega)
      obtain rfl : w.heap.size = q2 := by simpa using hq2
      have hcell2 : ∃ v, wr.cell? ⟨w.heap.size, g, none⟩ = some v := by
        rw [hcell]; exact ⟨_, List.getElem?_eq_getElem (by rw [length_bcells, lastK_length, HLEN.out]; omega)⟩
      obtain ⟨v0, hcell2⟩ := hcell2
      have hs2 := Lib.hid (hstore (B8 (UInt8.ofNat q)))
      have i0 : (0 : Int) ≤ (g : Int) := by omega
      have i1 : (g : Int) < (m : Int) := by omega
      have i2 : (0 : Int) ≤ (q : Int) := by omega
      have i3 : (q : Int) ≤ 9223372036854775807 := by omega
      have hqn : Hid (q / 256 = k / 256 ^ (j + 1)) := by show _ = _; rw [hq.out, Nat.pow_succ, Nat.div_div_eq_div_mul]
      clear hcell hstore hq2 hst hgm
      go_wp2_with fail
      go_roundg g
      case measure => omega
      case rel =>
        refine ⟨j + 1, q / 256, by omega, hqn, by omega, by go_num, by go_num, ?_, hbw.setCell (by simp) _⟩
        rw [← HST.out, bcells_set]
        have := hs2.out
        rw [B8, UInt8.toNat_ofNat'] at this
        rw [B8, UInt8.toNat_ofNat']
        first | exact this | (have e3 : ((q % 2 ^ 8 : Nat) : Int) = (q : Int) % 256 := by omega
                              rw [e3] at this ⊢
                              exact this)

theorem pad_stop (len m j : Nat) (h1 : 1 ≤ m) (hj : j ≤ Oct.padN len m) : (len + 1 + j) % m = 0 ↔ j = Oct.padN len m := by
  unfold Oct.padN at *
  have hlt := Nat.mod_lt (len + 1) (show 0 < m by omega)
  have hdm := Nat.div_add_mod (len + 1) m
  split at hj
  · rename_i h0
    rw [if_pos h0]
    constructor
    · intro _; omega
    · intro e; rw [e]; exact h0
  · rename_i h0
    rw [if_neg h0]
    have e1 : len + 1 + j = m * ((len + 1) / m) + ((len + 1) % m + j) := by omega
    rw [e1, Nat.mul_add_mod]
    constructor
    · intro e
      rcases Nat.lt_or_ge ((len + 1) % m + j) m with h | h
      · rw [Nat.mod_eq_of_lt h] at e; omega
      · omega
    · intro e
      rw [show (len + 1) % m + j = m by omega, Nat.mod_self]

set_option maxHeartbeats 4000000 in
theorem ref01_Pad (A : Option Addr) (n c : Nat) (bs : List UInt8) (p : Int) (w : World) (h : Byt w w.heap.size A n c bs) (hn : n ≤ 1000000000) :
    Calls Try.prog 25 #[.slice A n c, .int .i64 p] w (BRes 5 w (Oct.padB bs p) (Oct.padE p)) := by
  obtain ⟨ti, hti, hz0, hz1, hz2⟩ := info_parts o_u8
  by_cases hp1 : p < 1
  · have e := Lib.hid (pad_no bs p (.inl hp1))
    have t1 : decide (p < 1) = true := by simpa using hp1
    clear hp1 h
    go_enter Try.func25, Try.ntmps25
    go_wp2_with fail
    go_ret2
    rw [e.out.1, e.out.2]
    exact BRes.nil _ (Below.refl _ _)
  by_cases hp2 : 65536 < p
  · have e := Lib.hid (pad_no bs p (.inr hp2))
    have t1 : decide (p < 1) = false := by simpa using hp1
    have t2 : decide (65536 < p) = true := by simpa using hp2
    clear hp1 hp2 h
    go_enter Try.func25, Try.ntmps25
    go_wp2_with fail
    go_ret2
    rw [e.out.1, e.out.2]
    exact BRes.nil _ (Below.refl _ _)
  obtain ⟨m, rfl⟩ := Int.eq_ofNat_of_zero_le (show 0 ≤ p by omega)
  have t1 : decide ((m : Int) < 1) = false := by simpa using hp1
  have t2 : decide ((65536 : Int) < (m : Int)) = false := by simpa using hp2
  have hm1 : 1 ≤ m := by omega
  have hm2 : m ≤ 65536 := by omega
  have e := Lib.hid (pad_yes bs m hm1 hm2)
  have hl := Lib.hid h.1
  have hpl := Oct.padN_lt n m hm1
  have hown0 : Own (w.alloc (.cells #[] 5)) w.heap.size 5 1 (some ⟨w.heap.size, 0, none⟩) 0 0 [] := Own.none_ _ _ _ _ _
  have hr0 := h.2.2.alloc (Nat.le_refl _) (.cells #[] 5)
  have hlc : (bcells bs).length = n * 1 := by rw [length_bcells, h.1]; omega
  have HLC := Lib.hid hlc
  clear hp1 hp2 hlc h
  go_enter Try.func25, Try.ntmps25
  go_wp2_with (first
    | (at_builtin; refine wpList_append _ rfl (.tmp 13) (.tmp 14) 22 rfl w.heap.size 5 ti _ 1 1 Try.underlying22 hti hz0 hz1 hz2 rfl (by omega) (some ⟨w.heap.size, 0, none⟩) 0 0 [] rfl hown0 w.heap.size A n c (bcells bs) rfl hr0 HLC.out (bcells_one _) (by unfold maxLen; omega) (by omega) (by simp) ?_; intro A3 c3 w4 hown4 hg4 hat4; rw [Nat.zero_add, List.nil_append] at hown4; have hb4 := hown0.grown hg4 ((Below.refl _ _).alloc (Nat.le_refl _) _) (by simp); clear hg4 hat4 hr0)
    | (at_builtin; refine wpList_append _ rfl (.tmp 15) (.tmp 16) 22 rfl w.heap.size 5 ti _ 1 1 Try.underlying22 hti hz0 hz1 hz2 rfl (by omega) A3 n c3 (bcells bs) rfl (hown4.alloc _) (w4.heap.size + 1) (some ⟨w4.heap.size, 0, none⟩) 1 1 (bcells [0x80]) rfl (Row.new w4 rfl) (by simp) (bcells_one _) (by unfold maxLen; omega) (by omega) (by simp; have := hb4.size; omega) ?_; intro A5 c5 w5 hown5 hg5 hat5; have hb5 := (hown4.alloc _).grown hg5 (hb4.alloc hb4.size _) (by simp; have := hb4.size; omega); clear hg5 hat5))
  go_loopg [6] (Oct.padN n m) (fun g v wr => ∃ (j : Nat) (A2 : Option Addr) (c2 : Nat), j + g = Oct.padN n m ∧ v = .slice A2 (n + 1 + j) c2 ∧ Own wr w.heap.size 5 1 A2 (n + 1 + j) c2 (bcells (bs ++ [0x80] ++ zs j)) ∧ Below w.heap.size w wr)
  case atStart => exact ⟨0, A5, c5, by omega, rfl, by rw [show zs 0 = [] from rfl, List.append_nil, bcells_append]; exact hown5, hb5⟩
  case round =>
    obtain ⟨j, A2, c2, hj, rfl, hown, hbw⟩ := hrel
    have hstop := pad_stop n m j hm1 (by omega)
    have hmi : ((n : Int) + 1 + (j : Int)) % (m : Int) = (((n + 1 + j) % m : Nat) : Int) := by simp
    cases gk with
    | zero =>
      have hz := hstop.2 (by omega)
      rw [hz] at hmi
      have hpd : Hid (Oct.pad bs m = bs ++ [0x80] ++ zs j) := by
        show _ = _
        unfold Oct.pad zs; rw [hl.out, show j = Oct.padN n m by omega]
      have hne : (((n : Int) + 1 + (j : Int)) % (m : Int) != 0) = false := by rw [hmi]; rfl
      clear hmi hz hstop
      go_wp2_with fail
      go_ret2
      rw [e.out.1, e.out.2, hpd.out]
      exact BRes.mk (by rw [List.length_append, List.length_append, hl.out, zs_length]; rfl) hown hbw
    | succ g =>
      have hz : (n + 1 + j) % m ≠ 0 := fun h => by have := hstop.1 h; omega
      have hne : (((n : Int) + 1 + (j : Int)) % (m : Int) != 0) = true := by rw [hmi, bne_iff_ne]; omega
      clear hmi hz hstop
      go_wp2_with (at_builtin; refine wpList_append _ rfl (.tmp 23) (.tmp 24) 22 rfl w.heap.size 5 ti _ 1 1 Try.underlying22 hti hz0 hz1 hz2 rfl (by omega) A2 (n + 1 + j) c2 _ rfl (hown.alloc _) (wr.heap.size + 1) (some ⟨wr.heap.size, 0, none⟩) 1 1 (bcells [0]) rfl (Row.new wr rfl) (by simp) (bcells_one _) (by unfold maxLen; omega) (by omega) (by simp; have := hbw.size; omega) ?_; intro A6 c6 w6 hown6 hg6 hat6)
      go_roundg g
      case measure => omega
      case rel =>
        refine ⟨j + 1, A6, c6, by omega, rfl, ?_, (hown.alloc _).grown hg6 (hbw.alloc hbw.size _) (by simp; have := hbw.size; omega)⟩
        have ez : zs (j + 1) = zs j ++ [0] := by unfold zs; rw [List.replicate_succ']
        rw [ez, ← List.append_assoc, bcells_append]
        exact hown6
end Go.Proofs.Ytbmblalbnegglaa
