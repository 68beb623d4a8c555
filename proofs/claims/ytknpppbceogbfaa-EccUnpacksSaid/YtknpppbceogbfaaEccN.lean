/-
  The walk of the statement EccRoundTrip.
-/
import Derived.Test.YtknpppbceogbfaaEccT
namespace Go.Proofs.Ytknpppbceogbfaa
open Go.RowKit

theorem flip_u32 (F : List Int) (k : Nat) (x : UInt32) (f : Int) (hf : f = F.getD k (-1)) (h0 : 0 ≤ f) (h1 : f ≤ 31) :
    bits BinOp.xor IntKind.u32 (x.toNat : Int) (IntKind.u32.wrap (2 ^ f.toNat)) = ((fl F k x).toNat : Int) := by
  have hx := x.toNat_lt
  have e : flB F k = true := by unfold flB; rw [← hf]; simp; omega
  unfold fl
  rw [e, if_pos rfl, ← hf, UInt32.toNat_ofNat_of_lt' (by have := flip_lt x.toNat f.toNat hx (by omega); simpa [UInt32.size] using this), IntKind.wrap_u32', flip_bit _ _ hx (by omega)]

set_option maxRecDepth 100000 in
set_option maxHeartbeats 4000000 in
theorem law_EccRoundTrip (A A' : Option Addr) (n c n' c' : Nat) (b : List UInt8) (F : List Int) (w : World) (h : Byt w w.heap.size A n c b) (hF : Ints w w.heap.size A' n' c' F) (hn' : n' ≤ 9223372036854775807) :
    Calls Try.prog 8 #[.slice A n c, .slice A' n' c'] w fun e w' => e = .returned (.bool true) ∧ Below w.heap.size w w' := by
  by_cases hn : n ≤ 3000
  · have hn2 : (n : Int) ≤ 3000 := by omega
    have hup := Lib.hid (up_trip b F)
    have hsame := Lib.hid (Oct.same_refl b)
    have hlb := Lib.hid h.1
    have hlF := Lib.hid hF.1
    go_enter Try.func8, Try.ntmps8
    go_wp2_with fail
    refine (ecc_Pack A n c b _ h (by omega)).mono ?_
    rintro e w1 ⟨A1, m, c1, rfl, hm', hown, hb1⟩
    have hm := Lib.hid hm'
    have hm3 : m ≤ 1000000 := by omega
    have hlp : Hid ((pack b).length = m) := by show _ = _; rw [show (pack b).length = (b.length + 2) / 3 from packK_length _ _, hlb.out]; exact hm'.symm
    have hmw : ((m : Int) != wordsN (n : Int)) = false := by
      rw [bne_eq_false_iff_eq]; unfold wordsN; split <;> omega
    clear hm'
    rw [← FK_zero (pack b) F] at hown
    go_wp2_with (go_at_call 15; refine (ref10_Words _ _ (by omega)).mono ?_; rintro e w2 ⟨rfl, rfl⟩)
    clear hmw
    go_loopg [6, 7] m (fun g cn i wr => ∃ k : Nat, k + g = m ∧ i = .int .i64 k ∧ cn = .int .i64 (CK F k : Nat) ∧ Own wr w.heap.size 22 1 A1 m c1 ((FK (pack b) F k).map W32) ∧ Below w.heap.size w wr)
    case atStart => exact ⟨0, by omega, rfl, rfl, hown, hb1⟩
    case round =>
      obtain ⟨k, hk, rfl, rfl, hownk, hbw⟩ := hrel
      have hckl := CK_le F k
      by_cases hend : m ≤ k ∨ n' ≤ k
      · have e1 := FK_end (pack b) F k (by rw [hlp.out, hlF.out]; exact hend)
        rw [e1] at hownk
        have e2 := Lib.hid (CK_end F m k (by omega) (by rw [hlF.out]; exact hend))
        clear e1
        have hwd := hownk.wds (Nat.le_refl _)
        have hbw2 := (h.below hbw).more hbw.size
        have hrest : ∀ (w2 : World), w2 = wr → Calls Try.prog 19 #[.slice A1 m c1, .int .i64 (n : Int)] wr (UpRes wr b (CK F k) 0) := by
          intro w2 _
          have := ecc_Unpack A1 m c1 (FK (pack b) F (pack b).length) (b.length : Int) wr hwd hm3 (by rw [hlb.out]; omega)
          rw [hup.out.1, hup.out.2.1, hup.out.2.2, hlp.out, e2.out, hlb.out] at this
          exact this
        have HR := Lib.hid (hrest wr rfl)
        clear hrest hwd hownk
        have htest : (k : Int) < (m : Int) → ¬ (k : Int) < (n' : Int) := by omega
        by_cases hkm : k < m
        all_goals
          have t1 := htest
          clear htest hend
          go_wp2_with fail
          refine HR.out.mono ?_
          rintro e w3 ⟨A3, c3, rfl, hown3, hb3⟩
          have hb03 := hbw.trans (hb3.mono hbw.size)
          have y1 := (h.below hb03).more hb03.size
          have y2 := hown3.byt (Nat.le_refl _)
          go_wp2_with fail
          refine (ref01_Same _ _ _ _ _ _ b b _ y1 y2 (by omega) (by rw [hlb.out]; omega)).mono ?_
          rintro e w4 ⟨rfl, k4, rfl⟩
          rw [hsame.out]
          go_wp2_with (go_at_call 11; refine (law10_example _).mono ?_; rintro e w5 ⟨rfl, hb5⟩)
          go_ret
          exact ⟨rfl, (Below.drewN hb03 k4).trans (hb5.mono hb03.size)⟩
      · obtain ⟨g, rfl⟩ : ∃ g, gk = g + 1 := ⟨gk - 1, by omega⟩
        have hkm : k < m := by omega
        have hkn : k < n' := by omega
        have i1 : (k : Int) < (m : Int) := by omega
        have i2 : (k : Int) < (n' : Int) := by omega
        have i3 : (0 : Int) ≤ (k : Int) := by omega
        clear hend
        obtain ⟨fb, fo, rfl, hfb, cf⟩ := (hF.below hbw).at_ hkn
        have hCK := Lib.hid (CK_succ F k)
        have hgd : F.getD k 0 = F.getD k (-1) := by
          rw [List.getD, List.getD, List.getElem?_eq_getElem (by rw [hlF.out]; exact hkn)]; rfl
        have HG := Lib.hid hgd
        generalize F.getD k 0 = f at *
        have hfl : flB F k = (decide (0 ≤ f) && decide (f < 32)) := by rw [HG.out]; rfl
        clear hgd
        by_cases h0 : 0 ≤ f
        · by_cases h1 : f < 32
          · have hT : flB F k = true := by rw [hfl]; simp; omega
            rw [hT] at hCK
            have hxx := Lib.hid (FK_set (pack b) F k)
            have hgt := FK_get (pack b) F k k (by rw [hlp.out]; exact hkm)
            rw [if_neg (Nat.lt_irrefl k)] at hgt
            obtain ⟨gq, rfl, hgb, hgs, hcell, hfr, hset⟩ := hownk.elem hkm
            have hcell2 : wr.cell? ⟨gq, k, none⟩ = some (.int .u32 (((pack b).getD k 0).toNat : Int)) := by
              rw [hcell, ← hgt, List.getElem?_map, List.getElem?_eq_getElem (by rw [FK_length, hlp.out]; exact hkm)]
              simp [List.getD, List.getElem?_eq_getElem (show k < (FK (pack b) F k).length by rw [FK_length, hlp.out]; exact hkm), W32]
            have hset2 := Lib.hid (hset (W32 (fl F k ((pack b).getD k 0))))
            have hbset := Lib.hid (fun v => hbw.setCell (p := ⟨gq, k, none⟩) hgb v)
            have hfx := flip_u32 F k ((pack b).getD k 0) f HG.out h0 (by omega)
            have h32 : f ≤ 32 := by omega
            have t1 : decide (f < 32) = true := by simpa using h1
            clear hcell hset hgt hfl hT h1
            generalize ((pack b).getD k 0) = x at *
            go_wp2_with fail
            refine wp_region_quiet_tail 13 (by kernel_rfl) (by kernel_rfl) ?_
            simp only [List.take_succ_cons, List.take_zero]
            repeat (go_big_quiet_step (fail))
            refine wpQuiet_nil ?_
            rintro _ ⟨nq, rfl⟩
            simp only [List.drop_succ_cons, List.drop_zero]
            rw [IntKind.wrap_u32'] at hfx
            have HX := Lib.hid hfx
            clear hfx
            go_wp2_with fail
            go_roundg g
            case measure => omega
            case rel => exact ⟨k + 1, by omega, by go_num, by rw [hCK.out]; go_num, by rw [← hxx.out, List.map_set, HX.out]; exact hset2.out.drewN _, Below.drewN (hbset.out _) _⟩
          · have hT : flB F k = false := by rw [hfl]; simp; omega
            rw [hT] at hCK
            have HS := Lib.hid (FK_skip (pack b) F k hT)
            have t1 : decide (f < 32) = false := by simpa using h1
            clear hfl hT h1
            go_wp2_with fail
            go_roundg g
            case measure => omega
            case rel => exact ⟨k + 1, by omega, by go_num, by rw [hCK.out]; go_num, by rw [HS.out]; exact hownk, hbw⟩
        · have hT : flB F k = false := by rw [hfl]; simp; omega
          rw [hT] at hCK
          have HS := Lib.hid (FK_skip (pack b) F k hT)
          have t1 : decide (0 ≤ f) = false := by simpa using h0
          clear hfl hT h0
          go_wp2_with fail
          go_roundg g
          case measure => omega
          case rel => exact ⟨k + 1, by omega, by go_num, by rw [hCK.out]; go_num, by rw [HS.out]; exact hownk, hbw⟩
  · have hn2 : ¬ (n : Int) ≤ 3000 := by omega
    go_enter Try.func8, Try.ntmps8
    go_wp2_with (go_at_call 11; refine (law10_example _).mono ?_; rintro e w5 ⟨rfl, hb5⟩)
    go_ret
    exact ⟨rfl, hb5⟩
end Go.Proofs.Ytknpppbceogbfaa
