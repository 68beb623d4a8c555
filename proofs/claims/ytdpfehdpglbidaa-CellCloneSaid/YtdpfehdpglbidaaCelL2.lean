/-
  The walk of the statement CellCut.
-/
import Derived.Test.YtdpfehdpglbidaaCelX
import Derived.Test.YtdpfehdpglbidaaCelC
import Derived.Test.YtdpfehdpglbidaaCelO
namespace Go.Proofs.Ytdpfehdpglbidaa
open Go.RowKit

theorem MemAt.lt0 {w : World} {g gw gv n cw cv : Nat} {m : Cel.Mem} (h : MemAt w g gw gv n cw cv m) : g < w.heap.size ∧ gw < w.heap.size ∧ gv < w.heap.size :=
  ⟨h.box.lt, World.block_lt_of_cell? w _ (h.word h.pos), World.block_lt_of_cell? w _ (h.worn h.pos)⟩
theorem Wds.only {R : Nat → Prop} {w w' : World} {g n c : Nat} {ws : List UInt32} (h : Wds w w.heap.size (some ⟨g, 0, none⟩) n c ws) (ho : Only R w w') (hR : ¬ R g) : Wds w' w'.heap.size (some ⟨g, 0, none⟩) n c ws :=
  ⟨h.1, h.2.1, fun hn => by
    obtain ⟨b, o, e, hb, hc⟩ := h.2.2 hn
    obtain ⟨rfl, rfl⟩ : g = b ∧ 0 = o := by simpa using e
    exact ⟨g, 0, rfl, Nat.lt_of_lt_of_le hb ho.size, fun j hj => (World.cell?_of_block (a := ⟨g, 0 + j, none⟩) (ho.block g hb hR)).trans (hc j hj)⟩⟩
theorem Wds.cell {w : World} {B g n c : Nat} {ws : List UInt32} (h : Wds w B (some ⟨g, 0, none⟩) n c ws) {k : Nat} (hk : k < n) : w.cell? ⟨g, k, none⟩ = some (.int .u32 ((ws.getD k 0).toNat : Int)) := by
  obtain ⟨b, o, e, _, hc⟩ := h.at_ hk
  obtain ⟨rfl, rfl⟩ : g = b ∧ 0 = o := by simpa using e
  rwa [Nat.zero_add] at hc

theorem tmod8 (x : Int) : ∃ a : Nat, a < 8 ∧ (x.tmod 8 = (a : Int) ∨ (0 < a ∧ x.tmod 8 = -(a : Int))) := by
  have t0 := Int.tmod_lt_of_pos x (show (0 : Int) < 8 by omega)
  have t1 := Int.lt_tmod_of_pos x (show (0 : Int) < 8 by omega)
  by_cases h : 0 ≤ x.tmod 8
  · exact ⟨(x.tmod 8).toNat, by omega, .inl (by omega)⟩
  · exact ⟨(-(x.tmod 8)).toNat, by omega, .inr ⟨by omega, by omega⟩⟩

set_option maxRecDepth 100000 in
set_option maxHeartbeats 2000000 in
theorem law_CellCut (n : Int) (A : Option Addr) (nn c : Nat) (l : List Cel.Op) (w : World) (hn : n ≤ 9223372036854775807) (hs : Cel.Ops w w.heap.size A nn c l) :
    Calls Try.prog 4 #[.int .i64 n, .slice A nn c] w fun e w' => e = .returned (.bool true) ∧ Below w.heap.size w w' := by
  by_cases h0 : n < 0
  · go_enter Try.func4, Try.ntmps4
    go_wp2_with fail
    go_ret
    exact ⟨rfl, Below.refl _ _⟩
  by_cases h1 : 30 < nn
  · go_enter Try.func4, Try.ntmps4
    go_wp2_with fail
    go_ret
    exact ⟨rfl, Below.refl _ _⟩
  obtain ⟨hz, hst⟩ := Cel.CutSt.start n (by omega) hn
  have HZ := Lib.hid hz
  clear hz
  go_enter Try.func4, Try.ntmps4
  go_wp2_with fail
  refine (cell_New 8 1000 w (by omega) (by omega) (by omega)).mono ?_
  rintro e w1 ⟨g, gw, gv, rfl, hm, g1, g2, g3, hb⟩
  go_wp2_with fail
  refine (cell_Cut hm n).mono ?_
  rintro e w2 ⟨rfl, hm2, ho2⟩
  rw [HZ.out]
  generalize ((Cel.Mem.new 8 1000).cut n).1 = m0 at *
  have hb2 : Below w.heap.size w w2 := hb.trans (ho2.below (by exact hb.size) (fun q hq hr => by rcases hr with rfl | rfl | rfl <;> omega))
  clear hm hb ho2 HZ
  go_wp2_with fail
  go_loopw [7, 8] (fun gd i wr => ∃ (k : Nat) (m : Cel.Mem) (z : Int), k ≤ nn ∧ gd = .int .i64 z ∧ z = (if n < (k : Int) then n else (k : Int)) ∧ i = .int .i64 k ∧ Cel.CutSt m n k ∧ MemAt wr g gw gv 8 8 8 m ∧ Below w.heap.size w wr) (fun _ i _ => nn - (intOf i).toNat)
  case atStart => exact ⟨0, m0, 0, by omega, rfl, by rw [if_neg (by simp; omega)]; rfl, rfl, hst, hm2, hb2⟩
  case round =>
    obtain ⟨k, m, z, hk, rfl, hz, rfl, hc, hma, hbw⟩ := hrel
    by_cases hlt : k < nn
    · obtain ⟨b, o, x, rfl, hbl, hx, hfit, c0, c1, c2, c3⟩ := (hs.below hbw).get hlt
      obtain ⟨a, ha, hmod⟩ := tmod8 x.a
      have p0 : (0 : Int) ≤ (k : Int) := by omega
      have p1 : (k : Int) < (nn : Int) := by omega
      obtain ⟨l0, l1, l2⟩ := hma.lt0
      have HA := Lib.hid ha
      have HC := Lib.hid hc
      have HS := Lib.hid hs
      have HX := Lib.hid hx
      clear hx hs
      by_cases hkn : (k : Int) < n
      · obtain ⟨he, hw, hc'⟩ := hc.good ha hkn (by omega) x.v
        rw [if_neg (by omega)] at hz
        subst hz
        have HE := Lib.hid he
        have HW := Lib.hid hw
        clear he hw hc
        rcases hmod with hmod | ⟨hpos, hmod⟩
        all_goals
          go_wp2_with fail
          refine (cell_Image hma).mono ?_
          rintro e w3 ⟨i1, rfl, hi1, hs1, hb3⟩
          have hm3 := hma.below hb3
          have c33 := (hb3.cell (p := ⟨b, _, none⟩) (by have := hbw.size; show b < _; omega)).trans c3
          go_wp2_with fail
          refine (cell_Write hm3 a _ x.v rfl HC.out.fine ⟨by omega, by omega⟩).mono ?_
          rintro e w4 ⟨rfl, hm4, ho4⟩
          have hm4 : MemAt w4 g gw gv 8 8 8 (m.write ↑a x.v).1 := hm4
          rw [HE.out]
          have hs4 := hs1.only ho4 (by rintro (rfl | rfl | rfl) <;> omega)
          go_wp2_with fail
          refine (cell_Image hm4).mono ?_
          rintro e w5 ⟨i2, rfl, hi2, hs2, hb5⟩
          have hs5 := hs4.below hb5
          have hm5 := hm4.below hb5
          have hb5w : Below w.heap.size w w5 := by
            have h13 := hbw.trans (hb3.mono hbw.size)
            have h14 := h13.trans (ho4.below (by exact h13.size) (fun q hq hr => by rcases hr with rfl | rfl | rfl <;> omega))
            exact h14.trans (hb5.mono h14.size)
          have hs5c : Cel.Ops w5 w.heap.size (some ⟨b, o, none⟩) nn c l := HS.out.below hb5w
          rw [HW.out] at hs2
          clear hs1 hs4 hm3 hm4 hma hb3 hbw ho4 hb5 c33 c0 c1 c2 c3 hm2 hb2
          go_wp2_with fail
          obtain ⟨wo, rfl⟩ : ∃ wo : World, wo = wr := ⟨_, rfl⟩
          go_loopw [13] (fun j wx => ∃ (q kq : Nat), q ≤ 8 ∧ j = .int .i64 q ∧ wx = w5.drewN kq) (fun j _ => 8 - (intOf j).toNat)
          case atStart => exact ⟨0, 0, by omega, rfl, rfl⟩
          case round =>
            obtain ⟨q, kq, hq, rfl, rfl⟩ := hrel
            by_cases hq8 : q < 8
            · have d1 := hs5.cell hq8
              have d2 := hs2.cell hq8
              obtain ⟨b', o', x', e', hbl', hx', hfit', d3⟩ := hs5c.get hlt
              obtain ⟨rfl, rfl⟩ : b = b' ∧ o = o' := by simpa using e'
              obtain rfl : x = x' := by rw [HX.out] at hx'; simpa using hx'
              obtain ⟨-, -, -, d3⟩ := d3
              have q0 : (0 : Int) ≤ (q : Int) := by omega
              have q1 : (q : Int) < 8 := by omega
              have q2 : (q : Int) ≤ 8 := by omega
              by_cases hqa : q = a
              · subst hqa
                have e1 : (m.words.set q x.v).getD q 0 = x.v := by simp [List.getD, HC.out.lenw, hq8]
                rw [e1] at d2
                generalize x.v = v at *
                generalize m.words.getD q 0 = y at *
                go_wp2_with fail
                go_quiet (fail)
                go_wp2_with fail
                go_roundw
                case rel => exact ⟨q + 1, _, by omega, by go_num, rfl⟩
                case measure => simp [intOf]; omega
              · have e1 : (m.words.set a x.v).getD q 0 = m.words.getD q 0 := by simp [List.getD, List.getElem?_set_ne (fun h => hqa h.symm)]
                rw [e1] at d2
                have n1 : ((q : Int) != (a : Int)) = true := by simp; omega
                have n2 : ((q : Int) == (a : Int)) = false := by simp; omega
                generalize x.v = v at *
                generalize m.words.getD q 0 = y at *
                go_wp2_with fail
                go_quiet (fail)
                go_wp2_with fail
                go_roundw
                case rel => exact ⟨q + 1, _, by omega, by go_num, rfl⟩
                case measure => simp [intOf]; omega
            · obtain rfl : q = 8 := by omega
              go_wp2_with fail
              go_roundw
              case rel => exact ⟨k + 1, _, (k : Int) + 1, by omega, by go_num, by rw [if_neg (by omega)]; omega, by go_num, hc', hm5.drewN _, hb5w.trans ⟨rfl, rfl, rfl, Nat.le_refl _, fun _ _ => rfl⟩⟩
              case measure => simp [intOf]; omega
      · obtain ⟨he, hw, hc'⟩ := hc.bad ha (by omega) x.v
        have hzn : z = n := by split at hz <;> omega
        clear hz
        subst hzn
        have hkn' : z ≤ (k : Int) := by omega
        clear hkn
        have HE := Lib.hid he
        have HW := Lib.hid hw
        clear he hw hc
        rcases hmod with hmod | ⟨hpos, hmod⟩
        all_goals
          go_wp2_with fail
          refine (cell_Image hma).mono ?_
          rintro e w3 ⟨i1, rfl, hi1, hs1, hb3⟩
          have hm3 := hma.below hb3
          have c33 := (hb3.cell (p := ⟨b, _, none⟩) (by have := hbw.size; show b < _; omega)).trans c3
          go_wp2_with fail
          refine (cell_Write hm3 a _ x.v rfl HC.out.fine ⟨by omega, by omega⟩).mono ?_
          rintro e w4 ⟨rfl, hm4, ho4⟩
          have hm4 : MemAt w4 g gw gv 8 8 8 (m.write ↑a x.v).1 := hm4
          rw [HE.out]
          have hs4 := hs1.only ho4 (by rintro (rfl | rfl | rfl) <;> omega)
          go_wp2_with fail
          refine (cell_Image hm4).mono ?_
          rintro e w5 ⟨i2, rfl, hi2, hs2, hb5⟩
          have hs5 := hs4.below hb5
          have hm5 := hm4.below hb5
          have hb5w : Below w.heap.size w w5 := by
            have h13 := hbw.trans (hb3.mono hbw.size)
            have h14 := h13.trans (ho4.below (by exact h13.size) (fun q hq hr => by rcases hr with rfl | rfl | rfl <;> omega))
            exact h14.trans (hb5.mono h14.size)
          have hs5c : Cel.Ops w5 w.heap.size (some ⟨b, o, none⟩) nn c l := HS.out.below hb5w
          rw [HW.out] at hs2
          clear hs1 hs4 hm3 hm4 hma hb3 hbw ho4 hb5 c33 c0 c1 c2 c3 hm2 hb2
          go_wp2_with fail
          obtain ⟨wo, rfl⟩ : ∃ wo : World, wo = wr := ⟨_, rfl⟩
          go_loopw [13] (fun j wx => ∃ (q kq : Nat), q ≤ 8 ∧ j = .int .i64 q ∧ wx = w5.drewN kq) (fun j _ => 8 - (intOf j).toNat)
          case atStart => exact ⟨0, 0, by omega, rfl, rfl⟩
          case round =>
            obtain ⟨q, kq, hq, rfl, rfl⟩ := hrel
            by_cases hq8 : q < 8
            · have d1 := hs5.cell hq8
              have d2 := hs2.cell hq8
              obtain ⟨b', o', x', e', hbl', hx', hfit', d3⟩ := hs5c.get hlt
              obtain ⟨rfl, rfl⟩ : b = b' ∧ o = o' := by simpa using e'
              obtain rfl : x = x' := by rw [HX.out] at hx'; simpa using hx'
              obtain ⟨-, -, -, d3⟩ := d3
              have q0 : (0 : Int) ≤ (q : Int) := by omega
              have q1 : (q : Int) < 8 := by omega
              have q2 : (q : Int) ≤ 8 := by omega
              by_cases hqa : q = a
              · subst hqa
                generalize x.v = v at *
                generalize m.words.getD q 0 = y at *
                go_wp2_with fail
                go_quiet (fail)
                go_wp2_with fail
                go_roundw
                case rel => exact ⟨q + 1, _, by omega, by go_num, rfl⟩
                case measure => simp [intOf]; omega
              · have n1 : ((q : Int) != (a : Int)) = true := by simp; omega
                have n2 : ((q : Int) == (a : Int)) = false := by simp; omega
                generalize x.v = v at *
                generalize m.words.getD q 0 = y at *
                go_wp2_with fail
                go_quiet (fail)
                go_wp2_with fail
                go_roundw
                case rel => exact ⟨q + 1, _, by omega, by go_num, rfl⟩
                case measure => simp [intOf]; omega
            · obtain rfl : q = 8 := by omega
              go_wp2_with fail
              go_roundw
              case rel => exact ⟨k + 1, _, _, by omega, rfl, by rw [if_pos (by omega)], by go_num, hc', hm5.drewN _, hb5w.trans ⟨rfl, rfl, rfl, Nat.le_refl _, fun _ _ => rfl⟩⟩
              case measure => simp [intOf]; omega
    · obtain rfl : k = nn := by omega
      have HC := Lib.hid hc
      have hof := hc.off
      have hr1 : (!m.restore.off) = true := rfl
      have hr2 := hc.last
      have hfr := hc.fine.restore
      by_cases hkn : n < (k : Int)
      · obtain ⟨-, hcu, hwr⟩ := hc.out hkn
        rw [decide_eq_true hkn] at hof
        rw [if_pos hkn] at hz
        subst hz
        have E1 := Lib.hid hcu
        have E2 := Lib.hid hwr
        have E3 := Lib.hid hof
        have E4 := Lib.hid hr1
        have E5 := Lib.hid hr2
        clear hcu hwr hof hr1 hr2 hc
        go_wp2_with (first
          | (go_at_call 15; first
              | (refine (cell_Power hma).mono ?_; rintro e w3 ⟨rfl, rfl⟩; rw [E3.out])
              | (refine (cell_Power hm4).mono ?_; rintro e w5 ⟨rfl, rfl⟩; rw [E4.out]))
          | (go_at_call 16; refine (cell_Writes hma).mono ?_; rintro e w3 ⟨rfl, rfl⟩; rw [E2.out])
          | (go_at_call 17; refine (cell_Cuts hma).mono ?_; rintro e w3 ⟨rfl, rfl⟩; rw [E1.out])
          | (go_at_call 18; refine (cell_Restore hma).mono ?_; rintro e w4 ⟨rfl, hm4, ho4⟩)
          | (go_at_call 9; refine (cell_Write hm4 0 1 1 rfl hfr (by omega)).mono ?_; rintro e w5 ⟨rfl, hm5, ho5⟩; rw [E5.out])
          | (go_at_call 12; refine (law09_awake _).mono ?_; rintro e w6 ⟨rfl, hb6⟩))
        go_ret
        have h4 := hbw.trans (ho4.below (by exact hbw.size) (fun q hq hr => by rcases hr with rfl | rfl | rfl <;> omega))
        have h5 := h4.trans (ho5.below (by exact h4.size) (fun q hq hr => by rcases hr with rfl | rfl | rfl <;> omega))
        exact ⟨rfl, h5.trans (hb6.mono h5.size)⟩
      · obtain ⟨-, -, hcu, hwr⟩ := hc.on (by omega)
        rw [decide_eq_false hkn] at hof
        rw [if_neg hkn] at hz
        subst hz
        have hkn' : (k : Int) ≤ n := by omega
        have E1 := Lib.hid hcu
        have E2 := Lib.hid hwr
        have E3 := Lib.hid hof
        have E4 := Lib.hid hr1
        have E5 := Lib.hid hr2
        clear hcu hwr hof hr1 hr2 hc
        go_wp2_with (first
          | (go_at_call 15; first
              | (refine (cell_Power hma).mono ?_; rintro e w3 ⟨rfl, rfl⟩; rw [E3.out])
              | (refine (cell_Power hm4).mono ?_; rintro e w5 ⟨rfl, rfl⟩; rw [E4.out]))
          | (go_at_call 16; refine (cell_Writes hma).mono ?_; rintro e w3 ⟨rfl, rfl⟩; rw [E2.out])
          | (go_at_call 17; refine (cell_Cuts hma).mono ?_; rintro e w3 ⟨rfl, rfl⟩; rw [E1.out])
          | (go_at_call 18; refine (cell_Restore hma).mono ?_; rintro e w4 ⟨rfl, hm4, ho4⟩)
          | (go_at_call 9; refine (cell_Write hm4 0 1 1 rfl hfr (by omega)).mono ?_; rintro e w5 ⟨rfl, hm5, ho5⟩; rw [E5.out])
          | (go_at_call 12; refine (law09_awake _).mono ?_; rintro e w6 ⟨rfl, hb6⟩))
        go_ret
        have h4 := hbw.trans (ho4.below (by exact hbw.size) (fun q hq hr => by rcases hr with rfl | rfl | rfl <;> omega))
        have h5 := h4.trans (ho5.below (by exact h4.size) (fun q hq hr => by rcases hr with rfl | rfl | rfl <;> omega))
        exact ⟨rfl, h5.trans (hb6.mono h5.size)⟩
end Go.Proofs.Ytdpfehdpglbidaa
