/-
  The walks of Class.
-/
import Derived.Test.YtapfiapjefnjjaaApdB
namespace Go.Proofs.Ytapfiapjefnjjaa
set_option linter.unusedSimpArgs false
open Go.RowKit

theorem blk_of_two {w w1 : World} {X Y : Array Value} {t s : TypeId} (h : Below ((w.alloc (.cells X t)).alloc (.cells Y s)).heap.size ((w.alloc (.cells X t)).alloc (.cells Y s)) w1) :
    Blk w1 w.heap.size t X ∧ Blk w1 (w.heap.size + 1) s Y ∧ Below w.heap.size w w1 :=
  ⟨((Blk.new w t X).alloc _).below h (by simp; omega), (Blk.new' (g := w.heap.size + 1) (w.alloc (.cells X t)) (by simp) rfl).below h (by simp),
    (((Below.refl _ _).alloc (Nat.le_refl _) _).alloc (by simp) _).trans (h.mono (by simp; omega))⟩

theorem cls_bits : ∀ x : Fin 255, bits .and .i64 (x.val : Int) 3 = (x.val : Int) % 4 ∧ (bits .and .i64 (x.val : Int) 4 != 0) = ((x.val : Int) / 4 % 2 == 1) ∧ (bits .and .i64 (x.val : Int) 16 != 0) = ((x.val : Int) / 16 % 2 == 1) ∧ (bits .and .i64 (x.val : Int) 128 != 0) = ((x.val : Int) / 128 == 1) := by decide +kernel
theorem cls_back : ∀ x : Fin 255, (Apd.cby ((x.val : Int) % 4) ((x.val : Int) / 4 % 2 == 1) ((x.val : Int) / 16 % 2 == 1) ((x.val : Int) / 128 == 1) != (x.val : Int)) = !Apd.cok (x.val : Int) := by decide +kernel



set_option maxRecDepth 100000 in
set_option maxHeartbeats 2000000 in
theorem apdu_Class (x : Int) (w : World) :
    Calls Try.prog 19 #[.int .i64 x] w fun e w' => e = .returned (.tuple #[Apd.clsV x, .bool (Apd.cok x)]) ∧ Below w.heap.size w w' := by
  have HB := Lib.hid (fun o => (Below.refl w.heap.size w).alloc (Nat.le_refl _) o)
  by_cases hr : 0 ≤ x ∧ x ≤ 254
  case neg =>
    have e1 : Apd.cok x = false := by unfold Apd.cok; exact decide_eq_false (by omega)
    have e2 : Apd.clsV x = infoV 0 false false false := by unfold Apd.clsV; rw [e1]; rfl
    rw [e1, e2]
    clear e1 e2
    rcases (show x < 0 ∨ (0 ≤ x ∧ 254 < x) by omega) with h0 | ⟨h0, h1⟩
    all_goals
      clear hr
      go_enter Try.func19, Try.ntmps19
      go_wp2_with fail
      refine bodyPost_ret (results_row_tmp rfl _ _ w.heap.size 34 _ (0, 0) _ rfl (Blk.new' _ (by simp) rfl) Try.underlying34 rfl (by kernel_rfl)) rfl ⟨rfl, HB.out _⟩
  obtain ⟨h0, h1⟩ := hr
  obtain ⟨k, rfl⟩ := Int.eq_ofNat_of_zero_le h0
  have hk : k < 255 := by omega
  obtain ⟨f1, f2, f3, f4⟩ := cls_bits ⟨k, hk⟩
  have f5 := cls_back ⟨k, hk⟩
  simp only at f1 f2 f3 f4 f5
  cases hc : Apd.cok (k : Int) with
  | false =>
    have e2 : Apd.clsV (k : Int) = infoV 0 false false false := by unfold Apd.clsV; rw [hc]; rfl
    rw [e2]
    rw [hc] at f5
    clear e2 hc
    have hB := Lib.hid (fun u => apdu_Byte ((k : Int) % 4) ((k : Int) / 4 % 2 == 1) ((k : Int) / 16 % 2 == 1) ((k : Int) / 128 == 1) u)
    unfold infoV at hB
    generalize Apd.cby ((k : Int) % 4) ((k : Int) / 4 % 2 == 1) ((k : Int) / 16 % 2 == 1) ((k : Int) / 128 == 1) = y at *
    go_enter Try.func19, Try.ntmps19
    go_wp2_with fail
    refine (hB.out _).mono ?_
    rintro e w1 ⟨rfl, hb1⟩
    obtain ⟨B1, B2, hbw⟩ := blk_of_two hb1
    have hF := Lib.hid B1
    have hbW := Lib.hid hbw
    clear B1 B2 hbw hb1
    have q0 := hF.out.cell 0
    have q1 := hF.out.cell 1
    have q2 := hF.out.cell 2
    have q3 := hF.out.cell 3
    have r0 := hF.out.frozen 0
    have r1 := hF.out.frozen 1
    have r2 := hF.out.frozen 2
    have r3 := hF.out.frozen 3
    go_wp2_with fail
    have hb4 := (((hbW.out.setCell (p := ⟨w.heap.size, 0, none⟩) (Nat.le_refl _) (.int .i64 0)).setCell (p := ⟨w.heap.size, 1, none⟩) (Nat.le_refl _) (.bool false)).setCell (p := ⟨w.heap.size, 2, none⟩) (Nat.le_refl _) (.bool false)).setCell (p := ⟨w.heap.size, 3, none⟩) (Nat.le_refl _) (.bool false)
    refine bodyPost_ret (results_row_tmp rfl _ _ w.heap.size 34 #[(.int .i64 0), (.bool false), (.bool false), (.bool false)] (0, 0) _ rfl ((((hF.out.set 0 (.int .i64 0)).set 1 (.bool false)).set 2 (.bool false)).set 3 (.bool false)) Try.underlying34 rfl (by kernel_rfl)) rfl ⟨rfl, hb4⟩
  | true =>
    have e2 : Apd.clsV (k : Int) = infoV ((k : Int) % 4) ((k : Int) / 4 % 2 == 1) ((k : Int) / 16 % 2 == 1) ((k : Int) / 128 == 1) := by unfold Apd.clsV; rw [hc]; rfl
    rw [e2]
    rw [hc] at f5
    clear e2 hc
    have hB := Lib.hid (fun u => apdu_Byte ((k : Int) % 4) ((k : Int) / 4 % 2 == 1) ((k : Int) / 16 % 2 == 1) ((k : Int) / 128 == 1) u)
    unfold infoV at hB
    generalize Apd.cby ((k : Int) % 4) ((k : Int) / 4 % 2 == 1) ((k : Int) / 16 % 2 == 1) ((k : Int) / 128 == 1) = y at *
    go_enter Try.func19, Try.ntmps19
    go_wp2_with fail
    refine (hB.out _).mono ?_
    rintro e w1 ⟨rfl, hb1⟩
    obtain ⟨B1, B2, hbw⟩ := blk_of_two hb1
    have hF := Lib.hid B1
    have s0 := B2.cell 0
    have s1 := B2.cell 1
    have s2 := B2.cell 2
    have s3 := B2.cell 3
    have hbW := Lib.hid hbw
    clear B1 B2 hbw hb1
    have q0 := hF.out.cell 0
    have q1 := hF.out.cell 1
    have q2 := hF.out.cell 2
    have q3 := hF.out.cell 3
    have r0 := hF.out.frozen 0
    have r1 := hF.out.frozen 1
    have r2 := hF.out.frozen 2
    have r3 := hF.out.frozen 3
    go_wp2_with fail
    have hb4 := (((hbW.out.setCell (p := ⟨w.heap.size, 0, none⟩) (Nat.le_refl _) (.int .i64 ((k : Int) % 4))).setCell (p := ⟨w.heap.size, 1, none⟩) (Nat.le_refl _) (.bool ((k : Int) / 4 % 2 == 1))).setCell (p := ⟨w.heap.size, 2, none⟩) (Nat.le_refl _) (.bool ((k : Int) / 16 % 2 == 1))).setCell (p := ⟨w.heap.size, 3, none⟩) (Nat.le_refl _) (.bool ((k : Int) / 128 == 1))
    refine bodyPost_ret (results_row_tmp rfl _ _ w.heap.size 34 #[(.int .i64 ((k : Int) % 4)), (.bool ((k : Int) / 4 % 2 == 1)), (.bool ((k : Int) / 16 % 2 == 1)), (.bool ((k : Int) / 128 == 1))] (0, 0) _ rfl ((((hF.out.set 0 (.int .i64 ((k : Int) % 4))).set 1 (.bool ((k : Int) / 4 % 2 == 1))).set 2 (.bool ((k : Int) / 16 % 2 == 1))).set 3 (.bool ((k : Int) / 128 == 1))) Try.underlying34 rfl (by kernel_rfl)) rfl ⟨rfl, hb4⟩

theorem cok_no (x : Int) (h : Apd.cok x = false) : x < 0 ∨ (0 ≤ x ∧ 254 < x) ∨ (0 ≤ x ∧ x ≤ 254 ∧ x / 64 % 2 = 1) ∨ (0 ≤ x ∧ x ≤ 254 ∧ x / 64 % 2 ≠ 1 ∧ x / 32 % 2 = 1) ∨ (0 ≤ x ∧ x ≤ 254 ∧ x / 64 % 2 ≠ 1 ∧ x / 32 % 2 ≠ 1 ∧ x / 8 % 2 = 1) := by
  have := of_decide_eq_false h
  omega

set_option maxRecDepth 100000 in
set_option maxHeartbeats 2000000 in
theorem ref04_Class (x : Int) (w : World) :
    Calls Try.prog 20 #[.int .i64 x] w fun e w' => e = .returned (.tuple #[Apd.clsV x, .bool (Apd.cok x)]) ∧ Below w.heap.size w w' := by
  have HB := Lib.hid (fun o => (Below.refl w.heap.size w).alloc (Nat.le_refl _) o)
  have hq : ∀ (d : Int), 0 ≤ x → x.tdiv d = x / d := fun d h => Int.tdiv_eq_ediv_of_nonneg h
  have hm : ∀ (y : Int), 0 ≤ y → y.tmod 2 = y % 2 := fun y h => Int.tmod_eq_emod_of_nonneg h
  have hm4 : 0 ≤ x → x.tmod 4 = x % 4 := fun h => Int.tmod_eq_emod_of_nonneg h
  cases hc : Apd.cok x with
  | false =>
    have e2 : Apd.clsV x = infoV 0 false false false := by unfold Apd.clsV; rw [hc]; rfl
    rw [e2]
    clear e2
    rcases cok_no x hc with h0 | ⟨h0, h1⟩ | ⟨h0, h1, h2⟩ | ⟨h0, h1, h2, h3⟩ | ⟨h0, h1, h2, h3, h4⟩
    all_goals
      clear hc
      try (have g1 := hq 64 h0; have g2 := hq 32 h0; have g3 := hq 8 h0; have g4 := hm (x / 64) (by omega); have g5 := hm (x / 32) (by omega); have g6 := hm (x / 8) (by omega))
      try replace h2 := beq_eq_false_iff_ne.2 h2
      try replace h3 := beq_eq_false_iff_ne.2 h3
      clear hq hm hm4
      go_enter Try.func20, Try.ntmps20
      go_wp2_with fail
      refine bodyPost_ret (results_row_tmp rfl _ _ w.heap.size 34 _ (0, 0) _ rfl (Blk.new' _ (by simp) rfl) Try.underlying34 rfl (by kernel_rfl)) rfl ⟨rfl, HB.out _⟩
  | true =>
    have e2 : Apd.clsV x = infoV (x % 4) (x / 4 % 2 == 1) (x / 16 % 2 == 1) (x / 128 == 1) := by unfold Apd.clsV; rw [hc]; rfl
    rw [e2]
    clear e2
    obtain ⟨h0, h1, h2, h3, h4⟩ := of_decide_eq_true hc
    have g1 := hq 64 h0
    have g2 := hq 32 h0
    have g3 := hq 8 h0
    have g7 := hq 4 h0
    have g8 := hq 16 h0
    have g9 := hq 128 h0
    have g4 := hm (x / 64) (by omega)
    have g5 := hm (x / 32) (by omega)
    have g6 := hm (x / 8) (by omega)
    have ga := hm (x / 4) (by omega)
    have gb := hm (x / 16) (by omega)
    have gc := hm4 h0
    replace h2 := beq_eq_false_iff_ne.2 h2
    replace h3 := beq_eq_false_iff_ne.2 h3
    replace h4 := beq_eq_false_iff_ne.2 h4
    clear hq hm hm4 hc
    go_enter Try.func20, Try.ntmps20
    go_wp2_with fail
    refine bodyPost_ret (results_row_tmp rfl _ _ w.heap.size 34 _ (0, 0) _ rfl (Blk.new' _ (by simp) rfl) Try.underlying34 rfl (by kernel_rfl)) rfl ⟨rfl, HB.out _⟩
end Go.Proofs.Ytapfiapjefnjjaa
