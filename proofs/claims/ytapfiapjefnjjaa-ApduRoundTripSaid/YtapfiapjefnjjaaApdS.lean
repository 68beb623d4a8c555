/-
  The walks of the reference's amount, short and extended.
-/
import Derived.Test.YtapfiapjefnjjaaApdM
namespace Go.Proofs.Ytapfiapjefnjjaa
set_option linter.unusedSimpArgs false
open Go.RowKit

set_option maxHeartbeats 2000000 in
theorem ref04_amount (A : Option Addr) (n c : Nat) (b : List UInt8) (w : World) (h : Byt w w.heap.size A n c b) (h0 : 1 ≤ n) (hn : n ≤ 2) :
    Calls Try.prog 60 #[.slice A n c] w fun e w' => e = .returned (.int .i64 (Apd.exn b : Int)) ∧ w = w' := by
  obtain ⟨bb, o, rfl, hbb⟩ := h.at_ (by omega)
  have HY := Lib.hid h
  have hex : Apd.exn b = if Oct.numK b n = 0 then 256 ^ n else Oct.numK b n := by
    have hl := h.1
    have e : Oct.num b = Oct.numK b n := by unfold Oct.num; rw [hl]
    unfold Apd.exn
    rw [e, hl]
    by_cases hz : Oct.numK b n = 0
    · rw [if_pos ⟨hz, by omega⟩, if_pos hz]
    · rw [if_neg (fun e => hz e.1), if_neg hz]
  have HEX := Lib.hid hex
  clear hex h
  have hK1 : Hid (∀ j, Oct.numK b (j + 1) = Oct.numK b j * 256 + (b.getD j 0).toNat) := fun j => Oct.numK_succ b j
  have hK2 : Hid (∀ j, Oct.numK b j < 256 ^ j) := fun j => Oct.numK_lt b j
  have hP : Hid (∀ j, j ≤ 2 → 256 ^ j ≤ 65536) := fun j hj => Nat.le_trans (Nat.pow_le_pow_right (by omega) hj) (by decide)
  go_enter Try.func60, Try.ntmps60
  go_wp2_with fail
  go_loopw [3, 4, 5] (fun x all i wr => ∃ j y z : Nat, j ≤ n ∧ x = .int .i64 y ∧ all = .int .i64 z ∧ i = .int .i64 j ∧ Hid (y = Oct.numK b j) ∧ Hid (z = 256 ^ j) ∧ y < 65536 ∧ z ≤ 65536 ∧ w = wr) (fun _ _ i _ => n - (intOf i).toNat)
  case atStart => exact ⟨0, 0, 1, by omega, rfl, rfl, rfl, by show _ = _; simp [Oct.numK], by show _ = _; simp, by omega, by omega, rfl⟩
  case round =>
    obtain ⟨j, y, z, hj, rfl, rfl, rfl, hy, hz, hyl, hzl, rfl⟩ := hrel
    by_cases hlt : j < n
    · have hc0 := (HY.out.2.2).byte j (by rw [HY.out.1]; exact hlt)
      have hn1 : Hid (y * 256 + (b.getD j 0).toNat = Oct.numK b (j + 1)) := by show _ = _; rw [hK1.out, hy.out]
      have hn2 : Hid (z * 256 = 256 ^ (j + 1)) := by show _ = _; rw [hz.out, Nat.pow_succ]
      have hb1 : y * 256 + (b.getD j 0).toNat < 65536 := by
        have h1 := hK2.out (j + 1)
        have h2 := hP.out (j + 1) (by omega)
        rw [← hn1.out] at h1; omega
      have hb2 : z * 256 ≤ 65536 := by rw [hn2.out]; exact hP.out (j + 1) (by omega)
      have hx := (b.getD j 0).toNat_lt
      generalize (b.getD j 0).toNat = x at *
      have p0 : (0 : Int) ≤ (j : Int) := by omega
      have p1 : (j : Int) < (n : Int) := by omega
      go_wp2_with fail
      go_roundw
      case rel => exact ⟨j + 1, y * 256 + x, z * 256, by omega, by go_num, by go_num, by go_num, hn1, hn2, hb1, hb2, by first | rfl | trivial⟩
      case measure => simp [intOf]; omega
    · obtain rfl : j = n := by omega
      by_cases hy0 : y = 0
      · have e : Apd.exn b = z := by rw [HEX.out, ← hy.out, if_pos hy0, hz.out]
        have HE := Lib.hid e
        subst hy0
        clear e
        go_wp2_with fail
        go_ret
        rw [HE.out]
        exact ⟨rfl, rfl⟩
      · have e : Apd.exn b = y := by rw [HEX.out, ← hy.out, if_neg hy0]
        have HE := Lib.hid e
        have q0 : ((y : Int) == 0) = false := by rw [beq_eq_false_iff_ne]; omega
        clear e
        go_wp2_with fail
        go_ret
        rw [HE.out]
        exact ⟨rfl, rfl⟩

/-- What short and extended leave. -/
def ShRes (w : World) (cla ins p1 p2 : Int) (b : List UInt8) (e : Ending) (w' : World) : Prop :=
  Below w.heap.size w w' ∧
  ((Apd.bdE b ≠ 0 ∧ e = .returned (.tuple #[cmdV 0 0 0 0 none 0 0 0 false, .int .i64 (Apd.bdE b)])) ∨
   (Apd.bdE b = 0 ∧ ∃ A c, e = .returned (.tuple #[cmdV cla ins p1 p2 A (Apd.bdD b).length c (Apd.bdL b : Int) (Apd.bdG b), .int .i64 0]) ∧
     Own w' w.heap.size 5 1 A (Apd.bdD b).length c (bcells (Apd.bdD b))))
theorem num_one (b : List UInt8) (h : 1 ≤ b.length) : Oct.num (b.take 1) = (b.getD 0 0).toNat := by
  obtain ⟨x, l, rfl⟩ : ∃ x l, b = x :: l := by cases b with | nil => simp at h | cons x l => exact ⟨x, l, rfl⟩
  simp [Oct.num, Oct.numK]
theorem num_two (b : List UInt8) (h : 2 ≤ b.length) : Oct.num (b.take 2) = 256 * (b.getD 0 0).toNat + (b.getD 1 0).toNat := by
  obtain ⟨x, y, l, rfl⟩ : ∃ x y l, b = x :: y :: l := by
    match b, h with
    | x :: y :: l, _ => exact ⟨x, y, l, rfl⟩
  simp [Oct.num, Oct.numK, List.range_succ]; omega

set_option maxRecDepth 100000 in
set_option maxHeartbeats 16000000 in
theorem ref04_short (cla ins p1 p2 : Int) (A : Option Addr) (n c : Nat) (b : List UInt8) (w : World) (h : Byt w w.heap.size A n c b) (hn : n ≤ 1000000) (h1 : 1 ≤ n) (h2 : n = 1 ∨ b.getD 0 0 ≠ 0) :
    Calls Try.prog 48 #[cmdV cla ins p1 p2 none 0 0 0 false, .slice A n c] w (ShRes w cla ins p1 p2 b) := by
  obtain ⟨ti, hti, hz0, hz1, hz2⟩ := info_parts o_u8
  obtain ⟨bb, o, rfl, hbb⟩ := h.at_ (by omega)
  have hl := h.1
  have hnc := h.2.1
  obtain ⟨T1, T2, T3⟩ := twoB w 24 24 #[I64 cla, I64 ins, I64 p1, I64 p2, .slice none 0 0, I64 0, .bool false] #[.int .i64 0, .int .i64 0, .int .i64 0, .int .i64 0, .slice none 0 0, .int .i64 0, .bool false]
  have hy := h.after T3
  have k4 := T1.cell 4
  have k5 := T1.cell 5
  have f4 := T1.frozen 4
  have f5 := T1.frozen 5
  have B1 := Lib.hid T1
  have B2 := Lib.hid T2
  have BW := Lib.hid T3
  clear T1 T2 T3
  unfold ShRes cmdV
  by_cases hn1 : n = 1
  · have e : Apd.bdE b = 0 ∧ Apd.bdD b = [] ∧ Apd.bdL b = Apd.exn b ∧ Apd.bdG b = false := by simp [Apd.bdE, Apd.bdD, Apd.bdL, Apd.bdG, hl, hn1]
    have HE := Lib.hid e
    subst hn1
    have HA := Lib.hid (ref04_amount _ 1 c b _ hy (by omega) (by omega))
    clear e hy h h2
    go_enter Try.func48, Try.ntmps48
    go_upto_region 1 with fail
    generalize (w.alloc (.cells #[I64 cla, I64 ins, I64 p1, I64 p2, .slice none 0 0, I64 0, .bool false] 24)).alloc (.cells #[.int .i64 0, .int .i64 0, .int .i64 0, .int .i64 0, .slice none 0 0, .int .i64 0, .bool false] 24) = w1 at *
    go_wp2_with (first
        | (go_at_call 60; refine HA.out.mono ?_; rintro e w1 ⟨rfl, rfl⟩)
        | ((with_reducible show wpList _ _ _ (Oper.mk _ (Op.load 24 (Operand.tmp 2)) _ _ _ _ :: _) _ _); refine wpList_load_row rfl 24 (.tmp 2) rfl w.heap.size rfl 24 #[I64 cla, I64 ins, I64 p1, I64 p2, .slice none 0 0, .int .i64 (Apd.exn b : Int), .bool false] (0, 0) _ (by exact B1.out.set 5 (.int .i64 (Apd.exn b : Int))) Try.underlying24 rfl (by kernel_rfl) ?_)
        | ((with_reducible show wpList _ _ _ (Oper.mk _ (Op.store 24 (Operand.tmp 4) (Operand.tmp 13)) _ _ _ _ :: _) _ _); refine wpList_store_row rfl 24 (.tmp 4) (.tmp 13) rfl (w.heap.size + 1) #[I64 cla, I64 ins, I64 p1, I64 p2, .slice none 0 0, .int .i64 (Apd.exn b : Int), .bool false] rfl rfl 24 _ (B2.out.far (p := ⟨w.heap.size, 5, none⟩) (by simp) (.int .i64 (Apd.exn b : Int))) (by kernel_rfl) rfl (cmd_one _ _ _ _ _ _ _ _ _) ?_))
    refine bodyPost_ret (results_row_tmp rfl _ _ (w.heap.size + 1) 24 _ (0, 0) _ rfl (by exact (B2.out.far (p := ⟨w.heap.size, 5, none⟩) (by simp) (.int .i64 (Apd.exn b : Int))).setRow _) Try.underlying24 rfl (by kernel_rfl)) rfl ⟨by exact Below.setRow (Below.setCell (p := ⟨w.heap.size, 5, none⟩) BW.out (Nat.le_refl _) (.int .i64 (Apd.exn b : Int))) (Nat.le_succ _) _, .inr ?_⟩
    rw [HE.out.1, HE.out.2.1, HE.out.2.2.1, HE.out.2.2.2]
    refine ⟨rfl, none, 0, rfl, ?_⟩
    exact Own.none_ _ _ _ _ _
  have hx0 : b.getD 0 0 ≠ 0 := h2.resolve_left hn1
  have hbd : Apd.bdE b = (Apd.rst b 1 false).1 ∧ Apd.bdD b = (Apd.rst b 1 false).2.1 ∧ Apd.bdL b = (Apd.rst b 1 false).2.2 ∧ Apd.bdG b = false := by
    have hl1 : ¬ b.length ≤ 1 := by omega
    refine ⟨?_, ?_, ?_, ?_⟩
    · unfold Apd.bdE; rw [if_neg hl1, if_neg hx0]
    · unfold Apd.bdD; rw [if_neg hl1, if_neg hx0]
    · unfold Apd.bdL; rw [if_neg hl1, if_neg hx0]
    · unfold Apd.bdG; rw [if_neg hl1]; exact beq_eq_false_iff_ne.2 hx0
  obtain ⟨r, rfl⟩ : ∃ r, n = 1 + r := ⟨n - 1, by omega⟩
  have hx1 := (hy.2.2).byte 0 (by omega)
  rw [Nat.add_zero] at hx1
  have hnum := num_one b (by omega)
  have hr1 := (b.getD 0 0).toNat_lt
  have hy0 : ¬ (b.getD 0 0).toNat = 0 := fun e => hx0 (UInt8.toNat_inj.1 e)
  have hda0 := Byt.drop h 1 (by omega)
  rw [Nat.add_sub_cancel_left] at hda0
  have hle0 : ∀ y, y ≤ r → Byt w w.heap.size (some ⟨bb, o + (1 + y), none⟩) (1 + r - (1 + y)) (c - (1 + y)) ((b.drop 1).drop y) := fun y hyr => by
    have := Byt.drop h (1 + y) (by omega)
    rwa [← List.drop_drop] at this
  clear hx0 h2
  generalize (b.getD 0 0).toNat = y at *
  have HY := Lib.hid hnum
  clear hnum
  have c1 : ¬ b.length < 1 := by omega
  have c2 : ¬ (false = true ∧ b.length = 1) := by simp
  have c3 : (b.drop 1).length = r := by rw [List.length_drop]; omega
  have HDA0 := Lib.hid hda0
  clear hda0 hy h hl
  by_cases hry : r < y
  · have e : Apd.bdE b = 5 := by rw [hbd.1]; unfold Apd.rst; rw [if_neg c1, if_neg c2, HY.out, if_neg hy0, c3, if_pos hry]
    have HE := Lib.hid e
    clear e hbd c1 c2 c3
    go_enter Try.func48, Try.ntmps48
    go_upto_region 1 with fail
    generalize (w.alloc (.cells #[I64 cla, I64 ins, I64 p1, I64 p2, .slice none 0 0, I64 0, .bool false] 24)).alloc (.cells #[.int .i64 0, .int .i64 0, .int .i64 0, .int .i64 0, .slice none 0 0, .int .i64 0, .bool false] 24) = w1 at *
    go_wp2_with ((with_reducible show wpList _ _ _ (Oper.mk _ (Op.store 24 (Operand.tmp 4) (Operand.tmp 23)) _ _ _ _ :: _) _ _); refine wpList_store_row rfl 24 (.tmp 4) (.tmp 23) rfl (w.heap.size + 1) #[I64 0, I64 0, I64 0, I64 0, .slice none 0 0, I64 0, .bool false] rfl rfl 24 _ B2.out (by kernel_rfl) rfl (cmd_one _ _ _ _ _ _ _ _ _) ?_)
    refine bodyPost_ret (results_row_tmp rfl _ _ (w.heap.size + 1) 24 _ (0, 0) _ rfl (by exact B2.out.setRow _) Try.underlying24 rfl (by kernel_rfl)) rfl ⟨by exact Below.setRow BW.out (Nat.le_succ _) _, .inl ?_⟩
    rw [HE.out]
    exact ⟨by decide, rfl⟩
  by_cases hq : r ≠ y ∧ r ≠ y + 1
  · have e : Apd.bdE b = 4 := by rw [hbd.1]; unfold Apd.rst; rw [if_neg c1, if_neg c2, HY.out, if_neg hy0, c3, if_neg hry, if_pos hq]
    have HE := Lib.hid e
    have q1 : 2 + y < 1 + r := by omega
    clear e hbd c1 c2 c3
    go_enter Try.func48, Try.ntmps48
    go_upto_region 1 with fail
    generalize (w.alloc (.cells #[I64 cla, I64 ins, I64 p1, I64 p2, .slice none 0 0, I64 0, .bool false] 24)).alloc (.cells #[.int .i64 0, .int .i64 0, .int .i64 0, .int .i64 0, .slice none 0 0, .int .i64 0, .bool false] 24) = w1 at *
    go_wp2_with ((with_reducible show wpList _ _ _ (Oper.mk _ (Op.store 24 (Operand.tmp 4) (Operand.tmp 29)) _ _ _ _ :: _) _ _); refine wpList_store_row rfl 24 (.tmp 4) (.tmp 29) rfl (w.heap.size + 1) #[I64 0, I64 0, I64 0, I64 0, .slice none 0 0, I64 0, .bool false] rfl rfl 24 _ B2.out (by kernel_rfl) rfl (cmd_one _ _ _ _ _ _ _ _ _) ?_)
    refine bodyPost_ret (results_row_tmp rfl _ _ (w.heap.size + 1) 24 _ (0, 0) _ rfl (by exact B2.out.setRow _) Try.underlying24 rfl (by kernel_rfl)) rfl ⟨by exact Below.setRow BW.out (Nat.le_succ _) _, .inl ?_⟩
    rw [HE.out]
    exact ⟨by decide, rfl⟩
  have hq2 : y = r ∨ r = y + 1 := by omega
  have e : Apd.bdE b = 0 ∧ Apd.bdD b = (b.drop 1).take y ∧ Apd.bdL b = Apd.exn ((b.drop 1).drop y) ∧ Apd.bdG b = false := by
    rw [hbd.1, hbd.2.1, hbd.2.2.1, hbd.2.2.2]; unfold Apd.rst; rw [if_neg c1, if_neg c2, HY.out, if_neg hy0, c3, if_neg hry, if_neg hq]; exact ⟨rfl, rfl, rfl, rfl⟩
  have HT := Lib.hid (Byt.take HDA0.out y (c - 1) (by omega) (by omega))
  have HLE := Lib.hid (hle0 y (by omega))
  clear hle0
  have cne : ¬ c = 1 := by omega
  have cle : y ≤ c - 1 := by omega
  rcases hq2 with hq2 | hq2
  · subst hq2
    have hz : Apd.exn ((b.drop 1).drop y) = 0 := by
      have hl0 := HLE.out.1
      rw [Nat.sub_self] at hl0
      rw [List.eq_nil_of_length_eq_zero hl0]; rfl
    rw [hz] at e
    have HE := Lib.hid e
    clear e hbd c1 c2 c3 hry hq hz HLE HDA0
    go_enter Try.func48, Try.ntmps48
    go_upto_region 1 with fail
    generalize (w.alloc (.cells #[I64 cla, I64 ins, I64 p1, I64 p2, .slice none 0 0, I64 0, .bool false] 24)).alloc (.cells #[.int .i64 0, .int .i64 0, .int .i64 0, .int .i64 0, .slice none 0 0, .int .i64 0, .bool false] 24) = w1 at *
    go_wp2_with (first
        | (at_builtin; refine wpList_append _ rfl (.tmp 30) (.tmp 34) 22 rfl w.heap.size 5 ti _ 1 1 Try.underlying22 hti hz0 hz1 hz2 rfl (by omega) _ 0 0 [] rfl (Own.none_ _ _ _ _ _) w.heap.size _ (1 + y - 1) (c - 1) (bcells ((b.drop 1).take y)) rfl (by exact (HT.out.below (bal BW.out _)).2.2) (by rw [length_bcells, HT.out.1]; omega) (bcells_one _) (by unfold maxLen; omega) (by omega) (by exact (bal BW.out _).size) ?_; intro A3 c3 w5 hown5 hg5 hat5; rw [Nat.zero_add, List.nil_append, Nat.add_sub_cancel_left] at hown5; rw [Nat.zero_add, Nat.add_sub_cancel_left]; have hb5 := (Own.none_ _ _ 5 1 _).grown hg5 (Below.refl _ _) (Nat.le_refl _); have B15 := (B1.out.alloc _).after hb5; have B25 := (B2.out.alloc _).after hb5; have W5 := bgo (bal BW.out _) hb5; have k4 := B15.cell 4; have k5 := B15.cell 5; have f4 := B15.frozen 4; have f5 := B15.frozen 5; have HO := Lib.hid hown5; have HB1 := Lib.hid B15; have HB2 := Lib.hid B25; have HW5 := Lib.hid W5; clear hown5 hg5 hat5 hb5 B15 B25 W5)
        | ((with_reducible show wpList _ _ _ (Oper.mk _ (Op.load 24 (Operand.tmp 2)) _ _ _ _ :: _) _ _); refine wpList_load_row rfl 24 (.tmp 2) rfl w.heap.size rfl 24 #[I64 cla, I64 ins, I64 p1, I64 p2, .slice A3 y c3, I64 0, .bool false] (0, 0) _ (by exact HB1.out.set 4 (.slice A3 y c3)) Try.underlying24 rfl (by kernel_rfl) ?_)
        | ((with_reducible show wpList _ _ _ (Oper.mk _ (Op.store 24 (Operand.tmp 4) (Operand.tmp 48)) _ _ _ _ :: _) _ _); refine wpList_store_row rfl 24 (.tmp 4) (.tmp 48) rfl (w.heap.size + 1) #[I64 cla, I64 ins, I64 p1, I64 p2, .slice A3 y c3, I64 0, .bool false] rfl rfl 24 _ (HB2.out.far (p := ⟨w.heap.size, 4, none⟩) (by simp) (.slice A3 y c3)) (by kernel_rfl) rfl (cmd_one _ _ _ _ _ _ _ _ _) ?_))
    refine bodyPost_ret (results_row_tmp rfl _ _ (w.heap.size + 1) 24 _ (0, 0) _ rfl (by exact (HB2.out.far (p := ⟨w.heap.size, 4, none⟩) (by simp) (.slice A3 y c3)).setRow _) Try.underlying24 rfl (by kernel_rfl)) rfl ⟨by exact Below.setRow (Below.setCell (p := ⟨w.heap.size, 4, none⟩) HW5.out (Nat.le_refl _) (.slice A3 y c3)) (Nat.le_succ _) _, .inr ?_⟩
    rw [HE.out.1, HE.out.2.1, HE.out.2.2.1, HE.out.2.2.2]
    rw [HT.out.1]
    refine ⟨rfl, A3, c3, rfl, ?_⟩
    exact (own_cell_ne HO.out HB1.out (by decide) 4 (.slice A3 y c3)).setRow_ne (HB2.out.far (p := ⟨w.heap.size, 4, none⟩) (by simp) (.slice A3 y c3)) (by decide) _
  · subst hq2
    have HE := Lib.hid e
    clear e hbd c1 c2 c3 hry hq HDA0
    generalize hex : Apd.exn ((b.drop 1).drop y) = z at *
    have HX := Lib.hid hex
    clear hex
    have cne2 : ¬ c = 1 + y := by omega
    go_enter Try.func48, Try.ntmps48
    go_upto_region 1 with fail
    generalize (w.alloc (.cells #[I64 cla, I64 ins, I64 p1, I64 p2, .slice none 0 0, I64 0, .bool false] 24)).alloc (.cells #[.int .i64 0, .int .i64 0, .int .i64 0, .int .i64 0, .slice none 0 0, .int .i64 0, .bool false] 24) = w1 at *
    go_wp2_with (first
        | (at_builtin; refine wpList_append _ rfl (.tmp 30) (.tmp 34) 22 rfl w.heap.size 5 ti _ 1 1 Try.underlying22 hti hz0 hz1 hz2 rfl (by omega) _ 0 0 [] rfl (Own.none_ _ _ _ _ _) w.heap.size _ (1 + y - 1) (c - 1) (bcells ((b.drop 1).take y)) rfl (by exact (HT.out.below (bal BW.out _)).2.2) (by rw [length_bcells, HT.out.1]; omega) (bcells_one _) (by unfold maxLen; omega) (by omega) (by exact (bal BW.out _).size) ?_; intro A3 c3 w5 hown5 hg5 hat5; rw [Nat.zero_add, List.nil_append, Nat.add_sub_cancel_left] at hown5; rw [Nat.zero_add, Nat.add_sub_cancel_left]; have hb5 := (Own.none_ _ _ 5 1 _).grown hg5 (Below.refl _ _) (Nat.le_refl _); have B15 := (B1.out.alloc _).after hb5; have B25 := (B2.out.alloc _).after hb5; have W5 := bgo (bal BW.out _) hb5; have k4 := B15.cell 4; have k5 := B15.cell 5; have f4 := B15.frozen 4; have f5 := B15.frozen 5; have HO := Lib.hid hown5; have HB1 := Lib.hid B15; have HB2 := Lib.hid B25; have HW5 := Lib.hid W5; clear hown5 hg5 hat5 hb5 B15 B25 W5)
        | (go_at_call 60; refine (ref04_amount _ (1 + (y + 1) - (1 + y)) _ ((b.drop 1).drop y) _ (by exact (HLE.out.below (Below.setCell (p := ⟨w.heap.size, 4, none⟩) HW5.out (Nat.le_refl _) (.slice A3 y c3))).more (Below.setCell (p := ⟨w.heap.size, 4, none⟩) HW5.out (Nat.le_refl _) (.slice A3 y c3)).size) (by omega) (by omega)).mono ?_; rw [HX.out]; rintro e w7 ⟨rfl, rfl⟩)
        | ((with_reducible show wpList _ _ _ (Oper.mk _ (Op.load 24 (Operand.tmp 2)) _ _ _ _ :: _) _ _); refine wpList_load_row rfl 24 (.tmp 2) rfl w.heap.size rfl 24 #[I64 cla, I64 ins, I64 p1, I64 p2, .slice A3 y c3, .int .i64 (z : Int), .bool false] (0, 0) _ (by exact (HB1.out.set 4 (.slice A3 y c3)).set 5 (.int .i64 (z : Int))) Try.underlying24 rfl (by kernel_rfl) ?_)
        | ((with_reducible show wpList _ _ _ (Oper.mk _ (Op.store 24 (Operand.tmp 4) (Operand.tmp 48)) _ _ _ _ :: _) _ _); refine wpList_store_row rfl 24 (.tmp 4) (.tmp 48) rfl (w.heap.size + 1) #[I64 cla, I64 ins, I64 p1, I64 p2, .slice A3 y c3, .int .i64 (z : Int), .bool false] rfl rfl 24 _ ((HB2.out.far (p := ⟨w.heap.size, 4, none⟩) (by simp) (.slice A3 y c3)).far (p := ⟨w.heap.size, 5, none⟩) (by simp) (.int .i64 (z : Int))) (by kernel_rfl) rfl (cmd_one _ _ _ _ _ _ _ _ _) ?_))
    refine bodyPost_ret (results_row_tmp rfl _ _ (w.heap.size + 1) 24 _ (0, 0) _ rfl (by exact ((HB2.out.far (p := ⟨w.heap.size, 4, none⟩) (by simp) (.slice A3 y c3)).far (p := ⟨w.heap.size, 5, none⟩) (by simp) (.int .i64 (z : Int))).setRow _) Try.underlying24 rfl (by kernel_rfl)) rfl ⟨by exact Below.setRow (Below.setCell (p := ⟨w.heap.size, 5, none⟩) (Below.setCell (p := ⟨w.heap.size, 4, none⟩) HW5.out (Nat.le_refl _) (.slice A3 y c3)) (Nat.le_refl _) (.int .i64 (z : Int))) (Nat.le_succ _) _, .inr ?_⟩
    rw [HE.out.1, HE.out.2.1, HE.out.2.2.1, HE.out.2.2.2]
    rw [HT.out.1]
    refine ⟨rfl, A3, c3, rfl, ?_⟩
    exact (own_cell_ne (own_cell_ne HO.out HB1.out (by decide) 4 (.slice A3 y c3)) (HB1.out.set 4 (.slice A3 y c3)) (by decide) 5 (.int .i64 (z : Int))).setRow_ne ((HB2.out.far (p := ⟨w.heap.size, 4, none⟩) (by simp) (.slice A3 y c3)).far (p := ⟨w.heap.size, 5, none⟩) (by simp) (.int .i64 (z : Int))) (by decide) _

set_option maxRecDepth 100000 in
set_option maxHeartbeats 16000000 in
theorem ref04_extended (cla ins p1 p2 : Int) (A : Option Addr) (n c : Nat) (b : List UInt8) (w : World) (h : Byt w w.heap.size A n c b) (hn : n ≤ 1000000) (h1 : 2 ≤ n) (h2 : b.getD 0 0 = 0) :
    Calls Try.prog 47 #[cmdV cla ins p1 p2 none 0 0 0 false, .slice A n c] w (ShRes w cla ins p1 p2 b) := by
  obtain ⟨ti, hti, hz0, hz1, hz2⟩ := info_parts o_u8
  obtain ⟨bb, o, rfl, hbb⟩ := h.at_ (by omega)
  have hl := h.1
  have hnc := h.2.1
  obtain ⟨T1, T2, T3⟩ := twoB w 24 24 #[I64 cla, I64 ins, I64 p1, I64 p2, .slice none 0 0, I64 0, .bool true] #[.int .i64 0, .int .i64 0, .int .i64 0, .int .i64 0, .slice none 0 0, .int .i64 0, .bool false]
  have hy := h.after T3
  have k4 := T1.cell 4
  have k5 := T1.cell 5
  have f4 := T1.frozen 4
  have f5 := T1.frozen 5
  have B1 := Lib.hid T1
  have B2 := Lib.hid T2
  have BW := Lib.hid T3
  clear T1 T2 T3
  unfold ShRes cmdV
  have hbd : Apd.bdE b = (Apd.rst (b.drop 1) 2 true).1 ∧ Apd.bdD b = (Apd.rst (b.drop 1) 2 true).2.1 ∧ Apd.bdL b = (Apd.rst (b.drop 1) 2 true).2.2 ∧ Apd.bdG b = true := by
    have hl1 : ¬ b.length ≤ 1 := by omega
    refine ⟨?_, ?_, ?_, ?_⟩
    · unfold Apd.bdE; rw [if_neg hl1, if_pos h2]
    · unfold Apd.bdD; rw [if_neg hl1, if_pos h2]
    · unfold Apd.bdL; rw [if_neg hl1, if_pos h2]
    · unfold Apd.bdG; rw [if_neg hl1, h2]; rfl
  have hln1 : (b.drop 1).length = n - 1 := by rw [List.length_drop, hl]
  have hd := Byt.drop hy 1 (by omega)
  have hnum : 3 ≤ n → Oct.num ((b.drop 1).take 2) = 256 * (b.getD 1 0).toNat + (b.getD 2 0).toNat := fun h3 => by
    rw [num_two _ (by omega)]; simp [List.getD]
  have hdd0 : b.drop 3 = (b.drop 1).drop 2 := by rw [List.drop_drop]
  generalize b.drop 1 = L at *
  by_cases hn2 : n = 2
  · have e : Apd.bdE b = 5 := by rw [hbd.1]; unfold Apd.rst; rw [if_pos (by omega)]
    have HE := Lib.hid e
    subst hn2
    clear e hbd hy h
    go_enter Try.func47, Try.ntmps47
    go_upto_region 2 with fail
    generalize (w.alloc (.cells #[I64 cla, I64 ins, I64 p1, I64 p2, .slice none 0 0, I64 0, .bool true] 24)).alloc (.cells #[.int .i64 0, .int .i64 0, .int .i64 0, .int .i64 0, .slice none 0 0, .int .i64 0, .bool false] 24) = w1 at *
    go_wp2_with ((with_reducible show wpList _ _ _ (Oper.mk _ (Op.store 24 (Operand.tmp 4) (Operand.tmp 11)) _ _ _ _ :: _) _ _); refine wpList_store_row rfl 24 (.tmp 4) (.tmp 11) rfl (w.heap.size + 1) #[I64 0, I64 0, I64 0, I64 0, .slice none 0 0, I64 0, .bool false] rfl rfl 24 _ B2.out (by kernel_rfl) rfl (cmd_one _ _ _ _ _ _ _ _ _) ?_)
    refine bodyPost_ret (results_row_tmp rfl _ _ (w.heap.size + 1) 24 _ (0, 0) _ rfl (by exact B2.out.setRow _) Try.underlying24 rfl (by kernel_rfl)) rfl ⟨by exact Below.setRow BW.out (Nat.le_succ _) _, .inl ?_⟩
    rw [HE.out]
    exact ⟨by decide, rfl⟩
  by_cases hn3 : n = 3
  · have e : Apd.bdE b = 0 ∧ Apd.bdD b = [] ∧ Apd.bdL b = Apd.exn L ∧ Apd.bdG b = true := by
      rw [hbd.1, hbd.2.1, hbd.2.2.1, hbd.2.2.2]; unfold Apd.rst; rw [if_neg (by omega), if_pos ⟨rfl, by omega⟩]; exact ⟨rfl, rfl, rfl, rfl⟩
    have HE := Lib.hid e
    subst hn3
    have HA := Lib.hid (ref04_amount _ 2 (c - 1) L _ hd (by omega) (by omega))
    have c1 : ¬ c = 1 := by omega
    clear e hbd hy h hd
    go_enter Try.func47, Try.ntmps47
    go_upto_region 2 with fail
    generalize (w.alloc (.cells #[I64 cla, I64 ins, I64 p1, I64 p2, .slice none 0 0, I64 0, .bool true] 24)).alloc (.cells #[.int .i64 0, .int .i64 0, .int .i64 0, .int .i64 0, .slice none 0 0, .int .i64 0, .bool false] 24) = w1 at *
    go_wp2_with (first
        | (go_at_call 60; refine HA.out.mono ?_; rintro e w1 ⟨rfl, rfl⟩)
        | ((with_reducible show wpList _ _ _ (Oper.mk _ (Op.load 24 (Operand.tmp 2)) _ _ _ _ :: _) _ _); refine wpList_load_row rfl 24 (.tmp 2) rfl w.heap.size rfl 24 #[I64 cla, I64 ins, I64 p1, I64 p2, .slice none 0 0, .int .i64 (Apd.exn L : Int), .bool true] (0, 0) _ (by exact B1.out.set 5 (.int .i64 (Apd.exn L : Int))) Try.underlying24 rfl (by kernel_rfl) ?_)
        | ((with_reducible show wpList _ _ _ (Oper.mk _ (Op.store 24 (Operand.tmp 4) (Operand.tmp 19)) _ _ _ _ :: _) _ _); refine wpList_store_row rfl 24 (.tmp 4) (.tmp 19) rfl (w.heap.size + 1) #[I64 cla, I64 ins, I64 p1, I64 p2, .slice none 0 0, .int .i64 (Apd.exn L : Int), .bool true] rfl rfl 24 _ (B2.out.far (p := ⟨w.heap.size, 5, none⟩) (by simp) (.int .i64 (Apd.exn L : Int))) (by kernel_rfl) rfl (cmd_one _ _ _ _ _ _ _ _ _) ?_))
    refine bodyPost_ret (results_row_tmp rfl _ _ (w.heap.size + 1) 24 _ (0, 0) _ rfl (by exact (B2.out.far (p := ⟨w.heap.size, 5, none⟩) (by simp) (.int .i64 (Apd.exn L : Int))).setRow _) Try.underlying24 rfl (by kernel_rfl)) rfl ⟨by exact Below.setRow (Below.setCell (p := ⟨w.heap.size, 5, none⟩) BW.out (Nat.le_refl _) (.int .i64 (Apd.exn L : Int))) (Nat.le_succ _) _, .inr ?_⟩
    rw [HE.out.1, HE.out.2.1, HE.out.2.2.1, HE.out.2.2.2]
    refine ⟨rfl, none, 0, rfl, ?_⟩
    exact Own.none_ _ _ _ _ _
  obtain ⟨r, rfl⟩ : ∃ r, n = 3 + r := ⟨n - 3, by omega⟩
  have hx1 := (hy.2.2).byte 1 (by omega)
  have hx2 := (hy.2.2).byte 2 (by omega)
  have hr1 := (b.getD 1 0).toNat_lt
  have hr2 := (b.getD 2 0).toNat_lt
  have hnum := hnum (by omega)
  generalize (b.getD 1 0).toNat = x1 at *
  generalize (b.getD 2 0).toNat = x2 at *
  have hyy : ∃ y, y = 256 * x1 + x2 := ⟨_, rfl⟩
  obtain ⟨y, hyx⟩ := hyy
  rw [← hyx] at hnum
  have hy6 : y < 65536 := by omega
  have v1 : IntKind.i64.wrap (x1 : Int) = x1 := IntWalk.i64_in _ (by omega)
  have v2 : IntKind.i64.wrap (x2 : Int) = x2 := IntWalk.i64_in _ (by omega)
  have v3 : IntKind.i64.wrap (256 * (x1 : Int)) = 256 * (x1 : Int) := IntWalk.i64_in _ (by omega)
  have v4 : IntKind.i64.wrap (y : Int) = y := IntWalk.i64_in _ (by omega)
  have i1 : (1 : Int) < 3 + (r : Int) := by omega
  have i2 : (2 : Int) < 3 + (r : Int) := by omega
  have hxI : 256 * (x1 : Int) + (x2 : Int) = (y : Int) := by omega
  have HY := Lib.hid hnum
  have hda0 := Byt.drop h 3 (by omega)
  have hdd : b.drop 3 = L.drop 2 := hdd0
  rw [hdd, Nat.add_sub_cancel_left] at hda0
  have hle0 : y ≤ r → Byt w w.heap.size (some ⟨bb, o + (3 + y), none⟩) (3 + r - (3 + y)) (c - (3 + y)) ((L.drop 2).drop y) := fun hyr => by
    have := Byt.drop h (3 + y) (by omega)
    rwa [← List.drop_drop, hdd] at this
  clear hnum hdd hdd0 hd hyx
  have c1 : ¬ L.length < 2 := by omega
  have c2 : ¬ (true = true ∧ L.length = 2) := by intro hh; omega
  have c3 : (L.drop 2).length = r := by rw [List.length_drop]; omega
  have HDA0 := Lib.hid hda0
  clear hda0 hy h hl
  by_cases hy0 : y = 0
  · have e : Apd.bdE b = 4 := by rw [hbd.1]; unfold Apd.rst; rw [if_neg c1, if_neg c2, HY.out, if_pos hy0]
    have HE := Lib.hid e
    subst hy0
    clear e hbd c1 c2 c3
    go_enter Try.func47, Try.ntmps47
    go_upto_region 2 with fail
    generalize (w.alloc (.cells #[I64 cla, I64 ins, I64 p1, I64 p2, .slice none 0 0, I64 0, .bool true] 24)).alloc (.cells #[.int .i64 0, .int .i64 0, .int .i64 0, .int .i64 0, .slice none 0 0, .int .i64 0, .bool false] 24) = w1 at *
    go_upto_region 7 with fail
    clear k4 k5 f4 f5
    refine wp_region_noPanic ?_
    refine wp_region_held_drew (S := fun u => u.cell? ⟨bb, o + 1, none⟩ = some (.int .u8 (x1 : Int)) ∧ u.cell? ⟨bb, o + 2, none⟩ = some (.int .u8 (x2 : Int))) (by kernel_rfl) (by exact ⟨hx1, hx2⟩) (fun hHeld => ?_)
    refine wpAnyH_take2 (i := 0) (by simp only [List.getElem?_toArray, List.getElem?_cons_succ, List.getElem?_cons_zero]; first | done | exact rfl) ⟨?_, by kernel_rfl, by kernel_rfl, by kernel_rfl, fun _ _ _ h => h, Or.inl ⟨by rfl, ?_⟩, by assumption, ?_⟩
    rotate_left 1
    · (intro w9 hSw; (try dsimp only at hSw); go_simp; try (with_reducible rfl))
    try simp only [Act.put, List.setIfInBounds_toArray, List.set_cons_zero, List.set_cons_succ]
    refine wpAnyH_take2 (i := 1) (by simp only [List.getElem?_toArray, List.getElem?_cons_succ, List.getElem?_cons_zero]; first | done | exact rfl) ⟨?_, by kernel_rfl, by kernel_rfl, by kernel_rfl, fun _ _ _ h => h, Or.inl ⟨by rfl, ?_⟩, by assumption, ?_⟩
    rotate_left 1
    · (intro w9 hSw; (try dsimp only at hSw); go_simp; try (with_reducible rfl))
    try simp only [Act.put, List.setIfInBounds_toArray, List.set_cons_zero, List.set_cons_succ]
    refine wpAnyH_take2 (i := 2) (by simp only [List.getElem?_toArray, List.getElem?_cons_succ, List.getElem?_cons_zero]; first | done | exact rfl) ⟨?_, by kernel_rfl, by kernel_rfl, by kernel_rfl, fun _ _ _ h => h, Or.inl ⟨by rfl, ?_⟩, by assumption, ?_⟩
    rotate_left 1
    · (intro w9 hSw; (try dsimp only at hSw); go_simp; try (with_reducible rfl))
    try simp only [Act.put, List.setIfInBounds_toArray, List.set_cons_zero, List.set_cons_succ]
    refine wpAnyH_take2 (i := 3) (by simp only [List.getElem?_toArray, List.getElem?_cons_succ, List.getElem?_cons_zero]; first | done | exact rfl) ⟨?_, by kernel_rfl, by kernel_rfl, by kernel_rfl, fun _ _ _ h => h, Or.inl ⟨by rfl, ?_⟩, by assumption, ?_⟩
    rotate_left 1
    · (intro w9 hSw; (try dsimp only at hSw); go_simp; try (with_reducible rfl))
    try simp only [Act.put, List.setIfInBounds_toArray, List.set_cons_zero, List.set_cons_succ]
    refine wpAnyH_take2 (i := 4) (by simp only [List.getElem?_toArray, List.getElem?_cons_succ, List.getElem?_cons_zero]; first | done | exact rfl) ⟨?_, by kernel_rfl, by kernel_rfl, by kernel_rfl, fun _ _ _ h => h, Or.inl ⟨by rfl, ?_⟩, by assumption, ?_⟩
    rotate_left 1
    · (intro w9 hSw; (try dsimp only at hSw); go_simp; try (with_reducible rfl))
    try simp only [Act.put, List.setIfInBounds_toArray, List.set_cons_zero, List.set_cons_succ]
    refine wpAnyH_take2 (i := 5) (by simp only [List.getElem?_toArray, List.getElem?_cons_succ, List.getElem?_cons_zero]; first | done | exact rfl) ⟨?_, by kernel_rfl, by kernel_rfl, by kernel_rfl, fun _ _ _ h => h, Or.inl ⟨by rfl, ?_⟩, by assumption, ?_⟩
    rotate_left 1
    · (intro w9 hSw; (try dsimp only at hSw); go_simp; try (with_reducible rfl))
    try simp only [Act.put, List.setIfInBounds_toArray, List.set_cons_zero, List.set_cons_succ]
    refine wpAnyH_take2 (i := 6) (by simp only [List.getElem?_toArray, List.getElem?_cons_succ, List.getElem?_cons_zero]; first | done | exact rfl) ⟨?_, by kernel_rfl, by kernel_rfl, by kernel_rfl, fun _ _ _ h => h, Or.inl ⟨by rfl, ?_⟩, by assumption, ?_⟩
    rotate_left 1
    · (intro w9 hSw; (try dsimp only at hSw); go_simp; try (with_reducible rfl))
    try simp only [Act.put, List.setIfInBounds_toArray, List.set_cons_zero, List.set_cons_succ]
    refine wpAnyH_take2 (i := 7) (by simp only [List.getElem?_toArray, List.getElem?_cons_succ, List.getElem?_cons_zero]; first | done | exact rfl) ⟨?_, by kernel_rfl, by kernel_rfl, by kernel_rfl, fun _ _ _ h => h, Or.inl ⟨by rfl, ?_⟩, by assumption, ?_⟩
    rotate_left 1
    · (intro w9 hSw; (try dsimp only at hSw); go_simp; try (with_reducible rfl))
    try simp only [Act.put, List.setIfInBounds_toArray, List.set_cons_zero, List.set_cons_succ]
    refine wpAnyH_take2 (i := 8) (by simp only [List.getElem?_toArray, List.getElem?_cons_succ, List.getElem?_cons_zero]; first | done | exact rfl) ⟨?_, by kernel_rfl, by kernel_rfl, by kernel_rfl, fun _ _ _ h => h, Or.inl ⟨by rfl, ?_⟩, by assumption, ?_⟩
    rotate_left 1
    · (intro w9 hSw; (try dsimp only at hSw); go_simp; try (with_reducible rfl))
    try simp only [Act.put, List.setIfInBounds_toArray, List.set_cons_zero, List.set_cons_succ]
    refine wpAnyH_take2 (i := 9) (by simp only [List.getElem?_toArray, List.getElem?_cons_succ, List.getElem?_cons_zero]; first | done | exact rfl) ⟨?_, by kernel_rfl, by kernel_rfl, by kernel_rfl, fun _ _ _ h => h, Or.inl ⟨by rfl, ?_⟩, by assumption, ?_⟩
    rotate_left 1
    · (intro w9 hSw; (try dsimp only at hSw); go_simp; try (with_reducible rfl))
    try simp only [Act.put, List.setIfInBounds_toArray, List.set_cons_zero, List.set_cons_succ]
    refine wpAnyH_take2 (i := 10) (by simp only [List.getElem?_toArray, List.getElem?_cons_succ, List.getElem?_cons_zero]; first | done | exact rfl) ⟨?_, by kernel_rfl, by kernel_rfl, by kernel_rfl, fun _ _ _ h => h, Or.inl ⟨by rfl, ?_⟩, by assumption, ?_⟩
    rotate_left 1
    · (intro w9 hSw; (try dsimp only at hSw); go_simp; try (with_reducible rfl))
    try simp only [Act.put, List.setIfInBounds_toArray, List.set_cons_zero, List.set_cons_succ]
    refine wpAnyH_done (by kernel_rfl) ?_ _
    refine NoPanic.normal ?_
    go_wp2_with ((with_reducible show wpList _ _ _ (Oper.mk _ (Op.store 24 (Operand.tmp 4) (Operand.tmp 32)) _ _ _ _ :: _) _ _); refine wpList_store_row rfl 24 (.tmp 4) (.tmp 32) rfl (w.heap.size + 1) #[I64 0, I64 0, I64 0, I64 0, .slice none 0 0, I64 0, .bool false] rfl rfl 24 _ B2.out.drew (by kernel_rfl) rfl (cmd_one _ _ _ _ _ _ _ _ _) ?_)
    refine bodyPost_ret (results_row_tmp rfl _ _ (w.heap.size + 1) 24 _ (0, 0) _ rfl (by exact B2.out.drew.setRow _) Try.underlying24 rfl (by kernel_rfl)) rfl ⟨by exact Below.setRow BW.out.drew (Nat.le_succ _) _, .inl ?_⟩
    rw [HE.out]
    exact ⟨by decide, rfl⟩
  by_cases hry : r < y
  · have e : Apd.bdE b = 5 := by rw [hbd.1]; unfold Apd.rst; rw [if_neg c1, if_neg c2, HY.out, if_neg hy0, c3, if_pos hry]
    have HE := Lib.hid e
    clear e hbd c1 c2 c3
    go_enter Try.func47, Try.ntmps47
    go_upto_region 2 with fail
    generalize (w.alloc (.cells #[I64 cla, I64 ins, I64 p1, I64 p2, .slice none 0 0, I64 0, .bool true] 24)).alloc (.cells #[.int .i64 0, .int .i64 0, .int .i64 0, .int .i64 0, .slice none 0 0, .int .i64 0, .bool false] 24) = w1 at *
    go_upto_region 7 with fail
    clear k4 k5 f4 f5
    refine wp_region_noPanic ?_
    refine wp_region_held_drew (S := fun u => u.cell? ⟨bb, o + 1, none⟩ = some (.int .u8 (x1 : Int)) ∧ u.cell? ⟨bb, o + 2, none⟩ = some (.int .u8 (x2 : Int))) (by kernel_rfl) (by exact ⟨hx1, hx2⟩) (fun hHeld => ?_)
    refine wpAnyH_take2 (i := 0) (by simp only [List.getElem?_toArray, List.getElem?_cons_succ, List.getElem?_cons_zero]; first | done | exact rfl) ⟨?_, by kernel_rfl, by kernel_rfl, by kernel_rfl, fun _ _ _ h => h, Or.inl ⟨by rfl, ?_⟩, by assumption, ?_⟩
    rotate_left 1
    · (intro w9 hSw; (try dsimp only at hSw); go_simp; try (with_reducible rfl))
    try simp only [Act.put, List.setIfInBounds_toArray, List.set_cons_zero, List.set_cons_succ]
    refine wpAnyH_take2 (i := 1) (by simp only [List.getElem?_toArray, List.getElem?_cons_succ, List.getElem?_cons_zero]; first | done | exact rfl) ⟨?_, by kernel_rfl, by kernel_rfl, by kernel_rfl, fun _ _ _ h => h, Or.inl ⟨by rfl, ?_⟩, by assumption, ?_⟩
    rotate_left 1
    · (intro w9 hSw; (try dsimp only at hSw); go_simp; try (with_reducible rfl))
    try simp only [Act.put, List.setIfInBounds_toArray, List.set_cons_zero, List.set_cons_succ]
    refine wpAnyH_take2 (i := 2) (by simp only [List.getElem?_toArray, List.getElem?_cons_succ, List.getElem?_cons_zero]; first | done | exact rfl) ⟨?_, by kernel_rfl, by kernel_rfl, by kernel_rfl, fun _ _ _ h => h, Or.inl ⟨by rfl, ?_⟩, by assumption, ?_⟩
    rotate_left 1
    · (intro w9 hSw; (try dsimp only at hSw); go_simp; try (with_reducible rfl))
    try simp only [Act.put, List.setIfInBounds_toArray, List.set_cons_zero, List.set_cons_succ]
    refine wpAnyH_take2 (i := 3) (by simp only [List.getElem?_toArray, List.getElem?_cons_succ, List.getElem?_cons_zero]; first | done | exact rfl) ⟨?_, by kernel_rfl, by kernel_rfl, by kernel_rfl, fun _ _ _ h => h, Or.inl ⟨by rfl, ?_⟩, by assumption, ?_⟩
    rotate_left 1
    · (intro w9 hSw; (try dsimp only at hSw); go_simp; try (with_reducible rfl))
    try simp only [Act.put, List.setIfInBounds_toArray, List.set_cons_zero, List.set_cons_succ]
    refine wpAnyH_take2 (i := 4) (by simp only [List.getElem?_toArray, List.getElem?_cons_succ, List.getElem?_cons_zero]; first | done | exact rfl) ⟨?_, by kernel_rfl, by kernel_rfl, by kernel_rfl, fun _ _ _ h => h, Or.inl ⟨by rfl, ?_⟩, by assumption, ?_⟩
    rotate_left 1
    · (intro w9 hSw; (try dsimp only at hSw); go_simp; try (with_reducible rfl))
    try simp only [Act.put, List.setIfInBounds_toArray, List.set_cons_zero, List.set_cons_succ]
    refine wpAnyH_take2 (i := 5) (by simp only [List.getElem?_toArray, List.getElem?_cons_succ, List.getElem?_cons_zero]; first | done | exact rfl) ⟨?_, by kernel_rfl, by kernel_rfl, by kernel_rfl, fun _ _ _ h => h, Or.inl ⟨by rfl, ?_⟩, by assumption, ?_⟩
    rotate_left 1
    · (intro w9 hSw; (try dsimp only at hSw); go_simp; try (with_reducible rfl))
    try simp only [Act.put, List.setIfInBounds_toArray, List.set_cons_zero, List.set_cons_succ]
    refine wpAnyH_take2 (i := 6) (by simp only [List.getElem?_toArray, List.getElem?_cons_succ, List.getElem?_cons_zero]; first | done | exact rfl) ⟨?_, by kernel_rfl, by kernel_rfl, by kernel_rfl, fun _ _ _ h => h, Or.inl ⟨by rfl, ?_⟩, by assumption, ?_⟩
    rotate_left 1
    · (intro w9 hSw; (try dsimp only at hSw); go_simp; try (with_reducible rfl))
    try simp only [Act.put, List.setIfInBounds_toArray, List.set_cons_zero, List.set_cons_succ]
    refine wpAnyH_take2 (i := 7) (by simp only [List.getElem?_toArray, List.getElem?_cons_succ, List.getElem?_cons_zero]; first | done | exact rfl) ⟨?_, by kernel_rfl, by kernel_rfl, by kernel_rfl, fun _ _ _ h => h, Or.inl ⟨by rfl, ?_⟩, by assumption, ?_⟩
    rotate_left 1
    · (intro w9 hSw; (try dsimp only at hSw); go_simp; try (with_reducible rfl))
    try simp only [Act.put, List.setIfInBounds_toArray, List.set_cons_zero, List.set_cons_succ]
    refine wpAnyH_take2 (i := 8) (by simp only [List.getElem?_toArray, List.getElem?_cons_succ, List.getElem?_cons_zero]; first | done | exact rfl) ⟨?_, by kernel_rfl, by kernel_rfl, by kernel_rfl, fun _ _ _ h => h, Or.inl ⟨by rfl, ?_⟩, by assumption, ?_⟩
    rotate_left 1
    · (intro w9 hSw; (try dsimp only at hSw); go_simp; try (with_reducible rfl))
    try simp only [Act.put, List.setIfInBounds_toArray, List.set_cons_zero, List.set_cons_succ]
    refine wpAnyH_take2 (i := 9) (by simp only [List.getElem?_toArray, List.getElem?_cons_succ, List.getElem?_cons_zero]; first | done | exact rfl) ⟨?_, by kernel_rfl, by kernel_rfl, by kernel_rfl, fun _ _ _ h => h, Or.inl ⟨by rfl, ?_⟩, by assumption, ?_⟩
    rotate_left 1
    · (intro w9 hSw; (try dsimp only at hSw); go_simp; try (with_reducible rfl))
    try simp only [Act.put, List.setIfInBounds_toArray, List.set_cons_zero, List.set_cons_succ]
    refine wpAnyH_take2 (i := 10) (by simp only [List.getElem?_toArray, List.getElem?_cons_succ, List.getElem?_cons_zero]; first | done | exact rfl) ⟨?_, by kernel_rfl, by kernel_rfl, by kernel_rfl, fun _ _ _ h => h, Or.inl ⟨by rfl, ?_⟩, by assumption, ?_⟩
    rotate_left 1
    · (intro w9 hSw; (try dsimp only at hSw); go_simp; try (with_reducible rfl))
    try simp only [Act.put, List.setIfInBounds_toArray, List.set_cons_zero, List.set_cons_succ]
    refine wpAnyH_done (by kernel_rfl) ?_ _
    refine NoPanic.normal ?_
    go_wp2_with ((with_reducible show wpList _ _ _ (Oper.mk _ (Op.store 24 (Operand.tmp 4) (Operand.tmp 38)) _ _ _ _ :: _) _ _); refine wpList_store_row rfl 24 (.tmp 4) (.tmp 38) rfl (w.heap.size + 1) #[I64 0, I64 0, I64 0, I64 0, .slice none 0 0, I64 0, .bool false] rfl rfl 24 _ B2.out.drew (by kernel_rfl) rfl (cmd_one _ _ _ _ _ _ _ _ _) ?_)
    refine bodyPost_ret (results_row_tmp rfl _ _ (w.heap.size + 1) 24 _ (0, 0) _ rfl (by exact B2.out.drew.setRow _) Try.underlying24 rfl (by kernel_rfl)) rfl ⟨by exact Below.setRow BW.out.drew (Nat.le_succ _) _, .inl ?_⟩
    rw [HE.out]
    exact ⟨by decide, rfl⟩
  by_cases hq : r ≠ y ∧ r ≠ y + 2
  · have e : Apd.bdE b = 4 := by rw [hbd.1]; unfold Apd.rst; rw [if_neg c1, if_neg c2, HY.out, if_neg hy0, c3, if_neg hry, if_pos hq]
    have HE := Lib.hid e
    have q1 : ((r : Int) != (y : Int)) = true := by rw [bne_iff_ne]; omega
    have q2 : (3 + (r : Int) != 5 + (y : Int)) = true := by rw [bne_iff_ne]; omega
    clear e hbd c1 c2 c3
    go_enter Try.func47, Try.ntmps47
    go_upto_region 2 with fail
    generalize (w.alloc (.cells #[I64 cla, I64 ins, I64 p1, I64 p2, .slice none 0 0, I64 0, .bool true] 24)).alloc (.cells #[.int .i64 0, .int .i64 0, .int .i64 0, .int .i64 0, .slice none 0 0, .int .i64 0, .bool false] 24) = w1 at *
    go_upto_region 7 with fail
    clear k4 k5 f4 f5
    refine wp_region_noPanic ?_
    refine wp_region_held_drew (S := fun u => u.cell? ⟨bb, o + 1, none⟩ = some (.int .u8 (x1 : Int)) ∧ u.cell? ⟨bb, o + 2, none⟩ = some (.int .u8 (x2 : Int))) (by kernel_rfl) (by exact ⟨hx1, hx2⟩) (fun hHeld => ?_)
    refine wpAnyH_take2 (i := 0) (by simp only [List.getElem?_toArray, List.getElem?_cons_succ, List.getElem?_cons_zero]; first | done | exact rfl) ⟨?_, by kernel_rfl, by kernel_rfl, by kernel_rfl, fun _ _ _ h => h, Or.inl ⟨by rfl, ?_⟩, by assumption, ?_⟩
    rotate_left 1
    · (intro w9 hSw; (try dsimp only at hSw); go_simp; try (with_reducible rfl))
    try simp only [Act.put, List.setIfInBounds_toArray, List.set_cons_zero, List.set_cons_succ]
    refine wpAnyH_take2 (i := 1) (by simp only [List.getElem?_toArray, List.getElem?_cons_succ, List.getElem?_cons_zero]; first | done | exact rfl) ⟨?_, by kernel_rfl, by kernel_rfl, by kernel_rfl, fun _ _ _ h => h, Or.inl ⟨by rfl, ?_⟩, by assumption, ?_⟩
    rotate_left 1
    · (intro w9 hSw; (try dsimp only at hSw); go_simp; try (with_reducible rfl))
    try simp only [Act.put, List.setIfInBounds_toArray, List.set_cons_zero, List.set_cons_succ]
    refine wpAnyH_take2 (i := 2) (by simp only [List.getElem?_toArray, List.getElem?_cons_succ, List.getElem?_cons_zero]; first | done | exact rfl) ⟨?_, by kernel_rfl, by kernel_rfl, by kernel_rfl, fun _ _ _ h => h, Or.inl ⟨by rfl, ?_⟩, by assumption, ?_⟩
    rotate_left 1
    · (intro w9 hSw; (try dsimp only at hSw); go_simp; try (with_reducible rfl))
    try simp only [Act.put, List.setIfInBounds_toArray, List.set_cons_zero, List.set_cons_succ]
    refine wpAnyH_take2 (i := 3) (by simp only [List.getElem?_toArray, List.getElem?_cons_succ, List.getElem?_cons_zero]; first | done | exact rfl) ⟨?_, by kernel_rfl, by kernel_rfl, by kernel_rfl, fun _ _ _ h => h, Or.inl ⟨by rfl, ?_⟩, by assumption, ?_⟩
    rotate_left 1
    · (intro w9 hSw; (try dsimp only at hSw); go_simp; try (with_reducible rfl))
    try simp only [Act.put, List.setIfInBounds_toArray, List.set_cons_zero, List.set_cons_succ]
    refine wpAnyH_take2 (i := 4) (by simp only [List.getElem?_toArray, List.getElem?_cons_succ, List.getElem?_cons_zero]; first | done | exact rfl) ⟨?_, by kernel_rfl, by kernel_rfl, by kernel_rfl, fun _ _ _ h => h, Or.inl ⟨by rfl, ?_⟩, by assumption, ?_⟩
    rotate_left 1
    · (intro w9 hSw; (try dsimp only at hSw); go_simp; try (with_reducible rfl))
    try simp only [Act.put, List.setIfInBounds_toArray, List.set_cons_zero, List.set_cons_succ]
    refine wpAnyH_take2 (i := 5) (by simp only [List.getElem?_toArray, List.getElem?_cons_succ, List.getElem?_cons_zero]; first | done | exact rfl) ⟨?_, by kernel_rfl, by kernel_rfl, by kernel_rfl, fun _ _ _ h => h, Or.inl ⟨by rfl, ?_⟩, by assumption, ?_⟩
    rotate_left 1
    · (intro w9 hSw; (try dsimp only at hSw); go_simp; try (with_reducible rfl))
    try simp only [Act.put, List.setIfInBounds_toArray, List.set_cons_zero, List.set_cons_succ]
    refine wpAnyH_take2 (i := 6) (by simp only [List.getElem?_toArray, List.getElem?_cons_succ, List.getElem?_cons_zero]; first | done | exact rfl) ⟨?_, by kernel_rfl, by kernel_rfl, by kernel_rfl, fun _ _ _ h => h, Or.inl ⟨by rfl, ?_⟩, by assumption, ?_⟩
    rotate_left 1
    · (intro w9 hSw; (try dsimp only at hSw); go_simp; try (with_reducible rfl))
    try simp only [Act.put, List.setIfInBounds_toArray, List.set_cons_zero, List.set_cons_succ]
    refine wpAnyH_take2 (i := 7) (by simp only [List.getElem?_toArray, List.getElem?_cons_succ, List.getElem?_cons_zero]; first | done | exact rfl) ⟨?_, by kernel_rfl, by kernel_rfl, by kernel_rfl, fun _ _ _ h => h, Or.inl ⟨by rfl, ?_⟩, by assumption, ?_⟩
    rotate_left 1
    · (intro w9 hSw; (try dsimp only at hSw); go_simp; try (with_reducible rfl))
    try simp only [Act.put, List.setIfInBounds_toArray, List.set_cons_zero, List.set_cons_succ]
    refine wpAnyH_take2 (i := 8) (by simp only [List.getElem?_toArray, List.getElem?_cons_succ, List.getElem?_cons_zero]; first | done | exact rfl) ⟨?_, by kernel_rfl, by kernel_rfl, by kernel_rfl, fun _ _ _ h => h, Or.inl ⟨by rfl, ?_⟩, by assumption, ?_⟩
    rotate_left 1
    · (intro w9 hSw; (try dsimp only at hSw); go_simp; try (with_reducible rfl))
    try simp only [Act.put, List.setIfInBounds_toArray, List.set_cons_zero, List.set_cons_succ]
    refine wpAnyH_take2 (i := 9) (by simp only [List.getElem?_toArray, List.getElem?_cons_succ, List.getElem?_cons_zero]; first | done | exact rfl) ⟨?_, by kernel_rfl, by kernel_rfl, by kernel_rfl, fun _ _ _ h => h, Or.inl ⟨by rfl, ?_⟩, by assumption, ?_⟩
    rotate_left 1
    · (intro w9 hSw; (try dsimp only at hSw); go_simp; try (with_reducible rfl))
    try simp only [Act.put, List.setIfInBounds_toArray, List.set_cons_zero, List.set_cons_succ]
    refine wpAnyH_take2 (i := 10) (by simp only [List.getElem?_toArray, List.getElem?_cons_succ, List.getElem?_cons_zero]; first | done | exact rfl) ⟨?_, by kernel_rfl, by kernel_rfl, by kernel_rfl, fun _ _ _ h => h, Or.inl ⟨by rfl, ?_⟩, by assumption, ?_⟩
    rotate_left 1
    · (intro w9 hSw; (try dsimp only at hSw); go_simp; try (with_reducible rfl))
    try simp only [Act.put, List.setIfInBounds_toArray, List.set_cons_zero, List.set_cons_succ]
    refine wpAnyH_done (by kernel_rfl) ?_ _
    refine NoPanic.normal ?_
    go_wp2_with ((with_reducible show wpList _ _ _ (Oper.mk _ (Op.store 24 (Operand.tmp 4) (Operand.tmp 51)) _ _ _ _ :: _) _ _); refine wpList_store_row rfl 24 (.tmp 4) (.tmp 51) rfl (w.heap.size + 1) #[I64 0, I64 0, I64 0, I64 0, .slice none 0 0, I64 0, .bool false] rfl rfl 24 _ B2.out.drew (by kernel_rfl) rfl (cmd_one _ _ _ _ _ _ _ _ _) ?_)
    refine bodyPost_ret (results_row_tmp rfl _ _ (w.heap.size + 1) 24 _ (0, 0) _ rfl (by exact B2.out.drew.setRow _) Try.underlying24 rfl (by kernel_rfl)) rfl ⟨by exact Below.setRow BW.out.drew (Nat.le_succ _) _, .inl ?_⟩
    rw [HE.out]
    exact ⟨by decide, rfl⟩
  have hq2 : y = r ∨ r = y + 2 := by omega
  have e : Apd.bdE b = 0 ∧ Apd.bdD b = (L.drop 2).take y ∧ Apd.bdL b = Apd.exn ((L.drop 2).drop y) ∧ Apd.bdG b = true := by
    rw [hbd.1, hbd.2.1, hbd.2.2.1, hbd.2.2.2]; unfold Apd.rst; rw [if_neg c1, if_neg c2, HY.out, if_neg hy0, c3, if_neg hry, if_neg hq]; exact ⟨rfl, rfl, rfl, rfl⟩
  have HT := Lib.hid (Byt.take HDA0.out y (c - 3) (by omega) (by omega))
  have HLE := Lib.hid (hle0 (by omega))
  clear hle0
  have cne : ¬ c = 3 := by omega
  have cle : y ≤ c - 3 := by omega
  rcases hq2 with hq2 | hq2
  · subst hq2
    have hz : Apd.exn ((L.drop 2).drop y) = 0 := by
      have hl0 := HLE.out.1
      rw [Nat.sub_self] at hl0
      rw [List.eq_nil_of_length_eq_zero hl0]; rfl
    rw [hz] at e
    have HE := Lib.hid e
    clear e hbd c1 c2 c3 hry hq hz HLE HDA0
    go_enter Try.func47, Try.ntmps47
    go_upto_region 2 with fail
    generalize (w.alloc (.cells #[I64 cla, I64 ins, I64 p1, I64 p2, .slice none 0 0, I64 0, .bool true] 24)).alloc (.cells #[.int .i64 0, .int .i64 0, .int .i64 0, .int .i64 0, .slice none 0 0, .int .i64 0, .bool false] 24) = w1 at *
    go_upto_region 7 with fail
    clear k4 k5 f4 f5
    refine wp_region_noPanic ?_
    refine wp_region_held_drew (S := fun u => u.cell? ⟨bb, o + 1, none⟩ = some (.int .u8 (x1 : Int)) ∧ u.cell? ⟨bb, o + 2, none⟩ = some (.int .u8 (x2 : Int))) (by kernel_rfl) (by exact ⟨hx1, hx2⟩) (fun hHeld => ?_)
    refine wpAnyH_take2 (i := 0) (by simp only [List.getElem?_toArray, List.getElem?_cons_succ, List.getElem?_cons_zero]; first | done | exact rfl) ⟨?_, by kernel_rfl, by kernel_rfl, by kernel_rfl, fun _ _ _ h => h, Or.inl ⟨by rfl, ?_⟩, by assumption, ?_⟩
    rotate_left 1
    · (intro w9 hSw; (try dsimp only at hSw); go_simp; try (with_reducible rfl))
    try simp only [Act.put, List.setIfInBounds_toArray, List.set_cons_zero, List.set_cons_succ]
    refine wpAnyH_take2 (i := 1) (by simp only [List.getElem?_toArray, List.getElem?_cons_succ, List.getElem?_cons_zero]; first | done | exact rfl) ⟨?_, by kernel_rfl, by kernel_rfl, by kernel_rfl, fun _ _ _ h => h, Or.inl ⟨by rfl, ?_⟩, by assumption, ?_⟩
    rotate_left 1
    · (intro w9 hSw; (try dsimp only at hSw); go_simp; try (with_reducible rfl))
    try simp only [Act.put, List.setIfInBounds_toArray, List.set_cons_zero, List.set_cons_succ]
    refine wpAnyH_take2 (i := 2) (by simp only [List.getElem?_toArray, List.getElem?_cons_succ, List.getElem?_cons_zero]; first | done | exact rfl) ⟨?_, by kernel_rfl, by kernel_rfl, by kernel_rfl, fun _ _ _ h => h, Or.inl ⟨by rfl, ?_⟩, by assumption, ?_⟩
    rotate_left 1
    · (intro w9 hSw; (try dsimp only at hSw); go_simp; try (with_reducible rfl))
    try simp only [Act.put, List.setIfInBounds_toArray, List.set_cons_zero, List.set_cons_succ]
    refine wpAnyH_take2 (i := 3) (by simp only [List.getElem?_toArray, List.getElem?_cons_succ, List.getElem?_cons_zero]; first | done | exact rfl) ⟨?_, by kernel_rfl, by kernel_rfl, by kernel_rfl, fun _ _ _ h => h, Or.inl ⟨by rfl, ?_⟩, by assumption, ?_⟩
    rotate_left 1
    · (intro w9 hSw; (try dsimp only at hSw); go_simp; try (with_reducible rfl))
    try simp only [Act.put, List.setIfInBounds_toArray, List.set_cons_zero, List.set_cons_succ]
    refine wpAnyH_take2 (i := 4) (by simp only [List.getElem?_toArray, List.getElem?_cons_succ, List.getElem?_cons_zero]; first | done | exact rfl) ⟨?_, by kernel_rfl, by kernel_rfl, by kernel_rfl, fun _ _ _ h => h, Or.inl ⟨by rfl, ?_⟩, by assumption, ?_⟩
    rotate_left 1
    · (intro w9 hSw; (try dsimp only at hSw); go_simp; try (with_reducible rfl))
    try simp only [Act.put, List.setIfInBounds_toArray, List.set_cons_zero, List.set_cons_succ]
    refine wpAnyH_take2 (i := 5) (by simp only [List.getElem?_toArray, List.getElem?_cons_succ, List.getElem?_cons_zero]; first | done | exact rfl) ⟨?_, by kernel_rfl, by kernel_rfl, by kernel_rfl, fun _ _ _ h => h, Or.inl ⟨by rfl, ?_⟩, by assumption, ?_⟩
    rotate_left 1
    · (intro w9 hSw; (try dsimp only at hSw); go_simp; try (with_reducible rfl))
    try simp only [Act.put, List.setIfInBounds_toArray, List.set_cons_zero, List.set_cons_succ]
    refine wpAnyH_take2 (i := 6) (by simp only [List.getElem?_toArray, List.getElem?_cons_succ, List.getElem?_cons_zero]; first | done | exact rfl) ⟨?_, by kernel_rfl, by kernel_rfl, by kernel_rfl, fun _ _ _ h => h, Or.inl ⟨by rfl, ?_⟩, by assumption, ?_⟩
    rotate_left 1
    · (intro w9 hSw; (try dsimp only at hSw); go_simp; try (with_reducible rfl))
    try simp only [Act.put, List.setIfInBounds_toArray, List.set_cons_zero, List.set_cons_succ]
    refine wpAnyH_take2 (i := 7) (by simp only [List.getElem?_toArray, List.getElem?_cons_succ, List.getElem?_cons_zero]; first | done | exact rfl) ⟨?_, by kernel_rfl, by kernel_rfl, by kernel_rfl, fun _ _ _ h => h, Or.inl ⟨by rfl, ?_⟩, by assumption, ?_⟩
    rotate_left 1
    · (intro w9 hSw; (try dsimp only at hSw); go_simp; try (with_reducible rfl))
    try simp only [Act.put, List.setIfInBounds_toArray, List.set_cons_zero, List.set_cons_succ]
    refine wpAnyH_take2 (i := 8) (by simp only [List.getElem?_toArray, List.getElem?_cons_succ, List.getElem?_cons_zero]; first | done | exact rfl) ⟨?_, by kernel_rfl, by kernel_rfl, by kernel_rfl, fun _ _ _ h => h, Or.inl ⟨by rfl, ?_⟩, by assumption, ?_⟩
    rotate_left 1
    · (intro w9 hSw; (try dsimp only at hSw); go_simp; try (with_reducible rfl))
    try simp only [Act.put, List.setIfInBounds_toArray, List.set_cons_zero, List.set_cons_succ]
    refine wpAnyH_take2 (i := 9) (by simp only [List.getElem?_toArray, List.getElem?_cons_succ, List.getElem?_cons_zero]; first | done | exact rfl) ⟨?_, by kernel_rfl, by kernel_rfl, by kernel_rfl, fun _ _ _ h => h, Or.inl ⟨by rfl, ?_⟩, by assumption, ?_⟩
    rotate_left 1
    · (intro w9 hSw; (try dsimp only at hSw); go_simp; try (with_reducible rfl))
    try simp only [Act.put, List.setIfInBounds_toArray, List.set_cons_zero, List.set_cons_succ]
    refine wpAnyH_take2 (i := 10) (by simp only [List.getElem?_toArray, List.getElem?_cons_succ, List.getElem?_cons_zero]; first | done | exact rfl) ⟨?_, by kernel_rfl, by kernel_rfl, by kernel_rfl, fun _ _ _ h => h, Or.inl ⟨by rfl, ?_⟩, by assumption, ?_⟩
    rotate_left 1
    · (intro w9 hSw; (try dsimp only at hSw); go_simp; try (with_reducible rfl))
    try simp only [Act.put, List.setIfInBounds_toArray, List.set_cons_zero, List.set_cons_succ]
    refine wpAnyH_done (by kernel_rfl) ?_ _
    refine NoPanic.normal ?_
    go_wp2_with (first
        | (at_builtin; refine wpList_append _ rfl (.tmp 52) (.tmp 56) 22 rfl w.heap.size 5 ti _ 1 1 Try.underlying22 hti hz0 hz1 hz2 rfl (by omega) _ 0 0 [] rfl (Own.none_ _ _ _ _ _) w.heap.size _ (3 + y - 3) (c - 3) (bcells ((L.drop 2).take y)) rfl (by exact (HT.out.below (bal BW.out.drew _)).2.2) (by rw [length_bcells, HT.out.1]; omega) (bcells_one _) (by unfold maxLen; omega) (by omega) (by exact (bal BW.out.drew _).size) ?_; intro A3 c3 w5 hown5 hg5 hat5; rw [Nat.zero_add, List.nil_append, Nat.add_sub_cancel_left] at hown5; rw [Nat.zero_add, Nat.add_sub_cancel_left]; have hb5 := (Own.none_ _ _ 5 1 _).grown hg5 (Below.refl _ _) (Nat.le_refl _); have B15 := (B1.out.drew.alloc _).after hb5; have B25 := (B2.out.drew.alloc _).after hb5; have W5 := bgo (bal BW.out.drew _) hb5; have k4 := B15.cell 4; have k5 := B15.cell 5; have f4 := B15.frozen 4; have f5 := B15.frozen 5; have HO := Lib.hid hown5; have HB1 := Lib.hid B15; have HB2 := Lib.hid B25; have HW5 := Lib.hid W5; clear hown5 hg5 hat5 hb5 B15 B25 W5)
        | ((with_reducible show wpList _ _ _ (Oper.mk _ (Op.load 24 (Operand.tmp 2)) _ _ _ _ :: _) _ _); refine wpList_load_row rfl 24 (.tmp 2) rfl w.heap.size rfl 24 #[I64 cla, I64 ins, I64 p1, I64 p2, .slice A3 y c3, I64 0, .bool true] (0, 0) _ (by exact HB1.out.set 4 (.slice A3 y c3)) Try.underlying24 rfl (by kernel_rfl) ?_)
        | ((with_reducible show wpList _ _ _ (Oper.mk _ (Op.store 24 (Operand.tmp 4) (Operand.tmp 70)) _ _ _ _ :: _) _ _); refine wpList_store_row rfl 24 (.tmp 4) (.tmp 70) rfl (w.heap.size + 1) #[I64 cla, I64 ins, I64 p1, I64 p2, .slice A3 y c3, I64 0, .bool true] rfl rfl 24 _ (HB2.out.far (p := ⟨w.heap.size, 4, none⟩) (by simp) (.slice A3 y c3)) (by kernel_rfl) rfl (cmd_one _ _ _ _ _ _ _ _ _) ?_))
    refine bodyPost_ret (results_row_tmp rfl _ _ (w.heap.size + 1) 24 _ (0, 0) _ rfl (by exact (HB2.out.far (p := ⟨w.heap.size, 4, none⟩) (by simp) (.slice A3 y c3)).setRow _) Try.underlying24 rfl (by kernel_rfl)) rfl ⟨by exact Below.setRow (Below.setCell (p := ⟨w.heap.size, 4, none⟩) HW5.out (Nat.le_refl _) (.slice A3 y c3)) (Nat.le_succ _) _, .inr ?_⟩
    rw [HE.out.1, HE.out.2.1, HE.out.2.2.1, HE.out.2.2.2]
    rw [HT.out.1]
    refine ⟨rfl, A3, c3, rfl, ?_⟩
    exact (own_cell_ne HO.out HB1.out (by decide) 4 (.slice A3 y c3)).setRow_ne (HB2.out.far (p := ⟨w.heap.size, 4, none⟩) (by simp) (.slice A3 y c3)) (by decide) _
  · subst hq2
    have HE := Lib.hid e
    clear e hbd c1 c2 c3 hry hq HDA0
    generalize hex : Apd.exn ((L.drop 2).drop y) = z at *
    have HX := Lib.hid hex
    clear hex
    have cne2 : ¬ c = 3 + y := by omega
    have i1 : (1 : Int) < 3 + ((y : Int) + 2) := by omega
    have i2 : (2 : Int) < 3 + ((y : Int) + 2) := by omega
    have i3 : (3 + ((y : Int) + 2) != 5 + (y : Int)) = false := by rw [bne_eq_false_iff_eq]; omega
    go_enter Try.func47, Try.ntmps47
    go_upto_region 2 with fail
    generalize (w.alloc (.cells #[I64 cla, I64 ins, I64 p1, I64 p2, .slice none 0 0, I64 0, .bool true] 24)).alloc (.cells #[.int .i64 0, .int .i64 0, .int .i64 0, .int .i64 0, .slice none 0 0, .int .i64 0, .bool false] 24) = w1 at *
    go_upto_region 7 with fail
    clear k4 k5 f4 f5
    refine wp_region_noPanic ?_
    refine wp_region_held_drew (S := fun u => u.cell? ⟨bb, o + 1, none⟩ = some (.int .u8 (x1 : Int)) ∧ u.cell? ⟨bb, o + 2, none⟩ = some (.int .u8 (x2 : Int))) (by kernel_rfl) (by exact ⟨hx1, hx2⟩) (fun hHeld => ?_)
    refine wpAnyH_take2 (i := 0) (by simp only [List.getElem?_toArray, List.getElem?_cons_succ, List.getElem?_cons_zero]; first | done | exact rfl) ⟨?_, by kernel_rfl, by kernel_rfl, by kernel_rfl, fun _ _ _ h => h, Or.inl ⟨by rfl, ?_⟩, by assumption, ?_⟩
    rotate_left 1
    · (intro w9 hSw; (try dsimp only at hSw); go_simp; try (with_reducible rfl))
    try simp only [Act.put, List.setIfInBounds_toArray, List.set_cons_zero, List.set_cons_succ]
    refine wpAnyH_take2 (i := 1) (by simp only [List.getElem?_toArray, List.getElem?_cons_succ, List.getElem?_cons_zero]; first | done | exact rfl) ⟨?_, by kernel_rfl, by kernel_rfl, by kernel_rfl, fun _ _ _ h => h, Or.inl ⟨by rfl, ?_⟩, by assumption, ?_⟩
    rotate_left 1
    · (intro w9 hSw; (try dsimp only at hSw); go_simp; try (with_reducible rfl))
    try simp only [Act.put, List.setIfInBounds_toArray, List.set_cons_zero, List.set_cons_succ]
    refine wpAnyH_take2 (i := 2) (by simp only [List.getElem?_toArray, List.getElem?_cons_succ, List.getElem?_cons_zero]; first | done | exact rfl) ⟨?_, by kernel_rfl, by kernel_rfl, by kernel_rfl, fun _ _ _ h => h, Or.inl ⟨by rfl, ?_⟩, by assumption, ?_⟩
    rotate_left 1
    · (intro w9 hSw; (try dsimp only at hSw); go_simp; try (with_reducible rfl))
    try simp only [Act.put, List.setIfInBounds_toArray, List.set_cons_zero, List.set_cons_succ]
    refine wpAnyH_take2 (i := 3) (by simp only [List.getElem?_toArray, List.getElem?_cons_succ, List.getElem?_cons_zero]; first | done | exact rfl) ⟨?_, by kernel_rfl, by kernel_rfl, by kernel_rfl, fun _ _ _ h => h, Or.inl ⟨by rfl, ?_⟩, by assumption, ?_⟩
    rotate_left 1
    · (intro w9 hSw; (try dsimp only at hSw); go_simp; try (with_reducible rfl))
    try simp only [Act.put, List.setIfInBounds_toArray, List.set_cons_zero, List.set_cons_succ]
    refine wpAnyH_take2 (i := 4) (by simp only [List.getElem?_toArray, List.getElem?_cons_succ, List.getElem?_cons_zero]; first | done | exact rfl) ⟨?_, by kernel_rfl, by kernel_rfl, by kernel_rfl, fun _ _ _ h => h, Or.inl ⟨by rfl, ?_⟩, by assumption, ?_⟩
    rotate_left 1
    · (intro w9 hSw; (try dsimp only at hSw); go_simp; try (with_reducible rfl))
    try simp only [Act.put, List.setIfInBounds_toArray, List.set_cons_zero, List.set_cons_succ]
    refine wpAnyH_take2 (i := 5) (by simp only [List.getElem?_toArray, List.getElem?_cons_succ, List.getElem?_cons_zero]; first | done | exact rfl) ⟨?_, by kernel_rfl, by kernel_rfl, by kernel_rfl, fun _ _ _ h => h, Or.inl ⟨by rfl, ?_⟩, by assumption, ?_⟩
    rotate_left 1
    · (intro w9 hSw; (try dsimp only at hSw); go_simp; try (with_reducible rfl))
    try simp only [Act.put, List.setIfInBounds_toArray, List.set_cons_zero, List.set_cons_succ]
    refine wpAnyH_take2 (i := 6) (by simp only [List.getElem?_toArray, List.getElem?_cons_succ, List.getElem?_cons_zero]; first | done | exact rfl) ⟨?_, by kernel_rfl, by kernel_rfl, by kernel_rfl, fun _ _ _ h => h, Or.inl ⟨by rfl, ?_⟩, by assumption, ?_⟩
    rotate_left 1
    · (intro w9 hSw; (try dsimp only at hSw); go_simp; try (with_reducible rfl))
    try simp only [Act.put, List.setIfInBounds_toArray, List.set_cons_zero, List.set_cons_succ]
    refine wpAnyH_take2 (i := 7) (by simp only [List.getElem?_toArray, List.getElem?_cons_succ, List.getElem?_cons_zero]; first | done | exact rfl) ⟨?_, by kernel_rfl, by kernel_rfl, by kernel_rfl, fun _ _ _ h => h, Or.inl ⟨by rfl, ?_⟩, by assumption, ?_⟩
    rotate_left 1
    · (intro w9 hSw; (try dsimp only at hSw); go_simp; try (with_reducible rfl))
    try simp only [Act.put, List.setIfInBounds_toArray, List.set_cons_zero, List.set_cons_succ]
    refine wpAnyH_take2 (i := 8) (by simp only [List.getElem?_toArray, List.getElem?_cons_succ, List.getElem?_cons_zero]; first | done | exact rfl) ⟨?_, by kernel_rfl, by kernel_rfl, by kernel_rfl, fun _ _ _ h => h, Or.inl ⟨by rfl, ?_⟩, by assumption, ?_⟩
    rotate_left 1
    · (intro w9 hSw; (try dsimp only at hSw); go_simp; try (with_reducible rfl))
    try simp only [Act.put, List.setIfInBounds_toArray, List.set_cons_zero, List.set_cons_succ]
    refine wpAnyH_take2 (i := 9) (by simp only [List.getElem?_toArray, List.getElem?_cons_succ, List.getElem?_cons_zero]; first | done | exact rfl) ⟨?_, by kernel_rfl, by kernel_rfl, by kernel_rfl, fun _ _ _ h => h, Or.inl ⟨by rfl, ?_⟩, by assumption, ?_⟩
    rotate_left 1
    · (intro w9 hSw; (try dsimp only at hSw); go_simp; try (with_reducible rfl))
    try simp only [Act.put, List.setIfInBounds_toArray, List.set_cons_zero, List.set_cons_succ]
    refine wpAnyH_take2 (i := 10) (by simp only [List.getElem?_toArray, List.getElem?_cons_succ, List.getElem?_cons_zero]; first | done | exact rfl) ⟨?_, by kernel_rfl, by kernel_rfl, by kernel_rfl, fun _ _ _ h => h, Or.inl ⟨by rfl, ?_⟩, by assumption, ?_⟩
    rotate_left 1
    · (intro w9 hSw; (try dsimp only at hSw); go_simp; try (with_reducible rfl))
    try simp only [Act.put, List.setIfInBounds_toArray, List.set_cons_zero, List.set_cons_succ]
    refine wpAnyH_done (by kernel_rfl) ?_ _
    refine NoPanic.normal ?_
    go_wp2_with (first
        | (at_builtin; refine wpList_append _ rfl (.tmp 52) (.tmp 56) 22 rfl w.heap.size 5 ti _ 1 1 Try.underlying22 hti hz0 hz1 hz2 rfl (by omega) _ 0 0 [] rfl (Own.none_ _ _ _ _ _) w.heap.size _ (3 + y - 3) (c - 3) (bcells ((L.drop 2).take y)) rfl (by exact (HT.out.below (bal BW.out.drew _)).2.2) (by rw [length_bcells, HT.out.1]; omega) (bcells_one _) (by unfold maxLen; omega) (by omega) (by exact (bal BW.out.drew _).size) ?_; intro A3 c3 w5 hown5 hg5 hat5; rw [Nat.zero_add, List.nil_append, Nat.add_sub_cancel_left] at hown5; rw [Nat.zero_add, Nat.add_sub_cancel_left]; have hb5 := (Own.none_ _ _ 5 1 _).grown hg5 (Below.refl _ _) (Nat.le_refl _); have B15 := (B1.out.drew.alloc _).after hb5; have B25 := (B2.out.drew.alloc _).after hb5; have W5 := bgo (bal BW.out.drew _) hb5; have k4 := B15.cell 4; have k5 := B15.cell 5; have f4 := B15.frozen 4; have f5 := B15.frozen 5; have HO := Lib.hid hown5; have HB1 := Lib.hid B15; have HB2 := Lib.hid B25; have HW5 := Lib.hid W5; clear hown5 hg5 hat5 hb5 B15 B25 W5)
        | (go_at_call 60; refine (ref04_amount _ (3 + (y + 2) - (3 + y)) _ ((L.drop 2).drop y) _ (by exact (HLE.out.below (Below.setCell (p := ⟨w.heap.size, 4, none⟩) HW5.out (Nat.le_refl _) (.slice A3 y c3))).more (Below.setCell (p := ⟨w.heap.size, 4, none⟩) HW5.out (Nat.le_refl _) (.slice A3 y c3)).size) (by omega) (by omega)).mono ?_; rw [HX.out]; rintro e w7 ⟨rfl, rfl⟩)
        | ((with_reducible show wpList _ _ _ (Oper.mk _ (Op.load 24 (Operand.tmp 2)) _ _ _ _ :: _) _ _); refine wpList_load_row rfl 24 (.tmp 2) rfl w.heap.size rfl 24 #[I64 cla, I64 ins, I64 p1, I64 p2, .slice A3 y c3, .int .i64 (z : Int), .bool true] (0, 0) _ (by exact (HB1.out.set 4 (.slice A3 y c3)).set 5 (.int .i64 (z : Int))) Try.underlying24 rfl (by kernel_rfl) ?_)
        | ((with_reducible show wpList _ _ _ (Oper.mk _ (Op.store 24 (Operand.tmp 4) (Operand.tmp 70)) _ _ _ _ :: _) _ _); refine wpList_store_row rfl 24 (.tmp 4) (.tmp 70) rfl (w.heap.size + 1) #[I64 cla, I64 ins, I64 p1, I64 p2, .slice A3 y c3, .int .i64 (z : Int), .bool true] rfl rfl 24 _ ((HB2.out.far (p := ⟨w.heap.size, 4, none⟩) (by simp) (.slice A3 y c3)).far (p := ⟨w.heap.size, 5, none⟩) (by simp) (.int .i64 (z : Int))) (by kernel_rfl) rfl (cmd_one _ _ _ _ _ _ _ _ _) ?_))
    refine bodyPost_ret (results_row_tmp rfl _ _ (w.heap.size + 1) 24 _ (0, 0) _ rfl (by exact ((HB2.out.far (p := ⟨w.heap.size, 4, none⟩) (by simp) (.slice A3 y c3)).far (p := ⟨w.heap.size, 5, none⟩) (by simp) (.int .i64 (z : Int))).setRow _) Try.underlying24 rfl (by kernel_rfl)) rfl ⟨by exact Below.setRow (Below.setCell (p := ⟨w.heap.size, 5, none⟩) (Below.setCell (p := ⟨w.heap.size, 4, none⟩) HW5.out (Nat.le_refl _) (.slice A3 y c3)) (Nat.le_refl _) (.int .i64 (z : Int))) (Nat.le_succ _) _, .inr ?_⟩
    rw [HE.out.1, HE.out.2.1, HE.out.2.2.1, HE.out.2.2.2]
    rw [HT.out.1]
    refine ⟨rfl, A3, c3, rfl, ?_⟩
    exact (own_cell_ne (own_cell_ne HO.out HB1.out (by decide) 4 (.slice A3 y c3)) (HB1.out.set 4 (.slice A3 y c3)) (by decide) 5 (.int .i64 (z : Int))).setRow_ne ((HB2.out.far (p := ⟨w.heap.size, 4, none⟩) (by simp) (.slice A3 y c3)).far (p := ⟨w.heap.size, 5, none⟩) (by simp) (.int .i64 (z : Int))) (by decide) _
end Go.Proofs.Ytapfiapjefnjjaa
