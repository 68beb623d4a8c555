/-
  The walk of the statement ApduClasses.
-/
import Derived.Test.YtapfiapjefnjjaaApdM
namespace Go.Proofs.Ytapfiapjefnjjaa
set_option linter.unusedSimpArgs false
open Go.RowKit

theorem cok_all : ∀ (h : Fin 4) (s c p : Bool), Apd.cok (Apd.cby (h.val : Int) s c p) = true ∧ (Apd.cby (h.val : Int) s c p % 4 = (h.val : Int) ∧ (Apd.cby (h.val : Int) s c p / 4 % 2 == 1) = s ∧ (Apd.cby (h.val : Int) s c p / 16 % 2 == 1) = c ∧ (Apd.cby (h.val : Int) s c p / 128 == 1) = p) := by decide +kernel
theorem cls_cby (ch : Int) (s c p : Bool) (h : Apd.cbe ch = 0) : Apd.cok (Apd.cby ch s c p) = true ∧ Apd.clsV (Apd.cby ch s c p) = infoV ch s c p := by
  unfold Apd.cbe at h
  have hr : 0 ≤ ch ∧ ch < 4 := by split at h <;> omega
  obtain ⟨k, rfl⟩ := Int.eq_ofNat_of_zero_le hr.1
  obtain ⟨h1, h2, h3, h4, h5⟩ := cok_all ⟨k, by omega⟩ s c p
  refine ⟨h1, ?_⟩
  unfold Apd.clsV
  rw [h1, if_pos rfl, h2, h3, h4, h5]
theorem cby_cls (x : Int) (h : Apd.cok x = true) : Apd.cby (x % 4) (x / 4 % 2 == 1) (x / 16 % 2 == 1) (x / 128 == 1) = x ∧ Apd.cbe (x % 4) = 0 := by
  have hh := of_decide_eq_true h
  obtain ⟨k, rfl⟩ := Int.eq_ofNat_of_zero_le hh.1
  have f := cls_back ⟨k, by omega⟩
  simp only [h, Bool.not_true, bne_eq_false_iff_eq] at f
  exact ⟨f, by unfold Apd.cbe; rw [if_neg (by omega)]⟩

set_option maxRecDepth 100000 in
set_option maxHeartbeats 8000000 in
theorem law_ApduClasses (x ch : Int) (s c p : Bool) (w : World) :
    Calls Try.prog 4 #[.int .i64 x, infoV ch s c p] w fun e w' => e = .returned (.bool true) ∧ Below w.heap.size w w' := by
  have hB0 := Blk.new w 34 #[I64 ch, .bool s, .bool c, .bool p]
  have hW0 := bal (Below.refl w.heap.size w) (.cells #[I64 ch, .bool s, .bool c, .bool p] 34)
  have hC1 := fun u => apdu_Class x u
  have hC2 := fun u => ref04_Class x u
  have hD1 := fun u => apdu_Byte ch s c p u
  have hD2 := fun u => ref04_Byte ch s c p u
  have hcc : ∃ i0 j1 j2 j3, Apd.clsV x = infoV i0 j1 j2 j3 ∧ (Apd.cok x = true → Apd.cby i0 j1 j2 j3 = x ∧ Apd.cbe i0 = 0) := by
    cases hk : Apd.cok x with
    | false => exact ⟨0, false, false, false, by unfold Apd.clsV; rw [hk]; rfl, fun e => absurd e (by decide)⟩
    | true => exact ⟨_, _, _, _, by unfold Apd.clsV; rw [hk, if_pos rfl], fun _ => cby_cls x hk⟩
  obtain ⟨i0, j1, j2, j3, hv, hback⟩ := hcc
  rw [hv] at hC1 hC2
  have hE1 := fun u => apdu_Byte i0 j1 j2 j3 u
  have hF := cls_cby ch s c p
  have hG := fun u => apdu_Class (Apd.cby ch s c p) u
  generalize Apd.cok x = ok at *
  generalize Apd.cby ch s c p = y at *
  generalize Apd.cbe ch = er at *
  unfold infoV at hC1 hC2 hD1 hD2 hE1 hF ⊢
  have HC1 := Lib.hid hC1
  have HC2 := Lib.hid hC2
  have HD1 := Lib.hid hD1
  have HD2 := Lib.hid hD2
  have HE1 := Lib.hid hE1
  have HF := Lib.hid hF
  have HG := Lib.hid hG
  have HK := Lib.hid hback
  clear hC1 hC2 hD1 hD2 hE1 hF hG hv hback
  go_enter Try.func4, Try.ntmps4
  go_wp2_with fail
  go_at_call 19
  refine (HC1.out _).mono ?_
  rintro e w1 ⟨rfl, b1⟩
  have hB1 := hB0.after b1
  have hW1 := bgo hW0 b1
  clear hB0 hW0 b1
  go_wp2_with fail
  go_at_call 20
  have hX1 := Blk.new w1 34 #[I64 i0, .bool j1, .bool j2, .bool j3]
  refine (HC2.out _).mono ?_
  rintro e w2 ⟨rfl, b2⟩
  have hX2 := hX1.after b2
  have hB2 := (hB1.alloc _).after b2
  have hW2 := bgo (bal hW1 _) b2
  clear hX1 hB1 hW1 b2
  have hY2 := Blk.new w2 34 #[I64 i0, .bool j1, .bool j2, .bool j3]
  have hB3 := Lib.hid (hB2.alloc (.cells #[I64 i0, .bool j1, .bool j2, .bool j3] 34))
  have hX3 := hX2.alloc (.cells #[I64 i0, .bool j1, .bool j2, .bool j3] 34)
  have hW3 := bal hW2 (.cells #[I64 i0, .bool j1, .bool j2, .bool j3] 34)
  clear hB2 hX2 hW2
  go_wp2_with ((with_reducible show wpList _ _ _ (Oper.mk _ (Op.load 34 (Operand.tmp 3)) _ _ _ _ :: _) _ _); refine wpList_load_row rfl 34 (.tmp 3) rfl w.heap.size rfl 34 _ (0, 0) _ hB3.out Try.underlying34 rfl (by kernel_rfl) ?_)
  go_at_call 21
  refine (HD1.out _).mono ?_
  rintro e w4 ⟨rfl, b4⟩
  have hY4 := hY2.after b4
  have hB4 := Lib.hid (hB3.out.after b4)
  have hX4 := hX3.after b4
  have hW4 := bgo hW3 b4
  clear hY2 hB3 hX3 hW3 b4
  go_wp2_with ((with_reducible show wpList _ _ _ (Oper.mk _ (Op.load 34 (Operand.tmp 3)) _ _ _ _ :: _) _ _); refine wpList_load_row rfl 34 (.tmp 3) rfl w.heap.size rfl 34 _ (0, 0) _ hB4.out Try.underlying34 rfl (by kernel_rfl) ?_)
  go_at_call 22
  refine (HD2.out _).mono ?_
  rintro e w5 ⟨rfl, b5⟩
  have hY5 := Lib.hid (hY4.after b5)
  have hB5 := Lib.hid (hB4.out.after b5)
  have hX5 := Lib.hid (hX4.after b5)
  have hW5 := Lib.hid (bgo hW4 b5)
  clear hY4 hB4 hX4 hW4 b5
  have hEnd : ∀ u, Below w.heap.size w u → Calls Try.prog 11 #[] u fun e w' => e = .returned (.bool true) ∧ Below w.heap.size w w' := fun u hu => (law04_example u).mono fun e w' ⟨he, hb⟩ => ⟨he, bgo hu hb⟩
  cases ok with
  | true =>
    obtain ⟨e1, e2⟩ := HK.out rfl
    rw [e1, e2] at HE1
    clear e1 e2 HK
    by_cases her : er = 0
    · subst her
      obtain ⟨e3, e4⟩ := HF.out rfl
      rw [e3, e4] at HG
      clear e3 e4 HF
      go_wp2_with (first
          | ((with_reducible show wpList _ _ _ (Oper.mk _ (Op.load 34 (Operand.tmp 5)) _ _ _ _ :: _) _ _); refine wpList_load_row rfl 34 (.tmp 5) rfl w1.heap.size rfl 34 _ (0, 0) _ hX5.out Try.underlying34 rfl (by kernel_rfl) ?_)
          | ((with_reducible show wpList _ _ _ (Oper.mk _ (Op.load 34 (Operand.tmp 7)) _ _ _ _ :: _) _ _); refine wpList_load_row rfl 34 (.tmp 7) rfl w2.heap.size rfl 34 _ (0, 0) _ hY5.out Try.underlying34 rfl (by kernel_rfl) ?_))
      go_at_call 21
      refine (HE1.out _).mono ?_
      rintro e w6 ⟨rfl, b6⟩
      have hW6 := bgo hW5.out b6
      have hB6 := hB5.out.after b6
      clear b6
      go_wp2_with fail
      go_at_call 19
      refine (HG.out _).mono ?_
      rintro e w7 ⟨rfl, b7⟩
      have hW7 := bgo hW6 b7
      have hB7 := hB6.after b7
      have q0 := fun o => (hB7.alloc o).cell 0
      have q1 := fun o => (hB7.alloc o).cell 1
      have q2 := fun o => (hB7.alloc o).cell 2
      have q3 := fun o => (hB7.alloc o).cell 3
      clear b7 hB7
      go_wp2_with fail
      go_at_call 11
      refine (hEnd _ (bal hW7 _)).mono ?_
      rintro e w9 ⟨rfl, b9⟩
      go_wp2_with fail
      go_ret
      exact ⟨rfl, b9⟩
    · clear HF HG
      have her2 : (er == 0) = false := beq_eq_false_iff_ne.2 her
      go_wp2_with (first
          | ((with_reducible show wpList _ _ _ (Oper.mk _ (Op.load 34 (Operand.tmp 5)) _ _ _ _ :: _) _ _); refine wpList_load_row rfl 34 (.tmp 5) rfl w1.heap.size rfl 34 _ (0, 0) _ hX5.out Try.underlying34 rfl (by kernel_rfl) ?_)
          | ((with_reducible show wpList _ _ _ (Oper.mk _ (Op.load 34 (Operand.tmp 7)) _ _ _ _ :: _) _ _); refine wpList_load_row rfl 34 (.tmp 7) rfl w2.heap.size rfl 34 _ (0, 0) _ hY5.out Try.underlying34 rfl (by kernel_rfl) ?_))
      go_at_call 21
      refine (HE1.out _).mono ?_
      rintro e w6 ⟨rfl, b6⟩
      have hW6 := bgo hW5.out b6
      have hB6 := hB5.out.after b6
      clear b6
      go_wp2_with fail
      go_at_call 11
      refine (hEnd _ hW6).mono ?_
      rintro e w9 ⟨rfl, b9⟩
      go_wp2_with fail
      go_ret
      exact ⟨rfl, b9⟩
  | false =>
    clear HK HE1
    by_cases her : er = 0
    · subst her
      obtain ⟨e3, e4⟩ := HF.out rfl
      rw [e3, e4] at HG
      clear e3 e4 HF
      go_wp2_with (first
          | ((with_reducible show wpList _ _ _ (Oper.mk _ (Op.load 34 (Operand.tmp 5)) _ _ _ _ :: _) _ _); refine wpList_load_row rfl 34 (.tmp 5) rfl w1.heap.size rfl 34 _ (0, 0) _ hX5.out Try.underlying34 rfl (by kernel_rfl) ?_)
          | ((with_reducible show wpList _ _ _ (Oper.mk _ (Op.load 34 (Operand.tmp 7)) _ _ _ _ :: _) _ _); refine wpList_load_row rfl 34 (.tmp 7) rfl w2.heap.size rfl 34 _ (0, 0) _ hY5.out Try.underlying34 rfl (by kernel_rfl) ?_))
      go_at_call 19
      refine (HG.out _).mono ?_
      rintro e w7 ⟨rfl, b7⟩
      have hW7 := bgo hW5.out b7
      have hB7 := hB5.out.after b7
      have q0 := fun o => (hB7.alloc o).cell 0
      have q1 := fun o => (hB7.alloc o).cell 1
      have q2 := fun o => (hB7.alloc o).cell 2
      have q3 := fun o => (hB7.alloc o).cell 3
      clear b7 hB7
      go_wp2_with fail
      go_at_call 11
      refine (hEnd _ (bal hW7 _)).mono ?_
      rintro e w9 ⟨rfl, b9⟩
      go_wp2_with fail
      go_ret
      exact ⟨rfl, b9⟩
    · clear HF HG
      have her2 : (er == 0) = false := beq_eq_false_iff_ne.2 her
      go_wp2_with (first
          | ((with_reducible show wpList _ _ _ (Oper.mk _ (Op.load 34 (Operand.tmp 5)) _ _ _ _ :: _) _ _); refine wpList_load_row rfl 34 (.tmp 5) rfl w1.heap.size rfl 34 _ (0, 0) _ hX5.out Try.underlying34 rfl (by kernel_rfl) ?_)
          | ((with_reducible show wpList _ _ _ (Oper.mk _ (Op.load 34 (Operand.tmp 7)) _ _ _ _ :: _) _ _); refine wpList_load_row rfl 34 (.tmp 7) rfl w2.heap.size rfl 34 _ (0, 0) _ hY5.out Try.underlying34 rfl (by kernel_rfl) ?_))
      go_at_call 11
      refine (hEnd _ hW5.out).mono ?_
      rintro e w9 ⟨rfl, b9⟩
      go_wp2_with fail
      go_ret
      exact ⟨rfl, b9⟩
end Go.Proofs.Ytapfiapjefnjjaa
