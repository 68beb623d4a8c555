/-
  The walk of the statement ApduRoundTrip.
-/
import Derived.Test.YtapfiapjefnjjaaApdY
import Derived.Test.YtapfiapjefnjjaaApdN
namespace Go.Proofs.Ytapfiapjefnjjaa
set_option linter.unusedSimpArgs false
open Go.RowKit

set_option maxRecDepth 100000 in
set_option maxHeartbeats 32000000 in
theorem law_ApduRoundTrip (cla ins p1 p2 : Int) (A : Option Addr) (n c : Nat) (d : List UInt8) (le : Int) (long : Bool) (A' : Option Addr) (n' c' : Nat) (b : List UInt8) (w : World) (h : Byt w w.heap.size A n c d) (h' : Byt w w.heap.size A' n' c' b) :
    Calls Try.prog 5 #[cmdV cla ins p1 p2 A n c le long, .slice A' n' c'] w fun e w' => e = .returned (.bool true) ∧ Below w.heap.size w w' := by
  have hEnd : ∀ u, Below w.heap.size w u → Calls Try.prog 11 #[] u fun e w' => e = .returned (.bool true) ∧ Below w.heap.size w w' := fun u hu => (law04_example u).mono fun e w' ⟨he, hb⟩ => ⟨he, bgo hu hb⟩
  have hW1 := bal (Below.refl w.heap.size w) (.cells #[I64 cla, I64 ins, I64 p1, I64 p2, .slice A n c, I64 le, .bool long] 24)
  have K2 := Blk.new w 24 #[I64 cla, I64 ins, I64 p1, I64 p2, .slice A n c, I64 le, .bool long]
  have k4 := K2.cell 4
  have HY := Lib.hid h
  have HY' := Lib.hid h'
  have hl := h.1
  have hl' := h'.1
  by_cases hn : n ≤ 70000
  case neg =>
    have q0 : (70000 : Int) < (n : Int) := by omega
    unfold cmdV
    go_enter Try.func5, Try.ntmps5
    go_wp2_with fail
    go_at_call 11
    refine (hEnd _ (hW1)).mono ?_
    rintro e w9 ⟨rfl, b9⟩
    go_wp2_with fail
    go_ret
    exact ⟨rfl, b9⟩
  have q0 : ¬ (70000 : Int) < (n : Int) := by omega
  by_cases hn' : n' ≤ 70000
  case neg =>
    have q1 : (70000 : Int) < (n' : Int) := by omega
    unfold cmdV
    go_enter Try.func5, Try.ntmps5
    go_wp2_with fail
    go_at_call 11
    refine (hEnd _ (hW1)).mono ?_
    rintro e w9 ⟨rfl, b9⟩
    go_wp2_with fail
    go_ret
    exact ⟨rfl, b9⟩
  have q1 : ¬ (70000 : Int) < (n' : Int) := by omega
  have hE := fun u hu => apdu_Encode cla ins p1 p2 A n c le long d u hu
  have hXl := encR_le cla ins p1 p2 d le long
  have hS1 := fun (A2 : Option Addr) (c2 : Nat) (u : World) x y => apdu_Same cla ins p1 p2 A n c d le long cla ins p1 p2 A2 d.length c2 d le long u x y (by omega) (by omega)
  have hS2 := fun (A2 : Option Addr) (c2 : Nat) (u : World) x y => ref04_Same cla ins p1 p2 A n c d le long cla ins p1 p2 A2 d.length c2 d le long u x y (by omega) (by omega)
  rw [Apd.smB_refl] at hS1 hS2
  have hDx := fun (hz : Apd.chk cla ins p1 p2 n le long = 0) (A2 : Option Addr) (c2 : Nat) u hu => (apdu_Decode A2 (Apd.encR cla ins p1 p2 d le long).length c2 (Apd.encR cla ins p1 p2 d le long) u hu (by omega)).mono fun e w' hr => hr.uni
  have hed := enc_dec cla ins p1 p2 d le long
  rw [hl] at hed
  generalize Apd.chk cla ins p1 p2 n le long = z at *
  generalize Apd.encR cla ins p1 p2 d le long = X at *
  have hDy := fun (hz : z = 0) => by
    have hD := hDx hz
    rw [(hed hz).1, (hed hz).2] at hD
    exact hD
  clear hDx hed
  simp only at hDy
  have hDb := fun u hu => (apdu_Decode A' n' c' b u hu (by omega)).mono fun e w' hr => hr.uni
  have hEb := fun (he : Apd.dcE b = 0) (A2 : Option Addr) (c2 : Nat) u hu => by
    have hh := apdu_Encode (Apd.dcC b).cla (Apd.dcC b).ins (Apd.dcC b).p1 (Apd.dcC b).p2 A2 (Apd.dcC b).d.length c2 (Apd.dcC b).le (Apd.dcC b).long (Apd.dcC b).d u hu
    rw [(dec_enc b he).1, (dec_enc b he).2] at hh
    exact hh
  generalize Apd.dcC b = C at *
  obtain ⟨b0, b1, b2, b3, D, le', lg'⟩ := C
  simp only at hDb hEb
  generalize Apd.dcE b = er at *
  unfold cmdV at hE hS1 hS2 hDy hDb hEb ⊢
  have HE := Lib.hid hE
  have HS1 := Lib.hid hS1
  have HS2 := Lib.hid hS2
  have HDy := Lib.hid hDy
  have HDb := Lib.hid hDb
  have HEb := Lib.hid hEb
  have HK := Lib.hid K2
  have HW1 := Lib.hid hW1
  have HL := Lib.hid hl
  have HL' := Lib.hid hl'
  clear hE hS1 hS2 hDy hDb hEb h h' K2 hW1 hl hl' hXl
  go_enter Try.func5, Try.ntmps5
  go_wp2_with ((with_reducible show wpList _ _ _ (Oper.mk _ (Op.load 24 (Operand.tmp 2)) _ _ _ _ :: _) _ _); refine wpList_load_row rfl 24 (.tmp 2) rfl w.heap.size rfl 24 _ (0, 0) _ HK.out Try.underlying24 rfl (by kernel_rfl) ?_)
  go_at_call 12
  refine (HE.out _ (by exact HY.out.alloc' _)).mono ?_
  rintro e w2 ⟨A2, c2, rfl, o2, hb2⟩
  have K2 := Lib.hid (HK.out.after hb2)
  have W2 := bgo HW1.out hb2
  have y2 := o2.byt (Nat.le_refl _)
  clear HK HW1 o2 hb2 k4 q0 q1 HE
  by_cases hz : z = 0
  · have HD := Lib.hid (HDy.out hz)
    subst hz
    clear HDy
    go_wp2_with fail
    go_at_call 23
    refine (HD.out _ _ _ (by exact y2)).mono ?_
    rintro e w3 ⟨A3, c3, rfl, y3, hb3⟩
    have K3 := (K2.out.after hb3).alloc (.cells #[I64 cla, I64 ins, I64 p1, I64 p2, .slice A3 d.length c3, I64 le, .bool long] 24)
    have K7 := Blk.new w3 24 #[I64 cla, I64 ins, I64 p1, I64 p2, .slice A3 d.length c3, I64 le, .bool long]
    have W3 := bal (bgo W2 hb3) (.cells #[I64 cla, I64 ins, I64 p1, I64 p2, .slice A3 d.length c3, I64 le, .bool long] 24)
    have y3 := y3.alloc' (.cells #[I64 cla, I64 ins, I64 p1, I64 p2, .slice A3 d.length c3, I64 le, .bool long] 24)
    have y0 := HY.out.after W3
    have HK3 := Lib.hid K3
    have HK7 := Lib.hid K7
    have i0 := K3.cell 0
    have i1 := K3.cell 1
    have i2 := K3.cell 2
    have i3 := K3.cell 3
    have i4 := K3.cell 4
    have i5 := K3.cell 5
    have i6 := K3.cell 6
    have j0 := K7.cell 0
    have j1 := K7.cell 1
    have j2 := K7.cell 2
    have j3 := K7.cell 3
    have j4 := K7.cell 4
    have j5 := K7.cell 5
    have j6 := K7.cell 6
    clear K2 K3 K7 W2 y2 hb3 HD
    go_wp2_with fail
    go_at_call 24
    refine (HS1.out _ _ _ y0 (by exact y3)).mono ?_
    rintro e w4 ⟨rfl, hb4⟩
    clear i0 i1 i2 i3 i4 i5 i6
    clear j0 j1 j2 j3 j4 j5 j6
    have K3 := HK3.out.after hb4
    have K7 := HK7.out.after hb4
    have W4 := bgo W3 hb4
    have y0 := y0.after hb4
    have y3 := y3.after hb4
    have i0 := K3.cell 0
    have i1 := K3.cell 1
    have i2 := K3.cell 2
    have i3 := K3.cell 3
    have i4 := K3.cell 4
    have i5 := K3.cell 5
    have i6 := K3.cell 6
    have j0 := K7.cell 0
    have j1 := K7.cell 1
    have j2 := K7.cell 2
    have j3 := K7.cell 3
    have j4 := K7.cell 4
    have j5 := K7.cell 5
    have j6 := K7.cell 6
    clear K3 K7 HK3 HK7 W3 hb4 HS1
    go_wp2_with fail
    go_at_call 25
    refine (HS2.out _ _ _ y0 (by exact y3)).mono ?_
    rintro e w10 ⟨rfl, hb10⟩
    have W10 := bgo W4 hb10
    clear i0 i1 i2 i3 i4 i5 i6
    clear j0 j1 j2 j3 j4 j5 j6
    clear W4 hb10 y0 y3 HS2
    go_wp2_with fail
    go_at_call 23
    refine (HDb.out _ (by exact HY'.out.after (W10))).mono ?_
    rintro e w5 ⟨A5, c5, rfl, y5, b5⟩
    have W5 := bal (bgo (W10) b5) (.cells #[I64 b0, I64 b1, I64 b2, I64 b3, .slice A5 D.length c5, I64 le', .bool lg'] 24)
    have K9 := Lib.hid (Blk.new w5 24 #[I64 b0, I64 b1, I64 b2, I64 b3, .slice A5 D.length c5, I64 le', .bool lg'])
    have y5 := y5.alloc' (.cells #[I64 b0, I64 b1, I64 b2, I64 b3, .slice A5 D.length c5, I64 le', .bool lg'] 24)
    clear b5
    by_cases her : er = 0
    · have HEnc := Lib.hid (HEb.out her)
      subst her
      go_wp2_with ((with_reducible show wpList _ _ _ (Oper.mk _ (Op.load 24 (Operand.tmp 9)) _ _ _ _ :: _) _ _); refine wpList_load_row rfl 24 (.tmp 9) rfl w5.heap.size rfl 24 #[I64 b0, I64 b1, I64 b2, I64 b3, .slice A5 D.length c5, I64 le', .bool lg'] (0, 0) _ K9.out Try.underlying24 rfl (by kernel_rfl) ?_)
      go_at_call 12
      refine (HEnc.out _ _ _ (by exact y5)).mono ?_
      rintro e w6 ⟨A6, c6, rfl, o6, b6⟩
      have W6 := bgo W5 b6
      have y6 := o6.byt (Nat.le_refl _)
      have y7 := HY'.out.after W6
      have hlb := Lib.hid y7.1
      clear b6 o6 y5 K9 HEnc
      go_wp2_with fail
      go_at_call 18
      refine (ref01_SameT _ _ _ _ _ _ b _ (by exact y6) (by exact y7) (by have := hlb.out; omega)).mono ?_
      rintro e w7 ⟨rfl, k7, rfl⟩
      clear y6 y7
      go_wp2_with fail
      go_at_call 11
      refine (hEnd _ (Below.drewN W6 k7)).mono ?_
      rintro e w9 ⟨rfl, b9⟩
      go_wp2_with fail
      go_ret
      exact ⟨rfl, b9⟩
    · have her2 : (er == 0) = false := beq_eq_false_iff_ne.2 her
      clear K9 y5
      go_wp2_with fail
      go_at_call 11
      refine (hEnd _ (W5)).mono ?_
      rintro e w9 ⟨rfl, b9⟩
      go_wp2_with fail
      go_ret
      exact ⟨rfl, b9⟩
  · have hz2 : (z == 0) = false := beq_eq_false_iff_ne.2 hz
    clear HDy HS1 HS2 y2
    go_wp2_with fail
    go_at_call 23
    refine (HDb.out _ (by exact HY'.out.after (W2))).mono ?_
    rintro e w5 ⟨A5, c5, rfl, y5, b5⟩
    have W5 := bal (bgo (W2) b5) (.cells #[I64 b0, I64 b1, I64 b2, I64 b3, .slice A5 D.length c5, I64 le', .bool lg'] 24)
    have K9 := Lib.hid (Blk.new w5 24 #[I64 b0, I64 b1, I64 b2, I64 b3, .slice A5 D.length c5, I64 le', .bool lg'])
    have y5 := y5.alloc' (.cells #[I64 b0, I64 b1, I64 b2, I64 b3, .slice A5 D.length c5, I64 le', .bool lg'] 24)
    clear b5
    by_cases her : er = 0
    · have HEnc := Lib.hid (HEb.out her)
      subst her
      go_wp2_with ((with_reducible show wpList _ _ _ (Oper.mk _ (Op.load 24 (Operand.tmp 9)) _ _ _ _ :: _) _ _); refine wpList_load_row rfl 24 (.tmp 9) rfl w5.heap.size rfl 24 #[I64 b0, I64 b1, I64 b2, I64 b3, .slice A5 D.length c5, I64 le', .bool lg'] (0, 0) _ K9.out Try.underlying24 rfl (by kernel_rfl) ?_)
      go_at_call 12
      refine (HEnc.out _ _ _ (by exact y5)).mono ?_
      rintro e w6 ⟨A6, c6, rfl, o6, b6⟩
      have W6 := bgo W5 b6
      have y6 := o6.byt (Nat.le_refl _)
      have y7 := HY'.out.after W6
      have hlb := Lib.hid y7.1
      clear b6 o6 y5 K9 HEnc
      go_wp2_with fail
      go_at_call 18
      refine (ref01_SameT _ _ _ _ _ _ b _ (by exact y6) (by exact y7) (by have := hlb.out; omega)).mono ?_
      rintro e w7 ⟨rfl, k7, rfl⟩
      clear y6 y7
      go_wp2_with fail
      go_at_call 11
      refine (hEnd _ (Below.drewN W6 k7)).mono ?_
      rintro e w9 ⟨rfl, b9⟩
      go_wp2_with fail
      go_ret
      exact ⟨rfl, b9⟩
    · have her2 : (er == 0) = false := beq_eq_false_iff_ne.2 her
      clear K9 y5
      go_wp2_with fail
      go_at_call 11
      refine (hEnd _ (W5)).mono ?_
      rintro e w9 ⟨rfl, b9⟩
      go_wp2_with fail
      go_ret
      exact ⟨rfl, b9⟩
end Go.Proofs.Ytapfiapjefnjjaa
