/-
  The walk of the statement ApduChains.
-/
import Derived.Test.YtapfiapjefnjjaaApdAI
namespace Go.Proofs.Ytapfiapjefnjjaa
set_option linter.unusedSimpArgs false
open Go.RowKit

theorem chE_zero {cla ins p1 p2 : Int} {d : List UInt8} {le : Int} {long : Bool} {p : Int} (h : Apd.chE ⟨cla, ins, p1, p2, d, le, long⟩ p = 0) :
    Apd.chk cla ins p1 p2 d.length le long = 0 ∧ (1 ≤ p ∧ p ≤ 255) ∧ Apd.cok cla = true ∧ cla / 16 % 2 ≠ 1 ∧ Apd.chL ⟨cla, ins, p1, p2, d, le, long⟩ p = Apd.lst ⟨cla, ins, p1, p2, d, le, long⟩ (Apd.pl d p.toNat) := by
  have hL : Apd.chL ⟨cla, ins, p1, p2, d, le, long⟩ p = Apd.lst ⟨cla, ins, p1, p2, d, le, long⟩ (Apd.pl d p.toNat) := by unfold Apd.chL; rw [if_pos h]; rfl
  unfold Apd.chE at h
  simp only at h
  by_cases h1 : Apd.chk cla ins p1 p2 d.length le long = 0
  case neg => rw [if_pos h1] at h; exact absurd h h1
  rw [if_neg (fun e => e h1)] at h
  by_cases h2 : p < 1 ∨ 255 < p
  · rw [if_pos h2] at h; exact absurd h (by decide)
  rw [if_neg h2] at h
  by_cases h3 : Apd.cok cla = true ∧ cla / 16 % 2 ≠ 1
  case neg => rw [if_pos h3] at h; exact absurd h (by decide)
  exact ⟨h1, by omega, h3.1, h3.2, hL⟩
theorem chL_le {cla ins p1 p2 : Int} {d : List UInt8} {le : Int} {long : Bool} {p : Int} : (Apd.chL ⟨cla, ins, p1, p2, d, le, long⟩ p).length ≤ d.length + 1 := by
  unfold Apd.chL
  split
  · rw [lst_length]
    unfold Apd.pcs
    split
    · simp
    · have h : Apd.chE ⟨cla, ins, p1, p2, d, le, long⟩ p = 0 := by assumption
      have := Oct.split_length_le p.toNat (by have := (chE_zero h).2.1; omega) d.length d (Nat.le_refl _)
      show (Oct.split d p.toNat).length ≤ _
      omega
  · simp

set_option maxRecDepth 100000 in
set_option maxHeartbeats 16000000 in
theorem law_ApduChains (cla ins p1 p2 : Int) (A : Option Addr) (n c : Nat) (d : List UInt8) (le : Int) (long : Bool) (p : Int) (w : World) (h : Byt w w.heap.size A n c d) :
    Calls Try.prog 9 #[cmdV cla ins p1 p2 A n c le long, .int .i64 p] w fun e w' => e = .returned (.bool true) ∧ Below w.heap.size w w' := by
  have hEnd : ∀ u, Below w.heap.size w u → Calls Try.prog 11 #[] u fun e w' => e = .returned (.bool true) ∧ Below w.heap.size w w' := fun u hu => (law04_example u).mono fun e w' ⟨he, hb⟩ => ⟨he, bgo hu hb⟩
  have hW1 := bal (Below.refl w.heap.size w) (.cells #[I64 cla, I64 ins, I64 p1, I64 p2, .slice A n c, I64 le, .bool long] 24)
  have K2 := Blk.new w 24 #[I64 cla, I64 ins, I64 p1, I64 p2, .slice A n c, I64 le, .bool long]
  have k4 := K2.cell 4
  have HY := Lib.hid h
  have hl := h.1
  by_cases hn : n ≤ 5000
  case neg =>
    have q0 : (5000 : Int) < (n : Int) := by omega
    unfold cmdV
    go_enter Try.func9, Try.ntmps9
    go_wp2_with fail
    go_at_call 11
    refine (hEnd _ hW1).mono ?_
    rintro e w9 ⟨rfl, b9⟩
    go_wp2_with fail
    go_ret
    exact ⟨rfl, b9⟩
  have q0 : ¬ (5000 : Int) < (n : Int) := by omega
  have hC1 := fun u hu => apdu_Chain cla ins p1 p2 d le long A n c p u hu (by omega)
  have hC2 := fun u hu => ref04_Chain cla ins p1 p2 d le long A n c p u hu (by omega)
  have hLe := @chL_le cla ins p1 p2 d le long p
  have hZ := @chE_zero cla ins p1 p2 d le long p
  have hS2 := fun (A2 : Option Addr) (c2 : Nat) (u : World) x y => ref04_Same cla ins p1 p2 A n c d le long cla ins p1 p2 A2 d.length c2 d le long u x y (by omega) (by omega)
  rw [Apd.smB_refl] at hS2
  have hB := fun (e : Apd.chE ⟨cla, ins, p1, p2, d, le, long⟩ p = 0) => by
    obtain ⟨z1, z2, z3, z4, z5⟩ := hZ e
    have := chain_back (d := d) p.toNat (by omega) (by omega) z1 z3 z4
    rw [← z5] at this
    exact (⟨z2, this⟩ : (1 ≤ p ∧ p ≤ 255) ∧ _)
  have hnil : Apd.chE ⟨cla, ins, p1, p2, d, le, long⟩ p ≠ 0 → Apd.chL ⟨cla, ins, p1, p2, d, le, long⟩ p = [] := fun e => if_neg e
  generalize Apd.chE ⟨cla, ins, p1, p2, d, le, long⟩ p = er at *
  generalize Apd.chL ⟨cla, ins, p1, p2, d, le, long⟩ p = L at *
  unfold cmdV at hC1 hC2 hS2 ⊢
  have HC1 := Lib.hid hC1
  have HC2 := Lib.hid hC2
  have HS2 := Lib.hid hS2
  have HB := Lib.hid hB
  have HK := Lib.hid K2
  have HW1 := Lib.hid hW1
  have HL := Lib.hid hl
  clear hC1 hC2 hS2 hB hZ h K2 hW1
  go_enter Try.func9, Try.ntmps9
  go_wp2_with ((with_reducible show wpList _ _ _ (Oper.mk _ (Op.load 24 (Operand.tmp 2)) _ _ _ _ :: _) _ _); refine wpList_load_row rfl 24 (.tmp 2) rfl w.heap.size rfl 24 _ (0, 0) _ HK.out Try.underlying24 rfl (by kernel_rfl) ?_)
  go_at_call 34
  refine (HC1.out _ (by exact HY.out.alloc' _)).mono ?_
  rintro e w2 ⟨A1, c1, vs1, rfl, hv1, cm1, b2⟩
  have K2 := Lib.hid (HK.out.after b2)
  have W2 := Lib.hid (bgo HW1.out b2)
  clear b2 k4
  go_wp2_with ((with_reducible show wpList _ _ _ (Oper.mk _ (Op.load 24 (Operand.tmp 2)) _ _ _ _ :: _) _ _); refine wpList_load_row rfl 24 (.tmp 2) rfl w.heap.size rfl 24 _ (0, 0) _ K2.out Try.underlying24 rfl (by kernel_rfl) ?_)
  go_at_call 35
  refine (HC2.out _ (by exact HY.out.after W2.out)).mono ?_
  rintro e w3 ⟨A2, c2, vs2, rfl, hv2, cm2, b3⟩
  have K3 := Lib.hid (K2.out.after b3)
  have W3 := Lib.hid (bgo W2.out b3)
  have cm1 := (cm1.below b3).more b3.size
  have hN1 : vs1.length = L.length := by rw [← hv1, List.length_map]
  have hsz : ∀ v ∈ vs1, v.d.n ≤ 1000000 ∧ (er = 0 → v.d.n ≤ p.toNat ∧ Apd.chk v.cla v.ins v.p1 v.p2 v.d.n v.le v.long = 0) := fun v hv => by
    have hmem : v.cmd ∈ L := by rw [← hv1]; exact List.mem_map.2 ⟨v, hv, rfl⟩
    have hlen : v.d.bs.length = v.d.n := (cm1.2 v hv).1
    by_cases he : er = 0
    · obtain ⟨z2, -, -, z5, -⟩ := HB.out he
      have h5 := z5 _ hmem
      have h6 : v.d.bs.length ≤ p.toNat := h5.1
      have h7 : Apd.chk v.cla v.ins v.p1 v.p2 v.d.bs.length v.le v.long = 0 := h5.2
      rw [hlen] at h6 h7
      exact ⟨by omega, fun _ => ⟨h6, h7⟩⟩
    · rw [hnil he] at hmem; cases hmem
  have HSZ := Lib.hid hsz
  have HV1 := Lib.hid hv1
  have HV2 := Lib.hid hv2
  have HCM := Lib.hid cm1
  have HCN := Lib.hid cm2
  have HN1 := Lib.hid hN1
  have HNI := Lib.hid hnil
  clear hsz hv1 hv2 cm1 cm2 hN1 hnil b3
  generalize hN : L.length = N at *
  have HNN := Lib.hid hN
  clear hN
  go_wp2_with fail
  go_at_call 36
  refine (law04_same A1 A2 N c1 c2 vs1 vs2 _ HCM.out HCN.out HN1.out (by omega) (by rw [HV1.out, HV2.out]) (fun v hv => (HSZ.out v hv).1)).mono ?_
  rintro e w4 ⟨rfl, b4⟩
  have K4 := Lib.hid (K3.out.after b4)
  have W4 := Lib.hid (bgo W3.out b4)
  have HCM4 := Lib.hid ((HCM.out.below b4).more b4.size)
  clear b4
  by_cases her : er = 0
  case neg =>
    have q1 : (er != 0) = true := bne_iff_ne.2 her
    go_wp2_with fail
    go_at_call 11
    refine (hEnd _ W4.out).mono ?_
    rintro e w9 ⟨rfl, b9⟩
    go_wp2_with fail
    go_ret
    exact ⟨rfl, b9⟩
  have HBB := Lib.hid (HB.out her)
  have HS3 := Lib.hid (fun v hv => (HSZ.out v hv).2 her)
  subst her
  obtain ⟨hp1, hp2⟩ := HBB.out.1
  have hNb : N ≤ 5001 := by omega
  clear HB HSZ HNI HC1 HC2 K2 K3 W2 W3 HCM HCN HK HW1 hl
  go_wp2_with fail
  go_loopw [9] (fun i wr => ∃ k : Nat, k ≤ N ∧ i = .int .i64 k ∧ Below w4.heap.size w4 wr) (fun i _ => N - (intOf i).toNat)
  case atStart => exact ⟨0, by omega, rfl, Below.refl _ _⟩
  case round =>
    obtain ⟨k, hk, rfl, hbw⟩ := hrel
    by_cases hlt : k < N
    · have hkv : k < vs1.length := by rw [HN1.out]; exact hlt
      obtain ⟨b1, o1, rfl, hb1, hr1, hy1⟩ := (HCM4.out.below hbw).at_ hkv
      have hs := HS3.out _ (List.getElem_mem hkv)
      generalize vs1[k] = x at *
      obtain ⟨x0, x1, x2, x3, ⟨xa, xn, xc, xb⟩, x5, x6⟩ := x
      simp only at hs
      obtain ⟨a0, a1, a2, a3, a4b, a5, a6⟩ := cells7o hr1
      have a4 : wr.cell? ⟨b1, o1 + k * 7 + 4, none⟩ = some (.slice xa xn xc) := a4b
      have HCk := Lib.hid (fun u => apdu_Check x0 x1 x2 x3 xa xn xc x5 x6 u)
      rw [hs.2] at HCk
      unfold cmdV at HCk
      have p0 : (0 : Int) ≤ (k : Int) := by omega
      have p1' : (k : Int) < (N : Int) := by omega
      have p2' : ¬ p < (xn : Int) := by omega
      clear a4b hr1 hy1 hs
      go_wp2_with fail
      go_at_call 14
      refine (HCk.out _).mono ?_
      rintro e w5 ⟨rfl, b5⟩
      have hbw5 := bgo hbw b5
      clear b5 a0 a1 a2 a3 a4 a5 a6 HCk
      go_wp2_with fail
      go_roundw
      case rel => exact ⟨k + 1, by omega, by go_num, hbw5⟩
      case measure => simp [intOf]; omega
    · obtain rfl : k = N := by omega
      obtain ⟨-, hjE, hjC, -, hjd⟩ := HBB.out
      have hJ := apdu_Join A1 k c1 vs1 wr ((HCM4.out.below hbw).more hbw.size) HN1.out (by have := HL.out; omega) (by rw [HV1.out, hjd]; have := HL.out; omega)
      unfold JRes at hJ
      rw [HV1.out, hjE, hjC] at hJ
      have HJ := Lib.hid hJ
      have Wr := Lib.hid (bgo W4.out hbw)
      have Kr := Lib.hid (K4.out.after hbw)
      clear hJ hjE hjC hjd
      go_wp2_with fail
      go_at_call 37
      refine HJ.out.mono ?_
      rintro e w6 ⟨b6, hx | ⟨-, A5, c5, rfl, o5⟩⟩
      · exact absurd rfl hx.1
      have K7 := Blk.new w6 24 #[I64 cla, I64 ins, I64 p1, I64 p2, .slice A5 d.length c5, I64 le, .bool long]
      have K1 := (Kr.out.after b6).alloc (.cells #[I64 cla, I64 ins, I64 p1, I64 p2, .slice A5 d.length c5, I64 le, .bool long] 24)
      have W6 := bal (bgo Wr.out b6) (.cells #[I64 cla, I64 ins, I64 p1, I64 p2, .slice A5 d.length c5, I64 le, .bool long] 24)
      have y5 := (o5.byt (Nat.le_refl _)).alloc' (.cells #[I64 cla, I64 ins, I64 p1, I64 p2, .slice A5 d.length c5, I64 le, .bool long] 24)
      have y0 := HY.out.after W6
      have i0 := K1.cell 0
      have i1 := K1.cell 1
      have i2 := K1.cell 2
      have i3 := K1.cell 3
      have i4 := K1.cell 4
      have i5 := K1.cell 5
      have i6 := K1.cell 6
      have j0 := K7.cell 0
      have j1 := K7.cell 1
      have j2 := K7.cell 2
      have j3 := K7.cell 3
      have j4 := K7.cell 4
      have j5 := K7.cell 5
      have j6 := K7.cell 6
      clear K1 K7 HJ Kr Wr b6 o5 HL
      unfold cmdV
      go_wp2_with fail
      go_at_call 25
      refine (HS2.out _ _ _ y0 (by exact y5)).mono ?_
      rintro e w7 ⟨rfl, b7⟩
      have W7 := bgo W6 b7
      clear i0 i1 i2 i3 i4 i5 i6 j0 j1 j2 j3 j4 j5 j6 y0 y5 W6 b7
      go_wp2_with fail
      go_at_call 11
      refine (hEnd _ W7).mono ?_
      rintro e w9 ⟨rfl, b9⟩
      go_wp2_with fail
      go_ret
      exact ⟨rfl, b9⟩
end Go.Proofs.Ytapfiapjefnjjaa
