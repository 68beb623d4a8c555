/-
  The walk of Chain.
-/
import Derived.Test.YtapfiapjefnjjaaApdI
namespace Go.Proofs.Ytapfiapjefnjjaa
set_option linter.unusedSimpArgs false
open Go.RowKit

theorem or_chain : ∀ h : Fin 255, (h.val : Int) / 16 % 2 ≠ 1 → bits .or .i64 (h.val : Int) 16 = (h.val : Int) + 16 := by decide +kernel

theorem c_info : (Try.prog.info? 24).map (fun i => (i.zero, i.size, i.bytes)) = some (some (.agg #[.int .i64 0, .int .i64 0, .int .i64 0, .int .i64 0, .slice none 0 0, .int .i64 0, .bool false]), 7, 72) := by kernel_rfl
/-- An element of a chain ahead of its last. -/
def midV (cla ins p1 p2 : Int) (v : SV) : CV := ⟨cla + 16, ins, p1, p2, v, 0, false⟩

/-- The last of some commands of the call's own, and what stores make of it. -/
theorem own_last {w : World} {base : Nat} {t : TypeId} {A : Option Addr} {q c : Nat} {l0 : List CV} {x : CV} (h : Own w base t 7 A (q + 1) c (ccells (l0 ++ [x]))) (hq : l0.length = q) :
    ∃ g, A = some ⟨g, 0, none⟩ ∧ base ≤ g ∧ g < w.heap.size ∧ (∀ i, w.frozen? ⟨g, i, none⟩ = false) ∧ w.cell? ⟨g, q * 7, none⟩ = some (I64 x.cla) ∧ w.cell? ⟨g, q * 7 + 5, none⟩ = some (I64 x.le) ∧ w.cell? ⟨g, q * 7 + 6, none⟩ = some (.bool x.long) ∧
      ∀ (a b : Int) (lg : Bool), Own (((w.setCell ⟨g, q * 7, none⟩ (I64 a)).setCell ⟨g, q * 7 + 5, none⟩ (I64 b)).setCell ⟨g, q * 7 + 6, none⟩ (.bool lg)) base t 7 A (q + 1) c (ccells (l0 ++ [⟨a, x.ins, x.p1, x.p2, x.d, b, lg⟩])) := by
  have hlen := length_ccells l0
  obtain ⟨hl, hnc, hm, hc⟩ := h
  obtain ⟨g, cur, e, hb, hh, hs, ht⟩ := hc (by omega)
  have hB : Blk w g t cur := hh
  have hcell : ∀ i, i < 7 → w.cell? ⟨g, q * 7 + i, none⟩ = x.cells[i]? := fun i hi => by
    have h1 : (cur.toList.take ((q + 1) * 7))[q * 7 + i]? = (ccells (l0 ++ [x]))[q * 7 + i]? := by rw [ht]
    rw [List.getElem?_take, if_pos (by omega), ccells_append, ccells_one, List.getElem?_append_right (by omega), show q * 7 + i - (ccells l0).length = i by omega] at h1
    rw [hB.cell, ← h1]; simp
  refine ⟨g, e, hb, hB.lt, hB.frozen, hcell 0 (by omega), hcell 5 (by omega), hcell 6 (by omega), fun a b lg => ⟨?_, hnc, hm, fun _ => ⟨g, _, e, hb, ((hB.set _ _).set _ _).set _ _, ?_, ?_⟩⟩⟩
  · rw [length_ccells] at hl ⊢; simpa using hl
  · simpa using hs
  · simp only [Array.toList_setIfInBounds, List.take_set, ht]
    rw [ccells_append, ccells_append, ccells_one, ccells_one, List.set_append_right _ _ (by omega), List.set_append_right _ _ (by omega), List.set_append_right _ _ (by omega)]
    rw [show q * 7 - (ccells l0).length = 0 by omega, show q * 7 + 5 - (ccells l0).length = 5 by omega, show q * 7 + 6 - (ccells l0).length = 6 by omega]
    rfl

set_option maxRecDepth 100000 in
set_option maxHeartbeats 8000000 in
theorem apdu_Chain (cla ins p1 p2 : Int) (d : List UInt8) (le : Int) (long : Bool) (A : Option Addr) (n c : Nat) (p : Int) (w : World) (h : Byt w w.heap.size A n c d) (hn : n ≤ 1000000) :
    Calls Try.prog 34 #[cmdV cla ins p1 p2 A n c le long, .int .i64 p] w (ChRes w (Apd.chL ⟨cla, ins, p1, p2, d, le, long⟩ p) (Apd.chE ⟨cla, ins, p1, p2, d, le, long⟩ p)) := by
  have HBB := Lib.hid (fun o => (Below.refl w.heap.size w).alloc (Nat.le_refl _) o)
  have HNew := Lib.hid (Blk.new w 24 #[I64 cla, I64 ins, I64 p1, I64 p2, .slice A n c, I64 le, .bool long])
  have hl := h.1
  have hC := fun u => apdu_Check cla ins p1 p2 A n c le long u
  have hE : Apd.chE ⟨cla, ins, p1, p2, d, le, long⟩ p = if Apd.chk cla ins p1 p2 n le long ≠ 0 then Apd.chk cla ins p1 p2 n le long else if p < 1 ∨ 255 < p then 1 else if ¬ (Apd.cok cla = true ∧ cla / 16 % 2 ≠ 1) then 4 else 0 := by rw [← hl]; rfl
  have hL : Apd.chL ⟨cla, ins, p1, p2, d, le, long⟩ p = if Apd.chE ⟨cla, ins, p1, p2, d, le, long⟩ p = 0 then Apd.lst ⟨cla, ins, p1, p2, d, le, long⟩ (Apd.pcs ⟨cla, ins, p1, p2, d, le, long⟩ p.toNat) else [] := rfl
  unfold cmdV at hC ⊢
  have HY := Lib.hid h
  have HZ : Apd.chk cla ins p1 p2 n le long = 0 → 0 ≤ cla ∧ cla ≤ 254 := fun e => (Apd.chk_zero e).1
  generalize Apd.chk cla ins p1 p2 n le long = z at *
  have HC := Lib.hid hC
  have HE := Lib.hid hE
  have HL := Lib.hid hL
  clear hC hE hL h hl
  by_cases hz : z = 0
  case neg =>
    have hz2 : (z != 0) = true := bne_iff_ne.2 hz
    have e1 : Apd.chE ⟨cla, ins, p1, p2, d, le, long⟩ p = z := by rw [HE.out, if_pos hz]
    have e2 : Apd.chL ⟨cla, ins, p1, p2, d, le, long⟩ p = [] := by rw [HL.out, e1, if_neg hz]
    have E1 := Lib.hid e1
    have E2 := Lib.hid e2
    clear e1 e2 hz
    go_enter Try.func34, Try.ntmps34
    go_wp2_with ((with_reducible show wpList _ _ _ (Oper.mk _ (Op.load 24 (Operand.tmp 2)) _ _ _ _ :: _) _ _); refine wpList_load_row rfl 24 (.tmp 2) rfl w.heap.size rfl 24 _ (0, 0) _ HNew.out Try.underlying24 rfl (by kernel_rfl) ?_)
    go_at_call 14
    refine (HC.out _).mono ?_
    rintro e w2 ⟨rfl, hb2⟩
    go_wp2_with fail
    go_ret2
    rw [E1.out, E2.out]
    exact ⟨none, 0, [], rfl, rfl, ⟨Row.nil _ _ _, fun v hv => (by cases hv)⟩, (HBB.out _).trans (hb2.mono (HBB.out _).size)⟩
  subst hz
  obtain ⟨hc0, hc254⟩ := HZ rfl
  clear HZ
  by_cases hp : p < 1 ∨ 255 < p
  · have e1 : Apd.chE ⟨cla, ins, p1, p2, d, le, long⟩ p = 1 := by rw [HE.out, if_neg (fun e => e rfl), if_pos hp]
    have e2 : Apd.chL ⟨cla, ins, p1, p2, d, le, long⟩ p = [] := by rw [HL.out, e1, if_neg (by decide)]
    have E1 := Lib.hid e1
    have E2 := Lib.hid e2
    clear e1 e2
    rcases (show p < 1 ∨ (1 ≤ p ∧ 255 < p) by omega) with hp1 | ⟨hp1, hp2⟩
    all_goals
      clear hp
      go_enter Try.func34, Try.ntmps34
      go_wp2_with ((with_reducible show wpList _ _ _ (Oper.mk _ (Op.load 24 (Operand.tmp 2)) _ _ _ _ :: _) _ _); refine wpList_load_row rfl 24 (.tmp 2) rfl w.heap.size rfl 24 _ (0, 0) _ HNew.out Try.underlying24 rfl (by kernel_rfl) ?_)
      go_at_call 14
      refine (HC.out _).mono ?_
      rintro e w2 ⟨rfl, hb2⟩
      go_wp2_with fail
      go_ret2
      rw [E1.out, E2.out]
      exact ⟨none, 0, [], rfl, rfl, ⟨Row.nil _ _ _, fun v hv => (by cases hv)⟩, (HBB.out _).trans (hb2.mono (HBB.out _).size)⟩
  obtain ⟨m, rfl⟩ := Int.eq_ofNat_of_zero_le (show 0 ≤ p by omega)
  have hm1 : 1 ≤ m := by omega
  have hm2 : m ≤ 255 := by omega
  have hCl := fun u => apdu_Class cla u
  by_cases hk : Apd.cok cla = true ∧ cla / 16 % 2 ≠ 1
  case neg =>
    have e1 : Apd.chE ⟨cla, ins, p1, p2, d, le, long⟩ (m : Int) = 4 := by rw [HE.out, if_neg (fun e => e rfl), if_neg hp, if_pos hk]
    have e2 : Apd.chL ⟨cla, ins, p1, p2, d, le, long⟩ (m : Int) = [] := by rw [HL.out, e1, if_neg (by decide)]
    have E1 := Lib.hid e1
    have E2 := Lib.hid e2
    have hk2 : Apd.cok cla = false ∨ (Apd.cok cla = true ∧ (cla / 16 % 2 == 1) = true) := by
      cases hc : Apd.cok cla with
      | false => exact .inl rfl
      | true => exact .inr ⟨rfl, by rw [hc] at hk; simpa using hk⟩
    clear e1 e2 hk hp
    rcases hk2 with hk | ⟨hk, hq⟩
    · have e3 : Apd.clsV cla = infoV 0 false false false := by unfold Apd.clsV; rw [hk]; rfl
      rw [e3, hk] at hCl
      unfold infoV at hCl
      clear e3 hk
      have HCl := Lib.hid hCl
      clear hCl
      go_enter Try.func34, Try.ntmps34
      go_wp2_with ((with_reducible show wpList _ _ _ (Oper.mk _ (Op.load 24 (Operand.tmp 2)) _ _ _ _ :: _) _ _); refine wpList_load_row rfl 24 (.tmp 2) rfl w.heap.size rfl 24 _ (0, 0) _ HNew.out Try.underlying24 rfl (by kernel_rfl) ?_)
      go_at_call 14
      refine (HC.out _).mono ?_
      rintro e w2 ⟨rfl, hb2⟩
      have B2 := HNew.out.below hb2 (HNew.out.lt)
      have k0 := B2.cell 0
      have HW2 := Lib.hid ((HBB.out _).trans (hb2.mono (HBB.out _).size))
      clear hb2 B2
      go_wp2_with fail
      go_at_call 19
      refine (HCl.out _).mono ?_
      rintro e w3 ⟨rfl, hb3⟩
      have hw3 := HW2.out.trans (hb3.mono HW2.out.size)
      clear hb3
      go_wp2_with fail
      go_ret2
      rw [E1.out, E2.out]
      exact ⟨none, 0, [], rfl, rfl, ⟨Row.nil _ _ _, fun v hv => (by cases hv)⟩, hw3.alloc hw3.size _⟩
    · have e3 : Apd.clsV cla = infoV (cla % 4) (cla / 4 % 2 == 1) (cla / 16 % 2 == 1) (cla / 128 == 1) := by unfold Apd.clsV; rw [hk]; rfl
      rw [e3, hk, hq] at hCl
      unfold infoV at hCl
      clear e3 hk hq
      have HCl := Lib.hid hCl
      clear hCl
      go_enter Try.func34, Try.ntmps34
      go_wp2_with ((with_reducible show wpList _ _ _ (Oper.mk _ (Op.load 24 (Operand.tmp 2)) _ _ _ _ :: _) _ _); refine wpList_load_row rfl 24 (.tmp 2) rfl w.heap.size rfl 24 _ (0, 0) _ HNew.out Try.underlying24 rfl (by kernel_rfl) ?_)
      go_at_call 14
      refine (HC.out _).mono ?_
      rintro e w2 ⟨rfl, hb2⟩
      have B2 := HNew.out.below hb2 (HNew.out.lt)
      have k0 := B2.cell 0
      have HW2 := Lib.hid ((HBB.out _).trans (hb2.mono (HBB.out _).size))
      clear hb2 B2
      go_wp2_with fail
      go_at_call 19
      refine (HCl.out _).mono ?_
      rintro e w3 ⟨rfl, hb3⟩
      have hw3 := HW2.out.trans (hb3.mono HW2.out.size)
      clear hb3
      go_wp2_with fail
      go_ret2
      rw [E1.out, E2.out]
      exact ⟨none, 0, [], rfl, rfl, ⟨Row.nil _ _ _, fun v hv => (by cases hv)⟩, hw3.alloc hw3.size _⟩
  obtain ⟨hk, hq⟩ := hk
  have hqf : (cla / 16 % 2 == 1) = false := beq_eq_false_iff_ne.2 hq
  have e1 : Apd.chE ⟨cla, ins, p1, p2, d, le, long⟩ (m : Int) = 0 := by rw [HE.out, if_neg (fun e => e rfl), if_neg hp, if_neg (fun e => e ⟨hk, hq⟩)]
  have e2 : Apd.chL ⟨cla, ins, p1, p2, d, le, long⟩ (m : Int) = Apd.lst ⟨cla, ins, p1, p2, d, le, long⟩ (Apd.pcs ⟨cla, ins, p1, p2, d, le, long⟩ m) := by rw [HL.out, e1, if_pos rfl]; rfl
  have e3 : Apd.clsV cla = infoV (cla % 4) (cla / 4 % 2 == 1) (cla / 16 % 2 == 1) (cla / 128 == 1) := by unfold Apd.clsV; rw [hk]; rfl
  rw [e3, hk, hqf] at hCl
  unfold infoV at hCl
  have hor : bits .or .i64 cla 16 = cla + 16 := by
    obtain ⟨k, rfl⟩ := Int.eq_ofNat_of_zero_le hc0
    exact or_chain ⟨k, by omega⟩ hq
  have E1 := Lib.hid e1
  have HCl := Lib.hid hCl
  clear e1 e3 hCl hk hq hqf hp HE HL
  have hl := HY.out.1
  by_cases hnm : n ≤ m
  · have e4 : Apd.chL ⟨cla, ins, p1, p2, d, le, long⟩ (m : Int) = [⟨cla, ins, p1, p2, d, le, long⟩] := by
      rw [e2]; unfold Apd.pcs; rw [if_pos (by show d.length ≤ m; omega)]; rfl
    have E2 := Lib.hid e4
    clear e2 e4
    go_enter Try.func34, Try.ntmps34
    go_wp2_with ((with_reducible show wpList _ _ _ (Oper.mk _ (Op.load 24 (Operand.tmp 2)) _ _ _ _ :: _) _ _); refine wpList_load_row rfl 24 (.tmp 2) rfl w.heap.size rfl 24 _ (0, 0) _ HNew.out Try.underlying24 rfl (by kernel_rfl) ?_)
    go_at_call 14
    refine (HC.out _).mono ?_
    rintro e w2 ⟨rfl, hb2⟩
    have B2 := HNew.out.below hb2 (HNew.out.lt)
    have k0 := B2.cell 0
    have HW2 := Lib.hid ((HBB.out _).trans (hb2.mono (HBB.out _).size))
    have HB2 := Lib.hid B2
    clear hb2 B2
    go_wp2_with fail
    go_at_call 19
    refine (HCl.out _).mono ?_
    rintro e w3 ⟨rfl, hb3⟩
    have hB3 := HB2.out.below hb3 HB2.out.lt
    have hw3 := HW2.out.trans (hb3.mono HW2.out.size)
    have hkk : ∀ o, (w3.alloc o).cell? ⟨w.heap.size, 4, none⟩ = some (.slice A n c) := fun o => (hB3.alloc o).cell 4
    have HB3 := Lib.hid hB3
    have HW3 := Lib.hid hw3
    clear hb3 hB3 hw3
    go_wp2_with ((with_reducible show wpList _ _ _ (Oper.mk _ (Op.load 24 (Operand.tmp 2)) _ _ _ _ :: _) _ _); refine wpList_load_row rfl 24 (.tmp 2) rfl w.heap.size rfl 24 _ (0, 0) _ (HB3.out.alloc _) Try.underlying24 rfl (by kernel_rfl) ?_)
    go_at_call 53
    have HW4 := Lib.hid (fun o => HW3.out.alloc HW3.out.size o)
    refine (apdu_copied cla ins p1 p2 A n c d le long _ (by exact (HY.out.below (HW4.out _)).more (HW4.out _).size) hn).mono ?_
    rintro e w5 ⟨A5, c5, rfl, ho5, hb5⟩
    unfold cmdV
    have HW5 := Lib.hid ((HW4.out _).trans (hb5.mono (HW4.out _).size))
    have HO5 := Lib.hid ho5
    clear ho5 hb5
    go_wp2_with fail
    go_ret2
    rw [E1.out, E2.out]
    have hcv : ∀ t, Row (w5.alloc (.cells #[I64 cla, I64 ins, I64 p1, I64 p2, .slice A5 n c5, I64 le, .bool long] t)) (w5.alloc (.cells #[I64 cla, I64 ins, I64 p1, I64 p2, .slice A5 n c5, I64 le, .bool long] t)).heap.size (some ⟨w5.heap.size, 0, none⟩) (ccells [⟨cla, ins, p1, p2, ⟨A5, n, c5, d⟩, le, long⟩]) := fun t => (Row.new w5 rfl).more (by simp)
    refine ⟨_, _, [⟨cla, ins, p1, p2, ⟨A5, n, c5, d⟩, le, long⟩], rfl, rfl, ⟨hcv _, fun v hv => ?_⟩, HW5.out.alloc HW5.out.size _⟩
    obtain rfl := List.mem_singleton.1 hv
    exact (HO5.out.alloc _).byt (Nat.le_refl _)
  have e4 : Apd.chL ⟨cla, ins, p1, p2, d, le, long⟩ (m : Int) = Apd.lst ⟨cla, ins, p1, p2, d, le, long⟩ (Oct.split d m) := by
    rw [e2]; unfold Apd.pcs; rw [if_neg (by show ¬ d.length ≤ m; omega)]
  have hSp := fun u hu => octets_Split A n c d (m : Int) u hu (by omega)
  have s1 : Oct.spB d (m : Int) = Oct.split d m := by unfold Oct.spB; rw [if_neg (by omega)]; rfl
  have s2 : Oct.spE (m : Int) = 0 := by unfold Oct.spE; rw [if_neg (by omega)]
  rw [s1, s2] at hSp
  have hk0 : 0 < (Oct.split d m).length := by rw [Oct.split_cons d m hm1 (by omega)]; simp
  have hkn : (Oct.split d m).length ≤ n := by rw [← hl]; exact Oct.split_length_le m hm1 _ _ (Nat.le_refl _)
  generalize Oct.split d m = P at *
  have E2 := Lib.hid e4
  have HSp := Lib.hid hSp
  obtain ⟨ti, hti, hz0, hz1, hz2⟩ := info_parts c_info
  clear e2 e4 s1 s2 hSp
  go_enter Try.func34, Try.ntmps34
  go_wp2_with ((with_reducible show wpList _ _ _ (Oper.mk _ (Op.load 24 (Operand.tmp 2)) _ _ _ _ :: _) _ _); refine wpList_load_row rfl 24 (.tmp 2) rfl w.heap.size rfl 24 _ (0, 0) _ HNew.out Try.underlying24 rfl (by kernel_rfl) ?_)
  go_at_call 14
  refine (HC.out _).mono ?_
  rintro e w2 ⟨rfl, hb2⟩
  have B2 := HNew.out.below hb2 (HNew.out.lt)
  have k0 := B2.cell 0
  have HW2 := Lib.hid ((HBB.out _).trans (hb2.mono (HBB.out _).size))
  have HB2 := Lib.hid B2
  clear hb2 B2
  go_wp2_with fail
  go_at_call 19
  refine (HCl.out _).mono ?_
  rintro e w3 ⟨rfl, hb3⟩
  have hB3 := HB2.out.below hb3 HB2.out.lt
  have hw3 := HW2.out.trans (hb3.mono HW2.out.size)
  have hkk : ∀ o, (w3.alloc o).cell? ⟨w.heap.size, 4, none⟩ = some (.slice A n c) := fun o => (hB3.alloc o).cell 4
  have HB3 := Lib.hid hB3
  have HW3 := Lib.hid hw3
  clear hb3 hB3 hw3
  go_wp2_with fail
  go_at_call 54
  have HW4 := Lib.hid (fun o => HW3.out.alloc HW3.out.size o)
  have HB4 := Lib.hid (fun o => HB3.out.alloc o)
  refine (HSp.out _ (by exact (HY.out.below (HW4.out _)).more (HW4.out _).size)).mono ?_
  rintro e w4 ⟨A4, c4, vs4, rfl, hv4, o4, hall4, hb4⟩
  have hB4 := (HB4.out _).below hb4 (HB4.out _).lt
  have hw4 := (HW4.out _).trans (hb4.mono (HW4.out _).size)
  have hlv : vs4.length = P.length := by rw [← hv4, List.length_map]
  have y4 : Byts w4 w4.heap.size A4 vs4 := ⟨o4.row, fun v hv => (hall4 v hv).byt (Nat.le_refl _)⟩
  have HLV := Lib.hid hlv
  have HV4 := Lib.hid hv4
  clear o4 hall4 hb4 hlv hkk k0 hv4 HW2 HB2 HW3 HB3 HW4 HB4
  have HB4 := Lib.hid hB4
  have HW4 := Lib.hid hw4
  clear hB4 hw4
  generalize hPk : P.length = k at *
  have HPK := Lib.hid hPk
  clear hPk
  go_wp2_with fail
  go_loopw [11, 13, 55] (fun v bv i wr => ∃ (j : Nat) (A2 : Option Addr) (c2 : Nat), j ≤ k ∧ i = .int .i64 j ∧ v = .slice A2 j c2 ∧ Own wr w4.heap.size 24 7 A2 j c2 (ccells ((vs4.take j).map (midV cla ins p1 p2))) ∧ Below w4.heap.size w4 wr) (fun _ _ i _ => k - (intOf i).toNat)
  case atStart => exact ⟨0, none, 0, by omega, rfl, rfl, Own.none_ _ _ _ _ _, Below.refl _ _⟩
  case round =>
    obtain ⟨j, A2, c2, hj, rfl, rfl, hown, hbw⟩ := hrel
    by_cases hlt : j < k
    · have hjv : j < vs4.length := by rw [HLV.out]; exact hlt
      obtain ⟨b1, o1, rfl, hc1, hy1⟩ := (y4.below hbw).at_ hjv
      have jt : vs4.take (j + 1) = vs4.take j ++ [vs4[j]] := List.take_succ_eq_append_getElem hjv
      have JT := Lib.hid jt
      generalize vs4[j] = x at *
      have p0 : (0 : Int) ≤ (j : Int) := by omega
      have q1 : (j : Int) < (k : Int) := by omega
      have hBr := HB4.out.below hbw HB4.out.lt
      have k0 := hBr.cell 0
      have k1 := hBr.cell 1
      have k2 := hBr.cell 2
      have k3 := hBr.cell 3
      have hownA := fun o => hown.alloc o
      clear jt hBr hy1
      go_wp2_with (at_builtin; refine wpList_append _ rfl (.tmp 59) (.tmp 71) 53 rfl w4.heap.size 24 ti _ 7 72 Try.underlying53 hti hz0 hz1 hz2 rfl (by omega) A2 j c2 _ rfl (hownA _) (wr.heap.size + 1) (some ⟨wr.heap.size, 0, none⟩) 1 1 (midV cla ins p1 p2 x).cells rfl (Row.new wr rfl) (by simp [CV.cells]) (CV.ones _) (by unfold maxLen; omega) (by omega) (by simp; have := hbw.size; omega) ?_; intro A3 c3 w5 hown5 hg5 hat5)
      go_roundw
      case rel => exact ⟨j + 1, A3, c3, by omega, by go_num, rfl, by rw [JT.out, List.map_append, ccells_append]; exact hown5, (hownA _).grown hg5 (hbw.alloc hbw.size _) (by simp; have := hbw.size; omega)⟩
      case measure => simp [intOf]; omega
    · obtain rfl : j = k := by omega
      obtain ⟨q, rfl⟩ : ∃ q, j = q + 1 := ⟨j - 1, by omega⟩
      obtain ⟨vs0, x, hvx⟩ : ∃ vs0 x, vs4 = vs0 ++ [x] := by
        rcases List.eq_nil_or_concat vs4 with h0 | ⟨l0, x, h0⟩
        · rw [h0] at HLV; exact absurd HLV.out (by simp)
        · exact ⟨l0, x, by rw [h0]; simp⟩
      have hq0 : vs0.length = q := by have := HLV.out; rw [hvx, List.length_append] at this; simpa using this
      rw [List.take_of_length_le (by rw [HLV.out]; omega), hvx, List.map_append] at hown
      obtain ⟨g, rfl, hg1, hg2, hfz, hd0, hd5, hd6, HF⟩ := own_last hown (by rw [List.length_map]; exact hq0)
      have HS := Lib.hid (fun (u : World) (hu : Below w4.heap.size w4 u) => (⟨(HB4.out.below hu HB4.out.lt).cell 0, (HB4.out.below hu HB4.out.lt).cell 5, (HB4.out.below hu HB4.out.lt).cell 6⟩ : u.cell? ⟨w.heap.size, 0, none⟩ = some (I64 cla) ∧ u.cell? ⟨w.heap.size, 5, none⟩ = some (I64 le) ∧ u.cell? ⟨w.heap.size, 6, none⟩ = some (.bool long)))
      have HF2 := Lib.hid HF
      have HVX := Lib.hid hvx
      have HQ0 := Lib.hid hq0
      have HW5 := Lib.hid (fun (u0 u1 u2 : Value) => (⟨hbw.drew.setCell (p := ⟨g, q * 7, none⟩) hg1 u0, (hbw.drew.setCell (p := ⟨g, q * 7, none⟩) hg1 u0).setCell (p := ⟨g, q * 7 + 5, none⟩) hg1 u1, ((hbw.drew.setCell (p := ⟨g, q * 7, none⟩) hg1 u0).setCell (p := ⟨g, q * 7 + 5, none⟩) hg1 u1).setCell (p := ⟨g, q * 7 + 6, none⟩) hg1 u2⟩ :
        Below w4.heap.size w4 (wr.drew.setCell ⟨g, q * 7, none⟩ u0) ∧ Below w4.heap.size w4 ((wr.drew.setCell ⟨g, q * 7, none⟩ u0).setCell ⟨g, q * 7 + 5, none⟩ u1) ∧ Below w4.heap.size w4 (((wr.drew.setCell ⟨g, q * 7, none⟩ u0).setCell ⟨g, q * 7 + 5, none⟩ u1).setCell ⟨g, q * 7 + 6, none⟩ u2)))
      clear HF hvx hq0 hown
      have f0 := hfz (q * 7)
      have f5 := hfz (q * 7 + 5)
      have f6 := hfz (q * 7 + 6)
      clear hfz
      simp only [midV] at hd0 hd5 hd6
      go_upto_region 19 with fail
      refine wp_region_noPanic ?_
      refine wp_region_held_drew (S := fun u => u.cell? ⟨w.heap.size, 0, none⟩ = some (I64 cla) ∧ u.cell? ⟨w.heap.size, 5, none⟩ = some (I64 le) ∧ u.cell? ⟨w.heap.size, 6, none⟩ = some (.bool long)) (by kernel_rfl) (by exact HS.out _ hbw.drew) (fun hHeld => ?_)
      refine wpAnyH_take2 (i := 0) (by simp only [List.getElem?_toArray, List.getElem?_cons_succ, List.getElem?_cons_zero]; first | done | exact rfl) ⟨?_, by kernel_rfl, by kernel_rfl, by kernel_rfl, fun _ _ _ h => h, Or.inl ⟨by rfl, ?_⟩, by assumption, ?_⟩
      rotate_left 1
      · (intro w9 hSw; (try dsimp only at hSw); go_simp; try (with_reducible rfl))
      try simp only [Act.put, List.setIfInBounds_toArray, List.set_cons_zero, List.set_cons_succ]
      refine wpAnyH_take2 (i := 1) (by simp only [List.getElem?_toArray, List.getElem?_cons_succ, List.getElem?_cons_zero]; first | done | exact rfl) ⟨?_, by kernel_rfl, by kernel_rfl, by kernel_rfl, fun _ _ _ h => h, Or.inl ⟨by rfl, ?_⟩, by assumption, ?_⟩
      rotate_left 1
      · (intro w9 hSw; (try dsimp only at hSw); go_simp; try (with_reducible rfl))
      try simp only [Act.put, List.setIfInBounds_toArray, List.set_cons_zero, List.set_cons_succ]
      refine wpAnyH_take2 (i := 2) (by simp only [List.getElem?_toArray, List.getElem?_cons_succ, List.getElem?_cons_zero]; first | done | exact rfl) ⟨?_, by kernel_rfl, by kernel_rfl, by kernel_rfl, fun _ _ _ h => h, Or.inl ⟨by rfl, ?_⟩, by assumption, ?_⟩
      rotate_left 1
      · (intro w9 hSw; (try dsimp only at hSw); go_simp; try (with_reducible rfl))
      try simp only [Act.put, List.setIfInBounds_toArray, List.set_cons_zero, List.set_cons_succ]
      refine wpAnyH_take2 (i := 3) (by simp only [List.getElem?_toArray, List.getElem?_cons_succ, List.getElem?_cons_zero]; first | done | exact rfl) ⟨?_, by kernel_rfl, by kernel_rfl, by kernel_rfl, fun _ _ _ h => h, Or.inl ⟨by rfl, ?_⟩, by assumption, ?_⟩
      rotate_left 1
      · (intro w9 hSw; (try dsimp only at hSw); go_simp; try (with_reducible rfl))
      try simp only [Act.put, List.setIfInBounds_toArray, List.set_cons_zero, List.set_cons_succ]
      refine wpAnyH_take2 (i := 4) (by simp only [List.getElem?_toArray, List.getElem?_cons_succ, List.getElem?_cons_zero]; first | done | exact rfl) ⟨?_, by kernel_rfl, by kernel_rfl, by kernel_rfl, fun _ _ _ h => h, Or.inl ⟨by rfl, ?_⟩, by assumption, ?_⟩
      rotate_left 1
      · (intro w9 hSw; (try dsimp only at hSw); go_simp; try (with_reducible rfl))
      try simp only [Act.put, List.setIfInBounds_toArray, List.set_cons_zero, List.set_cons_succ]
      refine wpAnyH_take2 (i := 5) (by simp only [List.getElem?_toArray, List.getElem?_cons_succ, List.getElem?_cons_zero]; first | done | exact rfl) ⟨?_, by kernel_rfl, by kernel_rfl, by kernel_rfl, fun _ _ _ h => h, Or.inl ⟨by rfl, ?_⟩, by assumption, ?_⟩
      rotate_left 1
      · (intro w9 hSw; (try dsimp only at hSw); go_simp; try (with_reducible rfl))
      try simp only [Act.put, List.setIfInBounds_toArray, List.set_cons_zero, List.set_cons_succ]
      refine wpAnyH_take2 (i := 6) (by simp only [List.getElem?_toArray, List.getElem?_cons_succ, List.getElem?_cons_zero]; first | done | exact rfl) ⟨?_, by kernel_rfl, by kernel_rfl, by kernel_rfl, fun _ _ _ h => h, Or.inl ⟨by rfl, ?_⟩, by assumption, ?_⟩
      rotate_left 1
      · (intro w9 hSw; (try dsimp only at hSw); go_simp; try (with_reducible rfl))
      try simp only [Act.put, List.setIfInBounds_toArray, List.set_cons_zero, List.set_cons_succ]
      refine wpAnyH_take2 (i := 7) (by simp only [List.getElem?_toArray, List.getElem?_cons_succ, List.getElem?_cons_zero]; first | done | exact rfl) ⟨?_, by kernel_rfl, by kernel_rfl, by kernel_rfl, fun _ _ _ h => h, Or.inl ⟨by rfl, ?_⟩, by assumption, ?_⟩
      rotate_left 1
      · (intro w9 hSw; (try dsimp only at hSw); go_simp; try (with_reducible rfl))
      try simp only [Act.put, List.setIfInBounds_toArray, List.set_cons_zero, List.set_cons_succ]
      refine wpAnyH_take2 (i := 8) (by simp only [List.getElem?_toArray, List.getElem?_cons_succ, List.getElem?_cons_zero]; first | done | exact rfl) ⟨?_, by kernel_rfl, by kernel_rfl, by kernel_rfl, fun _ _ _ h => h, Or.inl ⟨by rfl, ?_⟩, by assumption, ?_⟩
      rotate_left 1
      · (intro w9 hSw; (try dsimp only at hSw); go_simp; try (with_reducible rfl))
      try simp only [Act.put, List.setIfInBounds_toArray, List.set_cons_zero, List.set_cons_succ]
      refine wpAnyH_take2 (i := 9) (by simp only [List.getElem?_toArray, List.getElem?_cons_succ, List.getElem?_cons_zero]; first | done | exact rfl) ⟨?_, by kernel_rfl, by kernel_rfl, by kernel_rfl, fun _ _ _ h => h, Or.inl ⟨by rfl, ?_⟩, by assumption, ?_⟩
      rotate_left 1
      · (intro w9 hSw; (try dsimp only at hSw); go_simp; try (with_reducible rfl))
      try simp only [Act.put, List.setIfInBounds_toArray, List.set_cons_zero, List.set_cons_succ]
      refine wpAnyH_take2 (i := 10) (by simp only [List.getElem?_toArray, List.getElem?_cons_succ, List.getElem?_cons_zero]; first | done | exact rfl) ⟨?_, by kernel_rfl, by kernel_rfl, by kernel_rfl, fun _ _ _ h => h, Or.inl ⟨by rfl, ?_⟩, by assumption, ?_⟩
      rotate_left 1
      · (intro w9 hSw; (try dsimp only at hSw); go_simp; try (with_reducible rfl))
      try simp only [Act.put, List.setIfInBounds_toArray, List.set_cons_zero, List.set_cons_succ]
      refine wpAnyH_ready (rs := [11]) (by kernel_rfl) (by simp) ?_
      refine AllReadyH.cons2 (by simp only [List.getElem?_toArray, List.getElem?_cons_succ, List.getElem?_cons_zero]; first | done | exact rfl) (fun K hK => ?_)
      rw [if_pos (by rfl)]
      go_simp
      refine hK.out _ _ (by exact HS.out _ (HW5.out _ (I64 0) (I64 0)).1) (fun hHeld => ?_)
      clear hK K
      try simp only [Act.put, List.setIfInBounds_toArray, List.set_cons_zero, List.set_cons_succ]
      refine wpAnyH_take2 (i := 12) (by simp only [List.getElem?_toArray, List.getElem?_cons_succ, List.getElem?_cons_zero]; first | done | exact rfl) ⟨?_, by kernel_rfl, by kernel_rfl, by kernel_rfl, fun _ _ _ h => h, Or.inl ⟨by rfl, ?_⟩, by assumption, ?_⟩
      rotate_left 1
      · (intro w9 hSw; (try dsimp only at hSw); go_simp; try (with_reducible rfl))
      try simp only [Act.put, List.setIfInBounds_toArray, List.set_cons_zero, List.set_cons_succ]
      refine wpAnyH_take2 (i := 13) (by simp only [List.getElem?_toArray, List.getElem?_cons_succ, List.getElem?_cons_zero]; first | done | exact rfl) ⟨?_, by kernel_rfl, by kernel_rfl, by kernel_rfl, fun _ _ _ h => h, Or.inl ⟨by rfl, ?_⟩, by assumption, ?_⟩
      rotate_left 1
      · (intro w9 hSw; (try dsimp only at hSw); go_simp; try (with_reducible rfl))
      try simp only [Act.put, List.setIfInBounds_toArray, List.set_cons_zero, List.set_cons_succ]
      refine wpAnyH_ready (rs := [14]) (by kernel_rfl) (by simp) ?_
      refine AllReadyH.cons2 (by simp only [List.getElem?_toArray, List.getElem?_cons_succ, List.getElem?_cons_zero]; first | done | exact rfl) (fun K hK => ?_)
      rw [if_pos (by rfl)]
      go_simp
      refine hK.out _ _ (by exact HS.out _ (HW5.out _ _ (I64 0)).2.1) (fun hHeld => ?_)
      clear hK K
      try simp only [Act.put, List.setIfInBounds_toArray, List.set_cons_zero, List.set_cons_succ]
      refine wpAnyH_take2 (i := 15) (by simp only [List.getElem?_toArray, List.getElem?_cons_succ, List.getElem?_cons_zero]; first | done | exact rfl) ⟨?_, by kernel_rfl, by kernel_rfl, by kernel_rfl, fun _ _ _ h => h, Or.inl ⟨by rfl, ?_⟩, by assumption, ?_⟩
      rotate_left 1
      · (intro w9 hSw; (try dsimp only at hSw); go_simp; try (with_reducible rfl))
      try simp only [Act.put, List.setIfInBounds_toArray, List.set_cons_zero, List.set_cons_succ]
      refine wpAnyH_take2 (i := 16) (by simp only [List.getElem?_toArray, List.getElem?_cons_succ, List.getElem?_cons_zero]; first | done | exact rfl) ⟨?_, by kernel_rfl, by kernel_rfl, by kernel_rfl, fun _ _ _ h => h, Or.inl ⟨by rfl, ?_⟩, by assumption, ?_⟩
      rotate_left 1
      · (intro w9 hSw; (try dsimp only at hSw); go_simp; try (with_reducible rfl))
      try simp only [Act.put, List.setIfInBounds_toArray, List.set_cons_zero, List.set_cons_succ]
      refine wpAnyH_ready (rs := [17]) (by kernel_rfl) (by simp) ?_
      refine AllReadyH.cons2 (by simp only [List.getElem?_toArray, List.getElem?_cons_succ, List.getElem?_cons_zero]; first | done | exact rfl) (fun K hK => ?_)
      rw [if_pos (by rfl)]
      go_simp
      refine hK.out _ _ (by exact HS.out _ (HW5.out _ _ _).2.2) (fun hHeld => ?_)
      clear hK K
      try simp only [Act.put, List.setIfInBounds_toArray, List.set_cons_zero, List.set_cons_succ]
      refine wpAnyH_done (by kernel_rfl) ?_ _
      refine NoPanic.normal ?_
      go_wp2_with fail
      go_ret2
      rw [E1.out, E2.out]
      have hP : P = vs0.map SV.bs ++ [x.bs] := by rw [← HV4.out, HVX.out, List.map_append]; rfl
      have hLL : Apd.lst ⟨cla, ins, p1, p2, d, le, long⟩ P = (vs0.map (midV cla ins p1 p2) ++ [(⟨cla, ins, p1, p2, x, le, long⟩ : CV)]).map CV.cmd := by
        rw [hP, Apd.lst_snoc, List.map_append, List.map_map, List.map_map]; rfl
      have hLn : (Apd.lst ⟨cla, ins, p1, p2, d, le, long⟩ P).length = q + 1 := by rw [hLL, List.length_map, List.length_append, List.length_map, HQ0.out]; rfl
      have hO := HF2.out cla le long
      have hbf := (HW5.out (I64 cla) (I64 le) (.bool long)).2.2
      have yf := y4.below hbf
      refine ⟨some ⟨g, 0, none⟩, c2, vs0.map (midV cla ins p1 p2) ++ [⟨cla, ins, p1, p2, x, le, long⟩], by rw [hLn]; rfl, hLL.symm, ⟨by exact hO.drew.row, fun v hv => ?_⟩, by exact HW4.out.trans (hbf.mono HW4.out.size)⟩
      have hmem : v.d ∈ vs4 := by
        rw [HVX.out]
        rcases List.mem_append.1 hv with h1 | h1
        · obtain ⟨v0, h2, rfl⟩ := List.mem_map.1 h1
          exact List.mem_append.2 (.inl h2)
        · obtain rfl := List.mem_singleton.1 h1
          exact List.mem_append.2 (.inr (List.mem_singleton.2 rfl))
      exact (yf.2 _ hmem).more hbf.size
end Go.Proofs.Ytapfiapjefnjjaa
