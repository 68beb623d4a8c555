/-
  The walk of the statement ApduResponses.
-/
import Derived.Test.YtapfiapjefnjjaaApdV
import Derived.Test.YtapfiapjefnjjaaApdX
import Derived.Test.YtapfiapjefnjjaaApdN
namespace Go.Proofs.Ytapfiapjefnjjaa
set_option linter.unusedSimpArgs false
open Go.RowKit

theorem erB_le (d : List UInt8) (sw : Int) : (Apd.erB d sw).length ≤ d.length + 2 := by
  unfold Apd.erB
  split
  · rw [List.length_append, Oct.putB_length]; exact Nat.le_refl _
  · exact Nat.zero_le _
/-- What is encoded is decoded as it was. -/
theorem resp_back (d : List UInt8) (sw : Int) (h : Apd.erE d.length sw = 0) : Apd.rdE (Apd.erB d sw) = 0 ∧ Apd.rdD (Apd.erB d sw) = d ∧ Apd.rdS (Apd.erB d sw) = sw := by
  have hX : Apd.erB d sw = d ++ Oct.putB sw.toNat 2 := if_pos h
  have hbig : ¬ 65536 < d.length := fun e => by unfold Apd.erE at h; rw [if_pos e] at h; exact absurd h (by decide)
  have hw : Apd.wrd sw = true := by
    cases hw : Apd.wrd sw with
    | true => rfl
    | false => unfold Apd.erE at h; rw [if_neg hbig, hw] at h; exact absurd h (by decide)
  obtain ⟨s, rfl, hs⟩ := wrd_nat hw
  rw [Int.toNat_natCast, put_two] at hX
  have hl : (Apd.erB d (s : Int)).length = d.length + 2 := by rw [hX, List.length_append]; rfl
  have g1 : ((Apd.erB d (s : Int)).getD d.length 0).toNat = s / 256 := by
    rw [hX]
    simp [List.getD]
    omega
  have g2 : ((Apd.erB d (s : Int)).getD (d.length + 1) 0).toNat = s % 256 := by
    rw [hX]
    simp [List.getD]
  have hsw : Apd.swd (Apd.erB d (s : Int)) = (s : Int) := by
    unfold Apd.swd
    rw [hl, show d.length + 2 - 2 = d.length by omega, show d.length + 2 - 1 = d.length + 1 by omega, g1, g2]
    omega
  have hE : Apd.rdE (Apd.erB d (s : Int)) = 0 := by
    unfold Apd.rdE
    rw [if_neg (by omega), if_neg (by omega), hsw, if_pos hw]
  refine ⟨hE, ?_, ?_⟩
  · unfold Apd.rdD
    rw [if_pos hE, hl, hX, show d.length + 2 - 2 = d.length by omega, List.take_append_of_le_length (Nat.le_refl _), List.take_of_length_le (Nat.le_refl _)]
  · unfold Apd.rdS
    rw [if_pos hE, hsw]

set_option maxRecDepth 100000 in
set_option maxHeartbeats 16000000 in
theorem law_ApduResponses (A : Option Addr) (n c : Nat) (d : List UInt8) (sw : Int) (w : World) (h : Byt w w.heap.size A n c d) :
    Calls Try.prog 8 #[rspV A n c sw] w fun e w' => e = .returned (.bool true) ∧ Below w.heap.size w w' := by
  have hEnd : ∀ u, Below w.heap.size w u → Calls Try.prog 11 #[] u fun e w' => e = .returned (.bool true) ∧ Below w.heap.size w w' := fun u hu => (law04_example u).mono fun e w' ⟨he, hb⟩ => ⟨he, bgo hu hb⟩
  have HB := Lib.hid (bal (Below.refl w.heap.size w) (.cells #[.slice A n c, I64 sw] 45))
  have HK := Lib.hid (Blk.new w 45 #[.slice A n c, I64 sw])
  have hl := h.1
  have HY := Lib.hid h
  clear h
  by_cases hn : n ≤ 70000
  case neg =>
    have q0 : (70000 : Int) < (n : Int) := by omega
    unfold rspV
    go_enter Try.func8, Try.ntmps8
    go_wp2_with fail
    go_at_call 11
    refine (hEnd _ HB.out).mono ?_
    rintro e w9 ⟨rfl, b9⟩
    go_wp2_with fail
    go_ret
    exact ⟨rfl, b9⟩
  have q0 : ¬ (70000 : Int) < (n : Int) := by omega
  have hE1 := fun u hu => apdu_EncodeResponse A n c d sw u hu (by omega)
  have hE2 := fun u hu => ref04_EncodeResponse A n c d sw u hu (by omega)
  have hX := erB_le d sw
  have hD1 := fun (A1 : Option Addr) (c1 : Nat) u hu => (apdu_DecodeResponse A1 (Apd.erB d sw).length c1 (Apd.erB d sw) u hu (by omega)).mono fun e w' hr => hr.uni
  have hS2 := fun (A2 : Option Addr) (c2 : Nat) (u : World) x y => ref04_SameResponse A n c d sw A2 d.length c2 d sw u x y (by omega) (by omega)
  rw [Apd.srB_refl] at hS2
  have hbk := resp_back d sw
  rw [hl] at hbk
  generalize Apd.erE n sw = z at *
  have hD0 := fun (hz : z = 0) => by
    have hD := hD1
    rw [(hbk hz).1, (hbk hz).2.1, (hbk hz).2.2] at hD
    exact hD
  clear hD1 hbk
  generalize Apd.erB d sw = X at *
  unfold rspV at hE1 hE2 hD0 hS2 ⊢
  have HE1 := Lib.hid hE1
  have HE2 := Lib.hid hE2
  have HD0 := Lib.hid hD0
  have HS2 := Lib.hid hS2
  clear hE1 hE2 hD0 hS2
  have k0 := HK.out.cell 0
  go_enter Try.func8, Try.ntmps8
  go_wp2_with ((with_reducible show wpList _ _ _ (Oper.mk _ (Op.load 45 (Operand.tmp 1)) _ _ _ _ :: _) _ _); refine wpList_load_row rfl 45 (.tmp 1) rfl w.heap.size rfl 45 _ (0, 0) _ HK.out Try.underlying45 rfl (by kernel_rfl) ?_)
  go_at_call 30
  refine (HE1.out _ (by exact HY.out.alloc' _)).mono ?_
  rintro e w2 ⟨A1, c1, rfl, o1, b2⟩
  have HN2 := Lib.hid (HK.out.after b2)
  have HW2 := Lib.hid (bgo HB.out b2)
  go_wp2_with ((with_reducible show wpList _ _ _ (Oper.mk _ (Op.load 45 (Operand.tmp 1)) _ _ _ _ :: _) _ _); refine wpList_load_row rfl 45 (.tmp 1) rfl w.heap.size rfl 45 _ (0, 0) _ HN2.out Try.underlying45 rfl (by kernel_rfl) ?_)
  go_at_call 31
  refine (HE2.out _ (by exact HY.out.after HW2.out)).mono ?_
  rintro e w3 ⟨A2, c2, rfl, o2, b3⟩
  have HS : ACS w w.heap.size 45 #[.slice A n c, I64 sw] A1 A2 c1 c2 X w3 := ⟨HN2.out.after b3, (o1.byt (Nat.le_refl _)).after b3, o2.byt (Nat.le_refl _), bgo HW2.out b3⟩
  clear o1 o2 b2 b3 HN2 HW2 k0 q0 HB HK HE1 HE2
  go_upto_region 5 with fail
  have HS0 := HS
  replace HS := ACS.drew HS
  refine wp_region_noPanic ?_
  refine wp_region_held_drew (S := fun u => (u.cell? ⟨w.heap.size, 0, none⟩ = some (.slice A n c) ∧ u.cell? ⟨w.heap.size, 1, none⟩ = some (I64 sw)) ∧ ACS w w.heap.size 45 #[.slice A n c, I64 sw] A1 A2 c1 c2 X u) (by kernel_rfl) (by exact ⟨⟨HS.1.cell 0, HS.1.cell 1⟩, HS⟩) (fun hHeld => ?_)
  refine wpAnyH_take2 (i := 0) (by simp only [List.getElem?_toArray, List.getElem?_cons_succ, List.getElem?_cons_zero]; first | done | exact rfl) ⟨?_, by kernel_rfl, by kernel_rfl, by kernel_rfl, fun _ _ _ h => h, Or.inl ⟨by rfl, ?_⟩, by assumption, ?_⟩
  rotate_left 1
  · (intro w9 hSw; (try dsimp only at hSw); go_simp; try (with_reducible rfl))
  try simp only [Act.put, List.setIfInBounds_toArray, List.set_cons_zero, List.set_cons_succ]
  refine wpAnyH_take2 (i := 1) (by simp only [List.getElem?_toArray, List.getElem?_cons_succ, List.getElem?_cons_zero]; first | done | exact rfl) ⟨?_, by kernel_rfl, by kernel_rfl, by kernel_rfl, fun _ _ _ h => h, Or.inl ⟨by rfl, ?_⟩, by assumption, ?_⟩
  rotate_left 1
  · (intro w9 hSw; (try dsimp only at hSw); go_simp; try (with_reducible rfl))
  try simp only [Act.put, List.setIfInBounds_toArray, List.set_cons_zero, List.set_cons_succ]
  refine wpAnyH_take2 (i := 2) (by simp only [List.getElem?_toArray, List.getElem?_cons_succ, List.getElem?_cons_zero]; first | done | exact rfl) ⟨?_, by kernel_rfl, by kernel_rfl, by kernel_rfl, fun _ _ _ h => h, Or.inl ⟨by rfl, ?_⟩, by assumption, ?_⟩
  rotate_left 1
  · (intro w9 hSw; (try dsimp only at hSw); go_simp; try (with_reducible rfl))
  try simp only [Act.put, List.setIfInBounds_toArray, List.set_cons_zero, List.set_cons_succ]
  refine wpAnyH_take2 (i := 3) (by simp only [List.getElem?_toArray, List.getElem?_cons_succ, List.getElem?_cons_zero]; first | done | exact rfl) ⟨?_, by kernel_rfl, by kernel_rfl, by kernel_rfl, fun _ _ _ h => h, Or.inl ⟨by rfl, ?_⟩, by assumption, ?_⟩
  rotate_left 1
  · (intro w9 hSw; (try dsimp only at hSw); go_simp; try (with_reducible rfl))
  try simp only [Act.put, List.setIfInBounds_toArray, List.set_cons_zero, List.set_cons_succ]
  refine wpAnyH_take2 (i := 4) (by simp only [List.getElem?_toArray, List.getElem?_cons_succ, List.getElem?_cons_zero]; first | done | exact rfl) ⟨?_, by kernel_rfl, by kernel_rfl, by kernel_rfl, fun _ _ _ h => h, Or.inl ⟨by rfl, ?_⟩, by assumption, ?_⟩
  rotate_left 1
  · (intro w9 hSw; (try dsimp only at hSw); go_simp; try (with_reducible rfl))
  try simp only [Act.put, List.setIfInBounds_toArray, List.set_cons_zero, List.set_cons_succ]
  refine wpAnyH_take2 (i := 5) (by simp only [List.getElem?_toArray, List.getElem?_cons_succ, List.getElem?_cons_zero]; first | done | exact rfl) ⟨?_, by kernel_rfl, by kernel_rfl, by kernel_rfl, fun _ _ _ h => h, Or.inl ⟨by rfl, ?_⟩, by assumption, ?_⟩
  rotate_left 1
  · (intro w9 hSw; (try dsimp only at hSw); go_simp; try (with_reducible rfl))
  try simp only [Act.put, List.setIfInBounds_toArray, List.set_cons_zero, List.set_cons_succ]
  refine wpAnyH_ready (rs := [6]) (by kernel_rfl) (by simp) ?_
  refine AllReadyH.cons2 (by simp only [List.getElem?_toArray, List.getElem?_cons_succ, List.getElem?_cons_zero]; first | done | exact rfl) (fun K hK => ?_)
  rw [if_pos (by rfl)]
  go_simp
  go_at_call 18
  refine (ref01_SameT _ _ _ _ _ _ _ _ HS.2.1 HS.2.2.1 (by omega)).mono ?_
  rintro e w5 ⟨rfl, k5, rfl⟩
  replace HS := ACS.after HS0 (Below.drewN (Below.refl _ _) (1 + k5))
  clear HS0
  go_wp2_with fail
  refine hK.out _ _ (by exact ⟨⟨HS.1.cell 0, HS.1.cell 1⟩, HS⟩) (fun hHeld => ?_)
  clear hK K
  try simp only [Act.put, List.setIfInBounds_toArray, List.set_cons_zero, List.set_cons_succ]
  refine wpAnyH_take2 (i := 7) (by simp only [List.getElem?_toArray, List.getElem?_cons_succ, List.getElem?_cons_zero]; first | done | exact rfl) ⟨?_, by kernel_rfl, by kernel_rfl, by kernel_rfl, fun _ _ _ h => h, Or.inl ⟨by rfl, ?_⟩, by assumption, ?_⟩
  rotate_left 1
  · (intro w9 hSw; (try dsimp only at hSw); go_simp; try (with_reducible rfl))
  try simp only [Act.put, List.setIfInBounds_toArray, List.set_cons_zero, List.set_cons_succ]
  refine wpAnyH_take2 (i := 8) (by simp only [List.getElem?_toArray, List.getElem?_cons_succ, List.getElem?_cons_zero]; first | done | exact rfl) ⟨?_, by kernel_rfl, by kernel_rfl, by kernel_rfl, fun _ _ _ h => h, Or.inl ⟨by rfl, ?_⟩, by assumption, ?_⟩
  rotate_left 1
  · (intro w9 hSw; (try dsimp only at hSw); go_simp; try (with_reducible rfl))
  try simp only [Act.put, List.setIfInBounds_toArray, List.set_cons_zero, List.set_cons_succ]
  refine wpAnyH_take2 (i := 9) (by simp only [List.getElem?_toArray, List.getElem?_cons_succ, List.getElem?_cons_zero]; first | done | exact rfl) ⟨?_, by kernel_rfl, by kernel_rfl, by kernel_rfl, fun _ _ _ h => h, Or.inl ⟨by rfl, ?_⟩, by assumption, ?_⟩
  rotate_left 1
  · (intro w9 hSw; (try dsimp only at hSw); go_simp; try (with_reducible rfl))
  try simp only [Act.put, List.setIfInBounds_toArray, List.set_cons_zero, List.set_cons_succ]
  refine wpAnyH_take2 (i := 10) (by simp only [List.getElem?_toArray, List.getElem?_cons_succ, List.getElem?_cons_zero]; first | done | exact rfl) ⟨?_, by kernel_rfl, by kernel_rfl, by kernel_rfl, fun _ _ _ h => h, Or.inl ⟨by rfl, ?_⟩, by assumption, ?_⟩
  rotate_left 1
  · (intro w9 hSw; (try dsimp only at hSw); go_simp; try (with_reducible rfl))
  try simp only [Act.put, List.setIfInBounds_toArray, List.set_cons_zero, List.set_cons_succ]
  refine wpAnyH_take2 (i := 11) (by simp only [List.getElem?_toArray, List.getElem?_cons_succ, List.getElem?_cons_zero]; first | done | exact rfl) ⟨?_, by kernel_rfl, by kernel_rfl, by kernel_rfl, fun _ _ _ h => h, Or.inl ⟨by rfl, ?_⟩, by assumption, ?_⟩
  rotate_left 1
  · (intro w9 hSw; (try dsimp only at hSw); go_simp; try (with_reducible rfl))
  try simp only [Act.put, List.setIfInBounds_toArray, List.set_cons_zero, List.set_cons_succ]
  refine wpAnyH_take2 (i := 13) (by simp only [List.getElem?_toArray, List.getElem?_cons_succ, List.getElem?_cons_zero]; first | done | exact rfl) ⟨?_, by kernel_rfl, by kernel_rfl, by kernel_rfl, fun _ _ _ h => h, Or.inl ⟨by rfl, ?_⟩, by assumption, ?_⟩
  rotate_left 1
  · (intro w9 hSw; (try dsimp only at hSw); go_simp; try (with_reducible rfl))
  try simp only [Act.put, List.setIfInBounds_toArray, List.set_cons_zero, List.set_cons_succ]
  refine wpAnyH_take2 (i := 14) (by simp only [List.getElem?_toArray, List.getElem?_cons_succ, List.getElem?_cons_zero]; first | done | exact rfl) ⟨?_, by kernel_rfl, by kernel_rfl, by kernel_rfl, fun _ _ _ h => h, Or.inl ⟨by rfl, ?_⟩, by assumption, ?_⟩
  rotate_left 1
  · (intro w9 hSw; (try dsimp only at hSw); go_simp; try (with_reducible rfl))
  try simp only [Act.put, List.setIfInBounds_toArray, List.set_cons_zero, List.set_cons_succ]
  refine wpAnyH_ready (rs := [12]) (by kernel_rfl) (by simp) ?_
  refine AllReadyH.cons2 (by simp only [List.getElem?_toArray, List.getElem?_cons_succ, List.getElem?_cons_zero]; first | done | exact rfl) (fun K hK => ?_)
  rw [if_pos (by rfl)]
  go_simp
  go_at_call 32
  refine (apdu_Success sw _).mono ?_
  rintro e w5 ⟨rfl, rfl⟩
  go_wp2_with fail
  refine hK.out _ _ (by exact ⟨⟨HS.1.cell 0, HS.1.cell 1⟩, HS⟩) (fun hHeld => ?_)
  clear hK K
  try simp only [Act.put, List.setIfInBounds_toArray, List.set_cons_zero, List.set_cons_succ]
  refine wpAnyH_ready (rs := [15]) (by kernel_rfl) (by simp) ?_
  refine AllReadyH.cons2 (by simp only [List.getElem?_toArray, List.getElem?_cons_succ, List.getElem?_cons_zero]; first | done | exact rfl) (fun K hK => ?_)
  rw [if_pos (by rfl)]
  go_simp
  go_at_call 33
  refine (ref04_Success sw _).mono ?_
  rintro e w5 ⟨rfl, rfl⟩
  go_wp2_with fail
  refine hK.out _ _ (by exact ⟨⟨HS.1.cell 0, HS.1.cell 1⟩, HS⟩) (fun hHeld => ?_)
  clear hK K
  try simp only [Act.put, List.setIfInBounds_toArray, List.set_cons_zero, List.set_cons_succ]
  refine wpAnyH_take2 (i := 16) (by simp only [List.getElem?_toArray, List.getElem?_cons_succ, List.getElem?_cons_zero]; first | done | exact rfl) ⟨?_, by kernel_rfl, by kernel_rfl, by kernel_rfl, fun _ _ _ h => h, Or.inl ⟨by rfl, ?_⟩, by assumption, ?_⟩
  rotate_left 1
  · (intro w9 hSw; (try dsimp only at hSw); go_simp; try (with_reducible rfl))
  try simp only [Act.put, List.setIfInBounds_toArray, List.set_cons_zero, List.set_cons_succ]
  refine wpAnyH_take2 (i := 17) (by simp only [List.getElem?_toArray, List.getElem?_cons_succ, List.getElem?_cons_zero]; first | done | exact rfl) ⟨?_, by kernel_rfl, by kernel_rfl, by kernel_rfl, fun _ _ _ h => h, Or.inl ⟨by rfl, ?_⟩, by assumption, ?_⟩
  rotate_left 1
  · (intro w9 hSw; (try dsimp only at hSw); go_simp; try (with_reducible rfl))
  try simp only [Act.put, List.setIfInBounds_toArray, List.set_cons_zero, List.set_cons_succ]
  refine wpAnyH_done (by kernel_rfl) ?_ _
  refine NoPanic.normal ?_
  clear hHeld
  by_cases hz : z = 0
  case neg =>
    have hz2 : (z != 0) = true := bne_iff_ne.2 hz
    go_wp2_with fail
    go_at_call 11
    refine (hEnd _ HS.2.2.2).mono ?_
    rintro e w9 ⟨rfl, b9⟩
    go_wp2_with fail
    go_ret
    exact ⟨rfl, b9⟩
  subst hz
  have HD := Lib.hid (HD0.out rfl)
  clear HD0
  go_wp2_with fail
  go_at_call 27
  refine (HD.out _ _ _ HS.2.1).mono ?_
  rintro e w6 ⟨A5, c5, rfl, y5, b6⟩
  have K7 := Blk.new w6 45 #[.slice A5 d.length c5, I64 sw]
  have K1 := (HS.1.after b6).alloc (.cells #[.slice A5 d.length c5, I64 sw] 45)
  have b6 := bal (bgo HS.2.2.2 b6) (.cells #[.slice A5 d.length c5, I64 sw] 45)
  have y5 := y5.alloc' (.cells #[.slice A5 d.length c5, I64 sw] 45)
  have y0 := HY.out.after b6
  have i0 := K1.cell 0
  have i1 := K1.cell 1
  have j0 := K7.cell 0
  have j1 := K7.cell 1
  clear K1 K7 HS HD HY
  have HL := Lib.hid hl
  clear hl
  go_wp2_with fail
  go_at_call 29
  refine (HS2.out _ _ _ y0 (by exact y5)).mono ?_
  rintro e w7 ⟨rfl, b7⟩
  have b7 := bgo b6 b7
  clear i0 i1 j0 j1 y0 y5 b6
  go_wp2_with fail
  go_at_call 11
  refine (hEnd _ b7).mono ?_
  rintro e w9 ⟨rfl, b9⟩
  go_wp2_with fail
  go_ret
  exact ⟨rfl, b9⟩
end Go.Proofs.Ytapfiapjefnjjaa
