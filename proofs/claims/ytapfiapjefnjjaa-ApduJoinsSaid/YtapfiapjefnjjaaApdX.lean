/-
  The walks of EncodeResponse, both sides.
-/
import Derived.Test.YtapfiapjefnjjaaApdU
import Derived.Test.YtapfiapjefnjjaaOctD
namespace Go.Proofs.Ytapfiapjefnjjaa
set_option linter.unusedSimpArgs false
open Go.RowKit

def Apd.erE (n : Nat) (sw : Int) : Int := if 65536 < n then 3 else if Apd.wrd sw = true then 0 else 2
def Apd.erB (d : List UInt8) (sw : Int) : List UInt8 := if Apd.erE d.length sw = 0 then d ++ Oct.putB sw.toNat 2 else []
theorem wrd_nat {sw : Int} (h : Apd.wrd sw = true) : ∃ s : Nat, sw = (s : Int) ∧ s < 40960 := by
  have := of_decide_eq_true h
  exact ⟨sw.toNat, by omega, by omega⟩
theorem put_two (s : Nat) : Oct.putB s 2 = [UInt8.ofNat (s / 256), UInt8.ofNat s] := by
  simp [Oct.putB, List.range_succ]
theorem put_cells (s : Nat) (hs : s < 65536) : bcells (Oct.putB s 2) = [.int .u8 ((s : Int) / 256), .int .u8 ((s : Int) % 256)] := by
  rw [put_two]
  show [B8 _, B8 _] = _
  rw [B8, B8, UInt8.toNat_ofNat', UInt8.toNat_ofNat', show s / 256 % 2 ^ 8 = s / 256 by omega]
  rfl
theorem own_not_at {w : World} {b g : Nat} {t t' : TypeId} {A : Option Addr} {n c s : Nat} {cs : List Value} {old : Array Value} (h : Own w b t s A n c cs) (hB : Blk w g t' old) (hne : t ≠ t') : ownAt A c ≠ some g := by
  intro e
  unfold ownAt at e
  split at e
  · cases e
  · obtain ⟨g2, cur, e2, _, hh, _⟩ := h.2.2.2 (by omega)
    subst e2
    simp only [Option.map_some, Option.some.injEq] at e
    subst e
    unfold Blk at hB
    rw [hh] at hB
    injection hB with hB
    injection hB with _ h2 _
    exact hne h2
theorem join_args {w : World} {A : Option Addr} {n c : Nat} {d bs : List UInt8} {C X : Array Value} {t1 t2 t3 : TypeId} (h : Byt w w.heap.size A n c d) (hX : X = (bcells bs).toArray) (hb : bs.length = 2) :
    Byts (((w.alloc (.cells C t1)).alloc (.cells X t2)).alloc (.cells #[.slice A n c, .slice (some ⟨w.heap.size + 1, 0, none⟩) 2 2] t3)) (((w.alloc (.cells C t1)).alloc (.cells X t2)).alloc (.cells #[.slice A n c, .slice (some ⟨w.heap.size + 1, 0, none⟩) 2 2] t3)).heap.size (some ⟨w.heap.size + 1 + 1, 0, none⟩) [⟨A, n, c, d⟩, ⟨some ⟨w.heap.size + 1, 0, none⟩, 2, 2, bs⟩] := by
  have b2 : Blk ((w.alloc (.cells C t1)).alloc (.cells X t2)) (w.heap.size + 1) t2 X := Blk.new' (g := w.heap.size + 1) (w.alloc (.cells C t1)) (by simp) rfl
  have b3 : Blk (((w.alloc (.cells C t1)).alloc (.cells X t2)).alloc (.cells #[.slice A n c, .slice (some ⟨w.heap.size + 1, 0, none⟩) 2 2] t3)) (w.heap.size + 1 + 1) t3 #[.slice A n c, .slice (some ⟨w.heap.size + 1, 0, none⟩) 2 2] := Blk.new' (g := w.heap.size + 1 + 1) ((w.alloc (.cells C t1)).alloc (.cells X t2)) (by simp) rfl
  refine ⟨b3.row, fun v hv => ?_⟩
  rcases List.mem_cons.1 hv with rfl | hv
  · exact ((h.alloc' _).alloc' _).alloc' _
  · obtain rfl := List.mem_singleton.1 hv
    exact byt_new (b2.alloc _) hX hb

set_option maxRecDepth 100000 in
set_option maxHeartbeats 8000000 in
theorem apdu_EncodeResponse (A : Option Addr) (n c : Nat) (d : List UInt8) (sw : Int) (w : World) (h : Byt w w.heap.size A n c d) (hn : n ≤ 1000000) :
    Calls Try.prog 30 #[rspV A n c sw] w (BRes 5 w (Apd.erB d sw) (Apd.erE n sw)) := by
  have hl := h.1
  have HB := Lib.hid (bal (Below.refl w.heap.size w) (.cells #[.slice A n c, I64 sw] 45))
  have HK := Lib.hid (Blk.new w 45 #[.slice A n c, I64 sw])
  have hsh : sw >>> 8 = sw / 256 := by rw [Int.shiftRight_eq_div_pow]; rfl
  unfold rspV
  by_cases hbig : 65536 < n
  · have e1 : Apd.erE n sw = 3 := by unfold Apd.erE; rw [if_pos hbig]
    have e2 : Apd.erB d sw = [] := by unfold Apd.erB; rw [hl, e1, if_neg (by decide)]
    have i1 : (65536 : Int) < (n : Int) := by omega
    rw [e1, e2]
    clear e1 e2 h hl
    go_enter Try.func30, Try.ntmps30
    go_wp2_with fail
    go_ret2
    exact BRes.nil _ HB.out
  have i1 : ¬ (65536 : Int) < (n : Int) := by omega
  cases hw : Apd.wrd sw with
  | false =>
    have e1 : Apd.erE n sw = 2 := by unfold Apd.erE; rw [if_neg hbig, hw, if_neg (by decide)]
    have e2 : Apd.erB d sw = [] := by unfold Apd.erB; rw [hl, e1, if_neg (by decide)]
    rw [e1, e2]
    have HS := Lib.hid (fun u => apdu_status sw u)
    rw [hw] at HS
    clear e1 e2 h hl hw
    go_enter Try.func30, Try.ntmps30
    go_wp2_with (go_at_call 49; refine (HS.out _).mono ?_; rintro e w1 ⟨rfl, rfl⟩)
    go_ret2
    exact BRes.nil _ HB.out
  | true =>
    have e1 : Apd.erE n sw = 0 := by unfold Apd.erE; rw [if_neg hbig, hw, if_pos rfl]
    have e2 : Apd.erB d sw = d ++ Oct.putB sw.toNat 2 := by unfold Apd.erB; rw [hl, e1, if_pos rfl]
    rw [e1, e2]
    have HS := Lib.hid (fun u => apdu_status sw u)
    rw [hw] at HS
    obtain ⟨s, rfl, hs⟩ := wrd_nat hw
    have u1 : IntKind.u8.wrap ((s : Int) / 256) = (s : Int) / 256 := IntWalk.u8_in _ (by omega)
    have u2 : IntKind.u8.wrap (s : Int) = (s : Int) % 256 := by rw [IntKind.wrap_u8]
    rw [Int.toNat_natCast]
    have HP := Lib.hid (put_cells s (by omega))
    have HY := Lib.hid h
    clear e1 e2 h hw
    go_enter Try.func30, Try.ntmps30
    go_wp2_with (go_at_call 49; refine (HS.out _).mono ?_; rintro e w1 ⟨rfl, rfl⟩)
    go_at_call 52
    have hj : joined [⟨A, n, c, d⟩, ⟨some ⟨w.heap.size + 1, 0, none⟩, 2, 2, Oct.putB s 2⟩] = d ++ Oct.putB s 2 := by simp [joined]
    have hJ := octets_Join (some ⟨w.heap.size + 1 + 1, 0, none⟩) 2 2 _ _ (join_args (C := #[.slice A n c, I64 (s : Int)]) (t1 := 45) (t2 := 5) (t3 := 22) HY.out (X := #[.int .u8 ((s : Int) / 256), .int .u8 ((s : Int) % 256)]) (bs := Oct.putB s 2) (by rw [HP.out]) (Oct.putB_length _ _)) rfl (by omega) (by rw [hj, List.length_append, Oct.putB_length]; omega)
    rw [hj] at hJ
    refine hJ.mono ?_
    clear hJ
    rintro e w4 ⟨A4, c4, rfl, o4, b4⟩
    have hW := bgo (bal (bal HB.out (.cells #[.int .u8 ((s : Int) / 256), .int .u8 ((s : Int) % 256)] 5)) (.cells #[.slice A n c, .slice (some ⟨w.heap.size + 1, 0, none⟩) 2 2] 22)) b4
    have ho := o4.mono (base' := w.heap.size) (bal (bal HB.out (.cells #[.int .u8 ((s : Int) / 256), .int .u8 ((s : Int) % 256)] 5)) (.cells #[.slice A n c, .slice (some ⟨w.heap.size + 1, 0, none⟩) 2 2] 22)).size
    clear o4 b4
    go_wp2_with fail
    go_ret2
    refine ⟨A4, c4, ?_, ho, hW⟩
    rw [List.length_append, hl]
    rfl

set_option maxRecDepth 100000 in
set_option maxHeartbeats 8000000 in
theorem ref04_EncodeResponse (A : Option Addr) (n c : Nat) (d : List UInt8) (sw : Int) (w : World) (h : Byt w w.heap.size A n c d) (hn : n ≤ 1000000) :
    Calls Try.prog 31 #[rspV A n c sw] w (BRes 5 w (Apd.erB d sw) (Apd.erE n sw)) := by
  obtain ⟨ti, hti, hz0, hz1, hz2⟩ := info_parts o_u8
  have hl := h.1
  have HB := Lib.hid (bal (Below.refl w.heap.size w) (.cells #[.slice A n c, I64 sw] 45))
  have HK := Lib.hid (Blk.new w 45 #[.slice A n c, I64 sw])
  unfold rspV
  by_cases hbig : 65536 < n
  · have e1 : Apd.erE n sw = 3 := by unfold Apd.erE; rw [if_pos hbig]
    have e2 : Apd.erB d sw = [] := by unfold Apd.erB; rw [hl, e1, if_neg (by decide)]
    have i1 : (65536 : Int) < (n : Int) := by omega
    rw [e1, e2]
    clear e1 e2 h hl
    go_enter Try.func31, Try.ntmps31
    go_wp2_with fail
    go_ret2
    exact BRes.nil _ HB.out
  have i1 : ¬ (65536 : Int) < (n : Int) := by omega
  cases hw : Apd.wrd sw with
  | false =>
    have e1 : Apd.erE n sw = 2 := by unfold Apd.erE; rw [if_neg hbig, hw, if_neg (by decide)]
    have e2 : Apd.erB d sw = [] := by unfold Apd.erB; rw [hl, e1, if_neg (by decide)]
    rw [e1, e2]
    have HS := Lib.hid (fun u => ref04_Word sw u)
    rw [hw] at HS
    clear e1 e2 h hl hw
    go_enter Try.func31, Try.ntmps31
    go_wp2_with (go_at_call 51; refine (HS.out _).mono ?_; rintro e w1 ⟨rfl, rfl⟩)
    go_ret2
    exact BRes.nil _ HB.out
  | true =>
    have e1 : Apd.erE n sw = 0 := by unfold Apd.erE; rw [if_neg hbig, hw, if_pos rfl]
    have e2 : Apd.erB d sw = d ++ Oct.putB sw.toNat 2 := by unfold Apd.erB; rw [hl, e1, if_pos rfl]
    rw [e1, e2]
    have HS := Lib.hid (fun u => ref04_Word sw u)
    rw [hw] at HS
    obtain ⟨s, rfl, hs⟩ := wrd_nat hw
    rw [Int.toNat_natCast]
    have HN := Lib.hid (fun u => ref04_number s 2 u (.inr rfl) (by omega))
    have HY := Lib.hid h
    clear e1 e2 h hw
    go_enter Try.func31, Try.ntmps31
    go_upto_region 5 with (go_at_call 51; refine (HS.out _).mono ?_; rintro e w1 ⟨rfl, rfl⟩)
    refine wp_region_noPanic ?_
    refine wp_region_held_drew (S := fun u => u.cell? ⟨w.heap.size, 0, none⟩ = some (.slice A n c) ∧ u.cell? ⟨w.heap.size, 1, none⟩ = some (I64 (s : Int))) (by kernel_rfl) (by exact ⟨HK.out.cell 0, HK.out.cell 1⟩) (fun hHeld => ?_)
    refine wpAnyH_take2 (i := 1) (by simp only [List.getElem?_toArray, List.getElem?_cons_succ, List.getElem?_cons_zero]; first | done | exact rfl) ⟨?_, by kernel_rfl, by kernel_rfl, by kernel_rfl, fun _ _ _ h => h, Or.inl ⟨by rfl, ?_⟩, by assumption, ?_⟩
    rotate_left 1
    · (intro w9 hSw; (try dsimp only at hSw); go_simp; try (with_reducible rfl))
    try simp only [Act.put, List.setIfInBounds_toArray, List.set_cons_zero, List.set_cons_succ]
    refine wpAnyH_take2 (i := 2) (by simp only [List.getElem?_toArray, List.getElem?_cons_succ, List.getElem?_cons_zero]; first | done | exact rfl) ⟨?_, by kernel_rfl, by kernel_rfl, by kernel_rfl, fun _ _ _ h => h, Or.inl ⟨by rfl, ?_⟩, by assumption, ?_⟩
    rotate_left 1
    · (intro w9 hSw; (try dsimp only at hSw); go_simp; try (with_reducible rfl))
    try simp only [Act.put, List.setIfInBounds_toArray, List.set_cons_zero, List.set_cons_succ]
    refine wpAnyH_take2 (i := 4) (by simp only [List.getElem?_toArray, List.getElem?_cons_succ, List.getElem?_cons_zero]; first | done | exact rfl) ⟨?_, by kernel_rfl, by kernel_rfl, by kernel_rfl, fun _ _ _ h => h, Or.inl ⟨by rfl, ?_⟩, by assumption, ?_⟩
    rotate_left 1
    · (intro w9 hSw; (try dsimp only at hSw); go_simp; try (with_reducible rfl))
    try simp only [Act.put, List.setIfInBounds_toArray, List.set_cons_zero, List.set_cons_succ]
    refine wpAnyH_take2 (i := 5) (by simp only [List.getElem?_toArray, List.getElem?_cons_succ, List.getElem?_cons_zero]; first | done | exact rfl) ⟨?_, by kernel_rfl, by kernel_rfl, by kernel_rfl, fun _ _ _ h => h, Or.inl ⟨by rfl, ?_⟩, by assumption, ?_⟩
    rotate_left 1
    · (intro w9 hSw; (try dsimp only at hSw); go_simp; try (with_reducible rfl))
    try simp only [Act.put, List.setIfInBounds_toArray, List.set_cons_zero, List.set_cons_succ]
    refine wpAnyH_ready (rs := [0]) (by kernel_rfl) (by simp) ?_
    refine AllReadyH.cons2 (by simp only [List.getElem?_toArray, List.getElem?_cons_succ, List.getElem?_cons_zero]; first | done | exact rfl) (fun K hK => ?_)
    rw [if_pos (by rfl)]
    go_simp
    have B1 := Lib.hid ((HK.out.drew).alloc (.cells #[] 5))
    have W1 := Lib.hid (bal HB.out.drew (.cells #[] 5))
    refine hK.out _ _ (by exact ⟨B1.out.cell 0, B1.out.cell 1⟩) (fun hHeld => ?_)
    clear hK K
    try simp only [Act.put, List.setIfInBounds_toArray, List.set_cons_zero, List.set_cons_succ]
    refine wpAnyH_ready (rs := [3]) (by kernel_rfl) (by simp) ?_
    refine AllReadyH.cons2 (by simp only [List.getElem?_toArray, List.getElem?_cons_succ, List.getElem?_cons_zero]; first | done | exact rfl) (fun K hK => ?_)
    refine step_append _ rfl (.tmp 12) (.tmp 14) 22 rfl w.heap.size 5 ti _ 1 1 Try.underlying22 hti hz0 hz1 hz2 rfl (by omega) _ 0 0 [] rfl (Own.none_ _ _ _ _ _) w.heap.size A n c (bcells d) rfl (by exact (HY.out.below W1.out).2.2) (by rw [length_bcells]; omega) (bcells_one _) (by unfold maxLen; omega) (by omega) (by exact W1.out.size) ?_
    intro A5 c5 w5 hown5 hg5 hat5
    rw [Nat.zero_add, List.nil_append] at hown5
    rw [Nat.zero_add]
    have hb5 := (Own.none_ _ _ 5 1 _).grown hg5 (Below.refl _ _) (Nat.le_refl _)
    have B5 := Lib.hid (B1.out.after hb5)
    have W5 := Lib.hid (bgo W1.out hb5)
    have O5 := Lib.hid hown5
    clear hown5 hg5 hat5 hb5
    refine hK.out _ _ (by exact ⟨B5.out.cell 0, B5.out.cell 1⟩) (fun hHeld => ?_)
    clear hK K
    try simp only [Act.put, List.setIfInBounds_toArray, List.set_cons_zero, List.set_cons_succ]
    refine wpAnyH_ready (rs := [6]) (by kernel_rfl) (by simp) ?_
    refine AllReadyH.cons2 (by simp only [List.getElem?_toArray, List.getElem?_cons_succ, List.getElem?_cons_zero]; first | done | exact rfl) (fun K hK => ?_)
    rw [if_pos (by rfl)]
    go_simp
    go_at_call 41
    refine (HN.out _).mono ?_
    rintro e w6 ⟨A6, c6, rfl, o6, hb6⟩
    have B6 := Lib.hid (B5.out.after hb6)
    have W6 := Lib.hid (bgo W5.out hb6)
    have O6 := Lib.hid (O5.out.below hb6)
    have R6 := Lib.hid o6.row
    clear hb6 o6
    go_wp2_with fail
    refine hK.out _ _ (by exact ⟨B6.out.cell 0, B6.out.cell 1⟩) (fun hHeld => ?_)
    clear hK K
    try simp only [Act.put, List.setIfInBounds_toArray, List.set_cons_zero, List.set_cons_succ]
    refine wpAnyH_ready (rs := [7]) (by kernel_rfl) (by simp) ?_
    refine AllReadyH.cons2 (by simp only [List.getElem?_toArray, List.getElem?_cons_succ, List.getElem?_cons_zero]; first | done | exact rfl) (fun K hK => ?_)
    refine step_append _ rfl (.tmp 15) (.tmp 18) 22 rfl w.heap.size 5 ti _ 1 1 Try.underlying22 hti hz0 hz1 hz2 rfl (by omega) A5 n c5 (bcells d) rfl O6.out w6.heap.size A6 2 c6 (bcells (Oct.putB s 2)) rfl R6.out (by rw [length_bcells, Oct.putB_length]) (bcells_one _) (by unfold maxLen; omega) (by omega) (by exact W6.out.size) ?_
    intro A7 c7 w7 hown7 hg7 hat7
    have W7 := Lib.hid (O6.out.grown hg7 W6.out W6.out.size)
    have O7 := Lib.hid hown7
    have hb7 : w7.cell? ⟨w.heap.size, 0, none⟩ = some (.slice A n c) ∧ w7.cell? ⟨w.heap.size, 1, none⟩ = some (I64 (s : Int)) := by
      have hne : ownAt A5 c5 ≠ some w.heap.size := fun e => own_not_at O6.out B6.out (by decide) e
      have hB7 : Blk w7 w.heap.size 45 #[.slice A n c, I64 (s : Int)] := (hg7.block _ B6.out.lt hne.symm).trans B6.out
      exact ⟨hB7.cell 0, hB7.cell 1⟩
    clear hown7 hg7 hat7
    refine hK.out _ _ (by exact hb7) (fun hHeld => ?_)
    clear hK K
    try simp only [Act.put, List.setIfInBounds_toArray, List.set_cons_zero, List.set_cons_succ]
    refine wpAnyH_take2 (i := 8) (by simp only [List.getElem?_toArray, List.getElem?_cons_succ, List.getElem?_cons_zero]; first | done | exact rfl) ⟨?_, by kernel_rfl, by kernel_rfl, by kernel_rfl, fun _ _ _ h => h, Or.inl ⟨by rfl, ?_⟩, by assumption, ?_⟩
    rotate_left 1
    · (intro w9 hSw; (try dsimp only at hSw); go_simp; try (with_reducible rfl))
    try simp only [Act.put, List.setIfInBounds_toArray, List.set_cons_zero, List.set_cons_succ]
    refine wpAnyH_take2 (i := 9) (by simp only [List.getElem?_toArray, List.getElem?_cons_succ, List.getElem?_cons_zero]; first | done | exact rfl) ⟨?_, by kernel_rfl, by kernel_rfl, by kernel_rfl, fun _ _ _ h => h, Or.inl ⟨by rfl, ?_⟩, by assumption, ?_⟩
    rotate_left 1
    · (intro w9 hSw; (try dsimp only at hSw); go_simp; try (with_reducible rfl))
    try simp only [Act.put, List.setIfInBounds_toArray, List.set_cons_zero, List.set_cons_succ]
    refine wpAnyH_done (by kernel_rfl) ?_ _
    refine NoPanic.normal ?_
    go_wp2_with fail
    go_ret2
    have hlen : (d ++ Oct.putB s 2).length = n + 2 := by rw [List.length_append, hl, Oct.putB_length]
    refine ⟨A7, c7, by rw [hlen]; rfl, ?_, W7.out⟩
    rw [hlen, bcells_append]
    exact O7.out
end Go.Proofs.Ytapfiapjefnjjaa
