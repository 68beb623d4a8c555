/-
  The walk of the reference's Encode.
-/
import Derived.Test.YtapfiapjefnjjaaApdE
namespace Go.Proofs.Ytapfiapjefnjjaa
set_option linter.unusedSimpArgs false
open Go.RowKit


set_option maxRecDepth 100000 in
set_option maxHeartbeats 4000000 in
theorem ref04_Encode (cla ins p1 p2 : Int) (A : Option Addr) (n c : Nat) (le : Int) (long : Bool) (d : List UInt8) (w : World) (h : Byt w w.heap.size A n c d) :
    Calls Try.prog 13 #[cmdV cla ins p1 p2 A n c le long] w (BRes 5 w (Apd.encR cla ins p1 p2 d le long) (Apd.chk cla ins p1 p2 n le long)) := by
  obtain ⟨ti, hti, hz0, hz1, hz2⟩ := info_parts o_u8
  have hl := h.1
  have HC := Lib.hid (ref04_Check cla ins p1 p2 A n c le long)
  have HE := Lib.hid ((Below.refl w.heap.size w).alloc (Nat.le_refl _) (.cells #[I64 cla, I64 ins, I64 p1, I64 p2, .slice A n c, I64 le, .bool long] 24))
  have HK := Lib.hid (Blk.new w 24 #[I64 cla, I64 ins, I64 p1, I64 p2, .slice A n c, I64 le, .bool long])
  unfold cmdV at HC ⊢
  by_cases h0 : Apd.chk cla ins p1 p2 n le long = 0
  case neg =>
    have e : Apd.encR cla ins p1 p2 d le long = [] := by unfold Apd.encR; rw [hl, if_neg h0]
    rw [e]
    clear e
    go_enter Try.func13, Try.ntmps13
    go_wp2_with (go_at_call 15; refine (HC.out _).mono ?_; rintro e w1 ⟨rfl, hb1⟩)
    go_ret2
    exact BRes.nil _ (HE.out.trans (hb1.mono HE.out.size))
  have e : Apd.encR cla ins p1 p2 d le long = Apd.encB cla ins p1 p2 d le long := by unfold Apd.encR; rw [hl, if_pos h0]
  rw [e, h0]
  have hc := HC.out
  rw [h0] at hc
  replace HC := Lib.hid hc
  obtain ⟨⟨r0, r1⟩, ⟨r2, r3⟩, ⟨r4, r5⟩, ⟨r6, r7⟩, r8, r9, r10, r11⟩ := Apd.chk_zero h0
  obtain ⟨q, rfl⟩ := Int.eq_ofNat_of_zero_le r9
  have hq : q ≤ 65536 := by cases long <;> simp only [Apd.maxL_t, Apd.maxL_f] at r10 <;> omega
  have hn : n ≤ 65535 := by cases long <;> simp only [Apd.maxD_t, Apd.maxD_f] at r8 <;> omega
  have hu0 := IntWalk.u8_in cla ⟨by omega, by omega⟩
  have hu1 := IntWalk.u8_in ins ⟨by omega, by omega⟩
  have hu2 := IntWalk.u8_in p1 ⟨by omega, by omega⟩
  have hu3 := IntWalk.u8_in p2 ⟨by omega, by omega⟩
  have hcs : bcells [Apd.b8 cla, Apd.b8 ins, Apd.b8 p1, Apd.b8 p2] = [.int .u8 cla, .int .u8 ins, .int .u8 p1, .int .u8 p2] := by
    show [B8 _, B8 _, B8 _, B8 _] = _
    rw [b8_val _ r0 (by omega), b8_val _ r2 r3, b8_val _ r4 r5, b8_val _ r6 r7]
  have hca := Lib.hid (ref04_Case cla ins p1 p2 A n c q long)
  have ecas : Apd.cas cla ins p1 p2 n q long = 1 + (if 0 < n then 2 else 0) + (if 0 < (q : Int) then 1 else 0) := by unfold Apd.cas; rw [if_pos h0]
  unfold cmdV at hca
  have hrow : ∀ u, Below w.heap.size w u → Row u w.heap.size A (bcells d) := fun u hu => (h.below hu).2.2
  have HROW := Lib.hid hrow
  clear hc h0 e r0 r1 r2 r3 r4 r5 r6 r7 r9 hrow
  go_enter Try.func13, Try.ntmps13
  go_wp2_with fail
  refine (HC.out _).mono ?_
  rintro e w1 ⟨rfl, hb1⟩
  have hbw1 : Below (w.heap.size + 1) (w.alloc (.cells #[I64 cla, I64 ins, I64 p1, I64 p2, .slice A n c, I64 q, .bool long] 24)) w1 := hb1.mono (by simp)
  have hKB : ∀ u, Below (w.heap.size + 1) (w.alloc (.cells #[I64 cla, I64 ins, I64 p1, I64 p2, .slice A n c, I64 q, .bool long] 24)) u → Blk u w.heap.size 24 #[I64 cla, I64 ins, I64 p1, I64 p2, .slice A n c, I64 q, .bool long] := fun u hu => HK.out.below hu (by omega)
  have HKB := Lib.hid hKB
  have B1 := hKB _ hbw1
  have k0 := B1.cell 0
  have k1 := B1.cell 1
  have k2 := B1.cell 2
  have k3 := B1.cell 3
  have hsz1 := hbw1.size
  have k4 : ∀ o : Obj, (w1.alloc o).cell? ⟨w.heap.size, 4, none⟩ = some (.slice A n c) := fun o => by
    have e := (hKB _ (hbw1.alloc (by simpa using hsz1) o)).cell 4
    exact e
  have k5 : ∀ o : Obj, (w1.alloc o).cell? ⟨w.heap.size, 5, none⟩ = some (I64 q) := fun o => by
    have e := (hKB _ (hbw1.alloc (by simpa using hsz1) o)).cell 5
    exact e
  have k6 : ∀ o : Obj, (w1.alloc o).cell? ⟨w.heap.size, 6, none⟩ = some (.bool long) := fun o => by
    have e := (hKB _ (hbw1.alloc (by simpa using hsz1) o)).cell 6
    exact e
  have hO4 : Own (w1.alloc (.cells #[.int .u8 cla, .int .u8 ins, .int .u8 p1, .int .u8 p2] 5)) (w.heap.size + 1) 5 1 (some ⟨w1.heap.size, 0, none⟩) 4 4 (bcells [Apd.b8 cla, Apd.b8 ins, Apd.b8 p1, Apd.b8 p2]) := by
    rw [hcs]
    exact Own.blk (cur := #[.int .u8 cla, .int .u8 ins, .int .u8 p1, .int .u8 p2]) (Blk.new w1 _ _) (by simpa using hsz1) (by omega) (by unfold maxLen; omega) (by simp) (by simp)
  have hbw4 := hbw1.alloc (by simpa using hsz1) (.cells #[.int .u8 cla, .int .u8 ins, .int .u8 p1, .int .u8 p2] 5)
  have hbase : w.heap.size + 1 ≤ (w.alloc (.cells #[I64 cla, I64 ins, I64 p1, I64 p2, .slice A n c, I64 q, .bool long] 24)).heap.size := by simp
  have hW : ∀ u, Below (w.heap.size + 1) (w.alloc (.cells #[I64 cla, I64 ins, I64 p1, I64 p2, .slice A n c, I64 q, .bool long] 24)) u → Below w.heap.size w u := fun u hu => HE.out.trans (hu.mono (by omega))
  have HW := Lib.hid hW
  clear hb1 hKB hW B1 hbw1 HC HK HE hcs
  generalize w.alloc (.cells #[I64 cla, I64 ins, I64 p1, I64 p2, .slice A n c, I64 q, .bool long] 24) = w0 at *
  cases long
  · by_cases hn0 : 0 < n <;> by_cases hq0 : 0 < q
    · have hown := hO4
      have hbw := hbw4
      clear hO4 hbw4
      go_wp2_with fail
      refine wp_region_noPanic ?_
      refine wp_region_held_drew (S := fun u => u.cell? ⟨w.heap.size, 4, none⟩ = some (.slice A n c)) (by kernel_rfl) ((HKB.out _ hbw.drew).cell 4) (fun hHeld => ?_)
      refine wpAnyH_take2 (i := 0) (by simp only [List.getElem?_toArray, List.getElem?_cons_succ, List.getElem?_cons_zero]; first | done | exact rfl) ⟨?_, by kernel_rfl, by kernel_rfl, by kernel_rfl, fun _ _ _ h => h, Or.inl ⟨by rfl, ?_⟩, by assumption, ?_⟩
      rotate_left 1
      · (intro w9 hSw; (try dsimp only at hSw); go_simp; try (with_reducible rfl))
      try simp only [Act.put, List.setIfInBounds_toArray, List.set_cons_zero, List.set_cons_succ]
      refine wpAnyH_take2 (i := 1) (by simp only [List.getElem?_toArray, List.getElem?_cons_succ, List.getElem?_cons_zero]; first | done | exact rfl) ⟨?_, by kernel_rfl, by kernel_rfl, by kernel_rfl, fun _ _ _ h => h, Or.inl ⟨by rfl, ?_⟩, by assumption, ?_⟩
      rotate_left 1
      · (intro w9 hSw; (try dsimp only at hSw); go_simp; try (with_reducible rfl))
      try simp only [Act.put, List.setIfInBounds_toArray, List.set_cons_zero, List.set_cons_succ]
      refine wpAnyH_take2 (i := 2) (by simp only [List.getElem?_toArray, List.getElem?_cons_succ, List.getElem?_cons_zero]; first | done | exact rfl) ⟨?_, by kernel_rfl, by kernel_rfl, by kernel_rfl, fun _ _ _ h => h, Or.inl ⟨by rfl, ?_⟩, by assumption, ?_⟩
      rotate_left 1
      · (intro w9 hSw; (try dsimp only at hSw); go_simp; try (with_reducible rfl))
      try simp only [Act.put, List.setIfInBounds_toArray, List.set_cons_zero, List.set_cons_succ]
      refine wpAnyH_take2 (i := 3) (by simp only [List.getElem?_toArray, List.getElem?_cons_succ, List.getElem?_cons_zero]; first | done | exact rfl) ⟨?_, by kernel_rfl, by kernel_rfl, by kernel_rfl, fun _ _ _ h => h, Or.inl ⟨by rfl, ?_⟩, by assumption, ?_⟩
      rotate_left 1
      · (intro w9 hSw; (try dsimp only at hSw); go_simp; try (with_reducible rfl))
      try simp only [Act.put, List.setIfInBounds_toArray, List.set_cons_zero, List.set_cons_succ]
      refine wpAnyH_take2 (i := 4) (by simp only [List.getElem?_toArray, List.getElem?_cons_succ, List.getElem?_cons_zero]; first | done | exact rfl) ⟨?_, by kernel_rfl, by kernel_rfl, by kernel_rfl, fun _ _ _ h => h, Or.inl ⟨by rfl, ?_⟩, by assumption, ?_⟩
      rotate_left 1
      · (intro w9 hSw; (try dsimp only at hSw); go_simp; try (with_reducible rfl))
      try simp only [Act.put, List.setIfInBounds_toArray, List.set_cons_zero, List.set_cons_succ]
      refine wpAnyH_take2 (i := 7) (by simp only [List.getElem?_toArray, List.getElem?_cons_succ, List.getElem?_cons_zero]; first | done | exact rfl) ⟨?_, by kernel_rfl, by kernel_rfl, by kernel_rfl, fun _ _ _ h => h, Or.inl ⟨by rfl, ?_⟩, by assumption, ?_⟩
      rotate_left 1
      · (intro w9 hSw; (try dsimp only at hSw); go_simp; try (with_reducible rfl))
      try simp only [Act.put, List.setIfInBounds_toArray, List.set_cons_zero, List.set_cons_succ]
      refine wpAnyH_take2 (i := 8) (by simp only [List.getElem?_toArray, List.getElem?_cons_succ, List.getElem?_cons_zero]; first | done | exact rfl) ⟨?_, by kernel_rfl, by kernel_rfl, by kernel_rfl, fun _ _ _ h => h, Or.inl ⟨by rfl, ?_⟩, by assumption, ?_⟩
      rotate_left 1
      · (intro w9 hSw; (try dsimp only at hSw); go_simp; try (with_reducible rfl))
      try simp only [Act.put, List.setIfInBounds_toArray, List.set_cons_zero, List.set_cons_succ]
      refine wpAnyH_ready (rs := [5]) (by kernel_rfl) (by simp) ?_
      refine AllReadyH.cons2 (by simp only [List.getElem?_toArray, List.getElem?_cons_succ, List.getElem?_cons_zero]; first | done | exact rfl) (fun K hK => ?_)
      rw [if_pos (by rfl)]
      go_simp
      refine (ref04_number n 1 _ (by simp) (by omega)).mono ?_
      rintro e w5 ⟨A5, c5, rfl, ho5, hb5⟩
      have hown := (Own.drew hown).below hb5
      have hbw := (Below.drew hbw).trans (hb5.mono (Nat.le_trans hbase hbw.size))
      go_wp2_with fail
      refine hK.out _ _ ((HKB.out _ hbw).cell 4) (fun hHeld => ?_)
      clear hK K
      try simp only [Act.put, List.setIfInBounds_toArray, List.set_cons_zero, List.set_cons_succ]
      refine wpAnyH_ready (rs := [6]) (by kernel_rfl) (by simp) ?_
      refine AllReadyH.cons2 (by simp only [List.getElem?_toArray, List.getElem?_cons_succ, List.getElem?_cons_zero]; first | done | exact rfl) (fun K hK => ?_)
      refine step_app8 rfl (.tmp 34) (.tmp 39) rfl (w.heap.size + 1) _ _ _ _ rfl hown A5 1 c5 (Oct.putB n 1) rfl _ (ho5.row) (Oct.putB_length _ _) (by omega) _ hbw hbase ?_
      intro A2 c2 w7 hown hbw
      refine hK.out _ _ ((HKB.out _ hbw).cell 4) (fun hHeld => ?_)
      clear hK K
      try simp only [Act.put, List.setIfInBounds_toArray, List.set_cons_zero, List.set_cons_succ]
      refine wpAnyH_ready (rs := [9]) (by kernel_rfl) (by simp) ?_
      refine AllReadyH.cons2 (by simp only [List.getElem?_toArray, List.getElem?_cons_succ, List.getElem?_cons_zero]; first | done | exact rfl) (fun K hK => ?_)
      refine step_app8 rfl (.tmp 40) (.tmp 42) rfl (w.heap.size + 1) _ _ _ _ rfl hown A n c (d) rfl _ (HROW.out _ (HW.out _ hbw)) (hl) (by omega) _ hbw hbase ?_
      intro A2 c2 w7 hown hbw
      refine hK.out _ _ ((HKB.out _ hbw).cell 4) (fun hHeld => ?_)
      clear hK K
      try simp only [Act.put, List.setIfInBounds_toArray, List.set_cons_zero, List.set_cons_succ]
      refine wpAnyH_take2 (i := 10) (by simp only [List.getElem?_toArray, List.getElem?_cons_succ, List.getElem?_cons_zero]; first | done | exact rfl) ⟨?_, by kernel_rfl, by kernel_rfl, by kernel_rfl, fun _ _ _ h => h, Or.inl ⟨by rfl, ?_⟩, by assumption, ?_⟩
      rotate_left 1
      · (intro w9 hSw; (try dsimp only at hSw); go_simp; try (with_reducible rfl))
      try simp only [Act.put, List.setIfInBounds_toArray, List.set_cons_zero, List.set_cons_succ]
      refine wpAnyH_done (by kernel_rfl) ?_ _
      refine NoPanic.normal ?_
      have k5 := (HKB.out _ hbw).cell 5
      go_wp2_with fail
      refine (ref04_number q 1 _ (by simp) (by omega)).mono ?_
      rintro e w5 ⟨A5, c5, rfl, ho5, hb5⟩
      have hown := hown.below hb5
      have hbw := hbw.trans (hb5.mono (Nat.le_trans hbase hbw.size))
      have k4 := (HKB.out _ hbw).cell 4
      have k5 := (HKB.out _ hbw).cell 5
      go_wp2_with (at_builtin; refine app8 rfl (.tmp 47) (.tmp 51) rfl (w.heap.size + 1) _ _ _ _ rfl hown A5 1 c5 (Oct.putB q 1) rfl _ (ho5.row) (Oct.putB_length _ _) (by omega) _ hbw hbase ?_; intro A2 c2 w7 hown hbw; have k4 := (HKB.out _ hbw).cell 4; have k5 := (HKB.out _ hbw).cell 5)
      go_ret2
      have hfin : Apd.encB cla ins p1 p2 d (q : Int) false = [Apd.b8 cla, Apd.b8 ins, Apd.b8 p1, Apd.b8 p2] ++ Oct.putB n 1 ++ d ++ Oct.putB q 1 := by
        simp [Apd.encB, Apd.wid, hl, hn0, hq0]
      rw [hfin]
      exact BRes.mk (by simp [Oct.putB_length, hl] <;> omega) (hown.mono (by omega)) (HW.out _ hbw)
    · have hown := hO4
      have hbw := hbw4
      clear hO4 hbw4
      go_wp2_with fail
      refine wp_region_noPanic ?_
      refine wp_region_held_drew (S := fun u => u.cell? ⟨w.heap.size, 4, none⟩ = some (.slice A n c)) (by kernel_rfl) ((HKB.out _ hbw.drew).cell 4) (fun hHeld => ?_)
      refine wpAnyH_take2 (i := 0) (by simp only [List.getElem?_toArray, List.getElem?_cons_succ, List.getElem?_cons_zero]; first | done | exact rfl) ⟨?_, by kernel_rfl, by kernel_rfl, by kernel_rfl, fun _ _ _ h => h, Or.inl ⟨by rfl, ?_⟩, by assumption, ?_⟩
      rotate_left 1
      · (intro w9 hSw; (try dsimp only at hSw); go_simp; try (with_reducible rfl))
      try simp only [Act.put, List.setIfInBounds_toArray, List.set_cons_zero, List.set_cons_succ]
      refine wpAnyH_take2 (i := 1) (by simp only [List.getElem?_toArray, List.getElem?_cons_succ, List.getElem?_cons_zero]; first | done | exact rfl) ⟨?_, by kernel_rfl, by kernel_rfl, by kernel_rfl, fun _ _ _ h => h, Or.inl ⟨by rfl, ?_⟩, by assumption, ?_⟩
      rotate_left 1
      · (intro w9 hSw; (try dsimp only at hSw); go_simp; try (with_reducible rfl))
      try simp only [Act.put, List.setIfInBounds_toArray, List.set_cons_zero, List.set_cons_succ]
      refine wpAnyH_take2 (i := 2) (by simp only [List.getElem?_toArray, List.getElem?_cons_succ, List.getElem?_cons_zero]; first | done | exact rfl) ⟨?_, by kernel_rfl, by kernel_rfl, by kernel_rfl, fun _ _ _ h => h, Or.inl ⟨by rfl, ?_⟩, by assumption, ?_⟩
      rotate_left 1
      · (intro w9 hSw; (try dsimp only at hSw); go_simp; try (with_reducible rfl))
      try simp only [Act.put, List.setIfInBounds_toArray, List.set_cons_zero, List.set_cons_succ]
      refine wpAnyH_take2 (i := 3) (by simp only [List.getElem?_toArray, List.getElem?_cons_succ, List.getElem?_cons_zero]; first | done | exact rfl) ⟨?_, by kernel_rfl, by kernel_rfl, by kernel_rfl, fun _ _ _ h => h, Or.inl ⟨by rfl, ?_⟩, by assumption, ?_⟩
      rotate_left 1
      · (intro w9 hSw; (try dsimp only at hSw); go_simp; try (with_reducible rfl))
      try simp only [Act.put, List.setIfInBounds_toArray, List.set_cons_zero, List.set_cons_succ]
      refine wpAnyH_take2 (i := 4) (by simp only [List.getElem?_toArray, List.getElem?_cons_succ, List.getElem?_cons_zero]; first | done | exact rfl) ⟨?_, by kernel_rfl, by kernel_rfl, by kernel_rfl, fun _ _ _ h => h, Or.inl ⟨by rfl, ?_⟩, by assumption, ?_⟩
      rotate_left 1
      · (intro w9 hSw; (try dsimp only at hSw); go_simp; try (with_reducible rfl))
      try simp only [Act.put, List.setIfInBounds_toArray, List.set_cons_zero, List.set_cons_succ]
      refine wpAnyH_take2 (i := 7) (by simp only [List.getElem?_toArray, List.getElem?_cons_succ, List.getElem?_cons_zero]; first | done | exact rfl) ⟨?_, by kernel_rfl, by kernel_rfl, by kernel_rfl, fun _ _ _ h => h, Or.inl ⟨by rfl, ?_⟩, by assumption, ?_⟩
      rotate_left 1
      · (intro w9 hSw; (try dsimp only at hSw); go_simp; try (with_reducible rfl))
      try simp only [Act.put, List.setIfInBounds_toArray, List.set_cons_zero, List.set_cons_succ]
      refine wpAnyH_take2 (i := 8) (by simp only [List.getElem?_toArray, List.getElem?_cons_succ, List.getElem?_cons_zero]; first | done | exact rfl) ⟨?_, by kernel_rfl, by kernel_rfl, by kernel_rfl, fun _ _ _ h => h, Or.inl ⟨by rfl, ?_⟩, by assumption, ?_⟩
      rotate_left 1
      · (intro w9 hSw; (try dsimp only at hSw); go_simp; try (with_reducible rfl))
      try simp only [Act.put, List.setIfInBounds_toArray, List.set_cons_zero, List.set_cons_succ]
      refine wpAnyH_ready (rs := [5]) (by kernel_rfl) (by simp) ?_
      refine AllReadyH.cons2 (by simp only [List.getElem?_toArray, List.getElem?_cons_succ, List.getElem?_cons_zero]; first | done | exact rfl) (fun K hK => ?_)
      rw [if_pos (by rfl)]
      go_simp
      refine (ref04_number n 1 _ (by simp) (by omega)).mono ?_
      rintro e w5 ⟨A5, c5, rfl, ho5, hb5⟩
      have hown := (Own.drew hown).below hb5
      have hbw := (Below.drew hbw).trans (hb5.mono (Nat.le_trans hbase hbw.size))
      go_wp2_with fail
      refine hK.out _ _ ((HKB.out _ hbw).cell 4) (fun hHeld => ?_)
      clear hK K
      try simp only [Act.put, List.setIfInBounds_toArray, List.set_cons_zero, List.set_cons_succ]
      refine wpAnyH_ready (rs := [6]) (by kernel_rfl) (by simp) ?_
      refine AllReadyH.cons2 (by simp only [List.getElem?_toArray, List.getElem?_cons_succ, List.getElem?_cons_zero]; first | done | exact rfl) (fun K hK => ?_)
      refine step_app8 rfl (.tmp 34) (.tmp 39) rfl (w.heap.size + 1) _ _ _ _ rfl hown A5 1 c5 (Oct.putB n 1) rfl _ (ho5.row) (Oct.putB_length _ _) (by omega) _ hbw hbase ?_
      intro A2 c2 w7 hown hbw
      refine hK.out _ _ ((HKB.out _ hbw).cell 4) (fun hHeld => ?_)
      clear hK K
      try simp only [Act.put, List.setIfInBounds_toArray, List.set_cons_zero, List.set_cons_succ]
      refine wpAnyH_ready (rs := [9]) (by kernel_rfl) (by simp) ?_
      refine AllReadyH.cons2 (by simp only [List.getElem?_toArray, List.getElem?_cons_succ, List.getElem?_cons_zero]; first | done | exact rfl) (fun K hK => ?_)
      refine step_app8 rfl (.tmp 40) (.tmp 42) rfl (w.heap.size + 1) _ _ _ _ rfl hown A n c (d) rfl _ (HROW.out _ (HW.out _ hbw)) (hl) (by omega) _ hbw hbase ?_
      intro A2 c2 w7 hown hbw
      refine hK.out _ _ ((HKB.out _ hbw).cell 4) (fun hHeld => ?_)
      clear hK K
      try simp only [Act.put, List.setIfInBounds_toArray, List.set_cons_zero, List.set_cons_succ]
      refine wpAnyH_take2 (i := 10) (by simp only [List.getElem?_toArray, List.getElem?_cons_succ, List.getElem?_cons_zero]; first | done | exact rfl) ⟨?_, by kernel_rfl, by kernel_rfl, by kernel_rfl, fun _ _ _ h => h, Or.inl ⟨by rfl, ?_⟩, by assumption, ?_⟩
      rotate_left 1
      · (intro w9 hSw; (try dsimp only at hSw); go_simp; try (with_reducible rfl))
      try simp only [Act.put, List.setIfInBounds_toArray, List.set_cons_zero, List.set_cons_succ]
      refine wpAnyH_done (by kernel_rfl) ?_ _
      refine NoPanic.normal ?_
      have k5 := (HKB.out _ hbw).cell 5
      go_wp2_with fail
      go_ret2
      have hfin : Apd.encB cla ins p1 p2 d (q : Int) false = [Apd.b8 cla, Apd.b8 ins, Apd.b8 p1, Apd.b8 p2] ++ Oct.putB n 1 ++ d := by
        simp [Apd.encB, Apd.wid, hl, hn0, hq0]
      rw [hfin]
      exact BRes.mk (by simp [Oct.putB_length, hl] <;> omega) (hown.mono (by omega)) (HW.out _ hbw)
    · have hown := hO4
      have hbw := hbw4
      clear hO4 hbw4
      go_wp2_with fail
      refine (ref04_number q 1 _ (by simp) (by omega)).mono ?_
      rintro e w5 ⟨A5, c5, rfl, ho5, hb5⟩
      have hown := hown.below hb5
      have hbw := hbw.trans (hb5.mono (Nat.le_trans hbase hbw.size))
      have k4 := (HKB.out _ hbw).cell 4
      have k5 := (HKB.out _ hbw).cell 5
      go_wp2_with (at_builtin; refine app8 rfl (.tmp 47) (.tmp 51) rfl (w.heap.size + 1) _ _ _ _ rfl hown A5 1 c5 (Oct.putB q 1) rfl _ (ho5.row) (Oct.putB_length _ _) (by omega) _ hbw hbase ?_; intro A2 c2 w7 hown hbw; have k4 := (HKB.out _ hbw).cell 4; have k5 := (HKB.out _ hbw).cell 5)
      go_ret2
      have hfin : Apd.encB cla ins p1 p2 d (q : Int) false = [Apd.b8 cla, Apd.b8 ins, Apd.b8 p1, Apd.b8 p2] ++ Oct.putB q 1 := by
        simp [Apd.encB, Apd.wid, hl, hn0, hq0]
      rw [hfin]
      exact BRes.mk (by simp [Oct.putB_length, hl] <;> omega) (hown.mono (by omega)) (HW.out _ hbw)
    · have hown := hO4
      have hbw := hbw4
      clear hO4 hbw4
      go_wp2_with fail
      go_ret2
      have hfin : Apd.encB cla ins p1 p2 d (q : Int) false = [Apd.b8 cla, Apd.b8 ins, Apd.b8 p1, Apd.b8 p2] := by
        simp [Apd.encB, Apd.wid, hl, hn0, hq0]
      rw [hfin]
      exact BRes.mk (by simp [Oct.putB_length, hl] <;> omega) (hown.mono (by omega)) (HW.out _ hbw)
  · by_cases hn0 : 0 < n <;> by_cases hq0 : 0 < q
    · have hown := hO4.alloc (.cells #[.int .u8 0] 5)
      have hbw := hbw4.alloc (by simp; omega) (.cells #[.int .u8 0] 5)
      have hR1 : Row ((w1.alloc (.cells #[.int .u8 cla, .int .u8 ins, .int .u8 p1, .int .u8 p2] 5)).alloc (.cells #[.int .u8 0] 5)) (w1.heap.size + 1 + 1) (some ⟨w1.heap.size + 1, 0, none⟩) (bcells [0]) := by
        have e := Row.new (w1.alloc (.cells #[.int .u8 cla, .int .u8 ins, .int .u8 p1, .int .u8 p2] 5)) (t := 5) (cs := #[.int .u8 0]) (l := bcells [0]) rfl
        have es : (w1.alloc (.cells #[.int .u8 cla, .int .u8 ins, .int .u8 p1, .int .u8 p2] 5)).heap.size = w1.heap.size + 1 := by simp
        rw [es] at e
        exact e
      clear hO4 hbw4
      go_wp2_with (at_builtin; refine app8 rfl (.tmp 27) (.tmp 28) rfl (w.heap.size + 1) _ _ _ _ rfl hown (some ⟨w1.heap.size + 1, 0, none⟩) 1 1 ([0]) rfl _ (hR1) (rfl) (by omega) _ hbw hbase ?_; intro A2 c2 w7 hown hbw; have k4 := (HKB.out _ hbw).cell 4; have k5 := (HKB.out _ hbw).cell 5)
      refine wp_region_noPanic ?_
      refine wp_region_held_drew (S := fun u => u.cell? ⟨w.heap.size, 4, none⟩ = some (.slice A n c)) (by kernel_rfl) ((HKB.out _ hbw.drew).cell 4) (fun hHeld => ?_)
      refine wpAnyH_take2 (i := 0) (by simp only [List.getElem?_toArray, List.getElem?_cons_succ, List.getElem?_cons_zero]; first | done | exact rfl) ⟨?_, by kernel_rfl, by kernel_rfl, by kernel_rfl, fun _ _ _ h => h, Or.inl ⟨by rfl, ?_⟩, by assumption, ?_⟩
      rotate_left 1
      · (intro w9 hSw; (try dsimp only at hSw); go_simp; try (with_reducible rfl))
      try simp only [Act.put, List.setIfInBounds_toArray, List.set_cons_zero, List.set_cons_succ]
      refine wpAnyH_take2 (i := 1) (by simp only [List.getElem?_toArray, List.getElem?_cons_succ, List.getElem?_cons_zero]; first | done | exact rfl) ⟨?_, by kernel_rfl, by kernel_rfl, by kernel_rfl, fun _ _ _ h => h, Or.inl ⟨by rfl, ?_⟩, by assumption, ?_⟩
      rotate_left 1
      · (intro w9 hSw; (try dsimp only at hSw); go_simp; try (with_reducible rfl))
      try simp only [Act.put, List.setIfInBounds_toArray, List.set_cons_zero, List.set_cons_succ]
      refine wpAnyH_take2 (i := 2) (by simp only [List.getElem?_toArray, List.getElem?_cons_succ, List.getElem?_cons_zero]; first | done | exact rfl) ⟨?_, by kernel_rfl, by kernel_rfl, by kernel_rfl, fun _ _ _ h => h, Or.inl ⟨by rfl, ?_⟩, by assumption, ?_⟩
      rotate_left 1
      · (intro w9 hSw; (try dsimp only at hSw); go_simp; try (with_reducible rfl))
      try simp only [Act.put, List.setIfInBounds_toArray, List.set_cons_zero, List.set_cons_succ]
      refine wpAnyH_take2 (i := 3) (by simp only [List.getElem?_toArray, List.getElem?_cons_succ, List.getElem?_cons_zero]; first | done | exact rfl) ⟨?_, by kernel_rfl, by kernel_rfl, by kernel_rfl, fun _ _ _ h => h, Or.inl ⟨by rfl, ?_⟩, by assumption, ?_⟩
      rotate_left 1
      · (intro w9 hSw; (try dsimp only at hSw); go_simp; try (with_reducible rfl))
      try simp only [Act.put, List.setIfInBounds_toArray, List.set_cons_zero, List.set_cons_succ]
      refine wpAnyH_take2 (i := 4) (by simp only [List.getElem?_toArray, List.getElem?_cons_succ, List.getElem?_cons_zero]; first | done | exact rfl) ⟨?_, by kernel_rfl, by kernel_rfl, by kernel_rfl, fun _ _ _ h => h, Or.inl ⟨by rfl, ?_⟩, by assumption, ?_⟩
      rotate_left 1
      · (intro w9 hSw; (try dsimp only at hSw); go_simp; try (with_reducible rfl))
      try simp only [Act.put, List.setIfInBounds_toArray, List.set_cons_zero, List.set_cons_succ]
      refine wpAnyH_take2 (i := 7) (by simp only [List.getElem?_toArray, List.getElem?_cons_succ, List.getElem?_cons_zero]; first | done | exact rfl) ⟨?_, by kernel_rfl, by kernel_rfl, by kernel_rfl, fun _ _ _ h => h, Or.inl ⟨by rfl, ?_⟩, by assumption, ?_⟩
      rotate_left 1
      · (intro w9 hSw; (try dsimp only at hSw); go_simp; try (with_reducible rfl))
      try simp only [Act.put, List.setIfInBounds_toArray, List.set_cons_zero, List.set_cons_succ]
      refine wpAnyH_take2 (i := 8) (by simp only [List.getElem?_toArray, List.getElem?_cons_succ, List.getElem?_cons_zero]; first | done | exact rfl) ⟨?_, by kernel_rfl, by kernel_rfl, by kernel_rfl, fun _ _ _ h => h, Or.inl ⟨by rfl, ?_⟩, by assumption, ?_⟩
      rotate_left 1
      · (intro w9 hSw; (try dsimp only at hSw); go_simp; try (with_reducible rfl))
      try simp only [Act.put, List.setIfInBounds_toArray, List.set_cons_zero, List.set_cons_succ]
      refine wpAnyH_ready (rs := [5]) (by kernel_rfl) (by simp) ?_
      refine AllReadyH.cons2 (by simp only [List.getElem?_toArray, List.getElem?_cons_succ, List.getElem?_cons_zero]; first | done | exact rfl) (fun K hK => ?_)
      rw [if_pos (by rfl)]
      go_simp
      refine (ref04_number n 2 _ (by simp) (by omega)).mono ?_
      rintro e w5 ⟨A5, c5, rfl, ho5, hb5⟩
      have hown := (Own.drew hown).below hb5
      have hbw := (Below.drew hbw).trans (hb5.mono (Nat.le_trans hbase hbw.size))
      go_wp2_with fail
      refine hK.out _ _ ((HKB.out _ hbw).cell 4) (fun hHeld => ?_)
      clear hK K
      try simp only [Act.put, List.setIfInBounds_toArray, List.set_cons_zero, List.set_cons_succ]
      refine wpAnyH_ready (rs := [6]) (by kernel_rfl) (by simp) ?_
      refine AllReadyH.cons2 (by simp only [List.getElem?_toArray, List.getElem?_cons_succ, List.getElem?_cons_zero]; first | done | exact rfl) (fun K hK => ?_)
      refine step_app8 rfl (.tmp 34) (.tmp 39) rfl (w.heap.size + 1) _ _ _ _ rfl hown A5 2 c5 (Oct.putB n 2) rfl _ (ho5.row) (Oct.putB_length _ _) (by omega) _ hbw hbase ?_
      intro A2 c2 w7 hown hbw
      refine hK.out _ _ ((HKB.out _ hbw).cell 4) (fun hHeld => ?_)
      clear hK K
      try simp only [Act.put, List.setIfInBounds_toArray, List.set_cons_zero, List.set_cons_succ]
      refine wpAnyH_ready (rs := [9]) (by kernel_rfl) (by simp) ?_
      refine AllReadyH.cons2 (by simp only [List.getElem?_toArray, List.getElem?_cons_succ, List.getElem?_cons_zero]; first | done | exact rfl) (fun K hK => ?_)
      refine step_app8 rfl (.tmp 40) (.tmp 42) rfl (w.heap.size + 1) _ _ _ _ rfl hown A n c (d) rfl _ (HROW.out _ (HW.out _ hbw)) (hl) (by omega) _ hbw hbase ?_
      intro A2 c2 w7 hown hbw
      refine hK.out _ _ ((HKB.out _ hbw).cell 4) (fun hHeld => ?_)
      clear hK K
      try simp only [Act.put, List.setIfInBounds_toArray, List.set_cons_zero, List.set_cons_succ]
      refine wpAnyH_take2 (i := 10) (by simp only [List.getElem?_toArray, List.getElem?_cons_succ, List.getElem?_cons_zero]; first | done | exact rfl) ⟨?_, by kernel_rfl, by kernel_rfl, by kernel_rfl, fun _ _ _ h => h, Or.inl ⟨by rfl, ?_⟩, by assumption, ?_⟩
      rotate_left 1
      · (intro w9 hSw; (try dsimp only at hSw); go_simp; try (with_reducible rfl))
      try simp only [Act.put, List.setIfInBounds_toArray, List.set_cons_zero, List.set_cons_succ]
      refine wpAnyH_done (by kernel_rfl) ?_ _
      refine NoPanic.normal ?_
      have k5 := (HKB.out _ hbw).cell 5
      go_wp2_with fail
      refine (ref04_number q 2 _ (by simp) (by omega)).mono ?_
      rintro e w5 ⟨A5, c5, rfl, ho5, hb5⟩
      have hown := hown.below hb5
      have hbw := hbw.trans (hb5.mono (Nat.le_trans hbase hbw.size))
      have k4 := (HKB.out _ hbw).cell 4
      have k5 := (HKB.out _ hbw).cell 5
      go_wp2_with (at_builtin; refine app8 rfl (.tmp 47) (.tmp 51) rfl (w.heap.size + 1) _ _ _ _ rfl hown A5 2 c5 (Oct.putB q 2) rfl _ (ho5.row) (Oct.putB_length _ _) (by omega) _ hbw hbase ?_; intro A2 c2 w7 hown hbw; have k4 := (HKB.out _ hbw).cell 4; have k5 := (HKB.out _ hbw).cell 5)
      go_ret2
      have hfin : Apd.encB cla ins p1 p2 d (q : Int) true = [Apd.b8 cla, Apd.b8 ins, Apd.b8 p1, Apd.b8 p2] ++ [0] ++ Oct.putB n 2 ++ d ++ Oct.putB q 2 := by
        simp [Apd.encB, Apd.wid, hl, hn0, hq0]
      rw [hfin]
      exact BRes.mk (by simp [Oct.putB_length, hl] <;> omega) (hown.mono (by omega)) (HW.out _ hbw)
    · have hown := hO4.alloc (.cells #[.int .u8 0] 5)
      have hbw := hbw4.alloc (by simp; omega) (.cells #[.int .u8 0] 5)
      have hR1 : Row ((w1.alloc (.cells #[.int .u8 cla, .int .u8 ins, .int .u8 p1, .int .u8 p2] 5)).alloc (.cells #[.int .u8 0] 5)) (w1.heap.size + 1 + 1) (some ⟨w1.heap.size + 1, 0, none⟩) (bcells [0]) := by
        have e := Row.new (w1.alloc (.cells #[.int .u8 cla, .int .u8 ins, .int .u8 p1, .int .u8 p2] 5)) (t := 5) (cs := #[.int .u8 0]) (l := bcells [0]) rfl
        have es : (w1.alloc (.cells #[.int .u8 cla, .int .u8 ins, .int .u8 p1, .int .u8 p2] 5)).heap.size = w1.heap.size + 1 := by simp
        rw [es] at e
        exact e
      clear hO4 hbw4
      go_wp2_with (at_builtin; refine app8 rfl (.tmp 27) (.tmp 28) rfl (w.heap.size + 1) _ _ _ _ rfl hown (some ⟨w1.heap.size + 1, 0, none⟩) 1 1 ([0]) rfl _ (hR1) (rfl) (by omega) _ hbw hbase ?_; intro A2 c2 w7 hown hbw; have k4 := (HKB.out _ hbw).cell 4; have k5 := (HKB.out _ hbw).cell 5)
      refine wp_region_noPanic ?_
      refine wp_region_held_drew (S := fun u => u.cell? ⟨w.heap.size, 4, none⟩ = some (.slice A n c)) (by kernel_rfl) ((HKB.out _ hbw.drew).cell 4) (fun hHeld => ?_)
      refine wpAnyH_take2 (i := 0) (by simp only [List.getElem?_toArray, List.getElem?_cons_succ, List.getElem?_cons_zero]; first | done | exact rfl) ⟨?_, by kernel_rfl, by kernel_rfl, by kernel_rfl, fun _ _ _ h => h, Or.inl ⟨by rfl, ?_⟩, by assumption, ?_⟩
      rotate_left 1
      · (intro w9 hSw; (try dsimp only at hSw); go_simp; try (with_reducible rfl))
      try simp only [Act.put, List.setIfInBounds_toArray, List.set_cons_zero, List.set_cons_succ]
      refine wpAnyH_take2 (i := 1) (by simp only [List.getElem?_toArray, List.getElem?_cons_succ, List.getElem?_cons_zero]; first | done | exact rfl) ⟨?_, by kernel_rfl, by kernel_rfl, by kernel_rfl, fun _ _ _ h => h, Or.inl ⟨by rfl, ?_⟩, by assumption, ?_⟩
      rotate_left 1
      · (intro w9 hSw; (try dsimp only at hSw); go_simp; try (with_reducible rfl))
      try simp only [Act.put, List.setIfInBounds_toArray, List.set_cons_zero, List.set_cons_succ]
      refine wpAnyH_take2 (i := 2) (by simp only [List.getElem?_toArray, List.getElem?_cons_succ, List.getElem?_cons_zero]; first | done | exact rfl) ⟨?_, by kernel_rfl, by kernel_rfl, by kernel_rfl, fun _ _ _ h => h, Or.inl ⟨by rfl, ?_⟩, by assumption, ?_⟩
      rotate_left 1
      · (intro w9 hSw; (try dsimp only at hSw); go_simp; try (with_reducible rfl))
      try simp only [Act.put, List.setIfInBounds_toArray, List.set_cons_zero, List.set_cons_succ]
      refine wpAnyH_take2 (i := 3) (by simp only [List.getElem?_toArray, List.getElem?_cons_succ, List.getElem?_cons_zero]; first | done | exact rfl) ⟨?_, by kernel_rfl, by kernel_rfl, by kernel_rfl, fun _ _ _ h => h, Or.inl ⟨by rfl, ?_⟩, by assumption, ?_⟩
      rotate_left 1
      · (intro w9 hSw; (try dsimp only at hSw); go_simp; try (with_reducible rfl))
      try simp only [Act.put, List.setIfInBounds_toArray, List.set_cons_zero, List.set_cons_succ]
      refine wpAnyH_take2 (i := 4) (by simp only [List.getElem?_toArray, List.getElem?_cons_succ, List.getElem?_cons_zero]; first | done | exact rfl) ⟨?_, by kernel_rfl, by kernel_rfl, by kernel_rfl, fun _ _ _ h => h, Or.inl ⟨by rfl, ?_⟩, by assumption, ?_⟩
      rotate_left 1
      · (intro w9 hSw; (try dsimp only at hSw); go_simp; try (with_reducible rfl))
      try simp only [Act.put, List.setIfInBounds_toArray, List.set_cons_zero, List.set_cons_succ]
      refine wpAnyH_take2 (i := 7) (by simp only [List.getElem?_toArray, List.getElem?_cons_succ, List.getElem?_cons_zero]; first | done | exact rfl) ⟨?_, by kernel_rfl, by kernel_rfl, by kernel_rfl, fun _ _ _ h => h, Or.inl ⟨by rfl, ?_⟩, by assumption, ?_⟩
      rotate_left 1
      · (intro w9 hSw; (try dsimp only at hSw); go_simp; try (with_reducible rfl))
      try simp only [Act.put, List.setIfInBounds_toArray, List.set_cons_zero, List.set_cons_succ]
      refine wpAnyH_take2 (i := 8) (by simp only [List.getElem?_toArray, List.getElem?_cons_succ, List.getElem?_cons_zero]; first | done | exact rfl) ⟨?_, by kernel_rfl, by kernel_rfl, by kernel_rfl, fun _ _ _ h => h, Or.inl ⟨by rfl, ?_⟩, by assumption, ?_⟩
      rotate_left 1
      · (intro w9 hSw; (try dsimp only at hSw); go_simp; try (with_reducible rfl))
      try simp only [Act.put, List.setIfInBounds_toArray, List.set_cons_zero, List.set_cons_succ]
      refine wpAnyH_ready (rs := [5]) (by kernel_rfl) (by simp) ?_
      refine AllReadyH.cons2 (by simp only [List.getElem?_toArray, List.getElem?_cons_succ, List.getElem?_cons_zero]; first | done | exact rfl) (fun K hK => ?_)
      rw [if_pos (by rfl)]
      go_simp
      refine (ref04_number n 2 _ (by simp) (by omega)).mono ?_
      rintro e w5 ⟨A5, c5, rfl, ho5, hb5⟩
      have hown := (Own.drew hown).below hb5
      have hbw := (Below.drew hbw).trans (hb5.mono (Nat.le_trans hbase hbw.size))
      go_wp2_with fail
      refine hK.out _ _ ((HKB.out _ hbw).cell 4) (fun hHeld => ?_)
      clear hK K
      try simp only [Act.put, List.setIfInBounds_toArray, List.set_cons_zero, List.set_cons_succ]
      refine wpAnyH_ready (rs := [6]) (by kernel_rfl) (by simp) ?_
      refine AllReadyH.cons2 (by simp only [List.getElem?_toArray, List.getElem?_cons_succ, List.getElem?_cons_zero]; first | done | exact rfl) (fun K hK => ?_)
      refine step_app8 rfl (.tmp 34) (.tmp 39) rfl (w.heap.size + 1) _ _ _ _ rfl hown A5 2 c5 (Oct.putB n 2) rfl _ (ho5.row) (Oct.putB_length _ _) (by omega) _ hbw hbase ?_
      intro A2 c2 w7 hown hbw
      refine hK.out _ _ ((HKB.out _ hbw).cell 4) (fun hHeld => ?_)
      clear hK K
      try simp only [Act.put, List.setIfInBounds_toArray, List.set_cons_zero, List.set_cons_succ]
      refine wpAnyH_ready (rs := [9]) (by kernel_rfl) (by simp) ?_
      refine AllReadyH.cons2 (by simp only [List.getElem?_toArray, List.getElem?_cons_succ, List.getElem?_cons_zero]; first | done | exact rfl) (fun K hK => ?_)
      refine step_app8 rfl (.tmp 40) (.tmp 42) rfl (w.heap.size + 1) _ _ _ _ rfl hown A n c (d) rfl _ (HROW.out _ (HW.out _ hbw)) (hl) (by omega) _ hbw hbase ?_
      intro A2 c2 w7 hown hbw
      refine hK.out _ _ ((HKB.out _ hbw).cell 4) (fun hHeld => ?_)
      clear hK K
      try simp only [Act.put, List.setIfInBounds_toArray, List.set_cons_zero, List.set_cons_succ]
      refine wpAnyH_take2 (i := 10) (by simp only [List.getElem?_toArray, List.getElem?_cons_succ, List.getElem?_cons_zero]; first | done | exact rfl) ⟨?_, by kernel_rfl, by kernel_rfl, by kernel_rfl, fun _ _ _ h => h, Or.inl ⟨by rfl, ?_⟩, by assumption, ?_⟩
      rotate_left 1
      · (intro w9 hSw; (try dsimp only at hSw); go_simp; try (with_reducible rfl))
      try simp only [Act.put, List.setIfInBounds_toArray, List.set_cons_zero, List.set_cons_succ]
      refine wpAnyH_done (by kernel_rfl) ?_ _
      refine NoPanic.normal ?_
      have k5 := (HKB.out _ hbw).cell 5
      go_wp2_with fail
      go_ret2
      have hfin : Apd.encB cla ins p1 p2 d (q : Int) true = [Apd.b8 cla, Apd.b8 ins, Apd.b8 p1, Apd.b8 p2] ++ [0] ++ Oct.putB n 2 ++ d := by
        simp [Apd.encB, Apd.wid, hl, hn0, hq0]
      rw [hfin]
      exact BRes.mk (by simp [Oct.putB_length, hl] <;> omega) (hown.mono (by omega)) (HW.out _ hbw)
    · have hown := hO4.alloc (.cells #[.int .u8 0] 5)
      have hbw := hbw4.alloc (by simp; omega) (.cells #[.int .u8 0] 5)
      have hR1 : Row ((w1.alloc (.cells #[.int .u8 cla, .int .u8 ins, .int .u8 p1, .int .u8 p2] 5)).alloc (.cells #[.int .u8 0] 5)) (w1.heap.size + 1 + 1) (some ⟨w1.heap.size + 1, 0, none⟩) (bcells [0]) := by
        have e := Row.new (w1.alloc (.cells #[.int .u8 cla, .int .u8 ins, .int .u8 p1, .int .u8 p2] 5)) (t := 5) (cs := #[.int .u8 0]) (l := bcells [0]) rfl
        have es : (w1.alloc (.cells #[.int .u8 cla, .int .u8 ins, .int .u8 p1, .int .u8 p2] 5)).heap.size = w1.heap.size + 1 := by simp
        rw [es] at e
        exact e
      clear hO4 hbw4
      go_wp2_with (at_builtin; refine app8 rfl (.tmp 27) (.tmp 28) rfl (w.heap.size + 1) _ _ _ _ rfl hown (some ⟨w1.heap.size + 1, 0, none⟩) 1 1 ([0]) rfl _ (hR1) (rfl) (by omega) _ hbw hbase ?_; intro A2 c2 w7 hown hbw; have k4 := (HKB.out _ hbw).cell 4; have k5 := (HKB.out _ hbw).cell 5)
      refine (ref04_number q 2 _ (by simp) (by omega)).mono ?_
      rintro e w5 ⟨A5, c5, rfl, ho5, hb5⟩
      have hown := hown.below hb5
      have hbw := hbw.trans (hb5.mono (Nat.le_trans hbase hbw.size))
      have k4 := (HKB.out _ hbw).cell 4
      have k5 := (HKB.out _ hbw).cell 5
      go_wp2_with (at_builtin; refine app8 rfl (.tmp 47) (.tmp 51) rfl (w.heap.size + 1) _ _ _ _ rfl hown A5 2 c5 (Oct.putB q 2) rfl _ (ho5.row) (Oct.putB_length _ _) (by omega) _ hbw hbase ?_; intro A2 c2 w7 hown hbw; have k4 := (HKB.out _ hbw).cell 4; have k5 := (HKB.out _ hbw).cell 5)
      go_ret2
      have hfin : Apd.encB cla ins p1 p2 d (q : Int) true = [Apd.b8 cla, Apd.b8 ins, Apd.b8 p1, Apd.b8 p2] ++ [0] ++ Oct.putB q 2 := by
        simp [Apd.encB, Apd.wid, hl, hn0, hq0]
      rw [hfin]
      exact BRes.mk (by simp [Oct.putB_length, hl] <;> omega) (hown.mono (by omega)) (HW.out _ hbw)
    · exact absurd ⟨rfl, by omega, by omega⟩ r11
end Go.Proofs.Ytapfiapjefnjjaa
