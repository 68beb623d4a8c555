/-
  The statement CellModel, walked.
-/
import Derived.Test.YtdpfehdpglbidaaCelQ
import Derived.Test.YtdpfehdpglbidaaCelC
namespace Go.Proofs.Ytdpfehdpglbidaa
open Go.RowKit

theorem Cel.Fine.flip {K : Int} {m : Cel.Mem} (h : Cel.Fine K m) (a b : Int) : Cel.Fine K (m.flip a b).1 := by
  unfold Cel.Mem.flip; split
  · exact ⟨h.writes, h.cuts, h.left, h.wear⟩
  · exact h
theorem Cel.Fine.cutn {K : Int} {m : Cel.Mem} (h : Cel.Fine K m) (n : Int) (hn : n ≤ 9223372036854775807) : Cel.Fine K (m.cut n).1 := by
  unfold Cel.Mem.cut; split
  · exact h
  · split
    · exact h
    · exact ⟨h.writes, h.cuts, ⟨by simp only; omega, by simp only; omega⟩, h.wear⟩
theorem Cel.Fine.apply {K : Int} {m : Cel.Mem} (h : Cel.Fine K m) (hK : 0 ≤ K) (x : Cel.Op) (hx : x.n ≤ 9223372036854775807) : Cel.Fine (K + 1) (m.apply x) := by
  unfold Cel.Mem.apply
  split
  · exact h.write hK _ _
  split
  · exact (h.cutn _ hx).mono (by omega)
  split
  · exact h.restore.mono (by omega)
  split
  · exact (h.flip _ _).mono (by omega)
  · exact h.mono (by omega)

set_option maxRecDepth 100000 in
set_option maxHeartbeats 4000000 in
theorem law_CellModel (n en : Int) (A : Option Addr) (nn c : Nat) (l : List Cel.Op) (w : World) (hs : Cel.Ops w w.heap.size A nn c l) :
    Calls Try.prog 5 #[.agg #[.int .i64 n, .int .i64 en], .slice A nn c] w fun e w' => e = .returned (.bool true) ∧ Below w.heap.size w w' := by
  have hcase : (64 < n ∧ n ≤ 65536) ∨ (n ≤ 64 ∧ 60 < nn) ∨ (64 < n ∧ 65536 < n ∧ 60 < nn) ∨ ((n ≤ 64 ∧ nn ≤ 60) ∨ (64 < n ∧ 65536 < n ∧ nn ≤ 60)) := by omega
  rcases hcase with ⟨h0, h1⟩ | ⟨h0, h1⟩ | ⟨h0, h1, h2⟩ | hmain
  · go_enter Try.func5, Try.ntmps5
    go_wp2_with fail
    go_ret
    exact ⟨rfl, (Below.refl _ _).alloc (Nat.le_refl _) _⟩
  · go_enter Try.func5, Try.ntmps5
    go_wp2_with fail
    go_ret
    exact ⟨rfl, (Below.refl _ _).alloc (Nat.le_refl _) _⟩
  · go_enter Try.func5, Try.ntmps5
    go_wp2_with fail
    go_ret
    exact ⟨rfl, (Below.refl _ _).alloc (Nat.le_refl _) _⟩
  have hnn : nn ≤ 60 := by omega
  have hO := Lib.hid (fun u => law09_open n en u)
  rcases hmain with ⟨h0, h1⟩ | ⟨h0, h1, h2⟩
  · go_enter Try.func5, Try.ntmps5
    go_wp2_with fail
    have hb0 := (Below.refl w.heap.size w).alloc (Nat.le_refl _) (.cells #[.int .i64 n, .int .i64 en] 28)
    refine (hO.out _).mono ?_
    rintro e w1 ⟨hr, hb1⟩
    have hB1 := hb0.trans (hb1.mono hb0.size)
    rcases hr with ⟨_, rfl⟩ | ⟨k, g, gw, gv, s, rfl, hk1, hk2, rfl, hm, g1, g2, g3, hst⟩
    · unfold zSt
      clear hO hb0 hb1
      go_wp2_with (go_at_call 12; refine (law09_awake _).mono ?_; rintro e w2 ⟨rfl, hb2⟩)
      go_ret
      exact ⟨rfl, (hB1.alloc (by exact hB1.size) _).trans (hb2.mono (by simp; have := hB1.size; omega))⟩
    have hS2 := Lib.hid (hst.sub (R' := fun b => b = g ∨ b = gw ∨ b = gv ∨ b = w1.heap.size) hm.pos (fun b hb h => by omega))
    obtain ⟨A1, c1, A2, c2, z, rfl, _, _, _, _, _⟩ := hst
    clear hO hb0 hb1
    have g1 : w.heap.size ≤ g := Nat.le_of_succ_le (by simpa using g1)
    have g2 : w.heap.size ≤ gw := Nat.le_of_succ_le (by simpa using g2)
    have g3 : w.heap.size ≤ gv := Nat.le_of_succ_le (by simpa using g3)
    unfold stOf
    go_wp2_with fail
    have hlt := hm.lt0
    have hbx := Blk.new w1 45 #[.slice A1 k c1, .slice A2 k c2, I64 (Cel.Mem.new k en).endurance, I64 (Cel.Mem.new k en).writes, I64 (Cel.Mem.new k en).cuts, .bool (!(Cel.Mem.new k en).off), I64 z]
    have hM := hm.below ((Below.refl w1.heap.size w1).alloc (Nat.le_refl _) (.cells #[.slice A1 k c1, .slice A2 k c2, I64 (Cel.Mem.new k en).endurance, I64 (Cel.Mem.new k en).writes, I64 (Cel.Mem.new k en).cuts, .bool (!(Cel.Mem.new k en).off), I64 z] 45))
    have hS := hS2.out.below ((Below.refl w1.heap.size w1).alloc (Nat.le_refl _) (.cells #[.slice A1 k c1, .slice A2 k c2, I64 (Cel.Mem.new k en).endurance, I64 (Cel.Mem.new k en).writes, I64 (Cel.Mem.new k en).cuts, .bool (!(Cel.Mem.new k en).off), I64 z] 45))
    have hB2 : Below w.heap.size w (w1.alloc (.cells #[.slice A1 k c1, .slice A2 k c2, I64 (Cel.Mem.new k en).endurance, I64 (Cel.Mem.new k en).writes, I64 (Cel.Mem.new k en).cuts, .bool (!(Cel.Mem.new k en).off), I64 z] 45)) := hB1.alloc hB1.size _
    have hgb : w.heap.size ≤ w1.heap.size := hB1.size
    clear hm hS2 hB1
    generalize w1.heap.size = gb at *
    go_loopw [7, 8] (fun ok i wr => ∃ (j : Nat) (m : Cel.Mem) (A1 A2 : Option Addr) (c1 c2 : Nat) (z : Int), j ≤ nn ∧ ok = .bool true ∧ i = .int .i64 j ∧ Cel.Fine j m ∧ MemAt wr g gw gv k k k m ∧
      Blk wr gb 45 #[.slice A1 k c1, .slice A2 k c2, I64 m.endurance, I64 m.writes, I64 m.cuts, .bool (!m.off), I64 z] ∧ StAt wr (fun b => b = g ∨ b = gw ∨ b = gv ∨ b = gb) k m (stOf A1 k c1 A2 c2 m z) ∧ Below w.heap.size w wr) (fun _ i _ => nn - (intOf i).toNat)
    case atStart => exact ⟨0, Cel.Mem.new k en, A1, A2, c1, c2, z, by omega, rfl, rfl, Cel.fine_new _ _, hM, hbx, hS, hB2⟩
    case round =>
      clear hM hbx hS hB2
      obtain ⟨j, m, A1, A2, c1, c2, z, hj, rfl, rfl, hf, hm, hbx, hst, hbw⟩ := hrel
      by_cases hlt2 : j < nn
      · obtain ⟨b, o, x, rfl, hbl, hx, hfit, hat⟩ := (hs.below hbw).get hlt2
        obtain ⟨x0, x1, x2, x3⟩ := hat
        have i0 : (0 : Int) ≤ (j : Int) := by omega
        have i1 : (j : Int) < (nn : Int) := by omega
        have hra := rangeAt4 x0 x1 x2 x3
        have hlb := hm.lt0
        have hlx := hbx.lt
        have hRq : ∀ q, (q = g ∨ q = gw ∨ q = gv ∨ q = gb) → q < wr.drew.heap.size := fun q hq => by
          have e : wr.drew.heap.size = wr.heap.size := rfl
          rw [e]; omega
        have hMq : ∀ q, MemR g gw gv q → (q = g ∨ q = gw ∨ q = gv ∨ q = gb) := fun q hq => by unfold MemR at hq; omega
        have HDO := Lib.hid (law09_do hm.drew (hst.below (Below.refl _ _).drew) hRq hMq hf ⟨by omega, by omega⟩ x)
        clear hRq hMq
        clear x0 x1 x2 x3
        go_wp2_with fail
        refine wp_region_noPanic ?_
        refine wp_region_held_drew (S := fun _ => True) (by kernel_rfl) (trivial) (fun hHeld => ?_)
        refine wpAnyH_take2 (i := 0) (by simp only [List.getElem?_toArray, List.getElem?_cons_succ, List.getElem?_cons_zero]; first | done | exact rfl) ⟨?_, by kernel_rfl, by kernel_rfl, by kernel_rfl, fun _ _ _ h => h, Or.inl ⟨by rfl, ?_⟩, by assumption, ?_⟩
        rotate_left 1
        · (intro w9 hSw; (try dsimp only at hSw); go_simp; try (with_reducible rfl))
        try simp only [Act.put, List.setIfInBounds_toArray, List.set_cons_zero, List.set_cons_succ]
        refine wpAnyH_take2 (i := 2) (by simp only [List.getElem?_toArray, List.getElem?_cons_succ, List.getElem?_cons_zero]; first | done | exact rfl) ⟨?_, by kernel_rfl, by kernel_rfl, by kernel_rfl, fun _ _ _ h => h, Or.inl ⟨by rfl, ?_⟩, by assumption, ?_⟩
        rotate_left 1
        · (intro w9 hSw; (try dsimp only at hSw); go_simp; try (with_reducible rfl))
        try simp only [Act.put, List.setIfInBounds_toArray, List.set_cons_zero, List.set_cons_succ]
        refine wpAnyH_take2 (i := 3) (by simp only [List.getElem?_toArray, List.getElem?_cons_succ, List.getElem?_cons_zero]; first | done | exact rfl) ⟨?_, by kernel_rfl, by kernel_rfl, by kernel_rfl, fun _ _ _ h => h, Or.inl ⟨by rfl, ?_⟩, by assumption, ?_⟩
        rotate_left 1
        · (intro w9 hSw; (try dsimp only at hSw); go_simp; try (with_reducible rfl))
        try simp only [Act.put, List.setIfInBounds_toArray, List.set_cons_zero, List.set_cons_succ]
        refine wpAnyH_take2 (i := 4) (by simp only [List.getElem?_toArray, List.getElem?_cons_succ, List.getElem?_cons_zero]; first | done | exact rfl) ⟨?_, by kernel_rfl, by kernel_rfl, by kernel_rfl, fun _ _ _ h => h, Or.inl ⟨by rfl, ?_⟩, by assumption, ?_⟩
        rotate_left 1
        · (intro w9 hSw; (try dsimp only at hSw); go_simp; try (with_reducible rfl))
        try simp only [Act.put, List.setIfInBounds_toArray, List.set_cons_zero, List.set_cons_succ]
        refine wpAnyH_ready (rs := [1, 5]) (by kernel_rfl) (by simp) ?_
        refine AllReadyH.cons3 (by simp only [List.getElem?_toArray, List.getElem?_cons_succ, List.getElem?_cons_zero]; first | done | exact rfl) (fun K hK => ?_) (AllReadyH.cons2 (by simp only [List.getElem?_toArray, List.getElem?_cons_succ, List.getElem?_cons_zero]; first | done | exact rfl) (fun K hK => ?_))
        · refine step_load_row rfl 45 (.tmp 6) rfl gb rfl 45 _ (0, 0) _ (by exact hbx) Try.underlying45 rfl (by kernel_rfl) ?_
          refine hK.out _ _ (trivial) (fun hHeld => ?_)
          clear hK K
          try simp only [Act.put, List.setIfInBounds_toArray, List.set_cons_zero, List.set_cons_succ]
          refine wpAnyH_ready (rs := [5]) (by kernel_rfl) (by simp) ?_
          refine AllReadyH.cons2 (by simp only [List.getElem?_toArray, List.getElem?_cons_succ, List.getElem?_cons_zero]; first | done | exact rfl) (fun K hK => ?_)
          refine step_load_mid rfl 39 (.tmp 44) rfl b (o + j * 4) rfl [I64 x.op, I64 x.a, I64 x.n, .int .u32 (x.v.toNat : Int)] _ (by exact hra) Try.underlying39 rfl (by kernel_rfl) ?_
          refine hK.out _ _ (trivial) (fun hHeld => ?_)
          clear hK K
          try simp only [Act.put, List.setIfInBounds_toArray, List.set_cons_zero, List.set_cons_succ]
          refine wpAnyH_ready (rs := [6]) (by kernel_rfl) (by simp) ?_
          refine AllReadyH.cons2 (by simp only [List.getElem?_toArray, List.getElem?_cons_succ, List.getElem?_cons_zero]; first | done | exact rfl) (fun K hK => ?_)
          rw [if_pos (by rfl)]
          go_simp
          refine HDO.out.mono ?_
          rintro e w2 ⟨s2, rfl, hm2, hs2, ho2⟩
          have HS2 := Lib.hid hs2
          obtain ⟨A3, c3, A4, c4, z2, rfl, _, _, _, _, _⟩ := hs2
          have hb2 : Blk w2 gb 45 _ := Blk.only (Blk.drew hbx) ho2 (fun h => by unfold MemR at h; omega)
          unfold stOf
          go_wp2_with fail
          refine hK.out _ _ (trivial) (fun hHeld => ?_)
          clear hK K
          try simp only [Act.put, List.setIfInBounds_toArray, List.set_cons_zero, List.set_cons_succ]
          refine wpAnyH_take2 (i := 7) (by simp only [List.getElem?_toArray, List.getElem?_cons_succ, List.getElem?_cons_zero]; first | done | exact rfl) ⟨?_, by kernel_rfl, by kernel_rfl, by kernel_rfl, fun _ _ _ h => h, Or.inl ⟨by rfl, ?_⟩, by assumption, ?_⟩
          rotate_left 1
          · (intro w9 hSw; (try dsimp only at hSw); go_simp; try (with_reducible rfl))
          try simp only [Act.put, List.setIfInBounds_toArray, List.set_cons_zero, List.set_cons_succ]
          refine wpAnyH_take2 (i := 8) (by simp only [List.getElem?_toArray, List.getElem?_cons_succ, List.getElem?_cons_zero]; first | done | exact rfl) ⟨?_, by kernel_rfl, by kernel_rfl, by kernel_rfl, fun _ _ _ h => h, Or.inl ⟨by rfl, ?_⟩, by assumption, ?_⟩
          rotate_left 1
          · (intro w9 hSw; (try dsimp only at hSw); go_simp; try (with_reducible rfl))
          try simp only [Act.put, List.setIfInBounds_toArray, List.set_cons_zero, List.set_cons_succ]
          refine wpAnyH_take2 (i := 9) (by simp only [List.getElem?_toArray, List.getElem?_cons_succ, List.getElem?_cons_zero]; first | done | exact rfl) ⟨?_, by kernel_rfl, by kernel_rfl, by kernel_rfl, fun _ _ _ h => h, Or.inl ⟨by rfl, ?_⟩, by assumption, ?_⟩
          rotate_left 1
          · (intro w9 hSw; (try dsimp only at hSw); go_simp; try (with_reducible rfl))
          try simp only [Act.put, List.setIfInBounds_toArray, List.set_cons_zero, List.set_cons_succ]
          refine wpAnyH_ready (rs := [10]) (by kernel_rfl) (by simp) ?_
          refine AllReadyH.cons2 (by simp only [List.getElem?_toArray, List.getElem?_cons_succ, List.getElem?_cons_zero]; first | done | exact rfl) (fun K hK => ?_)
          refine step_store_row rfl 45 (.tmp 6) (.tmp 47) rfl gb #[.slice A3 k c3, .slice A4 k c4, I64 (m.apply x).endurance, I64 (m.apply x).writes, I64 (m.apply x).cuts, .bool (!(m.apply x).off), I64 z2] rfl rfl 45 _ hb2 (by kernel_rfl) rfl (st_one _ _ _ _ _ _ _ _ _ _ _) ?_
          refine hK.out _ _ (trivial) (fun hHeld => ?_)
          clear hK K
          try simp only [Act.put, List.setIfInBounds_toArray, List.set_cons_zero, List.set_cons_succ]
          refine wpAnyH_take2 (i := 11) (by simp only [List.getElem?_toArray, List.getElem?_cons_succ, List.getElem?_cons_zero]; first | done | exact rfl) ⟨?_, by kernel_rfl, by kernel_rfl, by kernel_rfl, fun _ _ _ h => h, Or.inl ⟨by rfl, ?_⟩, by assumption, ?_⟩
          rotate_left 1
          · (intro w9 hSw; (try dsimp only at hSw); go_simp; try (with_reducible rfl))
          try simp only [Act.put, List.setIfInBounds_toArray, List.set_cons_zero, List.set_cons_succ]
          refine wpAnyH_done (by kernel_rfl) ?_ _
          refine NoPanic.normal ?_
          go_wp2_with fail
          go_roundw
          case rel =>
            have hO : ∀ R : Nat → Prop, R gb → Only R w2 (w2.setRow gb #[.slice A3 k c3, .slice A4 k c4, I64 (m.apply x).endurance, I64 (m.apply x).writes, I64 (m.apply x).cuts, .bool (!(m.apply x).off), I64 z2]) := fun R hr => (Only.refl R w2).setRow hr _
            exact ⟨j + 1, m.apply x, A3, A4, c3, c4, z2, by omega, rfl, by go_num, (hf.apply (by omega) x hfit.2.2.2), hm2.only (hO (fun q => q = gb) rfl) (by omega) (by omega) (by omega), hb2.setRow _, HS2.out.only (hO _ (.inr (.inr (.inr rfl)))), Below.setRow (hbw.drew.trans (ho2.below (show w.heap.size ≤ wr.drew.heap.size from hbw.size) (fun q hq h => by unfold MemR at h; omega))) hgb _⟩
          case measure => simp [intOf]; omega
        · refine step_load_mid rfl 39 (.tmp 44) rfl b (o + j * 4) rfl [I64 x.op, I64 x.a, I64 x.n, .int .u32 (x.v.toNat : Int)] _ (by exact hra) Try.underlying39 rfl (by kernel_rfl) ?_
          refine hK.out _ _ (trivial) (fun hHeld => ?_)
          clear hK K
          try simp only [Act.put, List.setIfInBounds_toArray, List.set_cons_zero, List.set_cons_succ]
          refine wpAnyH_ready (rs := [1]) (by kernel_rfl) (by simp) ?_
          refine AllReadyH.cons2 (by simp only [List.getElem?_toArray, List.getElem?_cons_succ, List.getElem?_cons_zero]; first | done | exact rfl) (fun K hK => ?_)
          refine step_load_row rfl 45 (.tmp 6) rfl gb rfl 45 _ (0, 0) _ (by exact hbx) Try.underlying45 rfl (by kernel_rfl) ?_
          refine hK.out _ _ (trivial) (fun hHeld => ?_)
          clear hK K
          try simp only [Act.put, List.setIfInBounds_toArray, List.set_cons_zero, List.set_cons_succ]
          refine wpAnyH_ready (rs := [6]) (by kernel_rfl) (by simp) ?_
          refine AllReadyH.cons2 (by simp only [List.getElem?_toArray, List.getElem?_cons_succ, List.getElem?_cons_zero]; first | done | exact rfl) (fun K hK => ?_)
          rw [if_pos (by rfl)]
          go_simp
          refine HDO.out.mono ?_
          rintro e w2 ⟨s2, rfl, hm2, hs2, ho2⟩
          have HS2 := Lib.hid hs2
          obtain ⟨A3, c3, A4, c4, z2, rfl, _, _, _, _, _⟩ := hs2
          have hb2 : Blk w2 gb 45 _ := Blk.only (Blk.drew hbx) ho2 (fun h => by unfold MemR at h; omega)
          unfold stOf
          go_wp2_with fail
          refine hK.out _ _ (trivial) (fun hHeld => ?_)
          clear hK K
          try simp only [Act.put, List.setIfInBounds_toArray, List.set_cons_zero, List.set_cons_succ]
          refine wpAnyH_take2 (i := 7) (by simp only [List.getElem?_toArray, List.getElem?_cons_succ, List.getElem?_cons_zero]; first | done | exact rfl) ⟨?_, by kernel_rfl, by kernel_rfl, by kernel_rfl, fun _ _ _ h => h, Or.inl ⟨by rfl, ?_⟩, by assumption, ?_⟩
          rotate_left 1
          · (intro w9 hSw; (try dsimp only at hSw); go_simp; try (with_reducible rfl))
          try simp only [Act.put, List.setIfInBounds_toArray, List.set_cons_zero, List.set_cons_succ]
          refine wpAnyH_take2 (i := 8) (by simp only [List.getElem?_toArray, List.getElem?_cons_succ, List.getElem?_cons_zero]; first | done | exact rfl) ⟨?_, by kernel_rfl, by kernel_rfl, by kernel_rfl, fun _ _ _ h => h, Or.inl ⟨by rfl, ?_⟩, by assumption, ?_⟩
          rotate_left 1
          · (intro w9 hSw; (try dsimp only at hSw); go_simp; try (with_reducible rfl))
          try simp only [Act.put, List.setIfInBounds_toArray, List.set_cons_zero, List.set_cons_succ]
          refine wpAnyH_take2 (i := 9) (by simp only [List.getElem?_toArray, List.getElem?_cons_succ, List.getElem?_cons_zero]; first | done | exact rfl) ⟨?_, by kernel_rfl, by kernel_rfl, by kernel_rfl, fun _ _ _ h => h, Or.inl ⟨by rfl, ?_⟩, by assumption, ?_⟩
          rotate_left 1
          · (intro w9 hSw; (try dsimp only at hSw); go_simp; try (with_reducible rfl))
          try simp only [Act.put, List.setIfInBounds_toArray, List.set_cons_zero, List.set_cons_succ]
          refine wpAnyH_ready (rs := [10]) (by kernel_rfl) (by simp) ?_
          refine AllReadyH.cons2 (by simp only [List.getElem?_toArray, List.getElem?_cons_succ, List.getElem?_cons_zero]; first | done | exact rfl) (fun K hK => ?_)
          refine step_store_row rfl 45 (.tmp 6) (.tmp 47) rfl gb #[.slice A3 k c3, .slice A4 k c4, I64 (m.apply x).endurance, I64 (m.apply x).writes, I64 (m.apply x).cuts, .bool (!(m.apply x).off), I64 z2] rfl rfl 45 _ hb2 (by kernel_rfl) rfl (st_one _ _ _ _ _ _ _ _ _ _ _) ?_
          refine hK.out _ _ (trivial) (fun hHeld => ?_)
          clear hK K
          try simp only [Act.put, List.setIfInBounds_toArray, List.set_cons_zero, List.set_cons_succ]
          refine wpAnyH_take2 (i := 11) (by simp only [List.getElem?_toArray, List.getElem?_cons_succ, List.getElem?_cons_zero]; first | done | exact rfl) ⟨?_, by kernel_rfl, by kernel_rfl, by kernel_rfl, fun _ _ _ h => h, Or.inl ⟨by rfl, ?_⟩, by assumption, ?_⟩
          rotate_left 1
          · (intro w9 hSw; (try dsimp only at hSw); go_simp; try (with_reducible rfl))
          try simp only [Act.put, List.setIfInBounds_toArray, List.set_cons_zero, List.set_cons_succ]
          refine wpAnyH_done (by kernel_rfl) ?_ _
          refine NoPanic.normal ?_
          go_wp2_with fail
          go_roundw
          case rel =>
            have hO : ∀ R : Nat → Prop, R gb → Only R w2 (w2.setRow gb #[.slice A3 k c3, .slice A4 k c4, I64 (m.apply x).endurance, I64 (m.apply x).writes, I64 (m.apply x).cuts, .bool (!(m.apply x).off), I64 z2]) := fun R hr => (Only.refl R w2).setRow hr _
            exact ⟨j + 1, m.apply x, A3, A4, c3, c4, z2, by omega, rfl, by go_num, (hf.apply (by omega) x hfit.2.2.2), hm2.only (hO (fun q => q = gb) rfl) (by omega) (by omega) (by omega), hb2.setRow _, HS2.out.only (hO _ (.inr (.inr (.inr rfl)))), Below.setRow (hbw.drew.trans (ho2.below (show w.heap.size ≤ wr.drew.heap.size from hbw.size) (fun q hq h => by unfold MemR at h; omega))) hgb _⟩
          case measure => simp [intOf]; omega
      · obtain rfl : j = nn := by omega
        go_wp2_with (first
          | ((with_reducible show wpList _ _ _ (Oper.mk _ (Op.load 45 (Operand.tmp 6)) _ _ _ _ :: _) _ _); refine wpList_load_row rfl 45 (.tmp 6) rfl gb rfl 45 _ (0, 0) _ hbx Try.underlying45 rfl (by kernel_rfl) ?_)
          | (go_at_call 21; refine (law09_seen hm hst).mono ?_; rintro e w2 ⟨rfl, hb2⟩)
          | (go_at_call 12; refine (law09_awake _).mono ?_; rintro e w3 ⟨rfl, hb3⟩))
        go_ret
        have hb4 := hbw.trans (hb2.mono hbw.size)
        exact ⟨rfl, hb4.trans (hb3.mono hb4.size)⟩
  · go_enter Try.func5, Try.ntmps5
    go_wp2_with fail
    have hb0 := (Below.refl w.heap.size w).alloc (Nat.le_refl _) (.cells #[.int .i64 n, .int .i64 en] 28)
    refine (hO.out _).mono ?_
    rintro e w1 ⟨hr, hb1⟩
    have hB1 := hb0.trans (hb1.mono hb0.size)
    rcases hr with ⟨_, rfl⟩ | ⟨k, g, gw, gv, s, rfl, hk1, hk2, rfl, hm, g1, g2, g3, hst⟩
    · unfold zSt
      clear hO hb0 hb1
      go_wp2_with (go_at_call 12; refine (law09_awake _).mono ?_; rintro e w2 ⟨rfl, hb2⟩)
      go_ret
      exact ⟨rfl, (hB1.alloc (by exact hB1.size) _).trans (hb2.mono (by simp; have := hB1.size; omega))⟩
    · exfalso; omega
end Go.Proofs.Ytdpfehdpglbidaa
