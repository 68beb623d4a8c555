/-
  The statement CellClone, walked.
-/
import Derived.Test.YtdpfehdpglbidaaCelU
namespace Go.Proofs.Ytdpfehdpglbidaa
open Go.RowKit

/-- A memory, and the variable that holds the state which shows it. -/
structure Side (w : World) (R : Nat → Prop) (k g gw gv gb cw cv : Nat) (m : Cel.Mem) (A1 : Option Addr) (c1 : Nat) (A2 : Option Addr) (c2 : Nat) (z : Int) (K : Int) : Prop where
  mem : MemAt w g gw gv k cw cv m
  box : Blk w gb 45 #[.slice A1 k c1, .slice A2 k c2, I64 m.endurance, I64 m.writes, I64 m.cuts, .bool (!m.off), I64 z]
  st : StAt w R k m (stOf A1 k c1 A2 c2 m z)
  fine : Cel.Fine K m
  rg : ∀ q, MemR g gw gv q → R q
  rb : R gb
  ne : ¬ MemR g gw gv gb
section
variable {w w' : World} {R R' : Nat → Prop} {k g gw gv gb cw cv : Nat} {m : Cel.Mem} {A1 A2 A3 A4 : Option Addr} {c1 c2 c3 c4 : Nat} {z z2 : Int} {K : Int}
theorem Side.only (h : Side w R k g gw gv gb cw cv m A1 c1 A2 c2 z K) (ho : Only R' w w') (h1 : ∀ q, R' q → R q) (h2 : ∀ q, R' q → ¬ MemR g gw gv q) (h3 : ¬ R' gb) : Side w' R k g gw gv gb cw cv m A1 c1 A2 c2 z K :=
  ⟨h.mem.only ho (fun hr => h2 _ hr (.inl rfl)) (fun hr => h2 _ hr (.inr (.inl rfl))) (fun hr => h2 _ hr (.inr (.inr rfl))), h.box.only ho h3, h.st.only (ho.mono fun q _ hq => h1 q hq), h.fine, h.rg, h.rb, h.ne⟩
theorem Side.below (h : Side w R k g gw gv gb cw cv m A1 c1 A2 c2 z K) (hb : Below w.heap.size w w') : Side w' R k g gw gv gb cw cv m A1 c1 A2 c2 z K :=
  h.only (R' := fun _ => False) (Only.of_below hb) (fun _ h => h.elim) (fun _ h => h.elim) id
theorem Side.sub (h : Side w R k g gw gv gb cw cv m A1 c1 A2 c2 z K) (hR : ∀ q, q < w.heap.size → R' q → R q) (hRR : ∀ q, q < w.heap.size → R q → R' q) : Side w R' k g gw gv gb cw cv m A1 c1 A2 c2 z K :=
  ⟨h.mem, h.box, h.st.sub h.mem.pos hR, h.fine, fun q hq => hRR q (by have := h.mem.lt0; unfold MemR at hq; omega) (h.rg q hq), hRR _ h.box.lt h.rb, h.ne⟩
theorem Side.mono {K' : Int} (h : Side w R k g gw gv gb cw cv m A1 c1 A2 c2 z K) (hK : K ≤ K') : Side w R k g gw gv gb cw cv m A1 c1 A2 c2 z K' := ⟨h.mem, h.box, h.st, h.fine.mono hK, h.rg, h.rb, h.ne⟩
theorem Side.step {w2 : World} (h : Side w R k g gw gv gb cw cv m A1 c1 A2 c2 z K) (hK : 0 ≤ K) (x : Cel.Op) (hx : x.n ≤ 9223372036854775807) (hm2 : MemAt w2 g gw gv k cw cv (m.apply x)) (hs2 : StAt w2 R k (m.apply x) (stOf A3 k c3 A4 c4 (m.apply x) z2)) (ho2 : Only (MemR g gw gv) w w2) :
    Side (w2.setRow gb #[.slice A3 k c3, .slice A4 k c4, I64 (m.apply x).endurance, I64 (m.apply x).writes, I64 (m.apply x).cuts, .bool (!(m.apply x).off), I64 z2]) R k g gw gv gb cw cv (m.apply x) A3 c3 A4 c4 z2 (K + 1) := by
  have hb2 : Blk w2 gb 45 _ := h.box.only ho2 h.ne
  have hO : ∀ R : Nat → Prop, R gb → Only R w2 (w2.setRow gb #[.slice A3 k c3, .slice A4 k c4, I64 (m.apply x).endurance, I64 (m.apply x).writes, I64 (m.apply x).cuts, .bool (!(m.apply x).off), I64 z2]) := fun R hr => (Only.refl R w2).setRow hr _
  have hne := h.ne
  unfold MemR at hne
  exact ⟨hm2.only (hO (fun q => q = gb) rfl) (by omega) (by omega) (by omega), hb2.setRow _, hs2.only (hO _ h.rb), h.fine.apply hK x hx, h.rg, h.rb, h.ne⟩
end

set_option maxRecDepth 100000 in
set_option maxHeartbeats 8000000 in
theorem law_CellClone (n en : Int) (A : Option Addr) (nn c : Nat) (l : List Cel.Op) (A' : Option Addr) (nb c' : Nat) (l' : List Cel.Op) (w : World) (hs : Cel.Ops w w.heap.size A nn c l) (hs' : Cel.Ops w w.heap.size A' nb c' l') :
    Calls Try.prog 6 #[.agg #[.int .i64 n, .int .i64 en], .slice A nn c, .slice A' nb c'] w fun e w' => e = .returned (.bool true) ∧ Below w.heap.size w w' := by
  have hcase : 64 < n ∨ (n ≤ 64 ∧ 40 < nn) ∨ (n ≤ 64 ∧ nn ≤ 40 ∧ 40 < nb) ∨ (n ≤ 64 ∧ nn ≤ 40 ∧ nb ≤ 40) := by omega
  rcases hcase with h0 | ⟨h0, h1⟩ | ⟨h0, h1, h2⟩ | ⟨h0, h1, h2⟩
  · go_enter Try.func6, Try.ntmps6
    go_wp2_with fail
    go_ret
    exact ⟨rfl, (Below.refl _ _).alloc (Nat.le_refl _) _⟩
  · go_enter Try.func6, Try.ntmps6
    go_wp2_with fail
    go_ret
    exact ⟨rfl, (Below.refl _ _).alloc (Nat.le_refl _) _⟩
  · go_enter Try.func6, Try.ntmps6
    go_wp2_with fail
    go_ret
    exact ⟨rfl, (Below.refl _ _).alloc (Nat.le_refl _) _⟩
  have hO := Lib.hid (fun u => law09_open n en u)
  go_enter Try.func6, Try.ntmps6
  go_wp2_with fail
  have hb0 := (Below.refl w.heap.size w).alloc (Nat.le_refl _) (.cells #[.int .i64 n, .int .i64 en] 28)
  refine (hO.out _).mono ?_
  rintro e w1 ⟨hr, hb1⟩
  have hB1 := hb0.trans (hb1.mono hb0.size)
  rcases hr with ⟨_, rfl⟩ | ⟨k, g, gw, gv, s, rfl, hk1, hk2, rfl, hm, g1, g2, g3, hst⟩
  · unfold zSt
    clear hO hb0 hb1
    go_wp2_with (go_at_call 12; refine (law09_awake _).mono ?_; rintro e w2 ⟨rfl, hb2⟩)
    go_ret
    exact ⟨rfl, (hB1.alloc (by exact hB1.size) _).trans (hb2.mono (by simp; have := hB1.size; omega))⟩
  have hS2 := Lib.hid (hst.sub (R' := fun b => b = g ∨ b = gw ∨ b = gv ∨ b = w1.heap.size) hm.pos (fun b hb h => by omega))
  obtain ⟨A1, c1, A2, c2, z, rfl, _, _, _, _, _⟩ := hst
  clear hO hb0 hb1
  have g1 : w.heap.size ≤ g := Nat.le_of_succ_le (by simpa using g1)
  have g2 : w.heap.size ≤ gw := Nat.le_of_succ_le (by simpa using g2)
  have g3 : w.heap.size ≤ gv := Nat.le_of_succ_le (by simpa using g3)
  unfold stOf
  go_wp2_with fail
  have hlt := hm.lt0
  have hgb : w.heap.size ≤ w1.heap.size := hB1.size
  have hbA := (Below.refl w1.heap.size w1).alloc (Nat.le_refl _) (.cells #[.slice A1 k c1, .slice A2 k c2, I64 (Cel.Mem.new k en).endurance, I64 (Cel.Mem.new k en).writes, I64 (Cel.Mem.new k en).cuts, .bool (!(Cel.Mem.new k en).off), I64 z] 45)
  have hA0 : Side (w1.alloc (.cells #[.slice A1 k c1, .slice A2 k c2, I64 (Cel.Mem.new k en).endurance, I64 (Cel.Mem.new k en).writes, I64 (Cel.Mem.new k en).cuts, .bool (!(Cel.Mem.new k en).off), I64 z] 45)) (fun q => q = g ∨ q = gw ∨ q = gv ∨ q = w1.heap.size) k g gw gv w1.heap.size k k (Cel.Mem.new k en) A1 c1 A2 c2 z 0 :=
    ⟨hm.below hbA, Blk.new w1 _ _, hS2.out.below hbA, Cel.fine_new _ _, fun q hq => by unfold MemR at hq; omega, .inr (.inr (.inr rfl)), fun h => by unfold MemR at h; omega⟩
  have hB2 : Below w.heap.size w (w1.alloc (.cells #[.slice A1 k c1, .slice A2 k c2, I64 (Cel.Mem.new k en).endurance, I64 (Cel.Mem.new k en).writes, I64 (Cel.Mem.new k en).cuts, .bool (!(Cel.Mem.new k en).off), I64 z] 45)) := hB1.alloc hB1.size _
  clear hm hS2 hB1 hbA
  generalize w1.heap.size = gb at *
  go_loopw [9, 10] (fun ok i wr => ∃ (j : Nat) (m : Cel.Mem) (A1 A2 : Option Addr) (c1 c2 : Nat) (z : Int), j ≤ nn ∧ ok = .bool true ∧ i = .int .i64 j ∧ Side wr (fun q => q = g ∨ q = gw ∨ q = gv ∨ q = gb) k g gw gv gb k k m A1 c1 A2 c2 z j ∧ Below w.heap.size w wr) (fun _ i _ => nn - (intOf i).toNat)
  case atStart => exact ⟨0, Cel.Mem.new k en, A1, A2, c1, c2, z, by omega, rfl, rfl, hA0, hB2⟩
  case round =>
    clear hA0 hB2
    obtain ⟨j, m2, A1, A2, c1, c2, z, hj, rfl, rfl, hsd, hbw⟩ := hrel
    by_cases hlt2 : j < nn
    · have hRb : ∀ q (u : World), (q = g ∨ q = gw ∨ q = gv ∨ q = gb) → q < wr.drew.heap.size := fun q _ hq => by
        have := hsd.mem.lt0; have := hsd.box.lt; have e : wr.drew.heap.size = wr.heap.size := rfl; rw [e]; omega
      obtain ⟨b, o, x, rfl, hbl, hx, hfit, hat⟩ := (hs.below hbw).get hlt2
      obtain ⟨x0, x1, x2, x3⟩ := hat
      have i0 : (0 : Int) ≤ (j : Int) := by omega
      have i1 : (j : Int) < (nn : Int) := by omega
      have hra := rangeAt4 x0 x1 x2 x3
      clear x0 x1 x2 x3
      have hlb := hsd.mem.lt0
      have hlx := hsd.box.lt
      have hD := hsd.below (Below.refl _ _).drew
      have HDO := Lib.hid (law09_do hD.mem hD.st (fun q hq => hRb q (by exact wr.drew) hq) hD.rg hsd.fine ⟨by omega, by omega⟩ x)
      go_wp2_with fail
      refine wp_region_noPanic ?_
      refine wp_region_held_drew (S := fun _ => True) (by kernel_rfl) (trivial) (fun hHeld => ?_)
      refine wpAnyH_take2 (i := 0) (by simp only [List.getElem?_toArray, List.getElem?_cons_succ, List.getElem?_cons_zero]; first | done | exact rfl) ⟨?_, by kernel_rfl, by kernel_rfl, by kernel_rfl, fun _ _ _ h => h, Or.inl ⟨by rfl, ?_⟩, by assumption, ?_⟩
      rotate_left 1
      · (intro w9 hSw; (try dsimp only at hSw); go_simp; try (with_reducible rfl))
      try simp only [Act.put, List.setIfInBounds_toArray, List.set_cons_zero, List.set_cons_succ]
      refine wpAnyH_take2 (i := 2) (by simp only [List.getElem?_toArray, List.getElem?_cons_succ, List.getElem?_cons_zero]; first | done | exact rfl) ⟨?_, by kernel_rfl, by kernel_rfl, by kernel_rfl, fun _ _ _ h => h, Or.inl ⟨by rfl, ?_⟩, by assumption, ?_⟩
      rotate_left 1
      · (intro w9 hSw; (try dsimp only at hSw); go_simp; try (with_reducible rfl))
      try simp only [Act.put, List.setIfInBounds_toArray, List.set_cons_zero, List.set_cons_succ]
      refine wpAnyH_take2 (i := 3) (by simp only [List.getElem?_toArray, List.getElem?_cons_succ, List.getElem?_cons_zero]; first | done | exact rfl) ⟨?_, by kernel_rfl, by kernel_rfl, by kernel_rfl, fun _ _ _ h => h, Or.inl ⟨by rfl, ?_⟩, by assumption, ?_⟩
      rotate_left 1
      · (intro w9 hSw; (try dsimp only at hSw); go_simp; try (with_reducible rfl))
      try simp only [Act.put, List.setIfInBounds_toArray, List.set_cons_zero, List.set_cons_succ]
      refine wpAnyH_take2 (i := 4) (by simp only [List.getElem?_toArray, List.getElem?_cons_succ, List.getElem?_cons_zero]; first | done | exact rfl) ⟨?_, by kernel_rfl, by kernel_rfl, by kernel_rfl, fun _ _ _ h => h, Or.inl ⟨by rfl, ?_⟩, by assumption, ?_⟩
      rotate_left 1
      · (intro w9 hSw; (try dsimp only at hSw); go_simp; try (with_reducible rfl))
      try simp only [Act.put, List.setIfInBounds_toArray, List.set_cons_zero, List.set_cons_succ]
      refine wpAnyH_ready (rs := [1, 5]) (by kernel_rfl) (by simp) ?_
      refine AllReadyH.cons3 (by simp only [List.getElem?_toArray, List.getElem?_cons_succ, List.getElem?_cons_zero]; first | done | exact rfl) (fun K hK => ?_) (AllReadyH.cons2 (by simp only [List.getElem?_toArray, List.getElem?_cons_succ, List.getElem?_cons_zero]; first | done | exact rfl) (fun K hK => ?_))
      · refine step_load_row rfl 45 (.tmp 8) rfl gb rfl 45 _ (0, 0) _ (by exact hsd.box) Try.underlying45 rfl (by kernel_rfl) ?_
        refine hK.out _ _ (trivial) (fun hHeld => ?_)
        clear hK K
        try simp only [Act.put, List.setIfInBounds_toArray, List.set_cons_zero, List.set_cons_succ]
        refine wpAnyH_ready (rs := [5]) (by kernel_rfl) (by simp) ?_
        refine AllReadyH.cons2 (by simp only [List.getElem?_toArray, List.getElem?_cons_succ, List.getElem?_cons_zero]; first | done | exact rfl) (fun K hK => ?_)
        refine step_load_mid rfl 39 (.tmp 50) rfl b (o + j * 4) rfl [I64 x.op, I64 x.a, I64 x.n, .int .u32 (x.v.toNat : Int)] _ (by exact hra) Try.underlying39 rfl (by kernel_rfl) ?_
        refine hK.out _ _ (trivial) (fun hHeld => ?_)
        clear hK K
        try simp only [Act.put, List.setIfInBounds_toArray, List.set_cons_zero, List.set_cons_succ]
        refine wpAnyH_ready (rs := [6]) (by kernel_rfl) (by simp) ?_
        refine AllReadyH.cons2 (by simp only [List.getElem?_toArray, List.getElem?_cons_succ, List.getElem?_cons_zero]; first | done | exact rfl) (fun K hK => ?_)
        rw [if_pos (by rfl)]
        go_simp
        refine HDO.out.mono ?_
        rintro e w2 ⟨s2, rfl, hm2, hs2, ho2⟩
        have HS2 := Lib.hid hs2
        obtain ⟨A5, c5, A6, c6, z6, rfl, _, _, _, _, _⟩ := hs2
        have hb2 : Blk w2 gb 45 _ := Blk.only hD.box ho2 hD.ne
        unfold stOf
        go_wp2_with fail
        refine hK.out _ _ (trivial) (fun hHeld => ?_)
        clear hK K
        try simp only [Act.put, List.setIfInBounds_toArray, List.set_cons_zero, List.set_cons_succ]
        refine wpAnyH_take2 (i := 7) (by simp only [List.getElem?_toArray, List.getElem?_cons_succ, List.getElem?_cons_zero]; first | done | exact rfl) ⟨?_, by kernel_rfl, by kernel_rfl, by kernel_rfl, fun _ _ _ h => h, Or.inl ⟨by rfl, ?_⟩, by assumption, ?_⟩
        rotate_left 1
        · (intro w9 hSw; (try dsimp only at hSw); go_simp; try (with_reducible rfl))
        try simp only [Act.put, List.setIfInBounds_toArray, List.set_cons_zero, List.set_cons_succ]
        refine wpAnyH_take2 (i := 8) (by simp only [List.getElem?_toArray, List.getElem?_cons_succ, List.getElem?_cons_zero]; first | done | exact rfl) ⟨?_, by kernel_rfl, by kernel_rfl, by kernel_rfl, fun _ _ _ h => h, Or.inl ⟨by rfl, ?_⟩, by assumption, ?_⟩
        rotate_left 1
        · (intro w9 hSw; (try dsimp only at hSw); go_simp; try (with_reducible rfl))
        try simp only [Act.put, List.setIfInBounds_toArray, List.set_cons_zero, List.set_cons_succ]
        refine wpAnyH_take2 (i := 9) (by simp only [List.getElem?_toArray, List.getElem?_cons_succ, List.getElem?_cons_zero]; first | done | exact rfl) ⟨?_, by kernel_rfl, by kernel_rfl, by kernel_rfl, fun _ _ _ h => h, Or.inl ⟨by rfl, ?_⟩, by assumption, ?_⟩
        rotate_left 1
        · (intro w9 hSw; (try dsimp only at hSw); go_simp; try (with_reducible rfl))
        try simp only [Act.put, List.setIfInBounds_toArray, List.set_cons_zero, List.set_cons_succ]
        refine wpAnyH_ready (rs := [10]) (by kernel_rfl) (by simp) ?_
        refine AllReadyH.cons2 (by simp only [List.getElem?_toArray, List.getElem?_cons_succ, List.getElem?_cons_zero]; first | done | exact rfl) (fun K hK => ?_)
        refine step_store_row rfl 45 (.tmp 8) (.tmp 53) rfl gb #[.slice A5 k c5, .slice A6 k c6, I64 (m2.apply x).endurance, I64 (m2.apply x).writes, I64 (m2.apply x).cuts, .bool (!(m2.apply x).off), I64 z6] rfl rfl 45 _ hb2 (by kernel_rfl) rfl (st_one _ _ _ _ _ _ _ _ _ _ _) ?_
        refine hK.out _ _ (trivial) (fun hHeld => ?_)
        clear hK K
        try simp only [Act.put, List.setIfInBounds_toArray, List.set_cons_zero, List.set_cons_succ]
        refine wpAnyH_take2 (i := 11) (by simp only [List.getElem?_toArray, List.getElem?_cons_succ, List.getElem?_cons_zero]; first | done | exact rfl) ⟨?_, by kernel_rfl, by kernel_rfl, by kernel_rfl, fun _ _ _ h => h, Or.inl ⟨by rfl, ?_⟩, by assumption, ?_⟩
        rotate_left 1
        · (intro w9 hSw; (try dsimp only at hSw); go_simp; try (with_reducible rfl))
        try simp only [Act.put, List.setIfInBounds_toArray, List.set_cons_zero, List.set_cons_succ]
        refine wpAnyH_done (by kernel_rfl) ?_ _
        refine NoPanic.normal ?_
        go_wp2_with fail
        go_roundw
        case rel =>
          have hS := hD.step (by omega) x hfit.2.2.2 hm2 HS2.out ho2
          exact ⟨j + 1, m2.apply x, A5, A6, c5, c6, z6, by omega, rfl, by go_num, by simpa using hS, Below.setRow (hbw.drew.trans (ho2.below (show w.heap.size ≤ wr.drew.heap.size from hbw.size) (fun q hq h => by unfold MemR at h; omega))) (by omega) _⟩
        case measure => simp [intOf]; omega
      · refine step_load_mid rfl 39 (.tmp 50) rfl b (o + j * 4) rfl [I64 x.op, I64 x.a, I64 x.n, .int .u32 (x.v.toNat : Int)] _ (by exact hra) Try.underlying39 rfl (by kernel_rfl) ?_
        refine hK.out _ _ (trivial) (fun hHeld => ?_)
        clear hK K
        try simp only [Act.put, List.setIfInBounds_toArray, List.set_cons_zero, List.set_cons_succ]
        refine wpAnyH_ready (rs := [1]) (by kernel_rfl) (by simp) ?_
        refine AllReadyH.cons2 (by simp only [List.getElem?_toArray, List.getElem?_cons_succ, List.getElem?_cons_zero]; first | done | exact rfl) (fun K hK => ?_)
        refine step_load_row rfl 45 (.tmp 8) rfl gb rfl 45 _ (0, 0) _ (by exact hsd.box) Try.underlying45 rfl (by kernel_rfl) ?_
        refine hK.out _ _ (trivial) (fun hHeld => ?_)
        clear hK K
        try simp only [Act.put, List.setIfInBounds_toArray, List.set_cons_zero, List.set_cons_succ]
        refine wpAnyH_ready (rs := [6]) (by kernel_rfl) (by simp) ?_
        refine AllReadyH.cons2 (by simp only [List.getElem?_toArray, List.getElem?_cons_succ, List.getElem?_cons_zero]; first | done | exact rfl) (fun K hK => ?_)
        rw [if_pos (by rfl)]
        go_simp
        refine HDO.out.mono ?_
        rintro e w2 ⟨s2, rfl, hm2, hs2, ho2⟩
        have HS2 := Lib.hid hs2
        obtain ⟨A5, c5, A6, c6, z6, rfl, _, _, _, _, _⟩ := hs2
        have hb2 : Blk w2 gb 45 _ := Blk.only hD.box ho2 hD.ne
        unfold stOf
        go_wp2_with fail
        refine hK.out _ _ (trivial) (fun hHeld => ?_)
        clear hK K
        try simp only [Act.put, List.setIfInBounds_toArray, List.set_cons_zero, List.set_cons_succ]
        refine wpAnyH_take2 (i := 7) (by simp only [List.getElem?_toArray, List.getElem?_cons_succ, List.getElem?_cons_zero]; first | done | exact rfl) ⟨?_, by kernel_rfl, by kernel_rfl, by kernel_rfl, fun _ _ _ h => h, Or.inl ⟨by rfl, ?_⟩, by assumption, ?_⟩
        rotate_left 1
        · (intro w9 hSw; (try dsimp only at hSw); go_simp; try (with_reducible rfl))
        try simp only [Act.put, List.setIfInBounds_toArray, List.set_cons_zero, List.set_cons_succ]
        refine wpAnyH_take2 (i := 8) (by simp only [List.getElem?_toArray, List.getElem?_cons_succ, List.getElem?_cons_zero]; first | done | exact rfl) ⟨?_, by kernel_rfl, by kernel_rfl, by kernel_rfl, fun _ _ _ h => h, Or.inl ⟨by rfl, ?_⟩, by assumption, ?_⟩
        rotate_left 1
        · (intro w9 hSw; (try dsimp only at hSw); go_simp; try (with_reducible rfl))
        try simp only [Act.put, List.setIfInBounds_toArray, List.set_cons_zero, List.set_cons_succ]
        refine wpAnyH_take2 (i := 9) (by simp only [List.getElem?_toArray, List.getElem?_cons_succ, List.getElem?_cons_zero]; first | done | exact rfl) ⟨?_, by kernel_rfl, by kernel_rfl, by kernel_rfl, fun _ _ _ h => h, Or.inl ⟨by rfl, ?_⟩, by assumption, ?_⟩
        rotate_left 1
        · (intro w9 hSw; (try dsimp only at hSw); go_simp; try (with_reducible rfl))
        try simp only [Act.put, List.setIfInBounds_toArray, List.set_cons_zero, List.set_cons_succ]
        refine wpAnyH_ready (rs := [10]) (by kernel_rfl) (by simp) ?_
        refine AllReadyH.cons2 (by simp only [List.getElem?_toArray, List.getElem?_cons_succ, List.getElem?_cons_zero]; first | done | exact rfl) (fun K hK => ?_)
        refine step_store_row rfl 45 (.tmp 8) (.tmp 53) rfl gb #[.slice A5 k c5, .slice A6 k c6, I64 (m2.apply x).endurance, I64 (m2.apply x).writes, I64 (m2.apply x).cuts, .bool (!(m2.apply x).off), I64 z6] rfl rfl 45 _ hb2 (by kernel_rfl) rfl (st_one _ _ _ _ _ _ _ _ _ _ _) ?_
        refine hK.out _ _ (trivial) (fun hHeld => ?_)
        clear hK K
        try simp only [Act.put, List.setIfInBounds_toArray, List.set_cons_zero, List.set_cons_succ]
        refine wpAnyH_take2 (i := 11) (by simp only [List.getElem?_toArray, List.getElem?_cons_succ, List.getElem?_cons_zero]; first | done | exact rfl) ⟨?_, by kernel_rfl, by kernel_rfl, by kernel_rfl, fun _ _ _ h => h, Or.inl ⟨by rfl, ?_⟩, by assumption, ?_⟩
        rotate_left 1
        · (intro w9 hSw; (try dsimp only at hSw); go_simp; try (with_reducible rfl))
        try simp only [Act.put, List.setIfInBounds_toArray, List.set_cons_zero, List.set_cons_succ]
        refine wpAnyH_done (by kernel_rfl) ?_ _
        refine NoPanic.normal ?_
        go_wp2_with fail
        go_roundw
        case rel =>
          have hS := hD.step (by omega) x hfit.2.2.2 hm2 HS2.out ho2
          exact ⟨j + 1, m2.apply x, A5, A6, c5, c6, z6, by omega, rfl, by go_num, by simpa using hS, Below.setRow (hbw.drew.trans (ho2.below (show w.heap.size ≤ wr.drew.heap.size from hbw.size) (fun q hq h => by unfold MemR at h; omega))) (by omega) _⟩
        case measure => simp [intOf]; omega
    · go_wp2_with fail
      refine (cell_Clone hsd.mem).mono ?_
      rintro e w3 ⟨q, qw, qv, cv3, rfl, hmB, q1, q2, q3, hb3⟩
      have hsA3 := hsd.below hb3
      have y0 := hsA3.box.cell 0
      have y1 := hsA3.box.cell 1
      have y2 := hsA3.box.cell 2
      have y3 := hsA3.box.cell 3
      have y4 := hsA3.box.cell 4
      have y5 := hsA3.box.cell 5
      have y6 := hsA3.box.cell 6
      go_wp2_with fail
      clear y0 y1 y2 y3 y4 y5 y6
      refine (law09_seen hmB hsA3.st).mono ?_
      rintro e w4 ⟨rfl, hb4⟩
      have hsA4 := hsA3.below hb4
      have hb34 := hb3.trans (hb4.mono hb3.size)
      have hsz := hb34.size
      have hl0 := hsd.mem.lt0
      have hl1 := hsd.box.lt
      have hl2 := hmB.lt0
      have hsz4 := hb4.size
      have hsd2 : Side wr (fun x => x = g ∨ x = gw ∨ x = gv ∨ x = gb ∨ x = q ∨ x = qw ∨ x = qv ∨ x = w4.heap.size) k g gw gv gb k k m2 A1 c1 A2 c2 z 40 := (hsd.sub (fun x hx h => by omega) (fun x hx h => by omega)).mono (by omega)
      go_wp2_with ((with_reducible show wpList _ _ _ (Oper.mk _ (Op.load 45 (Operand.tmp 8)) _ _ _ _ :: _) _ _); refine wpList_load_row rfl 45 (.tmp 8) rfl gb rfl 45 _ (0, 0) _ hsA4.box Try.underlying45 rfl (by kernel_rfl) ?_)
      have hbW := (Below.refl w4.heap.size w4).alloc (Nat.le_refl _) (.cells #[.slice A1 k c1, .slice A2 k c2, I64 m2.endurance, I64 m2.writes, I64 m2.cuts, .bool (!m2.off), I64 z] 45)
      have hAA := (hsd2.below hb34).below hbW
      have hBB : Side (w4.alloc (.cells #[.slice A1 k c1, .slice A2 k c2, I64 m2.endurance, I64 m2.writes, I64 m2.cuts, .bool (!m2.off), I64 z] 45)) (fun x => x = g ∨ x = gw ∨ x = gv ∨ x = gb ∨ x = q ∨ x = qw ∨ x = qv ∨ x = w4.heap.size) k q qw qv w4.heap.size k cv3 m2 A1 c1 A2 c2 z 40 :=
        ⟨(hmB.below hb4).below hbW, Blk.new w4 _ _, hAA.st, hAA.fine, fun x hx => by unfold MemR at hx; omega, .inr (.inr (.inr (.inr (.inr (.inr (.inr rfl)))))), fun h => by unfold MemR at h; omega⟩
      have hbw4 := hbw.trans (hb34.mono hbw.size)
      have hbwW := hbw4.alloc hbw4.size (.cells #[.slice A1 k c1, .slice A2 k c2, I64 m2.endurance, I64 m2.writes, I64 m2.cuts, .bool (!m2.off), I64 z] 45)
      have hgc : wr.heap.size ≤ w4.heap.size := hsz
      generalize hM : wr.heap.size = M at *
      have hM0 : w.heap.size ≤ M := by have := hbw.size; omega
      have hMM := Lib.hid hM
      clear hM hsd hsA3 hsA4 hsd2 hmB hb3 hb4 hb34 hbW hbw hbw4 hsz hl2 hsz4
      generalize w4.heap.size = gc at *
      go_loopw [9, 13] (fun ok i wr => ∃ (j : Nat) (m3 : Cel.Mem) (A3 A4 : Option Addr) (c3 c4 : Nat) (z3 : Int), j ≤ nb ∧ ok = .bool true ∧ i = .int .i64 j ∧ Side wr (fun x => x = g ∨ x = gw ∨ x = gv ∨ x = gb ∨ x = q ∨ x = qw ∨ x = qv ∨ x = gc) k q qw qv gc k cv3 m3 A3 c3 A4 c4 z3 (40 + j) ∧ Side wr (fun x => x = g ∨ x = gw ∨ x = gv ∨ x = gb ∨ x = q ∨ x = qw ∨ x = qv ∨ x = gc) k g gw gv gb k k m2 A1 c1 A2 c2 z 40 ∧ Below w.heap.size w wr) (fun _ i _ => nb - (intOf i).toNat)
      case atStart => exact ⟨0, m2, A1, A2, c1, c2, z, by omega, rfl, rfl, by simpa using hBB, hAA, hbwW⟩
      case round =>
        clear hAA hBB hbwW
        obtain ⟨j, m2, A1, A2, c1, c2, z, hj2, rfl, rfl, hsd, hot, hbw⟩ := hrel
        by_cases hlt2 : j < nb
        · have hRb : ∀ (x : Nat) (u : World), (fun x => x = g ∨ x = gw ∨ x = gv ∨ x = gb ∨ x = q ∨ x = qw ∨ x = qv ∨ x = gc) x → x < wr.drew.heap.size := fun x _ hx => by
            have := hsd.mem.lt0; have := hsd.box.lt; have := hot.mem.lt0; have := hot.box.lt; have e : wr.drew.heap.size = wr.heap.size := rfl; rw [e]; omega
          obtain ⟨b, o, x, rfl, hbl, hx, hfit, hat⟩ := (hs'.below hbw).get hlt2
          obtain ⟨x0, x1, x2, x3⟩ := hat
          have i0 : (0 : Int) ≤ (j : Int) := by omega
          have i1 : (j : Int) < (nb : Int) := by omega
          have hra := rangeAt4 x0 x1 x2 x3
          clear x0 x1 x2 x3
          have hlb := hsd.mem.lt0
          have hlx := hsd.box.lt
          have hD := hsd.below (Below.refl _ _).drew
          have HDO := Lib.hid (law09_do hD.mem hD.st (fun q hq => hRb q (by exact wr.drew) hq) hD.rg hsd.fine ⟨by omega, by omega⟩ x)
          go_wp2_with fail
          refine wp_region_noPanic ?_
          refine wp_region_held_drew (S := fun _ => True) (by kernel_rfl) (trivial) (fun hHeld => ?_)
          refine wpAnyH_take2 (i := 0) (by simp only [List.getElem?_toArray, List.getElem?_cons_succ, List.getElem?_cons_zero]; first | done | exact rfl) ⟨?_, by kernel_rfl, by kernel_rfl, by kernel_rfl, fun _ _ _ h => h, Or.inl ⟨by rfl, ?_⟩, by assumption, ?_⟩
          rotate_left 1
          · (intro w9 hSw; (try dsimp only at hSw); go_simp; try (with_reducible rfl))
          try simp only [Act.put, List.setIfInBounds_toArray, List.set_cons_zero, List.set_cons_succ]
          refine wpAnyH_take2 (i := 2) (by simp only [List.getElem?_toArray, List.getElem?_cons_succ, List.getElem?_cons_zero]; first | done | exact rfl) ⟨?_, by kernel_rfl, by kernel_rfl, by kernel_rfl, fun _ _ _ h => h, Or.inl ⟨by rfl, ?_⟩, by assumption, ?_⟩
          rotate_left 1
          · (intro w9 hSw; (try dsimp only at hSw); go_simp; try (with_reducible rfl))
          try simp only [Act.put, List.setIfInBounds_toArray, List.set_cons_zero, List.set_cons_succ]
          refine wpAnyH_take2 (i := 3) (by simp only [List.getElem?_toArray, List.getElem?_cons_succ, List.getElem?_cons_zero]; first | done | exact rfl) ⟨?_, by kernel_rfl, by kernel_rfl, by kernel_rfl, fun _ _ _ h => h, Or.inl ⟨by rfl, ?_⟩, by assumption, ?_⟩
          rotate_left 1
          · (intro w9 hSw; (try dsimp only at hSw); go_simp; try (with_reducible rfl))
          try simp only [Act.put, List.setIfInBounds_toArray, List.set_cons_zero, List.set_cons_succ]
          refine wpAnyH_take2 (i := 4) (by simp only [List.getElem?_toArray, List.getElem?_cons_succ, List.getElem?_cons_zero]; first | done | exact rfl) ⟨?_, by kernel_rfl, by kernel_rfl, by kernel_rfl, fun _ _ _ h => h, Or.inl ⟨by rfl, ?_⟩, by assumption, ?_⟩
          rotate_left 1
          · (intro w9 hSw; (try dsimp only at hSw); go_simp; try (with_reducible rfl))
          try simp only [Act.put, List.setIfInBounds_toArray, List.set_cons_zero, List.set_cons_succ]
          refine wpAnyH_ready (rs := [1, 5]) (by kernel_rfl) (by simp) ?_
          refine AllReadyH.cons3 (by simp only [List.getElem?_toArray, List.getElem?_cons_succ, List.getElem?_cons_zero]; first | done | exact rfl) (fun K hK => ?_) (AllReadyH.cons2 (by simp only [List.getElem?_toArray, List.getElem?_cons_succ, List.getElem?_cons_zero]; first | done | exact rfl) (fun K hK => ?_))
          · refine step_load_row rfl 45 (.tmp 12) rfl gc rfl 45 _ (0, 0) _ (by exact hsd.box) Try.underlying45 rfl (by kernel_rfl) ?_
            refine hK.out _ _ (trivial) (fun hHeld => ?_)
            clear hK K
            try simp only [Act.put, List.setIfInBounds_toArray, List.set_cons_zero, List.set_cons_succ]
            refine wpAnyH_ready (rs := [5]) (by kernel_rfl) (by simp) ?_
            refine AllReadyH.cons2 (by simp only [List.getElem?_toArray, List.getElem?_cons_succ, List.getElem?_cons_zero]; first | done | exact rfl) (fun K hK => ?_)
            refine step_load_mid rfl 39 (.tmp 79) rfl b (o + j * 4) rfl [I64 x.op, I64 x.a, I64 x.n, .int .u32 (x.v.toNat : Int)] _ (by exact hra) Try.underlying39 rfl (by kernel_rfl) ?_
            refine hK.out _ _ (trivial) (fun hHeld => ?_)
            clear hK K
            try simp only [Act.put, List.setIfInBounds_toArray, List.set_cons_zero, List.set_cons_succ]
            refine wpAnyH_ready (rs := [6]) (by kernel_rfl) (by simp) ?_
            refine AllReadyH.cons2 (by simp only [List.getElem?_toArray, List.getElem?_cons_succ, List.getElem?_cons_zero]; first | done | exact rfl) (fun K hK => ?_)
            rw [if_pos (by rfl)]
            go_simp
            refine HDO.out.mono ?_
            rintro e w2 ⟨s2, rfl, hm2, hs2, ho2⟩
            have HS2 := Lib.hid hs2
            obtain ⟨A5, c5, A6, c6, z6, rfl, _, _, _, _, _⟩ := hs2
            have hb2 : Blk w2 gc 45 _ := Blk.only hD.box ho2 hD.ne
            unfold stOf
            go_wp2_with fail
            refine hK.out _ _ (trivial) (fun hHeld => ?_)
            clear hK K
            try simp only [Act.put, List.setIfInBounds_toArray, List.set_cons_zero, List.set_cons_succ]
            refine wpAnyH_take2 (i := 7) (by simp only [List.getElem?_toArray, List.getElem?_cons_succ, List.getElem?_cons_zero]; first | done | exact rfl) ⟨?_, by kernel_rfl, by kernel_rfl, by kernel_rfl, fun _ _ _ h => h, Or.inl ⟨by rfl, ?_⟩, by assumption, ?_⟩
            rotate_left 1
            · (intro w9 hSw; (try dsimp only at hSw); go_simp; try (with_reducible rfl))
            try simp only [Act.put, List.setIfInBounds_toArray, List.set_cons_zero, List.set_cons_succ]
            refine wpAnyH_take2 (i := 8) (by simp only [List.getElem?_toArray, List.getElem?_cons_succ, List.getElem?_cons_zero]; first | done | exact rfl) ⟨?_, by kernel_rfl, by kernel_rfl, by kernel_rfl, fun _ _ _ h => h, Or.inl ⟨by rfl, ?_⟩, by assumption, ?_⟩
            rotate_left 1
            · (intro w9 hSw; (try dsimp only at hSw); go_simp; try (with_reducible rfl))
            try simp only [Act.put, List.setIfInBounds_toArray, List.set_cons_zero, List.set_cons_succ]
            refine wpAnyH_take2 (i := 9) (by simp only [List.getElem?_toArray, List.getElem?_cons_succ, List.getElem?_cons_zero]; first | done | exact rfl) ⟨?_, by kernel_rfl, by kernel_rfl, by kernel_rfl, fun _ _ _ h => h, Or.inl ⟨by rfl, ?_⟩, by assumption, ?_⟩
            rotate_left 1
            · (intro w9 hSw; (try dsimp only at hSw); go_simp; try (with_reducible rfl))
            try simp only [Act.put, List.setIfInBounds_toArray, List.set_cons_zero, List.set_cons_succ]
            refine wpAnyH_ready (rs := [10]) (by kernel_rfl) (by simp) ?_
            refine AllReadyH.cons2 (by simp only [List.getElem?_toArray, List.getElem?_cons_succ, List.getElem?_cons_zero]; first | done | exact rfl) (fun K hK => ?_)
            refine step_store_row rfl 45 (.tmp 12) (.tmp 82) rfl gc #[.slice A5 k c5, .slice A6 k c6, I64 (m2.apply x).endurance, I64 (m2.apply x).writes, I64 (m2.apply x).cuts, .bool (!(m2.apply x).off), I64 z6] rfl rfl 45 _ hb2 (by kernel_rfl) rfl (st_one _ _ _ _ _ _ _ _ _ _ _) ?_
            refine hK.out _ _ (trivial) (fun hHeld => ?_)
            clear hK K
            try simp only [Act.put, List.setIfInBounds_toArray, List.set_cons_zero, List.set_cons_succ]
            refine wpAnyH_take2 (i := 11) (by simp only [List.getElem?_toArray, List.getElem?_cons_succ, List.getElem?_cons_zero]; first | done | exact rfl) ⟨?_, by kernel_rfl, by kernel_rfl, by kernel_rfl, fun _ _ _ h => h, Or.inl ⟨by rfl, ?_⟩, by assumption, ?_⟩
            rotate_left 1
            · (intro w9 hSw; (try dsimp only at hSw); go_simp; try (with_reducible rfl))
            try simp only [Act.put, List.setIfInBounds_toArray, List.set_cons_zero, List.set_cons_succ]
            refine wpAnyH_done (by kernel_rfl) ?_ _
            refine NoPanic.normal ?_
            go_wp2_with fail
            go_roundw
            case rel =>
              have hS := hD.step (by omega) x hfit.2.2.2 hm2 HS2.out ho2
              exact ⟨j + 1, m2.apply x, A5, A6, c5, c6, z6, by omega, rfl, by go_num, by have := hS; rw [show ((40 : Int) + (j : Int)) + 1 = 40 + ((j + 1 : Nat) : Int) by omega] at this; exact this, ((hot.below (Below.refl _ _).drew).only (R' := fun x => MemR q qw qv x ∨ x = gc) ((ho2.mono fun _ _ h => .inl h).setRow (.inr rfl) _) (fun x hx => by unfold MemR at hx; omega) (fun x hx => by unfold MemR at hx ⊢; omega) (by unfold MemR; omega)), Below.setRow (hbw.drew.trans (ho2.below (show w.heap.size ≤ wr.drew.heap.size from hbw.size) (fun q hq h => by unfold MemR at h; omega))) (by omega) _⟩
            case measure => simp [intOf]; omega
          · refine step_load_mid rfl 39 (.tmp 79) rfl b (o + j * 4) rfl [I64 x.op, I64 x.a, I64 x.n, .int .u32 (x.v.toNat : Int)] _ (by exact hra) Try.underlying39 rfl (by kernel_rfl) ?_
            refine hK.out _ _ (trivial) (fun hHeld => ?_)
            clear hK K
            try simp only [Act.put, List.setIfInBounds_toArray, List.set_cons_zero, List.set_cons_succ]
            refine wpAnyH_ready (rs := [1]) (by kernel_rfl) (by simp) ?_
            refine AllReadyH.cons2 (by simp only [List.getElem?_toArray, List.getElem?_cons_succ, List.getElem?_cons_zero]; first | done | exact rfl) (fun K hK => ?_)
            refine step_load_row rfl 45 (.tmp 12) rfl gc rfl 45 _ (0, 0) _ (by exact hsd.box) Try.underlying45 rfl (by kernel_rfl) ?_
            refine hK.out _ _ (trivial) (fun hHeld => ?_)
            clear hK K
            try simp only [Act.put, List.setIfInBounds_toArray, List.set_cons_zero, List.set_cons_succ]
            refine wpAnyH_ready (rs := [6]) (by kernel_rfl) (by simp) ?_
            refine AllReadyH.cons2 (by simp only [List.getElem?_toArray, List.getElem?_cons_succ, List.getElem?_cons_zero]; first | done | exact rfl) (fun K hK => ?_)
            rw [if_pos (by rfl)]
            go_simp
            refine HDO.out.mono ?_
            rintro e w2 ⟨s2, rfl, hm2, hs2, ho2⟩
            have HS2 := Lib.hid hs2
            obtain ⟨A5, c5, A6, c6, z6, rfl, _, _, _, _, _⟩ := hs2
            have hb2 : Blk w2 gc 45 _ := Blk.only hD.box ho2 hD.ne
            unfold stOf
            go_wp2_with fail
            refine hK.out _ _ (trivial) (fun hHeld => ?_)
            clear hK K
            try simp only [Act.put, List.setIfInBounds_toArray, List.set_cons_zero, List.set_cons_succ]
            refine wpAnyH_take2 (i := 7) (by simp only [List.getElem?_toArray, List.getElem?_cons_succ, List.getElem?_cons_zero]; first | done | exact rfl) ⟨?_, by kernel_rfl, by kernel_rfl, by kernel_rfl, fun _ _ _ h => h, Or.inl ⟨by rfl, ?_⟩, by assumption, ?_⟩
            rotate_left 1
            · (intro w9 hSw; (try dsimp only at hSw); go_simp; try (with_reducible rfl))
            try simp only [Act.put, List.setIfInBounds_toArray, List.set_cons_zero, List.set_cons_succ]
            refine wpAnyH_take2 (i := 8) (by simp only [List.getElem?_toArray, List.getElem?_cons_succ, List.getElem?_cons_zero]; first | done | exact rfl) ⟨?_, by kernel_rfl, by kernel_rfl, by kernel_rfl, fun _ _ _ h => h, Or.inl ⟨by rfl, ?_⟩, by assumption, ?_⟩
            rotate_left 1
            · (intro w9 hSw; (try dsimp only at hSw); go_simp; try (with_reducible rfl))
            try simp only [Act.put, List.setIfInBounds_toArray, List.set_cons_zero, List.set_cons_succ]
            refine wpAnyH_take2 (i := 9) (by simp only [List.getElem?_toArray, List.getElem?_cons_succ, List.getElem?_cons_zero]; first | done | exact rfl) ⟨?_, by kernel_rfl, by kernel_rfl, by kernel_rfl, fun _ _ _ h => h, Or.inl ⟨by rfl, ?_⟩, by assumption, ?_⟩
            rotate_left 1
            · (intro w9 hSw; (try dsimp only at hSw); go_simp; try (with_reducible rfl))
            try simp only [Act.put, List.setIfInBounds_toArray, List.set_cons_zero, List.set_cons_succ]
            refine wpAnyH_ready (rs := [10]) (by kernel_rfl) (by simp) ?_
            refine AllReadyH.cons2 (by simp only [List.getElem?_toArray, List.getElem?_cons_succ, List.getElem?_cons_zero]; first | done | exact rfl) (fun K hK => ?_)
            refine step_store_row rfl 45 (.tmp 12) (.tmp 82) rfl gc #[.slice A5 k c5, .slice A6 k c6, I64 (m2.apply x).endurance, I64 (m2.apply x).writes, I64 (m2.apply x).cuts, .bool (!(m2.apply x).off), I64 z6] rfl rfl 45 _ hb2 (by kernel_rfl) rfl (st_one _ _ _ _ _ _ _ _ _ _ _) ?_
            refine hK.out _ _ (trivial) (fun hHeld => ?_)
            clear hK K
            try simp only [Act.put, List.setIfInBounds_toArray, List.set_cons_zero, List.set_cons_succ]
            refine wpAnyH_take2 (i := 11) (by simp only [List.getElem?_toArray, List.getElem?_cons_succ, List.getElem?_cons_zero]; first | done | exact rfl) ⟨?_, by kernel_rfl, by kernel_rfl, by kernel_rfl, fun _ _ _ h => h, Or.inl ⟨by rfl, ?_⟩, by assumption, ?_⟩
            rotate_left 1
            · (intro w9 hSw; (try dsimp only at hSw); go_simp; try (with_reducible rfl))
            try simp only [Act.put, List.setIfInBounds_toArray, List.set_cons_zero, List.set_cons_succ]
            refine wpAnyH_done (by kernel_rfl) ?_ _
            refine NoPanic.normal ?_
            go_wp2_with fail
            go_roundw
            case rel =>
              have hS := hD.step (by omega) x hfit.2.2.2 hm2 HS2.out ho2
              exact ⟨j + 1, m2.apply x, A5, A6, c5, c6, z6, by omega, rfl, by go_num, by have := hS; rw [show ((40 : Int) + (j : Int)) + 1 = 40 + ((j + 1 : Nat) : Int) by omega] at this; exact this, ((hot.below (Below.refl _ _).drew).only (R' := fun x => MemR q qw qv x ∨ x = gc) ((ho2.mono fun _ _ h => .inl h).setRow (.inr rfl) _) (fun x hx => by unfold MemR at hx; omega) (fun x hx => by unfold MemR at hx ⊢; omega) (by unfold MemR; omega)), Below.setRow (hbw.drew.trans (ho2.below (show w.heap.size ≤ wr.drew.heap.size from hbw.size) (fun q hq h => by unfold MemR at h; omega))) (by omega) _⟩
            case measure => simp [intOf]; omega
        · go_wp2_with ((with_reducible show wpList _ _ _ (Oper.mk _ (Op.load 45 (Operand.tmp 8)) _ _ _ _ :: _) _ _); refine wpList_load_row rfl 45 (.tmp 8) rfl gb rfl 45 _ (0, 0) _ hot.box Try.underlying45 rfl (by kernel_rfl) ?_)
          refine (law09_seen hot.mem hot.st).mono ?_
          rintro e w5 ⟨rfl, hb5⟩
          have hsd5 := hsd.below hb5
          have hot5 := hot.below hb5
          have hbw5 := hbw.trans (hb5.mono hbw.size)
          clear hsd hot hbw hb5
          have y0 := hsd5.box.cell 0
          have y1 := hsd5.box.cell 1
          have y2 := hsd5.box.cell 2
          have y3 := hsd5.box.cell 3
          have y4 := hsd5.box.cell 4
          have y5 := hsd5.box.cell 5
          have y6 := hsd5.box.cell 6
          go_wp2_with fail
          clear y0 y1 y2 y3 y4 y5 y6
          refine (law09_seen hsd5.mem hsd5.st).mono ?_
          rintro e w6 ⟨rfl, hb6⟩
          have hsd6 := hsd5.below hb6
          have hot6 := hot5.below hb6
          have hbw6 := hbw5.trans (hb6.mono hbw5.size)
          clear hsd5 hot5 hbw5 hb6
          go_wp2_with fail
          go_loopw [9, 14] (fun ok i wr => ∃ (j3 : Nat) (m3 : Cel.Mem) (A3 A4 : Option Addr) (c3 c4 : Nat) (z3 : Int), j3 ≤ nb ∧ ok = .bool true ∧ i = .int .i64 j3 ∧ Side wr (fun x => x = g ∨ x = gw ∨ x = gv ∨ x = gb ∨ x = q ∨ x = qw ∨ x = qv ∨ x = gc) k g gw gv gb k k m3 A3 c3 A4 c4 z3 (40 + j3) ∧ Side wr (fun x => x = g ∨ x = gw ∨ x = gv ∨ x = gb ∨ x = q ∨ x = qw ∨ x = qv ∨ x = gc) k q qw qv gc k cv3 m2 A1 c1 A2 c2 z (40 + j) ∧ Below w.heap.size w wr) (fun _ i _ => nb - (intOf i).toNat)
          case atStart => exact ⟨0, _, _, _, _, _, _, by omega, rfl, rfl, by simpa using hot6, hsd6, hbw6⟩
          case round =>
            clear hsd6 hot6 hbw6
            obtain ⟨j, m2, A1, A2, c1, c2, z, hj3, rfl, rfl, hsd, hot, hbw⟩ := hrel
            by_cases hlt2 : j < nb
            · have hRb : ∀ (x : Nat) (u : World), (fun x => x = g ∨ x = gw ∨ x = gv ∨ x = gb ∨ x = q ∨ x = qw ∨ x = qv ∨ x = gc) x → x < wr.drew.heap.size := fun x _ hx => by
                have := hsd.mem.lt0; have := hsd.box.lt; have := hot.mem.lt0; have := hot.box.lt; have e : wr.drew.heap.size = wr.heap.size := rfl; rw [e]; omega
              obtain ⟨b, o, x, rfl, hbl, hx, hfit, hat⟩ := (hs'.below hbw).get hlt2
              obtain ⟨x0, x1, x2, x3⟩ := hat
              have i0 : (0 : Int) ≤ (j : Int) := by omega
              have i1 : (j : Int) < (nb : Int) := by omega
              have hra := rangeAt4 x0 x1 x2 x3
              clear x0 x1 x2 x3
              have hlb := hsd.mem.lt0
              have hlx := hsd.box.lt
              have hD := hsd.below (Below.refl _ _).drew
              have HDO := Lib.hid (law09_do hD.mem hD.st (fun q hq => hRb q (by exact wr.drew) hq) hD.rg hsd.fine ⟨by omega, by omega⟩ x)
              go_wp2_with fail
              refine wp_region_noPanic ?_
              refine wp_region_held_drew (S := fun _ => True) (by kernel_rfl) (trivial) (fun hHeld => ?_)
              refine wpAnyH_take2 (i := 0) (by simp only [List.getElem?_toArray, List.getElem?_cons_succ, List.getElem?_cons_zero]; first | done | exact rfl) ⟨?_, by kernel_rfl, by kernel_rfl, by kernel_rfl, fun _ _ _ h => h, Or.inl ⟨by rfl, ?_⟩, by assumption, ?_⟩
              rotate_left 1
              · (intro w9 hSw; (try dsimp only at hSw); go_simp; try (with_reducible rfl))
              try simp only [Act.put, List.setIfInBounds_toArray, List.set_cons_zero, List.set_cons_succ]
              refine wpAnyH_take2 (i := 2) (by simp only [List.getElem?_toArray, List.getElem?_cons_succ, List.getElem?_cons_zero]; first | done | exact rfl) ⟨?_, by kernel_rfl, by kernel_rfl, by kernel_rfl, fun _ _ _ h => h, Or.inl ⟨by rfl, ?_⟩, by assumption, ?_⟩
              rotate_left 1
              · (intro w9 hSw; (try dsimp only at hSw); go_simp; try (with_reducible rfl))
              try simp only [Act.put, List.setIfInBounds_toArray, List.set_cons_zero, List.set_cons_succ]
              refine wpAnyH_take2 (i := 3) (by simp only [List.getElem?_toArray, List.getElem?_cons_succ, List.getElem?_cons_zero]; first | done | exact rfl) ⟨?_, by kernel_rfl, by kernel_rfl, by kernel_rfl, fun _ _ _ h => h, Or.inl ⟨by rfl, ?_⟩, by assumption, ?_⟩
              rotate_left 1
              · (intro w9 hSw; (try dsimp only at hSw); go_simp; try (with_reducible rfl))
              try simp only [Act.put, List.setIfInBounds_toArray, List.set_cons_zero, List.set_cons_succ]
              refine wpAnyH_take2 (i := 4) (by simp only [List.getElem?_toArray, List.getElem?_cons_succ, List.getElem?_cons_zero]; first | done | exact rfl) ⟨?_, by kernel_rfl, by kernel_rfl, by kernel_rfl, fun _ _ _ h => h, Or.inl ⟨by rfl, ?_⟩, by assumption, ?_⟩
              rotate_left 1
              · (intro w9 hSw; (try dsimp only at hSw); go_simp; try (with_reducible rfl))
              try simp only [Act.put, List.setIfInBounds_toArray, List.set_cons_zero, List.set_cons_succ]
              refine wpAnyH_ready (rs := [1, 5]) (by kernel_rfl) (by simp) ?_
              refine AllReadyH.cons3 (by simp only [List.getElem?_toArray, List.getElem?_cons_succ, List.getElem?_cons_zero]; first | done | exact rfl) (fun K hK => ?_) (AllReadyH.cons2 (by simp only [List.getElem?_toArray, List.getElem?_cons_succ, List.getElem?_cons_zero]; first | done | exact rfl) (fun K hK => ?_))
              · refine step_load_row rfl 45 (.tmp 8) rfl gb rfl 45 _ (0, 0) _ (by exact hsd.box) Try.underlying45 rfl (by kernel_rfl) ?_
                refine hK.out _ _ (trivial) (fun hHeld => ?_)
                clear hK K
                try simp only [Act.put, List.setIfInBounds_toArray, List.set_cons_zero, List.set_cons_succ]
                refine wpAnyH_ready (rs := [5]) (by kernel_rfl) (by simp) ?_
                refine AllReadyH.cons2 (by simp only [List.getElem?_toArray, List.getElem?_cons_succ, List.getElem?_cons_zero]; first | done | exact rfl) (fun K hK => ?_)
                refine step_load_mid rfl 39 (.tmp 107) rfl b (o + j * 4) rfl [I64 x.op, I64 x.a, I64 x.n, .int .u32 (x.v.toNat : Int)] _ (by exact hra) Try.underlying39 rfl (by kernel_rfl) ?_
                refine hK.out _ _ (trivial) (fun hHeld => ?_)
                clear hK K
                try simp only [Act.put, List.setIfInBounds_toArray, List.set_cons_zero, List.set_cons_succ]
                refine wpAnyH_ready (rs := [6]) (by kernel_rfl) (by simp) ?_
                refine AllReadyH.cons2 (by simp only [List.getElem?_toArray, List.getElem?_cons_succ, List.getElem?_cons_zero]; first | done | exact rfl) (fun K hK => ?_)
                rw [if_pos (by rfl)]
                go_simp
                refine HDO.out.mono ?_
                rintro e w2 ⟨s2, rfl, hm2, hs2, ho2⟩
                have HS2 := Lib.hid hs2
                obtain ⟨A5, c5, A6, c6, z6, rfl, _, _, _, _, _⟩ := hs2
                have hb2 : Blk w2 gb 45 _ := Blk.only hD.box ho2 hD.ne
                unfold stOf
                go_wp2_with fail
                refine hK.out _ _ (trivial) (fun hHeld => ?_)
                clear hK K
                try simp only [Act.put, List.setIfInBounds_toArray, List.set_cons_zero, List.set_cons_succ]
                refine wpAnyH_take2 (i := 7) (by simp only [List.getElem?_toArray, List.getElem?_cons_succ, List.getElem?_cons_zero]; first | done | exact rfl) ⟨?_, by kernel_rfl, by kernel_rfl, by kernel_rfl, fun _ _ _ h => h, Or.inl ⟨by rfl, ?_⟩, by assumption, ?_⟩
                rotate_left 1
                · (intro w9 hSw; (try dsimp only at hSw); go_simp; try (with_reducible rfl))
                try simp only [Act.put, List.setIfInBounds_toArray, List.set_cons_zero, List.set_cons_succ]
                refine wpAnyH_take2 (i := 8) (by simp only [List.getElem?_toArray, List.getElem?_cons_succ, List.getElem?_cons_zero]; first | done | exact rfl) ⟨?_, by kernel_rfl, by kernel_rfl, by kernel_rfl, fun _ _ _ h => h, Or.inl ⟨by rfl, ?_⟩, by assumption, ?_⟩
                rotate_left 1
                · (intro w9 hSw; (try dsimp only at hSw); go_simp; try (with_reducible rfl))
                try simp only [Act.put, List.setIfInBounds_toArray, List.set_cons_zero, List.set_cons_succ]
                refine wpAnyH_take2 (i := 9) (by simp only [List.getElem?_toArray, List.getElem?_cons_succ, List.getElem?_cons_zero]; first | done | exact rfl) ⟨?_, by kernel_rfl, by kernel_rfl, by kernel_rfl, fun _ _ _ h => h, Or.inl ⟨by rfl, ?_⟩, by assumption, ?_⟩
                rotate_left 1
                · (intro w9 hSw; (try dsimp only at hSw); go_simp; try (with_reducible rfl))
                try simp only [Act.put, List.setIfInBounds_toArray, List.set_cons_zero, List.set_cons_succ]
                refine wpAnyH_ready (rs := [10]) (by kernel_rfl) (by simp) ?_
                refine AllReadyH.cons2 (by simp only [List.getElem?_toArray, List.getElem?_cons_succ, List.getElem?_cons_zero]; first | done | exact rfl) (fun K hK => ?_)
                refine step_store_row rfl 45 (.tmp 8) (.tmp 110) rfl gb #[.slice A5 k c5, .slice A6 k c6, I64 (m2.apply x).endurance, I64 (m2.apply x).writes, I64 (m2.apply x).cuts, .bool (!(m2.apply x).off), I64 z6] rfl rfl 45 _ hb2 (by kernel_rfl) rfl (st_one _ _ _ _ _ _ _ _ _ _ _) ?_
                refine hK.out _ _ (trivial) (fun hHeld => ?_)
                clear hK K
                try simp only [Act.put, List.setIfInBounds_toArray, List.set_cons_zero, List.set_cons_succ]
                refine wpAnyH_take2 (i := 11) (by simp only [List.getElem?_toArray, List.getElem?_cons_succ, List.getElem?_cons_zero]; first | done | exact rfl) ⟨?_, by kernel_rfl, by kernel_rfl, by kernel_rfl, fun _ _ _ h => h, Or.inl ⟨by rfl, ?_⟩, by assumption, ?_⟩
                rotate_left 1
                · (intro w9 hSw; (try dsimp only at hSw); go_simp; try (with_reducible rfl))
                try simp only [Act.put, List.setIfInBounds_toArray, List.set_cons_zero, List.set_cons_succ]
                refine wpAnyH_done (by kernel_rfl) ?_ _
                refine NoPanic.normal ?_
                go_wp2_with fail
                go_roundw
                case rel =>
                  have hS := hD.step (by omega) x hfit.2.2.2 hm2 HS2.out ho2
                  exact ⟨j + 1, m2.apply x, A5, A6, c5, c6, z6, by omega, rfl, by go_num, by have := hS; rw [show ((40 : Int) + (j : Int)) + 1 = 40 + ((j + 1 : Nat) : Int) by omega] at this; exact this, ((hot.below (Below.refl _ _).drew).only (R' := fun x => MemR g gw gv x ∨ x = gb) ((ho2.mono fun _ _ h => .inl h).setRow (.inr rfl) _) (fun x hx => by unfold MemR at hx; omega) (fun x hx => by unfold MemR at hx ⊢; omega) (by unfold MemR; omega)), Below.setRow (hbw.drew.trans (ho2.below (show w.heap.size ≤ wr.drew.heap.size from hbw.size) (fun q hq h => by unfold MemR at h; omega))) (by omega) _⟩
                case measure => simp [intOf]; omega
              · refine step_load_mid rfl 39 (.tmp 107) rfl b (o + j * 4) rfl [I64 x.op, I64 x.a, I64 x.n, .int .u32 (x.v.toNat : Int)] _ (by exact hra) Try.underlying39 rfl (by kernel_rfl) ?_
                refine hK.out _ _ (trivial) (fun hHeld => ?_)
                clear hK K
                try simp only [Act.put, List.setIfInBounds_toArray, List.set_cons_zero, List.set_cons_succ]
                refine wpAnyH_ready (rs := [1]) (by kernel_rfl) (by simp) ?_
                refine AllReadyH.cons2 (by simp only [List.getElem?_toArray, List.getElem?_cons_succ, List.getElem?_cons_zero]; first | done | exact rfl) (fun K hK => ?_)
                refine step_load_row rfl 45 (.tmp 8) rfl gb rfl 45 _ (0, 0) _ (by exact hsd.box) Try.underlying45 rfl (by kernel_rfl) ?_
                refine hK.out _ _ (trivial) (fun hHeld => ?_)
                clear hK K
                try simp only [Act.put, List.setIfInBounds_toArray, List.set_cons_zero, List.set_cons_succ]
                refine wpAnyH_ready (rs := [6]) (by kernel_rfl) (by simp) ?_
                refine AllReadyH.cons2 (by simp only [List.getElem?_toArray, List.getElem?_cons_succ, List.getElem?_cons_zero]; first | done | exact rfl) (fun K hK => ?_)
                rw [if_pos (by rfl)]
                go_simp
                refine HDO.out.mono ?_
                rintro e w2 ⟨s2, rfl, hm2, hs2, ho2⟩
                have HS2 := Lib.hid hs2
                obtain ⟨A5, c5, A6, c6, z6, rfl, _, _, _, _, _⟩ := hs2
                have hb2 : Blk w2 gb 45 _ := Blk.only hD.box ho2 hD.ne
                unfold stOf
                go_wp2_with fail
                refine hK.out _ _ (trivial) (fun hHeld => ?_)
                clear hK K
                try simp only [Act.put, List.setIfInBounds_toArray, List.set_cons_zero, List.set_cons_succ]
                refine wpAnyH_take2 (i := 7) (by simp only [List.getElem?_toArray, List.getElem?_cons_succ, List.getElem?_cons_zero]; first | done | exact rfl) ⟨?_, by kernel_rfl, by kernel_rfl, by kernel_rfl, fun _ _ _ h => h, Or.inl ⟨by rfl, ?_⟩, by assumption, ?_⟩
                rotate_left 1
                · (intro w9 hSw; (try dsimp only at hSw); go_simp; try (with_reducible rfl))
                try simp only [Act.put, List.setIfInBounds_toArray, List.set_cons_zero, List.set_cons_succ]
                refine wpAnyH_take2 (i := 8) (by simp only [List.getElem?_toArray, List.getElem?_cons_succ, List.getElem?_cons_zero]; first | done | exact rfl) ⟨?_, by kernel_rfl, by kernel_rfl, by kernel_rfl, fun _ _ _ h => h, Or.inl ⟨by rfl, ?_⟩, by assumption, ?_⟩
                rotate_left 1
                · (intro w9 hSw; (try dsimp only at hSw); go_simp; try (with_reducible rfl))
                try simp only [Act.put, List.setIfInBounds_toArray, List.set_cons_zero, List.set_cons_succ]
                refine wpAnyH_take2 (i := 9) (by simp only [List.getElem?_toArray, List.getElem?_cons_succ, List.getElem?_cons_zero]; first | done | exact rfl) ⟨?_, by kernel_rfl, by kernel_rfl, by kernel_rfl, fun _ _ _ h => h, Or.inl ⟨by rfl, ?_⟩, by assumption, ?_⟩
                rotate_left 1
                · (intro w9 hSw; (try dsimp only at hSw); go_simp; try (with_reducible rfl))
                try simp only [Act.put, List.setIfInBounds_toArray, List.set_cons_zero, List.set_cons_succ]
                refine wpAnyH_ready (rs := [10]) (by kernel_rfl) (by simp) ?_
                refine AllReadyH.cons2 (by simp only [List.getElem?_toArray, List.getElem?_cons_succ, List.getElem?_cons_zero]; first | done | exact rfl) (fun K hK => ?_)
                refine step_store_row rfl 45 (.tmp 8) (.tmp 110) rfl gb #[.slice A5 k c5, .slice A6 k c6, I64 (m2.apply x).endurance, I64 (m2.apply x).writes, I64 (m2.apply x).cuts, .bool (!(m2.apply x).off), I64 z6] rfl rfl 45 _ hb2 (by kernel_rfl) rfl (st_one _ _ _ _ _ _ _ _ _ _ _) ?_
                refine hK.out _ _ (trivial) (fun hHeld => ?_)
                clear hK K
                try simp only [Act.put, List.setIfInBounds_toArray, List.set_cons_zero, List.set_cons_succ]
                refine wpAnyH_take2 (i := 11) (by simp only [List.getElem?_toArray, List.getElem?_cons_succ, List.getElem?_cons_zero]; first | done | exact rfl) ⟨?_, by kernel_rfl, by kernel_rfl, by kernel_rfl, fun _ _ _ h => h, Or.inl ⟨by rfl, ?_⟩, by assumption, ?_⟩
                rotate_left 1
                · (intro w9 hSw; (try dsimp only at hSw); go_simp; try (with_reducible rfl))
                try simp only [Act.put, List.setIfInBounds_toArray, List.set_cons_zero, List.set_cons_succ]
                refine wpAnyH_done (by kernel_rfl) ?_ _
                refine NoPanic.normal ?_
                go_wp2_with fail
                go_roundw
                case rel =>
                  have hS := hD.step (by omega) x hfit.2.2.2 hm2 HS2.out ho2
                  exact ⟨j + 1, m2.apply x, A5, A6, c5, c6, z6, by omega, rfl, by go_num, by have := hS; rw [show ((40 : Int) + (j : Int)) + 1 = 40 + ((j + 1 : Nat) : Int) by omega] at this; exact this, ((hot.below (Below.refl _ _).drew).only (R' := fun x => MemR g gw gv x ∨ x = gb) ((ho2.mono fun _ _ h => .inl h).setRow (.inr rfl) _) (fun x hx => by unfold MemR at hx; omega) (fun x hx => by unfold MemR at hx ⊢; omega) (by unfold MemR; omega)), Below.setRow (hbw.drew.trans (ho2.below (show w.heap.size ≤ wr.drew.heap.size from hbw.size) (fun q hq h => by unfold MemR at h; omega))) (by omega) _⟩
                case measure => simp [intOf]; omega
            · go_wp2_with ((with_reducible show wpList _ _ _ (Oper.mk _ (Op.load 45 (Operand.tmp 8)) _ _ _ _ :: _) _ _); refine wpList_load_row rfl 45 (.tmp 8) rfl gb rfl 45 _ (0, 0) _ hsd.box Try.underlying45 rfl (by kernel_rfl) ?_)
              refine (law09_seen hsd.mem hsd.st).mono ?_
              rintro e w5 ⟨rfl, hb5⟩
              have hot5 := hot.below hb5
              have hbw5 := hbw.trans (hb5.mono hbw.size)
              clear hsd hot hbw hb5
              have y0 := hot5.box.cell 0
              have y1 := hot5.box.cell 1
              have y2 := hot5.box.cell 2
              have y3 := hot5.box.cell 3
              have y4 := hot5.box.cell 4
              have y5 := hot5.box.cell 5
              have y6 := hot5.box.cell 6
              go_wp2_with fail
              clear y0 y1 y2 y3 y4 y5 y6
              refine (law09_seen hot5.mem hot5.st).mono ?_
              rintro e w6 ⟨rfl, hb6⟩
              have hbw6 := hbw5.trans (hb6.mono hbw5.size)
              clear hot5 hbw5 hb6
              go_wp2_with (go_at_call 12; refine (law09_awake _).mono ?_; rintro e w7 ⟨rfl, hb7⟩)
              go_ret
              exact ⟨rfl, hbw6.trans (hb7.mono hbw6.size)⟩
end Go.Proofs.Ytdpfehdpglbidaa

