/-
  The walk of Clone.
-/
import Derived.Test.YtdpfehdpglbidaaCelY
namespace Go.Proofs.Ytdpfehdpglbidaa
open Go.RowKit

theorem take_set_next {α : Type} (l r : List α) (k : Nat) (hk : k < r.length) (hl : l.length = r.length) (h : l.take k = r.take k) : (l.set k r[k]).take (k + 1) = r.take (k + 1) := by
  rw [List.take_add_one, List.take_add_one, List.take_set, List.set_eq_of_length_le (by simp <;> omega), h]
  simp [hk, hl]

set_option maxRecDepth 100000 in
set_option maxHeartbeats 4000000 in
theorem cell_Clone {w : World} {g gw gv n cw cv : Nat} {m : Cel.Mem} (h : MemAt w g gw gv n cw cv m) :
    Calls Try.prog 22 #[.pointer (some ⟨g, 0, none⟩)] w fun e w' => ∃ q qw qv c2, e = .returned (.pointer (some ⟨q, 0, none⟩)) ∧ MemAt w' q qw qv n n c2 m ∧ w.heap.size ≤ q ∧ w.heap.size ≤ qw ∧ w.heap.size ≤ qv ∧ Below w.heap.size w w' := by
  have H := Lib.hid h
  obtain ⟨iu, hiu, hu0, hu1, hu2⟩ := info_parts i_u32
  have hmx := h.small
  have hpos := h.pos
  have mu : ∀ u : World, (Instr.makeSlice 22 (.int .i64 (n : Int)) (.int .i64 (n : Int))).run Try.prog u = .ok (.slice (some ⟨u.heap.size, 0, none⟩) n n) (u.alloc (.cells (madeCells #[.int .u32 0] n) 30)) := fun u => by
    have h := run_make (P := Try.prog) u 22 30 iu (.int .u32 0) Try.underlying22 hiu hu0 .i64 .i64 (n : Int) (n : Int) (by omega) (Int.le_refl _) (by rw [hu2]; omega) (by omega)
    simpa [hu1, Value.cells] using h
  have hlt := h.lt0
  have hgi : ∀ u : World, Below w.heap.size w u → Ints u u.heap.size (some ⟨gv, 0, none⟩) n cv m.wear := fun u hu => by
    refine ⟨h.lenw, h.wear.le, ?_⟩
    exact (h.wear.below hu).row
  have HGI := Lib.hid hgi
  clear h hgi
  go_enter Try.func22, Try.ntmps22
  go_wp2_with (first
    | (go_at_call 27; refine (cell_made H.out).mono ?_; rintro e w1 ⟨rfl, rfl⟩)
    | ((with_reducible show wpList _ _ _ (Oper.mk _ (Op.load 56 (Operand.tmp 9)) _ _ _ _ :: _) _ _); refine wpList_load_row rfl 56 (.tmp 9) rfl g rfl 56 _ (0, 0) _ H.out.box Try.underlying56 rfl (by kernel_rfl) ?_))
  have hb0 := Lib.hid ((Below.refl w.heap.size w).alloc (Nat.le_refl _) (.cells #[.slice (some ⟨gw, 0, none⟩) n cw, .slice (some ⟨gv, 0, none⟩) n cv, I64 m.endurance, I64 m.writes, I64 m.cuts, .bool m.off, .bool m.pending, I64 m.left] 56))
  have BG := Lib.hid (Blk.new w 56 #[.slice (some ⟨gw, 0, none⟩) n cw, .slice (some ⟨gv, 0, none⟩) n cv, I64 m.endurance, I64 m.writes, I64 m.cuts, .bool m.off, .bool m.pending, I64 m.left])
  have c0 : ∀ u : World, Below w.heap.size w u → u.cell? ⟨g, 0, none⟩ = some (.slice (some ⟨gw, 0, none⟩) n cw) := fun u hu => (hu.cell (p := ⟨g, 0, none⟩) hlt.1).trans H.out.c0
  have c1 : ∀ u : World, Below w.heap.size w u → u.cell? ⟨g, 1, none⟩ = some (.slice (some ⟨gv, 0, none⟩) n cv) := fun u hu => (hu.cell (p := ⟨g, 1, none⟩) hlt.1).trans H.out.c1
  have HC0 := Lib.hid c0
  have HC1 := Lib.hid c1
  clear c0 c1
  refine wp_region_noPanic ?_
  refine wp_region_held_drew (S := fun u => u.cell? ⟨g, 0, none⟩ = some (.slice (some ⟨gw, 0, none⟩) n cw) ∧ u.cell? ⟨g, 1, none⟩ = some (.slice (some ⟨gv, 0, none⟩) n cv)) (by kernel_rfl) (⟨HC0.out _ hb0.out.drew, HC1.out _ hb0.out.drew⟩) (fun hHeld => ?_)
  refine wpAnyH_take2 (i := 0) (by simp only [List.getElem?_toArray, List.getElem?_cons_succ, List.getElem?_cons_zero]; first | done | exact rfl) ⟨?_, by kernel_rfl, by kernel_rfl, by kernel_rfl, fun _ _ _ h => h, Or.inl ⟨by rfl, ?_⟩, by assumption, ?_⟩
  rotate_left 1
  · (intro w9 hSw; (try dsimp only at hSw); go_simp; try (with_reducible rfl))
  try simp only [Act.put, List.setIfInBounds_toArray, List.set_cons_zero, List.set_cons_succ]
  refine wpAnyH_take2 (i := 1) (by simp only [List.getElem?_toArray, List.getElem?_cons_succ, List.getElem?_cons_zero]; first | done | exact rfl) ⟨?_, by kernel_rfl, by kernel_rfl, by kernel_rfl, fun _ _ _ h => h, Or.inl ⟨by rfl, ?_⟩, by assumption, ?_⟩
  rotate_left 1
  · (intro w9 hSw; (try dsimp only at hSw); go_simp; try (with_reducible rfl))
  try simp only [Act.put, List.setIfInBounds_toArray, List.set_cons_zero, List.set_cons_succ]
  refine wpAnyH_take2 (i := 2) (by simp only [List.getElem?_toArray, List.getElem?_cons_succ, List.getElem?_cons_zero]; first | done | exact rfl) ⟨?_, by kernel_rfl, by kernel_rfl, by kernel_rfl, fun _ _ _ h => h, Or.inl ⟨by rfl, ?_⟩, by assumption, ?_⟩
  rotate_left 1
  · (intro w9 hSw; (try dsimp only at hSw); go_simp; try (with_reducible rfl))
  try simp only [Act.put, List.setIfInBounds_toArray, List.set_cons_zero, List.set_cons_succ]
  refine wpAnyH_take2 (i := 3) (by simp only [List.getElem?_toArray, List.getElem?_cons_succ, List.getElem?_cons_zero]; first | done | exact rfl) ⟨?_, by kernel_rfl, by kernel_rfl, by kernel_rfl, fun _ _ _ h => h, Or.inl ⟨by rfl, ?_⟩, by assumption, ?_⟩
  rotate_left 1
  · (intro w9 hSw; (try dsimp only at hSw); go_simp; try (with_reducible rfl))
  try simp only [Act.put, List.setIfInBounds_toArray, List.set_cons_zero, List.set_cons_succ]
  refine wpAnyH_take2 (i := 4) (by simp only [List.getElem?_toArray, List.getElem?_cons_succ, List.getElem?_cons_zero]; first | done | exact rfl) ⟨?_, by kernel_rfl, by kernel_rfl, by kernel_rfl, fun _ _ _ h => h, Or.inl ⟨by rfl, ?_⟩, by assumption, ?_⟩
  rotate_left 1
  · (intro w9 hSw; (try dsimp only at hSw); go_simp; try (with_reducible rfl))
  try simp only [Act.put, List.setIfInBounds_toArray, List.set_cons_zero, List.set_cons_succ]
  refine wpAnyH_take2 (i := 6) (by simp only [List.getElem?_toArray, List.getElem?_cons_succ, List.getElem?_cons_zero]; first | done | exact rfl) ⟨?_, by kernel_rfl, by kernel_rfl, by kernel_rfl, fun _ _ _ h => h, Or.inl ⟨by rfl, ?_⟩, by assumption, ?_⟩
  rotate_left 1
  · (intro w9 hSw; (try dsimp only at hSw); go_simp; try (with_reducible rfl))
  try simp only [Act.put, List.setIfInBounds_toArray, List.set_cons_zero, List.set_cons_succ]
  refine wpAnyH_take2 (i := 7) (by simp only [List.getElem?_toArray, List.getElem?_cons_succ, List.getElem?_cons_zero]; first | done | exact rfl) ⟨?_, by kernel_rfl, by kernel_rfl, by kernel_rfl, fun _ _ _ h => h, Or.inl ⟨by rfl, ?_⟩, by assumption, ?_⟩
  rotate_left 1
  · (intro w9 hSw; (try dsimp only at hSw); go_simp; try (with_reducible rfl))
  try simp only [Act.put, List.setIfInBounds_toArray, List.set_cons_zero, List.set_cons_succ]
  refine wpAnyH_take2 (i := 8) (by simp only [List.getElem?_toArray, List.getElem?_cons_succ, List.getElem?_cons_zero]; first | done | exact rfl) ⟨?_, by kernel_rfl, by kernel_rfl, by kernel_rfl, fun _ _ _ h => h, Or.inl ⟨by rfl, ?_⟩, by assumption, ?_⟩
  rotate_left 1
  · (intro w9 hSw; (try dsimp only at hSw); go_simp; try (with_reducible rfl))
  try simp only [Act.put, List.setIfInBounds_toArray, List.set_cons_zero, List.set_cons_succ]
  refine wpAnyH_take2 (i := 9) (by simp only [List.getElem?_toArray, List.getElem?_cons_succ, List.getElem?_cons_zero]; first | done | exact rfl) ⟨?_, by kernel_rfl, by kernel_rfl, by kernel_rfl, fun _ _ _ h => h, Or.inl ⟨by rfl, ?_⟩, by assumption, ?_⟩
  rotate_left 1
  · (intro w9 hSw; (try dsimp only at hSw); go_simp; try (with_reducible rfl))
  try simp only [Act.put, List.setIfInBounds_toArray, List.set_cons_zero, List.set_cons_succ]
  refine wpAnyH_ready (rs := [5, 10]) (by kernel_rfl) (by simp) ?_
  refine AllReadyH.cons3 (by simp only [List.getElem?_toArray, List.getElem?_cons_succ, List.getElem?_cons_zero]; first | done | exact rfl) (fun K hK => ?_) (AllReadyH.cons2 (by simp only [List.getElem?_toArray, List.getElem?_cons_succ, List.getElem?_cons_zero]; first | done | exact rfl) (fun K hK => ?_))
  · rw [if_pos (by rfl)]
    go_simp
    refine hK.out _ _ (⟨HC0.out _ ((hb0.out.alloc (by simp) _).drew), HC1.out _ ((hb0.out.alloc (by simp) _).drew)⟩) (fun hHeld => ?_)
    clear hK K
    try simp only [Act.put, List.setIfInBounds_toArray, List.set_cons_zero, List.set_cons_succ]
    refine wpAnyH_ready (rs := [10]) (by kernel_rfl) (by simp) ?_
    refine AllReadyH.cons2 (by simp only [List.getElem?_toArray, List.getElem?_cons_succ, List.getElem?_cons_zero]; first | done | exact rfl) (fun K hK => ?_)
    rw [if_pos (by rfl)]
    go_simp
    refine (slices_Clone gv n cv m.wear _ (HGI.out _ ((hb0.out.alloc (by simp) _).drew)) hmx).mono ?_
    rintro e w4 ⟨Av, c2, rfl, ho, hb4⟩
    go_wp2_with fail
    have bE := (hb0.out.alloc (by simp) (.cells (madeCells #[.int .u32 0] n) 30)).drew.trans (hb4.mono (by simp <;> omega))
    refine hK.out _ _ (⟨HC0.out _ bE, HC1.out _ bE⟩) (fun hHeld => ?_)
    clear hK K
    try simp only [Act.put, List.setIfInBounds_toArray, List.set_cons_zero, List.set_cons_succ]
    have bG : Blk w4 w.heap.size 56 _ := ((BG.out.alloc (.cells (madeCells #[.int .u32 0] n) 30)).drew).below hb4 (by simp <;> omega)
    have bN : Blk w4 (w.heap.size + 1) 30 (madeCells #[.int .u32 0] n) := Blk.below (w := ((w.alloc (.cells #[.slice (some ⟨gw, 0, none⟩) n cw, .slice (some ⟨gv, 0, none⟩) n cv, I64 m.endurance, I64 m.writes, I64 m.cuts, .bool m.off, .bool m.pending, I64 m.left] 56)).alloc (.cells (madeCells #[.int .u32 0] n) 30)).drew) (Blk.new' (g := w.heap.size + 1) (w.alloc (.cells #[.slice (some ⟨gw, 0, none⟩) n cw, .slice (some ⟨gv, 0, none⟩) n cv, I64 m.endurance, I64 m.writes, I64 m.cuts, .bool m.off, .bool m.pending, I64 m.left] 56)) (by simp) rfl) hb4 (by simp)
    have hv2 : w.heap.size + 2 ≤ w4.heap.size := by have := hb4.size; simp at this; omega
    replace ho := ho.mono (base' := w.heap.size + 2) (by simp)
    obtain ⟨qv, rfl, hv0, hv1, _, _, _⟩ := ho.elem hpos
    try have hq2 := hqn _ rfl
    have hOV := Lib.hid ho
    have hBN := Lib.hid bN
    have hBG := Lib.hid bG
    have hBE := Lib.hid bE
    have f0 := bG.frozen 0
    have f1 := bG.frozen 1
    have k0 := bG.cell 0
    have k1 := bG.cell 1
    clear ho bN bG bE hb0 BG
    refine wpAnyH_take2 (i := 11) (by simp only [List.getElem?_toArray, List.getElem?_cons_succ, List.getElem?_cons_zero]; first | done | exact rfl) ⟨?_, by kernel_rfl, by kernel_rfl, by kernel_rfl, fun _ _ _ h => h, Or.inl ⟨by rfl, ?_⟩, by assumption, ?_⟩
    rotate_left 1
    · (intro w9 hSw; (try dsimp only at hSw); go_simp; try (with_reducible rfl))
    try simp only [Act.put, List.setIfInBounds_toArray, List.set_cons_zero, List.set_cons_succ]
    refine wpAnyH_ready (rs := [12]) (by kernel_rfl) (by simp) ?_
    refine AllReadyH.cons2 (by simp only [List.getElem?_toArray, List.getElem?_cons_succ, List.getElem?_cons_zero]; first | done | exact rfl) (fun K hK => ?_)
    rw [if_pos (by rfl)]
    go_simp
    refine hK.out _ _ (⟨HC0.out _ (hBE.out.setCell (by exact Nat.le_refl _) _), HC1.out _ (hBE.out.setCell (by exact Nat.le_refl _) _)⟩) (fun hHeld => ?_)
    clear hK K
    try simp only [Act.put, List.setIfInBounds_toArray, List.set_cons_zero, List.set_cons_succ]
    refine wpAnyH_take2 (i := 13) (by simp only [List.getElem?_toArray, List.getElem?_cons_succ, List.getElem?_cons_zero]; first | done | exact rfl) ⟨?_, by kernel_rfl, by kernel_rfl, by kernel_rfl, fun _ _ _ h => h, Or.inl ⟨by rfl, ?_⟩, by assumption, ?_⟩
    rotate_left 1
    · (intro w9 hSw; (try dsimp only at hSw); go_simp; try (with_reducible rfl))
    try simp only [Act.put, List.setIfInBounds_toArray, List.set_cons_zero, List.set_cons_succ]
    refine wpAnyH_ready (rs := [14]) (by kernel_rfl) (by simp) ?_
    refine AllReadyH.cons2 (by simp only [List.getElem?_toArray, List.getElem?_cons_succ, List.getElem?_cons_zero]; first | done | exact rfl) (fun K hK => ?_)
    rw [if_pos (by rfl)]
    go_simp
    refine hK.out _ _ (⟨HC0.out _ ((hBE.out.setCell (by exact Nat.le_refl _) _).setCell (by exact Nat.le_refl _) _), HC1.out _ ((hBE.out.setCell (by exact Nat.le_refl _) _).setCell (by exact Nat.le_refl _) _)⟩) (fun hHeld => ?_)
    clear hK K
    try simp only [Act.put, List.setIfInBounds_toArray, List.set_cons_zero, List.set_cons_succ]
    refine wpAnyH_done (by kernel_rfl) ?_ _
    refine NoPanic.normal ?_
    have bG : Blk ((w4.setCell ⟨w.heap.size, 0, none⟩ (.slice (some ⟨(w.heap.size + 1), 0, none⟩) n n)).setCell ⟨w.heap.size, 1, none⟩ (.slice (some ⟨qv, 0, none⟩) n c2)) w.heap.size 56 #[.slice (some ⟨(w.heap.size + 1), 0, none⟩) n n, .slice (some ⟨qv, 0, none⟩) n c2, I64 m.endurance, I64 m.writes, I64 m.cuts, .bool m.off, .bool m.pending, I64 m.left] := (hBG.out.set 0 _).set 1 _
    have bN := (hBN.out.far (p := ⟨w.heap.size, 0, none⟩) (by simp <;> omega) (.slice (some ⟨(w.heap.size + 1), 0, none⟩) n n)).far (p := ⟨w.heap.size, 1, none⟩) (by simp <;> omega) (.slice (some ⟨qv, 0, none⟩) n c2)
    have bO := (hOV.out.setCell (p := ⟨w.heap.size, 0, none⟩) (by intro q hq; simp at hq; simp <;> omega) (.slice (some ⟨(w.heap.size + 1), 0, none⟩) n n)).setCell (p := ⟨w.heap.size, 1, none⟩) (by intro q hq; simp at hq; simp <;> omega) (.slice (some ⟨qv, 0, none⟩) n c2)
    have bE := (hBE.out.setCell (p := ⟨w.heap.size, 0, none⟩) (by exact Nat.le_refl _) (.slice (some ⟨(w.heap.size + 1), 0, none⟩) n n)).setCell (p := ⟨w.heap.size, 1, none⟩) (by exact Nat.le_refl _) (.slice (some ⟨qv, 0, none⟩) n c2)
    clear f0 f1 k0 k1 hOV hBN hBG hBE hHeld
    generalize (w4.setCell ⟨w.heap.size, 0, none⟩ (.slice (some ⟨(w.heap.size + 1), 0, none⟩) n n)).setCell ⟨w.heap.size, 1, none⟩ (.slice (some ⟨qv, 0, none⟩) n c2) = w5 at *
    have hE0 := HC0.out _ bE
    have bW := Own.made bN (base := 0) (Nat.zero_le _) (by unfold maxLen; omega)
    have bV := bO.mono (Nat.zero_le _)
    clear bN bO
    go_wp2_with fail
    go_loopw [4, 29] (fun i4 i wr => ∃ (k : Nat) (L : List UInt32), k ≤ n ∧ i = .int .i64 k ∧ L.length = n ∧ L.take k = m.words.take k ∧ Own wr 0 30 1 (some ⟨(w.heap.size + 1), 0, none⟩) n n (L.map W32) ∧ Blk wr w.heap.size 56 #[.slice (some ⟨(w.heap.size + 1), 0, none⟩) n n, .slice (some ⟨qv, 0, none⟩) n c2, I64 m.endurance, I64 m.writes, I64 m.cuts, .bool m.off, .bool m.pending, I64 m.left] ∧ Own wr 0 3 1 (some ⟨qv, 0, none⟩) n c2 (m.wear.map I64) ∧ Below w.heap.size w wr) (fun _ i _ => n - (intOf i).toNat)
    case atStart => exact ⟨0, List.replicate n 0, by omega, rfl, by simp, by simp, by rw [show (List.replicate n (0 : UInt32)).map W32 = List.replicate n (.int .u32 0) by simp [W32]]; exact bW, bG, bV, bE⟩
    case round =>
      clear bW bG bV bE hE0
      obtain ⟨k, L, hk, rfl, hL, hLt, hw, hG, hv, hbe⟩ := hrel
      by_cases hlt2 : k < n
      · obtain ⟨q9, e9, _, _, hc9, hf9, hset⟩ := hw.elem hlt2
        obtain rfl : (w.heap.size + 1) = q9 := by simpa using e9
        have i0 : (0 : Int) ≤ (k : Int) := by omega
        have i1 : (k : Int) < (n : Int) := by omega
        have a0 := hG.cell 0
        have a1 := HC0.out _ hbe
        have a2 := (H.out.below hbe).word hlt2
        have hc9' : wr.cell? ⟨(w.heap.size + 1), k, none⟩ = some (W32 (L.getD k 0)) := by
          rw [hc9, List.getElem?_map]; simp [List.getD, List.getElem?_eq_getElem (show k < L.length by omega)]
        have hwk : m.words.getD k 0 = m.words[k]'(by rw [H.out.len]; exact hlt2) := by simp [List.getD, List.getElem?_eq_getElem (show k < m.words.length by rw [H.out.len]; exact hlt2)]
        have Hwk := Lib.hid hwk
        clear hc9 hwk e9
        generalize m.words.getD k 0 = x at *
        go_wp2_with fail
        refine wp_region_quiet_tail 11 (by kernel_rfl) (by kernel_rfl) ?_
        simp only [List.take_succ_cons, List.take_zero]
        repeat (go_big_quiet_step (fail))
        refine wpQuiet_nil ?_
        rintro _ ⟨nq, rfl⟩
        simp only [List.drop_succ_cons, List.drop_zero]
        go_wp2_with fail
        go_roundw
        case rel =>
          refine ⟨k + 1, L.set k x, by omega, by go_num, by simpa using hL, ?_, by rw [List.map_set]; exact hset (W32 x), ?_, ?_, ?_⟩
          · rw [Hwk.out]; exact take_set_next L m.words k _ (by rw [hL, H.out.len]) hLt
          · exact (hG.drewN _).far (by simp <;> omega) _
          · exact Own.setCell (hv.drewN _) (by intro q hq; simp at hq; simp <;> omega) _
          · exact (Below.drewN hbe _).setCell (by simp <;> omega) _
        case measure => simp [intOf]; omega
      · obtain rfl : k = n := by omega
        go_wp2_with fail
        go_ret
        have hLw : L = m.words := by
          rw [← hL, List.take_length] at hLt
          rw [hLt, hL, ← H.out.len, List.take_length]
        subst hLw
        exact ⟨w.heap.size, (w.heap.size + 1), qv, c2, rfl, ⟨hG, hw, hv, hpos, hmx, by omega, by omega, by omega⟩, Nat.le_refl _, by omega, by omega, hbe⟩
  · rw [if_pos (by rfl)]
    go_simp
    refine (slices_Clone gv n cv m.wear _ (HGI.out _ (hb0.out.drew)) hmx).mono ?_
    rintro e w4 ⟨Av, c2, rfl, ho, hb4⟩
    go_wp2_with fail
    have bE := hb0.out.drew.trans (hb4.mono (by simp))
    refine hK.out _ _ (⟨HC0.out _ bE, HC1.out _ bE⟩) (fun hHeld => ?_)
    clear hK K
    try simp only [Act.put, List.setIfInBounds_toArray, List.set_cons_zero, List.set_cons_succ]
    refine wpAnyH_ready (rs := [5]) (by kernel_rfl) (by simp) ?_
    refine AllReadyH.cons2 (by simp only [List.getElem?_toArray, List.getElem?_cons_succ, List.getElem?_cons_zero]; first | done | exact rfl) (fun K hK => ?_)
    rw [if_pos (by rfl)]
    go_simp
    have bE2 := bE.alloc bE.size (.cells (madeCells #[.int .u32 0] n) 30)
    refine hK.out _ _ (⟨HC0.out _ bE2, HC1.out _ bE2⟩) (fun hHeld => ?_)
    clear hK K
    try simp only [Act.put, List.setIfInBounds_toArray, List.set_cons_zero, List.set_cons_succ]
    clear bE
    have bE := bE2
    have bG : Blk (w4.alloc (.cells (madeCells #[.int .u32 0] n) 30)) w.heap.size 56 _ := (Blk.below (BG.out.drew) hb4 (by simp)).alloc (.cells (madeCells #[.int .u32 0] n) 30)
    have bN : Blk (w4.alloc (.cells (madeCells #[.int .u32 0] n) 30)) w4.heap.size 30 (madeCells #[.int .u32 0] n) := Blk.new w4 _ _
    have hv2 : w.heap.size + 1 ≤ w4.heap.size := by have := hb4.size; simp at this; omega
    have hoo := ho
    replace ho := (ho.mono (base' := w.heap.size + 1) (by simp)).alloc (.cells (madeCells #[.int .u32 0] n) 30)
    have hqn : ∀ q, Av = some ⟨q, 0, none⟩ → q < w4.heap.size := by obtain ⟨q0, rfl, _, h1, _⟩ := hoo.elem hpos; intro q e; simp at e; omega
    clear bE2 hb4
    clear hoo
    generalize hnw : w4.heap.size = nw at *
    have HNW := Lib.hid hnw
    clear hnw
    generalize w4.alloc (.cells (madeCells #[.int .u32 0] n) 30) = w9 at *
    obtain ⟨qv, rfl, hv0, hv1, _, _, _⟩ := ho.elem hpos
    try have hq2 := hqn _ rfl
    have hOV := Lib.hid ho
    have hBN := Lib.hid bN
    have hBG := Lib.hid bG
    have hBE := Lib.hid bE
    have f0 := bG.frozen 0
    have f1 := bG.frozen 1
    have k0 := bG.cell 0
    have k1 := bG.cell 1
    clear ho bN bG bE hb0 BG
    refine wpAnyH_take2 (i := 11) (by simp only [List.getElem?_toArray, List.getElem?_cons_succ, List.getElem?_cons_zero]; first | done | exact rfl) ⟨?_, by kernel_rfl, by kernel_rfl, by kernel_rfl, fun _ _ _ h => h, Or.inl ⟨by rfl, ?_⟩, by assumption, ?_⟩
    rotate_left 1
    · (intro w9 hSw; (try dsimp only at hSw); go_simp; try (with_reducible rfl))
    try simp only [Act.put, List.setIfInBounds_toArray, List.set_cons_zero, List.set_cons_succ]
    refine wpAnyH_ready (rs := [12]) (by kernel_rfl) (by simp) ?_
    refine AllReadyH.cons2 (by simp only [List.getElem?_toArray, List.getElem?_cons_succ, List.getElem?_cons_zero]; first | done | exact rfl) (fun K hK => ?_)
    rw [if_pos (by rfl)]
    go_simp
    refine hK.out _ _ (⟨HC0.out _ (hBE.out.setCell (by exact Nat.le_refl _) _), HC1.out _ (hBE.out.setCell (by exact Nat.le_refl _) _)⟩) (fun hHeld => ?_)
    clear hK K
    try simp only [Act.put, List.setIfInBounds_toArray, List.set_cons_zero, List.set_cons_succ]
    refine wpAnyH_take2 (i := 13) (by simp only [List.getElem?_toArray, List.getElem?_cons_succ, List.getElem?_cons_zero]; first | done | exact rfl) ⟨?_, by kernel_rfl, by kernel_rfl, by kernel_rfl, fun _ _ _ h => h, Or.inl ⟨by rfl, ?_⟩, by assumption, ?_⟩
    rotate_left 1
    · (intro w9 hSw; (try dsimp only at hSw); go_simp; try (with_reducible rfl))
    try simp only [Act.put, List.setIfInBounds_toArray, List.set_cons_zero, List.set_cons_succ]
    refine wpAnyH_ready (rs := [14]) (by kernel_rfl) (by simp) ?_
    refine AllReadyH.cons2 (by simp only [List.getElem?_toArray, List.getElem?_cons_succ, List.getElem?_cons_zero]; first | done | exact rfl) (fun K hK => ?_)
    rw [if_pos (by rfl)]
    go_simp
    refine hK.out _ _ (⟨HC0.out _ ((hBE.out.setCell (by exact Nat.le_refl _) _).setCell (by exact Nat.le_refl _) _), HC1.out _ ((hBE.out.setCell (by exact Nat.le_refl _) _).setCell (by exact Nat.le_refl _) _)⟩) (fun hHeld => ?_)
    clear hK K
    try simp only [Act.put, List.setIfInBounds_toArray, List.set_cons_zero, List.set_cons_succ]
    refine wpAnyH_done (by kernel_rfl) ?_ _
    refine NoPanic.normal ?_
    have bG : Blk ((w9.setCell ⟨w.heap.size, 0, none⟩ (.slice (some ⟨nw, 0, none⟩) n n)).setCell ⟨w.heap.size, 1, none⟩ (.slice (some ⟨qv, 0, none⟩) n c2)) w.heap.size 56 #[.slice (some ⟨nw, 0, none⟩) n n, .slice (some ⟨qv, 0, none⟩) n c2, I64 m.endurance, I64 m.writes, I64 m.cuts, .bool m.off, .bool m.pending, I64 m.left] := (hBG.out.set 0 _).set 1 _
    have bN := (hBN.out.far (p := ⟨w.heap.size, 0, none⟩) (by simp <;> omega) (.slice (some ⟨nw, 0, none⟩) n n)).far (p := ⟨w.heap.size, 1, none⟩) (by simp <;> omega) (.slice (some ⟨qv, 0, none⟩) n c2)
    have bO := (hOV.out.setCell (p := ⟨w.heap.size, 0, none⟩) (by intro q hq; simp at hq; simp <;> omega) (.slice (some ⟨nw, 0, none⟩) n n)).setCell (p := ⟨w.heap.size, 1, none⟩) (by intro q hq; simp at hq; simp <;> omega) (.slice (some ⟨qv, 0, none⟩) n c2)
    have bE := (hBE.out.setCell (p := ⟨w.heap.size, 0, none⟩) (by exact Nat.le_refl _) (.slice (some ⟨nw, 0, none⟩) n n)).setCell (p := ⟨w.heap.size, 1, none⟩) (by exact Nat.le_refl _) (.slice (some ⟨qv, 0, none⟩) n c2)
    clear f0 f1 k0 k1 hOV hBN hBG hBE hHeld
    generalize (w9.setCell ⟨w.heap.size, 0, none⟩ (.slice (some ⟨nw, 0, none⟩) n n)).setCell ⟨w.heap.size, 1, none⟩ (.slice (some ⟨qv, 0, none⟩) n c2) = w5 at *
    have hE0 := HC0.out _ bE
    have bW := Own.made bN (base := 0) (Nat.zero_le _) (by unfold maxLen; omega)
    have bV := bO.mono (Nat.zero_le _)
    clear bN bO
    go_wp2_with fail
    go_loopw [4, 29] (fun i4 i wr => ∃ (k : Nat) (L : List UInt32), k ≤ n ∧ i = .int .i64 k ∧ L.length = n ∧ L.take k = m.words.take k ∧ Own wr 0 30 1 (some ⟨nw, 0, none⟩) n n (L.map W32) ∧ Blk wr w.heap.size 56 #[.slice (some ⟨nw, 0, none⟩) n n, .slice (some ⟨qv, 0, none⟩) n c2, I64 m.endurance, I64 m.writes, I64 m.cuts, .bool m.off, .bool m.pending, I64 m.left] ∧ Own wr 0 3 1 (some ⟨qv, 0, none⟩) n c2 (m.wear.map I64) ∧ Below w.heap.size w wr) (fun _ i _ => n - (intOf i).toNat)
    case atStart => exact ⟨0, List.replicate n 0, by omega, rfl, by simp, by simp, by rw [show (List.replicate n (0 : UInt32)).map W32 = List.replicate n (.int .u32 0) by simp [W32]]; exact bW, bG, bV, bE⟩
    case round =>
      clear bW bG bV bE hE0
      obtain ⟨k, L, hk, rfl, hL, hLt, hw, hG, hv, hbe⟩ := hrel
      by_cases hlt2 : k < n
      · obtain ⟨q9, e9, _, _, hc9, hf9, hset⟩ := hw.elem hlt2
        obtain rfl : nw = q9 := by simpa using e9
        have i0 : (0 : Int) ≤ (k : Int) := by omega
        have i1 : (k : Int) < (n : Int) := by omega
        have a0 := hG.cell 0
        have a1 := HC0.out _ hbe
        have a2 := (H.out.below hbe).word hlt2
        have hc9' : wr.cell? ⟨nw, k, none⟩ = some (W32 (L.getD k 0)) := by
          rw [hc9, List.getElem?_map]; simp [List.getD, List.getElem?_eq_getElem (show k < L.length by omega)]
        have hwk : m.words.getD k 0 = m.words[k]'(by rw [H.out.len]; exact hlt2) := by simp [List.getD, List.getElem?_eq_getElem (show k < m.words.length by rw [H.out.len]; exact hlt2)]
        have Hwk := Lib.hid hwk
        clear hc9 hwk e9
        generalize m.words.getD k 0 = x at *
        go_wp2_with fail
        refine wp_region_quiet_tail 11 (by kernel_rfl) (by kernel_rfl) ?_
        simp only [List.take_succ_cons, List.take_zero]
        repeat (go_big_quiet_step (fail))
        refine wpQuiet_nil ?_
        rintro _ ⟨nq, rfl⟩
        simp only [List.drop_succ_cons, List.drop_zero]
        go_wp2_with fail
        go_roundw
        case rel =>
          refine ⟨k + 1, L.set k x, by omega, by go_num, by simpa using hL, ?_, by rw [List.map_set]; exact hset (W32 x), ?_, ?_, ?_⟩
          · rw [Hwk.out]; exact take_set_next L m.words k _ (by rw [hL, H.out.len]) hLt
          · exact (hG.drewN _).far (by simp <;> omega) _
          · exact Own.setCell (hv.drewN _) (by intro q hq; simp at hq; simp <;> omega) _
          · exact (Below.drewN hbe _).setCell (by simp <;> omega) _
        case measure => simp [intOf]; omega
      · obtain rfl : k = n := by omega
        go_wp2_with fail
        go_ret
        have hLw : L = m.words := by
          rw [← hL, List.take_length] at hLt
          rw [hLt, hL, ← H.out.len, List.take_length]
        subst hLw
        exact ⟨w.heap.size, nw, qv, c2, rfl, ⟨hG, hw, hv, hpos, hmx, by omega, by omega, by omega⟩, Nat.le_refl _, by omega, by omega, hbe⟩
end Go.Proofs.Ytdpfehdpglbidaa
