/-
  The walks of First, of New where it refuses, and of the law's open.
-/
import Derived.Test.YtdpfehdpglbidaaCelJ
import Derived.Test.YtdpfehdpglbidaaReg
import Derived.Test.YtdpfehdpglbidaaCelL2
namespace Go.Proofs.Ytdpfehdpglbidaa
open Go.RowKit

theorem results_tmp_row_tmp {P : Program} {fn : Func} {t0 p u : Tmp} {ty : TypeId} (h : fn.results = #[.tmp t0, .cell p ty, .tmp u]) (tmps : Array Value) (w : World) (g : Nat) (t : TypeId) (cs : Array Value) (fr : Nat × Nat) (d : TypeDesc)
    (hp : tmps.getD p undef = .pointer (some ⟨g, 0, none⟩)) (hg : w.heap[g]? = some (.cells cs t fr))
    (hu : P.underlying ty = some d) (hd : (match d with | .struct _ | .array _ _ => true | _ => false) = true) (hi : (P.info? ty).map (·.size) = some cs.size) :
    (results fn tmps).run P w = .ok (.tuple #[tmps.getD t0 undef, .agg cs, tmps.getD u undef]) w := by
  have hL := run_loadVar_row w g t ty cs fr d hg hu hd hi
  have hp' : tmps[p]?.getD undef = .pointer (some ⟨g, 0, none⟩) := by simpa using hp
  simp only [results, h]
  simp [Sem.run_bind, Result.andThen, hp', asAddr, hL]

theorem blks4 (w : World) (c0 c1 c2 c3 : Array Value) (t0 t1 t2 t3 : TypeId) :
    Blk ((((w.alloc (.cells c0 t0)).alloc (.cells c1 t1)).alloc (.cells c2 t2)).alloc (.cells c3 t3)).drew (w.heap.size + 1) t1 c1 ∧
    Blk ((((w.alloc (.cells c0 t0)).alloc (.cells c1 t1)).alloc (.cells c2 t2)).alloc (.cells c3 t3)).drew (w.heap.size + 1 + 1) t2 c2 ∧
    Blk ((((w.alloc (.cells c0 t0)).alloc (.cells c1 t1)).alloc (.cells c2 t2)).alloc (.cells c3 t3)).drew (w.heap.size + 1 + 1 + 1) t3 c3 ∧
    Below w.heap.size w ((((w.alloc (.cells c0 t0)).alloc (.cells c1 t1)).alloc (.cells c2 t2)).alloc (.cells c3 t3)).drew :=
  ⟨(((Blk.new' (g := w.heap.size + 1) (w.alloc (.cells c0 t0)) (by simp) rfl).alloc _).alloc _).drew,
    ((Blk.new' (g := w.heap.size + 1 + 1) ((w.alloc (.cells c0 t0)).alloc (.cells c1 t1)) (by simp) rfl).alloc _).drew,
    (Blk.new' (g := w.heap.size + 1 + 1 + 1) (((w.alloc (.cells c0 t0)).alloc (.cells c1 t1)).alloc (.cells c2 t2)) (by simp) rfl).drew,
    ((((((Below.refl _ _).alloc (Nat.le_refl _) _).alloc (by simp) _).alloc (by simp; omega) _).alloc (by simp; omega) _)).drew⟩

theorem stAt_new {w W : World} {n gw gv : Nat} (en : Int) (hb : Below w.heap.size w W) (h2 : n ≤ 65536) (hw : Blk W gw 30 (madeCells #[.int .u32 0] n)) (hv : Blk W gv 3 (madeCells #[.int .i64 0] n)) (g1 : w.heap.size ≤ gw) (g2 : w.heap.size ≤ gv) :
    StAt W (fun k => k < w.heap.size) n (Cel.Mem.new n en) (stOf (some ⟨gw, 0, none⟩) n n (some ⟨gv, 0, none⟩) n (Cel.Mem.new n en) (-1)) := by
  have o1 := Own.made hw (Nat.zero_le _) (by unfold maxLen; omega)
  have o2 := Own.made hv (Nat.zero_le _) (by unfold maxLen; omega)
  refine ⟨_, _, _, _, _, rfl, fun _ => rfl, ⟨by simp [Cel.Mem.new], Nat.le_refl _, ?_⟩, ⟨by simp [Cel.Mem.new], Nat.le_refl _, ?_⟩, ?_, ?_⟩
  · rw [show (Cel.Mem.new n en).words.map W32 = List.replicate n (.int .u32 0) by simp [Cel.Mem.new, W32]]; exact o1.row
  · rw [show (Cel.Mem.new n en).wear.map I64 = List.replicate n (.int .i64 0) by simp [Cel.Mem.new, I64]]; exact o2.row
  · intro b e hr; simp at e; omega
  · intro b e hr; simp at e; omega

/-- The zero state. -/
def zSt : Value := .agg #[.slice none 0 0, .slice none 0 0, I64 0, I64 0, I64 0, .bool false, I64 0]

theorem conf_cases (n en : Int) (h : ¬ (1 ≤ n ∧ n ≤ 65536 ∧ 1 ≤ en)) : n < 1 ∨ (1 ≤ n ∧ 65536 < n) ∨ (1 ≤ n ∧ n ≤ 65536 ∧ en < 1) := by omega

set_option maxRecDepth 100000 in
set_option maxHeartbeats 1000000 in
theorem cell_New_no (n en : Int) (w : World) (h : ¬ (1 ≤ n ∧ n ≤ 65536 ∧ 1 ≤ en)) :
    Calls Try.prog 8 #[.agg #[.int .i64 n, .int .i64 en]] w fun e w' => e = .returned (.tuple #[.pointer none, .int .i64 1]) ∧ Below w.heap.size w w' := by
  rcases conf_cases n en h with h0 | ⟨h0, h1⟩ | ⟨h0, h1, h2⟩ <;>
  · clear h
    go_enter Try.func8, Try.ntmps8
    go_wp2_with fail
    go_ret2
    exact ⟨rfl, (Below.refl _ _).alloc (Nat.le_refl _) _⟩

set_option maxRecDepth 100000 in
set_option maxHeartbeats 1000000 in
theorem ref09_First_no (n en : Int) (w : World) (h : ¬ (1 ≤ n ∧ n ≤ 65536 ∧ 1 ≤ en)) :
    Calls Try.prog 28 #[.agg #[.int .i64 n, .int .i64 en]] w fun e w' => e = .returned (.tuple #[zSt, .int .i64 1]) ∧ Below w.heap.size w w' := by
  rcases conf_cases n en h with h0 | ⟨h0, h1⟩ | ⟨h0, h1, h2⟩ <;>
  · clear h
    go_enter Try.func28, Try.ntmps28
    go_wp2_with fail
    refine bodyPost_ret (results_row_tmp rfl _ _ (w.heap.size + 1) 45 _ (0, 0) _ rfl (Blk.new' _ (by simp) rfl) Try.underlying45 rfl (by kernel_rfl)) rfl ⟨?_, ((Below.refl _ _).alloc (Nat.le_refl _) _).alloc (by simp) _⟩
    rfl

set_option maxRecDepth 100000 in
set_option maxHeartbeats 1000000 in
theorem ref09_First (n : Nat) (en : Int) (w : World) (h1 : 1 ≤ n) (h2 : n ≤ 65536) (h3 : 1 ≤ en) :
    Calls Try.prog 28 #[.agg #[.int .i64 (n : Int), .int .i64 en]] w fun e w' => ∃ s, e = .returned (.tuple #[s, .int .i64 0]) ∧ StAt w' (fun k => k < w.heap.size) n (Cel.Mem.new n en) s ∧ Below w.heap.size w w' := by
  obtain ⟨iu, hiu, hu0, hu1, hu2⟩ := info_parts i_u32
  obtain ⟨ii, hii, hi0, hi1, hi2⟩ := info_parts i_int
  have mu : ∀ u : World, (Instr.makeSlice 22 (.int .i64 (n : Int)) (.int .i64 (n : Int))).run Try.prog u = .ok (.slice (some ⟨u.heap.size, 0, none⟩) n n) (u.alloc (.cells (madeCells #[.int .u32 0] n) 30)) := fun u => by
    have h := run_make (P := Try.prog) u 22 30 iu (.int .u32 0) Try.underlying22 hiu hu0 .i64 .i64 (n : Int) (n : Int) (by omega) (Int.le_refl _) (by rw [hu2]; omega) (by omega)
    simpa [hu1, Value.cells] using h
  have mi : ∀ u : World, (Instr.makeSlice 43 (.int .i64 (n : Int)) (.int .i64 (n : Int))).run Try.prog u = .ok (.slice (some ⟨u.heap.size, 0, none⟩) n n) (u.alloc (.cells (madeCells #[.int .i64 0] n) 3)) := fun u => by
    have h := run_make (P := Try.prog) u 43 3 ii (.int .i64 0) Try.underlying43 hii hi0 .i64 .i64 (n : Int) (n : Int) (by omega) (Int.le_refl _) (by rw [hi2]; omega) (by omega)
    simpa [hi1, Value.cells] using h
  have p1 : (1 : Int) ≤ (n : Int) := by omega
  have p2 : (n : Int) ≤ 65536 := by omega
  go_enter Try.func28, Try.ntmps28
  go_wp2_with fail
  go_region
  all_goals go_wp2_with fail
  · obtain ⟨b1, b2, b3, bel⟩ := blks4 w #[Value.int IntKind.i64 n, Value.int IntKind.i64 en] #[.slice (some ⟨w.heap.size + 1 + 1, 0, none⟩) n n, .slice (some ⟨w.heap.size + 1 + 1 + 1, 0, none⟩) n n, .int .i64 en, .int .i64 0, .int .i64 0, .bool true, .int .i64 (-1)] (madeCells #[.int .u32 0] n) (madeCells #[.int .i64 0] n) 28 45 30 3
    refine bodyPost_ret (results_row_tmp rfl _ _ (w.heap.size + 1) 45 _ (0, 0) _ rfl b1 Try.underlying45 rfl (by kernel_rfl)) rfl ⟨_, rfl, stAt_new en bel h2 b2 b3 (by omega) (by omega), bel⟩
  · obtain ⟨b1, b2, b3, bel⟩ := blks4 w #[Value.int IntKind.i64 n, Value.int IntKind.i64 en] #[.slice (some ⟨w.heap.size + 1 + 1 + 1, 0, none⟩) n n, .slice (some ⟨w.heap.size + 1 + 1, 0, none⟩) n n, .int .i64 en, .int .i64 0, .int .i64 0, .bool true, .int .i64 (-1)] (madeCells #[.int .i64 0] n) (madeCells #[.int .u32 0] n) 28 45 3 30
    refine bodyPost_ret (results_row_tmp rfl _ _ (w.heap.size + 1) 45 _ (0, 0) _ rfl b1 Try.underlying45 rfl (by kernel_rfl)) rfl ⟨_, rfl, stAt_new en bel h2 b3 b2 (by omega) (by omega), bel⟩

/-- What open returns. -/
def OpenRes (w : World) (n en : Int) (e : Ending) (w' : World) : Prop :=
  (¬ (1 ≤ n ∧ n ≤ 65536 ∧ 1 ≤ en) ∧ e = .returned (.tuple #[.pointer none, zSt, .bool true])) ∨
  ∃ (k g gw gv : Nat) (s : Value), n = (k : Int) ∧ 1 ≤ k ∧ k ≤ 65536 ∧ e = .returned (.tuple #[.pointer (some ⟨g, 0, none⟩), s, .bool true]) ∧ MemAt w' g gw gv k k k (Cel.Mem.new k en) ∧ w.heap.size ≤ g ∧ w.heap.size ≤ gw ∧ w.heap.size ≤ gv ∧ StAt w' (fun b => b = g ∨ b = gw ∨ b = gv ∨ b < w.heap.size) k (Cel.Mem.new k en) s

set_option maxRecDepth 100000 in
set_option maxHeartbeats 1000000 in
theorem law09_open (n en : Int) (w : World) :
    Calls Try.prog 19 #[.agg #[.int .i64 n, .int .i64 en]] w fun e w' => OpenRes w n en e w' ∧ Below w.heap.size w w' := by
  by_cases h : 1 ≤ n ∧ n ≤ 65536 ∧ 1 ≤ en
  · obtain ⟨h1, h2, h3⟩ := h
    obtain ⟨k, rfl⟩ := Int.eq_ofNat_of_zero_le (by omega : 0 ≤ n)
    have hN := Lib.hid (fun u => cell_New k en u (by omega) (by omega) h3)
    have hF := Lib.hid (fun u => ref09_First k en u (by omega) (by omega) h3)
    go_enter Try.func19, Try.ntmps19
    go_wp2_with fail
    refine (hN.out _).mono ?_
    rintro e w1 ⟨g, gw, gv, rfl, hm, g1, g2, g3, hb1⟩
    obtain ⟨B1, B2, hbw⟩ := blk_of_two hb1
    have g1 : w.heap.size + 2 ≤ g := by simpa using g1
    have g2 : w.heap.size + 2 ≤ gw := by simpa using g2
    have g3 : w.heap.size + 2 ≤ gv := by simpa using g3
    have k0 := B1.cell 0
    have k1 := B1.cell 1
    have C2 := Lib.hid B2
    clear hb1 B2
    generalize hgs : w.heap.size = G at *
    have HG := Lib.hid hgs
    clear hgs
    go_wp2_with fail
    refine (hF.out _).mono ?_
    rintro e w2 ⟨s, rfl, hs, hb2⟩
    have hm2 := Lib.hid (hm.below hb2)
    have D2 := Lib.hid (C2.out.below hb2 C2.out.lt)
    have hbw2 := Lib.hid (hbw.trans (hb2.mono (by have := hbw.size; have := HG.out; omega)))
    have hsub := Lib.hid (show StAt w2 (fun b => b = g ∨ b = gw ∨ b = gv ∨ b < G + 2) k (Cel.Mem.new k en) s from hs.sub (by omega) (fun b _ hb => by
      have := hm.lt0; have := C2.out.lt; omega))
    obtain ⟨A, c, A', c', z, rfl, hz, hw, hi, q1, q2⟩ := hs
    clear hz hw hi q1 q2 hm hb2 k0 k1 hN hF hbw
    unfold stOf
    go_wp2_with fail
    have hT := Blk.new w2 45 #[.slice A k c, .slice A' k c', I64 en, .int .i64 0, .int .i64 0, .bool true, I64 z]
    have hrange := rangeAt_blk hT
    have D := D2.out.alloc (.cells #[.slice A k c, .slice A' k c', I64 en, .int .i64 0, .int .i64 0, .bool true, I64 z] 45)
    have hne : w2.heap.size ≠ G + 1 := by have := D2.out.lt; omega
    have hrange2 := rangeAt_setRow hrange hne #[.slice A k c, .slice A' k c', I64 en, .int .i64 0, .int .i64 0, .bool true, I64 z]
    have hT7 := cells7 hrange
    have hU7 := cells7 hrange2
    have HD := Lib.hid D
    have HT7 := Lib.hid hT7
    have HU7 := Lib.hid hU7
    clear hT hrange hrange2 D hT7 hU7 hne
    refine wp_region_noPanic ?_
    refine wp_region_held_drew (S := fun u => u.cell? ⟨w2.heap.size, 0, none⟩ = some (.slice A k c) ∧ u.cell? ⟨w2.heap.size, 1, none⟩ = some (.slice A' k c') ∧ u.cell? ⟨w2.heap.size, 2, none⟩ = some (I64 en) ∧ u.cell? ⟨w2.heap.size, 3, none⟩ = some (.int .i64 0) ∧ u.cell? ⟨w2.heap.size, 4, none⟩ = some (.int .i64 0) ∧ u.cell? ⟨w2.heap.size, 5, none⟩ = some (.bool true) ∧ u.cell? ⟨w2.heap.size, 6, none⟩ = some (I64 z)) (by kernel_rfl) (by exact HT7.out) (fun hHeld => ?_)
    refine wpAnyH_take2 (i := 0) (by simp only [List.getElem?_toArray, List.getElem?_cons_succ, List.getElem?_cons_zero]; first | done | exact rfl) ⟨?_, by kernel_rfl, by kernel_rfl, by kernel_rfl, fun _ _ _ h => h, Or.inl ⟨by rfl, ?_⟩, by assumption, ?_⟩
    rotate_left 1
    · (intro w9 hSw; (try dsimp only at hSw); go_simp; try (with_reducible rfl))
    try simp only [Act.put, List.setIfInBounds_toArray, List.set_cons_zero, List.set_cons_succ]
    refine wpAnyH_take2 (i := 1) (by simp only [List.getElem?_toArray, List.getElem?_cons_succ, List.getElem?_cons_zero]; first | done | exact rfl) ⟨?_, by kernel_rfl, by kernel_rfl, by kernel_rfl, fun _ _ _ h => h, Or.inl ⟨by rfl, ?_⟩, by assumption, ?_⟩
    rotate_left 1
    · (intro w9 hSw; (try dsimp only at hSw); go_simp; try (with_reducible rfl))
    try simp only [Act.put, List.setIfInBounds_toArray, List.set_cons_zero, List.set_cons_succ]
    refine wpAnyH_take2 (i := 2) (by simp only [List.getElem?_toArray, List.getElem?_cons_succ, List.getElem?_cons_zero]; first | done | exact rfl) ⟨?_, by kernel_rfl, by kernel_rfl, by kernel_rfl, fun _ _ _ h => h, Or.inl ⟨by rfl, ?_⟩, by assumption, ?_⟩
    rotate_left 1
    · (intro w9 hSw; (try dsimp only at hSw); go_simp; try (with_reducible rfl))
    try simp only [Act.put, List.setIfInBounds_toArray, List.set_cons_zero, List.set_cons_succ]
    refine wpAnyH_take2 (i := 3) (by simp only [List.getElem?_toArray, List.getElem?_cons_succ, List.getElem?_cons_zero]; first | done | exact rfl) ⟨?_, by kernel_rfl, by kernel_rfl, by kernel_rfl, fun _ _ _ h => h, Or.inl ⟨by rfl, ?_⟩, by assumption, ?_⟩
    rotate_left 1
    · (intro w9 hSw; (try dsimp only at hSw); go_simp; try (with_reducible rfl))
    try simp only [Act.put, List.setIfInBounds_toArray, List.set_cons_zero, List.set_cons_succ]
    refine wpAnyH_take2 (i := 4) (by simp only [List.getElem?_toArray, List.getElem?_cons_succ, List.getElem?_cons_zero]; first | done | exact rfl) ⟨?_, by kernel_rfl, by kernel_rfl, by kernel_rfl, fun _ _ _ h => h, Or.inl ⟨by rfl, ?_⟩, by assumption, ?_⟩
    rotate_left 1
    · (intro w9 hSw; (try dsimp only at hSw); go_simp; try (with_reducible rfl))
    try simp only [Act.put, List.setIfInBounds_toArray, List.set_cons_zero, List.set_cons_succ]
    refine wpAnyH_take2 (i := 5) (by simp only [List.getElem?_toArray, List.getElem?_cons_succ, List.getElem?_cons_zero]; first | done | exact rfl) ⟨?_, by kernel_rfl, by kernel_rfl, by kernel_rfl, fun _ _ _ h => h, Or.inl ⟨by rfl, ?_⟩, by assumption, ?_⟩
    rotate_left 1
    · (intro w9 hSw; (try dsimp only at hSw); go_simp; try (with_reducible rfl))
    try simp only [Act.put, List.setIfInBounds_toArray, List.set_cons_zero, List.set_cons_succ]
    refine wpAnyH_take2 (i := 6) (by simp only [List.getElem?_toArray, List.getElem?_cons_succ, List.getElem?_cons_zero]; first | done | exact rfl) ⟨?_, by kernel_rfl, by kernel_rfl, by kernel_rfl, fun _ _ _ h => h, Or.inl ⟨by rfl, ?_⟩, by assumption, ?_⟩
    rotate_left 1
    · (intro w9 hSw; (try dsimp only at hSw); go_simp; try (with_reducible rfl))
    try simp only [Act.put, List.setIfInBounds_toArray, List.set_cons_zero, List.set_cons_succ]
    refine wpAnyH_take2 (i := 7) (by simp only [List.getElem?_toArray, List.getElem?_cons_succ, List.getElem?_cons_zero]; first | done | exact rfl) ⟨?_, by kernel_rfl, by kernel_rfl, by kernel_rfl, fun _ _ _ h => h, Or.inl ⟨by rfl, ?_⟩, by assumption, ?_⟩
    rotate_left 1
    · (intro w9 hSw; (try dsimp only at hSw); go_simp; try (with_reducible rfl))
    try simp only [Act.put, List.setIfInBounds_toArray, List.set_cons_zero, List.set_cons_succ]
    refine wpAnyH_take2 (i := 8) (by simp only [List.getElem?_toArray, List.getElem?_cons_succ, List.getElem?_cons_zero]; first | done | exact rfl) ⟨?_, by kernel_rfl, by kernel_rfl, by kernel_rfl, fun _ _ _ h => h, Or.inl ⟨by rfl, ?_⟩, by assumption, ?_⟩
    rotate_left 1
    · (intro w9 hSw; (try dsimp only at hSw); go_simp; try (with_reducible rfl))
    try simp only [Act.put, List.setIfInBounds_toArray, List.set_cons_zero, List.set_cons_succ]
    refine wpAnyH_take2 (i := 9) (by simp only [List.getElem?_toArray, List.getElem?_cons_succ, List.getElem?_cons_zero]; first | done | exact rfl) ⟨?_, by kernel_rfl, by kernel_rfl, by kernel_rfl, fun _ _ _ h => h, Or.inl ⟨by rfl, ?_⟩, by assumption, ?_⟩
    rotate_left 1
    · (intro w9 hSw; (try dsimp only at hSw); go_simp; try (with_reducible rfl))
    try simp only [Act.put, List.setIfInBounds_toArray, List.set_cons_zero, List.set_cons_succ]
    refine wpAnyH_take2 (i := 10) (by simp only [List.getElem?_toArray, List.getElem?_cons_succ, List.getElem?_cons_zero]; first | done | exact rfl) ⟨?_, by kernel_rfl, by kernel_rfl, by kernel_rfl, fun _ _ _ h => h, Or.inl ⟨by rfl, ?_⟩, by assumption, ?_⟩
    rotate_left 1
    · (intro w9 hSw; (try dsimp only at hSw); go_simp; try (with_reducible rfl))
    try simp only [Act.put, List.setIfInBounds_toArray, List.set_cons_zero, List.set_cons_succ]
    refine wpAnyH_take2 (i := 11) (by simp only [List.getElem?_toArray, List.getElem?_cons_succ, List.getElem?_cons_zero]; first | done | exact rfl) ⟨?_, by kernel_rfl, by kernel_rfl, by kernel_rfl, fun _ _ _ h => h, Or.inl ⟨by rfl, ?_⟩, by assumption, ?_⟩
    rotate_left 1
    · (intro w9 hSw; (try dsimp only at hSw); go_simp; try (with_reducible rfl))
    try simp only [Act.put, List.setIfInBounds_toArray, List.set_cons_zero, List.set_cons_succ]
    refine wpAnyH_take2 (i := 12) (by simp only [List.getElem?_toArray, List.getElem?_cons_succ, List.getElem?_cons_zero]; first | done | exact rfl) ⟨?_, by kernel_rfl, by kernel_rfl, by kernel_rfl, fun _ _ _ h => h, Or.inl ⟨by rfl, ?_⟩, by assumption, ?_⟩
    rotate_left 1
    · (intro w9 hSw; (try dsimp only at hSw); go_simp; try (with_reducible rfl))
    try simp only [Act.put, List.setIfInBounds_toArray, List.set_cons_zero, List.set_cons_succ]
    refine wpAnyH_ready (rs := [13]) (by kernel_rfl) (by simp) ?_
    refine AllReadyH.cons2 (by simp only [List.getElem?_toArray, List.getElem?_cons_succ, List.getElem?_cons_zero]; first | done | exact rfl) (fun K hK => ?_)
    refine step_store_row rfl 45 (.tmp 3) (.tmp 20) rfl (G + 1) #[.slice A k c, .slice A' k c', I64 en, .int .i64 0, .int .i64 0, .bool true, I64 z] rfl rfl 45 _ HD.out (by kernel_rfl) rfl (st_one _ _ _ _ _ _ _ _ _ _ _) ?_
    refine hK.out _ _ (by exact HU7.out) (fun hHeld => ?_)
    clear hK K
    try simp only [Act.put, List.setIfInBounds_toArray, List.set_cons_zero, List.set_cons_succ]
    refine wpAnyH_take2 (i := 14) (by simp only [List.getElem?_toArray, List.getElem?_cons_succ, List.getElem?_cons_zero]; first | done | exact rfl) ⟨?_, by kernel_rfl, by kernel_rfl, by kernel_rfl, fun _ _ _ h => h, Or.inl ⟨by rfl, ?_⟩, by assumption, ?_⟩
    rotate_left 1
    · (intro w9 hSw; (try dsimp only at hSw); go_simp; try (with_reducible rfl))
    try simp only [Act.put, List.setIfInBounds_toArray, List.set_cons_zero, List.set_cons_succ]
    refine wpAnyH_done (by kernel_rfl) ?_ _
    refine NoPanic.normal ?_
    go_wp2_with fail
    have hR := (HD.out.drew).setRow #[.slice A k c, .slice A' k c', I64 en, .int .i64 0, .int .i64 0, .bool true, I64 z]
    have hO : ∀ R : Nat → Prop, R (G + 1) → Only R w2 (World.setRow (w2.alloc (.cells #[.slice A k c, .slice A' k c', I64 en, .int .i64 0, .int .i64 0, .bool true, I64 z] 45)).drew (G + 1) #[.slice A k c, .slice A' k c', I64 en, .int .i64 0, .int .i64 0, .bool true, I64 z]) := fun R hr => (((Only.refl R w2).alloc _).drew).setRow hr _
    have hst := hsub.out.only (hO _ (.inr (.inr (.inr (by omega)))))
    have hmm := hm2.out.only (hO (fun b => b = G + 1) rfl) (by omega) (by omega) (by omega)
    have hbe : Below G w (World.setRow (w2.alloc (.cells #[.slice A k c, .slice A' k c', I64 en, .int .i64 0, .int .i64 0, .bool true, I64 z] 45)).drew (G + 1) #[.slice A k c, .slice A' k c', I64 en, .int .i64 0, .int .i64 0, .bool true, I64 z]) := Below.setRow ((hbw2.out.alloc (by have := hbw2.out.size; have := HG.out; omega) _).drew) (by omega) _
    refine bodyPost_ret (results_tmp_row_tmp rfl _ _ (G + 1) 45 _ (0, 0) _ rfl hR Try.underlying45 rfl (by kernel_rfl)) rfl ⟨.inr ⟨k, g, gw, gv, _, rfl, by omega, by omega, rfl, hmm, by rw [HG.out]; omega, by rw [HG.out]; omega, by rw [HG.out]; omega, ?_⟩, ?_⟩
    · rw [HG.out]; exact hst.sub (by omega) (fun b _ hb => by omega)
    · rw [HG.out]; exact hbe
  · have hN := Lib.hid (fun u => cell_New_no n en u h)
    have hF := Lib.hid (fun u => ref09_First_no n en u h)
    have hnb := Lib.hid h
    clear h
    go_enter Try.func19, Try.ntmps19
    go_wp2_with fail
    refine (hN.out _).mono ?_
    rintro e w1 ⟨rfl, hb1⟩
    obtain ⟨B1, B2, hbw⟩ := blk_of_two hb1
    have k0 := B1.cell 0
    have k1 := B1.cell 1
    have C2 := Lib.hid B2
    clear hb1 B2
    generalize hgs : w.heap.size = G at *
    have HG := Lib.hid hgs
    clear hgs
    go_wp2_with fail
    refine (hF.out _).mono ?_
    rintro e w2 ⟨rfl, hb2⟩
    have D2 := Lib.hid (C2.out.below hb2 C2.out.lt)
    have hbw2 := Lib.hid (hbw.trans (hb2.mono (by have := hbw.size; have := HG.out; omega)))
    clear hb2 k0 k1 hN hF hbw
    unfold zSt
    go_wp2_with fail
    have hT := Blk.new w2 45 #[.slice none 0 0, .slice none 0 0, .int .i64 0, .int .i64 0, .int .i64 0, .bool false, .int .i64 0]
    have hrange := rangeAt_blk hT
    have D := D2.out.alloc (.cells #[.slice none 0 0, .slice none 0 0, .int .i64 0, .int .i64 0, .int .i64 0, .bool false, .int .i64 0] 45)
    have hne : w2.heap.size ≠ G + 1 := by have := D2.out.lt; omega
    have hrange2 := rangeAt_setRow hrange hne #[.slice none 0 0, .slice none 0 0, .int .i64 0, .int .i64 0, .int .i64 0, .bool false, .int .i64 0]
    have hT7 := cells7 hrange
    have hU7 := cells7 hrange2
    have HD := Lib.hid D
    have HT7 := Lib.hid hT7
    have HU7 := Lib.hid hU7
    clear hT hrange hrange2 D hT7 hU7 hne
    refine wp_region_noPanic ?_
    refine wp_region_held_drew (S := fun u => u.cell? ⟨w2.heap.size, 0, none⟩ = some (.slice none 0 0) ∧ u.cell? ⟨w2.heap.size, 1, none⟩ = some (.slice none 0 0) ∧ u.cell? ⟨w2.heap.size, 2, none⟩ = some (.int .i64 0) ∧ u.cell? ⟨w2.heap.size, 3, none⟩ = some (.int .i64 0) ∧ u.cell? ⟨w2.heap.size, 4, none⟩ = some (.int .i64 0) ∧ u.cell? ⟨w2.heap.size, 5, none⟩ = some (.bool false) ∧ u.cell? ⟨w2.heap.size, 6, none⟩ = some (.int .i64 0)) (by kernel_rfl) (by exact HT7.out) (fun hHeld => ?_)
    refine wpAnyH_take2 (i := 0) (by simp only [List.getElem?_toArray, List.getElem?_cons_succ, List.getElem?_cons_zero]; first | done | exact rfl) ⟨?_, by kernel_rfl, by kernel_rfl, by kernel_rfl, fun _ _ _ h => h, Or.inl ⟨by rfl, ?_⟩, by assumption, ?_⟩
    rotate_left 1
    · (intro w9 hSw; (try dsimp only at hSw); go_simp; try (with_reducible rfl))
    try simp only [Act.put, List.setIfInBounds_toArray, List.set_cons_zero, List.set_cons_succ]
    refine wpAnyH_take2 (i := 1) (by simp only [List.getElem?_toArray, List.getElem?_cons_succ, List.getElem?_cons_zero]; first | done | exact rfl) ⟨?_, by kernel_rfl, by kernel_rfl, by kernel_rfl, fun _ _ _ h => h, Or.inl ⟨by rfl, ?_⟩, by assumption, ?_⟩
    rotate_left 1
    · (intro w9 hSw; (try dsimp only at hSw); go_simp; try (with_reducible rfl))
    try simp only [Act.put, List.setIfInBounds_toArray, List.set_cons_zero, List.set_cons_succ]
    refine wpAnyH_take2 (i := 2) (by simp only [List.getElem?_toArray, List.getElem?_cons_succ, List.getElem?_cons_zero]; first | done | exact rfl) ⟨?_, by kernel_rfl, by kernel_rfl, by kernel_rfl, fun _ _ _ h => h, Or.inl ⟨by rfl, ?_⟩, by assumption, ?_⟩
    rotate_left 1
    · (intro w9 hSw; (try dsimp only at hSw); go_simp; try (with_reducible rfl))
    try simp only [Act.put, List.setIfInBounds_toArray, List.set_cons_zero, List.set_cons_succ]
    refine wpAnyH_take2 (i := 3) (by simp only [List.getElem?_toArray, List.getElem?_cons_succ, List.getElem?_cons_zero]; first | done | exact rfl) ⟨?_, by kernel_rfl, by kernel_rfl, by kernel_rfl, fun _ _ _ h => h, Or.inl ⟨by rfl, ?_⟩, by assumption, ?_⟩
    rotate_left 1
    · (intro w9 hSw; (try dsimp only at hSw); go_simp; try (with_reducible rfl))
    try simp only [Act.put, List.setIfInBounds_toArray, List.set_cons_zero, List.set_cons_succ]
    refine wpAnyH_take2 (i := 4) (by simp only [List.getElem?_toArray, List.getElem?_cons_succ, List.getElem?_cons_zero]; first | done | exact rfl) ⟨?_, by kernel_rfl, by kernel_rfl, by kernel_rfl, fun _ _ _ h => h, Or.inl ⟨by rfl, ?_⟩, by assumption, ?_⟩
    rotate_left 1
    · (intro w9 hSw; (try dsimp only at hSw); go_simp; try (with_reducible rfl))
    try simp only [Act.put, List.setIfInBounds_toArray, List.set_cons_zero, List.set_cons_succ]
    refine wpAnyH_take2 (i := 5) (by simp only [List.getElem?_toArray, List.getElem?_cons_succ, List.getElem?_cons_zero]; first | done | exact rfl) ⟨?_, by kernel_rfl, by kernel_rfl, by kernel_rfl, fun _ _ _ h => h, Or.inl ⟨by rfl, ?_⟩, by assumption, ?_⟩
    rotate_left 1
    · (intro w9 hSw; (try dsimp only at hSw); go_simp; try (with_reducible rfl))
    try simp only [Act.put, List.setIfInBounds_toArray, List.set_cons_zero, List.set_cons_succ]
    refine wpAnyH_take2 (i := 6) (by simp only [List.getElem?_toArray, List.getElem?_cons_succ, List.getElem?_cons_zero]; first | done | exact rfl) ⟨?_, by kernel_rfl, by kernel_rfl, by kernel_rfl, fun _ _ _ h => h, Or.inl ⟨by rfl, ?_⟩, by assumption, ?_⟩
    rotate_left 1
    · (intro w9 hSw; (try dsimp only at hSw); go_simp; try (with_reducible rfl))
    try simp only [Act.put, List.setIfInBounds_toArray, List.set_cons_zero, List.set_cons_succ]
    refine wpAnyH_take2 (i := 7) (by simp only [List.getElem?_toArray, List.getElem?_cons_succ, List.getElem?_cons_zero]; first | done | exact rfl) ⟨?_, by kernel_rfl, by kernel_rfl, by kernel_rfl, fun _ _ _ h => h, Or.inl ⟨by rfl, ?_⟩, by assumption, ?_⟩
    rotate_left 1
    · (intro w9 hSw; (try dsimp only at hSw); go_simp; try (with_reducible rfl))
    try simp only [Act.put, List.setIfInBounds_toArray, List.set_cons_zero, List.set_cons_succ]
    refine wpAnyH_take2 (i := 8) (by simp only [List.getElem?_toArray, List.getElem?_cons_succ, List.getElem?_cons_zero]; first | done | exact rfl) ⟨?_, by kernel_rfl, by kernel_rfl, by kernel_rfl, fun _ _ _ h => h, Or.inl ⟨by rfl, ?_⟩, by assumption, ?_⟩
    rotate_left 1
    · (intro w9 hSw; (try dsimp only at hSw); go_simp; try (with_reducible rfl))
    try simp only [Act.put, List.setIfInBounds_toArray, List.set_cons_zero, List.set_cons_succ]
    refine wpAnyH_take2 (i := 9) (by simp only [List.getElem?_toArray, List.getElem?_cons_succ, List.getElem?_cons_zero]; first | done | exact rfl) ⟨?_, by kernel_rfl, by kernel_rfl, by kernel_rfl, fun _ _ _ h => h, Or.inl ⟨by rfl, ?_⟩, by assumption, ?_⟩
    rotate_left 1
    · (intro w9 hSw; (try dsimp only at hSw); go_simp; try (with_reducible rfl))
    try simp only [Act.put, List.setIfInBounds_toArray, List.set_cons_zero, List.set_cons_succ]
    refine wpAnyH_take2 (i := 10) (by simp only [List.getElem?_toArray, List.getElem?_cons_succ, List.getElem?_cons_zero]; first | done | exact rfl) ⟨?_, by kernel_rfl, by kernel_rfl, by kernel_rfl, fun _ _ _ h => h, Or.inl ⟨by rfl, ?_⟩, by assumption, ?_⟩
    rotate_left 1
    · (intro w9 hSw; (try dsimp only at hSw); go_simp; try (with_reducible rfl))
    try simp only [Act.put, List.setIfInBounds_toArray, List.set_cons_zero, List.set_cons_succ]
    refine wpAnyH_take2 (i := 11) (by simp only [List.getElem?_toArray, List.getElem?_cons_succ, List.getElem?_cons_zero]; first | done | exact rfl) ⟨?_, by kernel_rfl, by kernel_rfl, by kernel_rfl, fun _ _ _ h => h, Or.inl ⟨by rfl, ?_⟩, by assumption, ?_⟩
    rotate_left 1
    · (intro w9 hSw; (try dsimp only at hSw); go_simp; try (with_reducible rfl))
    try simp only [Act.put, List.setIfInBounds_toArray, List.set_cons_zero, List.set_cons_succ]
    refine wpAnyH_take2 (i := 12) (by simp only [List.getElem?_toArray, List.getElem?_cons_succ, List.getElem?_cons_zero]; first | done | exact rfl) ⟨?_, by kernel_rfl, by kernel_rfl, by kernel_rfl, fun _ _ _ h => h, Or.inl ⟨by rfl, ?_⟩, by assumption, ?_⟩
    rotate_left 1
    · (intro w9 hSw; (try dsimp only at hSw); go_simp; try (with_reducible rfl))
    try simp only [Act.put, List.setIfInBounds_toArray, List.set_cons_zero, List.set_cons_succ]
    refine wpAnyH_ready (rs := [13]) (by kernel_rfl) (by simp) ?_
    refine AllReadyH.cons2 (by simp only [List.getElem?_toArray, List.getElem?_cons_succ, List.getElem?_cons_zero]; first | done | exact rfl) (fun K hK => ?_)
    refine step_store_row rfl 45 (.tmp 3) (.tmp 20) rfl (G + 1) #[.slice none 0 0, .slice none 0 0, .int .i64 0, .int .i64 0, .int .i64 0, .bool false, .int .i64 0] rfl rfl 45 _ HD.out (by kernel_rfl) rfl (st_one _ _ _ _ _ _ _ _ _ _ _) ?_
    refine hK.out _ _ (by exact HU7.out) (fun hHeld => ?_)
    clear hK K
    try simp only [Act.put, List.setIfInBounds_toArray, List.set_cons_zero, List.set_cons_succ]
    refine wpAnyH_take2 (i := 14) (by simp only [List.getElem?_toArray, List.getElem?_cons_succ, List.getElem?_cons_zero]; first | done | exact rfl) ⟨?_, by kernel_rfl, by kernel_rfl, by kernel_rfl, fun _ _ _ h => h, Or.inl ⟨by rfl, ?_⟩, by assumption, ?_⟩
    rotate_left 1
    · (intro w9 hSw; (try dsimp only at hSw); go_simp; try (with_reducible rfl))
    try simp only [Act.put, List.setIfInBounds_toArray, List.set_cons_zero, List.set_cons_succ]
    refine wpAnyH_done (by kernel_rfl) ?_ _
    refine NoPanic.normal ?_
    go_wp2_with fail
    have hR := (HD.out.drew).setRow #[.slice none 0 0, .slice none 0 0, .int .i64 0, .int .i64 0, .int .i64 0, .bool false, .int .i64 0]
    have hbe : Below G w (World.setRow (w2.alloc (.cells #[.slice none 0 0, .slice none 0 0, .int .i64 0, .int .i64 0, .int .i64 0, .bool false, .int .i64 0] 45)).drew (G + 1) #[.slice none 0 0, .slice none 0 0, .int .i64 0, .int .i64 0, .int .i64 0, .bool false, .int .i64 0]) := Below.setRow ((hbw2.out.alloc (by have := hbw2.out.size; have := HG.out; omega) _).drew) (by omega) _
    refine bodyPost_ret (results_tmp_row_tmp rfl _ _ (G + 1) 45 _ (0, 0) _ rfl hR Try.underlying45 rfl (by kernel_rfl)) rfl ⟨.inl ⟨hnb.out, rfl⟩, ?_⟩
    rw [HG.out]; exact hbe
end Go.Proofs.Ytdpfehdpglbidaa
