/-
  The walk of Open, where the memory has power and words enough.
-/
import Derived.Test.YtnlhammgcemchaaZ0
import Derived.Test.YtnlhammgcemchaaPgH
namespace Go.Proofs.Ytnlhammgcemchaa
set_option maxRecDepth 100000
set_option linter.unusedSimpArgs false
set_option linter.unusedVariables false
open Go.RowKit
set_option maxHeartbeats 8000000

/-- Behind the two slices that Open makes. -/
def OpCut (w0 : World) (gm n0 n2 n3 g n4 : Nat) (m : Cel.Mem) (wx : World) : Prop := ∃ qA qH, Mem (fun _ => False) w0 wx [⟨qH, 3, (ecells (List.replicate (n0 / 20) none)).toArray⟩, ⟨qA, 3, (ecells (List.replicate (n0 / 24) none)).toArray⟩, ⟨n2, 31, #[.pointer none]⟩, ⟨n3, 26, #[.int .i64 0]⟩,
  ⟨g, 69, #[.pointer (some ⟨gm, 0, none⟩), .int .i64 m.cuts, .int .i64 ((n0 : Int) / 24), .int .i64 ((n0 : Int) / 20), .int .i64 0, .int .i64 0, .slice (some ⟨qA, 0, none⟩) (n0 / 24) (n0 / 24), .slice (some ⟨qH, 0, none⟩) (n0 / 20) (n0 / 20), .slice none 0 0, .int .i64 0]⟩, ⟨n4, 31, #[.pointer (some ⟨g, 0, none⟩)]⟩] []
theorem spl_ncells (l : List Nat) (i : Nat) (hi : i < l.length) (v : Nat) : spl (ncells l).toArray i #[Value.int .i64 (v : Int)] = (ncells (l.set i v)).toArray := by
  unfold spl
  congr 1
  simp only [List.toList_toArray, List.size_toArray, List.length_cons, List.length_nil, Nat.zero_add]
  have h1 : i < (ncells l).length := by simpa [ncells] using hi
  have h2 : (ncells l).set i (Value.int .i64 (v : Int)) = (ncells l).take i ++ [Value.int .i64 (v : Int)] ++ (ncells l).drop (i + 1) := by
    rw [List.set_eq_take_append_cons_drop, if_pos h1]; simp
  rw [← h2]
  simp [ncells, List.map_set, I64]
theorem opI_own {w0 : World} {m : Cel.Mem} {x : OpS} {s : PgS} {B : Nat} (hB : w0.heap.size ≤ B) : OwnFrom B (OpI w0 m x s) := fun k W W' row hs hg hr => by
  obtain ⟨q, hq, hm⟩ := hs
  exact ⟨q, hq, hm.grown hg hr hB⟩
theorem opBad_own {w0 : World} {m : Cel.Mem} {x : OpS} {B : Nat} (hB : w0.heap.size ≤ B) : OwnFrom B (OpBad w0 m x) := fun c W W' row hs hg hr => by
  obtain ⟨h1, h2, h3, h4, h5⟩ := hs
  have h6 : Below w0.heap.size W W' := ⟨hg.os, hg.tape, hg.output, hg.size, fun k hk => by
    by_cases hk2 : k < W.heap.size
    · exact hg.block k hk2 (fun e => by have := (hr k e.symm).1; omega)
    · have := h3.size; omega⟩
  exact ⟨h1, h2, h3.trans h6, cell_kept h4 hg (fun r e => (hr r e).2), cell_kept h5 hg (fun r e => (hr r e).2)⟩
theorem Pg.opened_nil (m : Cel.Mem) : (Pg.start m).p = ⟨m, m.cuts, m.words.length / 24, m.words.length / 20, 0, 0, List.replicate (m.words.length / 24) none, List.replicate (m.words.length / 20) none, [], 0⟩ := rfl
theorem page_Open_on {w0 : World} {gm gw gv n0 cw cv : Nat} {m : Cel.Mem} (H : MemAt w0 gm gw gv n0 cw cv m) (hon : m.off = false) (h240 : 240 ≤ n0) {K : Int} (hK : Cel.Fine K m) (h0 : 0 ≤ K ∧ K ≤ 4611686018427387904) (hfrees : ∀ q, Pg.scan m (Pg.start m) (n0 / 20) = some q → 0 < (Pg.frees q.p.holds).length) :
    Calls Try.prog 12 #[.pointer (some ⟨gm, 0, none⟩)] w0 fun e w' => Below w0.heap.size w0 w' ∧ ((Pg.scan m (Pg.start m) (n0 / 20) = none ∧ e = .returned (.tuple #[.pointer none, .int .i64 9])) ∨
      ∃ g G s p, e = .returned (.tuple #[.pointer (some ⟨g, 0, none⟩), .int .i64 0]) ∧ Pg.Opened m p ∧ PAt w' g G s p ∧ s.gm = gm ∧ s.gw = gw ∧ s.gv = gv ∧ s.n = n0 ∧ s.cw = cw ∧ s.cv = cv ∧ (∀ q, G q → q = gm ∨ q = gw ∨ q = gv ∨ w0.heap.size ≤ q)) := by
  obtain ⟨ti, hi0, hz0, hz1, hz2⟩ := info_parts i_int'
  have hlen := H.len
  have hsmall := H.small
  have hm := Mem.nil (fun _ => False) w0
  have HM := Lib.hid H
  have HON := Lib.hid hon
  have HKK := Lib.hid hK
  have HFR := Lib.hid hfrees
  have hlt := H.lts
  have hPO := Lib.hid (fun (u : World) (h : MemAt u gm gw gv n0 cw cv m) => show Calls Try.prog 31 #[.pointer (some ⟨gm, 0, none⟩)] u fun e w' => e = .returned (.bool true) ∧ u = w' from (cell_Power h).mono fun e w' h2 => ⟨by rw [h2.1, hon]; rfl, h2.2⟩)
  have c24 : ((n0 / 24 : Nat) : Int) = (n0 : Int) / 24 := by simp
  have c20 : ((n0 / 20 : Nat) : Int) = (n0 : Int) / 20 := by simp
  have r24 : 1 ≤ n0 / 24 := by omega
  have r20 : 1 ≤ n0 / 20 := by omega
  have z0 : ((n0 : Int) == 0) = false := by rw [beq_eq_false_iff_ne]; omega
  have z1 : decide ((n0 : Int) < 240) = false := by rw [decide_eq_false_iff_not]; omega
  have mk : ∀ u : World, (Instr.makeSlice 63 (.int .i64 ((n0 : Int) / 20)) (.int .i64 ((n0 : Int) / 20))).run Try.prog u = .ok (.slice (some ⟨u.heap.size, 0, none⟩) (n0 / 20) (n0 / 20)) (u.alloc (.cells (List.replicate (n0 / 20) (I64 0)).toArray 3)) := fun u => by
    rw [← zz_cells]
    have h := run_make (P := Try.prog) u 63 3 ti (.int .i64 0) Try.underlying63 hi0 hz0 .i64 .i64 ((n0 : Int) / 20) ((n0 : Int) / 20) (by omega) (Int.le_refl _) (by rw [hz2]; omega) (by omega)
    have e : ((n0 : Int) / 20).toNat = n0 / 20 := by omega
    simpa [hz1, Value.cells, e] using h
  have HRA := Lib.hid (fun (u : World) (b : Nat) (hb : Blk u b 3 #[.int .i64 (-1)]) => show Calls Try.prog 33 #[.slice (some ⟨b, 0, none⟩) 1 1, .int .i64 ((n0 : Int) / 24)] u fun e w' => ∃ q, e = .returned (.slice (some ⟨q, 0, none⟩) (n0 / 24) (n0 / 24)) ∧ u.heap.size ≤ q ∧ Blk w' q 3 (ecells (List.replicate (n0 / 24) none)).toArray ∧ Below u.heap.size u w' by
    rw [← c24]
    exact slices_RepeatN ⟨b, 0, none⟩ 1 (n0 / 24) u (by rw [hb.cell]; rfl) hb.lt (by omega) (by omega))
  have HRH := Lib.hid (fun (u : World) (b : Nat) (hb : Blk u b 3 #[.int .i64 (-1)]) => show Calls Try.prog 33 #[.slice (some ⟨b, 0, none⟩) 1 1, .int .i64 ((n0 : Int) / 20)] u fun e w' => ∃ q, e = .returned (.slice (some ⟨q, 0, none⟩) (n0 / 20) (n0 / 20)) ∧ u.heap.size ≤ q ∧ Blk w' q 3 (ecells (List.replicate (n0 / 20) none)).toArray ∧ Below u.heap.size u w' by
    rw [← c20]
    exact slices_RepeatN ⟨b, 0, none⟩ 1 (n0 / 20) u (by rw [hb.cell]; rfl) hb.lt (by omega) (by omega))
  clear H hon hK hfrees
  refine calls_marks Try.func12 rfl ?_
  simp only [Try.ntmps12, List.size_toArray, List.length_cons, List.length_nil, Nat.reduceAdd, Nat.reduceSub, Array.replicate_succ, Array.replicate_zero, List.push_toArray, List.append_toArray, List.nil_append, List.cons_append]
  go_wp2_with (first | go_skip | ((with_reducible show wpList _ _ _ _ _ (World.alloc _ _)); refine wpList_up hm ?_; clear hm; intro n w hn hn2 hk hm hd hd2 ho; (try rw [← hn]); replace hn := Nat.le_of_eq hn.symm) | ((first | ((with_reducible show wpList _ _ _ (Oper.mk _ (Op.box _ _) _ _ _ _ :: _) _ _); (refine bxA hm ?_; clear hm; intro n w hn hz hm ho; (try simp only [List.cons_append, List.nil_append] at hm))) | ((with_reducible show wpList _ _ _ (Oper.mk _ (Op.load _ _) _ _ _ _ :: _) _ _); first | (refine ldA hm ?_) | (refine laA hm ?_)) | ((with_reducible show wpList _ _ _ (Oper.mk _ (Op.store _ _ _) _ _ _ _ :: _) _ _); (refine stA hm ?_; clear hm; intro w hz hm ho)) | ((with_reducible show wpList _ _ _ (Oper.mk _ (Op.alloc _) _ _ _ _ :: _) _ _); (refine alA hm ?_; clear hm; intro n w hn hz hm ho; (try simp only [List.cons_append, List.nil_append] at hm)))); try simp only [Act.put, sxQ]) | (go_at_call 30; refine (cell_Words (HM.out.below hm.low)).mono ?_; rintro e w2 ⟨rfl, rfl⟩) | (go_at_call 31; refine (hPO.out _ (HM.out.below hm.low)).mono ?_; rintro e w2 ⟨rfl, rfl⟩) | (go_at_call 32; refine (cell_Cuts (HM.out.below hm.low)).mono ?_; rintro e w2 ⟨rfl, rfl⟩))
  obtain ⟨n2, h9⟩ := hm.nm 0 rfl
  dsimp only at h9
  subst h9
  obtain ⟨n3, h9⟩ := hm.nm 1 rfl
  dsimp only at h9
  subst h9
  obtain ⟨g, h9⟩ := hm.nm 2 rfl
  dsimp only at h9
  subst h9
  obtain ⟨n4, h9⟩ := hm.nm 3 rfl
  dsimp only at h9
  subst h9
  go_cut [] from 36 to 53 (fun wx => OpCut w0 gm n0 n2 n3 g n4 m wx)
  case first =>
    refine wp_region_noPanic ?_
    refine wp_region_held_drew (S := fun u => Blk u n4 31 #[.pointer (some ⟨g, 0, none⟩)] ∧ u.cell? ⟨g, 2, none⟩ = some (.int .i64 ((n0 : Int) / 24)) ∧ u.cell? ⟨g, 3, none⟩ = some (.int .i64 ((n0 : Int) / 20))) (by kernel_rfl) (⟨(hm.at_ 3 rfl).drew, (hm.drew.at_ 2 rfl).cell 2, (hm.drew.at_ 2 rfl).cell 3⟩) (fun hHeld => ?_)
    refine wpAnyH_fresh (by repeat (first | apply Fresh.a | apply Fresh.b)) ?_
    replace hm := hm.drew
    have hS := hm
    refine takeY 0 ?_ hHeld ?_ ?_; rotate_left 1; (intro w9 h9; (with_reducible show (execOp _ (Oper.mk _ (Op.load _ _) _ _ _ _)).run _ _ = _); exact exec_ld h9.1 _ _ rfl rfl (by decide +kernel) _ (by first | done | exact rfl))
    try simp only [Act.put, sxQ]
    refine takeY 1 ?_ hHeld ?_ ?_; rotate_left 1; (intro w9 h9; (with_reducible show (execOp _ (Oper.mk _ (Op.load _ _) _ _ _ _)).run _ _ = _); exact exec_ld h9.1 _ _ rfl rfl (by decide +kernel) _ (by first | done | exact rfl))
    try simp only [Act.put, sxQ]
    refine takeY 3 ?_ hHeld ?_ ?_; rotate_left 1; (intro w9 h9; (with_reducible show (execOp _ (Oper.mk _ (Op.load _ _) _ _ _ _)).run _ _ = _); exact exec_ld h9.1 _ _ rfl rfl (by decide +kernel) _ (by first | done | exact rfl))
    try simp only [Act.put, sxQ]
    iterate 1 (refine wpAnyH_take3 (b := 4) (by repeat (first | apply Seek.a | apply Seek.b | apply Seek.c)) (by simp only [sxN]; first | done | exact rfl) ⟨?_, by kernel_rfl, by kernel_rfl, by kernel_rfl, fun _ _ _ h => h, Or.inl ⟨by rfl, ?_⟩, by assumption, ?_⟩; rotate_left 1; focus (intro w9 hSw; (try dsimp only at hSw); go_simp; try (with_reducible rfl)); try simp only [Act.put, sxQ])
    try simp only [Act.put, sxQ]
    iterate 1 (refine wpAnyH_take3 (b := 5) (by repeat (first | apply Seek.a | apply Seek.b | apply Seek.c)) (by simp only [sxN]; first | done | exact rfl) ⟨?_, by kernel_rfl, by kernel_rfl, by kernel_rfl, fun _ _ _ h => h, Or.inl ⟨by rfl, ?_⟩, by assumption, ?_⟩; rotate_left 1; focus (intro w9 hSw; (try dsimp only at hSw); go_simp; try (with_reducible rfl)); try simp only [Act.put, sxQ])
    try simp only [Act.put, sxQ]
    refine takeY 6 ?_ hHeld ?_ ?_; rotate_left 1; (intro w9 h9; (with_reducible show (execOp _ (Oper.mk _ (Op.load _ _) _ _ _ _)).run _ _ = _); exact exec_lc _ _ rfl _ rfl (by decide +kernel) _ h9.2.1 _ (by first | done | exact rfl))
    try simp only [Act.put, sxQ]
    refine takeY 9 ?_ hHeld ?_ ?_; rotate_left 1; (intro w9 h9; (with_reducible show (execOp _ (Oper.mk _ (Op.load _ _) _ _ _ _)).run _ _ = _); exact exec_ld h9.1 _ _ rfl rfl (by decide +kernel) _ (by first | done | exact rfl))
    try simp only [Act.put, sxQ]
    iterate 1 (refine wpAnyH_take3 (b := 10) (by repeat (first | apply Seek.a | apply Seek.b | apply Seek.c)) (by simp only [sxN]; first | done | exact rfl) ⟨?_, by kernel_rfl, by kernel_rfl, by kernel_rfl, fun _ _ _ h => h, Or.inl ⟨by rfl, ?_⟩, by assumption, ?_⟩; rotate_left 1; focus (intro w9 hSw; (try dsimp only at hSw); go_simp; try (with_reducible rfl)); try simp only [Act.put, sxQ])
    try simp only [Act.put, sxQ]
    iterate 1 (refine wpAnyH_take3 (b := 11) (by repeat (first | apply Seek.a | apply Seek.b | apply Seek.c)) (by simp only [sxN]; first | done | exact rfl) ⟨?_, by kernel_rfl, by kernel_rfl, by kernel_rfl, fun _ _ _ h => h, Or.inl ⟨by rfl, ?_⟩, by assumption, ?_⟩; rotate_left 1; focus (intro w9 hSw; (try dsimp only at hSw); go_simp; try (with_reducible rfl)); try simp only [Act.put, sxQ])
    try simp only [Act.put, sxQ]
    refine takeY 12 ?_ hHeld ?_ ?_; rotate_left 1; (intro w9 h9; (with_reducible show (execOp _ (Oper.mk _ (Op.load _ _) _ _ _ _)).run _ _ = _); exact exec_lc _ _ rfl _ rfl (by decide +kernel) _ h9.2.2 _ (by first | done | exact rfl))
    try simp only [Act.put, sxQ]
    refine wpAnyH_ready (rs := [2, 8]) (by kernel_rfl) (by simp) ?_
    refine AllReadyH.cons3 (by simp only [sxN]; first | done | exact rfl) (fun K hK => ?_) (AllReadyH.cons2 (by simp only [sxN]; first | done | exact rfl) (fun K hK => ?_))
    · rw [if_pos (by rfl)]
      go_simp
      refine K_up hm ?_
      intro b1 w1 hn1 hs1 hB1 hm1 hd1 hd1b hb1
      first | rw [← hn1] | rw [← (show b1 = w.heap.size from hn1)] | rw [← (show b1 = w4.heap.size from hn1)] | rw [← (show b1 = w9.heap.size from hn1)]
      have hm := hm1
      clear hm1 hn1
      replace hS := hS.below hb1
      refine hK.out _ _ (⟨hS.at_ 3 rfl, (hS.at_ 2 rfl).cell 2, (hS.at_ 2 rfl).cell 3⟩) (fun hHeld => ?_)
      clear hK K
      try simp only [Act.put, sxQ]
      refine wpAnyH_ready (rs := [7, 8]) (by kernel_rfl) (by simp) ?_
      refine AllReadyH.cons3 (by simp only [sxN]; first | done | exact rfl) (fun K hK => ?_) (AllReadyH.cons2 (by simp only [sxN]; first | done | exact rfl) (fun K hK => ?_))
      · rw [if_pos (by rfl)]
        go_simp
        refine (HRA.out _ b1 hB1).mono ?_
        rintro e w4 ⟨qA, rfl, hq9, hB9, hb9⟩
        replace hS := hS.below hb9
        replace hm := hm.gotB hb9 hq9 hB9
        go_simp
        refine hK.out _ _ (⟨hS.at_ 3 rfl, (hS.at_ 2 rfl).cell 2, (hS.at_ 2 rfl).cell 3⟩) (fun hHeld => ?_)
        clear hK K
        try simp only [Act.put, sxQ]
        refine wpAnyH_ready (rs := [8]) (by kernel_rfl) (by simp) ?_
        refine AllReadyH.cons2 (by simp only [sxN]; first | done | exact rfl) (fun K hK => ?_)
        rw [if_pos (by rfl)]
        go_simp
        refine K_up hm ?_
        intro b2 w1 hn1 hs1 hB2 hm1 hd1 hd1b hb1
        first | rw [← hn1] | rw [← (show b2 = w.heap.size from hn1)] | rw [← (show b2 = w4.heap.size from hn1)] | rw [← (show b2 = w9.heap.size from hn1)]
        have hm := hm1
        clear hm1 hn1
        replace hS := hS.below hb1
        refine hK.out _ _ (⟨hS.at_ 3 rfl, (hS.at_ 2 rfl).cell 2, (hS.at_ 2 rfl).cell 3⟩) (fun hHeld => ?_)
        clear hK K
        try simp only [Act.put, sxQ]
        refine wpAnyH_ready (rs := [13]) (by kernel_rfl) (by simp) ?_
        refine AllReadyH.cons2 (by simp only [sxN]; first | done | exact rfl) (fun K hK => ?_)
        rw [if_pos (by rfl)]
        go_simp
        refine (HRH.out _ b2 hB2).mono ?_
        rintro e w4 ⟨qH, rfl, hq9, hB9, hb9⟩
        replace hS := hS.below hb9
        replace hm := hm.gotB hb9 hq9 hB9
        go_simp
        refine hK.out _ _ (⟨hS.at_ 3 rfl, (hS.at_ 2 rfl).cell 2, (hS.at_ 2 rfl).cell 3⟩) (fun hHeld => ?_)
        clear hK K
        try simp only [Act.put, sxQ]
        iterate 1 (refine wpAnyH_take3 (b := 14) (by repeat (first | apply Seek.a | apply Seek.b | apply Seek.c)) (by simp only [sxN]; first | done | exact rfl) ⟨?_, by kernel_rfl, by kernel_rfl, by kernel_rfl, fun _ _ _ h => h, Or.inl ⟨by rfl, ?_⟩, by assumption, ?_⟩; rotate_left 1; focus (intro w9 hSw; (try dsimp only at hSw); go_simp; try (with_reducible rfl)); try simp only [Act.put, sxQ])
        try simp only [Act.put, sxQ]
        iterate 1 (refine wpAnyH_take3 (b := 15) (by repeat (first | apply Seek.a | apply Seek.b | apply Seek.c)) (by simp only [sxN]; first | done | exact rfl) ⟨?_, by kernel_rfl, by kernel_rfl, by kernel_rfl, fun _ _ _ h => h, Or.inl ⟨by rfl, ?_⟩, by assumption, ?_⟩; rotate_left 1; focus (intro w9 hSw; (try dsimp only at hSw); go_simp; try (with_reducible rfl)); try simp only [Act.put, sxQ])
        try simp only [Act.put, sxQ]
        refine wpAnyH_ready (rs := [16]) (by kernel_rfl) (by simp) ?_
        refine AllReadyH.cons2 (by simp only [sxN]; first | done | exact rfl) (fun K hK => ?_)
        refine stB hm ?_
        clear hm hS; intro w hz hm ho
        refine hK.out _ _ (⟨hm.at_ 5 rfl, (hm.at_ 4 rfl).cell 2, (hm.at_ 4 rfl).cell 3⟩) (fun hHeld => ?_)
        clear hK K
        try simp only [Act.put, sxQ]
        iterate 1 (refine wpAnyH_take3 (b := 17) (by repeat (first | apply Seek.a | apply Seek.b | apply Seek.c)) (by simp only [sxN]; first | done | exact rfl) ⟨?_, by kernel_rfl, by kernel_rfl, by kernel_rfl, fun _ _ _ h => h, Or.inl ⟨by rfl, ?_⟩, by assumption, ?_⟩; rotate_left 1; focus (intro w9 hSw; (try dsimp only at hSw); go_simp; try (with_reducible rfl)); try simp only [Act.put, sxQ])
        try simp only [Act.put, sxQ]
        iterate 1 (refine wpAnyH_take3 (b := 18) (by repeat (first | apply Seek.a | apply Seek.b | apply Seek.c)) (by simp only [sxN]; first | done | exact rfl) ⟨?_, by kernel_rfl, by kernel_rfl, by kernel_rfl, fun _ _ _ h => h, Or.inl ⟨by rfl, ?_⟩, by assumption, ?_⟩; rotate_left 1; focus (intro w9 hSw; (try dsimp only at hSw); go_simp; try (with_reducible rfl)); try simp only [Act.put, sxQ])
        try simp only [Act.put, sxQ]
        refine wpAnyH_ready (rs := [19]) (by kernel_rfl) (by simp) ?_
        refine AllReadyH.cons2 (by simp only [sxN]; first | done | exact rfl) (fun K hK => ?_)
        refine stB hm ?_
        clear hm; intro w hz hm ho
        refine hK.out _ _ (⟨hm.at_ 5 rfl, (hm.at_ 4 rfl).cell 2, (hm.at_ 4 rfl).cell 3⟩) (fun hHeld => ?_)
        clear hK K
        try simp only [Act.put, sxQ]
        refine wpAnyH_done (by kernel_rfl) ?_ _
        refine NoPanic.normal ?_
        go_wp2_with fail
        go_meet
        exact ⟨qA, qH, hm⟩
      · rw [if_pos (by rfl)]
        go_simp
        refine K_up hm ?_
        intro b2 w1 hn1 hs1 hB2 hm1 hd1 hd1b hb1
        first | rw [← hn1] | rw [← (show b2 = w.heap.size from hn1)] | rw [← (show b2 = w4.heap.size from hn1)] | rw [← (show b2 = w9.heap.size from hn1)]
        have hm := hm1
        clear hm1 hn1
        replace hS := hS.below hb1
        replace hB1 := hB1.below hb1 hB1.lt
        refine hK.out _ _ (⟨hS.at_ 3 rfl, (hS.at_ 2 rfl).cell 2, (hS.at_ 2 rfl).cell 3⟩) (fun hHeld => ?_)
        clear hK K
        try simp only [Act.put, sxQ]
        refine wpAnyH_ready (rs := [7]) (by kernel_rfl) (by simp) ?_
        refine AllReadyH.cons2 (by simp only [sxN]; first | done | exact rfl) (fun K hK => ?_)
        rw [if_pos (by rfl)]
        go_simp
        refine (HRA.out _ b1 hB1).mono ?_
        rintro e w4 ⟨qA, rfl, hq9, hB9, hb9⟩
        replace hS := hS.below hb9
        replace hm := hm.gotB hb9 hq9 hB9
        replace hB2 := hB2.below hb9 hB2.lt
        go_simp
        refine hK.out _ _ (⟨hS.at_ 3 rfl, (hS.at_ 2 rfl).cell 2, (hS.at_ 2 rfl).cell 3⟩) (fun hHeld => ?_)
        clear hK K
        try simp only [Act.put, sxQ]
        refine wpAnyH_ready (rs := [13]) (by kernel_rfl) (by simp) ?_
        refine AllReadyH.cons2 (by simp only [sxN]; first | done | exact rfl) (fun K hK => ?_)
        rw [if_pos (by rfl)]
        go_simp
        refine (HRH.out _ b2 hB2).mono ?_
        rintro e w4 ⟨qH, rfl, hq9, hB9, hb9⟩
        replace hS := hS.below hb9
        replace hm := hm.gotB hb9 hq9 hB9
        go_simp
        refine hK.out _ _ (⟨hS.at_ 3 rfl, (hS.at_ 2 rfl).cell 2, (hS.at_ 2 rfl).cell 3⟩) (fun hHeld => ?_)
        clear hK K
        try simp only [Act.put, sxQ]
        iterate 1 (refine wpAnyH_take3 (b := 14) (by repeat (first | apply Seek.a | apply Seek.b | apply Seek.c)) (by simp only [sxN]; first | done | exact rfl) ⟨?_, by kernel_rfl, by kernel_rfl, by kernel_rfl, fun _ _ _ h => h, Or.inl ⟨by rfl, ?_⟩, by assumption, ?_⟩; rotate_left 1; focus (intro w9 hSw; (try dsimp only at hSw); go_simp; try (with_reducible rfl)); try simp only [Act.put, sxQ])
        try simp only [Act.put, sxQ]
        iterate 1 (refine wpAnyH_take3 (b := 15) (by repeat (first | apply Seek.a | apply Seek.b | apply Seek.c)) (by simp only [sxN]; first | done | exact rfl) ⟨?_, by kernel_rfl, by kernel_rfl, by kernel_rfl, fun _ _ _ h => h, Or.inl ⟨by rfl, ?_⟩, by assumption, ?_⟩; rotate_left 1; focus (intro w9 hSw; (try dsimp only at hSw); go_simp; try (with_reducible rfl)); try simp only [Act.put, sxQ])
        try simp only [Act.put, sxQ]
        refine wpAnyH_ready (rs := [16]) (by kernel_rfl) (by simp) ?_
        refine AllReadyH.cons2 (by simp only [sxN]; first | done | exact rfl) (fun K hK => ?_)
        refine stB hm ?_
        clear hm hS; intro w hz hm ho
        refine hK.out _ _ (⟨hm.at_ 5 rfl, (hm.at_ 4 rfl).cell 2, (hm.at_ 4 rfl).cell 3⟩) (fun hHeld => ?_)
        clear hK K
        try simp only [Act.put, sxQ]
        iterate 1 (refine wpAnyH_take3 (b := 17) (by repeat (first | apply Seek.a | apply Seek.b | apply Seek.c)) (by simp only [sxN]; first | done | exact rfl) ⟨?_, by kernel_rfl, by kernel_rfl, by kernel_rfl, fun _ _ _ h => h, Or.inl ⟨by rfl, ?_⟩, by assumption, ?_⟩; rotate_left 1; focus (intro w9 hSw; (try dsimp only at hSw); go_simp; try (with_reducible rfl)); try simp only [Act.put, sxQ])
        try simp only [Act.put, sxQ]
        iterate 1 (refine wpAnyH_take3 (b := 18) (by repeat (first | apply Seek.a | apply Seek.b | apply Seek.c)) (by simp only [sxN]; first | done | exact rfl) ⟨?_, by kernel_rfl, by kernel_rfl, by kernel_rfl, fun _ _ _ h => h, Or.inl ⟨by rfl, ?_⟩, by assumption, ?_⟩; rotate_left 1; focus (intro w9 hSw; (try dsimp only at hSw); go_simp; try (with_reducible rfl)); try simp only [Act.put, sxQ])
        try simp only [Act.put, sxQ]
        refine wpAnyH_ready (rs := [19]) (by kernel_rfl) (by simp) ?_
        refine AllReadyH.cons2 (by simp only [sxN]; first | done | exact rfl) (fun K hK => ?_)
        refine stB hm ?_
        clear hm; intro w hz hm ho
        refine hK.out _ _ (⟨hm.at_ 5 rfl, (hm.at_ 4 rfl).cell 2, (hm.at_ 4 rfl).cell 3⟩) (fun hHeld => ?_)
        clear hK K
        try simp only [Act.put, sxQ]
        refine wpAnyH_done (by kernel_rfl) ?_ _
        refine NoPanic.normal ?_
        go_wp2_with fail
        go_meet
        exact ⟨qA, qH, hm⟩
    · rw [if_pos (by rfl)]
      go_simp
      refine K_up hm ?_
      intro b2 w1 hn1 hs1 hB2 hm1 hd1 hd1b hb1
      first | rw [← hn1] | rw [← (show b2 = w.heap.size from hn1)] | rw [← (show b2 = w4.heap.size from hn1)] | rw [← (show b2 = w9.heap.size from hn1)]
      have hm := hm1
      clear hm1 hn1
      replace hS := hS.below hb1
      refine hK.out _ _ (⟨hS.at_ 3 rfl, (hS.at_ 2 rfl).cell 2, (hS.at_ 2 rfl).cell 3⟩) (fun hHeld => ?_)
      clear hK K
      try simp only [Act.put, sxQ]
      refine wpAnyH_ready (rs := [2]) (by kernel_rfl) (by simp) ?_
      refine AllReadyH.cons2 (by simp only [sxN]; first | done | exact rfl) (fun K hK => ?_)
      rw [if_pos (by rfl)]
      go_simp
      refine K_up hm ?_
      intro b1 w1 hn1 hs1 hB1 hm1 hd1 hd1b hb1
      first | rw [← hn1] | rw [← (show b1 = w.heap.size from hn1)] | rw [← (show b1 = w4.heap.size from hn1)] | rw [← (show b1 = w9.heap.size from hn1)]
      have hm := hm1
      clear hm1 hn1
      replace hS := hS.below hb1
      replace hB2 := hB2.below hb1 hB2.lt
      refine hK.out _ _ (⟨hS.at_ 3 rfl, (hS.at_ 2 rfl).cell 2, (hS.at_ 2 rfl).cell 3⟩) (fun hHeld => ?_)
      clear hK K
      try simp only [Act.put, sxQ]
      refine wpAnyH_ready (rs := [7]) (by kernel_rfl) (by simp) ?_
      refine AllReadyH.cons2 (by simp only [sxN]; first | done | exact rfl) (fun K hK => ?_)
      rw [if_pos (by rfl)]
      go_simp
      refine (HRA.out _ b1 hB1).mono ?_
      rintro e w4 ⟨qA, rfl, hq9, hB9, hb9⟩
      replace hS := hS.below hb9
      replace hm := hm.gotB hb9 hq9 hB9
      replace hB2 := hB2.below hb9 hB2.lt
      go_simp
      refine hK.out _ _ (⟨hS.at_ 3 rfl, (hS.at_ 2 rfl).cell 2, (hS.at_ 2 rfl).cell 3⟩) (fun hHeld => ?_)
      clear hK K
      try simp only [Act.put, sxQ]
      refine wpAnyH_ready (rs := [13]) (by kernel_rfl) (by simp) ?_
      refine AllReadyH.cons2 (by simp only [sxN]; first | done | exact rfl) (fun K hK => ?_)
      rw [if_pos (by rfl)]
      go_simp
      refine (HRH.out _ b2 hB2).mono ?_
      rintro e w4 ⟨qH, rfl, hq9, hB9, hb9⟩
      replace hS := hS.below hb9
      replace hm := hm.gotB hb9 hq9 hB9
      go_simp
      refine hK.out _ _ (⟨hS.at_ 3 rfl, (hS.at_ 2 rfl).cell 2, (hS.at_ 2 rfl).cell 3⟩) (fun hHeld => ?_)
      clear hK K
      try simp only [Act.put, sxQ]
      iterate 1 (refine wpAnyH_take3 (b := 14) (by repeat (first | apply Seek.a | apply Seek.b | apply Seek.c)) (by simp only [sxN]; first | done | exact rfl) ⟨?_, by kernel_rfl, by kernel_rfl, by kernel_rfl, fun _ _ _ h => h, Or.inl ⟨by rfl, ?_⟩, by assumption, ?_⟩; rotate_left 1; focus (intro w9 hSw; (try dsimp only at hSw); go_simp; try (with_reducible rfl)); try simp only [Act.put, sxQ])
      try simp only [Act.put, sxQ]
      iterate 1 (refine wpAnyH_take3 (b := 15) (by repeat (first | apply Seek.a | apply Seek.b | apply Seek.c)) (by simp only [sxN]; first | done | exact rfl) ⟨?_, by kernel_rfl, by kernel_rfl, by kernel_rfl, fun _ _ _ h => h, Or.inl ⟨by rfl, ?_⟩, by assumption, ?_⟩; rotate_left 1; focus (intro w9 hSw; (try dsimp only at hSw); go_simp; try (with_reducible rfl)); try simp only [Act.put, sxQ])
      try simp only [Act.put, sxQ]
      refine wpAnyH_ready (rs := [16]) (by kernel_rfl) (by simp) ?_
      refine AllReadyH.cons2 (by simp only [sxN]; first | done | exact rfl) (fun K hK => ?_)
      refine stB hm ?_
      clear hm hS; intro w hz hm ho
      refine hK.out _ _ (⟨hm.at_ 5 rfl, (hm.at_ 4 rfl).cell 2, (hm.at_ 4 rfl).cell 3⟩) (fun hHeld => ?_)
      clear hK K
      try simp only [Act.put, sxQ]
      iterate 1 (refine wpAnyH_take3 (b := 17) (by repeat (first | apply Seek.a | apply Seek.b | apply Seek.c)) (by simp only [sxN]; first | done | exact rfl) ⟨?_, by kernel_rfl, by kernel_rfl, by kernel_rfl, fun _ _ _ h => h, Or.inl ⟨by rfl, ?_⟩, by assumption, ?_⟩; rotate_left 1; focus (intro w9 hSw; (try dsimp only at hSw); go_simp; try (with_reducible rfl)); try simp only [Act.put, sxQ])
      try simp only [Act.put, sxQ]
      iterate 1 (refine wpAnyH_take3 (b := 18) (by repeat (first | apply Seek.a | apply Seek.b | apply Seek.c)) (by simp only [sxN]; first | done | exact rfl) ⟨?_, by kernel_rfl, by kernel_rfl, by kernel_rfl, fun _ _ _ h => h, Or.inl ⟨by rfl, ?_⟩, by assumption, ?_⟩; rotate_left 1; focus (intro w9 hSw; (try dsimp only at hSw); go_simp; try (with_reducible rfl)); try simp only [Act.put, sxQ])
      try simp only [Act.put, sxQ]
      refine wpAnyH_ready (rs := [19]) (by kernel_rfl) (by simp) ?_
      refine AllReadyH.cons2 (by simp only [sxN]; first | done | exact rfl) (fun K hK => ?_)
      refine stB hm ?_
      clear hm; intro w hz hm ho
      refine hK.out _ _ (⟨hm.at_ 5 rfl, (hm.at_ 4 rfl).cell 2, (hm.at_ 4 rfl).cell 3⟩) (fun hHeld => ?_)
      clear hK K
      try simp only [Act.put, sxQ]
      refine wpAnyH_done (by kernel_rfl) ?_ _
      refine NoPanic.normal ?_
      go_wp2_with fail
      go_meet
      exact ⟨qA, qH, hm⟩
  case rest =>
    clear hm
    obtain ⟨qA, qH, hm⟩ := hcut
    go_wp2_with (first | ((with_reducible show wpList _ _ _ _ _ (World.alloc _ _)); refine wpList_up hm ?_; clear hm; intro V w hnV hnV2 hkV hm hdV hdV2 ho; (try rw [← hnV]); replace hnV := Nat.le_of_eq hnV.symm; replace hm := hm.cons hkV (.inr hnV2) (fun e he e2 => hdV e he e2.symm) hdV2; clear hkV hdV hdV2) | go_skip | ((with_reducible show wpList _ _ _ _ _ (World.alloc _ _)); refine wpList_up hm ?_; clear hm; intro n w hn hn2 hk hm hd hd2 ho; (try rw [← hn]); replace hn := Nat.le_of_eq hn.symm) | ((first | ((with_reducible show wpList _ _ _ (Oper.mk _ (Op.box _ _) _ _ _ _ :: _) _ _); (refine bxA hm ?_; clear hm; intro n w hn hz hm ho; (try simp only [List.cons_append, List.nil_append] at hm))) | ((with_reducible show wpList _ _ _ (Oper.mk _ (Op.load _ _) _ _ _ _ :: _) _ _); first | (refine ldA hm ?_) | (refine laA hm ?_)) | ((with_reducible show wpList _ _ _ (Oper.mk _ (Op.store _ _ _) _ _ _ _ :: _) _ _); (refine stA hm ?_; clear hm; intro w hz hm ho)) | ((with_reducible show wpList _ _ _ (Oper.mk _ (Op.alloc _) _ _ _ _ :: _) _ _); (refine alA hm ?_; clear hm; intro n w hn hz hm ho; (try simp only [List.cons_append, List.nil_append] at hm)))); try simp only [Act.put, sxQ]) | (go_at_call 34; refine (page_headers _ _).mono ?_; rintro e w8 ⟨pb, rfl, hpb, hBp, hbp⟩; replace hm := hm.gotB hbp hpb hBp))
    obtain ⟨n5, h9⟩ := hm.nm 8 rfl
    dsimp only at h9
    subst h9
    obtain ⟨s, hs⟩ : ∃ s : PgS, s = ⟨gm, gw, gv, n0, cw, cv, qA, n0 / 24, qH, n0 / 20, none, 0, [], []⟩ := ⟨_, rfl⟩
    obtain ⟨x, hx⟩ : ∃ x : OpS, x = ⟨n2, n3, g, n4, V, n5, pb⟩ := ⟨_, rfl⟩
    have hI0 : OpI w0 m x s 0 w8 := ⟨Pg.start m, rfl, by
      rw [hs, hx]
      have h9 := hm
      rw [← c24, ← c20] at h9
      simpa [opL, pcs, Pg.start, hlen, ncells, I64] using h9⟩
    have hOK : OpOk w0 m x s := ⟨by rw [hs]; exact HM.out, by rw [hs]⟩
    have hB8 : w0.heap.size ≤ w8.heap.size := hm.low.size
    refine wp_rangeF rfl (enters_of Try.func45 (by kernel_rfl) rfl) (fun k => rfl) (by rw [show pb = x.pb by rw [hx]]; exact page_iter hOK _) (fun _ => opI_own hB8 0) (fun _ => opI_own hB8 (m.words.length / 20)) (fun k => opI_own hB8 (k + 1)) (opBad_own hB8) hI0 ?round ?done ?stop
    case round =>
      rintro l k W ⟨q, hq, hkf, hm0⟩
      have hk0 := start_kept hq
      have hat := Pg.scan_at k q hq
      have hbd := Pg.scan_bad (m := m) (o := Pg.start m) (k := k)
      have hsc := Pg.scan_succ hq
      have hpg := fun i => @Pg.header_page m (m.words.length / 24) k i
      have hcn : (Pg.start m).p.count = m.words.length / 24 := rfl
      rw [hcn] at hbd hsc
      generalize Pg.header m (m.words.length / 24) k = hd at *
      obtain ⟨hdr, hc⟩ := hd
      obtain ⟨pg, ver, bad⟩ := hdr
      dsimp only [hdV] at *
      have hm := hm0.rebase
      subst hs
      subst hx
      simp only [opL, pcs, Pg.O.more] at hm
      gi_step
      refine region_in (by kernel_rfl) (fun _ _ h => h) ?_
      go_wp2_with (first | go_skip | ((with_reducible show wpList _ _ _ _ _ (World.alloc _ _)); refine wpList_up hm ?_; clear hm; intro n w hn hn2 hk hm hd hd2 ho; (try rw [← hn]); replace hn := Nat.le_of_eq hn.symm) | ((first | ((with_reducible show wpList _ _ _ (Oper.mk _ (Op.box _ _) _ _ _ _ :: _) _ _); (refine bxA hm ?_; clear hm; intro n w hn hz hm ho; (try simp only [List.cons_append, List.nil_append] at hm))) | ((with_reducible show wpList _ _ _ (Oper.mk _ (Op.load _ _) _ _ _ _ :: _) _ _); first | (refine ldA hm ?_) | (refine laA hm ?_)) | ((with_reducible show wpList _ _ _ (Oper.mk _ (Op.store _ _ _) _ _ _ _ :: _) _ _); (refine stA hm ?_; clear hm; intro w hz hm ho)) | ((with_reducible show wpList _ _ _ (Oper.mk _ (Op.alloc _) _ _ _ _ :: _) _ _); (refine alA hm ?_; clear hm; intro n w hn hz hm ho; (try simp only [List.cons_append, List.nil_append] at hm)))); try simp only [Act.put, sxQ]))
      refine region_in (by kernel_rfl) (fun _ _ h => h) ?_
      go_wp2_with (first | go_skip | ((with_reducible show wpList _ _ _ _ _ (World.alloc _ _)); refine wpList_up hm ?_; clear hm; intro n w hn hn2 hk hm hd hd2 ho; (try rw [← hn]); replace hn := Nat.le_of_eq hn.symm) | ((first | ((with_reducible show wpList _ _ _ (Oper.mk _ (Op.box _ _) _ _ _ _ :: _) _ _); (refine bxA hm ?_; clear hm; intro n w hn hz hm ho; (try simp only [List.cons_append, List.nil_append] at hm))) | ((with_reducible show wpList _ _ _ (Oper.mk _ (Op.load _ _) _ _ _ _ :: _) _ _); first | (refine ldA hm ?_) | (refine laA hm ?_)) | ((with_reducible show wpList _ _ _ (Oper.mk _ (Op.store _ _ _) _ _ _ _ :: _) _ _); (refine stA hm ?_; clear hm; intro w hz hm ho)) | ((with_reducible show wpList _ _ _ (Oper.mk _ (Op.alloc _) _ _ _ _ :: _) _ _); (refine alA hm ?_; clear hm; intro n w hn hz hm ho; (try simp only [List.cons_append, List.nil_append] at hm)))); try simp only [Act.put, sxQ]))
      refine ⟨KeepsOthers.of_mem hm0 hm, fun W₂ hbh => ?_⟩
      have hm1 := (hm0.backO hm).behind hbh hB8
      clear hm hm0
      obtain ⟨hv, h9⟩ := hm1.nm 9 rfl
      dsimp only at h9
      subst h9
      have hm := hm1.rebase
      simp only [List.nil_append] at hm1
      have HM1 := Lib.hid hm1
      clear hm1
      have hP : PAt W₂ g _ _ (q.p.more hc) := hOK.pat (q := q.more hc) (show Mem (fun _ => False) w0 W₂ (opL _ _ (q.more hc)) _ from HM1.out.takeL 9) hk0.1 hk0.2.2.2.2.2.1
      have hfail : (q.p.more hc).failure = 9 := by
        show (if (!q.p.m.off && (q.p.m.cuts == q.p.cuts)) then (9 : Int) else 7) = 9
        rw [hk0.1, hk0.2.1, HON.out]; simp
      have hFL := page_failure hP
      rw [hfail] at hFL
      have HFL := Lib.hid hFL
      have HSC := Lib.hid hsc
      have HBD := Lib.hid hbd
      have HPG := Lib.hid hpg
      have HK0 := Lib.hid hk0
      have HAT := Lib.hid hat
      have hkv : k < q.vs.length := by rw [HK0.out.2.2.2.2.2.2.2.2.1]; exact hkf
      have ikv : (k : Int) < (q.vs.length : Int) := by omega
      have pk : (0 : Int) ≤ (k : Int) := by omega
      have hlh : q.p.holds.length = m.words.length / 20 := HK0.out.2.2.2.2.2.2.2.1
      have hla : q.p.at_.length = m.words.length / 24 := HK0.out.2.2.2.2.2.2.1
      clear hP hfail hFL hsc hbd hpg hk0 hat
      gi_step
      gi_step
      gi_step
      refine region_in (by kernel_rfl) (fun _ _ h => h) ?_
      cases bad with
      | true =>
        go_wp2_with (first | go_skip | ((with_reducible show wpList _ _ _ _ _ (World.alloc _ _)); refine wpList_up hm ?_; clear hm; intro n w hn hn2 hk hm hd hd2 ho; (try rw [← hn]); replace hn := Nat.le_of_eq hn.symm) | ((first | ((with_reducible show wpList _ _ _ (Oper.mk _ (Op.box _ _) _ _ _ _ :: _) _ _); (refine bxA hm ?_; clear hm; intro n w hn hz hm ho; (try simp only [List.cons_append, List.nil_append] at hm))) | ((with_reducible show wpList _ _ _ (Oper.mk _ (Op.load _ _) _ _ _ _ :: _) _ _); first | (refine ldA hm ?_) | (refine laA hm ?_)) | ((with_reducible show wpList _ _ _ (Oper.mk _ (Op.store _ _ _) _ _ _ _ :: _) _ _); (refine stA hm ?_; clear hm; intro w hz hm ho)) | ((with_reducible show wpList _ _ _ (Oper.mk _ (Op.alloc _) _ _ _ _ :: _) _ _); (refine alA hm ?_; clear hm; intro n w hn hz hm ho; (try simp only [List.cons_append, List.nil_append] at hm)))); try simp only [Act.put, sxQ]))
        gi_step
        gi_step
        refine region_in (by kernel_rfl) (fun _ _ h => h) ?_
        go_wp2_with (first | go_skip | ((with_reducible show wpList _ _ _ _ _ (World.alloc _ _)); refine wpList_up hm ?_; clear hm; intro n w hn hn2 hk hm hd hd2 ho; (try rw [← hn]); replace hn := Nat.le_of_eq hn.symm) | ((first | ((with_reducible show wpList _ _ _ (Oper.mk _ (Op.box _ _) _ _ _ _ :: _) _ _); (refine bxA hm ?_; clear hm; intro n w hn hz hm ho; (try simp only [List.cons_append, List.nil_append] at hm))) | ((with_reducible show wpList _ _ _ (Oper.mk _ (Op.load _ _) _ _ _ _ :: _) _ _); first | (refine ldA hm ?_) | (refine laA hm ?_)) | ((with_reducible show wpList _ _ _ (Oper.mk _ (Op.store _ _ _) _ _ _ _ :: _) _ _); (refine stA hm ?_; clear hm; intro w hz hm ho)) | ((with_reducible show wpList _ _ _ (Oper.mk _ (Op.alloc _) _ _ _ _ :: _) _ _); (refine alA hm ?_; clear hm; intro n w hn hz hm ho; (try simp only [List.cons_append, List.nil_append] at hm)))); try simp only [Act.put, sxQ]) | (go_at_call 35; refine HFL.out.mono ?_; rintro e w3 ⟨rfl, hb3⟩; replace hm := hm.below hb3))
        gi_step
        exact ⟨KeepsOthers.of_mem HM1.out hm, rfl, HBD.out (by first | trivial | rfl) _ hkf, (HM1.out.backO hm).low, (hm.at_ 4 rfl).cell 0, (hm.at_ 5 rfl).cell 0⟩
      | false =>
        go_wp2_with (first | go_skip | ((with_reducible show wpList _ _ _ _ _ (World.alloc _ _)); refine wpList_up hm ?_; clear hm; intro n w hn hn2 hk hm hd hd2 ho; (try rw [← hn]); replace hn := Nat.le_of_eq hn.symm) | ((first | ((with_reducible show wpList _ _ _ (Oper.mk _ (Op.box _ _) _ _ _ _ :: _) _ _); (refine bxA hm ?_; clear hm; intro n w hn hz hm ho; (try simp only [List.cons_append, List.nil_append] at hm))) | ((with_reducible show wpList _ _ _ (Oper.mk _ (Op.load _ _) _ _ _ _ :: _) _ _); first | (refine ldA hm ?_) | (refine laA hm ?_)) | ((with_reducible show wpList _ _ _ (Oper.mk _ (Op.store _ _ _) _ _ _ _ :: _) _ _); (refine stA hm ?_; clear hm; intro w hz hm ho)) | ((with_reducible show wpList _ _ _ (Oper.mk _ (Op.alloc _) _ _ _ _ :: _) _ _); (refine alA hm ?_; clear hm; intro n w hn hz hm ho; (try simp only [List.cons_append, List.nil_append] at hm)))); try simp only [Act.put, sxQ]))
        gi_step
        gi_step
        gi_step
        gi_step
        gi_step
        refine region_in (by kernel_rfl) (fun _ _ h => h) ?_
        cases pg with
        | none =>
          have he : Pg.enc none = -1 := rfl
          go_wp2_with (first | ((with_reducible show wpList _ _ _ (Oper.mk _ (Op.store _ (Operand.tmp 71) _) _ _ _ _ :: _) _ _); refine stA hm ?_ (hcs := spl_ncells _ _ hkv ver) (hin := by simp [ncells]; omega); clear hm; intro w hz hm ho; (try simp only [Act.put, sxQ])) | go_skip | ((with_reducible show wpList _ _ _ _ _ (World.alloc _ _)); refine wpList_up hm ?_; clear hm; intro n w hn hn2 hk hm hd hd2 ho; (try rw [← hn]); replace hn := Nat.le_of_eq hn.symm) | ((first | ((with_reducible show wpList _ _ _ (Oper.mk _ (Op.box _ _) _ _ _ _ :: _) _ _); (refine bxA hm ?_; clear hm; intro n w hn hz hm ho; (try simp only [List.cons_append, List.nil_append] at hm))) | ((with_reducible show wpList _ _ _ (Oper.mk _ (Op.load _ _) _ _ _ _ :: _) _ _); first | (refine ldA hm ?_) | (refine laA hm ?_)) | ((with_reducible show wpList _ _ _ (Oper.mk _ (Op.store _ _ _) _ _ _ _ :: _) _ _); (refine stA hm ?_; clear hm; intro w hz hm ho)) | ((with_reducible show wpList _ _ _ (Oper.mk _ (Op.alloc _) _ _ _ _ :: _) _ _); (refine alA hm ?_; clear hm; intro n w hn hz hm ho; (try simp only [List.cons_append, List.nil_append] at hm)))); try simp only [Act.put, sxQ]))
          gi_step
          gi_step
          refine region_in (by kernel_rfl) (fun _ _ h => h) ?_
          go_wp2_with (first | go_skip | ((with_reducible show wpList _ _ _ _ _ (World.alloc _ _)); refine wpList_up hm ?_; clear hm; intro n w hn hn2 hk hm hd hd2 ho; (try rw [← hn]); replace hn := Nat.le_of_eq hn.symm) | ((first | ((with_reducible show wpList _ _ _ (Oper.mk _ (Op.box _ _) _ _ _ _ :: _) _ _); (refine bxA hm ?_; clear hm; intro n w hn hz hm ho; (try simp only [List.cons_append, List.nil_append] at hm))) | ((with_reducible show wpList _ _ _ (Oper.mk _ (Op.load _ _) _ _ _ _ :: _) _ _); first | (refine ldA hm ?_) | (refine laA hm ?_)) | ((with_reducible show wpList _ _ _ (Oper.mk _ (Op.store _ _ _) _ _ _ _ :: _) _ _); (refine stA hm ?_; clear hm; intro w hz hm ho)) | ((with_reducible show wpList _ _ _ (Oper.mk _ (Op.alloc _) _ _ _ _ :: _) _ _); (refine alA hm ?_; clear hm; intro n w hn hz hm ho; (try simp only [List.cons_append, List.nil_append] at hm)))); try simp only [Act.put, sxQ]))
          gi_step
          gi_step
          gi_step
          refine ⟨KeepsOthers.of_mem HM1.out hm, _, HSC.out (by first | trivial | rfl), ?_⟩
          have h9 := (HM1.out.backO hm).takeL 9
          simpa [opL, pcs, Pg.O.next, Pg.O.more] using h9
        | some i =>
          have he : Pg.enc (some i) = (i : Int) := rfl
          have hie : ((i : Int) == -1) = false := by rw [beq_eq_false_iff_ne]; omega
          have hi := HPG.out i rfl
          rw [← hla] at hi
          have ia : (i : Int) < (q.p.at_.length : Int) := by omega
          have emx : ((max q.p.version ver : Nat) : Int) = max (q.p.version : Int) (ver : Int) := by omega
          have EMX := Lib.hid emx
          clear emx
          have ia2 : (i : Int) < (n0 : Int) / 24 := by omega
          have ik2 : (k : Int) < (n0 : Int) / 20 := by omega
          have pi : (0 : Int) ≤ (i : Int) := by omega
          go_wp2_with (first | ((with_reducible show wpList _ _ _ (Oper.mk _ (Op.store _ (Operand.tmp 71) _) _ _ _ _ :: _) _ _); refine stA hm ?_ (hcs := spl_ncells _ _ hkv ver) (hin := by simp [ncells]; omega); clear hm; intro w hz hm ho; (try simp only [Act.put, sxQ])) | go_skip | ((with_reducible show wpList _ _ _ _ _ (World.alloc _ _)); refine wpList_up hm ?_; clear hm; intro n w hn hn2 hk hm hd hd2 ho; (try rw [← hn]); replace hn := Nat.le_of_eq hn.symm) | ((first | ((with_reducible show wpList _ _ _ (Oper.mk _ (Op.box _ _) _ _ _ _ :: _) _ _); (refine bxA hm ?_; clear hm; intro n w hn hz hm ho; (try simp only [List.cons_append, List.nil_append] at hm))) | ((with_reducible show wpList _ _ _ (Oper.mk _ (Op.load _ _) _ _ _ _ :: _) _ _); first | (refine ldA hm ?_) | (refine laA hm ?_)) | ((with_reducible show wpList _ _ _ (Oper.mk _ (Op.store _ _ _) _ _ _ _ :: _) _ _); (refine stA hm ?_; clear hm; intro w hz hm ho)) | ((with_reducible show wpList _ _ _ (Oper.mk _ (Op.alloc _) _ _ _ _ :: _) _ _); (refine alA hm ?_; clear hm; intro n w hn hz hm ho; (try simp only [List.cons_append, List.nil_append] at hm)))); try simp only [Act.put, sxQ]))
          gi_step
          gi_step
          refine region_in (by kernel_rfl) (fun _ _ h => h) ?_
          go_wp2_with (first | go_skip | ((with_reducible show wpList _ _ _ _ _ (World.alloc _ _)); refine wpList_up hm ?_; clear hm; intro n w hn hn2 hk hm hd hd2 ho; (try rw [← hn]); replace hn := Nat.le_of_eq hn.symm) | ((first | ((with_reducible show wpList _ _ _ (Oper.mk _ (Op.box _ _) _ _ _ _ :: _) _ _); (refine bxA hm ?_; clear hm; intro n w hn hz hm ho; (try simp only [List.cons_append, List.nil_append] at hm))) | ((with_reducible show wpList _ _ _ (Oper.mk _ (Op.load _ _) _ _ _ _ :: _) _ _); first | (refine ldA hm ?_) | (refine laA hm ?_)) | ((with_reducible show wpList _ _ _ (Oper.mk _ (Op.store _ _ _) _ _ _ _ :: _) _ _); (refine stA hm ?_; clear hm; intro w hz hm ho)) | ((with_reducible show wpList _ _ _ (Oper.mk _ (Op.alloc _) _ _ _ _ :: _) _ _); (refine alA hm ?_; clear hm; intro n w hn hz hm ho; (try simp only [List.cons_append, List.nil_append] at hm)))); try simp only [Act.put, sxQ]))
          gi_step
          gi_step
          gi_step
          gi_step
          gi_step
          refine drawn_in (by kernel_rfl) (by kernel_rfl) (fun _ _ h => h) ?_
          refine anyP_start (S := MemS _ _ _ _) [10] (MemS.of hm.drew) (fun hHeld => ?_)
          refine wpAnyP_fresh (by repeat (first | apply Fresh.a | apply Fresh.b)) ?_
          replace hm := hm.drew
          iterate 8 (first | (refine takePN 0 hHeld ?_) | (refine takePY 0 ?_ hHeld ?_ ?_; rotate_left 1; (first | (intro w9 h9; (with_reducible show (execOp _ (Oper.mk _ (Op.load _ _) _ _ _ _)).run _ _ = _); first | exact h9.ldA | exact h9.laA) | focus (intro w9 hSw; go_simp; (try (with_reducible rfl)); done))); try simp only [Act.put, sxQ])
          iterate 1 (refine wpAnyP_takeP (b := 8) (by repeat (first | apply Seek.a | apply Seek.b | apply Seek.c)) (by simp only [sxN]; first | done | exact rfl) ⟨?_, by kernel_rfl, by kernel_rfl, by kernel_rfl, by kernel_rfl, fun _ _ _ h => h, Or.inl ⟨by rfl, ?_⟩, (by first | exact Early.of hHeld | exact Early.off (by kernel_rfl)), ?_⟩; rotate_left 1; focus (intro w9 hSw; go_simp; (try (with_reducible rfl)); done); try simp only [Act.put, sxQ])
          try simp only [Act.put, sxQ]
          iterate 1 (refine wpAnyP_takeP (b := 9) (by repeat (first | apply Seek.a | apply Seek.b | apply Seek.c)) (by simp only [sxN]; first | done | exact rfl) ⟨?_, by kernel_rfl, by kernel_rfl, by kernel_rfl, by kernel_rfl, fun _ _ _ h => h, Or.inl ⟨by rfl, ?_⟩, (by first | exact Early.of hHeld | exact Early.off (by kernel_rfl)), ?_⟩; rotate_left 1; focus (intro w9 hSw; go_simp; (try (with_reducible rfl)); done); try simp only [Act.put, sxQ])
          try simp only [Act.put, sxQ]
          refine wpAnyP_last 10 (by kernel_rfl) (by simp only [sxN]; first | done | exact rfl) (by kernel_rfl) (fun K hK => ?_)
          refine stB hm ?_
          clear hm; intro w hz hm ho
          refine hK.out _ _ ?_
          clear hK K
          try simp only [Act.put, sxQ]
          refine wpAnyP_done (by kernel_rfl) ?_ _
          refine NoPanic.normal ?_
          gi_step
          gi_step
          gi_step
          gi_step
          cases ha : q.p.at_.getD i none with
          | none =>
            have CA := Lib.hid (fun (u : World) (h : Blk u qA 3 (ecells q.p.at_ ++ []).toArray) => show u.cell? ⟨qA, i, none⟩ = some (.int .i64 (-1)) by have := cells_at q.p.at_ [] i hi h; rwa [ha] at this)
            refine drawn_in (by kernel_rfl) (by kernel_rfl) (fun _ _ h => h) ?_
            refine anyH_start (S := MemS _ _ _ _) (MemS.of hm.drew) (fun hHeld => ?_)
            refine wpAnyH_fresh (by repeat (first | apply Fresh.a | apply Fresh.b)) ?_
            replace hm := hm.drew
            iterate 9 (first | (refine takeN 0 hHeld ?_) | (refine takeY 0 ?_ hHeld ?_ ?_; rotate_left 1; (first | (intro w9 h9; (with_reducible show (execOp _ (Oper.mk _ (Op.load _ _) _ _ _ _)).run _ _ = _); first | exact h9.ldA | (exact exec_lc _ _ rfl _ rfl (by decide +kernel) _ (CA.out _ ((MemS.mem h9).at_ 3 rfl)) _ (by first | done | exact rfl)) | exact h9.laA) | focus (intro w9 hSw; go_simp; (try (with_reducible rfl)); done))); try simp only [Act.put, sxQ])
            refine wpAnyH_done (by kernel_rfl) ?_ _
            refine NoPanic.normal ?_
            gi_step
            gi_step
            gi_step
            refine region_in (by kernel_rfl) (fun _ _ h => h) ?_
            go_wp2_with (first | go_skip | ((with_reducible show wpList _ _ _ _ _ (World.alloc _ _)); refine wpList_up hm ?_; clear hm; intro n w hn hn2 hk hm hd hd2 ho; (try rw [← hn]); replace hn := Nat.le_of_eq hn.symm) | ((first | ((with_reducible show wpList _ _ _ (Oper.mk _ (Op.box _ _) _ _ _ _ :: _) _ _); (refine bxA hm ?_; clear hm; intro n w hn hz hm ho; (try simp only [List.cons_append, List.nil_append] at hm))) | ((with_reducible show wpList _ _ _ (Oper.mk _ (Op.load _ _) _ _ _ _ :: _) _ _); first | (refine ldA hm ?_) | (refine laA hm ?_)) | ((with_reducible show wpList _ _ _ (Oper.mk _ (Op.store _ _ _) _ _ _ _ :: _) _ _); (refine stA hm ?_; clear hm; intro w hz hm ho)) | ((with_reducible show wpList _ _ _ (Oper.mk _ (Op.alloc _) _ _ _ _ :: _) _ _); (refine alA hm ?_; clear hm; intro n w hn hz hm ho; (try simp only [List.cons_append, List.nil_append] at hm)))); try simp only [Act.put, sxQ]))
            gi_step
            gi_step
            gi_step
            gi_step
            have hw9 := (hm.drew.wo 3).wo 2
            simp only [List.eraseIdx_cons_zero, List.eraseIdx_cons_succ] at hw9
            refine drawn_in (by kernel_rfl) (by kernel_rfl) (fun _ _ h => h) ?_
            refine anyH_start (S := MemS _ _ _ _) (MemS.of hw9) (fun hHeld => ?_)
            refine wpAnyH_fresh (by repeat (first | apply Fresh.a | apply Fresh.b)) ?_
            clear hw9
            replace hm := hm.drew
            iterate 15 (first | (refine takeN 0 hHeld ?_) | (refine takeY 0 ?_ hHeld ?_ ?_; rotate_left 1; (first | (intro w9 h9; (with_reducible show (execOp _ (Oper.mk _ (Op.load _ _) _ _ _ _)).run _ _ = _); first | exact h9.ldA) | focus (intro w9 hSw; go_simp; (try (with_reducible rfl)); done))); try simp only [Act.put, sxQ])
            refine wpAnyH_ready (rs := [15]) (by kernel_rfl) (by simp) ?_
            refine AllReadyH.cons2 (by simp only [sxN]; first | done | exact rfl) (fun K hK => ?_)
            refine stB hm ?_ (hcs := spl_cells q.p.at_ [] i hi (some k)) (hin := by simp [ecells]; omega)
            clear hm; intro w hz hm ho
            have hw9 := (hm.wo 3).wo 2
            simp only [List.eraseIdx_cons_zero, List.eraseIdx_cons_succ] at hw9
            refine hK.out _ _ (MemS.of hw9) (fun hHeld => ?_)
            clear hK K
            try simp only [Act.put, sxQ]
            clear hw9
            iterate 1 (first | (refine takeN 16 hHeld ?_) | (refine takeY 16 ?_ hHeld ?_ ?_; rotate_left 1; (first | (intro w9 h9; (with_reducible show (execOp _ (Oper.mk _ (Op.load _ _) _ _ _ _)).run _ _ = _); first | exact h9.ldA) | focus (intro w9 hSw; go_simp; (try (with_reducible rfl)); done))); try simp only [Act.put, sxQ])
            refine wpAnyH_ready (rs := [17]) (by kernel_rfl) (by simp) ?_
            refine AllReadyH.cons2 (by simp only [sxN]; first | done | exact rfl) (fun K hK => ?_)
            refine stB hm ?_ (hcs := spl_cells _ [] k (by rw [hlh]; omega) (some i)) (hin := by simp [ecells]; omega)
            clear hm; intro w hz hm ho
            have hw9 := (hm.wo 3).wo 2
            simp only [List.eraseIdx_cons_zero, List.eraseIdx_cons_succ] at hw9
            refine hK.out _ _ (MemS.of hw9) (fun hHeld => ?_)
            clear hK K
            try simp only [Act.put, sxQ]
            clear hw9
            refine wpAnyH_done (by kernel_rfl) ?_ _
            refine NoPanic.normal ?_
            gi_step
            refine ⟨KeepsOthers.of_mem HM1.out hm, _, HSC.out (by first | trivial | rfl), ?_⟩
            have h9 := (HM1.out.backO hm).takeL 9
            have e9 : (q.more hc).next k ⟨some i, ver, false⟩ = { p := { q.p with version := max q.p.version ver, fixed := q.p.fixed + hc, holds := q.p.holds.set k (some i), at_ := q.p.at_.set i (some k) }, vs := q.vs.set k ver } := by
              unfold Pg.O.next
              simp only [Pg.O.more, ha]
            rw [e9]
            simpa [opL, pcs, EMX.out] using h9
          | some old =>
            have hoe : ((old : Int) != -1) = true := by rw [bne_iff_ne]; omega
            have hold := HAT.out i old ha
            have CA := Lib.hid (fun (u : World) (h : Blk u qA 3 (ecells q.p.at_ ++ []).toArray) => show u.cell? ⟨qA, i, none⟩ = some (.int .i64 (old : Int)) by have := cells_at q.p.at_ [] i hi h; rwa [ha] at this)
            have CV := Lib.hid (fun (u : World) (h : Blk u V 3 (ncells (q.vs.set k ver)).toArray) => vcell (q.vs.set k ver) old (by rw [List.length_set, HK0.out.2.2.2.2.2.2.2.2.1]; omega) h)
            have io2 : (old : Int) < (n0 : Int) / 20 := by omega
            have io3 : (old : Int) < (q.vs.length : Int) := by rw [HK0.out.2.2.2.2.2.2.2.2.1]; omega
            have po : (0 : Int) ≤ (old : Int) := by omega
            refine drawn_in (by kernel_rfl) (by kernel_rfl) (fun _ _ h => h) ?_
            refine anyH_start (S := MemS _ _ _ _) (MemS.of hm.drew) (fun hHeld => ?_)
            refine wpAnyH_fresh (by repeat (first | apply Fresh.a | apply Fresh.b)) ?_
            replace hm := hm.drew
            iterate 9 (first | (refine takeN 0 hHeld ?_) | (refine takeY 0 ?_ hHeld ?_ ?_; rotate_left 1; (first | (intro w9 h9; (with_reducible show (execOp _ (Oper.mk _ (Op.load _ _) _ _ _ _)).run _ _ = _); first | exact h9.ldA | (exact exec_lc _ _ rfl _ rfl (by decide +kernel) _ (CA.out _ ((MemS.mem h9).at_ 3 rfl)) _ (by first | done | exact rfl)) | exact h9.laA) | focus (intro w9 hSw; go_simp; (try (with_reducible rfl)); done))); try simp only [Act.put, sxQ])
            refine wpAnyH_done (by kernel_rfl) ?_ _
            refine NoPanic.normal ?_
            gi_step
            gi_step
            gi_step
            refine region_in (by kernel_rfl) (fun _ _ h => h) ?_
            go_wp2_with (first | go_skip | ((with_reducible show wpList _ _ _ _ _ (World.alloc _ _)); refine wpList_up hm ?_; clear hm; intro n w hn hn2 hk hm hd hd2 ho; (try rw [← hn]); replace hn := Nat.le_of_eq hn.symm) | ((first | ((with_reducible show wpList _ _ _ (Oper.mk _ (Op.box _ _) _ _ _ _ :: _) _ _); (refine bxA hm ?_; clear hm; intro n w hn hz hm ho; (try simp only [List.cons_append, List.nil_append] at hm))) | ((with_reducible show wpList _ _ _ (Oper.mk _ (Op.load _ _) _ _ _ _ :: _) _ _); first | (refine ldA hm ?_) | (refine laA hm ?_)) | ((with_reducible show wpList _ _ _ (Oper.mk _ (Op.store _ _ _) _ _ _ _ :: _) _ _); (refine stA hm ?_; clear hm; intro w hz hm ho)) | ((with_reducible show wpList _ _ _ (Oper.mk _ (Op.alloc _) _ _ _ _ :: _) _ _); (refine alA hm ?_; clear hm; intro n w hn hz hm ho; (try simp only [List.cons_append, List.nil_append] at hm)))); try simp only [Act.put, sxQ]))
            gi_step
            gi_step
            gi_step
            have e9 : (q.more hc).next k ⟨some i, ver, false⟩ = (if ver < (q.vs.set k ver).getD old 0 then { p := { q.p with version := max q.p.version ver, fixed := q.p.fixed + hc }, vs := q.vs.set k ver } else { p := { q.p with version := max q.p.version ver, fixed := q.p.fixed + hc, holds := (q.p.holds.set old none).set k (some i), at_ := q.p.at_.set i (some k) }, vs := q.vs.set k ver }) := by
              unfold Pg.O.next
              simp only [Pg.O.more, ha]
              rfl
            have hy9 : ∃ y, y = (q.vs.set k ver).getD old 0 := ⟨_, rfl⟩
            obtain ⟨y, hy⟩ := hy9
            rw [← hy] at e9 CV
            clear hy
            by_cases hlt : ver < y
            · rw [if_pos hlt] at e9
              have E9 := Lib.hid e9
              clear e9
              have hd1 : decide (ver < y) = true := decide_eq_true hlt
              have hd2 : decide ((ver : Int) < (y : Int)) = true := decide_eq_true (by omega)
              refine drawn_in (by kernel_rfl) (by kernel_rfl) (fun _ _ h => h) ?_
              refine anyH_start (S := MemS _ _ _ _) (MemS.of hm.drew) (fun hHeld => ?_)
              refine wpAnyH_fresh (by repeat (first | apply Fresh.a | apply Fresh.b)) ?_
              replace hm := hm.drew
              iterate 7 (first | (refine takeN 0 hHeld ?_) | (refine takeY 0 ?_ hHeld ?_ ?_; rotate_left 1; (first | (intro w9 h9; (with_reducible show (execOp _ (Oper.mk _ (Op.load _ _) _ _ _ _)).run _ _ = _); first | exact h9.ldA | (exact exec_lc _ _ rfl _ rfl (by decide +kernel) _ (CV.out _ ((MemS.mem h9).at_ 1 rfl)) _ (by first | done | exact rfl)) | exact h9.laA) | focus (intro w9 hSw; go_simp; (try (with_reducible rfl)); done))); try simp only [Act.put, sxQ])
              refine wpAnyH_done (by kernel_rfl) ?_ _
              refine NoPanic.normal ?_
              gi_step
              gi_step
              gi_step
              gi_step
              gi_step
              refine ⟨KeepsOthers.of_mem HM1.out hm, _, HSC.out (by first | trivial | rfl), ?_⟩
              have h9 := (HM1.out.backO hm).takeL 9
              rw [E9.out]
              simpa [opL, pcs, EMX.out] using h9
            · rw [if_neg hlt] at e9
              have E9 := Lib.hid e9
              clear e9
              have hd1 : decide (ver < y) = false := decide_eq_false hlt
              have hd2 : decide ((ver : Int) < (y : Int)) = false := decide_eq_false (by omega)
              refine drawn_in (by kernel_rfl) (by kernel_rfl) (fun _ _ h => h) ?_
              refine anyH_start (S := MemS _ _ _ _) (MemS.of hm.drew) (fun hHeld => ?_)
              refine wpAnyH_fresh (by repeat (first | apply Fresh.a | apply Fresh.b)) ?_
              replace hm := hm.drew
              iterate 7 (first | (refine takeN 0 hHeld ?_) | (refine takeY 0 ?_ hHeld ?_ ?_; rotate_left 1; (first | (intro w9 h9; (with_reducible show (execOp _ (Oper.mk _ (Op.load _ _) _ _ _ _)).run _ _ = _); first | exact h9.ldA | (exact exec_lc _ _ rfl _ rfl (by decide +kernel) _ (CV.out _ ((MemS.mem h9).at_ 1 rfl)) _ (by first | done | exact rfl)) | exact h9.laA) | focus (intro w9 hSw; go_simp; (try (with_reducible rfl)); done))); try simp only [Act.put, sxQ])
              refine wpAnyH_done (by kernel_rfl) ?_ _
              refine NoPanic.normal ?_
              gi_step
              gi_step
              gi_step
              gi_step
              gi_step
              gi_step
              refine region_in (by kernel_rfl) (fun _ _ h => h) ?_
              go_wp2_with (first | ((with_reducible show wpList _ _ _ (Oper.mk _ (Op.store _ (Operand.tmp 107) _) _ _ _ _ :: _) _ _); refine stA hm ?_ (hcs := spl_cells q.p.holds [] old (by rw [hlh]; omega) none) (hin := by simp [ecells]; omega); clear hm; intro w hz hm ho; (try simp only [Act.put, sxQ])) | go_skip | ((with_reducible show wpList _ _ _ _ _ (World.alloc _ _)); refine wpList_up hm ?_; clear hm; intro n w hn hn2 hk hm hd hd2 ho; (try rw [← hn]); replace hn := Nat.le_of_eq hn.symm) | ((first | ((with_reducible show wpList _ _ _ (Oper.mk _ (Op.box _ _) _ _ _ _ :: _) _ _); (refine bxA hm ?_; clear hm; intro n w hn hz hm ho; (try simp only [List.cons_append, List.nil_append] at hm))) | ((with_reducible show wpList _ _ _ (Oper.mk _ (Op.load _ _) _ _ _ _ :: _) _ _); first | (refine ldA hm ?_) | (refine laA hm ?_)) | ((with_reducible show wpList _ _ _ (Oper.mk _ (Op.store _ _ _) _ _ _ _ :: _) _ _); (refine stA hm ?_; clear hm; intro w hz hm ho)) | ((with_reducible show wpList _ _ _ (Oper.mk _ (Op.alloc _) _ _ _ _ :: _) _ _); (refine alA hm ?_; clear hm; intro n w hn hz hm ho; (try simp only [List.cons_append, List.nil_append] at hm)))); try simp only [Act.put, sxQ]))
              have hw9 := (hm.drew.wo 3).wo 2
              simp only [List.eraseIdx_cons_zero, List.eraseIdx_cons_succ] at hw9
              refine drawn_in (by kernel_rfl) (by kernel_rfl) (fun _ _ h => h) ?_
              refine anyH_start (S := MemS _ _ _ _) (MemS.of hw9) (fun hHeld => ?_)
              refine wpAnyH_fresh (by repeat (first | apply Fresh.a | apply Fresh.b)) ?_
              clear hw9
              replace hm := hm.drew
              iterate 15 (first | (refine takeN 0 hHeld ?_) | (refine takeY 0 ?_ hHeld ?_ ?_; rotate_left 1; (first | (intro w9 h9; (with_reducible show (execOp _ (Oper.mk _ (Op.load _ _) _ _ _ _)).run _ _ = _); first | exact h9.ldA) | focus (intro w9 hSw; go_simp; (try (with_reducible rfl)); done))); try simp only [Act.put, sxQ])
              refine wpAnyH_ready (rs := [15]) (by kernel_rfl) (by simp) ?_
              refine AllReadyH.cons2 (by simp only [sxN]; first | done | exact rfl) (fun K hK => ?_)
              refine stB hm ?_ (hcs := spl_cells q.p.at_ [] i hi (some k)) (hin := by simp [ecells]; omega)
              clear hm; intro w hz hm ho
              have hw9 := (hm.wo 3).wo 2
              simp only [List.eraseIdx_cons_zero, List.eraseIdx_cons_succ] at hw9
              refine hK.out _ _ (MemS.of hw9) (fun hHeld => ?_)
              clear hK K
              try simp only [Act.put, sxQ]
              clear hw9
              iterate 1 (first | (refine takeN 16 hHeld ?_) | (refine takeY 16 ?_ hHeld ?_ ?_; rotate_left 1; (first | (intro w9 h9; (with_reducible show (execOp _ (Oper.mk _ (Op.load _ _) _ _ _ _)).run _ _ = _); first | exact h9.ldA) | focus (intro w9 hSw; go_simp; (try (with_reducible rfl)); done))); try simp only [Act.put, sxQ])
              refine wpAnyH_ready (rs := [17]) (by kernel_rfl) (by simp) ?_
              refine AllReadyH.cons2 (by simp only [sxN]; first | done | exact rfl) (fun K hK => ?_)
              refine stB hm ?_ (hcs := spl_cells _ [] k (by rw [List.length_set, hlh]; omega) (some i)) (hin := by simp [ecells]; omega)
              clear hm; intro w hz hm ho
              have hw9 := (hm.wo 3).wo 2
              simp only [List.eraseIdx_cons_zero, List.eraseIdx_cons_succ] at hw9
              refine hK.out _ _ (MemS.of hw9) (fun hHeld => ?_)
              clear hK K
              try simp only [Act.put, sxQ]
              clear hw9
              refine wpAnyH_done (by kernel_rfl) ?_ _
              refine NoPanic.normal ?_
              gi_step
              refine ⟨KeepsOthers.of_mem HM1.out hm, _, HSC.out (by first | trivial | rfl), ?_⟩
              have h9 := (HM1.out.backO hm).takeL 9
              rw [E9.out]
              simpa [opL, pcs, EMX.out] using h9
    case done =>
      rintro D W hD ⟨q, hq, hm0⟩ hKD
      have l0 := HM.out.lts
      have l8 := fun (e : Ent) he => hm.lt (e := e) he
      have lg := l8 _ (List.mem_of_getElem? (i := 6) rfl)
      have lA := l8 _ (List.mem_of_getElem? (i := 3) rfl)
      have lH := l8 _ (List.mem_of_getElem? (i := 2) rfl)
      dsimp only at lg lA lH
      clear l8
      have hk0 := start_kept hq
      have hp := OpI.pat hOK hq hm0
      have hfr := HFR.out q (by rw [← hlen]; exact hq)
      have hVn : ¬ x.V ∈ [x.g, s.gm, s.gw, s.gv, s.A, s.Ho] := by
        have l0 := hOK.mem.lts
        have hge := (hm0.own _ (List.mem_of_getElem? (i := 1) (show (opL x s q)[1]? = some _ from rfl))).resolve_left id
        simp only [List.mem_cons, List.not_mem_nil, or_false, not_or]
        exact ⟨hm0.apart 1 6 (by decide) rfl rfl, by dsimp only at hge; omega, by dsimp only at hge; omega, by dsimp only at hge; omega, hm0.apart 1 3 (by decide) rfl rfl, hm0.apart 1 2 (by decide) rfl rfl⟩
      have hord := page_order hp hOK.F (by rw [hs]) hk0.2.2.2.2.2.1 x.V (n0 / 20) q.vs (hm0.at_ 1 rfl) hVn (by rw [hk0.2.2.2.2.2.2.2.2.1, hlen]) (by rw [hk0.2.2.2.2.2.2.2.1, hlen]) (by rw [hk0.2.2.2.1, hlen]) r20 (by omega) hfr (by rw [hk0.1]; exact HKK.out) h0
      have hvl : q.vs.length = n0 / 20 := by rw [hk0.2.2.2.2.2.2.2.2.1, hlen]
      have HQ := Lib.hid hq
      have HORD := Lib.hid hord
      have HK0 := Lib.hid hk0
      have HKD := Lib.hid hKD
      have HP := Lib.hid hp
      subst hs
      subst hx
      simp only [opL, pcs] at hm0
      rw [hvl] at hm0
      have hm := hm0.rebase
      have HM0 := Lib.hid hm0
      clear hq hord hk0 hm0 hKD hp hfr hVn
      go_wp2_with (first | go_skip | ((with_reducible show wpList _ _ _ _ _ (World.alloc _ _)); refine wpList_up hm ?_; clear hm; intro n w hn hn2 hk hm hd hd2 ho; (try rw [← hn]); replace hn := Nat.le_of_eq hn.symm) | ((first | ((with_reducible show wpList _ _ _ (Oper.mk _ (Op.box _ _) _ _ _ _ :: _) _ _); (refine bxA hm ?_; clear hm; intro n w hn hz hm ho; (try simp only [List.cons_append, List.nil_append] at hm))) | ((with_reducible show wpList _ _ _ (Oper.mk _ (Op.load _ _) _ _ _ _ :: _) _ _); first | (refine ldA hm ?_) | (refine laA hm ?_)) | ((with_reducible show wpList _ _ _ (Oper.mk _ (Op.store _ _ _) _ _ _ _ :: _) _ _); (refine stA hm ?_; clear hm; intro w hz hm ho)) | ((with_reducible show wpList _ _ _ (Oper.mk _ (Op.alloc _) _ _ _ _ :: _) _ _); (refine alA hm ?_; clear hm; intro n w hn hz hm ho; (try simp only [List.cons_append, List.nil_append] at hm)))); try simp only [Act.put, sxQ]))
      go_at_call 36
      refine HORD.out.mono ?_
      rintro e w3 ⟨rfl, fq, F9, cf9, G9, hperm, hp9, hG9, ho9⟩
      have hm3 := hm.put 6 rfl ho9 hp9.blk
      simp only [List.set_cons_zero, List.set_cons_succ] at hm3
      clear hm
      have hm := hm3
      clear hm3
      have HP9 := Lib.hid hp9
      have HPM := Lib.hid hperm
      have HO9 := Lib.hid ho9
      clear hp9 hperm ho9
      go_wp2_with (first | ((with_reducible show wpList _ _ _ (Oper.mk _ (Op.store _ (Operand.tmp 2) _) _ _ _ _ :: _) _ _); refine stA hm ?_; clear hm; intro wA hzA hm hoA; (try simp only [Act.put, sxQ])) | ((with_reducible show wpList _ _ _ (Oper.mk _ (Op.store _ (Operand.tmp 3) _) _ _ _ _ :: _) _ _); refine stA hm ?_; clear hm; intro wB hzB hm hoB; (try simp only [Act.put, sxQ])) | go_skip | ((with_reducible show wpList _ _ _ _ _ (World.alloc _ _)); refine wpList_up hm ?_; clear hm; intro n w hn hn2 hk hm hd hd2 ho; (try rw [← hn]); replace hn := Nat.le_of_eq hn.symm) | ((first | ((with_reducible show wpList _ _ _ (Oper.mk _ (Op.box _ _) _ _ _ _ :: _) _ _); (refine bxA hm ?_; clear hm; intro n w hn hz hm ho; (try simp only [List.cons_append, List.nil_append] at hm))) | ((with_reducible show wpList _ _ _ (Oper.mk _ (Op.load _ _) _ _ _ _ :: _) _ _); first | (refine ldA hm ?_) | (refine laA hm ?_)) | ((with_reducible show wpList _ _ _ (Oper.mk _ (Op.store _ _ _) _ _ _ _ :: _) _ _); (refine stA hm ?_; clear hm; intro w hz hm ho)) | ((with_reducible show wpList _ _ _ (Oper.mk _ (Op.alloc _) _ _ _ _ :: _) _ _); (refine alA hm ?_; clear hm; intro n w hn hz hm ho; (try simp only [List.cons_append, List.nil_append] at hm)))); try simp only [Act.put, sxQ]))
      have hko := KeepsOthers.of_mem HM0.out hm
      have hKE := hko.same D _ HKD.out rfl
      refine ⟨by simp, .inl ⟨_, _, rfl, run_takeDeferred hKE, ?_⟩⟩
      have hg := grownBy_putObj' wB D (.deferred none)
      have hr : ∀ r, some D = some r → ∃ o : Obj, wB.heap[r]? = some o ∧ o.isCells = false := fun r e => by cases e; exact ⟨_, hKE, rfl⟩
      have hc2 := cell_kept ((hm.at_ 4 rfl).cell 0) hg hr
      have hc3 := cell_kept ((hm.at_ 5 rfl).cell 0) hg hr
      have hlow := (HM0.out.backO hm).low
      have hDlt : D < W.heap.size := (Array.getElem?_eq_some_iff.1 HKD.out).1
      have hbD : Below w0.heap.size wB (wB.putObj D (.deferred none)) := ⟨hg.os, hg.tape, hg.output, hg.size, fun k hk => World.putObj_heap_other (by omega)⟩
      have hg0 : ∀ z, z ∈ [g, gm, gw, gv, qA, qH] → z < w8.heap.size := fun z hz => by
        simp only [List.mem_cons, List.not_mem_nil, or_false] at hz
        rcases hz with h | h | h | h | h | h <;> omega
      have ln2 := HM0.out.lt (List.mem_of_getElem? (i := 4) rfl)
      have ln3 := HM0.out.lt (List.mem_of_getElem? (i := 5) rfl)
      have ge2 := (HM0.out.own _ (List.mem_of_getElem? (i := 4) rfl)).resolve_left id
      have ge3 := (HM0.out.own _ (List.mem_of_getElem? (i := 5) rfl)).resolve_left id
      dsimp only at ln2 ln3 ge2 ge3
      have nG : ∀ z, G9 z → z ≠ n2 ∧ z ≠ n3 ∧ z ≠ D := fun z hz => by
        rcases hG9 z hz with h | h
        · have := hg0 z h
          simp only [List.mem_cons, List.not_mem_nil, or_false] at h
          refine ⟨?_, ?_, by omega⟩
          · rcases h with h | h | h | h | h | h
            · exact h ▸ HM0.out.apart 6 4 (by decide) rfl rfl
            · omega
            · omega
            · omega
            · exact h ▸ HM0.out.apart 3 4 (by decide) rfl rfl
            · exact h ▸ HM0.out.apart 2 4 (by decide) rfl rfl
          · rcases h with h | h | h | h | h | h
            · exact h ▸ HM0.out.apart 6 5 (by decide) rfl rfl
            · omega
            · omega
            · omega
            · exact h ▸ HM0.out.apart 3 5 (by decide) rfl rfl
            · exact h ▸ HM0.out.apart 2 5 (by decide) rfl rfl
        · exact ⟨by omega, by omega, by omega⟩
      have hoD : Only (fun z => z = D) wB (wB.putObj D (.deferred none)) := ⟨hg.os, hg.tape, hg.output, hg.size, fun k _ hn => World.putObj_heap_other hn⟩
      have hPE := ((HP9.out.away hoA (fun z hz => (nG z hz).1)).away hoB (fun z hz => (nG z hz).2.1)).away hoD (fun z hz => (nG z hz).2.2)
      refine ⟨.tuple #[.pointer (some ⟨g, 0, none⟩), .int .i64 0], ?_, hlow.trans hbD, .inr ⟨g, G9, _, _, rfl, ⟨q, HQ.out, fq, HPM.out, rfl⟩, hPE, rfl, rfl, rfl, rfl, rfl, rfl, fun z hz => ?_⟩⟩
      · simp [results, Try.f12, go_sem, hc2, hc3]
      · rcases hG9 z hz with h | h
        · simp only [List.mem_cons, List.not_mem_nil, or_false] at h
          have g6 := (HM0.out.own _ (List.mem_of_getElem? (i := 6) rfl)).resolve_left id
          have g3 := (HM0.out.own _ (List.mem_of_getElem? (i := 3) rfl)).resolve_left id
          have g2 := (HM0.out.own _ (List.mem_of_getElem? (i := 2) rfl)).resolve_left id
          dsimp only at g6 g3 g2
          rcases h with h | h | h | h | h | h
          · exact .inr (.inr (.inr (h ▸ g6)))
          · exact .inl h
          · exact .inr (.inl h)
          · exact .inr (.inr (.inl h))
          · exact .inr (.inr (.inr (h ▸ g3)))
          · exact .inr (.inr (.inr (h ▸ g2)))
        · exact .inr (.inr (.inr (by have := HM0.out.low.size; omega)))
    case stop =>
      rintro D c W hD ⟨rfl, hno, hlow, hc2, hc3⟩ hKD
      go_wp2_with fail
      refine ⟨by simp, .inl ⟨_, _, rfl, run_takeDeferred hKD, ?_⟩⟩
      have hg := grownBy_putObj' W D (.deferred none)
      have hr : ∀ r, some D = some r → ∃ o : Obj, W.heap[r]? = some o ∧ o.isCells = false := fun r e => by cases e; exact ⟨_, hKD, rfl⟩
      have hc2' := cell_kept hc2 hg hr
      have hc3' := cell_kept hc3 hg hr
      have hbD : Below w0.heap.size W (W.putObj D (.deferred none)) := ⟨hg.os, hg.tape, hg.output, hg.size, fun k hk => World.putObj_heap_other (by have := hm.low.size; omega)⟩
      rw [hx] at hc2' hc3'
      refine ⟨.tuple #[.pointer none, .int .i64 9], ?_, hlow.trans hbD, .inl ⟨by rw [← hlen]; exact hno, rfl⟩⟩
      simp [results, Try.f12, go_sem, hc2', hc3']
end Go.Proofs.Ytnlhammgcemchaa
