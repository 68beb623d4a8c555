/-
  The reference's First.
-/
import Derived.Test.YtnlhammgcemchaaZ0
import Derived.Test.YtnlhammgcemchaaPgAB
namespace Go.Proofs.Ytnlhammgcemchaa
set_option maxRecDepth 100000
set_option linter.unusedSimpArgs false
set_option linter.unusedVariables false
open Go.RowKit
set_option maxHeartbeats 8000000

def oval (x : Osl) : Value := .slice x.A x.n x.c
/-- After k pages. -/
def FInv (w0 : World) (n2 n4 : Nat) (N : Nat) (g : Nat) (v5 : Value) (wr : World) : Prop :=
  ∃ (k : Nat) (A : Option Addr) (c : Nat) (es : List Osl), k + g = N ∧ v5 = .int .i64 (k : Int) ∧ es.length = k ∧ (∀ x ∈ es, ∃ q, x = ⟨5, 1, some ⟨q, 0, none⟩, 48, 48, bcells (zs 48)⟩) ∧
    Mem (fun _ => False) w0 wr [⟨n2, 36, #[.slice none 0 0]⟩, ⟨n4, 36, #[.slice A k c]⟩] (⟨39, 1, A, k, c, es.map oval⟩ :: es)
/-- A new state. -/
def FRes (w : World) (n : Nat) (e : Ending) (w' : World) : Prop :=
  ∃ A' n' c' vs' G', e = .returned (.tuple #[.agg #[.slice A' n' c'], .int .i64 0]) ∧ RfAt w' A' n' c' vs' G' ∧ svs vs' = Pg.zeros n ∧ n' = n / 24 ∧ (∀ q, G' q → w.heap.size ≤ q) ∧ Below w.heap.size w w'
theorem ref11_First_no (i : Int) (h : i < 240) (w0 : World) : Calls Try.prog 13 #[.int .i64 i] w0 fun e w' => e = .returned (.tuple #[.agg #[.slice none 0 0], .int .i64 1]) ∧ Below w0.heap.size w0 w' := by
  have hm := Mem.nil (fun _ => False) w0
  have d1 : decide (i < 240) = true := decide_eq_true h
  clear h
  go_enter Try.func13, Try.ntmps13
  go_wp2_with (first | go_skip | ((with_reducible show wpList _ _ _ _ _ (World.alloc _ _)); refine wpList_up hm ?_; clear hm; intro n w hn hn2 hk hm hd hd2 ho; (try rw [← hn]); replace hn := Nat.le_of_eq hn.symm) | ((first | ((with_reducible show wpList _ _ _ (Oper.mk _ (Op.box _ _) _ _ _ _ :: _) _ _); (refine bxA hm ?_; clear hm; intro n w hn hz hm ho; (try simp only [List.cons_append, List.nil_append] at hm))) | ((with_reducible show wpList _ _ _ (Oper.mk _ (Op.load _ _) _ _ _ _ :: _) _ _); first | (refine ldA hm ?_) | (refine laA hm ?_)) | ((with_reducible show wpList _ _ _ (Oper.mk _ (Op.store _ _ _) _ _ _ _ :: _) _ _); (refine stA hm ?_; clear hm; intro w hz hm ho)) | ((with_reducible show wpList _ _ _ (Oper.mk _ (Op.alloc _) _ _ _ _ :: _) _ _); (refine alA hm ?_; clear hm; intro n w hn hz hm ho; (try simp only [List.cons_append, List.nil_append] at hm)))); try simp only [Act.put, sxQ]))
  refine bodyPost_ret (results_row_tmp rfl _ _ _ 36 _ (0, 0) _ rfl (by exact hm.at_ 0 rfl) Try.underlying36 rfl (by kernel_rfl)) rfl ?_
  exact ⟨rfl, hm.low⟩
set_option maxRecDepth 100000 in
theorem ref11_First (nw : Nat) (h1 : 240 ≤ nw) (h2 : nw ≤ 65536) (w0 : World) : Calls Try.prog 13 #[.int .i64 (nw : Int)] w0 (FRes w0 nw) := by
  have hm := Mem.nil (fun _ => False) w0
  have d1 : decide ((nw : Int) < 240) = false := decide_eq_false (by omega)
  have m48 : ∀ u : World, (Instr.makeSlice 39 (.int .i64 48) (.int .i64 48)).run Try.prog u = .ok (.slice (some ⟨u.heap.size, 0, none⟩) 48 48) (u.alloc (.cells (zc 48) 5)) := fun _ => by kernel_rfl
  have tq : (nw : Int).tdiv 24 = ((nw / 24 : Nat) : Int) := rfl
  have tw : IntKind.i64.wrap ((nw / 24 : Nat) : Int) = ((nw / 24 : Nat) : Int) := IntWalk.i64_in _ (by omega)
  obtain ⟨bi, hbi, bz0, bz1, bz2⟩ := info_parts (show (Try.prog.info? 39).map (fun i => (i.zero, i.size, i.bytes)) = some (some (.slice none 0 0), 1, 24) by kernel_rfl)
  go_enter Try.func13, Try.ntmps13
  go_wp2_with (first | go_skip | ((with_reducible show wpList _ _ _ _ _ (World.alloc _ _)); refine wpList_up hm ?_; clear hm; intro n w hn hn2 hk hm hd hd2 ho; (try rw [← hn]); replace hn := Nat.le_of_eq hn.symm) | ((first | ((with_reducible show wpList _ _ _ (Oper.mk _ (Op.box _ _) _ _ _ _ :: _) _ _); (refine bxA hm ?_; clear hm; intro n w hn hz hm ho; (try simp only [List.cons_append, List.nil_append] at hm))) | ((with_reducible show wpList _ _ _ (Oper.mk _ (Op.load _ _) _ _ _ _ :: _) _ _); first | (refine ldA hm ?_) | (refine laA hm ?_)) | ((with_reducible show wpList _ _ _ (Oper.mk _ (Op.store _ _ _) _ _ _ _ :: _) _ _); (refine stA hm ?_; clear hm; intro w hz hm ho)) | ((with_reducible show wpList _ _ _ (Oper.mk _ (Op.alloc _) _ _ _ _ :: _) _ _); (refine alA hm ?_; clear hm; intro n w hn hz hm ho; (try simp only [List.cons_append, List.nil_append] at hm)))); try simp only [Act.put, sxQ]))
  obtain ⟨n2, h9⟩ := hm.nm 0 rfl
  dsimp only at h9
  subst h9
  obtain ⟨n4, h9⟩ := hm.nm 1 rfl
  dsimp only at h9
  subst h9
  go_loopg [5] (nw / 24) (fun g v5 wr => FInv w0 n2 n4 (nw / 24) g v5 wr)
  case atStart => exact ⟨0, none, 0, [], by omega, rfl, rfl, fun x hx => (by cases hx), hm.empty 39 1 none⟩
  case round =>
    clear hm
    obtain ⟨k, A, c, es, hkg, rfl, hle, hes, hm⟩ := hrel
    have HES := Lib.hid hes
    have HLE := Lib.hid hle
    clear hes hle
    cases gk with
    | zero =>
      obtain rfl : k = nw / 24 := by omega
      have i1 : decide (((nw / 24 : Nat) : Int) < ((nw / 24 : Nat) : Int)) = false := decide_eq_false (by omega)
      go_wp2_with (first | go_skip | ((with_reducible show wpList _ _ _ _ _ (World.alloc _ _)); refine wpList_up hm ?_; clear hm; intro n w hn hn2 hk hm hd hd2 ho; (try rw [← hn]); replace hn := Nat.le_of_eq hn.symm) | ((first | ((with_reducible show wpList _ _ _ (Oper.mk _ (Op.box _ _) _ _ _ _ :: _) _ _); (refine bxA hm ?_; clear hm; intro n w hn hz hm ho; (try simp only [List.cons_append, List.nil_append] at hm))) | ((with_reducible show wpList _ _ _ (Oper.mk _ (Op.load _ _) _ _ _ _ :: _) _ _); first | (refine ldA hm ?_) | (refine laA hm ?_)) | ((with_reducible show wpList _ _ _ (Oper.mk _ (Op.store _ _ _) _ _ _ _ :: _) _ _); (refine stA hm ?_; clear hm; intro w hz hm ho)) | ((with_reducible show wpList _ _ _ (Oper.mk _ (Op.alloc _) _ _ _ _ :: _) _ _); (refine alA hm ?_; clear hm; intro n w hn hz hm ho; (try simp only [List.cons_append, List.nil_append] at hm)))); try simp only [Act.put, sxQ]))
      refine bodyPost_ret (results_row_tmp rfl _ _ _ 36 _ (0, 0) _ rfl (by exact hm.at_ 0 rfl) Try.underlying36 rfl (by kernel_rfl)) rfl ?_
      have hle := HLE.out
      have hes := HES.out
      have hk10 : 10 ≤ nw / 24 := by omega
      generalize hKK : nw / 24 = k at *
      replace hKK := hKK.symm
      have hout := hm.own_ 0 rfl
      dsimp only at hout
      have hkc : k ≤ c := hout.2.1
      have hin : ∀ x ∈ es, Own w w0.heap.size x.t x.s x.A x.n x.c x.cs := fun x hx => by
        obtain ⟨j, hj⟩ := List.mem_iff_getElem?.1 hx
        exact hm.own_ (j + 1) (by simpa using hj)
      have hA : ∀ a, A = some a → w0.heap.size ≤ a.block ∧ a.block < w.heap.size := fun a e => hout.lt a.block (ownAt_some (by omega) e)
      have hX : ∀ x ∈ es, ∀ a, x.A = some a → w0.heap.size ≤ a.block ∧ a.block < w.heap.size := fun x hx a e => (hin x hx).lt a.block (ownAt_some (by obtain ⟨q, rfl⟩ := hes x hx; show 0 < 48; omega) e)
      have hval : (es.map fun x => (⟨x.A, x.n, x.c, zs 48⟩ : SV)).map SV.val = es.map oval := by rw [List.map_map]; rfl
      refine ⟨A, k, c, es.map fun x => ⟨x.A, x.n, x.c, zs 48⟩, fun q => (∃ a, A = some a ∧ a.block = q) ∨ ∃ x ∈ es, ∃ a, x.A = some a ∧ a.block = q, rfl, { byts := ⟨by rw [hval]; exact hout.row, fun v hv => ?_⟩, len := by rw [List.length_map]; exact hle, pos := by omega, cap := hkc, v48 := fun v hv => ?_, hA := fun a e => .inl ⟨a, e, rfl⟩, hv := fun v hv a e => ?_, lt := fun q hq => ?_ }, ?_, hKK, fun q hq => ?_, hm.low⟩
      · obtain ⟨x, hx, rfl⟩ := List.mem_map.1 hv
        have h9 := hin x hx
        obtain ⟨q, rfl⟩ := hes x hx
        exact h9.byt (Nat.le_refl _)
      · obtain ⟨x, hx, rfl⟩ := List.mem_map.1 hv
        obtain ⟨q, rfl⟩ := hes x hx
        rfl
      · obtain ⟨x, hx, rfl⟩ := List.mem_map.1 hv
        exact .inr ⟨x, hx, a, e, rfl⟩
      · rcases hq with ⟨a, e, rfl⟩ | ⟨x, hx, a, e, rfl⟩
        · exact (hA a e).2
        · exact (hX x hx a e).2
      · rw [svs, List.map_map, Pg.zeros, ← hKK, ← hle]
        exact List.eq_replicate_iff.2 ⟨by simp, fun b hb => by obtain ⟨x, _, rfl⟩ := List.mem_map.1 hb; rfl⟩
      · rcases hq with ⟨a, e, rfl⟩ | ⟨x, hx, a, e, rfl⟩
        · exact (hA a e).1
        · exact (hX x hx a e).1
    | succ g =>
      have hkn : k < nw / 24 := by omega
      have i1 : decide ((k : Int) < ((nw / 24 : Nat) : Int)) = true := decide_eq_true (by omega)
      go_wp2_with (first | go_skip | ((with_reducible show wpList _ _ _ _ _ (World.alloc _ _)); refine wpList_up hm ?_; clear hm; intro n w hn hn2 hk hm hd hd2 ho; (try rw [← hn]); replace hn := Nat.le_of_eq hn.symm) | ((first | ((with_reducible show wpList _ _ _ (Oper.mk _ (Op.box _ _) _ _ _ _ :: _) _ _); (refine bxA hm ?_; clear hm; intro n w hn hz hm ho; (try simp only [List.cons_append, List.nil_append] at hm))) | ((with_reducible show wpList _ _ _ (Oper.mk _ (Op.load _ _) _ _ _ _ :: _) _ _); first | (refine ldA hm ?_) | (refine laA hm ?_)) | ((with_reducible show wpList _ _ _ (Oper.mk _ (Op.store _ _ _) _ _ _ _ :: _) _ _); (refine stA hm ?_; clear hm; intro w hz hm ho)) | ((with_reducible show wpList _ _ _ (Oper.mk _ (Op.alloc _) _ _ _ _ :: _) _ _); (refine alA hm ?_; clear hm; intro n w hn hz hm ho; (try simp only [List.cons_append, List.nil_append] at hm)))); try simp only [Act.put, sxQ]))
      have hmK := hm.drew
      replace hm := hm.noO
      refine wp_region_noPanic ?_
      refine wp_region_phase (S := MemS _ _ _ _) [6] (by kernel_rfl) (MemS.of hm.drew) (fun hHeld => ?_)
      refine wpAnyP_fresh (by repeat (first | apply Fresh.a | apply Fresh.b)) ?_
      replace hm := hm.drew
      clear hm
      have hm := hmK
      clear hmK
      iterate 2 (first | (refine takePN 0 hHeld ?_) | (refine takePY 0 ?_ hHeld ?_ ?_; rotate_left 1; (first | (intro w9 h9; (with_reducible show (execOp _ (Oper.mk _ (Op.load _ _) _ _ _ _)).run _ _ = _); first | exact h9.ldA | exact h9.laA) | focus (intro w9 hSw; go_simp; (try (with_reducible rfl)); done))); try simp only [Act.put, sxQ])
      refine wpAnyP_one 2 (by kernel_rfl) (by simp only [sxN]; first | done | exact rfl) (fun K hK => ?_)
      rw [if_pos (by rfl)]
      go_simp
      refine K_up hm ?_
      intro n5 w5 hn hn5s hn5 hm1 hn5d hn5d2 hb1
      first | rw [← hn] | rw [← (show n5 = wr.heap.size from hn)]
      have hm := hm1.row hn5 hn5s hn5d hn5d2 1 48 (bcells (zs 48)) rfl rfl (by unfold maxLen; omega)
      clear hm1 hn5 hn5d hn5d2 hb1 hn
      refine hK.out _ _ (MemS.of hm.noO) (fun hHeld => ?_)
      clear hK K
      try simp only [Act.put, sxQ]
      refine wpAnyP_one 3 (by kernel_rfl) (by simp only [sxN]; first | done | exact rfl) (fun K hK => ?_)
      rw [if_pos (by rfl)]
      go_simp
      refine K_up hm ?_
      intro n6 w6 hn hn6s hn6 hm1 hn6d hn6d2 hb1
      first | rw [← hn] | rw [← (show n6 = w5.heap.size from hn)]
      have hm := hm1
      clear hm1 hn6d hn6d2 hb1 hn
      refine hK.out _ _ (MemS.of hm.noO) (fun hHeld => ?_)
      clear hK K
      try simp only [Act.put, sxQ]
      refine wpAnyP_one 4 (by kernel_rfl) (by simp only [sxN]; first | done | exact rfl) (fun K hK => ?_)
      have hkl := HLE.out
      refine step_ap (by rfl) (.tmp 16) (.tmp 18) 34 rfl 39 bi _ 1 24 Try.underlying34 hbi bz0 bz1 bz2 rfl (by omega) A k c _ rfl hm 0 rfl _ (some ⟨n6, 0, none⟩) 1 1 [.slice (some ⟨n5, 0, none⟩) 48 48] rfl hn6.row rfl (fun u hu => by rw [List.mem_singleton.1 hu]; rfl) (by unfold maxLen; omega) (by omega) ?_
      clear hm; intro A3 c3 w hm ho9 hat
      simp only [List.cons_append, List.set_cons_zero] at hm
      refine hK.out _ _ (MemS.of hm.noO) (fun hHeld => ?_)
      clear hK K
      try simp only [Act.put, sxQ]
      iterate 1 (refine wpAnyP_takeP (b := 5) (by repeat (first | apply Seek.a | apply Seek.b | apply Seek.c)) (by simp only [sxN]; first | done | exact rfl) ⟨?_, by kernel_rfl, by kernel_rfl, by kernel_rfl, by kernel_rfl, fun _ _ _ h => h, Or.inl ⟨by rfl, ?_⟩, (by first | exact Early.of hHeld | exact Early.off (by kernel_rfl)), ?_⟩; rotate_left 1; focus (intro w9 hSw; go_simp; (try (with_reducible rfl)); done); try simp only [Act.put, sxQ])
      try simp only [Act.put, sxQ]
      refine wpAnyP_last 6 (by kernel_rfl) (by simp only [sxN]; first | done | exact rfl) (by kernel_rfl) (fun K hK => ?_)
      refine stB hm ?_
      clear hm; intro w hz hm ho
      refine hK.out _ _ ?_
      clear hK K
      try simp only [Act.put, sxQ]
      refine wpAnyP_done (by kernel_rfl) ?_ _
      refine NoPanic.normal ?_
      clear ho9 hat hn6
      go_wp2_with (first | go_skip | ((with_reducible show wpList _ _ _ _ _ (World.alloc _ _)); refine wpList_up hm ?_; clear hm; intro n w hn hn2 hk hm hd hd2 ho; (try rw [← hn]); replace hn := Nat.le_of_eq hn.symm) | ((first | ((with_reducible show wpList _ _ _ (Oper.mk _ (Op.box _ _) _ _ _ _ :: _) _ _); (refine bxA hm ?_; clear hm; intro n w hn hz hm ho; (try simp only [List.cons_append, List.nil_append] at hm))) | ((with_reducible show wpList _ _ _ (Oper.mk _ (Op.load _ _) _ _ _ _ :: _) _ _); first | (refine ldA hm ?_) | (refine laA hm ?_)) | ((with_reducible show wpList _ _ _ (Oper.mk _ (Op.store _ _ _) _ _ _ _ :: _) _ _); (refine stA hm ?_; clear hm; intro w hz hm ho)) | ((with_reducible show wpList _ _ _ (Oper.mk _ (Op.alloc _) _ _ _ _ :: _) _ _); (refine alA hm ?_; clear hm; intro n w hn hz hm ho; (try simp only [List.cons_append, List.nil_append] at hm)))); try simp only [Act.put, sxQ]))
      go_roundg g
      case measure => omega
      case rel =>
        refine ⟨k + 1, A3, c3, es ++ [⟨5, 1, some ⟨n5, 0, none⟩, 48, 48, bcells (zs 48)⟩], by omega, by go_num, by simp [HLE.out], fun x hx => ?_, ?_⟩
        · rcases List.mem_append.1 hx with hx | hx
          · exact HES.out x hx
          · exact ⟨n5, List.mem_singleton.1 hx⟩
        · rw [List.map_append]
          exact hm
end Go.Proofs.Ytnlhammgcemchaa
