/-
  The walks of slices.Repeat, of the iterator's maker, and of wear.
-/
import Derived.Test.YtnlhammgcemchaaZ0
import Derived.Test.YtnlhammgcemchaaPgS
import Derived.Test.YtnlhammgcemchaaZ1
import Derived.Laws.CopyOwn
namespace Go.Proofs.Ytnlhammgcemchaa
set_option maxRecDepth 100000
set_option linter.unusedSimpArgs false
set_option linter.unusedVariables false
open Go.RowKit
set_option maxHeartbeats 8000000

theorem u64_and32 (y : Nat) (hy : y < 4294967296) : bits BinOp.and IntKind.u64 (y : Int) 4294967295 = (y : Int) := by
  show IntKind.u64.wrap ((BitVec.ofInt 64 (y : Int) &&& BitVec.ofInt 64 ((4294967295 : Nat) : Int)).toNat : Int) = _
  have h2 := Nat.and_two_pow_sub_one_eq_mod y 32
  simp only [Nat.reducePow, Nat.reduceSub] at h2
  have e1 : (BitVec.ofInt 64 (y : Int)).toNat = y := by simp; omega
  have e2 : (BitVec.ofInt 64 ((4294967295 : Nat) : Int)).toNat = 4294967295 := by decide
  rw [BitVec.toNat_and, e1, e2, h2]
  exact (IntWalk.u64_in _ (by omega)).trans (by omega)
theorem bits_Mul1 (n : Nat) (w : World) (hn : n ≤ 1000000) : Calls Try.prog 44 #[.int .u64 1, .int .u64 (n : Int)] w fun e w' => e = .returned (.tuple #[.int .u64 0, .int .u64 (n : Int)]) ∧ Below w.heap.size w w' := by
  have hm := Mem.nil (fun _ => False) w
  have h64 : ∀ u : World, Calls Try.prog 56 #[.int .u64 1, .int .u64 (n : Int)] u fun e w' => e = .returned (.tuple #[.int .u64 0, .int .u64 (n : Int)]) ∧ Below u.heap.size u w' := fun u => by
    have hm := Mem.nil (fun _ => False) u
    have a1 : bits BinOp.and IntKind.u64 1 4294967295 = 1 := u64_and32 1 (by omega)
    have a0 : bits BinOp.and IntKind.u64 0 4294967295 = 0 := u64_and32 0 (by omega)
    have a2 := u64_and32 n (by omega)
    have a3 : (n : Int) / 4294967296 = 0 := by omega
    have a4 : IntKind.u64.wrap (n : Int) = (n : Int) := IntWalk.u64_in _ (by omega)
    go_enter Try.func56, Try.ntmps56
    go_wp2_with (first | go_skip | ((with_reducible show wpList _ _ _ _ _ (World.alloc _ _)); refine wpList_up hm ?_; clear hm; intro n w hn hn2 hk hm hd hd2 ho; (try rw [← hn]); replace hn := Nat.le_of_eq hn.symm) | ((first | ((with_reducible show wpList _ _ _ (Oper.mk _ (Op.box _ _) _ _ _ _ :: _) _ _); (refine bxA hm ?_; clear hm; intro n w hn hz hm ho; (try simp only [List.cons_append, List.nil_append] at hm))) | ((with_reducible show wpList _ _ _ (Oper.mk _ (Op.load _ _) _ _ _ _ :: _) _ _); first | (refine ldA hm ?_) | (refine laA hm ?_)) | ((with_reducible show wpList _ _ _ (Oper.mk _ (Op.store _ _ _) _ _ _ _ :: _) _ _); (refine stA hm ?_; clear hm; intro w hz hm ho)) | ((with_reducible show wpList _ _ _ (Oper.mk _ (Op.alloc _) _ _ _ _ :: _) _ _); (refine alA hm ?_; clear hm; intro n w hn hz hm ho; (try simp only [List.cons_append, List.nil_append] at hm)))); try simp only [Act.put, sxQ]))
    go_ret2
    exact ⟨rfl, hm.low⟩
  go_enter Try.func44, Try.ntmps44
  go_wp2_with (first | go_skip | ((with_reducible show wpList _ _ _ _ _ (World.alloc _ _)); refine wpList_up hm ?_; clear hm; intro n w hn hn2 hk hm hd hd2 ho; (try rw [← hn]); replace hn := Nat.le_of_eq hn.symm) | ((first | ((with_reducible show wpList _ _ _ (Oper.mk _ (Op.box _ _) _ _ _ _ :: _) _ _); (refine bxA hm ?_; clear hm; intro n w hn hz hm ho; (try simp only [List.cons_append, List.nil_append] at hm))) | ((with_reducible show wpList _ _ _ (Oper.mk _ (Op.load _ _) _ _ _ _ :: _) _ _); first | (refine ldA hm ?_) | (refine laA hm ?_)) | ((with_reducible show wpList _ _ _ (Oper.mk _ (Op.store _ _ _) _ _ _ _ :: _) _ _); (refine stA hm ?_; clear hm; intro w hz hm ho)) | ((with_reducible show wpList _ _ _ (Oper.mk _ (Op.alloc _) _ _ _ _ :: _) _ _); (refine alA hm ?_; clear hm; intro n w hn hz hm ho; (try simp only [List.cons_append, List.nil_append] at hm)))); try simp only [Act.put, sxQ]) | (go_at_call 56; refine (h64 _).mono ?_; rintro e w2 ⟨rfl, hb⟩; replace hm := hm.below hb))
  go_ret2
  exact ⟨rfl, hm.low⟩
theorem ecells_none (n : Nat) : ecells (List.replicate n none) = List.replicate n (I64 (-1)) := by simp [ecells, Pg.enc]
theorem zz_cells (m : Nat) : (madeCells #[.int .i64 0] m) = (List.replicate m (I64 0)).toArray := by
  apply Array.toList_inj.1
  simp only [madeCells, I64]
  apply List.ext_getElem
  · simp
  · intro j h1 h2
    simp [Nat.mod_one]
theorem splice_rep (k m : Nat) (h : k ≤ m) (x y : Value) (j : Nat) (hj : k + j ≤ m) : splice (List.replicate k x ++ List.replicate (m - k) y) k (List.replicate j x) = List.replicate (k + j) x ++ List.replicate (m - (k + j)) y := by
  unfold splice
  rw [List.take_left' List.length_replicate, List.length_replicate, ← List.drop_drop, List.drop_left' List.length_replicate, List.drop_replicate, ← List.append_assoc, List.replicate_append_replicate]
  congr 2
  omega
theorem addr_add0 (q j : Nat) : Addr.add ⟨q, 0, none⟩ j = ⟨q, j, none⟩ := by
  unfold Addr.add
  split
  · rename_i h; rw [h]
  · simp
theorem slices_RepeatN (A : Addr) (c m0 : Nat) (w0 : World) (hA : w0.cell? A = some (.int .i64 (-1))) (hlt : A.block < w0.heap.size) (h1 : 1 ≤ m0) (hm0 : m0 ≤ 100000) :
    Calls Try.prog 33 #[.slice (some A) 1 c, .int .i64 (m0 : Int)] w0 fun e w' => ∃ q, e = .returned (.slice (some ⟨q, 0, none⟩) m0 m0) ∧ w0.heap.size ≤ q ∧ Blk w' q 3 (ecells (List.replicate m0 none)).toArray ∧ Below w0.heap.size w0 w' := by
  have hm := Mem.nil (fun _ => False) w0
  have HC := Lib.hid (fun (u : World) (h : Below w0.heap.size w0 u) => show u.cell? A = some (.int .i64 (-1)) from (h.cell (p := A) hlt).trans hA)
  have p0 : (0 : Int) < (m0 : Int) := by omega
  have pn : (0 : Int) ≤ (m0 : Int) := by omega
  have a4 : IntKind.u64.wrap (m0 : Int) = (m0 : Int) := IntWalk.u64_in _ (by omega)
  have a5 : decide ((9223372036854775807 : Int) < (m0 : Int)) = false := by rw [decide_eq_false_iff_not]; omega
  have a6 : IntKind.i64.wrap (m0 : Int) = (m0 : Int) := IntWalk.i64_in _ (by omega)
  have mk : ∀ u : World, (Instr.makeSlice 63 (.int .i64 (m0 : Int)) (.int .i64 (m0 : Int))).run Try.prog u = .ok (.slice (some ⟨u.heap.size, 0, none⟩) m0 m0) (u.alloc (.cells (List.replicate m0 (I64 0)).toArray 3)) := fun u => by
    rw [← zz_cells]
    obtain ⟨ii, hii, hi0, hi1, hi2⟩ := info_parts i_int'
    have h := run_make (P := Try.prog) u 63 3 ii (.int .i64 0) Try.underlying63 hii hi0 .i64 .i64 (m0 : Int) (m0 : Int) (by omega) (Int.le_refl _) (by rw [hi2]; omega) (by omega)
    simpa [hi1, Value.cells] using h
  clear hA
  go_enter Try.func33, Try.ntmps33
  go_wp2_with (first | go_skip | ((with_reducible show wpList _ _ _ _ _ (World.alloc _ _)); refine wpList_up hm ?_; clear hm; intro n w hn hn2 hk hm hd hd2 ho; (try rw [← hn]); replace hn := Nat.le_of_eq hn.symm) | ((first | ((with_reducible show wpList _ _ _ (Oper.mk _ (Op.box _ _) _ _ _ _ :: _) _ _); (refine bxA hm ?_; clear hm; intro n w hn hz hm ho; (try simp only [List.cons_append, List.nil_append] at hm))) | ((with_reducible show wpList _ _ _ (Oper.mk _ (Op.load _ _) _ _ _ _ :: _) _ _); first | (refine ldA hm ?_) | (refine laA hm ?_)) | ((with_reducible show wpList _ _ _ (Oper.mk _ (Op.store _ _ _) _ _ _ _ :: _) _ _); (refine stA hm ?_; clear hm; intro w hz hm ho)) | ((with_reducible show wpList _ _ _ (Oper.mk _ (Op.alloc _) _ _ _ _ :: _) _ _); (refine alA hm ?_; clear hm; intro n w hn hz hm ho; (try simp only [List.cons_append, List.nil_append] at hm)))); try simp only [Act.put, sxQ]) | (go_at_call 44; refine (bits_Mul1 m0 _ (by omega)).mono ?_; rintro e w2 ⟨rfl, hb⟩; replace hm := hm.below hb) | ((with_reducible show wpList _ _ _ (Oper.mk _ (Op.call { callee := Callee.builtin Builtin.copy, args := _, argTypes := _ }) _ _ _ _ :: _) _ _); refine wpList_copy_splice rfl (.tmp 31) (.tmp 32) 63 63 rfl 3 Try.underlying63 (by kernel_rfl) _ _ m0 m0 1 c rfl rfl n 0 (List.replicate m0 (I64 0)) 3 (by rw [List.toArray_replicate]; exact hk) [I64 (-1)] (Nat.min_eq_left h1).symm (fun _ => ⟨rfl, A, rfl, fun j v hj => by cases j with | zero => (cases hj; exact HC.out _ hm.low) | succ j => simp at hj⟩) (by rw [List.length_replicate]; exact h1) (fun v hv => by rw [List.mem_singleton.1 hv]; rfl) w0.heap.size w0 hm.low hn2 ?_; intro w3 hw3 hb3))
  have hk3 : Blk w3 n 3 (List.replicate 1 (I64 (-1)) ++ List.replicate (m0 - 1) (I64 0)).toArray := by
    have h9 := hw3.out
    have e9 := splice_rep 0 m0 (Nat.zero_le _) (I64 (-1)) (I64 0) 1 (by omega)
    simp only [List.replicate_zero, List.nil_append, Nat.sub_zero, Nat.zero_add] at e9
    rw [show [I64 (-1)] = List.replicate 1 (I64 (-1)) from rfl, e9] at h9
    exact h9
  clear hw3 hk hm hd hd2 ho hn hb mk
  generalize n = q at *
  go_wp2_with fail
  go_loopg [8] (m0 - 1) (fun g2 v wr => ∃ k, k + g2 = m0 ∧ 1 ≤ k ∧ v = .int .i64 (k : Int) ∧ Blk wr q 3 (List.replicate k (I64 (-1)) ++ List.replicate (m0 - k) (I64 0)).toArray ∧ Below w0.heap.size w0 wr)
  case atStart => exact ⟨1, by omega, Nat.le_refl _, rfl, hk3, hb3⟩
  case round =>
    clear hk3 hb3
    obtain ⟨k, hkg, hk1, rfl, hk, hb⟩ := hrel
    cases gk with
    | zero =>
      obtain rfl : k = m0 := by omega
      go_wp2_with fail
      go_ret
      refine ⟨q, rfl, hn2, ?_, hb⟩
      rw [ecells_none]
      simpa using hk
    | succ g2 =>
      have i1 : (k : Int) < (m0 : Int) := by omega
      have i2 : ¬ m0 = k := by omega
      have i3 : (k : Int) ≤ (m0 : Int) := by omega
      have i4 : (0 : Int) ≤ (k : Int) := by omega
      go_wp2_with fail
      refine wp_region_noPanic ?_
      refine wp_region_held_drew (S := fun _ => True) (by kernel_rfl) (trivial) (fun hHeld => ?_)
      refine wpAnyH_fresh (by repeat (first | apply Fresh.a | apply Fresh.b)) ?_
      iterate 7 (refine wpAnyH_take3 (b := 0) (by repeat (first | apply Seek.a | apply Seek.b | apply Seek.c)) (by simp only [sxN]; first | done | exact rfl) ⟨?_, by kernel_rfl, by kernel_rfl, by kernel_rfl, fun _ _ _ h => h, Or.inl ⟨by rfl, ?_⟩, by assumption, ?_⟩; rotate_left 1; focus (intro w9 hSw; (try dsimp only at hSw); go_simp; try (with_reducible rfl)); try simp only [Act.put, sxQ])
      simp only [Act.put, sxQ]
      refine wpAnyH_ready (rs := [7]) (by kernel_rfl) (by simp) ?_
      refine AllReadyH.cons2 (by simp only [sxN]; first | done | exact rfl) (fun K hK => ?_)
      obtain ⟨j, hj1, hj2, hj3, hj4⟩ : ∃ j, j = Nat.min k (m0 - k) ∧ k + j ≤ m0 ∧ 1 ≤ j ∧ j ≤ k := ⟨_, rfl, by have := Nat.min_le_right k (m0 - k); show k + min k (m0 - k) ≤ m0; omega, by show 1 ≤ min k (m0 - k); omega, Nat.min_le_left _ _⟩
      have HJ := Lib.hid hj1
      clear hj1
      have rj : IntKind.i64.wrap ((k : Int) + (j : Int)) = (k : Int) + (j : Int) := IntWalk.i64_in _ (by omega)
      refine step_copy_splice rfl (.tmp 41) (.tmp 44) 63 63 rfl 3 Try.underlying63 (by kernel_rfl) (some ⟨q, k, none⟩) (some ⟨q, 0, none⟩) (m0 - k) (m0 - k) k m0 rfl rfl q k (List.replicate k (I64 (-1)) ++ List.replicate (m0 - k) (I64 0)) 3 hk.drew (List.replicate j (I64 (-1))) (by rw [List.length_replicate]; exact HJ.out) (fun _ => ⟨rfl, ⟨q, 0, none⟩, rfl, fun j2 v hj => ?_⟩) (by rw [List.length_replicate, List.length_append, List.length_replicate, List.length_replicate]; omega) (fun v hv => by rw [List.eq_of_mem_replicate hv]; rfl) w0.heap.size w0 hb.drew hn2 ?_
      · rw [List.getElem?_replicate] at hj
        split at hj
        · cases hj
          have h9 : wr.cell? ⟨q, j2, none⟩ = some (I64 (-1)) := by
            rw [hk.cell]
            rw [List.getElem?_toArray, List.getElem?_append_left (by rw [List.length_replicate]; omega), List.getElem?_replicate, if_pos (by omega)]
          rw [addr_add0]; exact h9
        · cases hj
      intro w3 hw3 hb3
      rw [splice_rep k m0 (by omega) _ _ j hj2] at hw3
      simp only [List.length_replicate]
      refine hK.out _ _ (trivial) (fun hHeld => ?_)
      clear hK K
      try simp only [Act.put, sxQ]
      iterate 2 (refine wpAnyH_take3 (b := 8) (by repeat (first | apply Seek.a | apply Seek.b | apply Seek.c)) (by simp only [sxN]; first | done | exact rfl) ⟨?_, by kernel_rfl, by kernel_rfl, by kernel_rfl, fun _ _ _ h => h, Or.inl ⟨by rfl, ?_⟩, by assumption, ?_⟩; rotate_left 1; focus (intro w9 hSw; (try dsimp only at hSw); go_simp; try (with_reducible rfl)); try simp only [Act.put, sxQ])
      refine wpAnyH_done (by kernel_rfl) ?_ _
      refine NoPanic.normal ?_
      go_wp2_with fail
      go_roundg (m0 - (k + j))
      case measure => omega
      case rel => exact ⟨k + j, by omega, by omega, by first | rfl | go_num, hw3.out, hb3⟩
end Go.Proofs.Ytnlhammgcemchaa
