/-
  Calls of a side that New did not return.
-/
import Derived.Test.YtibaibdgpnkdnaaDoorZ1
import Derived.Test.YtibaibdgpnkdnaaDoorSecD
namespace Go.Proofs.YtibaibdgpnkdnaaDoor
set_option maxRecDepth 100000
set_option linter.unusedSimpArgs false
set_option linter.unusedVariables false
open Go.RowKit
set_option maxHeartbeats 8000000

/-- A pointer that is no side. -/
def NoSide (w0 : World) (p : Value) : Prop := ∀ u, Below w0.heap.size w0 u → Calls Tryd.prog 23 #[p] u fun e w' => e = .returned (.bool false) ∧ w' = u
theorem NoSide.nil (w : World) : NoSide w (.pointer none) := fun u _ => ch_nil u
theorem NoSide.zero {w : World} {g : Nat} {v0 v1 v2 v3 v4 v6 v7 v8 : Value} {n c : Nat} (H : Blk w g 56 #[v0, v1, v2, v3, v4, .slice none n c, v6, v7, v8]) : NoSide w (.pointer (some ⟨g, 0, none⟩)) := fun u hu => ch_made (A := none) (H.below hu H.lt)
theorem NoSide.below {w w' : World} {p : Value} (h : NoSide w p) (hb : Below w.heap.size w w') : NoSide w' p := fun u hu => h u (hb.trans (hu.mono hb.size))
set_option maxRecDepth 100000 in
theorem no_wrap (w0 : World) (p : Value) (h : NoSide w0 p) (x : Value) (cs : Array Value) (hx : x.cells = cs) : Calls Tryd.prog 9 #[p, x] w0 fun e w' => e = .returned (.tuple #[cmdV 0 0 0 0 none 0 0 0 false, .int .i64 31]) ∧ Below w0.heap.size w0 w' := by
  have HN := Lib.hid h
  have hm := Mem.nil (fun _ => False) w0
  clear h
  unfold cmdV
  go_enter Tryd.func9, Tryd.ntmps9
  go_wp2_with (first | go_skip | ((with_reducible show wpList _ _ _ _ _ (World.alloc _ _)); refine wpList_up hm ?_; clear hm; intro n w hn hn2 hk hm hd hd2 ho; (try rw [← hn]); replace hn := Nat.le_of_eq hn.symm) | ((first | ((with_reducible show wpList _ _ _ (Oper.mk _ (Op.box _ _) _ _ _ _ :: _) _ _); (refine wpList_bx (by rfl) _ _ rfl _ (by simp only [Act.eval, Array.getD_eq_getD_getElem?, List.getElem?_toArray, List.getElem?_cons_succ, List.getElem?_cons_zero, Option.getD_some]; first | done | exact rfl) _ (by simp only [Value.cells]; first | done | exact rfl) hm ?_; clear hm; intro n w hn hz hm ho; (try simp only [List.cons_append, List.nil_append] at hm))) | ((with_reducible show wpList _ _ _ (Oper.mk _ (Op.load _ _) _ _ _ _ :: _) _ _); first | (refine wpList_ldS (by rfl) _ _ rfl _ _ rfl hm _ _ (by repeat (first | apply In.a | apply In.b)) (by decide +kernel) _ (by simp only [List.getElem?_toArray, List.getElem?_cons_succ, List.getElem?_cons_zero]; first | done | exact rfl) ?_) | (refine wpList_laS (by rfl) _ _ rfl _ _ rfl hm _ _ (by repeat (first | apply In.a | apply In.b)) (by kernel_rfl) _ (by rfl) (by kernel_rfl) (by simp) _ (by simp only [List.toList_toArray, List.drop_succ_cons, List.drop_zero, List.size_toArray, List.length_cons, List.length_nil, Nat.reduceAdd, List.take_succ_cons, List.take_zero]; first | done | exact rfl) ?_)) | ((with_reducible show wpList _ _ _ (Oper.mk _ (Op.store _ _ _) _ _ _ _ :: _) _ _); (refine wpList_stS (by rfl) _ _ _ rfl _ _ rfl _ (by simp only [Act.eval, Array.getD_eq_getD_getElem?, List.getElem?_toArray, List.getElem?_cons_succ, List.getElem?_cons_zero, Option.getD_some]; first | done | exact rfl) hm _ (by simp only [Value.cells]; first | done | exact rfl) _ _ _ _ (by repeat (first | apply Put.a | apply Put.b)) (by kernel_rfl) (by simp [Value.oneCell']) (by simp) (by simp only [List.set_cons_zero, List.set_cons_succ, spl, List.toList_toArray, List.size_toArray, List.length_cons, List.length_nil, Nat.reduceAdd, Nat.zero_add, List.take_succ_cons, List.take_zero, List.drop_succ_cons, List.drop_zero, List.drop_nil, List.cons_append, List.nil_append, List.append_nil]; first | done | exact rfl) ?_; clear hm; intro w hz hm ho)) | ((with_reducible show wpList _ _ _ (Oper.mk _ (Op.alloc _) _ _ _ _ :: _) _ _); (refine wpList_al (by rfl) _ rfl _ rfl _ (by simp only [Value.cells]; first | done | exact rfl) hm ?_; clear hm; intro n w hn hz hm ho; (try simp only [List.cons_append, List.nil_append] at hm)))); try simp only [Act.put, List.setIfInBounds_toArray, List.set_cons_zero, List.set_cons_succ]) | (go_at_call 23; refine (HN.out _ hm.low).mono ?_; rintro e w2 ⟨rfl, rfl⟩))
  refine bodyPost_ret (results_row_tmp rfl _ _ _ 26 _ (0, 0) _ rfl (by exact hm.at_ 1 rfl) Tryd.underlying26 rfl (by kernel_rfl)) rfl ⟨rfl, hm.low⟩
set_option maxRecDepth 100000 in
theorem no_unwrap (w0 : World) (p : Value) (h : NoSide w0 p) (x : Value) (cs : Array Value) (hx : x.cells = cs) : Calls Tryd.prog 13 #[p, x] w0 fun e w' => e = .returned (.tuple #[cmdV 0 0 0 0 none 0 0 0 false, .int .i64 31]) ∧ Below w0.heap.size w0 w' := by
  have HN := Lib.hid h
  have hm := Mem.nil (fun _ => False) w0
  clear h
  unfold cmdV
  go_enter Tryd.func13, Tryd.ntmps13
  go_wp2_with (first | go_skip | ((with_reducible show wpList _ _ _ _ _ (World.alloc _ _)); refine wpList_up hm ?_; clear hm; intro n w hn hn2 hk hm hd hd2 ho; (try rw [← hn]); replace hn := Nat.le_of_eq hn.symm) | ((first | ((with_reducible show wpList _ _ _ (Oper.mk _ (Op.box _ _) _ _ _ _ :: _) _ _); (refine wpList_bx (by rfl) _ _ rfl _ (by simp only [Act.eval, Array.getD_eq_getD_getElem?, List.getElem?_toArray, List.getElem?_cons_succ, List.getElem?_cons_zero, Option.getD_some]; first | done | exact rfl) _ (by simp only [Value.cells]; first | done | exact rfl) hm ?_; clear hm; intro n w hn hz hm ho; (try simp only [List.cons_append, List.nil_append] at hm))) | ((with_reducible show wpList _ _ _ (Oper.mk _ (Op.load _ _) _ _ _ _ :: _) _ _); first | (refine wpList_ldS (by rfl) _ _ rfl _ _ rfl hm _ _ (by repeat (first | apply In.a | apply In.b)) (by decide +kernel) _ (by simp only [List.getElem?_toArray, List.getElem?_cons_succ, List.getElem?_cons_zero]; first | done | exact rfl) ?_) | (refine wpList_laS (by rfl) _ _ rfl _ _ rfl hm _ _ (by repeat (first | apply In.a | apply In.b)) (by kernel_rfl) _ (by rfl) (by kernel_rfl) (by simp) _ (by simp only [List.toList_toArray, List.drop_succ_cons, List.drop_zero, List.size_toArray, List.length_cons, List.length_nil, Nat.reduceAdd, List.take_succ_cons, List.take_zero]; first | done | exact rfl) ?_)) | ((with_reducible show wpList _ _ _ (Oper.mk _ (Op.store _ _ _) _ _ _ _ :: _) _ _); (refine wpList_stS (by rfl) _ _ _ rfl _ _ rfl _ (by simp only [Act.eval, Array.getD_eq_getD_getElem?, List.getElem?_toArray, List.getElem?_cons_succ, List.getElem?_cons_zero, Option.getD_some]; first | done | exact rfl) hm _ (by simp only [Value.cells]; first | done | exact rfl) _ _ _ _ (by repeat (first | apply Put.a | apply Put.b)) (by kernel_rfl) (by simp [Value.oneCell']) (by simp) (by simp only [List.set_cons_zero, List.set_cons_succ, spl, List.toList_toArray, List.size_toArray, List.length_cons, List.length_nil, Nat.reduceAdd, Nat.zero_add, List.take_succ_cons, List.take_zero, List.drop_succ_cons, List.drop_zero, List.drop_nil, List.cons_append, List.nil_append, List.append_nil]; first | done | exact rfl) ?_; clear hm; intro w hz hm ho)) | ((with_reducible show wpList _ _ _ (Oper.mk _ (Op.alloc _) _ _ _ _ :: _) _ _); (refine wpList_al (by rfl) _ rfl _ rfl _ (by simp only [Value.cells]; first | done | exact rfl) hm ?_; clear hm; intro n w hn hz hm ho; (try simp only [List.cons_append, List.nil_append] at hm)))); try simp only [Act.put, List.setIfInBounds_toArray, List.set_cons_zero, List.set_cons_succ]) | (go_at_call 23; refine (HN.out _ hm.low).mono ?_; rintro e w2 ⟨rfl, rfl⟩))
  refine bodyPost_ret (results_row_tmp rfl _ _ _ 26 _ (0, 0) _ rfl (by exact hm.at_ 1 rfl) Tryd.underlying26 rfl (by kernel_rfl)) rfl ⟨rfl, hm.low⟩
set_option maxRecDepth 100000 in
theorem no_seal (w0 : World) (p : Value) (h : NoSide w0 p) (x : Value) (cs : Array Value) (hx : x.cells = cs) : Calls Tryd.prog 17 #[p, x] w0 fun e w' => e = .returned (.tuple #[rspV none 0 0 0, .int .i64 31]) ∧ Below w0.heap.size w0 w' := by
  have HN := Lib.hid h
  have hm := Mem.nil (fun _ => False) w0
  clear h
  unfold rspV
  go_enter Tryd.func17, Tryd.ntmps17
  go_wp2_with (first | go_skip | ((with_reducible show wpList _ _ _ _ _ (World.alloc _ _)); refine wpList_up hm ?_; clear hm; intro n w hn hn2 hk hm hd hd2 ho; (try rw [← hn]); replace hn := Nat.le_of_eq hn.symm) | ((first | ((with_reducible show wpList _ _ _ (Oper.mk _ (Op.box _ _) _ _ _ _ :: _) _ _); (refine wpList_bx (by rfl) _ _ rfl _ (by simp only [Act.eval, Array.getD_eq_getD_getElem?, List.getElem?_toArray, List.getElem?_cons_succ, List.getElem?_cons_zero, Option.getD_some]; first | done | exact rfl) _ (by simp only [Value.cells]; first | done | exact rfl) hm ?_; clear hm; intro n w hn hz hm ho; (try simp only [List.cons_append, List.nil_append] at hm))) | ((with_reducible show wpList _ _ _ (Oper.mk _ (Op.load _ _) _ _ _ _ :: _) _ _); first | (refine wpList_ldS (by rfl) _ _ rfl _ _ rfl hm _ _ (by repeat (first | apply In.a | apply In.b)) (by decide +kernel) _ (by simp only [List.getElem?_toArray, List.getElem?_cons_succ, List.getElem?_cons_zero]; first | done | exact rfl) ?_) | (refine wpList_laS (by rfl) _ _ rfl _ _ rfl hm _ _ (by repeat (first | apply In.a | apply In.b)) (by kernel_rfl) _ (by rfl) (by kernel_rfl) (by simp) _ (by simp only [List.toList_toArray, List.drop_succ_cons, List.drop_zero, List.size_toArray, List.length_cons, List.length_nil, Nat.reduceAdd, List.take_succ_cons, List.take_zero]; first | done | exact rfl) ?_)) | ((with_reducible show wpList _ _ _ (Oper.mk _ (Op.store _ _ _) _ _ _ _ :: _) _ _); (refine wpList_stS (by rfl) _ _ _ rfl _ _ rfl _ (by simp only [Act.eval, Array.getD_eq_getD_getElem?, List.getElem?_toArray, List.getElem?_cons_succ, List.getElem?_cons_zero, Option.getD_some]; first | done | exact rfl) hm _ (by simp only [Value.cells]; first | done | exact rfl) _ _ _ _ (by repeat (first | apply Put.a | apply Put.b)) (by kernel_rfl) (by simp [Value.oneCell']) (by simp) (by simp only [List.set_cons_zero, List.set_cons_succ, spl, List.toList_toArray, List.size_toArray, List.length_cons, List.length_nil, Nat.reduceAdd, Nat.zero_add, List.take_succ_cons, List.take_zero, List.drop_succ_cons, List.drop_zero, List.drop_nil, List.cons_append, List.nil_append, List.append_nil]; first | done | exact rfl) ?_; clear hm; intro w hz hm ho)) | ((with_reducible show wpList _ _ _ (Oper.mk _ (Op.alloc _) _ _ _ _ :: _) _ _); (refine wpList_al (by rfl) _ rfl _ rfl _ (by simp only [Value.cells]; first | done | exact rfl) hm ?_; clear hm; intro n w hn hz hm ho; (try simp only [List.cons_append, List.nil_append] at hm)))); try simp only [Act.put, List.setIfInBounds_toArray, List.set_cons_zero, List.set_cons_succ]) | (go_at_call 23; refine (HN.out _ hm.low).mono ?_; rintro e w2 ⟨rfl, rfl⟩))
  refine bodyPost_ret (results_row_tmp rfl _ _ _ 42 _ (0, 0) _ rfl (by exact hm.at_ 1 rfl) Tryd.underlying42 rfl (by kernel_rfl)) rfl ⟨rfl, hm.low⟩
set_option maxRecDepth 100000 in
theorem no_open (w0 : World) (p : Value) (h : NoSide w0 p) (x : Value) (cs : Array Value) (hx : x.cells = cs) : Calls Tryd.prog 18 #[p, x] w0 fun e w' => e = .returned (.tuple #[rspV none 0 0 0, .int .i64 31]) ∧ Below w0.heap.size w0 w' := by
  have HN := Lib.hid h
  have hm := Mem.nil (fun _ => False) w0
  clear h
  unfold rspV
  go_enter Tryd.func18, Tryd.ntmps18
  go_wp2_with (first | go_skip | ((with_reducible show wpList _ _ _ _ _ (World.alloc _ _)); refine wpList_up hm ?_; clear hm; intro n w hn hn2 hk hm hd hd2 ho; (try rw [← hn]); replace hn := Nat.le_of_eq hn.symm) | ((first | ((with_reducible show wpList _ _ _ (Oper.mk _ (Op.box _ _) _ _ _ _ :: _) _ _); (refine wpList_bx (by rfl) _ _ rfl _ (by simp only [Act.eval, Array.getD_eq_getD_getElem?, List.getElem?_toArray, List.getElem?_cons_succ, List.getElem?_cons_zero, Option.getD_some]; first | done | exact rfl) _ (by simp only [Value.cells]; first | done | exact rfl) hm ?_; clear hm; intro n w hn hz hm ho; (try simp only [List.cons_append, List.nil_append] at hm))) | ((with_reducible show wpList _ _ _ (Oper.mk _ (Op.load _ _) _ _ _ _ :: _) _ _); first | (refine wpList_ldS (by rfl) _ _ rfl _ _ rfl hm _ _ (by repeat (first | apply In.a | apply In.b)) (by decide +kernel) _ (by simp only [List.getElem?_toArray, List.getElem?_cons_succ, List.getElem?_cons_zero]; first | done | exact rfl) ?_) | (refine wpList_laS (by rfl) _ _ rfl _ _ rfl hm _ _ (by repeat (first | apply In.a | apply In.b)) (by kernel_rfl) _ (by rfl) (by kernel_rfl) (by simp) _ (by simp only [List.toList_toArray, List.drop_succ_cons, List.drop_zero, List.size_toArray, List.length_cons, List.length_nil, Nat.reduceAdd, List.take_succ_cons, List.take_zero]; first | done | exact rfl) ?_)) | ((with_reducible show wpList _ _ _ (Oper.mk _ (Op.store _ _ _) _ _ _ _ :: _) _ _); (refine wpList_stS (by rfl) _ _ _ rfl _ _ rfl _ (by simp only [Act.eval, Array.getD_eq_getD_getElem?, List.getElem?_toArray, List.getElem?_cons_succ, List.getElem?_cons_zero, Option.getD_some]; first | done | exact rfl) hm _ (by simp only [Value.cells]; first | done | exact rfl) _ _ _ _ (by repeat (first | apply Put.a | apply Put.b)) (by kernel_rfl) (by simp [Value.oneCell']) (by simp) (by simp only [List.set_cons_zero, List.set_cons_succ, spl, List.toList_toArray, List.size_toArray, List.length_cons, List.length_nil, Nat.reduceAdd, Nat.zero_add, List.take_succ_cons, List.take_zero, List.drop_succ_cons, List.drop_zero, List.drop_nil, List.cons_append, List.nil_append, List.append_nil]; first | done | exact rfl) ?_; clear hm; intro w hz hm ho)) | ((with_reducible show wpList _ _ _ (Oper.mk _ (Op.alloc _) _ _ _ _ :: _) _ _); (refine wpList_al (by rfl) _ rfl _ rfl _ (by simp only [Value.cells]; first | done | exact rfl) hm ?_; clear hm; intro n w hn hz hm ho; (try simp only [List.cons_append, List.nil_append] at hm)))); try simp only [Act.put, List.setIfInBounds_toArray, List.set_cons_zero, List.set_cons_succ]) | (go_at_call 23; refine (HN.out _ hm.low).mono ?_; rintro e w2 ⟨rfl, rfl⟩))
  refine bodyPost_ret (results_row_tmp rfl _ _ _ 42 _ (0, 0) _ rfl (by exact hm.at_ 1 rfl) Tryd.underlying42 rfl (by kernel_rfl)) rfl ⟨rfl, hm.low⟩
set_option maxRecDepth 100000 in
theorem no_level (w0 : World) (p : Value) (h : NoSide w0 p) : Calls Tryd.prog 20 #[p] w0 fun e w' => e = .returned (.int .i64 0) ∧ w' = w0 := by
  have HN := Lib.hid (h w0 (Below.refl _ _))
  clear h
  go_enter Tryd.func20, Tryd.ntmps20
  go_wp2_with (first | (go_at_call 23; refine HN.out.mono ?_; rintro e w2 ⟨rfl, rfl⟩))
  go_ret
  exact ⟨rfl, rfl⟩
set_option maxRecDepth 100000 in
theorem no_count (w0 : World) (p : Value) (h : NoSide w0 p) : Calls Tryd.prog 15 #[p] w0 fun e w' => e = .returned (.int .i64 0) ∧ w' = w0 := by
  have HN := Lib.hid (h w0 (Below.refl _ _))
  clear h
  go_enter Tryd.func15, Tryd.ntmps15
  go_wp2_with (first | (go_at_call 23; refine HN.out.mono ?_; rintro e w2 ⟨rfl, rfl⟩))
  go_ret
  exact ⟨rfl, rfl⟩
set_option maxRecDepth 100000 in
theorem no_data (w0 : World) (p : Value) (h : NoSide w0 p) : Calls Tryd.prog 21 #[p] w0 fun e w' => e = .returned (.slice none 0 0) ∧ w' = w0 := by
  have HN := Lib.hid (h w0 (Below.refl _ _))
  clear h
  go_enter Tryd.func21, Tryd.ntmps21
  go_wp2_with (first | (go_at_call 23; refine HN.out.mono ?_; rintro e w2 ⟨rfl, rfl⟩))
  go_ret
  exact ⟨rfl, rfl⟩
end Go.Proofs.YtibaibdgpnkdnaaDoor
