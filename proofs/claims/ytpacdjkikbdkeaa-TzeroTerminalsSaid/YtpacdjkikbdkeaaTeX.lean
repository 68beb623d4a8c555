/-
  What the terminal's laws count on: where the reference's results lie; things that stay.
-/
import Derived.Test.YtpacdjkikbdkeaaZ0
import Derived.Test.YtpacdjkikbdkeaaTzRi
import Derived.Test.YtpacdjkikbdkeaaTeV
import Derived.Test.YtpacdjkikbdkeaaTeC
namespace Go.Proofs.Ytpacdjkikbdkeaa
set_option maxRecDepth 100000
set_option linter.unusedSimpArgs false
set_option linter.unusedVariables false
open Go.RowKit Go.Maps
set_option maxHeartbeats 8000000

theorem TermAt'.sup {w : World} {g : Nat} {F : Nat → Prop} {t : Te.T} (H : TermAt' w g F t) : Sup w F (fun u => TermAt' u g F t) := ⟨H, H.lt, fun R w' ho hd => H.away ho hd⟩
theorem RTAt.sup {w : World} {t : Te.T} {cs : Array Value} (H : RTAt w t cs) : Sup w (blks cs) (fun u => RTAt u t cs) :=
  ⟨H, fun q hq => H.far_low.sub q hq, fun R w' ho hd => H.far (Far.blks cs) ho (fun q _ hr hb => hd q hb hr)⟩
/-- The response's data and status word. -/
def Te.T.rd (t : Te.T) : List UInt8 := if t.done = true then t.data else []
def Te.T.rsw (t : Te.T) : Int := if t.done = true then t.sw else 0
def Te.T.er (t : Te.T) : Int := if t.bad = true then 28 else 0
theorem Te.rd_len (t : Te.T) : (if t.done = true then t.data.length else 0) = t.rd.length := by
  unfold Te.T.rd
  split <;> rfl
theorem term_ResponseF (w0 : World) (g : Nat) (F : Nat → Prop) (t : Te.T) (H : TermAt' w0 g F t) (hdl : t.data.length ≤ 100000000) :
    Calls Try.prog 26 #[.pointer (some ⟨g, 0, none⟩)] w0 fun e w' => ∃ A c, e = .returned (.tuple #[.agg #[.slice A t.rd.length c, .int .i64 t.rsw], .bool t.done]) ∧ Own w' w0.heap.size 5 1 A t.rd.length c (bcells t.rd) ∧ Below w0.heap.size w0 w' :=
  (term_Response w0 g F t H hdl).mono fun e w' ⟨A, c, h1, h2, h3⟩ => ⟨A, c, by rw [Te.rd_len] at h1; exact h1, by rw [Te.rd_len] at h2; exact h2, h3⟩
theorem term_FailedF (w0 : World) (g : Nat) (F : Nat → Prop) (t : Te.T) (H : TermAt' w0 g F t) :
    Calls Try.prog 29 #[.pointer (some ⟨g, 0, none⟩)] w0 fun e w' => e = .returned (.int .i64 t.er) ∧ w0 = w' := term_Failed w0 g F t H
theorem ref07_TFailedF (cs : Array Value) (t : Te.T) (w0 : World) (H : RTAt w0 t cs) :
    Calls Try.prog 30 #[.agg cs] w0 fun e w' => e = .returned (.int .i64 t.er) ∧ Below w0.heap.size w0 w' := ref07_TFailed cs t w0 H
/-- A terminal that is all zero, by value. -/
def tz0 : Array Value := #[.bool false, .bool false, .bool false, .int .i64 0, .int .i64 0, .int .i64 0, .int .i64 0, .slice none 0 0, .int .i64 0, .bool false, .int .u8 0, .int .u8 0, .bool false, .bool false, .int .i64 0, .int .u8 0, .slice none 0 0, .int .i64 0]
theorem rt_zero (w : World) : RTAt w Te.T.zero tz0 :=
  ⟨none, 0, none, 0, rfl, ⟨rfl, Nat.le_refl _, Row.nil _ _ _⟩, ⟨rfl, Nat.le_refl _, Row.nil _ _ _⟩⟩
theorem blks_zero (q : Nat) (h : blks tz0 q) : False :=
  Far.sub (F := fun _ => False) (cs := tz0) (show Far _ (tlit false false false 0 0 0 0 none 0 0 0 0 0 false false 0 0 none 0 0 0) from Far.ofT (fun h => absurd h (Nat.lt_irrefl 0)) (fun h => absurd h (Nat.lt_irrefl 0))) q h
/-- The terminal's response; its data lies where the side's own data lay. -/
def RRpResF (cs : Array Value) (w : World) (t : Te.T) (e : Ending) (w' : World) : Prop :=
  ∃ A c, e = .returned (.tuple #[.agg #[.slice A (if t.done = true then t.data.length else 0) c, .int .i64 (if t.done = true then t.sw else 0)], .bool t.done]) ∧ Byt w' w'.heap.size A (if t.done = true then t.data.length else 0) c (if t.done = true then t.data else []) ∧ (∀ F, Far F cs → Far F #[.slice A (if t.done = true then t.data.length else 0) c]) ∧ Below w.heap.size w w'
set_option maxRecDepth 100000 in
theorem ref07_TResponseF (cs : Array Value) (t : Te.T) (w0 : World) (H : RTAt w0 t cs) :
    Calls Try.prog 27 #[.agg cs] w0 (RRpResF cs w0 t) := by
  have hm : Mem (fun _ => False) w0 w0 [] [] := Mem.nil _ w0
  obtain ⟨da, dc', ka, kc, rfl, hd, hk⟩ := H
  have HK : Hid (∀ u : World, Below w0.heap.size w0 u → Byt u u.heap.size ka t.data.length kc t.data) := by show ∀ u, _; intro u h; exact (hk.below h).more h.size
  show Calls Try.prog 27 #[.agg #[.bool t.act, .bool t.done, .bool t.bad, .int .i64 t.cmd.cla, .int .i64 t.cmd.ins, .int .i64 t.cmd.p1, .int .i64 t.cmd.p2, .slice da t.cmd.d.length dc', .int .i64 t.cmd.le, .bool false, .int .u8 (t.ins.toNat : Int), .int .u8 (t.p3.toNat : Int), .bool t.more, .bool t.moved, .int .i64 (t.need : Int), .int .u8 (t.first.toNat : Int), .slice ka t.data.length kc, .int .i64 t.sw]] w0 _
  unfold RRpResF
  clear hd hk
  cases hd : t.done with
  | true =>
    rw [if_pos rfl, if_pos rfl, if_pos rfl]
    clear hd
    go_enter Try.func27, Try.ntmps27
    go_wp2_with (first | go_skip | ((with_reducible show wpList _ _ _ _ _ (World.alloc _ _)); refine wpList_up hm ?_; clear hm; intro n w hn hn2 hk hm hd hd2 ho; (try rw [← hn]); replace hn := Nat.le_of_eq hn.symm) | ((first | ((with_reducible show wpList _ _ _ (Oper.mk _ (Op.box _ _) _ _ _ _ :: _) _ _); (refine wpList_bx (by rfl) _ _ rfl _ (by simp only [Act.eval, Array.getD_eq_getD_getElem?, List.getElem?_toArray, List.getElem?_cons_succ, List.getElem?_cons_zero, Option.getD_some]; first | done | exact rfl) _ (by simp only [Value.cells]; first | done | exact rfl) hm ?_; clear hm; intro n w hn hz hm ho; (try simp only [List.cons_append, List.nil_append] at hm))) | ((with_reducible show wpList _ _ _ (Oper.mk _ (Op.load _ _) _ _ _ _ :: _) _ _); first | (refine wpList_ldS (by rfl) _ _ rfl _ _ rfl hm _ _ (by repeat (first | apply In.a | apply In.b)) (by decide +kernel) _ (by simp only [List.getElem?_toArray, List.getElem?_cons_succ, List.getElem?_cons_zero]; first | done | exact rfl) ?_) | (refine wpList_laS (by rfl) _ _ rfl _ _ rfl hm _ _ (by repeat (first | apply In.a | apply In.b)) (by kernel_rfl) _ (by rfl) (by kernel_rfl) (by simp) _ (by simp only [List.toList_toArray, List.drop_succ_cons, List.drop_zero, List.size_toArray, List.length_cons, List.length_nil, Nat.reduceAdd, List.take_succ_cons, List.take_zero]; first | done | exact rfl) ?_)) | ((with_reducible show wpList _ _ _ (Oper.mk _ (Op.store _ _ _) _ _ _ _ :: _) _ _); (refine wpList_stS (by rfl) _ _ _ rfl _ _ rfl _ (by simp only [Act.eval, Array.getD_eq_getD_getElem?, List.getElem?_toArray, List.getElem?_cons_succ, List.getElem?_cons_zero, Option.getD_some]; first | done | exact rfl) hm _ (by simp only [Value.cells]; first | done | exact rfl) _ _ _ _ (by repeat (first | apply Put.a | apply Put.b)) (by kernel_rfl) (by simp [Value.oneCell']) (by simp) (by simp only [List.set_cons_zero, List.set_cons_succ, spl, List.toList_toArray, List.size_toArray, List.length_cons, List.length_nil, Nat.reduceAdd, Nat.zero_add, List.take_succ_cons, List.take_zero, List.drop_succ_cons, List.drop_zero, List.drop_nil, List.cons_append, List.nil_append, List.append_nil]; first | done | exact rfl) ?_; clear hm; intro w hz hm ho)) | ((with_reducible show wpList _ _ _ (Oper.mk _ (Op.alloc _) _ _ _ _ :: _) _ _); (refine wpList_al (by rfl) _ rfl _ rfl _ (by simp only [Value.cells]; first | done | exact rfl) hm ?_; clear hm; intro n w hn hz hm ho; (try simp only [List.cons_append, List.nil_append] at hm)))); try simp only [Act.put, List.setIfInBounds_toArray, List.set_cons_zero, List.set_cons_succ]))
    refine bodyPost_ret (results_row_tmp rfl _ _ _ _ _ (0, 0) _ rfl (by exact hm.at_ 1 rfl) Try.underlying42 rfl (by kernel_rfl)) rfl ?_
    exact ⟨ka, kc, rfl, HK.out _ hm.low, fun F hF => Far.lone (hF.at_ 16 rfl), hm.low⟩
  | false =>
    rw [if_neg (by simp), if_neg (by simp), if_neg (by simp)]
    clear hd
    go_enter Try.func27, Try.ntmps27
    go_wp2_with (first | go_skip | ((with_reducible show wpList _ _ _ _ _ (World.alloc _ _)); refine wpList_up hm ?_; clear hm; intro n w hn hn2 hk hm hd hd2 ho; (try rw [← hn]); replace hn := Nat.le_of_eq hn.symm) | ((first | ((with_reducible show wpList _ _ _ (Oper.mk _ (Op.box _ _) _ _ _ _ :: _) _ _); (refine wpList_bx (by rfl) _ _ rfl _ (by simp only [Act.eval, Array.getD_eq_getD_getElem?, List.getElem?_toArray, List.getElem?_cons_succ, List.getElem?_cons_zero, Option.getD_some]; first | done | exact rfl) _ (by simp only [Value.cells]; first | done | exact rfl) hm ?_; clear hm; intro n w hn hz hm ho; (try simp only [List.cons_append, List.nil_append] at hm))) | ((with_reducible show wpList _ _ _ (Oper.mk _ (Op.load _ _) _ _ _ _ :: _) _ _); first | (refine wpList_ldS (by rfl) _ _ rfl _ _ rfl hm _ _ (by repeat (first | apply In.a | apply In.b)) (by decide +kernel) _ (by simp only [List.getElem?_toArray, List.getElem?_cons_succ, List.getElem?_cons_zero]; first | done | exact rfl) ?_) | (refine wpList_laS (by rfl) _ _ rfl _ _ rfl hm _ _ (by repeat (first | apply In.a | apply In.b)) (by kernel_rfl) _ (by rfl) (by kernel_rfl) (by simp) _ (by simp only [List.toList_toArray, List.drop_succ_cons, List.drop_zero, List.size_toArray, List.length_cons, List.length_nil, Nat.reduceAdd, List.take_succ_cons, List.take_zero]; first | done | exact rfl) ?_)) | ((with_reducible show wpList _ _ _ (Oper.mk _ (Op.store _ _ _) _ _ _ _ :: _) _ _); (refine wpList_stS (by rfl) _ _ _ rfl _ _ rfl _ (by simp only [Act.eval, Array.getD_eq_getD_getElem?, List.getElem?_toArray, List.getElem?_cons_succ, List.getElem?_cons_zero, Option.getD_some]; first | done | exact rfl) hm _ (by simp only [Value.cells]; first | done | exact rfl) _ _ _ _ (by repeat (first | apply Put.a | apply Put.b)) (by kernel_rfl) (by simp [Value.oneCell']) (by simp) (by simp only [List.set_cons_zero, List.set_cons_succ, spl, List.toList_toArray, List.size_toArray, List.length_cons, List.length_nil, Nat.reduceAdd, Nat.zero_add, List.take_succ_cons, List.take_zero, List.drop_succ_cons, List.drop_zero, List.drop_nil, List.cons_append, List.nil_append, List.append_nil]; first | done | exact rfl) ?_; clear hm; intro w hz hm ho)) | ((with_reducible show wpList _ _ _ (Oper.mk _ (Op.alloc _) _ _ _ _ :: _) _ _); (refine wpList_al (by rfl) _ rfl _ rfl _ (by simp only [Value.cells]; first | done | exact rfl) hm ?_; clear hm; intro n w hn hz hm ho; (try simp only [List.cons_append, List.nil_append] at hm)))); try simp only [Act.put, List.setIfInBounds_toArray, List.set_cons_zero, List.set_cons_succ]))
    refine bodyPost_ret (results_row_tmp rfl _ _ _ _ _ (0, 0) _ rfl (by exact hm.at_ 1 rfl) Try.underlying42 rfl (by kernel_rfl)) rfl ?_
    exact ⟨none, 0, rfl, ⟨rfl, Nat.le_refl _, Row.nil _ _ _⟩, fun F _ => Far.lone (fun h => absurd h (Nat.lt_irrefl 0)), hm.low⟩
theorem ref07_TResponseG (cs : Array Value) (t : Te.T) (w0 : World) (H : RTAt w0 t cs) :
    Calls Try.prog 27 #[.agg cs] w0 fun e w' => ∃ A c, e = .returned (.tuple #[.agg #[.slice A t.rd.length c, .int .i64 t.rsw], .bool t.done]) ∧ Byt w' w'.heap.size A t.rd.length c t.rd ∧ (∀ F, Far F cs → Far F #[.slice A t.rd.length c]) ∧ Below w0.heap.size w0 w' :=
  (ref07_TResponseF cs t w0 H).mono fun e w' ⟨A, c, h1, h2, h3, h4⟩ => ⟨A, c, by rw [Te.rd_len] at h1; exact h1, by rw [Te.rd_len] at h2; exact h2, by rw [Te.rd_len] at h3; exact h3, h4⟩
theorem Te.send_data (t : Te.T) (c : Tz.Cmd) (lg : Bool) : (Te.send t c lg).1.data.length ≤ t.data.length := by
  unfold Te.send
  split
  · exact Nat.zero_le _
  · exact Nat.le_refl _
theorem Te.send_len (t : Te.T) (c : Tz.Cmd) (lg : Bool) : (Te.send t c lg).2.length ≤ 5 := by
  unfold Te.send
  split <;> simp
theorem Te.rd_le (t : Te.T) : t.rd.length ≤ t.data.length := by
  unfold Te.T.rd
  split
  · exact Nat.le_refl _
  · exact Nat.zero_le _
end Go.Proofs.Ytpacdjkikbdkeaa
