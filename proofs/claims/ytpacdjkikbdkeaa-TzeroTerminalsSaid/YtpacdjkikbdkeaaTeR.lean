/-
  The terminal's reference: fail, acknowledged, status.
-/
import Derived.Test.YtpacdjkikbdkeaaZ0
import Derived.Test.YtpacdjkikbdkeaaTe
import Derived.Test.YtpacdjkikbdkeaaTzRi
import Derived.Test.YtpacdjkikbdkeaaTeB
namespace Go.Proofs.Ytpacdjkikbdkeaa
set_option maxRecDepth 100000
set_option linter.unusedSimpArgs false
set_option linter.unusedVariables false
open Go.RowKit
set_option maxHeartbeats 8000000

def tlit (a dn bd : Bool) (x0 x1 x2 x3 : Int) (da : Option Addr) (d1 d2 : Nat) (le : Int) (ins p3 : UInt8) (more moved : Bool) (need : Int) (first : UInt8) (ka : Option Addr) (k1 k2 : Nat) (sw : Int) : Array Value :=
  #[.bool a, .bool dn, .bool bd, .int .i64 x0, .int .i64 x1, .int .i64 x2, .int .i64 x3, .slice da d1 d2, .int .i64 le, .bool false, .int .u8 (ins.toNat : Int), .int .u8 (p3.toNat : Int), .bool more, .bool moved, .int .i64 need, .int .u8 (first.toNat : Int), .slice ka k1 k2, .int .i64 sw]
/-- A terminal of the reference, by value. -/
def RTAt (w : World) (t : Te.T) (cs : Array Value) : Prop :=
  ∃ da dc ka kc, cs = tlit t.act t.done t.bad t.cmd.cla t.cmd.ins t.cmd.p1 t.cmd.p2 da t.cmd.d.length dc t.cmd.le t.ins t.p3 t.more t.moved t.need t.first ka t.data.length kc t.sw ∧ Byt w w.heap.size da t.cmd.d.length dc t.cmd.d ∧ Byt w w.heap.size ka t.data.length kc t.data
theorem RTAt.below {w w' : World} {t : Te.T} {cs : Array Value} (h : RTAt w t cs) (hb : Below w.heap.size w w') : RTAt w' t cs := by
  obtain ⟨da, dc, ka, kc, e, h1, h2⟩ := h
  exact ⟨da, dc, ka, kc, e, (h1.below hb).more hb.size, (h2.below hb).more hb.size⟩
theorem Far.ofT {F : Nat → Prop} {a dn bd : Bool} {x0 x1 x2 x3 : Int} {da : Option Addr} {d1 d2 : Nat} {le : Int} {ins p3 : UInt8} {more moved : Bool} {need : Int} {first : UInt8} {ka : Option Addr} {k1 k2 : Nat} {sw : Int}
    (hd : 0 < d1 → ∀ a, da = some a → F a.block) (hk : 0 < k1 → ∀ a, ka = some a → F a.block) : Far F (tlit a dn bd x0 x1 x2 x3 da d1 d2 le ins p3 more moved need first ka k1 k2 sw) := by
  intro A n c hm hn a e
  unfold tlit at hm
  simp only [List.mem_cons, List.not_mem_nil, or_false] at hm
  rcases hm with hm | hm | hm | hm | hm | hm | hm | hm | hm | hm | hm | hm | hm | hm | hm | hm | hm | hm
  all_goals first | (cases hm; done) | (injection hm with q1 q2 q3; subst q1 q2; first | exact hd hn a e | exact hk hn a e)
theorem Far.ofT_d {F : Nat → Prop} {a dn bd : Bool} {x0 x1 x2 x3 : Int} {da : Option Addr} {d1 d2 : Nat} {le : Int} {ins p3 : UInt8} {more moved : Bool} {need : Int} {first : UInt8} {ka : Option Addr} {k1 k2 : Nat} {sw : Int}
    (h : Far F (tlit a dn bd x0 x1 x2 x3 da d1 d2 le ins p3 more moved need first ka k1 k2 sw)) : 0 < d1 → ∀ a, da = some a → F a.block := h.at_ 7 rfl
theorem Far.ofT_k {F : Nat → Prop} {a dn bd : Bool} {x0 x1 x2 x3 : Int} {da : Option Addr} {d1 d2 : Nat} {le : Int} {ins p3 : UInt8} {more moved : Bool} {need : Int} {first : UInt8} {ka : Option Addr} {k1 k2 : Nat} {sw : Int}
    (h : Far F (tlit a dn bd x0 x1 x2 x3 da d1 d2 le ins p3 more moved need first ka k1 k2 sw)) : 0 < k1 → ∀ a, ka = some a → F a.block := h.at_ 16 rfl
theorem RTAt.far {w u : World} {F R : Nat → Prop} {t : Te.T} {cs : Array Value} (h : RTAt w t cs) (hf : Far F cs) (ho : Only R w u) (hR : ∀ q, q < w.heap.size → R q → ¬ F q) : RTAt u t cs := by
  obtain ⟨da, dc, ka, kc, rfl, h1, h2⟩ := h
  exact ⟨da, dc, ka, kc, rfl, h1.far hf.ofT_d ho hR, h2.far hf.ofT_k ho hR⟩
theorem byt_in {w : World} {A : Option Addr} {n c : Nat} {bs : List UInt8} (h : Byt w w.heap.size A n c bs) : 0 < n → ∀ a, A = some a → a.block < w.heap.size := fun hn a e => by
  obtain ⟨b, o, e2, hb⟩ := h.at_ hn
  rw [e] at e2; injection e2 with e2; rw [e2]; exact hb
theorem RTAt.far_low {w : World} {t : Te.T} {cs : Array Value} (h : RTAt w t cs) : Far (fun q => q < w.heap.size) cs := by
  obtain ⟨da, dc, ka, kc, rfl, h1, h2⟩ := h
  exact Far.ofT (byt_in h1) (byt_in h2)
/-- A terminal and bytes come out of the terminal cs0. -/
def RTRes (cs0 : Array Value) (w : World) (t : Te.T) (bs : List UInt8) (e : Ending) (w' : World) : Prop :=
  ∃ cs A c, e = .returned (.tuple #[.agg cs, .slice A bs.length c]) ∧ RTAt w' t cs ∧ (∀ F, Far F cs0 → Far (fun q => F q ∨ w.heap.size ≤ q) cs) ∧ Own w' w.heap.size 5 1 A bs.length c (bcells bs) ∧ Below w.heap.size w w'
theorem rt_failed (w : World) : RTAt w Te.failed (tlit false false true 0 0 0 0 none 0 0 0 0 0 false false 0 0 none 0 0 0) :=
  ⟨none, 0, none, 0, rfl, ⟨rfl, Nat.le_refl _, Row.nil _ _ _⟩, ⟨rfl, Nat.le_refl _, Row.nil _ _ _⟩⟩
theorem far_failed (F : Nat → Prop) : Far F (tlit false false true 0 0 0 0 none 0 0 0 0 0 false false 0 0 none 0 0 0) := Far.ofT (fun h => absurd h (Nat.lt_irrefl 0)) (fun h => absurd h (Nat.lt_irrefl 0))
set_option maxRecDepth 100000 in
theorem ref07_fail (cs : Array Value) (w0 : World) :
    Calls Try.prog 70 #[.agg cs] w0 fun e w' => e = .returned (.tuple #[.agg (tlit false false true 0 0 0 0 none 0 0 0 0 0 false false 0 0 none 0 0 0), .slice none 0 0]) ∧ Below w0.heap.size w0 w' := by
  have hm : Mem (fun _ => False) w0 w0 [] [] := Mem.nil _ w0
  go_enter Try.func70, Try.ntmps70
  go_wp2_with (first | go_skip | ((with_reducible show wpList _ _ _ _ _ (World.alloc _ _)); refine wpList_up hm ?_; clear hm; intro n w hn hn2 hk hm hd hd2 ho; (try rw [← hn]); replace hn := Nat.le_of_eq hn.symm) | ((first | ((with_reducible show wpList _ _ _ (Oper.mk _ (Op.box _ _) _ _ _ _ :: _) _ _); (refine wpList_bx (by rfl) _ _ rfl _ (by simp only [Act.eval, Array.getD_eq_getD_getElem?, List.getElem?_toArray, List.getElem?_cons_succ, List.getElem?_cons_zero, Option.getD_some]; first | done | exact rfl) _ (by simp only [Value.cells]; first | done | exact rfl) hm ?_; clear hm; intro n w hn hz hm ho; (try simp only [List.cons_append, List.nil_append] at hm))) | ((with_reducible show wpList _ _ _ (Oper.mk _ (Op.load _ _) _ _ _ _ :: _) _ _); first | (refine wpList_ldS (by rfl) _ _ rfl _ _ rfl hm _ _ (by repeat (first | apply In.a | apply In.b)) (by decide +kernel) _ (by simp only [List.getElem?_toArray, List.getElem?_cons_succ, List.getElem?_cons_zero]; first | done | exact rfl) ?_) | (refine wpList_laS (by rfl) _ _ rfl _ _ rfl hm _ _ (by repeat (first | apply In.a | apply In.b)) (by kernel_rfl) _ (by rfl) (by kernel_rfl) (by simp) _ (by simp only [List.toList_toArray, List.drop_succ_cons, List.drop_zero, List.size_toArray, List.length_cons, List.length_nil, Nat.reduceAdd, List.take_succ_cons, List.take_zero]; first | done | exact rfl) ?_)) | ((with_reducible show wpList _ _ _ (Oper.mk _ (Op.store _ _ _) _ _ _ _ :: _) _ _); (refine wpList_stS (by rfl) _ _ _ rfl _ _ rfl _ (by simp only [Act.eval, Array.getD_eq_getD_getElem?, List.getElem?_toArray, List.getElem?_cons_succ, List.getElem?_cons_zero, Option.getD_some]; first | done | exact rfl) hm _ (by simp only [Value.cells]; first | done | exact rfl) _ _ _ _ (by repeat (first | apply Put.a | apply Put.b)) (by kernel_rfl) (by simp [Value.oneCell']) (by simp) (by simp only [List.set_cons_zero, List.set_cons_succ, spl, List.toList_toArray, List.size_toArray, List.length_cons, List.length_nil, Nat.reduceAdd, Nat.zero_add, List.take_succ_cons, List.take_zero, List.drop_succ_cons, List.drop_zero, List.drop_nil, List.cons_append, List.nil_append, List.append_nil]; first | done | exact rfl) ?_; clear hm; intro w hz hm ho)) | ((with_reducible show wpList _ _ _ (Oper.mk _ (Op.alloc _) _ _ _ _ :: _) _ _); (refine wpList_al (by rfl) _ rfl _ rfl _ (by simp only [Value.cells]; first | done | exact rfl) hm ?_; clear hm; intro n w hn hz hm ho; (try simp only [List.cons_append, List.nil_append] at hm)))); try simp only [Act.put, List.setIfInBounds_toArray, List.set_cons_zero, List.set_cons_succ]))
  refine bodyPost_ret (results_row_tmp rfl _ _ _ _ _ (0, 0) _ rfl (by exact hm.at_ 1 rfl) Try.underlying54 rfl (by kernel_rfl)) rfl ?_
  exact ⟨rfl, hm.low⟩
set_option maxRecDepth 100000 in
theorem ref07_acknowledged (cs : Array Value) (t : Te.T) (w0 : World) (H : RTAt w0 t cs) (hok : Te.Ok t) :
    Calls Try.prog 69 #[.agg cs] w0 (RTRes cs w0 (Te.ack t).1 (Te.ack t).2) := by
  have hm : Mem (fun _ => False) w0 w0 [] [] := Mem.nil _ w0
  obtain ⟨da, dc, ka, kc, rfl, hd, hk⟩ := H
  have HL0 := fun u => ref07_length t.p3 u
  have hcd := hok.cd
  obtain ⟨ta, td, tb, ⟨x0, x1, x2, x3, d, le⟩, ti, tp, tm, tv, tn, tf, tk, ts⟩ := t
  have HDA : Hid (∀ u : World, Below w0.heap.size w0 u → Byt u u.heap.size da d.length dc d) := by show ∀ u, _; intro u h; exact (hd.below h).more h.size
  have HRT : Hid (∀ (u : World) (v : Bool) (n : Nat), Below w0.heap.size w0 u → RTAt u ⟨ta, td, tb, ⟨x0, x1, x2, x3, d, le⟩, ti, tp, tm, v, n, tf, tk, ts⟩ (tlit ta td tb x0 x1 x2 x3 da d.length dc le ti tp tm v n tf ka tk.length kc ts)) := by
    show ∀ u v n, _; intro u v n h; exact ⟨da, dc, ka, kc, rfl, (hd.below h).more h.size, (hk.below h).more h.size⟩
  have FarT : ∀ {v : Bool} {n : Int} (F : Nat → Prop), Far F (tlit ta td tb x0 x1 x2 x3 da d.length dc le ti tp tm tv tn tf ka tk.length kc ts) → Far (fun q => F q ∨ w0.heap.size ≤ q) (tlit ta td tb x0 x1 x2 x3 da d.length dc le ti tp tm v n tf ka tk.length kc ts) :=
    fun F h => Far.ofT (fun hn a e => .inl (h.ofT_d hn a e)) (fun hn a e => .inl (h.ofT_k hn a e))
  clear hd hk
  show Calls Try.prog 69 #[.agg #[.bool ta, .bool td, .bool tb, .int .i64 x0, .int .i64 x1, .int .i64 x2, .int .i64 x3, .slice da d.length dc, .int .i64 le, .bool false, .int .u8 (ti.toNat : Int), .int .u8 (tp.toNat : Int), .bool tm, .bool tv, .int .i64 (tn : Int), .int .u8 (tf.toNat : Int), .slice ka tk.length kc, .int .i64 ts]] w0 _
  simp only at hcd
  cases tv with
  | true =>
    rw [show Te.ack ⟨ta, td, tb, ⟨x0, x1, x2, x3, d, le⟩, ti, tp, tm, true, tn, tf, tk, ts⟩ = (Te.failed, []) from if_pos rfl]
    clear HL0 hok
    go_enter Try.func69, Try.ntmps69
    go_wp2_with (first | go_skip | ((with_reducible show wpList _ _ _ _ _ (World.alloc _ _)); refine wpList_up hm ?_; clear hm; intro n w hn hn2 hk hm hd hd2 ho; (try rw [← hn]); replace hn := Nat.le_of_eq hn.symm) | ((first | ((with_reducible show wpList _ _ _ (Oper.mk _ (Op.box _ _) _ _ _ _ :: _) _ _); (refine wpList_bx (by rfl) _ _ rfl _ (by simp only [Act.eval, Array.getD_eq_getD_getElem?, List.getElem?_toArray, List.getElem?_cons_succ, List.getElem?_cons_zero, Option.getD_some]; first | done | exact rfl) _ (by simp only [Value.cells]; first | done | exact rfl) hm ?_; clear hm; intro n w hn hz hm ho; (try simp only [List.cons_append, List.nil_append] at hm))) | ((with_reducible show wpList _ _ _ (Oper.mk _ (Op.load _ _) _ _ _ _ :: _) _ _); first | (refine wpList_ldS (by rfl) _ _ rfl _ _ rfl hm _ _ (by repeat (first | apply In.a | apply In.b)) (by decide +kernel) _ (by simp only [List.getElem?_toArray, List.getElem?_cons_succ, List.getElem?_cons_zero]; first | done | exact rfl) ?_) | (refine wpList_laS (by rfl) _ _ rfl _ _ rfl hm _ _ (by repeat (first | apply In.a | apply In.b)) (by kernel_rfl) _ (by rfl) (by kernel_rfl) (by simp) _ (by simp only [List.toList_toArray, List.drop_succ_cons, List.drop_zero, List.size_toArray, List.length_cons, List.length_nil, Nat.reduceAdd, List.take_succ_cons, List.take_zero]; first | done | exact rfl) ?_)) | ((with_reducible show wpList _ _ _ (Oper.mk _ (Op.store _ _ _) _ _ _ _ :: _) _ _); (refine wpList_stS (by rfl) _ _ _ rfl _ _ rfl _ (by simp only [Act.eval, Array.getD_eq_getD_getElem?, List.getElem?_toArray, List.getElem?_cons_succ, List.getElem?_cons_zero, Option.getD_some]; first | done | exact rfl) hm _ (by simp only [Value.cells]; first | done | exact rfl) _ _ _ _ (by repeat (first | apply Put.a | apply Put.b)) (by kernel_rfl) (by simp [Value.oneCell']) (by simp) (by simp only [List.set_cons_zero, List.set_cons_succ, spl, List.toList_toArray, List.size_toArray, List.length_cons, List.length_nil, Nat.reduceAdd, Nat.zero_add, List.take_succ_cons, List.take_zero, List.drop_succ_cons, List.drop_zero, List.drop_nil, List.cons_append, List.nil_append, List.append_nil]; first | done | exact rfl) ?_; clear hm; intro w hz hm ho)) | ((with_reducible show wpList _ _ _ (Oper.mk _ (Op.alloc _) _ _ _ _ :: _) _ _); (refine wpList_al (by rfl) _ rfl _ rfl _ (by simp only [Value.cells]; first | done | exact rfl) hm ?_; clear hm; intro n w hn hz hm ho; (try simp only [List.cons_append, List.nil_append] at hm)))); try simp only [Act.put, List.setIfInBounds_toArray, List.set_cons_zero, List.set_cons_succ]) | (go_at_call 70; refine (ref07_fail _ _).mono ?_; rintro e w2 ⟨rfl, hbl⟩; replace hm := hm.below hbl; simp only [tlit]))
    refine bodyPost_ret (results_row_tmp rfl _ _ _ _ _ (0, 0) _ rfl (by exact hm.at_ 1 rfl) Try.underlying54 rfl (by kernel_rfl)) rfl ?_
    exact ⟨_, none, 0, rfl, rt_failed _, fun F _ => far_failed _, Own.none_ _ _ _ _ _, hm.low⟩
  | false =>
    by_cases e2 : tm = false ∧ d ≠ []
    · have e : Te.ack ⟨ta, td, tb, ⟨x0, x1, x2, x3, d, le⟩, ti, tp, tm, false, tn, tf, tk, ts⟩ = (⟨ta, td, tb, ⟨x0, x1, x2, x3, d, le⟩, ti, tp, tm, true, tn, tf, tk, ts⟩, d) := by unfold Te.ack; rw [if_neg (by simp), if_pos e2]
      rw [e]
      obtain ⟨rfl, e3⟩ := e2
      have i1 : 0 < d.length := List.length_pos_iff.2 e3
      clear e e3 HL0 hok
      obtain ⟨dn, hdn⟩ : ∃ dn, d.length = dn := ⟨_, rfl⟩
      have HDL := Lib.hid hdn
      have FarT2 := @FarT
      clear FarT
      rw [hdn] at hcd i1 ⊢
      rw [hdn] at HDA HRT FarT2
      have FarT := @FarT2
      clear FarT2 hdn
      go_enter Try.func69, Try.ntmps69
      go_wp2_with (first | go_skip | ((with_reducible show wpList _ _ _ _ _ (World.alloc _ _)); refine wpList_up hm ?_; clear hm; intro n w hn hn2 hk hm hd hd2 ho; (try rw [← hn]); replace hn := Nat.le_of_eq hn.symm) | ((first | ((with_reducible show wpList _ _ _ (Oper.mk _ (Op.box _ _) _ _ _ _ :: _) _ _); (refine wpList_bx (by rfl) _ _ rfl _ (by simp only [Act.eval, Array.getD_eq_getD_getElem?, List.getElem?_toArray, List.getElem?_cons_succ, List.getElem?_cons_zero, Option.getD_some]; first | done | exact rfl) _ (by simp only [Value.cells]; first | done | exact rfl) hm ?_; clear hm; intro n w hn hz hm ho; (try simp only [List.cons_append, List.nil_append] at hm))) | ((with_reducible show wpList _ _ _ (Oper.mk _ (Op.load _ _) _ _ _ _ :: _) _ _); first | (refine wpList_ldS (by rfl) _ _ rfl _ _ rfl hm _ _ (by repeat (first | apply In.a | apply In.b)) (by decide +kernel) _ (by simp only [List.getElem?_toArray, List.getElem?_cons_succ, List.getElem?_cons_zero]; first | done | exact rfl) ?_) | (refine wpList_laS (by rfl) _ _ rfl _ _ rfl hm _ _ (by repeat (first | apply In.a | apply In.b)) (by kernel_rfl) _ (by rfl) (by kernel_rfl) (by simp) _ (by simp only [List.toList_toArray, List.drop_succ_cons, List.drop_zero, List.size_toArray, List.length_cons, List.length_nil, Nat.reduceAdd, List.take_succ_cons, List.take_zero]; first | done | exact rfl) ?_)) | ((with_reducible show wpList _ _ _ (Oper.mk _ (Op.store _ _ _) _ _ _ _ :: _) _ _); (refine wpList_stS (by rfl) _ _ _ rfl _ _ rfl _ (by simp only [Act.eval, Array.getD_eq_getD_getElem?, List.getElem?_toArray, List.getElem?_cons_succ, List.getElem?_cons_zero, Option.getD_some]; first | done | exact rfl) hm _ (by simp only [Value.cells]; first | done | exact rfl) _ _ _ _ (by repeat (first | apply Put.a | apply Put.b)) (by kernel_rfl) (by simp [Value.oneCell']) (by simp) (by simp only [List.set_cons_zero, List.set_cons_succ, spl, List.toList_toArray, List.size_toArray, List.length_cons, List.length_nil, Nat.reduceAdd, Nat.zero_add, List.take_succ_cons, List.take_zero, List.drop_succ_cons, List.drop_zero, List.drop_nil, List.cons_append, List.nil_append, List.append_nil]; first | done | exact rfl) ?_; clear hm; intro w hz hm ho)) | ((with_reducible show wpList _ _ _ (Oper.mk _ (Op.alloc _) _ _ _ _ :: _) _ _); (refine wpList_al (by rfl) _ rfl _ rfl _ (by simp only [Value.cells]; first | done | exact rfl) hm ?_; clear hm; intro n w hn hz hm ho; (try simp only [List.cons_append, List.nil_append] at hm)))); try simp only [Act.put, List.setIfInBounds_toArray, List.set_cons_zero, List.set_cons_succ]))
      have hw9 := hm.drew.wo 1
      simp only [List.eraseIdx_cons_zero, List.eraseIdx_cons_succ] at hw9
      refine wp_region_noPanic ?_
      refine wp_region_held_drew (S := MemS _ _ _ _) (by kernel_rfl) (MemS.of hw9) (fun hHeld => ?_)
      refine wpAnyH_fresh (by repeat (first | apply Fresh.a | apply Fresh.b)) ?_
      clear hw9
      replace hm := hm.drew
      iterate 4 (first | (refine wpAnyH_take3 (b := 0) (by repeat (first | apply Seek.a | apply Seek.b | apply Seek.c)) (by simp only [List.getElem?_toArray, List.getElem?_cons_succ, List.getElem?_cons_zero]; first | done | exact rfl) ⟨?_, by kernel_rfl, by kernel_rfl, by kernel_rfl, fun _ _ _ h => h, Or.inr ⟨by rfl, rfl⟩, hHeld, ?_⟩) | (refine wpAnyH_take3 (b := 0) (by repeat (first | apply Seek.a | apply Seek.b | apply Seek.c)) (by simp only [List.getElem?_toArray, List.getElem?_cons_succ, List.getElem?_cons_zero]; first | done | exact rfl) ⟨?_, by kernel_rfl, by kernel_rfl, by kernel_rfl, fun _ _ _ h => h, Or.inl ⟨by rfl, ?_⟩, hHeld, ?_⟩; rotate_left 1; (first | (intro w9 h9; (with_reducible show (execOp _ (Oper.mk _ (Op.load _ _) _ _ _ _)).run _ _ = _); (first | (exact MemS.ldS h9 _ _ rfl _ _ rfl _ _ (by repeat (first | apply In.a | apply In.b)) (by decide +kernel) _ (by simp only [List.getElem?_toArray, List.getElem?_cons_succ, List.getElem?_cons_zero]; first | done | exact rfl)) | (exact MemS.laS h9 _ _ rfl _ _ rfl _ _ (by repeat (first | apply In.a | apply In.b)) (by kernel_rfl) _ (by rfl) (by kernel_rfl) (by simp) _ (by simp only [List.toList_toArray, List.drop_succ_cons, List.drop_zero, List.size_toArray, List.length_cons, List.length_nil, Nat.reduceAdd, List.take_succ_cons, List.take_zero]; first | done | exact rfl)))) | focus (intro w9 hSw; go_simp; (try (with_reducible rfl)); done))); try simp only [Act.put, List.setIfInBounds_toArray, List.set_cons_zero, List.set_cons_succ])
      refine wpAnyH_ready (rs := [4]) (by kernel_rfl) (by simp) ?_
      refine AllReadyH.cons2 (by simp only [List.getElem?_toArray, List.getElem?_cons_succ, List.getElem?_cons_zero]; first | done | exact rfl) (fun K hK => ?_)
      rw [if_pos (by rfl)]
      go_simp
      refine (ref07_join none 0 0 [] da dn dc d _ ⟨rfl, Nat.le_refl _, Row.nil _ _ _⟩ (HDA.out _ hm.low) (by omega)).mono ?_
      intro e w6 h6
      obtain ⟨A6, c6, rfl, hown, hb6⟩ := h6.len (n := dn) (by rw [List.nil_append]; exact HDL.out)
      clear h6
      have HO6 := Lib.hid (hown.mono hm.only.size)
      replace hm := hm.got hb6 hown
      clear hown
      go_simp
      refine hK.out _ _ (MemS.of ((hm.wo 1).less)) (fun hHeld => ?_)
      clear hK K
      try simp only [Act.put, List.setIfInBounds_toArray, List.set_cons_zero, List.set_cons_succ]
      refine wpAnyH_ready (rs := [5]) (by kernel_rfl) (by simp) ?_
      refine AllReadyH.cons2 (by simp only [List.getElem?_toArray, List.getElem?_cons_succ, List.getElem?_cons_zero]; first | done | exact rfl) (fun K hK => ?_)
      refine step_stS (by rfl) _ _ _ rfl _ _ rfl _ (by simp only [Act.eval, Array.getD_eq_getD_getElem?, List.getElem?_toArray, List.getElem?_cons_succ, List.getElem?_cons_zero, Option.getD_some]; first | done | exact rfl) hm _ (by simp only [Value.cells]; first | done | exact rfl) _ _ _ _ (by repeat (first | apply Put.a | apply Put.b)) (by kernel_rfl) (by simp [Value.oneCell']) (by simp) (by simp only [List.set_cons_zero, List.set_cons_succ, spl, List.toList_toArray, List.size_toArray, List.length_cons, List.length_nil, Nat.reduceAdd, Nat.zero_add, List.take_succ_cons, List.take_zero, List.drop_succ_cons, List.drop_zero, List.drop_nil, List.cons_append, List.nil_append, List.append_nil]; first | done | exact rfl) ?_
      clear hm; intro w hz hm ho
      refine hK.out _ _ (MemS.of ((hm.wo 1).less)) (fun hHeld => ?_)
      clear hK K
      try simp only [Act.put, List.setIfInBounds_toArray, List.set_cons_zero, List.set_cons_succ]
      iterate 1 (first | (refine wpAnyH_take3 (b := 6) (by repeat (first | apply Seek.a | apply Seek.b | apply Seek.c)) (by simp only [List.getElem?_toArray, List.getElem?_cons_succ, List.getElem?_cons_zero]; first | done | exact rfl) ⟨?_, by kernel_rfl, by kernel_rfl, by kernel_rfl, fun _ _ _ h => h, Or.inr ⟨by rfl, rfl⟩, hHeld, ?_⟩) | (refine wpAnyH_take3 (b := 6) (by repeat (first | apply Seek.a | apply Seek.b | apply Seek.c)) (by simp only [List.getElem?_toArray, List.getElem?_cons_succ, List.getElem?_cons_zero]; first | done | exact rfl) ⟨?_, by kernel_rfl, by kernel_rfl, by kernel_rfl, fun _ _ _ h => h, Or.inl ⟨by rfl, ?_⟩, hHeld, ?_⟩; rotate_left 1; (first | (intro w9 h9; (with_reducible show (execOp _ (Oper.mk _ (Op.load _ _) _ _ _ _)).run _ _ = _); (first | (exact MemS.ldS h9 _ _ rfl _ _ rfl _ _ (by repeat (first | apply In.a | apply In.b)) (by decide +kernel) _ (by simp only [List.getElem?_toArray, List.getElem?_cons_succ, List.getElem?_cons_zero]; first | done | exact rfl)))) | focus (intro w9 hSw; go_simp; (try (with_reducible rfl)); done))); try simp only [Act.put, List.setIfInBounds_toArray, List.set_cons_zero, List.set_cons_succ])
      refine wpAnyH_done (by kernel_rfl) ?_ _
      refine NoPanic.normal ?_
      go_wp2_with fail
      refine bodyPost_ret (results_row_tmp rfl _ _ _ _ _ (0, 0) _ rfl (by exact hm.at_ 1 rfl) Try.underlying54 rfl (by kernel_rfl)) rfl ?_
      have hn := HDL.out
      subst hn
      exact ⟨_, A6, c6, rfl, HRT.out _ true _ hm.low, fun F hF => FarT F hF, by have := HO6.out; rw [List.nil_append] at this; exact hm.own_ 0 rfl, hm.low⟩
    · have e : Te.ack ⟨ta, td, tb, ⟨x0, x1, x2, x3, d, le⟩, ti, tp, tm, false, tn, tf, tk, ts⟩ = (⟨ta, td, tb, ⟨x0, x1, x2, x3, d, le⟩, ti, tp, tm, true, (Tz.cnt tp.toNat).toNat, tf, tk, ts⟩, []) := by unfold Te.ack; rw [if_neg (by simp), if_neg e2]
      rw [e]
      have hcn := @Tz.cnt_le (tp.toNat : Int) (by omega) (by have := tp.toNat_lt; omega)
      obtain ⟨q, hq⟩ : ∃ q : Nat, Tz.cnt (tp.toNat : Int) = (q : Int) := ⟨(Tz.cnt (tp.toNat : Int)).toNat, by omega⟩
      have HL : Hid (∀ u : World, Calls Try.prog 62 #[.int .u8 (tp.toNat : Int)] u fun e w' => e = .returned (.int .i64 (q : Int)) ∧ u = w') := by show ∀ u, _; intro u; rw [← hq]; exact HL0 u
      rw [hq]
      simp only [Int.toNat_natCast]
      have hcase : tm = true ∨ (tm = false ∧ d.length = 0) := by
        cases tm with
        | true => exact .inl rfl
        | false => exact .inr ⟨rfl, by rw [List.length_eq_zero_iff]; exact Decidable.byContradiction fun h => e2 ⟨rfl, h⟩⟩
      clear e e2 HL0 hok hq hcn
      rcases hcase with rfl | ⟨rfl, i1⟩
      all_goals
        go_enter Try.func69, Try.ntmps69
        go_wp2_with (first | go_skip | ((with_reducible show wpList _ _ _ _ _ (World.alloc _ _)); refine wpList_up hm ?_; clear hm; intro n w hn hn2 hk hm hd hd2 ho; (try rw [← hn]); replace hn := Nat.le_of_eq hn.symm) | ((first | ((with_reducible show wpList _ _ _ (Oper.mk _ (Op.box _ _) _ _ _ _ :: _) _ _); (refine wpList_bx (by rfl) _ _ rfl _ (by simp only [Act.eval, Array.getD_eq_getD_getElem?, List.getElem?_toArray, List.getElem?_cons_succ, List.getElem?_cons_zero, Option.getD_some]; first | done | exact rfl) _ (by simp only [Value.cells]; first | done | exact rfl) hm ?_; clear hm; intro n w hn hz hm ho; (try simp only [List.cons_append, List.nil_append] at hm))) | ((with_reducible show wpList _ _ _ (Oper.mk _ (Op.load _ _) _ _ _ _ :: _) _ _); first | (refine wpList_ldS (by rfl) _ _ rfl _ _ rfl hm _ _ (by repeat (first | apply In.a | apply In.b)) (by decide +kernel) _ (by simp only [List.getElem?_toArray, List.getElem?_cons_succ, List.getElem?_cons_zero]; first | done | exact rfl) ?_) | (refine wpList_laS (by rfl) _ _ rfl _ _ rfl hm _ _ (by repeat (first | apply In.a | apply In.b)) (by kernel_rfl) _ (by rfl) (by kernel_rfl) (by simp) _ (by simp only [List.toList_toArray, List.drop_succ_cons, List.drop_zero, List.size_toArray, List.length_cons, List.length_nil, Nat.reduceAdd, List.take_succ_cons, List.take_zero]; first | done | exact rfl) ?_)) | ((with_reducible show wpList _ _ _ (Oper.mk _ (Op.store _ _ _) _ _ _ _ :: _) _ _); (refine wpList_stS (by rfl) _ _ _ rfl _ _ rfl _ (by simp only [Act.eval, Array.getD_eq_getD_getElem?, List.getElem?_toArray, List.getElem?_cons_succ, List.getElem?_cons_zero, Option.getD_some]; first | done | exact rfl) hm _ (by simp only [Value.cells]; first | done | exact rfl) _ _ _ _ (by repeat (first | apply Put.a | apply Put.b)) (by kernel_rfl) (by simp [Value.oneCell']) (by simp) (by simp only [List.set_cons_zero, List.set_cons_succ, spl, List.toList_toArray, List.size_toArray, List.length_cons, List.length_nil, Nat.reduceAdd, Nat.zero_add, List.take_succ_cons, List.take_zero, List.drop_succ_cons, List.drop_zero, List.drop_nil, List.cons_append, List.nil_append, List.append_nil]; first | done | exact rfl) ?_; clear hm; intro w hz hm ho)) | ((with_reducible show wpList _ _ _ (Oper.mk _ (Op.alloc _) _ _ _ _ :: _) _ _); (refine wpList_al (by rfl) _ rfl _ rfl _ (by simp only [Value.cells]; first | done | exact rfl) hm ?_; clear hm; intro n w hn hz hm ho; (try simp only [List.cons_append, List.nil_append] at hm)))); try simp only [Act.put, List.setIfInBounds_toArray, List.set_cons_zero, List.set_cons_succ]) | (go_at_call 62; refine (HL.out _).mono ?_; rintro e w' ⟨rfl, rfl⟩))
        refine bodyPost_ret (results_row_tmp rfl _ _ _ _ _ (0, 0) _ rfl (by exact hm.at_ 1 rfl) Try.underlying54 rfl (by kernel_rfl)) rfl ?_
        exact ⟨_, none, 0, rfl, HRT.out _ true _ hm.low, fun F hF => FarT F hF, Own.none_ _ _ _ _ _, hm.low⟩
set_option maxRecDepth 100000 in
theorem ref07_status (cs : Array Value) (t : Te.T) (f b : UInt8) (w0 : World) (H : RTAt w0 { t with first := 0 } cs) (hf : t.first = f) (hok : Te.Ok t) (hdl : t.data.length ≤ 100000000) :
    Calls Try.prog 68 #[.agg cs, .int .i64 (256 * (f.toNat : Int) + (b.toNat : Int))] w0 (RTRes cs w0 (Te.status t b).1 (Te.status t b).2) := by
  have hm : Mem (fun _ => False) w0 w0 [] [] := Mem.nil _ w0
  obtain ⟨da, dc, ka, kc, rfl, hd, hk⟩ := H
  have hlr := hok.le
  have hb := b.toNat_lt
  have hff := f.toNat_lt
  obtain ⟨ta, td, tb, ⟨x0, x1, x2, x3, d, le⟩, ti, tp, tm, tv, tn, tf, tk, ts⟩ := t
  simp only at hlr hf hdl
  subst hf
  obtain ⟨z0, z1, z2, z3, hz1, hz0, hzc⟩ := cls_parts x0
  have HD : Hid (∀ u : World, Calls Try.prog 35 #[.int .i64 x0] u fun e w' => e = .returned (.tuple #[.agg #[.int .i64 z0, .bool z1, .bool z2, .bool z3], .bool (Apd.cok x0)]) ∧ Below u.heap.size u w') := by
    show ∀ u, _; intro u; have := ref04_Class x0 u; rw [hzc] at this; exact this
  have HKA : Hid (∀ u : World, Below w0.heap.size w0 u → Byt u u.heap.size ka tk.length kc tk) := by show ∀ u, _; intro u h; exact (hk.below h).more h.size
  have HRT : Hid (∀ (u : World), Below w0.heap.size w0 u → RTAt u ⟨ta, td, tb, ⟨x0, x1, x2, x3, d, le⟩, 0xC0, b, true, false, tn, 0, tk, ts⟩ (tlit ta td tb x0 x1 x2 x3 da d.length dc le 0xC0 b true false tn 0 ka tk.length kc ts)) := by
    show ∀ u, _; intro u h; exact ⟨da, dc, ka, kc, rfl, (hd.below h).more h.size, (hk.below h).more h.size⟩
  have FarT : ∀ (F : Nat → Prop), Far F (tlit ta td tb x0 x1 x2 x3 da d.length dc le ti tp tm tv tn 0 ka tk.length kc ts) → Far (fun q => F q ∨ w0.heap.size ≤ q) (tlit ta td tb x0 x1 x2 x3 da d.length dc le 0xC0 b true false tn 0 ka tk.length kc ts) :=
    fun F h => Far.ofT (fun hn a e => .inl (h.ofT_d hn a e)) (fun hn a e => .inl (h.ofT_k hn a e))
  have hkc : tk.length ≤ kc := hk.2.1
  have HKK := Lib.hid hk
  clear hd hk
  show Calls Try.prog 68 #[.agg #[.bool ta, .bool td, .bool tb, .int .i64 x0, .int .i64 x1, .int .i64 x2, .int .i64 x3, .slice da d.length dc, .int .i64 le, .bool false, .int .u8 (ti.toNat : Int), .int .u8 (tp.toNat : Int), .bool tm, .bool tv, .int .i64 (tn : Int), .int .u8 0, .slice ka tk.length kc, .int .i64 ts], .int .i64 (256 * (tf.toNat : Int) + (b.toNat : Int))] w0 _
  obtain ⟨sw, hsw⟩ : ∃ sw : Int, 256 * (tf.toNat : Int) + (b.toNat : Int) = sw := ⟨_, rfl⟩
  have hq1 : sw / 256 = (tf.toNat : Int) := by omega
  have hq2 : sw.tdiv 256 = sw / 256 := Int.tdiv_eq_ediv_of_nonneg (by omega)
  have hq3 : sw.tmod 256 = sw % 256 := Int.tmod_eq_emod_of_nonneg (by omega)
  rw [hsw]
  by_cases e1 : tf = 0x61
  · have e : Te.status ⟨ta, td, tb, ⟨x0, x1, x2, x3, d, le⟩, ti, tp, tm, tv, tn, tf, tk, ts⟩ b = (⟨ta, td, tb, ⟨x0, x1, x2, x3, d, le⟩, 0xC0, b, true, false, tn, 0, tk, ts⟩, [Tz.byte (Te.chan x0), 0xC0, 0, 0, b]) := by unfold Te.status; rw [if_pos e1]
    rw [e]
    have hq4 : sw / 256 = 97 := by rw [hq1, e1]; rfl
    have hq5 : IntKind.u8.wrap (sw % 256) = sw % 256 := by rw [IntKind.wrap_u8]; omega
    obtain ⟨ch, hch, hcase⟩ : ∃ ch : Int, Te.chan x0 = ch ∧ ((Apd.cok x0 = true ∧ ch = z0) ∨ (Apd.cok x0 = false ∧ ch = 0)) := by
      refine ⟨_, rfl, ?_⟩
      unfold Te.chan
      cases hk : Apd.cok x0 with
      | false => exact .inr ⟨rfl, rfl⟩
      | true => exact .inl ⟨rfl, (hz0 hk).symm⟩
    have hchr : 0 ≤ ch ∧ ch ≤ 3 := by rw [← hch]; unfold Te.chan; split <;> omega
    have hq6 : IntKind.u8.wrap ch = ch := by rw [IntKind.wrap_u8]; omega
    have HBT : Hid ([Value.int .u8 ch, .int .u8 192, .int .u8 0, .int .u8 0, .int .u8 (sw % 256)] = bcells [Tz.byte (Te.chan x0), 0xC0, 0, 0, b]) := by
      show _ = _
      have h1 : B8 (Tz.byte ch) = .int .u8 ch := by rw [Tz.B8_byte, show ch % 256 = ch by omega]
      have h2 : B8 b = .int .u8 (sw % 256) := by show Value.int .u8 (b.toNat : Int) = _; rw [show sw % 256 = (b.toNat : Int) by omega]
      rw [hch]
      simp only [bcells, List.map_cons, List.map_nil, h1, h2]
      rfl
    have HB : Hid (sw % 256 = (b.toNat : Int)) := by show _ = _; omega
    clear e e1 hz0 hz1 hzc hok hq1 hsw hch
    generalize Apd.cok x0 = ck at *
    rcases hcase with ⟨rfl, rfl⟩ | ⟨rfl, rfl⟩
    · skip
      go_enter Try.func68, Try.ntmps68
      go_wp2_with (first | go_skip | ((with_reducible show wpList _ _ _ _ _ (World.alloc _ _)); refine wpList_up hm ?_; clear hm; intro n w hn hn2 hk hm hd hd2 ho; (try rw [← hn]); replace hn := Nat.le_of_eq hn.symm) | ((first | ((with_reducible show wpList _ _ _ (Oper.mk _ (Op.box _ _) _ _ _ _ :: _) _ _); (refine wpList_bx (by rfl) _ _ rfl _ (by simp only [Act.eval, Array.getD_eq_getD_getElem?, List.getElem?_toArray, List.getElem?_cons_succ, List.getElem?_cons_zero, Option.getD_some]; first | done | exact rfl) _ (by simp only [Value.cells]; first | done | exact rfl) hm ?_; clear hm; intro n w hn hz hm ho; (try simp only [List.cons_append, List.nil_append] at hm))) | ((with_reducible show wpList _ _ _ (Oper.mk _ (Op.load _ _) _ _ _ _ :: _) _ _); first | (refine wpList_ldS (by rfl) _ _ rfl _ _ rfl hm _ _ (by repeat (first | apply In.a | apply In.b)) (by decide +kernel) _ (by simp only [List.getElem?_toArray, List.getElem?_cons_succ, List.getElem?_cons_zero]; first | done | exact rfl) ?_) | (refine wpList_laS (by rfl) _ _ rfl _ _ rfl hm _ _ (by repeat (first | apply In.a | apply In.b)) (by kernel_rfl) _ (by rfl) (by kernel_rfl) (by simp) _ (by simp only [List.toList_toArray, List.drop_succ_cons, List.drop_zero, List.size_toArray, List.length_cons, List.length_nil, Nat.reduceAdd, List.take_succ_cons, List.take_zero]; first | done | exact rfl) ?_)) | ((with_reducible show wpList _ _ _ (Oper.mk _ (Op.store _ _ _) _ _ _ _ :: _) _ _); (refine wpList_stS (by rfl) _ _ _ rfl _ _ rfl _ (by simp only [Act.eval, Array.getD_eq_getD_getElem?, List.getElem?_toArray, List.getElem?_cons_succ, List.getElem?_cons_zero, Option.getD_some]; first | done | exact rfl) hm _ (by simp only [Value.cells]; first | done | exact rfl) _ _ _ _ (by repeat (first | apply Put.a | apply Put.b)) (by kernel_rfl) (by simp [Value.oneCell']) (by simp) (by simp only [List.set_cons_zero, List.set_cons_succ, spl, List.toList_toArray, List.size_toArray, List.length_cons, List.length_nil, Nat.reduceAdd, Nat.zero_add, List.take_succ_cons, List.take_zero, List.drop_succ_cons, List.drop_zero, List.drop_nil, List.cons_append, List.nil_append, List.append_nil]; first | done | exact rfl) ?_; clear hm; intro w hz hm ho)) | ((with_reducible show wpList _ _ _ (Oper.mk _ (Op.alloc _) _ _ _ _ :: _) _ _); (refine wpList_al (by rfl) _ rfl _ rfl _ (by simp only [Value.cells]; first | done | exact rfl) hm ?_; clear hm; intro n w hn hz hm ho; (try simp only [List.cons_append, List.nil_append] at hm)))); try simp only [Act.put, List.setIfInBounds_toArray, List.set_cons_zero, List.set_cons_succ]) | (go_at_call 35; refine (HD.out _).mono ?_; rintro e w2 ⟨rfl, hbl⟩; replace hm := hm.below hbl))
      have hw9 := hm.drew.wo 1
      simp only [List.eraseIdx_cons_zero, List.eraseIdx_cons_succ] at hw9
      refine wp_region_noPanic ?_
      refine wp_region_held_drew (S := MemS _ _ _ _) (by kernel_rfl) (MemS.of hw9) (fun hHeld => ?_)
      refine wpAnyH_fresh (by repeat (first | apply Fresh.a | apply Fresh.b)) ?_
      clear hw9
      replace hm := hm.drew
      iterate 5 (first | (refine wpAnyH_take3 (b := 0) (by repeat (first | apply Seek.a | apply Seek.b | apply Seek.c)) (by simp only [List.getElem?_toArray, List.getElem?_cons_succ, List.getElem?_cons_zero]; first | done | exact rfl) ⟨?_, by kernel_rfl, by kernel_rfl, by kernel_rfl, fun _ _ _ h => h, Or.inr ⟨by rfl, rfl⟩, hHeld, ?_⟩) | (refine wpAnyH_take3 (b := 0) (by repeat (first | apply Seek.a | apply Seek.b | apply Seek.c)) (by simp only [List.getElem?_toArray, List.getElem?_cons_succ, List.getElem?_cons_zero]; first | done | exact rfl) ⟨?_, by kernel_rfl, by kernel_rfl, by kernel_rfl, fun _ _ _ h => h, Or.inl ⟨by rfl, ?_⟩, hHeld, ?_⟩; rotate_left 1; (first | (intro w9 h9; (with_reducible show (execOp _ (Oper.mk _ (Op.load _ _) _ _ _ _)).run _ _ = _); (first | (exact MemS.ldS h9 _ _ rfl _ _ rfl _ _ (by repeat (first | apply In.a | apply In.b)) (by decide +kernel) _ (by simp only [List.getElem?_toArray, List.getElem?_cons_succ, List.getElem?_cons_zero]; first | done | exact rfl)) | (exact MemS.laS h9 _ _ rfl _ _ rfl _ _ (by repeat (first | apply In.a | apply In.b)) (by kernel_rfl) _ (by rfl) (by kernel_rfl) (by simp) _ (by simp only [List.toList_toArray, List.drop_succ_cons, List.drop_zero, List.size_toArray, List.length_cons, List.length_nil, Nat.reduceAdd, List.take_succ_cons, List.take_zero]; first | done | exact rfl)))) | focus (intro w9 hSw; go_simp; (try (with_reducible rfl)); done))); try simp only [Act.put, List.setIfInBounds_toArray, List.set_cons_zero, List.set_cons_succ])
      refine wpAnyH_ready (rs := [5, 6]) (by kernel_rfl) (by simp) ?_
      refine AllReadyH.cons3 (by simp only [List.getElem?_toArray, List.getElem?_cons_succ, List.getElem?_cons_zero]; first | done | exact rfl) (fun K hK => ?_) (AllReadyH.cons2 (by simp only [List.getElem?_toArray, List.getElem?_cons_succ, List.getElem?_cons_zero]; first | done | exact rfl) (fun K hK => ?_))
      · rw [if_pos (by rfl)]
        go_simp
        refine K_up hm ?_
        intro n5 w5 hn hn5s hn5 hm1 hn5d hn5d2 hb1
        first | rw [← hn] | rw [← (show n5 = w.heap.size from hn)] | rw [← (show n5 = w2.heap.size from hn)] | skip
        clear hn hm
        have hm := hm1.row hn5 hn5s hn5d hn5d2 1 5 [.int .u8 ch, .int .u8 192, .int .u8 0, .int .u8 0, .int .u8 (sw % 256)] rfl rfl (by unfold maxLen; omega)
        clear hm1
        refine hK.out _ _ (MemS.of ((hm.wo 1).less)) (fun hHeld => ?_)
        clear hK K
        try simp only [Act.put, List.setIfInBounds_toArray, List.set_cons_zero, List.set_cons_succ]
        refine wpAnyH_ready (rs := [6]) (by kernel_rfl) (by simp) ?_
        refine AllReadyH.cons2 (by simp only [List.getElem?_toArray, List.getElem?_cons_succ, List.getElem?_cons_zero]; first | done | exact rfl) (fun K hK => ?_)
        refine step_stS (by rfl) _ _ _ rfl _ _ rfl _ (by simp only [Act.eval, Array.getD_eq_getD_getElem?, List.getElem?_toArray, List.getElem?_cons_succ, List.getElem?_cons_zero, Option.getD_some]; first | done | exact rfl) hm _ (by simp only [Value.cells]; first | done | exact rfl) _ _ _ _ (by repeat (first | apply Put.a | apply Put.b)) (by kernel_rfl) (by simp [Value.oneCell']) (by simp) (by simp only [List.set_cons_zero, List.set_cons_succ, spl, List.toList_toArray, List.size_toArray, List.length_cons, List.length_nil, Nat.reduceAdd, Nat.zero_add, List.take_succ_cons, List.take_zero, List.drop_succ_cons, List.drop_zero, List.drop_nil, List.cons_append, List.nil_append, List.append_nil]; first | done | exact rfl) ?_
        clear hm; intro w hz hm ho
        refine hK.out _ _ (MemS.of ((hm.wo 1).less)) (fun hHeld => ?_)
        clear hK K
        try simp only [Act.put, List.setIfInBounds_toArray, List.set_cons_zero, List.set_cons_succ]
        iterate 1 (first | (refine wpAnyH_take3 (b := 7) (by repeat (first | apply Seek.a | apply Seek.b | apply Seek.c)) (by simp only [List.getElem?_toArray, List.getElem?_cons_succ, List.getElem?_cons_zero]; first | done | exact rfl) ⟨?_, by kernel_rfl, by kernel_rfl, by kernel_rfl, fun _ _ _ h => h, Or.inr ⟨by rfl, rfl⟩, hHeld, ?_⟩) | (refine wpAnyH_take3 (b := 7) (by repeat (first | apply Seek.a | apply Seek.b | apply Seek.c)) (by simp only [List.getElem?_toArray, List.getElem?_cons_succ, List.getElem?_cons_zero]; first | done | exact rfl) ⟨?_, by kernel_rfl, by kernel_rfl, by kernel_rfl, fun _ _ _ h => h, Or.inl ⟨by rfl, ?_⟩, hHeld, ?_⟩; rotate_left 1; (first | (intro w9 h9; (with_reducible show (execOp _ (Oper.mk _ (Op.load _ _) _ _ _ _)).run _ _ = _); (first | (exact MemS.ldS h9 _ _ rfl _ _ rfl _ _ (by repeat (first | apply In.a | apply In.b)) (by decide +kernel) _ (by simp only [List.getElem?_toArray, List.getElem?_cons_succ, List.getElem?_cons_zero]; first | done | exact rfl)))) | focus (intro w9 hSw; go_simp; (try (with_reducible rfl)); done))); try simp only [Act.put, List.setIfInBounds_toArray, List.set_cons_zero, List.set_cons_succ])
        refine wpAnyH_done (by kernel_rfl) ?_ _
        refine NoPanic.normal ?_
        go_wp2_with fail
        rw [HBT.out, HB.out] at hm
        refine bodyPost_ret (results_row_tmp rfl _ _ _ _ _ (0, 0) _ rfl (by exact hm.at_ 1 rfl) Try.underlying54 rfl (by kernel_rfl)) rfl ?_
        exact ⟨_, _, _, rfl, HRT.out _ hm.low, fun F hF => FarT F hF, hm.own_ 0 rfl, hm.low⟩
      · skip
        refine step_stS (by rfl) _ _ _ rfl _ _ rfl _ (by simp only [Act.eval, Array.getD_eq_getD_getElem?, List.getElem?_toArray, List.getElem?_cons_succ, List.getElem?_cons_zero, Option.getD_some]; first | done | exact rfl) hm _ (by simp only [Value.cells]; first | done | exact rfl) _ _ _ _ (by repeat (first | apply Put.a | apply Put.b)) (by kernel_rfl) (by simp [Value.oneCell']) (by simp) (by simp only [List.set_cons_zero, List.set_cons_succ, spl, List.toList_toArray, List.size_toArray, List.length_cons, List.length_nil, Nat.reduceAdd, Nat.zero_add, List.take_succ_cons, List.take_zero, List.drop_succ_cons, List.drop_zero, List.drop_nil, List.cons_append, List.nil_append, List.append_nil]; first | done | exact rfl) ?_
        clear hm; intro w hz hm ho
        refine hK.out _ _ (MemS.of (hm.wo 1)) (fun hHeld => ?_)
        clear hK K
        try simp only [Act.put, List.setIfInBounds_toArray, List.set_cons_zero, List.set_cons_succ]
        refine wpAnyH_ready (rs := [5]) (by kernel_rfl) (by simp) ?_
        refine AllReadyH.cons2 (by simp only [List.getElem?_toArray, List.getElem?_cons_succ, List.getElem?_cons_zero]; first | done | exact rfl) (fun K hK => ?_)
        rw [if_pos (by rfl)]
        go_simp
        refine K_up hm ?_
        intro n5 w5 hn hn5s hn5 hm1 hn5d hn5d2 hb1
        first | rw [← hn] | rw [← (show n5 = w.heap.size from hn)] | rw [← (show n5 = w2.heap.size from hn)] | skip
        clear hn hm
        have hm := hm1.row hn5 hn5s hn5d hn5d2 1 5 [.int .u8 ch, .int .u8 192, .int .u8 0, .int .u8 0, .int .u8 (sw % 256)] rfl rfl (by unfold maxLen; omega)
        clear hm1
        refine hK.out _ _ (MemS.of ((hm.wo 1).less)) (fun hHeld => ?_)
        clear hK K
        try simp only [Act.put, List.setIfInBounds_toArray, List.set_cons_zero, List.set_cons_succ]
        iterate 1 (first | (refine wpAnyH_take3 (b := 7) (by repeat (first | apply Seek.a | apply Seek.b | apply Seek.c)) (by simp only [List.getElem?_toArray, List.getElem?_cons_succ, List.getElem?_cons_zero]; first | done | exact rfl) ⟨?_, by kernel_rfl, by kernel_rfl, by kernel_rfl, fun _ _ _ h => h, Or.inr ⟨by rfl, rfl⟩, hHeld, ?_⟩) | (refine wpAnyH_take3 (b := 7) (by repeat (first | apply Seek.a | apply Seek.b | apply Seek.c)) (by simp only [List.getElem?_toArray, List.getElem?_cons_succ, List.getElem?_cons_zero]; first | done | exact rfl) ⟨?_, by kernel_rfl, by kernel_rfl, by kernel_rfl, fun _ _ _ h => h, Or.inl ⟨by rfl, ?_⟩, hHeld, ?_⟩; rotate_left 1; (first | (intro w9 h9; (with_reducible show (execOp _ (Oper.mk _ (Op.load _ _) _ _ _ _)).run _ _ = _); (first | (exact MemS.ldS h9 _ _ rfl _ _ rfl _ _ (by repeat (first | apply In.a | apply In.b)) (by decide +kernel) _ (by simp only [List.getElem?_toArray, List.getElem?_cons_succ, List.getElem?_cons_zero]; first | done | exact rfl)))) | focus (intro w9 hSw; go_simp; (try (with_reducible rfl)); done))); try simp only [Act.put, List.setIfInBounds_toArray, List.set_cons_zero, List.set_cons_succ])
        refine wpAnyH_done (by kernel_rfl) ?_ _
        refine NoPanic.normal ?_
        go_wp2_with fail
        rw [HBT.out, HB.out] at hm
        refine bodyPost_ret (results_row_tmp rfl _ _ _ _ _ (0, 0) _ rfl (by exact hm.at_ 1 rfl) Try.underlying54 rfl (by kernel_rfl)) rfl ?_
        exact ⟨_, _, _, rfl, HRT.out _ hm.low, fun F hF => FarT F hF, hm.own_ 0 rfl, hm.low⟩
    · skip
      go_enter Try.func68, Try.ntmps68
      go_wp2_with (first | go_skip | ((with_reducible show wpList _ _ _ _ _ (World.alloc _ _)); refine wpList_up hm ?_; clear hm; intro n w hn hn2 hk hm hd hd2 ho; (try rw [← hn]); replace hn := Nat.le_of_eq hn.symm) | ((first | ((with_reducible show wpList _ _ _ (Oper.mk _ (Op.box _ _) _ _ _ _ :: _) _ _); (refine wpList_bx (by rfl) _ _ rfl _ (by simp only [Act.eval, Array.getD_eq_getD_getElem?, List.getElem?_toArray, List.getElem?_cons_succ, List.getElem?_cons_zero, Option.getD_some]; first | done | exact rfl) _ (by simp only [Value.cells]; first | done | exact rfl) hm ?_; clear hm; intro n w hn hz hm ho; (try simp only [List.cons_append, List.nil_append] at hm))) | ((with_reducible show wpList _ _ _ (Oper.mk _ (Op.load _ _) _ _ _ _ :: _) _ _); first | (refine wpList_ldS (by rfl) _ _ rfl _ _ rfl hm _ _ (by repeat (first | apply In.a | apply In.b)) (by decide +kernel) _ (by simp only [List.getElem?_toArray, List.getElem?_cons_succ, List.getElem?_cons_zero]; first | done | exact rfl) ?_) | (refine wpList_laS (by rfl) _ _ rfl _ _ rfl hm _ _ (by repeat (first | apply In.a | apply In.b)) (by kernel_rfl) _ (by rfl) (by kernel_rfl) (by simp) _ (by simp only [List.toList_toArray, List.drop_succ_cons, List.drop_zero, List.size_toArray, List.length_cons, List.length_nil, Nat.reduceAdd, List.take_succ_cons, List.take_zero]; first | done | exact rfl) ?_)) | ((with_reducible show wpList _ _ _ (Oper.mk _ (Op.store _ _ _) _ _ _ _ :: _) _ _); (refine wpList_stS (by rfl) _ _ _ rfl _ _ rfl _ (by simp only [Act.eval, Array.getD_eq_getD_getElem?, List.getElem?_toArray, List.getElem?_cons_succ, List.getElem?_cons_zero, Option.getD_some]; first | done | exact rfl) hm _ (by simp only [Value.cells]; first | done | exact rfl) _ _ _ _ (by repeat (first | apply Put.a | apply Put.b)) (by kernel_rfl) (by simp [Value.oneCell']) (by simp) (by simp only [List.set_cons_zero, List.set_cons_succ, spl, List.toList_toArray, List.size_toArray, List.length_cons, List.length_nil, Nat.reduceAdd, Nat.zero_add, List.take_succ_cons, List.take_zero, List.drop_succ_cons, List.drop_zero, List.drop_nil, List.cons_append, List.nil_append, List.append_nil]; first | done | exact rfl) ?_; clear hm; intro w hz hm ho)) | ((with_reducible show wpList _ _ _ (Oper.mk _ (Op.alloc _) _ _ _ _ :: _) _ _); (refine wpList_al (by rfl) _ rfl _ rfl _ (by simp only [Value.cells]; first | done | exact rfl) hm ?_; clear hm; intro n w hn hz hm ho; (try simp only [List.cons_append, List.nil_append] at hm)))); try simp only [Act.put, List.setIfInBounds_toArray, List.set_cons_zero, List.set_cons_succ]) | (go_at_call 35; refine (HD.out _).mono ?_; rintro e w2 ⟨rfl, hbl⟩; replace hm := hm.below hbl))
      have hw9 := hm.drew.wo 1
      simp only [List.eraseIdx_cons_zero, List.eraseIdx_cons_succ] at hw9
      refine wp_region_noPanic ?_
      refine wp_region_held_drew (S := MemS _ _ _ _) (by kernel_rfl) (MemS.of hw9) (fun hHeld => ?_)
      refine wpAnyH_fresh (by repeat (first | apply Fresh.a | apply Fresh.b)) ?_
      clear hw9
      replace hm := hm.drew
      iterate 5 (first | (refine wpAnyH_take3 (b := 0) (by repeat (first | apply Seek.a | apply Seek.b | apply Seek.c)) (by simp only [List.getElem?_toArray, List.getElem?_cons_succ, List.getElem?_cons_zero]; first | done | exact rfl) ⟨?_, by kernel_rfl, by kernel_rfl, by kernel_rfl, fun _ _ _ h => h, Or.inr ⟨by rfl, rfl⟩, hHeld, ?_⟩) | (refine wpAnyH_take3 (b := 0) (by repeat (first | apply Seek.a | apply Seek.b | apply Seek.c)) (by simp only [List.getElem?_toArray, List.getElem?_cons_succ, List.getElem?_cons_zero]; first | done | exact rfl) ⟨?_, by kernel_rfl, by kernel_rfl, by kernel_rfl, fun _ _ _ h => h, Or.inl ⟨by rfl, ?_⟩, hHeld, ?_⟩; rotate_left 1; (first | (intro w9 h9; (with_reducible show (execOp _ (Oper.mk _ (Op.load _ _) _ _ _ _)).run _ _ = _); (first | (exact MemS.ldS h9 _ _ rfl _ _ rfl _ _ (by repeat (first | apply In.a | apply In.b)) (by decide +kernel) _ (by simp only [List.getElem?_toArray, List.getElem?_cons_succ, List.getElem?_cons_zero]; first | done | exact rfl)) | (exact MemS.laS h9 _ _ rfl _ _ rfl _ _ (by repeat (first | apply In.a | apply In.b)) (by kernel_rfl) _ (by rfl) (by kernel_rfl) (by simp) _ (by simp only [List.toList_toArray, List.drop_succ_cons, List.drop_zero, List.size_toArray, List.length_cons, List.length_nil, Nat.reduceAdd, List.take_succ_cons, List.take_zero]; first | done | exact rfl)))) | focus (intro w9 hSw; go_simp; (try (with_reducible rfl)); done))); try simp only [Act.put, List.setIfInBounds_toArray, List.set_cons_zero, List.set_cons_succ])
      refine wpAnyH_ready (rs := [5, 6]) (by kernel_rfl) (by simp) ?_
      refine AllReadyH.cons3 (by simp only [List.getElem?_toArray, List.getElem?_cons_succ, List.getElem?_cons_zero]; first | done | exact rfl) (fun K hK => ?_) (AllReadyH.cons2 (by simp only [List.getElem?_toArray, List.getElem?_cons_succ, List.getElem?_cons_zero]; first | done | exact rfl) (fun K hK => ?_))
      · rw [if_pos (by rfl)]
        go_simp
        refine K_up hm ?_
        intro n5 w5 hn hn5s hn5 hm1 hn5d hn5d2 hb1
        first | rw [← hn] | rw [← (show n5 = w.heap.size from hn)] | rw [← (show n5 = w2.heap.size from hn)] | skip
        clear hn hm
        have hm := hm1.row hn5 hn5s hn5d hn5d2 1 5 [.int .u8 0, .int .u8 192, .int .u8 0, .int .u8 0, .int .u8 (sw % 256)] rfl rfl (by unfold maxLen; omega)
        clear hm1
        refine hK.out _ _ (MemS.of ((hm.wo 1).less)) (fun hHeld => ?_)
        clear hK K
        try simp only [Act.put, List.setIfInBounds_toArray, List.set_cons_zero, List.set_cons_succ]
        refine wpAnyH_ready (rs := [6]) (by kernel_rfl) (by simp) ?_
        refine AllReadyH.cons2 (by simp only [List.getElem?_toArray, List.getElem?_cons_succ, List.getElem?_cons_zero]; first | done | exact rfl) (fun K hK => ?_)
        refine step_stS (by rfl) _ _ _ rfl _ _ rfl _ (by simp only [Act.eval, Array.getD_eq_getD_getElem?, List.getElem?_toArray, List.getElem?_cons_succ, List.getElem?_cons_zero, Option.getD_some]; first | done | exact rfl) hm _ (by simp only [Value.cells]; first | done | exact rfl) _ _ _ _ (by repeat (first | apply Put.a | apply Put.b)) (by kernel_rfl) (by simp [Value.oneCell']) (by simp) (by simp only [List.set_cons_zero, List.set_cons_succ, spl, List.toList_toArray, List.size_toArray, List.length_cons, List.length_nil, Nat.reduceAdd, Nat.zero_add, List.take_succ_cons, List.take_zero, List.drop_succ_cons, List.drop_zero, List.drop_nil, List.cons_append, List.nil_append, List.append_nil]; first | done | exact rfl) ?_
        clear hm; intro w hz hm ho
        refine hK.out _ _ (MemS.of ((hm.wo 1).less)) (fun hHeld => ?_)
        clear hK K
        try simp only [Act.put, List.setIfInBounds_toArray, List.set_cons_zero, List.set_cons_succ]
        iterate 1 (first | (refine wpAnyH_take3 (b := 7) (by repeat (first | apply Seek.a | apply Seek.b | apply Seek.c)) (by simp only [List.getElem?_toArray, List.getElem?_cons_succ, List.getElem?_cons_zero]; first | done | exact rfl) ⟨?_, by kernel_rfl, by kernel_rfl, by kernel_rfl, fun _ _ _ h => h, Or.inr ⟨by rfl, rfl⟩, hHeld, ?_⟩) | (refine wpAnyH_take3 (b := 7) (by repeat (first | apply Seek.a | apply Seek.b | apply Seek.c)) (by simp only [List.getElem?_toArray, List.getElem?_cons_succ, List.getElem?_cons_zero]; first | done | exact rfl) ⟨?_, by kernel_rfl, by kernel_rfl, by kernel_rfl, fun _ _ _ h => h, Or.inl ⟨by rfl, ?_⟩, hHeld, ?_⟩; rotate_left 1; (first | (intro w9 h9; (with_reducible show (execOp _ (Oper.mk _ (Op.load _ _) _ _ _ _)).run _ _ = _); (first | (exact MemS.ldS h9 _ _ rfl _ _ rfl _ _ (by repeat (first | apply In.a | apply In.b)) (by decide +kernel) _ (by simp only [List.getElem?_toArray, List.getElem?_cons_succ, List.getElem?_cons_zero]; first | done | exact rfl)))) | focus (intro w9 hSw; go_simp; (try (with_reducible rfl)); done))); try simp only [Act.put, List.setIfInBounds_toArray, List.set_cons_zero, List.set_cons_succ])
        refine wpAnyH_done (by kernel_rfl) ?_ _
        refine NoPanic.normal ?_
        go_wp2_with fail
        rw [HBT.out, HB.out] at hm
        refine bodyPost_ret (results_row_tmp rfl _ _ _ _ _ (0, 0) _ rfl (by exact hm.at_ 1 rfl) Try.underlying54 rfl (by kernel_rfl)) rfl ?_
        exact ⟨_, _, _, rfl, HRT.out _ hm.low, fun F hF => FarT F hF, hm.own_ 0 rfl, hm.low⟩
      · skip
        refine step_stS (by rfl) _ _ _ rfl _ _ rfl _ (by simp only [Act.eval, Array.getD_eq_getD_getElem?, List.getElem?_toArray, List.getElem?_cons_succ, List.getElem?_cons_zero, Option.getD_some]; first | done | exact rfl) hm _ (by simp only [Value.cells]; first | done | exact rfl) _ _ _ _ (by repeat (first | apply Put.a | apply Put.b)) (by kernel_rfl) (by simp [Value.oneCell']) (by simp) (by simp only [List.set_cons_zero, List.set_cons_succ, spl, List.toList_toArray, List.size_toArray, List.length_cons, List.length_nil, Nat.reduceAdd, Nat.zero_add, List.take_succ_cons, List.take_zero, List.drop_succ_cons, List.drop_zero, List.drop_nil, List.cons_append, List.nil_append, List.append_nil]; first | done | exact rfl) ?_
        clear hm; intro w hz hm ho
        refine hK.out _ _ (MemS.of (hm.wo 1)) (fun hHeld => ?_)
        clear hK K
        try simp only [Act.put, List.setIfInBounds_toArray, List.set_cons_zero, List.set_cons_succ]
        refine wpAnyH_ready (rs := [5]) (by kernel_rfl) (by simp) ?_
        refine AllReadyH.cons2 (by simp only [List.getElem?_toArray, List.getElem?_cons_succ, List.getElem?_cons_zero]; first | done | exact rfl) (fun K hK => ?_)
        rw [if_pos (by rfl)]
        go_simp
        refine K_up hm ?_
        intro n5 w5 hn hn5s hn5 hm1 hn5d hn5d2 hb1
        first | rw [← hn] | rw [← (show n5 = w.heap.size from hn)] | rw [← (show n5 = w2.heap.size from hn)] | skip
        clear hn hm
        have hm := hm1.row hn5 hn5s hn5d hn5d2 1 5 [.int .u8 0, .int .u8 192, .int .u8 0, .int .u8 0, .int .u8 (sw % 256)] rfl rfl (by unfold maxLen; omega)
        clear hm1
        refine hK.out _ _ (MemS.of ((hm.wo 1).less)) (fun hHeld => ?_)
        clear hK K
        try simp only [Act.put, List.setIfInBounds_toArray, List.set_cons_zero, List.set_cons_succ]
        iterate 1 (first | (refine wpAnyH_take3 (b := 7) (by repeat (first | apply Seek.a | apply Seek.b | apply Seek.c)) (by simp only [List.getElem?_toArray, List.getElem?_cons_succ, List.getElem?_cons_zero]; first | done | exact rfl) ⟨?_, by kernel_rfl, by kernel_rfl, by kernel_rfl, fun _ _ _ h => h, Or.inr ⟨by rfl, rfl⟩, hHeld, ?_⟩) | (refine wpAnyH_take3 (b := 7) (by repeat (first | apply Seek.a | apply Seek.b | apply Seek.c)) (by simp only [List.getElem?_toArray, List.getElem?_cons_succ, List.getElem?_cons_zero]; first | done | exact rfl) ⟨?_, by kernel_rfl, by kernel_rfl, by kernel_rfl, fun _ _ _ h => h, Or.inl ⟨by rfl, ?_⟩, hHeld, ?_⟩; rotate_left 1; (first | (intro w9 h9; (with_reducible show (execOp _ (Oper.mk _ (Op.load _ _) _ _ _ _)).run _ _ = _); (first | (exact MemS.ldS h9 _ _ rfl _ _ rfl _ _ (by repeat (first | apply In.a | apply In.b)) (by decide +kernel) _ (by simp only [List.getElem?_toArray, List.getElem?_cons_succ, List.getElem?_cons_zero]; first | done | exact rfl)))) | focus (intro w9 hSw; go_simp; (try (with_reducible rfl)); done))); try simp only [Act.put, List.setIfInBounds_toArray, List.set_cons_zero, List.set_cons_succ])
        refine wpAnyH_done (by kernel_rfl) ?_ _
        refine NoPanic.normal ?_
        go_wp2_with fail
        rw [HBT.out, HB.out] at hm
        refine bodyPost_ret (results_row_tmp rfl _ _ _ _ _ (0, 0) _ rfl (by exact hm.at_ 1 rfl) Try.underlying54 rfl (by kernel_rfl)) rfl ?_
        exact ⟨_, _, _, rfl, HRT.out _ hm.low, fun F hF => FarT F hF, hm.own_ 0 rfl, hm.low⟩
  · have hfn : tf.toNat ≠ 97 := fun h => e1 (UInt8.toNat_inj.1 h)
    have hq4 : (sw / 256 == 97) = false := beq_eq_false_iff_ne.2 (by omega)
    have hq7 : wrap64 (sw / 256) = sw / 256 := IntWalk.wrap64_in _ (by omega)
    obtain ⟨m, hm9⟩ : ∃ m : Nat, le = (m : Int) := ⟨le.toNat, by omega⟩
    subst hm9
    have hcut : Te.cut ⟨ta, td, tb, ⟨x0, x1, x2, x3, d, (m : Int)⟩, ti, tp, tm, tv, tn, tf, tk, ts⟩ = if (Apd.cok x0 && z1) = false ∧ m < tk.length then tk.take m else tk := by
      unfold Te.cut
      rw [hz1]
      simp only [Int.toNat_natCast, Int.ofNat_lt]
    have e : ∀ X, Te.cut ⟨ta, td, tb, ⟨x0, x1, x2, x3, d, (m : Int)⟩, ti, tp, tm, tv, tn, tf, tk, ts⟩ = X → Te.status ⟨ta, td, tb, ⟨x0, x1, x2, x3, d, (m : Int)⟩, ti, tp, tm, tv, tn, tf, tk, ts⟩ b = ({ Te.T.zero with done := true, data := X, sw := sw }, []) := by
      intro X hX; unfold Te.status; rw [if_neg e1, hX, ← hsw]
    have HRD : Hid (∀ (u : World) (X : List UInt8) (N : Nat), Below w0.heap.size w0 u → (N ≤ kc ∧ X = tk.take N ∧ X.length = N) → RTAt u { Te.T.zero with done := true, data := X, sw := sw } (tlit false true false 0 0 0 0 none 0 0 0 0 0 false false 0 0 ka N kc sw)) := by
      show ∀ u X N, _
      rintro u X N h ⟨hN, rfl, hl⟩
      have hk := (HKK.out.below h).more h.size
      exact ⟨none, 0, ka, kc, by show _ = tlit false true false 0 0 0 0 none 0 0 0 0 0 false false 0 0 ka (tk.take N).length kc sw; rw [hl], ⟨rfl, Nat.le_refl _, Row.nil _ _ _⟩, ⟨rfl, by rw [hl]; exact hN, hk.2.2.btake N⟩⟩
    have hcase : (((Apd.cok x0 = false ∨ (Apd.cok x0 = true ∧ z1 = false)) ∧ m < tk.length)) ∨ ((Apd.cok x0 = true ∧ z1 = true) ∧ m < tk.length) ∨ ¬ m < tk.length := by
      cases Apd.cok x0 <;> cases z1 <;> simp <;> omega
    rcases hcase with ⟨h9, h8⟩ | ⟨⟨h9, rfl⟩, h8⟩ | h8
    · have HE : Hid (Te.status ⟨ta, td, tb, ⟨x0, x1, x2, x3, d, (m : Int)⟩, ti, tp, tm, tv, tn, tf, tk, ts⟩ b = ({ Te.T.zero with done := true, data := tk.take m, sw := sw }, [])) := by
        refine e _ ?_
        rw [hcut, if_pos ⟨by rcases h9 with h | ⟨h, h2⟩ <;> simp [h]; simp [h2], h8⟩]
      have j9 : m ≤ kc := by omega
      clear e e1 hz0 hz1 hzc hok hq1 hsw hcut hfn HRT FarT
      generalize Apd.cok x0 = ck at *
      rcases h9 with rfl | ⟨rfl, rfl⟩
      all_goals
        go_enter Try.func68, Try.ntmps68
        go_wp2_with (first | go_skip | ((with_reducible show wpList _ _ _ _ _ (World.alloc _ _)); refine wpList_up hm ?_; clear hm; intro n w hn hn2 hk hm hd hd2 ho; (try rw [← hn]); replace hn := Nat.le_of_eq hn.symm) | ((first | ((with_reducible show wpList _ _ _ (Oper.mk _ (Op.box _ _) _ _ _ _ :: _) _ _); (refine wpList_bx (by rfl) _ _ rfl _ (by simp only [Act.eval, Array.getD_eq_getD_getElem?, List.getElem?_toArray, List.getElem?_cons_succ, List.getElem?_cons_zero, Option.getD_some]; first | done | exact rfl) _ (by simp only [Value.cells]; first | done | exact rfl) hm ?_; clear hm; intro n w hn hz hm ho; (try simp only [List.cons_append, List.nil_append] at hm))) | ((with_reducible show wpList _ _ _ (Oper.mk _ (Op.load _ _) _ _ _ _ :: _) _ _); first | (refine wpList_ldS (by rfl) _ _ rfl _ _ rfl hm _ _ (by repeat (first | apply In.a | apply In.b)) (by decide +kernel) _ (by simp only [List.getElem?_toArray, List.getElem?_cons_succ, List.getElem?_cons_zero]; first | done | exact rfl) ?_) | (refine wpList_laS (by rfl) _ _ rfl _ _ rfl hm _ _ (by repeat (first | apply In.a | apply In.b)) (by kernel_rfl) _ (by rfl) (by kernel_rfl) (by simp) _ (by simp only [List.toList_toArray, List.drop_succ_cons, List.drop_zero, List.size_toArray, List.length_cons, List.length_nil, Nat.reduceAdd, List.take_succ_cons, List.take_zero]; first | done | exact rfl) ?_)) | ((with_reducible show wpList _ _ _ (Oper.mk _ (Op.store _ _ _) _ _ _ _ :: _) _ _); (refine wpList_stS (by rfl) _ _ _ rfl _ _ rfl _ (by simp only [Act.eval, Array.getD_eq_getD_getElem?, List.getElem?_toArray, List.getElem?_cons_succ, List.getElem?_cons_zero, Option.getD_some]; first | done | exact rfl) hm _ (by simp only [Value.cells]; first | done | exact rfl) _ _ _ _ (by repeat (first | apply Put.a | apply Put.b)) (by kernel_rfl) (by simp [Value.oneCell']) (by simp) (by simp only [List.set_cons_zero, List.set_cons_succ, spl, List.toList_toArray, List.size_toArray, List.length_cons, List.length_nil, Nat.reduceAdd, Nat.zero_add, List.take_succ_cons, List.take_zero, List.drop_succ_cons, List.drop_zero, List.drop_nil, List.cons_append, List.nil_append, List.append_nil]; first | done | exact rfl) ?_; clear hm; intro w hz hm ho)) | ((with_reducible show wpList _ _ _ (Oper.mk _ (Op.alloc _) _ _ _ _ :: _) _ _); (refine wpList_al (by rfl) _ rfl _ rfl _ (by simp only [Value.cells]; first | done | exact rfl) hm ?_; clear hm; intro n w hn hz hm ho; (try simp only [List.cons_append, List.nil_append] at hm)))); try simp only [Act.put, List.setIfInBounds_toArray, List.set_cons_zero, List.set_cons_succ]) | (go_at_call 35; refine (HD.out _).mono ?_; rintro e w2 ⟨rfl, hbl⟩; replace hm := hm.below hbl))
        refine bodyPost_ret (results_row_tmp rfl _ _ _ _ _ (0, 0) _ rfl (by exact hm.at_ 1 rfl) Try.underlying54 rfl (by kernel_rfl)) rfl ?_
        rw [HE.out]
        exact ⟨tlit false true false 0 0 0 0 none 0 0 0 0 0 false false 0 0 ka m kc sw, none, 0, rfl, HRD.out _ _ m hm.low ⟨j9, rfl, by rw [List.length_take]; omega⟩, fun F hF => Far.ofT (fun hn => absurd hn (Nat.lt_irrefl 0)) (fun hn a e => Or.inl (Far.ofT_k hF (by omega) a e)), Own.none_ _ _ _ _ _, hm.low⟩
    · have HE : Hid (Te.status ⟨ta, td, tb, ⟨x0, x1, x2, x3, d, (m : Int)⟩, ti, tp, tm, tv, tn, tf, tk, ts⟩ b = ({ Te.T.zero with done := true, data := tk, sw := sw }, [])) := by
        refine e _ ?_
        rw [hcut, if_neg (by rw [h9]; simp)]
      clear e e1 hz0 hz1 hzc hok hq1 hsw hcut hfn HRT FarT
      generalize Apd.cok x0 = ck at *
      subst h9
      go_enter Try.func68, Try.ntmps68
      go_wp2_with (first | go_skip | ((with_reducible show wpList _ _ _ _ _ (World.alloc _ _)); refine wpList_up hm ?_; clear hm; intro n w hn hn2 hk hm hd hd2 ho; (try rw [← hn]); replace hn := Nat.le_of_eq hn.symm) | ((first | ((with_reducible show wpList _ _ _ (Oper.mk _ (Op.box _ _) _ _ _ _ :: _) _ _); (refine wpList_bx (by rfl) _ _ rfl _ (by simp only [Act.eval, Array.getD_eq_getD_getElem?, List.getElem?_toArray, List.getElem?_cons_succ, List.getElem?_cons_zero, Option.getD_some]; first | done | exact rfl) _ (by simp only [Value.cells]; first | done | exact rfl) hm ?_; clear hm; intro n w hn hz hm ho; (try simp only [List.cons_append, List.nil_append] at hm))) | ((with_reducible show wpList _ _ _ (Oper.mk _ (Op.load _ _) _ _ _ _ :: _) _ _); first | (refine wpList_ldS (by rfl) _ _ rfl _ _ rfl hm _ _ (by repeat (first | apply In.a | apply In.b)) (by decide +kernel) _ (by simp only [List.getElem?_toArray, List.getElem?_cons_succ, List.getElem?_cons_zero]; first | done | exact rfl) ?_) | (refine wpList_laS (by rfl) _ _ rfl _ _ rfl hm _ _ (by repeat (first | apply In.a | apply In.b)) (by kernel_rfl) _ (by rfl) (by kernel_rfl) (by simp) _ (by simp only [List.toList_toArray, List.drop_succ_cons, List.drop_zero, List.size_toArray, List.length_cons, List.length_nil, Nat.reduceAdd, List.take_succ_cons, List.take_zero]; first | done | exact rfl) ?_)) | ((with_reducible show wpList _ _ _ (Oper.mk _ (Op.store _ _ _) _ _ _ _ :: _) _ _); (refine wpList_stS (by rfl) _ _ _ rfl _ _ rfl _ (by simp only [Act.eval, Array.getD_eq_getD_getElem?, List.getElem?_toArray, List.getElem?_cons_succ, List.getElem?_cons_zero, Option.getD_some]; first | done | exact rfl) hm _ (by simp only [Value.cells]; first | done | exact rfl) _ _ _ _ (by repeat (first | apply Put.a | apply Put.b)) (by kernel_rfl) (by simp [Value.oneCell']) (by simp) (by simp only [List.set_cons_zero, List.set_cons_succ, spl, List.toList_toArray, List.size_toArray, List.length_cons, List.length_nil, Nat.reduceAdd, Nat.zero_add, List.take_succ_cons, List.take_zero, List.drop_succ_cons, List.drop_zero, List.drop_nil, List.cons_append, List.nil_append, List.append_nil]; first | done | exact rfl) ?_; clear hm; intro w hz hm ho)) | ((with_reducible show wpList _ _ _ (Oper.mk _ (Op.alloc _) _ _ _ _ :: _) _ _); (refine wpList_al (by rfl) _ rfl _ rfl _ (by simp only [Value.cells]; first | done | exact rfl) hm ?_; clear hm; intro n w hn hz hm ho; (try simp only [List.cons_append, List.nil_append] at hm)))); try simp only [Act.put, List.setIfInBounds_toArray, List.set_cons_zero, List.set_cons_succ]) | (go_at_call 35; refine (HD.out _).mono ?_; rintro e w2 ⟨rfl, hbl⟩; replace hm := hm.below hbl))
      refine bodyPost_ret (results_row_tmp rfl _ _ _ _ _ (0, 0) _ rfl (by exact hm.at_ 1 rfl) Try.underlying54 rfl (by kernel_rfl)) rfl ?_
      rw [HE.out]
      exact ⟨tlit false true false 0 0 0 0 none 0 0 0 0 0 false false 0 0 ka tk.length kc sw, none, 0, rfl, HRD.out _ _ tk.length hm.low ⟨hkc, (List.take_length).symm, rfl⟩, fun F hF => Far.ofT (fun hn => absurd hn (Nat.lt_irrefl 0)) (fun hn a e => Or.inl (Far.ofT_k hF (by omega) a e)), Own.none_ _ _ _ _ _, hm.low⟩
    · have HE : Hid (Te.status ⟨ta, td, tb, ⟨x0, x1, x2, x3, d, (m : Int)⟩, ti, tp, tm, tv, tn, tf, tk, ts⟩ b = ({ Te.T.zero with done := true, data := tk, sw := sw }, [])) := by
        refine e _ ?_
        rw [hcut, if_neg (by rintro ⟨_, h⟩; exact h8 h)]
      clear e e1 hz0 hz1 hzc hok hq1 hsw hcut hfn HRT FarT
      generalize Apd.cok x0 = ck at *
      go_enter Try.func68, Try.ntmps68
      go_wp2_with (first | go_skip | ((with_reducible show wpList _ _ _ _ _ (World.alloc _ _)); refine wpList_up hm ?_; clear hm; intro n w hn hn2 hk hm hd hd2 ho; (try rw [← hn]); replace hn := Nat.le_of_eq hn.symm) | ((first | ((with_reducible show wpList _ _ _ (Oper.mk _ (Op.box _ _) _ _ _ _ :: _) _ _); (refine wpList_bx (by rfl) _ _ rfl _ (by simp only [Act.eval, Array.getD_eq_getD_getElem?, List.getElem?_toArray, List.getElem?_cons_succ, List.getElem?_cons_zero, Option.getD_some]; first | done | exact rfl) _ (by simp only [Value.cells]; first | done | exact rfl) hm ?_; clear hm; intro n w hn hz hm ho; (try simp only [List.cons_append, List.nil_append] at hm))) | ((with_reducible show wpList _ _ _ (Oper.mk _ (Op.load _ _) _ _ _ _ :: _) _ _); first | (refine wpList_ldS (by rfl) _ _ rfl _ _ rfl hm _ _ (by repeat (first | apply In.a | apply In.b)) (by decide +kernel) _ (by simp only [List.getElem?_toArray, List.getElem?_cons_succ, List.getElem?_cons_zero]; first | done | exact rfl) ?_) | (refine wpList_laS (by rfl) _ _ rfl _ _ rfl hm _ _ (by repeat (first | apply In.a | apply In.b)) (by kernel_rfl) _ (by rfl) (by kernel_rfl) (by simp) _ (by simp only [List.toList_toArray, List.drop_succ_cons, List.drop_zero, List.size_toArray, List.length_cons, List.length_nil, Nat.reduceAdd, List.take_succ_cons, List.take_zero]; first | done | exact rfl) ?_)) | ((with_reducible show wpList _ _ _ (Oper.mk _ (Op.store _ _ _) _ _ _ _ :: _) _ _); (refine wpList_stS (by rfl) _ _ _ rfl _ _ rfl _ (by simp only [Act.eval, Array.getD_eq_getD_getElem?, List.getElem?_toArray, List.getElem?_cons_succ, List.getElem?_cons_zero, Option.getD_some]; first | done | exact rfl) hm _ (by simp only [Value.cells]; first | done | exact rfl) _ _ _ _ (by repeat (first | apply Put.a | apply Put.b)) (by kernel_rfl) (by simp [Value.oneCell']) (by simp) (by simp only [List.set_cons_zero, List.set_cons_succ, spl, List.toList_toArray, List.size_toArray, List.length_cons, List.length_nil, Nat.reduceAdd, Nat.zero_add, List.take_succ_cons, List.take_zero, List.drop_succ_cons, List.drop_zero, List.drop_nil, List.cons_append, List.nil_append, List.append_nil]; first | done | exact rfl) ?_; clear hm; intro w hz hm ho)) | ((with_reducible show wpList _ _ _ (Oper.mk _ (Op.alloc _) _ _ _ _ :: _) _ _); (refine wpList_al (by rfl) _ rfl _ rfl _ (by simp only [Value.cells]; first | done | exact rfl) hm ?_; clear hm; intro n w hn hz hm ho; (try simp only [List.cons_append, List.nil_append] at hm)))); try simp only [Act.put, List.setIfInBounds_toArray, List.set_cons_zero, List.set_cons_succ]) | (go_at_call 35; refine (HD.out _).mono ?_; rintro e w2 ⟨rfl, hbl⟩; replace hm := hm.below hbl))
      refine bodyPost_ret (results_row_tmp rfl _ _ _ _ _ (0, 0) _ rfl (by exact hm.at_ 1 rfl) Try.underlying54 rfl (by kernel_rfl)) rfl ?_
      rw [HE.out]
      exact ⟨tlit false true false 0 0 0 0 none 0 0 0 0 0 false false 0 0 ka tk.length kc sw, none, 0, rfl, HRD.out _ _ tk.length hm.low ⟨hkc, (List.take_length).symm, rfl⟩, fun F hF => Far.ofT (fun hn => absurd hn (Nat.lt_irrefl 0)) (fun hn a e => Or.inl (Far.ofT_k hF (by omega) a e)), Own.none_ _ _ _ _ _, hm.low⟩
end Go.Proofs.Ytpacdjkikbdkeaa
