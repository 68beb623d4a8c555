/-
  What the laws count on: where the reference's results lie; things that stay.
-/
import Derived.Test.YtpacdjkikbdkeaaZ0
import Derived.Test.YtpacdjkikbdkeaaTzQ
import Derived.Test.YtpacdjkikbdkeaaKn
namespace Go.Proofs.Ytpacdjkikbdkeaa
set_option maxRecDepth 100000
set_option linter.unusedSimpArgs false
set_option linter.unusedVariables false
open Go.RowKit Go.Maps
set_option maxHeartbeats 8000000

theorem CardAt'.sup {w : World} {g : Nat} {F : Nat → Prop} {l : List Int} {s : Tz.S} (H : CardAt' w g F l s) : Sup w F (fun u => CardAt' u g F l s) := ⟨H, H.lt, fun R w' ho hd => H.away ho hd⟩
theorem RCAt.sup {w : World} {l : List Int} {s : Tz.S} {cs : Array Value} (H : RCAt w l s cs) : Sup w (blks cs) (fun u => RCAt u l s cs) :=
  ⟨H, fun q hq => H.far_low.sub q hq, fun R w' ho hd => H.far (Far.blks cs) ho (fun q _ hr hb => hd q hb hr)⟩
/-- Bytes of a value. -/
theorem Byt.sup {w : World} {A : Option Addr} {n c : Nat} {bs : List UInt8} (h : Byt w w.heap.size A n c bs) : Sup w (blks #[.slice A n c]) (fun u => Byt u u.heap.size A n c bs) := by
  have hin : 0 < n → ∀ a, A = some a → blks #[.slice A n c] a.block := fun hn a e => ⟨A, n, c, a, by simp, hn, e, rfl⟩
  refine ⟨h, fun q hq => ?_, fun R w' ho hd => h.only ho fun a e hn => hd _ (hin hn a e)⟩
  obtain ⟨A', n', c', a, hm, hn, e, rfl⟩ := hq
  simp at hm
  obtain ⟨rfl, rfl, rfl⟩ := hm
  obtain ⟨b, o, e2, hb⟩ := h.at_ hn
  rw [e] at e2; injection e2 with e2; subst e2
  exact hb
/-- The card's reference, new: its memory is new. -/
theorem ref07_NewCardF (A : Option Addr) (n c : Nat) (xs : List Int) (w0 : World) (ha : Ints w0 w0.heap.size A n c xs) (hn : n ≤ 1000) :
    Calls Try.prog 16 #[.slice A n c] w0 fun e w' => ∃ cs, e = .returned (.agg cs) ∧ RCAt w' xs Tz.S.zero cs ∧ Far (fun q => w0.heap.size ≤ q) cs ∧ Below w0.heap.size w0 w' := by
  have hm : Mem (fun _ => False) w0 w0 [] [] := Mem.nil _ w0
  have hl := ha.1
  subst hl
  obtain ⟨ti, hti, hz0, hz1, hz2⟩ := info_parts tz_i64
  have HI := Lib.hid ha
  clear ha
  go_enter Try.func16, Try.ntmps16
  go_wp2_with (first | go_skip | ((with_reducible show wpList _ _ _ _ _ (World.alloc _ _)); refine wpList_up hm ?_; clear hm; intro n w hn hn2 hk hm hd hd2 ho; (try rw [← hn]); replace hn := Nat.le_of_eq hn.symm) | ((first | ((with_reducible show wpList _ _ _ (Oper.mk _ (Op.box _ _) _ _ _ _ :: _) _ _); (refine wpList_bx (by rfl) _ _ rfl _ (by simp only [Act.eval, Array.getD_eq_getD_getElem?, List.getElem?_toArray, List.getElem?_cons_succ, List.getElem?_cons_zero, Option.getD_some]; first | done | exact rfl) _ (by simp only [Value.cells]; first | done | exact rfl) hm ?_; clear hm; intro n w hn hz hm ho; (try simp only [List.cons_append, List.nil_append] at hm))) | ((with_reducible show wpList _ _ _ (Oper.mk _ (Op.load _ _) _ _ _ _ :: _) _ _); first | (refine wpList_ldS (by rfl) _ _ rfl _ _ rfl hm _ _ (by repeat (first | apply In.a | apply In.b)) (by decide +kernel) _ (by simp only [List.getElem?_toArray, List.getElem?_cons_succ, List.getElem?_cons_zero]; first | done | exact rfl) ?_) | (refine wpList_laS (by rfl) _ _ rfl _ _ rfl hm _ _ (by repeat (first | apply In.a | apply In.b)) (by kernel_rfl) _ (by rfl) (by kernel_rfl) (by simp) _ (by simp only [List.toList_toArray, List.drop_succ_cons, List.drop_zero, List.size_toArray, List.length_cons, List.length_nil, Nat.reduceAdd, List.take_succ_cons, List.take_zero]; first | done | exact rfl) ?_)) | ((with_reducible show wpList _ _ _ (Oper.mk _ (Op.store _ _ _) _ _ _ _ :: _) _ _); (refine wpList_stS (by rfl) _ _ _ rfl _ _ rfl _ (by simp only [Act.eval, Array.getD_eq_getD_getElem?, List.getElem?_toArray, List.getElem?_cons_succ, List.getElem?_cons_zero, Option.getD_some]; first | done | exact rfl) hm _ (by simp only [Value.cells]; first | done | exact rfl) _ _ _ _ (by repeat (first | apply Put.a | apply Put.b)) (by kernel_rfl) (by simp [Value.oneCell']) (by simp) (by simp only [List.set_cons_zero, List.set_cons_succ, spl, List.toList_toArray, List.size_toArray, List.length_cons, List.length_nil, Nat.reduceAdd, Nat.zero_add, List.take_succ_cons, List.take_zero, List.drop_succ_cons, List.drop_zero, List.drop_nil, List.cons_append, List.nil_append, List.append_nil]; first | done | exact rfl) ?_; clear hm; intro w hz hm ho)) | ((with_reducible show wpList _ _ _ (Oper.mk _ (Op.alloc _) _ _ _ _ :: _) _ _); (refine wpList_al (by rfl) _ rfl _ rfl _ (by simp only [Value.cells]; first | done | exact rfl) hm ?_; clear hm; intro n w hn hz hm ho; (try simp only [List.cons_append, List.nil_append] at hm)))); try simp only [Act.put, List.setIfInBounds_toArray, List.set_cons_zero, List.set_cons_succ]) | ((with_reducible show wpList _ _ _ (Oper.mk _ (Op.call { callee := Callee.builtin Builtin.append, args := #[Operand.tmp 3, Operand.tmp 4], argTypes := _ }) _ _ _ _ :: _) _ _); refine wpList_ap (by rfl) (.tmp 3) (.tmp 4) 22 rfl 3 ti _ 1 8 Try.underlying22 hti hz0 hz1 hz2 rfl (by omega) _ 0 0 [] rfl (hm.row hk hn2 hd hd2 1 0 [] rfl rfl (by unfold maxLen; omega)) 0 rfl _ _ xs.length _ (xs.map I64) rfl ((HI.out.below hm.low).more hm.only.size).2.2 (by simp) (fun u hu => by obtain ⟨z, _, rfl⟩ := List.mem_map.1 hu; rfl) (by unfold maxLen; omega) (by omega) ?_; clear hm; intro A3 c3 w hm ho _; try simp only [Act.put, List.setIfInBounds_toArray, List.set_cons_zero, List.set_cons_succ]))
  refine bodyPost_ret (results_cell_row rfl _ _ _ _ _ (0, 0) _ rfl (by exact hm.at_ 0 rfl) Try.underlying39 rfl (by kernel_rfl)) rfl ?_
  have hown := hm.sl_ 0 rfl
  have hr := hown.row
  have hle := hown.le
  have hfr := (hm.own_ 0 rfl).far
  refine ⟨_, rfl, ⟨A3, c3, none, 0, none, 0, none, 0, ?_, ⟨rfl, by simpa using hle, hr⟩, ⟨rfl, Nat.le_refl _, Row.nil _ _ _⟩, ⟨rfl, Nat.le_refl _, Row.nil _ _ _⟩, ⟨rfl, Nat.le_refl _, Row.nil _ _ _⟩⟩, ?_, hm.low⟩
  · simp [Tz.S.zero]
  · intro A n c hm2 hn2 a e
    simp at hm2
    rcases hm2 with ⟨rfl, rfl, rfl⟩ | ⟨rfl, rfl, rfl⟩
    · exact hfr (by show 0 < 0 + xs.length; omega) a e
    · exact absurd hn2 (Nat.lt_irrefl 0)
/-- A command by value comes out; its data lies where the side's own data lay. -/
def RCmResF (cs : Array Value) (w : World) (s : Tz.S) (e : Ending) (w' : World) : Prop :=
  ∃ A c, e = .returned (.tuple #[.agg #[.int .i64 s.cmdOf.cla, .int .i64 s.cmdOf.ins, .int .i64 s.cmdOf.p1, .int .i64 s.cmdOf.p2, .slice A s.cmdOf.d.length c, .int .i64 s.cmdOf.le, .bool false], .bool (s.ph == 2)]) ∧ Byt w' w'.heap.size A s.cmdOf.d.length c s.cmdOf.d ∧ (∀ F, Far F cs → Far F #[.slice A s.cmdOf.d.length c]) ∧ Below w.heap.size w w'
theorem Far.lone {F : Nat → Prop} {A : Option Addr} {n c : Nat} (h : 0 < n → ∀ a, A = some a → F a.block) : Far F #[.slice A n c] := fun A' n' c' hm hn a e => by
  simp at hm
  obtain ⟨rfl, rfl, rfl⟩ := hm
  exact h hn a e
set_option maxRecDepth 100000 in
theorem ref07_CommandF (cs : Array Value) (l : List Int) (s : Tz.S) (w0 : World) (H : RCAt w0 l s cs) :
    Calls Try.prog 18 #[.agg cs] w0 (RCmResF cs w0 s) := by
  have hm : Mem (fun _ => False) w0 w0 [] [] := Mem.nil _ w0
  obtain ⟨ia, ic, ga, gc, da, dc', ka, kc, rfl, hi, hg, hd0, hk0⟩ := H
  have HD := Lib.hid hd0
  obtain ⟨ph, gt, ⟨x0, x1, x2, x3, xb, x5⟩, kp, sw0⟩ := s
  show Calls Try.prog 18 #[.agg #[.slice ia l.length ic, .int .i64 (ph : Int), .slice ga gt.length gc, .int .i64 x0, .int .i64 x1, .int .i64 x2, .int .i64 x3, .slice da xb.length dc', .int .i64 x5, .bool false, .slice ka kp.length kc, .int .i64 sw0]] w0 _
  clear hi hg hd0 hk0
  by_cases h2 : ph = 2
  · subst h2
    go_enter Try.func18, Try.ntmps18
    go_wp2_with (first | go_skip | ((with_reducible show wpList _ _ _ _ _ (World.alloc _ _)); refine wpList_up hm ?_; clear hm; intro n w hn hn2 hk hm hd hd2 ho; (try rw [← hn]); replace hn := Nat.le_of_eq hn.symm) | ((first | ((with_reducible show wpList _ _ _ (Oper.mk _ (Op.box _ _) _ _ _ _ :: _) _ _); (refine wpList_bx (by rfl) _ _ rfl _ (by simp only [Act.eval, Array.getD_eq_getD_getElem?, List.getElem?_toArray, List.getElem?_cons_succ, List.getElem?_cons_zero, Option.getD_some]; first | done | exact rfl) _ (by simp only [Value.cells]; first | done | exact rfl) hm ?_; clear hm; intro n w hn hz hm ho; (try simp only [List.cons_append, List.nil_append] at hm))) | ((with_reducible show wpList _ _ _ (Oper.mk _ (Op.load _ _) _ _ _ _ :: _) _ _); first | (refine wpList_ldS (by rfl) _ _ rfl _ _ rfl hm _ _ (by repeat (first | apply In.a | apply In.b)) (by decide +kernel) _ (by simp only [List.getElem?_toArray, List.getElem?_cons_succ, List.getElem?_cons_zero]; first | done | exact rfl) ?_) | (refine wpList_laS (by rfl) _ _ rfl _ _ rfl hm _ _ (by repeat (first | apply In.a | apply In.b)) (by kernel_rfl) _ (by rfl) (by kernel_rfl) (by simp) _ (by simp only [List.toList_toArray, List.drop_succ_cons, List.drop_zero, List.size_toArray, List.length_cons, List.length_nil, Nat.reduceAdd, List.take_succ_cons, List.take_zero]; first | done | exact rfl) ?_)) | ((with_reducible show wpList _ _ _ (Oper.mk _ (Op.store _ _ _) _ _ _ _ :: _) _ _); (refine wpList_stS (by rfl) _ _ _ rfl _ _ rfl _ (by simp only [Act.eval, Array.getD_eq_getD_getElem?, List.getElem?_toArray, List.getElem?_cons_succ, List.getElem?_cons_zero, Option.getD_some]; first | done | exact rfl) hm _ (by simp only [Value.cells]; first | done | exact rfl) _ _ _ _ (by repeat (first | apply Put.a | apply Put.b)) (by kernel_rfl) (by simp [Value.oneCell']) (by simp) (by simp only [List.set_cons_zero, List.set_cons_succ, spl, List.toList_toArray, List.size_toArray, List.length_cons, List.length_nil, Nat.reduceAdd, Nat.zero_add, List.take_succ_cons, List.take_zero, List.drop_succ_cons, List.drop_zero, List.drop_nil, List.cons_append, List.nil_append, List.append_nil]; first | done | exact rfl) ?_; clear hm; intro w hz hm ho)) | ((with_reducible show wpList _ _ _ (Oper.mk _ (Op.alloc _) _ _ _ _ :: _) _ _); (refine wpList_al (by rfl) _ rfl _ rfl _ (by simp only [Value.cells]; first | done | exact rfl) hm ?_; clear hm; intro n w hn hz hm ho; (try simp only [List.cons_append, List.nil_append] at hm)))); try simp only [Act.put, List.setIfInBounds_toArray, List.set_cons_zero, List.set_cons_succ]))
    refine bodyPost_ret (results_row_tmp rfl _ _ _ _ _ (0, 0) _ rfl (by exact hm.at_ 1 rfl) Try.underlying30 rfl (by kernel_rfl)) rfl ?_
    exact ⟨da, dc', rfl, (HD.out.below hm.low).more hm.low.size, fun F hF => Far.lone (hF.at_ 7 rfl), hm.low⟩
  · have i1 : ((ph : Int) != 2) = true := by rw [bne_iff_ne]; omega
    have HE : Hid (Tz.S.cmdOf ⟨ph, gt, ⟨x0, x1, x2, x3, xb, x5⟩, kp, sw0⟩ = Tz.S.zero.cmd ∧ (ph == 2) = false) := ⟨if_neg h2, beq_eq_false_iff_ne.2 h2⟩
    clear h2
    go_enter Try.func18, Try.ntmps18
    go_wp2_with (first | go_skip | ((with_reducible show wpList _ _ _ _ _ (World.alloc _ _)); refine wpList_up hm ?_; clear hm; intro n w hn hn2 hk hm hd hd2 ho; (try rw [← hn]); replace hn := Nat.le_of_eq hn.symm) | ((first | ((with_reducible show wpList _ _ _ (Oper.mk _ (Op.box _ _) _ _ _ _ :: _) _ _); (refine wpList_bx (by rfl) _ _ rfl _ (by simp only [Act.eval, Array.getD_eq_getD_getElem?, List.getElem?_toArray, List.getElem?_cons_succ, List.getElem?_cons_zero, Option.getD_some]; first | done | exact rfl) _ (by simp only [Value.cells]; first | done | exact rfl) hm ?_; clear hm; intro n w hn hz hm ho; (try simp only [List.cons_append, List.nil_append] at hm))) | ((with_reducible show wpList _ _ _ (Oper.mk _ (Op.load _ _) _ _ _ _ :: _) _ _); first | (refine wpList_ldS (by rfl) _ _ rfl _ _ rfl hm _ _ (by repeat (first | apply In.a | apply In.b)) (by decide +kernel) _ (by simp only [List.getElem?_toArray, List.getElem?_cons_succ, List.getElem?_cons_zero]; first | done | exact rfl) ?_) | (refine wpList_laS (by rfl) _ _ rfl _ _ rfl hm _ _ (by repeat (first | apply In.a | apply In.b)) (by kernel_rfl) _ (by rfl) (by kernel_rfl) (by simp) _ (by simp only [List.toList_toArray, List.drop_succ_cons, List.drop_zero, List.size_toArray, List.length_cons, List.length_nil, Nat.reduceAdd, List.take_succ_cons, List.take_zero]; first | done | exact rfl) ?_)) | ((with_reducible show wpList _ _ _ (Oper.mk _ (Op.store _ _ _) _ _ _ _ :: _) _ _); (refine wpList_stS (by rfl) _ _ _ rfl _ _ rfl _ (by simp only [Act.eval, Array.getD_eq_getD_getElem?, List.getElem?_toArray, List.getElem?_cons_succ, List.getElem?_cons_zero, Option.getD_some]; first | done | exact rfl) hm _ (by simp only [Value.cells]; first | done | exact rfl) _ _ _ _ (by repeat (first | apply Put.a | apply Put.b)) (by kernel_rfl) (by simp [Value.oneCell']) (by simp) (by simp only [List.set_cons_zero, List.set_cons_succ, spl, List.toList_toArray, List.size_toArray, List.length_cons, List.length_nil, Nat.reduceAdd, Nat.zero_add, List.take_succ_cons, List.take_zero, List.drop_succ_cons, List.drop_zero, List.drop_nil, List.cons_append, List.nil_append, List.append_nil]; first | done | exact rfl) ?_; clear hm; intro w hz hm ho)) | ((with_reducible show wpList _ _ _ (Oper.mk _ (Op.alloc _) _ _ _ _ :: _) _ _); (refine wpList_al (by rfl) _ rfl _ rfl _ (by simp only [Value.cells]; first | done | exact rfl) hm ?_; clear hm; intro n w hn hz hm ho; (try simp only [List.cons_append, List.nil_append] at hm)))); try simp only [Act.put, List.setIfInBounds_toArray, List.set_cons_zero, List.set_cons_succ]))
    refine bodyPost_ret (results_row_tmp rfl _ _ _ _ _ (0, 0) _ rfl (by exact hm.at_ 1 rfl) Try.underlying30 rfl (by kernel_rfl)) rfl ?_
    unfold RCmResF
    rw [HE.out.1]
    exact ⟨none, 0, by rw [show ((⟨ph, gt, ⟨x0, x1, x2, x3, xb, x5⟩, kp, sw0⟩ : Tz.S).ph == 2) = false from HE.out.2]; rfl, ⟨rfl, Nat.le_refl _, Row.nil _ _ _⟩, fun F _ => Far.lone (fun h => absurd h (Nat.lt_irrefl 0)), hm.low⟩
end Go.Proofs.Ytpacdjkikbdkeaa
