/-
  The card's reference: Reply.
-/
import Derived.Test.YtpacdjkikbdkeaaZ0
import Derived.Test.YtpacdjkikbdkeaaTzO
import Derived.Test.YtpacdjkikbdkeaaTzJ
namespace Go.Proofs.Ytpacdjkikbdkeaa
set_option maxRecDepth 100000
set_option linter.unusedSimpArgs false
set_option linter.unusedVariables false
open Go.RowKit
set_option maxHeartbeats 8000000

set_option maxRecDepth 100000 in
theorem ref07_Reply (cs : Array Value) (l : List Int) (s : Tz.S) (w0 : World) (H : RCAt w0 l s cs) (hok : Tz.Ok s) (hll : l.length ≤ 1000) (B : Option Addr) (dn dc : Nat) (d : List UInt8) (sw : Int) (hb : Byt w0 w0.heap.size B dn dc d) (hdn : dn ≤ 1000000) :
    Calls Try.prog 22 #[.agg cs, .agg #[.slice B dn dc, .int .i64 sw]] w0 (RCRes cs w0 l (Tz.reply l s d sw).1 (Tz.reply l s d sw).2) := by
  have hm : Mem (fun _ => False) w0 w0 [] [] := Mem.nil _ w0
  have HH := Lib.hid H
  have hl := Lib.hid hb.1
  have HB : Hid (∀ u : World, Below w0.heap.size w0 u → Byt u u.heap.size B dn dc d) := by show ∀ u, _; intro u h; exact (hb.below h).more h.size
  obtain ⟨ia, ic, ga, gc, da, dc', ka, kc, rfl, hi, hg, hd0, hk0⟩ := H
  have hph := hok.ph
  obtain ⟨ph, gt, ⟨x0, x1, x2, x3, xb, x5⟩, kp, sw0⟩ := s
  show Calls Try.prog 22 #[.agg #[.slice ia l.length ic, .int .i64 (ph : Int), .slice ga gt.length gc, .int .i64 x0, .int .i64 x1, .int .i64 x2, .int .i64 x3, .slice da xb.length dc', .int .i64 x5, .bool false, .slice ka kp.length kc, .int .i64 sw0], .agg #[.slice B dn dc, .int .i64 sw]] w0 _
  have HK0 : Hid (∀ u : World, Below w0.heap.size w0 u → Byt u u.heap.size ka kp.length kc kp) := by show ∀ u, _; intro u h; exact (hk0.below h).more h.size
  have HRK : Hid (∀ (u : World) (X : Option Addr) (kn kc' : Nat) (kp' : List UInt8) (sw' : Int), kp'.length = kn → Below w0.heap.size w0 u → Byt u u.heap.size X kn kc' kp' → RCAt u l ⟨0, gt, Tz.S.zero.cmd, kp', sw'⟩ #[.slice ia l.length ic, .int .i64 0, .slice ga gt.length gc, .int .i64 0, .int .i64 0, .int .i64 0, .int .i64 0, .slice none 0 0, .int .i64 0, .bool false, .slice X kn kc', .int .i64 sw']) := by
    show ∀ u X kn kc' kp' sw', _
    intro u X kn kc' kp' sw' hkn h hX
    subst hkn
    exact ⟨ia, ic, ga, gc, none, 0, X, kc', rfl, (hi.below h).more h.size, (hg.below h).more h.size, ⟨rfl, Nat.le_refl _, Row.nil _ _ _⟩, hX⟩
  have HI : Hid (∀ (cs : Array Value) (u : World), RCAt u l ⟨0, gt, Tz.S.zero.cmd, kp, sw0⟩ cs → Calls Try.prog 49 #[.agg cs, .int .i64 x0, .int .i64 x1] u fun e w' => e = .returned (.bool (Tz.inc l x0 x1)) ∧ Below u.heap.size u w') := by
    show ∀ cs u, _; intro cs u h; exact ref07_incoming cs l _ x0 x1 u h hll
  have hin := hok.c1
  simp only at hin
  clear hi hg hd0 hk0 hb
  by_cases h2 : ph = 2
  · subst h2
    by_cases e1 : Apd.erE dn sw = 0
    · have e3 := Apd.erE_yes e1
      have hw : Apd.wrd sw = true := by
        cases h : Apd.wrd sw with
        | true => rfl
        | false => exact absurd (.inr h) e3
      have hswr : 0 ≤ sw ∧ sw ≤ 65535 := by
        have := of_decide_eq_true hw
        omega
      have i1 : (Apd.erE dn sw != 0) = false := by rw [bne_eq_false_iff_eq]; exact e1
      by_cases e2 : d = []
      · have e : Tz.reply l ⟨2, gt, ⟨x0, x1, x2, x3, xb, x5⟩, kp, sw0⟩ d sw = (⟨0, gt, Tz.S.zero.cmd, kp, sw0⟩, Tz.wd sw) := by
          unfold Tz.reply
          rw [if_neg (by simp), if_neg (by rw [hl.out]; exact e3), if_pos e2]
        rw [e]
        have i2 : ((dn : Int) == 0) = true := by rw [beq_iff_eq]; have := hl.out; rw [e2] at this; simp at this; omega
        clear e e1 e3 e2 hw HI
        go_enter Try.func22, Try.ntmps22
        go_wp2_with (first | go_skip | ((with_reducible show wpList _ _ _ _ _ (World.alloc _ _)); refine wpList_up hm ?_; clear hm; intro n w hn hn2 hk hm hd hd2 ho; (try rw [← hn]); replace hn := Nat.le_of_eq hn.symm) | ((first | ((with_reducible show wpList _ _ _ (Oper.mk _ (Op.box _ _) _ _ _ _ :: _) _ _); (refine wpList_bx (by rfl) _ _ rfl _ (by simp only [Act.eval, Array.getD_eq_getD_getElem?, List.getElem?_toArray, List.getElem?_cons_succ, List.getElem?_cons_zero, Option.getD_some]; first | done | exact rfl) _ (by simp only [Value.cells]; first | done | exact rfl) hm ?_; clear hm; intro n w hn hz hm ho; (try simp only [List.cons_append, List.nil_append] at hm))) | ((with_reducible show wpList _ _ _ (Oper.mk _ (Op.load _ _) _ _ _ _ :: _) _ _); first | (refine wpList_ldS (by rfl) _ _ rfl _ _ rfl hm _ _ (by repeat (first | apply In.a | apply In.b)) (by decide +kernel) _ (by simp only [List.getElem?_toArray, List.getElem?_cons_succ, List.getElem?_cons_zero]; first | done | exact rfl) ?_) | (refine wpList_laS (by rfl) _ _ rfl _ _ rfl hm _ _ (by repeat (first | apply In.a | apply In.b)) (by kernel_rfl) _ (by rfl) (by kernel_rfl) (by simp) _ (by simp only [List.toList_toArray, List.drop_succ_cons, List.drop_zero, List.size_toArray, List.length_cons, List.length_nil, Nat.reduceAdd, List.take_succ_cons, List.take_zero]; first | done | exact rfl) ?_)) | ((with_reducible show wpList _ _ _ (Oper.mk _ (Op.store _ _ _) _ _ _ _ :: _) _ _); (refine wpList_stS (by rfl) _ _ _ rfl _ _ rfl _ (by simp only [Act.eval, Array.getD_eq_getD_getElem?, List.getElem?_toArray, List.getElem?_cons_succ, List.getElem?_cons_zero, Option.getD_some]; first | done | exact rfl) hm _ (by simp only [Value.cells]; first | done | exact rfl) _ _ _ _ (by repeat (first | apply Put.a | apply Put.b)) (by kernel_rfl) (by simp [Value.oneCell']) (by simp) (by simp only [List.set_cons_zero, List.set_cons_succ, spl, List.toList_toArray, List.size_toArray, List.length_cons, List.length_nil, Nat.reduceAdd, Nat.zero_add, List.take_succ_cons, List.take_zero, List.drop_succ_cons, List.drop_zero, List.drop_nil, List.cons_append, List.nil_append, List.append_nil]; first | done | exact rfl) ?_; clear hm; intro w hz hm ho)) | ((with_reducible show wpList _ _ _ (Oper.mk _ (Op.alloc _) _ _ _ _ :: _) _ _); (refine wpList_al (by rfl) _ rfl _ rfl _ (by simp only [Value.cells]; first | done | exact rfl) hm ?_; clear hm; intro n w hn hz hm ho; (try simp only [List.cons_append, List.nil_append] at hm)))); try simp only [Act.put, List.setIfInBounds_toArray, List.set_cons_zero, List.set_cons_succ]) | (go_at_call 47; refine (ref04_EncodeResponse B dn dc d sw _ (by exact HB.out _ hm.low) hdn).mono ?_; rintro e w2 ⟨A2, c2, rfl, hown, hbl⟩; replace hm := hm.below hbl; clear hown))
        have hw9 := hm.drew.wo 2
        simp only [List.eraseIdx_cons_zero, List.eraseIdx_cons_succ] at hw9
        refine wp_region_noPanic ?_
        refine wp_region_held_drew (S := MemS _ _ _ _) (by kernel_rfl) (MemS.of hw9) (fun hHeld => ?_)
        refine wpAnyH_fresh (by repeat (first | apply Fresh.a | apply Fresh.b)) ?_
        clear hw9
        replace hm := hm.drew
        iterate 3 (first | (refine wpAnyH_take3 (b := 0) (by repeat (first | apply Seek.a | apply Seek.b | apply Seek.c)) (by simp only [List.getElem?_toArray, List.getElem?_cons_succ, List.getElem?_cons_zero]; first | done | exact rfl) ⟨?_, by kernel_rfl, by kernel_rfl, by kernel_rfl, fun _ _ _ h => h, Or.inr ⟨by rfl, rfl⟩, hHeld, ?_⟩) | (refine wpAnyH_take3 (b := 0) (by repeat (first | apply Seek.a | apply Seek.b | apply Seek.c)) (by simp only [List.getElem?_toArray, List.getElem?_cons_succ, List.getElem?_cons_zero]; first | done | exact rfl) ⟨?_, by kernel_rfl, by kernel_rfl, by kernel_rfl, fun _ _ _ h => h, Or.inl ⟨by rfl, ?_⟩, hHeld, ?_⟩; rotate_left 1; (first | (intro w9 h9; (with_reducible show (execOp _ (Oper.mk _ (Op.load _ _) _ _ _ _)).run _ _ = _); (first | (exact MemS.ldS h9 _ _ rfl _ _ rfl _ _ (by repeat (first | apply In.a | apply In.b)) (by decide +kernel) _ (by simp only [List.getElem?_toArray, List.getElem?_cons_succ, List.getElem?_cons_zero]; first | done | exact rfl)) | (exact MemS.laS h9 _ _ rfl _ _ rfl _ _ (by repeat (first | apply In.a | apply In.b)) (by kernel_rfl) _ (by rfl) (by kernel_rfl) (by simp) _ (by simp only [List.toList_toArray, List.drop_succ_cons, List.drop_zero, List.size_toArray, List.length_cons, List.length_nil, Nat.reduceAdd, List.take_succ_cons, List.take_zero]; first | done | exact rfl)))) | focus (intro w9 hSw; go_simp; (try (with_reducible rfl)); done))); try simp only [Act.put, List.setIfInBounds_toArray, List.set_cons_zero, List.set_cons_succ])
        refine wpAnyH_ready (rs := [3]) (by kernel_rfl) (by simp) ?_
        refine AllReadyH.cons2 (by simp only [List.getElem?_toArray, List.getElem?_cons_succ, List.getElem?_cons_zero]; first | done | exact rfl) (fun K hK => ?_)
        rw [if_pos (by rfl)]
        go_simp
        refine (ref07_word _ hswr _).mono ?_
        intro e w6 h6
        obtain ⟨A6, c6, rfl, hown, hb6⟩ := h6.len (n := 2) (rfl)
        clear h6
        replace hm := hm.got hb6 hown
        clear hown
        go_simp
        refine hK.out _ _ (MemS.of ((hm.wo 2).less)) (fun hHeld => ?_)
        clear hK K
        try simp only [Act.put, List.setIfInBounds_toArray, List.set_cons_zero, List.set_cons_succ]
        refine wpAnyH_ready (rs := [4]) (by kernel_rfl) (by simp) ?_
        refine AllReadyH.cons2 (by simp only [List.getElem?_toArray, List.getElem?_cons_succ, List.getElem?_cons_zero]; first | done | exact rfl) (fun K hK => ?_)
        refine step_stS (by rfl) _ _ _ rfl _ _ rfl _ (by simp only [Act.eval, Array.getD_eq_getD_getElem?, List.getElem?_toArray, List.getElem?_cons_succ, List.getElem?_cons_zero, Option.getD_some]; first | done | exact rfl) hm _ (by simp only [Value.cells]; first | done | exact rfl) _ _ _ _ (by repeat (first | apply Put.a | apply Put.b)) (by kernel_rfl) (by simp [Value.oneCell']) (by simp) (by simp only [List.set_cons_zero, List.set_cons_succ, spl, List.toList_toArray, List.size_toArray, List.length_cons, List.length_nil, Nat.reduceAdd, Nat.zero_add, List.take_succ_cons, List.take_zero, List.drop_succ_cons, List.drop_zero, List.drop_nil, List.cons_append, List.nil_append, List.append_nil]; first | done | exact rfl) ?_
        clear hm; intro w hz hm ho
        refine hK.out _ _ (MemS.of ((hm.wo 2).less)) (fun hHeld => ?_)
        clear hK K
        try simp only [Act.put, List.setIfInBounds_toArray, List.set_cons_zero, List.set_cons_succ]
        iterate 1 (first | (refine wpAnyH_take3 (b := 5) (by repeat (first | apply Seek.a | apply Seek.b | apply Seek.c)) (by simp only [List.getElem?_toArray, List.getElem?_cons_succ, List.getElem?_cons_zero]; first | done | exact rfl) ⟨?_, by kernel_rfl, by kernel_rfl, by kernel_rfl, fun _ _ _ h => h, Or.inr ⟨by rfl, rfl⟩, hHeld, ?_⟩) | (refine wpAnyH_take3 (b := 5) (by repeat (first | apply Seek.a | apply Seek.b | apply Seek.c)) (by simp only [List.getElem?_toArray, List.getElem?_cons_succ, List.getElem?_cons_zero]; first | done | exact rfl) ⟨?_, by kernel_rfl, by kernel_rfl, by kernel_rfl, fun _ _ _ h => h, Or.inl ⟨by rfl, ?_⟩, hHeld, ?_⟩; rotate_left 1; (first | (intro w9 h9; (with_reducible show (execOp _ (Oper.mk _ (Op.load _ _) _ _ _ _)).run _ _ = _); (first | (exact MemS.ldS h9 _ _ rfl _ _ rfl _ _ (by repeat (first | apply In.a | apply In.b)) (by decide +kernel) _ (by simp only [List.getElem?_toArray, List.getElem?_cons_succ, List.getElem?_cons_zero]; first | done | exact rfl)))) | focus (intro w9 hSw; go_simp; (try (with_reducible rfl)); done))); try simp only [Act.put, List.setIfInBounds_toArray, List.set_cons_zero, List.set_cons_succ])
        refine wpAnyH_done (by kernel_rfl) ?_ _
        refine NoPanic.normal ?_
        go_wp2_with fail
        refine bodyPost_ret (results_row_tmp rfl _ _ _ _ _ (0, 0) _ rfl (by exact hm.at_ 2 rfl) Try.underlying39 rfl (by kernel_rfl)) rfl ?_
        exact RCRes.mk hm 0 rfl rfl rfl (HRK.out _ _ _ _ _ _ rfl hm.low (HK0.out _ hm.low)) (fun _ hF => Far.card hF (fun _ h => .inl h) rfl (fun hn _ _ => .inr ⟨hn, rfl⟩) (fun hn => absurd hn (Nat.lt_irrefl 0)) (fun hn _ _ => .inr ⟨hn, rfl⟩) (by simp) (by simp) (by simp) (by simp) (by simp) (by simp) (by simp))
      · have i2 : ((dn : Int) == 0) = false := by rw [beq_eq_false_iff_ne]; have := hl.out; have := List.length_pos_iff.2 e2; omega
        have HDL : Hid (d.length ≤ 65536) := by
          show _ ≤ _
          rcases Nat.lt_or_ge 65536 dn with h | h
          · exact absurd (.inl h) e3
          · have := hl.out; omega
        by_cases e4 : Tz.inc l x0 x1 = false ∧ (d.length : Int) = x5
        · obtain ⟨e5, e6⟩ := e4
          have e : Tz.reply l ⟨2, gt, ⟨x0, x1, x2, x3, xb, x5⟩, kp, sw0⟩ d sw = (⟨0, gt, Tz.S.zero.cmd, kp, sw0⟩, Tz.byte x1 :: d ++ Tz.wd sw) := by
            unfold Tz.reply
            rw [if_neg (by simp), if_neg (by rw [hl.out]; exact e3), if_neg e2, if_pos ⟨e5, e6⟩]
          rw [e]
          rw [e5] at HI
          have i3 : ((dn : Int) == x5) = true := by rw [beq_iff_eq, ← hl.out]; exact e6
          have hwr : IntKind.u8.wrap x1 = x1 := by rw [IntKind.wrap_u8]; omega
          have HX1 : Hid ([Value.int .u8 x1] = bcells [Tz.byte x1]) := by show _ = _; simp only [bcells, List.map_cons, List.map_nil, Tz.B8_byte]; rw [show x1 % 256 = x1 by omega]
          clear e e1 e3 e2 e5 e6 hw
          go_enter Try.func22, Try.ntmps22
          go_wp2_with (first | go_skip | ((with_reducible show wpList _ _ _ _ _ (World.alloc _ _)); refine wpList_up hm ?_; clear hm; intro n w hn hn2 hk hm hd hd2 ho; (try rw [← hn]); replace hn := Nat.le_of_eq hn.symm) | ((first | ((with_reducible show wpList _ _ _ (Oper.mk _ (Op.box _ _) _ _ _ _ :: _) _ _); (refine wpList_bx (by rfl) _ _ rfl _ (by simp only [Act.eval, Array.getD_eq_getD_getElem?, List.getElem?_toArray, List.getElem?_cons_succ, List.getElem?_cons_zero, Option.getD_some]; first | done | exact rfl) _ (by simp only [Value.cells]; first | done | exact rfl) hm ?_; clear hm; intro n w hn hz hm ho; (try simp only [List.cons_append, List.nil_append] at hm))) | ((with_reducible show wpList _ _ _ (Oper.mk _ (Op.load _ _) _ _ _ _ :: _) _ _); first | (refine wpList_ldS (by rfl) _ _ rfl _ _ rfl hm _ _ (by repeat (first | apply In.a | apply In.b)) (by decide +kernel) _ (by simp only [List.getElem?_toArray, List.getElem?_cons_succ, List.getElem?_cons_zero]; first | done | exact rfl) ?_) | (refine wpList_laS (by rfl) _ _ rfl _ _ rfl hm _ _ (by repeat (first | apply In.a | apply In.b)) (by kernel_rfl) _ (by rfl) (by kernel_rfl) (by simp) _ (by simp only [List.toList_toArray, List.drop_succ_cons, List.drop_zero, List.size_toArray, List.length_cons, List.length_nil, Nat.reduceAdd, List.take_succ_cons, List.take_zero]; first | done | exact rfl) ?_)) | ((with_reducible show wpList _ _ _ (Oper.mk _ (Op.store _ _ _) _ _ _ _ :: _) _ _); (refine wpList_stS (by rfl) _ _ _ rfl _ _ rfl _ (by simp only [Act.eval, Array.getD_eq_getD_getElem?, List.getElem?_toArray, List.getElem?_cons_succ, List.getElem?_cons_zero, Option.getD_some]; first | done | exact rfl) hm _ (by simp only [Value.cells]; first | done | exact rfl) _ _ _ _ (by repeat (first | apply Put.a | apply Put.b)) (by kernel_rfl) (by simp [Value.oneCell']) (by simp) (by simp only [List.set_cons_zero, List.set_cons_succ, spl, List.toList_toArray, List.size_toArray, List.length_cons, List.length_nil, Nat.reduceAdd, Nat.zero_add, List.take_succ_cons, List.take_zero, List.drop_succ_cons, List.drop_zero, List.drop_nil, List.cons_append, List.nil_append, List.append_nil]; first | done | exact rfl) ?_; clear hm; intro w hz hm ho)) | ((with_reducible show wpList _ _ _ (Oper.mk _ (Op.alloc _) _ _ _ _ :: _) _ _); (refine wpList_al (by rfl) _ rfl _ rfl _ (by simp only [Value.cells]; first | done | exact rfl) hm ?_; clear hm; intro n w hn hz hm ho; (try simp only [List.cons_append, List.nil_append] at hm)))); try simp only [Act.put, List.setIfInBounds_toArray, List.set_cons_zero, List.set_cons_succ]) | (go_at_call 47; refine (ref04_EncodeResponse B dn dc d sw _ (by exact HB.out _ hm.low) hdn).mono ?_; rintro e w2 ⟨A2, c2, rfl, hown, hbl⟩; replace hm := hm.below hbl; clear hown) | (go_at_call 49; refine (HI.out _ _ (HRK.out _ _ _ _ kp sw0 rfl hm.low (HK0.out _ hm.low))).mono ?_; rintro e w3 ⟨rfl, hbl⟩; replace hm := hm.below hbl))
          have hw9 := hm.drew.wo 2
          simp only [List.eraseIdx_cons_zero, List.eraseIdx_cons_succ] at hw9
          refine wp_region_noPanic ?_
          refine wp_region_held_drew (S := MemS _ _ _ _) (by kernel_rfl) (MemS.of hw9) (fun hHeld => ?_)
          refine wpAnyH_fresh (by repeat (first | apply Fresh.a | apply Fresh.b)) ?_
          clear hw9
          replace hm := hm.drew
          iterate 4 (first | (refine wpAnyH_take3 (b := 0) (by repeat (first | apply Seek.a | apply Seek.b | apply Seek.c)) (by simp only [List.getElem?_toArray, List.getElem?_cons_succ, List.getElem?_cons_zero]; first | done | exact rfl) ⟨?_, by kernel_rfl, by kernel_rfl, by kernel_rfl, fun _ _ _ h => h, Or.inr ⟨by rfl, rfl⟩, hHeld, ?_⟩) | (refine wpAnyH_take3 (b := 0) (by repeat (first | apply Seek.a | apply Seek.b | apply Seek.c)) (by simp only [List.getElem?_toArray, List.getElem?_cons_succ, List.getElem?_cons_zero]; first | done | exact rfl) ⟨?_, by kernel_rfl, by kernel_rfl, by kernel_rfl, fun _ _ _ h => h, Or.inl ⟨by rfl, ?_⟩, hHeld, ?_⟩; rotate_left 1; (first | (intro w9 h9; (with_reducible show (execOp _ (Oper.mk _ (Op.load _ _) _ _ _ _)).run _ _ = _); (first | (exact MemS.ldS h9 _ _ rfl _ _ rfl _ _ (by repeat (first | apply In.a | apply In.b)) (by decide +kernel) _ (by simp only [List.getElem?_toArray, List.getElem?_cons_succ, List.getElem?_cons_zero]; first | done | exact rfl)) | (exact MemS.laS h9 _ _ rfl _ _ rfl _ _ (by repeat (first | apply In.a | apply In.b)) (by kernel_rfl) _ (by rfl) (by kernel_rfl) (by simp) _ (by simp only [List.toList_toArray, List.drop_succ_cons, List.drop_zero, List.size_toArray, List.length_cons, List.length_nil, Nat.reduceAdd, List.take_succ_cons, List.take_zero]; first | done | exact rfl)))) | focus (intro w9 hSw; go_simp; (try (with_reducible rfl)); done))); try simp only [Act.put, List.setIfInBounds_toArray, List.set_cons_zero, List.set_cons_succ])
          iterate 2 (first | (refine wpAnyH_take3 (b := 5) (by repeat (first | apply Seek.a | apply Seek.b | apply Seek.c)) (by simp only [List.getElem?_toArray, List.getElem?_cons_succ, List.getElem?_cons_zero]; first | done | exact rfl) ⟨?_, by kernel_rfl, by kernel_rfl, by kernel_rfl, fun _ _ _ h => h, Or.inr ⟨by rfl, rfl⟩, hHeld, ?_⟩) | (refine wpAnyH_take3 (b := 5) (by repeat (first | apply Seek.a | apply Seek.b | apply Seek.c)) (by simp only [List.getElem?_toArray, List.getElem?_cons_succ, List.getElem?_cons_zero]; first | done | exact rfl) ⟨?_, by kernel_rfl, by kernel_rfl, by kernel_rfl, fun _ _ _ h => h, Or.inl ⟨by rfl, ?_⟩, hHeld, ?_⟩; rotate_left 1; (first | (intro w9 h9; (with_reducible show (execOp _ (Oper.mk _ (Op.load _ _) _ _ _ _)).run _ _ = _); (first | (exact MemS.ldS h9 _ _ rfl _ _ rfl _ _ (by repeat (first | apply In.a | apply In.b)) (by decide +kernel) _ (by simp only [List.getElem?_toArray, List.getElem?_cons_succ, List.getElem?_cons_zero]; first | done | exact rfl)) | (exact MemS.laS h9 _ _ rfl _ _ rfl _ _ (by repeat (first | apply In.a | apply In.b)) (by kernel_rfl) _ (by rfl) (by kernel_rfl) (by simp) _ (by simp only [List.toList_toArray, List.drop_succ_cons, List.drop_zero, List.size_toArray, List.length_cons, List.length_nil, Nat.reduceAdd, List.take_succ_cons, List.take_zero]; first | done | exact rfl)))) | focus (intro w9 hSw; go_simp; (try (with_reducible rfl)); done))); try simp only [Act.put, List.setIfInBounds_toArray, List.set_cons_zero, List.set_cons_succ])
          iterate 2 (first | (refine wpAnyH_take3 (b := 8) (by repeat (first | apply Seek.a | apply Seek.b | apply Seek.c)) (by simp only [List.getElem?_toArray, List.getElem?_cons_succ, List.getElem?_cons_zero]; first | done | exact rfl) ⟨?_, by kernel_rfl, by kernel_rfl, by kernel_rfl, fun _ _ _ h => h, Or.inr ⟨by rfl, rfl⟩, hHeld, ?_⟩) | (refine wpAnyH_take3 (b := 8) (by repeat (first | apply Seek.a | apply Seek.b | apply Seek.c)) (by simp only [List.getElem?_toArray, List.getElem?_cons_succ, List.getElem?_cons_zero]; first | done | exact rfl) ⟨?_, by kernel_rfl, by kernel_rfl, by kernel_rfl, fun _ _ _ h => h, Or.inl ⟨by rfl, ?_⟩, hHeld, ?_⟩; rotate_left 1; (first | (intro w9 h9; (with_reducible show (execOp _ (Oper.mk _ (Op.load _ _) _ _ _ _)).run _ _ = _); (first | (exact MemS.ldS h9 _ _ rfl _ _ rfl _ _ (by repeat (first | apply In.a | apply In.b)) (by decide +kernel) _ (by simp only [List.getElem?_toArray, List.getElem?_cons_succ, List.getElem?_cons_zero]; first | done | exact rfl)) | (exact MemS.laS h9 _ _ rfl _ _ rfl _ _ (by repeat (first | apply In.a | apply In.b)) (by kernel_rfl) _ (by rfl) (by kernel_rfl) (by simp) _ (by simp only [List.toList_toArray, List.drop_succ_cons, List.drop_zero, List.size_toArray, List.length_cons, List.length_nil, Nat.reduceAdd, List.take_succ_cons, List.take_zero]; first | done | exact rfl)))) | focus (intro w9 hSw; go_simp; (try (with_reducible rfl)); done))); try simp only [Act.put, List.setIfInBounds_toArray, List.set_cons_zero, List.set_cons_succ])
          refine wpAnyH_ready (rs := [4]) (by kernel_rfl) (by simp) ?_
          refine AllReadyH.cons2 (by simp only [List.getElem?_toArray, List.getElem?_cons_succ, List.getElem?_cons_zero]; first | done | exact rfl) (fun K hK => ?_)
          rw [if_pos (by rfl)]
          go_simp
          refine K_up hm ?_
          intro n5 w5 hn hn5s hn5 hm1 hn5d hn5d2 hb1
          first | rw [← hn] | rw [← (show n5 = w.heap.size from hn)] | rw [← (show n5 = w2.heap.size from hn)] | rw [← (show n5 = w3.heap.size from hn)] | skip
          clear hn hm
          have hm := hm1.row hn5 hn5s hn5d hn5d2 1 1 [.int .u8 x1] rfl rfl (by unfold maxLen; omega)
          clear hm1
          refine hK.out _ _ (MemS.of ((hm.wo 2).less)) (fun hHeld => ?_)
          clear hK K
          try simp only [Act.put, List.setIfInBounds_toArray, List.set_cons_zero, List.set_cons_succ]
          refine wpAnyH_ready (rs := [7]) (by kernel_rfl) (by simp) ?_
          refine AllReadyH.cons2 (by simp only [List.getElem?_toArray, List.getElem?_cons_succ, List.getElem?_cons_zero]; first | done | exact rfl) (fun K hK => ?_)
          rw [if_pos (by rfl)]
          go_simp
          refine (ref07_join _ 1 1 [Tz.byte x1] B dn dc d _ (by have := hm.sl_ 0 rfl; rw [HX1.out] at this; exact this.byt (Nat.le_refl _)) (HB.out _ hm.low) (by omega)).mono ?_
          intro e w6 h6
          obtain ⟨A6, c6, rfl, hown, hb6⟩ := h6.len (n := 1 + dn) (by rw [List.length_append, hl.out]; rfl)
          clear h6
          replace hm := hm.got hb6 hown
          clear hown
          go_simp
          refine hK.out _ _ (MemS.of ((hm.wo 2).less.less)) (fun hHeld => ?_)
          clear hK K
          try simp only [Act.put, List.setIfInBounds_toArray, List.set_cons_zero, List.set_cons_succ]
          refine wpAnyH_ready (rs := [10]) (by kernel_rfl) (by simp) ?_
          refine AllReadyH.cons2 (by simp only [List.getElem?_toArray, List.getElem?_cons_succ, List.getElem?_cons_zero]; first | done | exact rfl) (fun K hK => ?_)
          rw [if_pos (by rfl)]
          go_simp
          refine (ref07_word _ hswr _).mono ?_
          intro e w6 h6
          obtain ⟨A7, c7, rfl, hown, hb6⟩ := h6.len (n := 2) (rfl)
          clear h6
          replace hm := hm.got hb6 hown
          clear hown
          go_simp
          refine hK.out _ _ (MemS.of ((hm.wo 2).less.less.less)) (fun hHeld => ?_)
          clear hK K
          try simp only [Act.put, List.setIfInBounds_toArray, List.set_cons_zero, List.set_cons_succ]
          refine wpAnyH_ready (rs := [11]) (by kernel_rfl) (by simp) ?_
          refine AllReadyH.cons2 (by simp only [List.getElem?_toArray, List.getElem?_cons_succ, List.getElem?_cons_zero]; first | done | exact rfl) (fun K hK => ?_)
          rw [if_pos (by rfl)]
          go_simp
          refine (ref07_join A6 (1 + dn) c6 ([Tz.byte x1] ++ d) A7 2 c7 (Tz.wd sw) _ (by exact (hm.sl_ 1 rfl).byt (Nat.le_refl _)) (by exact (hm.sl_ 2 rfl).byt (Nat.le_refl _)) (by omega)).mono ?_
          intro e w6 h6
          obtain ⟨A8, c8, rfl, hown, hb6⟩ := h6.len (n := 1 + dn + 2) (by rw [List.length_append, List.length_append, hl.out]; rfl)
          clear h6
          replace hm := hm.got hb6 hown
          clear hown
          go_simp
          refine hK.out _ _ (MemS.of ((hm.wo 2).less.less.less.less)) (fun hHeld => ?_)
          clear hK K
          try simp only [Act.put, List.setIfInBounds_toArray, List.set_cons_zero, List.set_cons_succ]
          refine wpAnyH_ready (rs := [12]) (by kernel_rfl) (by simp) ?_
          refine AllReadyH.cons2 (by simp only [List.getElem?_toArray, List.getElem?_cons_succ, List.getElem?_cons_zero]; first | done | exact rfl) (fun K hK => ?_)
          refine step_stS (by rfl) _ _ _ rfl _ _ rfl _ (by simp only [Act.eval, Array.getD_eq_getD_getElem?, List.getElem?_toArray, List.getElem?_cons_succ, List.getElem?_cons_zero, Option.getD_some]; first | done | exact rfl) hm _ (by simp only [Value.cells]; first | done | exact rfl) _ _ _ _ (by repeat (first | apply Put.a | apply Put.b)) (by kernel_rfl) (by simp [Value.oneCell']) (by simp) (by simp only [List.set_cons_zero, List.set_cons_succ, spl, List.toList_toArray, List.size_toArray, List.length_cons, List.length_nil, Nat.reduceAdd, Nat.zero_add, List.take_succ_cons, List.take_zero, List.drop_succ_cons, List.drop_zero, List.drop_nil, List.cons_append, List.nil_append, List.append_nil]; first | done | exact rfl) ?_
          clear hm; intro w hz hm ho
          refine hK.out _ _ (MemS.of ((hm.wo 2).less.less.less.less)) (fun hHeld => ?_)
          clear hK K
          try simp only [Act.put, List.setIfInBounds_toArray, List.set_cons_zero, List.set_cons_succ]
          iterate 1 (first | (refine wpAnyH_take3 (b := 13) (by repeat (first | apply Seek.a | apply Seek.b | apply Seek.c)) (by simp only [List.getElem?_toArray, List.getElem?_cons_succ, List.getElem?_cons_zero]; first | done | exact rfl) ⟨?_, by kernel_rfl, by kernel_rfl, by kernel_rfl, fun _ _ _ h => h, Or.inr ⟨by rfl, rfl⟩, hHeld, ?_⟩) | (refine wpAnyH_take3 (b := 13) (by repeat (first | apply Seek.a | apply Seek.b | apply Seek.c)) (by simp only [List.getElem?_toArray, List.getElem?_cons_succ, List.getElem?_cons_zero]; first | done | exact rfl) ⟨?_, by kernel_rfl, by kernel_rfl, by kernel_rfl, fun _ _ _ h => h, Or.inl ⟨by rfl, ?_⟩, hHeld, ?_⟩; rotate_left 1; (first | (intro w9 h9; (with_reducible show (execOp _ (Oper.mk _ (Op.load _ _) _ _ _ _)).run _ _ = _); (first | (exact MemS.ldS h9 _ _ rfl _ _ rfl _ _ (by repeat (first | apply In.a | apply In.b)) (by decide +kernel) _ (by simp only [List.getElem?_toArray, List.getElem?_cons_succ, List.getElem?_cons_zero]; first | done | exact rfl)))) | focus (intro w9 hSw; go_simp; (try (with_reducible rfl)); done))); try simp only [Act.put, List.setIfInBounds_toArray, List.set_cons_zero, List.set_cons_succ])
          refine wpAnyH_done (by kernel_rfl) ?_ _
          refine NoPanic.normal ?_
          go_wp2_with fail
          refine bodyPost_ret (results_row_tmp rfl _ _ _ _ _ (0, 0) _ rfl (by exact hm.at_ 2 rfl) Try.underlying39 rfl (by kernel_rfl)) rfl ?_
          exact RCRes.mk hm 3 rfl rfl (by rw [List.length_cons, List.length_append, hl.out]; show dn + 2 + 1 = _; omega) (HRK.out _ _ _ _ _ _ rfl hm.low (HK0.out _ hm.low)) (fun _ hF => Far.card hF (fun _ h => .inl h) rfl (fun hn _ _ => .inr ⟨hn, rfl⟩) (fun hn => absurd hn (Nat.lt_irrefl 0)) (fun hn _ _ => .inr ⟨hn, rfl⟩) (by simp) (by simp) (by simp) (by simp) (by simp) (by simp) (by simp))
        · have e : Tz.reply l ⟨2, gt, ⟨x0, x1, x2, x3, xb, x5⟩, kp, sw0⟩ d sw = (⟨0, gt, Tz.S.zero.cmd, d, sw⟩, Tz.left 0x61 d.length) := by
            unfold Tz.reply
            rw [if_neg (by simp), if_neg (by rw [hl.out]; exact e3), if_neg e2, if_neg e4]
          rw [e]
          have hcase : (Tz.inc l x0 x1 = true) ∨ (Tz.inc l x0 x1 = false ∧ ((dn : Int) == x5) = false) := by
            cases hi : Tz.inc l x0 x1 with
            | true => exact .inl rfl
            | false => exact .inr ⟨rfl, by rw [beq_eq_false_iff_ne]; intro h; exact e4 ⟨hi, by rw [hl.out]; exact h⟩⟩
          generalize Tz.inc l x0 x1 = inc at *
          clear e e1 e3 e2 e4 hw
          rcases hcase with rfl | ⟨rfl, i3⟩
          all_goals
            go_enter Try.func22, Try.ntmps22
            go_wp2_with (first | go_skip | ((with_reducible show wpList _ _ _ _ _ (World.alloc _ _)); refine wpList_up hm ?_; clear hm; intro n w hn hn2 hk hm hd hd2 ho; (try rw [← hn]); replace hn := Nat.le_of_eq hn.symm) | ((first | ((with_reducible show wpList _ _ _ (Oper.mk _ (Op.box _ _) _ _ _ _ :: _) _ _); (refine wpList_bx (by rfl) _ _ rfl _ (by simp only [Act.eval, Array.getD_eq_getD_getElem?, List.getElem?_toArray, List.getElem?_cons_succ, List.getElem?_cons_zero, Option.getD_some]; first | done | exact rfl) _ (by simp only [Value.cells]; first | done | exact rfl) hm ?_; clear hm; intro n w hn hz hm ho; (try simp only [List.cons_append, List.nil_append] at hm))) | ((with_reducible show wpList _ _ _ (Oper.mk _ (Op.load _ _) _ _ _ _ :: _) _ _); first | (refine wpList_ldS (by rfl) _ _ rfl _ _ rfl hm _ _ (by repeat (first | apply In.a | apply In.b)) (by decide +kernel) _ (by simp only [List.getElem?_toArray, List.getElem?_cons_succ, List.getElem?_cons_zero]; first | done | exact rfl) ?_) | (refine wpList_laS (by rfl) _ _ rfl _ _ rfl hm _ _ (by repeat (first | apply In.a | apply In.b)) (by kernel_rfl) _ (by rfl) (by kernel_rfl) (by simp) _ (by simp only [List.toList_toArray, List.drop_succ_cons, List.drop_zero, List.size_toArray, List.length_cons, List.length_nil, Nat.reduceAdd, List.take_succ_cons, List.take_zero]; first | done | exact rfl) ?_)) | ((with_reducible show wpList _ _ _ (Oper.mk _ (Op.store _ _ _) _ _ _ _ :: _) _ _); (refine wpList_stS (by rfl) _ _ _ rfl _ _ rfl _ (by simp only [Act.eval, Array.getD_eq_getD_getElem?, List.getElem?_toArray, List.getElem?_cons_succ, List.getElem?_cons_zero, Option.getD_some]; first | done | exact rfl) hm _ (by simp only [Value.cells]; first | done | exact rfl) _ _ _ _ (by repeat (first | apply Put.a | apply Put.b)) (by kernel_rfl) (by simp [Value.oneCell']) (by simp) (by simp only [List.set_cons_zero, List.set_cons_succ, spl, List.toList_toArray, List.size_toArray, List.length_cons, List.length_nil, Nat.reduceAdd, Nat.zero_add, List.take_succ_cons, List.take_zero, List.drop_succ_cons, List.drop_zero, List.drop_nil, List.cons_append, List.nil_append, List.append_nil]; first | done | exact rfl) ?_; clear hm; intro w hz hm ho)) | ((with_reducible show wpList _ _ _ (Oper.mk _ (Op.alloc _) _ _ _ _ :: _) _ _); (refine wpList_al (by rfl) _ rfl _ rfl _ (by simp only [Value.cells]; first | done | exact rfl) hm ?_; clear hm; intro n w hn hz hm ho; (try simp only [List.cons_append, List.nil_append] at hm)))); try simp only [Act.put, List.setIfInBounds_toArray, List.set_cons_zero, List.set_cons_succ]) | (go_at_call 47; refine (ref04_EncodeResponse B dn dc d sw _ (by exact HB.out _ hm.low) hdn).mono ?_; rintro e w2 ⟨A2, c2, rfl, hown, hbl⟩; replace hm := hm.below hbl; clear hown) | (go_at_call 49; refine (HI.out _ _ (HRK.out _ _ _ _ kp sw0 rfl hm.low (HK0.out _ hm.low))).mono ?_; rintro e w3 ⟨rfl, hbl⟩; replace hm := hm.below hbl))
            go_at_call 41
            refine (ref07_join none 0 0 [] B dn dc d _ ⟨rfl, Nat.le_refl _, Row.nil _ _ _⟩ (HB.out _ hm.low) (by omega)).mono ?_
            intro e w5 h5
            obtain ⟨A5, c5, rfl, hown, hb5⟩ := h5.len (n := dn) (by rw [List.nil_append]; exact hl.out)
            clear h5
            rw [List.nil_append] at hown
            have HO0 : Hid (0 < dn → ∀ a, A5 = some a → w0.heap.size ≤ a.block) := fun hn a e => Nat.le_trans hm.only.size (hown.far hn a e)
            replace hm := hm.got hb5 hown
            clear hown
            go_wp2_with (first | go_skip | ((with_reducible show wpList _ _ _ _ _ (World.alloc _ _)); refine wpList_up hm ?_; clear hm; intro n w hn hn2 hk hm hd hd2 ho; (try rw [← hn]); replace hn := Nat.le_of_eq hn.symm) | ((first | ((with_reducible show wpList _ _ _ (Oper.mk _ (Op.box _ _) _ _ _ _ :: _) _ _); (refine wpList_bx (by rfl) _ _ rfl _ (by simp only [Act.eval, Array.getD_eq_getD_getElem?, List.getElem?_toArray, List.getElem?_cons_succ, List.getElem?_cons_zero, Option.getD_some]; first | done | exact rfl) _ (by simp only [Value.cells]; first | done | exact rfl) hm ?_; clear hm; intro n w hn hz hm ho; (try simp only [List.cons_append, List.nil_append] at hm))) | ((with_reducible show wpList _ _ _ (Oper.mk _ (Op.load _ _) _ _ _ _ :: _) _ _); first | (refine wpList_ldS (by rfl) _ _ rfl _ _ rfl hm _ _ (by repeat (first | apply In.a | apply In.b)) (by decide +kernel) _ (by simp only [List.getElem?_toArray, List.getElem?_cons_succ, List.getElem?_cons_zero]; first | done | exact rfl) ?_) | (refine wpList_laS (by rfl) _ _ rfl _ _ rfl hm _ _ (by repeat (first | apply In.a | apply In.b)) (by kernel_rfl) _ (by rfl) (by kernel_rfl) (by simp) _ (by simp only [List.toList_toArray, List.drop_succ_cons, List.drop_zero, List.size_toArray, List.length_cons, List.length_nil, Nat.reduceAdd, List.take_succ_cons, List.take_zero]; first | done | exact rfl) ?_)) | ((with_reducible show wpList _ _ _ (Oper.mk _ (Op.store _ _ _) _ _ _ _ :: _) _ _); (refine wpList_stS (by rfl) _ _ _ rfl _ _ rfl _ (by simp only [Act.eval, Array.getD_eq_getD_getElem?, List.getElem?_toArray, List.getElem?_cons_succ, List.getElem?_cons_zero, Option.getD_some]; first | done | exact rfl) hm _ (by simp only [Value.cells]; first | done | exact rfl) _ _ _ _ (by repeat (first | apply Put.a | apply Put.b)) (by kernel_rfl) (by simp [Value.oneCell']) (by simp) (by simp only [List.set_cons_zero, List.set_cons_succ, spl, List.toList_toArray, List.size_toArray, List.length_cons, List.length_nil, Nat.reduceAdd, Nat.zero_add, List.take_succ_cons, List.take_zero, List.drop_succ_cons, List.drop_zero, List.drop_nil, List.cons_append, List.nil_append, List.append_nil]; first | done | exact rfl) ?_; clear hm; intro w hz hm ho)) | ((with_reducible show wpList _ _ _ (Oper.mk _ (Op.alloc _) _ _ _ _ :: _) _ _); (refine wpList_al (by rfl) _ rfl _ rfl _ (by simp only [Value.cells]; first | done | exact rfl) hm ?_; clear hm; intro n w hn hz hm ho; (try simp only [List.cons_append, List.nil_append] at hm)))); try simp only [Act.put, List.setIfInBounds_toArray, List.set_cons_zero, List.set_cons_succ]))
            have hw9 := hm.drew.wo 2
            simp only [List.eraseIdx_cons_zero, List.eraseIdx_cons_succ] at hw9
            refine wp_region_noPanic ?_
            refine wp_region_held_drew (S := MemS _ _ _ _) (by kernel_rfl) (MemS.of hw9) (fun hHeld => ?_)
            refine wpAnyH_fresh (by repeat (first | apply Fresh.a | apply Fresh.b)) ?_
            clear hw9
            replace hm := hm.drew
            iterate 2 (first | (refine wpAnyH_take3 (b := 0) (by repeat (first | apply Seek.a | apply Seek.b | apply Seek.c)) (by simp only [List.getElem?_toArray, List.getElem?_cons_succ, List.getElem?_cons_zero]; first | done | exact rfl) ⟨?_, by kernel_rfl, by kernel_rfl, by kernel_rfl, fun _ _ _ h => h, Or.inr ⟨by rfl, rfl⟩, hHeld, ?_⟩) | (refine wpAnyH_take3 (b := 0) (by repeat (first | apply Seek.a | apply Seek.b | apply Seek.c)) (by simp only [List.getElem?_toArray, List.getElem?_cons_succ, List.getElem?_cons_zero]; first | done | exact rfl) ⟨?_, by kernel_rfl, by kernel_rfl, by kernel_rfl, fun _ _ _ h => h, Or.inl ⟨by rfl, ?_⟩, hHeld, ?_⟩; rotate_left 1; (first | (intro w9 h9; (with_reducible show (execOp _ (Oper.mk _ (Op.load _ _) _ _ _ _)).run _ _ = _); (first | (exact MemS.ldS h9 _ _ rfl _ _ rfl _ _ (by repeat (first | apply In.a | apply In.b)) (by decide +kernel) _ (by simp only [List.getElem?_toArray, List.getElem?_cons_succ, List.getElem?_cons_zero]; first | done | exact rfl)) | (exact MemS.laS h9 _ _ rfl _ _ rfl _ _ (by repeat (first | apply In.a | apply In.b)) (by kernel_rfl) _ (by rfl) (by kernel_rfl) (by simp) _ (by simp only [List.toList_toArray, List.drop_succ_cons, List.drop_zero, List.size_toArray, List.length_cons, List.length_nil, Nat.reduceAdd, List.take_succ_cons, List.take_zero]; first | done | exact rfl)))) | focus (intro w9 hSw; go_simp; (try (with_reducible rfl)); done))); try simp only [Act.put, List.setIfInBounds_toArray, List.set_cons_zero, List.set_cons_succ])
            refine wpAnyH_ready (rs := [2]) (by kernel_rfl) (by simp) ?_
            refine AllReadyH.cons2 (by simp only [List.getElem?_toArray, List.getElem?_cons_succ, List.getElem?_cons_zero]; first | done | exact rfl) (fun K hK => ?_)
            rw [if_pos (by rfl)]
            go_simp
            refine (ref07_left _ l _ _ (HRK.out _ A5 dn c5 d sw hl.out hm.low (by exact (hm.sl_ 0 rfl).byt (Nat.le_refl _))) (by have := HDL.out; exact this)).mono ?_
            intro e w6 h6
            obtain ⟨A6, c6, rfl, hown, hb6⟩ := h6.len (n := 2) (rfl)
            clear h6
            replace hm := hm.got hb6 hown
            clear hown
            go_simp
            refine hK.out _ _ (MemS.of ((hm.wo 2).less)) (fun hHeld => ?_)
            clear hK K
            try simp only [Act.put, List.setIfInBounds_toArray, List.set_cons_zero, List.set_cons_succ]
            refine wpAnyH_ready (rs := [3]) (by kernel_rfl) (by simp) ?_
            refine AllReadyH.cons2 (by simp only [List.getElem?_toArray, List.getElem?_cons_succ, List.getElem?_cons_zero]; first | done | exact rfl) (fun K hK => ?_)
            refine step_stS (by rfl) _ _ _ rfl _ _ rfl _ (by simp only [Act.eval, Array.getD_eq_getD_getElem?, List.getElem?_toArray, List.getElem?_cons_succ, List.getElem?_cons_zero, Option.getD_some]; first | done | exact rfl) hm _ (by simp only [Value.cells]; first | done | exact rfl) _ _ _ _ (by repeat (first | apply Put.a | apply Put.b)) (by kernel_rfl) (by simp [Value.oneCell']) (by simp) (by simp only [List.set_cons_zero, List.set_cons_succ, spl, List.toList_toArray, List.size_toArray, List.length_cons, List.length_nil, Nat.reduceAdd, Nat.zero_add, List.take_succ_cons, List.take_zero, List.drop_succ_cons, List.drop_zero, List.drop_nil, List.cons_append, List.nil_append, List.append_nil]; first | done | exact rfl) ?_
            clear hm; intro w hz hm ho
            refine hK.out _ _ (MemS.of ((hm.wo 2).less)) (fun hHeld => ?_)
            clear hK K
            try simp only [Act.put, List.setIfInBounds_toArray, List.set_cons_zero, List.set_cons_succ]
            iterate 1 (first | (refine wpAnyH_take3 (b := 4) (by repeat (first | apply Seek.a | apply Seek.b | apply Seek.c)) (by simp only [List.getElem?_toArray, List.getElem?_cons_succ, List.getElem?_cons_zero]; first | done | exact rfl) ⟨?_, by kernel_rfl, by kernel_rfl, by kernel_rfl, fun _ _ _ h => h, Or.inr ⟨by rfl, rfl⟩, hHeld, ?_⟩) | (refine wpAnyH_take3 (b := 4) (by repeat (first | apply Seek.a | apply Seek.b | apply Seek.c)) (by simp only [List.getElem?_toArray, List.getElem?_cons_succ, List.getElem?_cons_zero]; first | done | exact rfl) ⟨?_, by kernel_rfl, by kernel_rfl, by kernel_rfl, fun _ _ _ h => h, Or.inl ⟨by rfl, ?_⟩, hHeld, ?_⟩; rotate_left 1; (first | (intro w9 h9; (with_reducible show (execOp _ (Oper.mk _ (Op.load _ _) _ _ _ _)).run _ _ = _); (first | (exact MemS.ldS h9 _ _ rfl _ _ rfl _ _ (by repeat (first | apply In.a | apply In.b)) (by decide +kernel) _ (by simp only [List.getElem?_toArray, List.getElem?_cons_succ, List.getElem?_cons_zero]; first | done | exact rfl)))) | focus (intro w9 hSw; go_simp; (try (with_reducible rfl)); done))); try simp only [Act.put, List.setIfInBounds_toArray, List.set_cons_zero, List.set_cons_succ])
            refine wpAnyH_done (by kernel_rfl) ?_ _
            refine NoPanic.normal ?_
            go_wp2_with fail
            refine bodyPost_ret (results_row_tmp rfl _ _ _ _ _ (0, 0) _ rfl (by exact hm.at_ 2 rfl) Try.underlying39 rfl (by kernel_rfl)) rfl ?_
            exact RCRes.mk hm 1 rfl rfl rfl (HRK.out _ A5 dn c5 d sw hl.out hm.low (by exact (hm.sl_ 0 rfl).byt (Nat.le_refl _))) (fun _ hF => Far.card hF (fun _ h => .inl h) rfl (fun hn _ _ => .inr ⟨hn, rfl⟩) (fun hn => absurd hn (Nat.lt_irrefl 0)) (fun hn a e => .inl (.inr (HO0.out hn a e))) (by simp) (by simp) (by simp) (by simp) (by simp) (by simp) (by simp))
    · have e : Tz.reply l ⟨2, gt, ⟨x0, x1, x2, x3, xb, x5⟩, kp, sw0⟩ d sw = (⟨0, gt, Tz.S.zero.cmd, kp, sw0⟩, Tz.wd 0x6F00) := by
        unfold Tz.reply
        rw [if_neg (by simp), if_pos (by rw [hl.out]; exact Apd.erE_no e1)]
      rw [e]
      have i1 : (Apd.erE dn sw != 0) = true := by rw [bne_iff_ne]; exact e1
      have hswr : (0 : Int) ≤ 28416 ∧ (28416 : Int) ≤ 65535 := by omega
      clear e e1 HI
      go_enter Try.func22, Try.ntmps22
      go_wp2_with (first | go_skip | ((with_reducible show wpList _ _ _ _ _ (World.alloc _ _)); refine wpList_up hm ?_; clear hm; intro n w hn hn2 hk hm hd hd2 ho; (try rw [← hn]); replace hn := Nat.le_of_eq hn.symm) | ((first | ((with_reducible show wpList _ _ _ (Oper.mk _ (Op.box _ _) _ _ _ _ :: _) _ _); (refine wpList_bx (by rfl) _ _ rfl _ (by simp only [Act.eval, Array.getD_eq_getD_getElem?, List.getElem?_toArray, List.getElem?_cons_succ, List.getElem?_cons_zero, Option.getD_some]; first | done | exact rfl) _ (by simp only [Value.cells]; first | done | exact rfl) hm ?_; clear hm; intro n w hn hz hm ho; (try simp only [List.cons_append, List.nil_append] at hm))) | ((with_reducible show wpList _ _ _ (Oper.mk _ (Op.load _ _) _ _ _ _ :: _) _ _); first | (refine wpList_ldS (by rfl) _ _ rfl _ _ rfl hm _ _ (by repeat (first | apply In.a | apply In.b)) (by decide +kernel) _ (by simp only [List.getElem?_toArray, List.getElem?_cons_succ, List.getElem?_cons_zero]; first | done | exact rfl) ?_) | (refine wpList_laS (by rfl) _ _ rfl _ _ rfl hm _ _ (by repeat (first | apply In.a | apply In.b)) (by kernel_rfl) _ (by rfl) (by kernel_rfl) (by simp) _ (by simp only [List.toList_toArray, List.drop_succ_cons, List.drop_zero, List.size_toArray, List.length_cons, List.length_nil, Nat.reduceAdd, List.take_succ_cons, List.take_zero]; first | done | exact rfl) ?_)) | ((with_reducible show wpList _ _ _ (Oper.mk _ (Op.store _ _ _) _ _ _ _ :: _) _ _); (refine wpList_stS (by rfl) _ _ _ rfl _ _ rfl _ (by simp only [Act.eval, Array.getD_eq_getD_getElem?, List.getElem?_toArray, List.getElem?_cons_succ, List.getElem?_cons_zero, Option.getD_some]; first | done | exact rfl) hm _ (by simp only [Value.cells]; first | done | exact rfl) _ _ _ _ (by repeat (first | apply Put.a | apply Put.b)) (by kernel_rfl) (by simp [Value.oneCell']) (by simp) (by simp only [List.set_cons_zero, List.set_cons_succ, spl, List.toList_toArray, List.size_toArray, List.length_cons, List.length_nil, Nat.reduceAdd, Nat.zero_add, List.take_succ_cons, List.take_zero, List.drop_succ_cons, List.drop_zero, List.drop_nil, List.cons_append, List.nil_append, List.append_nil]; first | done | exact rfl) ?_; clear hm; intro w hz hm ho)) | ((with_reducible show wpList _ _ _ (Oper.mk _ (Op.alloc _) _ _ _ _ :: _) _ _); (refine wpList_al (by rfl) _ rfl _ rfl _ (by simp only [Value.cells]; first | done | exact rfl) hm ?_; clear hm; intro n w hn hz hm ho; (try simp only [List.cons_append, List.nil_append] at hm)))); try simp only [Act.put, List.setIfInBounds_toArray, List.set_cons_zero, List.set_cons_succ]) | (go_at_call 47; refine (ref04_EncodeResponse B dn dc d sw _ (by exact HB.out _ hm.low) hdn).mono ?_; rintro e w2 ⟨A2, c2, rfl, hown, hbl⟩; replace hm := hm.below hbl; clear hown))
      have hw9 := hm.drew.wo 2
      simp only [List.eraseIdx_cons_zero, List.eraseIdx_cons_succ] at hw9
      refine wp_region_noPanic ?_
      refine wp_region_held_drew (S := MemS _ _ _ _) (by kernel_rfl) (MemS.of hw9) (fun hHeld => ?_)
      refine wpAnyH_fresh (by repeat (first | apply Fresh.a | apply Fresh.b)) ?_
      clear hw9
      replace hm := hm.drew
      iterate 3 (first | (refine wpAnyH_take3 (b := 0) (by repeat (first | apply Seek.a | apply Seek.b | apply Seek.c)) (by simp only [List.getElem?_toArray, List.getElem?_cons_succ, List.getElem?_cons_zero]; first | done | exact rfl) ⟨?_, by kernel_rfl, by kernel_rfl, by kernel_rfl, fun _ _ _ h => h, Or.inr ⟨by rfl, rfl⟩, hHeld, ?_⟩) | (refine wpAnyH_take3 (b := 0) (by repeat (first | apply Seek.a | apply Seek.b | apply Seek.c)) (by simp only [List.getElem?_toArray, List.getElem?_cons_succ, List.getElem?_cons_zero]; first | done | exact rfl) ⟨?_, by kernel_rfl, by kernel_rfl, by kernel_rfl, fun _ _ _ h => h, Or.inl ⟨by rfl, ?_⟩, hHeld, ?_⟩; rotate_left 1; (first | (intro w9 h9; (with_reducible show (execOp _ (Oper.mk _ (Op.load _ _) _ _ _ _)).run _ _ = _); (first | (exact MemS.ldS h9 _ _ rfl _ _ rfl _ _ (by repeat (first | apply In.a | apply In.b)) (by decide +kernel) _ (by simp only [List.getElem?_toArray, List.getElem?_cons_succ, List.getElem?_cons_zero]; first | done | exact rfl)) | (exact MemS.laS h9 _ _ rfl _ _ rfl _ _ (by repeat (first | apply In.a | apply In.b)) (by kernel_rfl) _ (by rfl) (by kernel_rfl) (by simp) _ (by simp only [List.toList_toArray, List.drop_succ_cons, List.drop_zero, List.size_toArray, List.length_cons, List.length_nil, Nat.reduceAdd, List.take_succ_cons, List.take_zero]; first | done | exact rfl)))) | focus (intro w9 hSw; go_simp; (try (with_reducible rfl)); done))); try simp only [Act.put, List.setIfInBounds_toArray, List.set_cons_zero, List.set_cons_succ])
      refine wpAnyH_ready (rs := [3]) (by kernel_rfl) (by simp) ?_
      refine AllReadyH.cons2 (by simp only [List.getElem?_toArray, List.getElem?_cons_succ, List.getElem?_cons_zero]; first | done | exact rfl) (fun K hK => ?_)
      rw [if_pos (by rfl)]
      go_simp
      refine (ref07_word _ hswr _).mono ?_
      intro e w6 h6
      obtain ⟨A6, c6, rfl, hown, hb6⟩ := h6.len (n := 2) (rfl)
      clear h6
      replace hm := hm.got hb6 hown
      clear hown
      go_simp
      refine hK.out _ _ (MemS.of ((hm.wo 2).less)) (fun hHeld => ?_)
      clear hK K
      try simp only [Act.put, List.setIfInBounds_toArray, List.set_cons_zero, List.set_cons_succ]
      refine wpAnyH_ready (rs := [4]) (by kernel_rfl) (by simp) ?_
      refine AllReadyH.cons2 (by simp only [List.getElem?_toArray, List.getElem?_cons_succ, List.getElem?_cons_zero]; first | done | exact rfl) (fun K hK => ?_)
      refine step_stS (by rfl) _ _ _ rfl _ _ rfl _ (by simp only [Act.eval, Array.getD_eq_getD_getElem?, List.getElem?_toArray, List.getElem?_cons_succ, List.getElem?_cons_zero, Option.getD_some]; first | done | exact rfl) hm _ (by simp only [Value.cells]; first | done | exact rfl) _ _ _ _ (by repeat (first | apply Put.a | apply Put.b)) (by kernel_rfl) (by simp [Value.oneCell']) (by simp) (by simp only [List.set_cons_zero, List.set_cons_succ, spl, List.toList_toArray, List.size_toArray, List.length_cons, List.length_nil, Nat.reduceAdd, Nat.zero_add, List.take_succ_cons, List.take_zero, List.drop_succ_cons, List.drop_zero, List.drop_nil, List.cons_append, List.nil_append, List.append_nil]; first | done | exact rfl) ?_
      clear hm; intro w hz hm ho
      refine hK.out _ _ (MemS.of ((hm.wo 2).less)) (fun hHeld => ?_)
      clear hK K
      try simp only [Act.put, List.setIfInBounds_toArray, List.set_cons_zero, List.set_cons_succ]
      iterate 1 (first | (refine wpAnyH_take3 (b := 5) (by repeat (first | apply Seek.a | apply Seek.b | apply Seek.c)) (by simp only [List.getElem?_toArray, List.getElem?_cons_succ, List.getElem?_cons_zero]; first | done | exact rfl) ⟨?_, by kernel_rfl, by kernel_rfl, by kernel_rfl, fun _ _ _ h => h, Or.inr ⟨by rfl, rfl⟩, hHeld, ?_⟩) | (refine wpAnyH_take3 (b := 5) (by repeat (first | apply Seek.a | apply Seek.b | apply Seek.c)) (by simp only [List.getElem?_toArray, List.getElem?_cons_succ, List.getElem?_cons_zero]; first | done | exact rfl) ⟨?_, by kernel_rfl, by kernel_rfl, by kernel_rfl, fun _ _ _ h => h, Or.inl ⟨by rfl, ?_⟩, hHeld, ?_⟩; rotate_left 1; (first | (intro w9 h9; (with_reducible show (execOp _ (Oper.mk _ (Op.load _ _) _ _ _ _)).run _ _ = _); (first | (exact MemS.ldS h9 _ _ rfl _ _ rfl _ _ (by repeat (first | apply In.a | apply In.b)) (by decide +kernel) _ (by simp only [List.getElem?_toArray, List.getElem?_cons_succ, List.getElem?_cons_zero]; first | done | exact rfl)))) | focus (intro w9 hSw; go_simp; (try (with_reducible rfl)); done))); try simp only [Act.put, List.setIfInBounds_toArray, List.set_cons_zero, List.set_cons_succ])
      refine wpAnyH_done (by kernel_rfl) ?_ _
      refine NoPanic.normal ?_
      go_wp2_with fail
      refine bodyPost_ret (results_row_tmp rfl _ _ _ _ _ (0, 0) _ rfl (by exact hm.at_ 2 rfl) Try.underlying39 rfl (by kernel_rfl)) rfl ?_
      exact RCRes.mk hm 0 rfl rfl rfl (HRK.out _ _ _ _ _ _ rfl hm.low (HK0.out _ hm.low)) (fun _ hF => Far.card hF (fun _ h => .inl h) rfl (fun hn _ _ => .inr ⟨hn, rfl⟩) (fun hn => absurd hn (Nat.lt_irrefl 0)) (fun hn _ _ => .inr ⟨hn, rfl⟩) (by simp) (by simp) (by simp) (by simp) (by simp) (by simp) (by simp))
  · have e : Tz.reply l ⟨ph, gt, ⟨x0, x1, x2, x3, xb, x5⟩, kp, sw0⟩ d sw = (⟨ph, gt, ⟨x0, x1, x2, x3, xb, x5⟩, kp, sw0⟩, []) := by unfold Tz.reply; rw [if_pos h2]
    rw [e]
    have i1 : ((ph : Int) != 2) = true := by rw [bne_iff_ne]; omega
    clear e h2
    go_enter Try.func22, Try.ntmps22
    go_wp2_with (first | go_skip | ((with_reducible show wpList _ _ _ _ _ (World.alloc _ _)); refine wpList_up hm ?_; clear hm; intro n w hn hn2 hk hm hd hd2 ho; (try rw [← hn]); replace hn := Nat.le_of_eq hn.symm) | ((first | ((with_reducible show wpList _ _ _ (Oper.mk _ (Op.box _ _) _ _ _ _ :: _) _ _); (refine wpList_bx (by rfl) _ _ rfl _ (by simp only [Act.eval, Array.getD_eq_getD_getElem?, List.getElem?_toArray, List.getElem?_cons_succ, List.getElem?_cons_zero, Option.getD_some]; first | done | exact rfl) _ (by simp only [Value.cells]; first | done | exact rfl) hm ?_; clear hm; intro n w hn hz hm ho; (try simp only [List.cons_append, List.nil_append] at hm))) | ((with_reducible show wpList _ _ _ (Oper.mk _ (Op.load _ _) _ _ _ _ :: _) _ _); first | (refine wpList_ldS (by rfl) _ _ rfl _ _ rfl hm _ _ (by repeat (first | apply In.a | apply In.b)) (by decide +kernel) _ (by simp only [List.getElem?_toArray, List.getElem?_cons_succ, List.getElem?_cons_zero]; first | done | exact rfl) ?_) | (refine wpList_laS (by rfl) _ _ rfl _ _ rfl hm _ _ (by repeat (first | apply In.a | apply In.b)) (by kernel_rfl) _ (by rfl) (by kernel_rfl) (by simp) _ (by simp only [List.toList_toArray, List.drop_succ_cons, List.drop_zero, List.size_toArray, List.length_cons, List.length_nil, Nat.reduceAdd, List.take_succ_cons, List.take_zero]; first | done | exact rfl) ?_)) | ((with_reducible show wpList _ _ _ (Oper.mk _ (Op.store _ _ _) _ _ _ _ :: _) _ _); (refine wpList_stS (by rfl) _ _ _ rfl _ _ rfl _ (by simp only [Act.eval, Array.getD_eq_getD_getElem?, List.getElem?_toArray, List.getElem?_cons_succ, List.getElem?_cons_zero, Option.getD_some]; first | done | exact rfl) hm _ (by simp only [Value.cells]; first | done | exact rfl) _ _ _ _ (by repeat (first | apply Put.a | apply Put.b)) (by kernel_rfl) (by simp [Value.oneCell']) (by simp) (by simp only [List.set_cons_zero, List.set_cons_succ, spl, List.toList_toArray, List.size_toArray, List.length_cons, List.length_nil, Nat.reduceAdd, Nat.zero_add, List.take_succ_cons, List.take_zero, List.drop_succ_cons, List.drop_zero, List.drop_nil, List.cons_append, List.nil_append, List.append_nil]; first | done | exact rfl) ?_; clear hm; intro w hz hm ho)) | ((with_reducible show wpList _ _ _ (Oper.mk _ (Op.alloc _) _ _ _ _ :: _) _ _); (refine wpList_al (by rfl) _ rfl _ rfl _ (by simp only [Value.cells]; first | done | exact rfl) hm ?_; clear hm; intro n w hn hz hm ho; (try simp only [List.cons_append, List.nil_append] at hm)))); try simp only [Act.put, List.setIfInBounds_toArray, List.set_cons_zero, List.set_cons_succ]))
    refine bodyPost_ret (results_row_tmp rfl _ _ _ _ _ (0, 0) _ rfl (by exact hm.at_ 2 rfl) Try.underlying39 rfl (by kernel_rfl)) rfl ?_
    exact ⟨_, none, 0, rfl, HH.out.below hm.low, fun _ hF => hF.old, Own.none_ _ _ _ _ _, hm.low⟩
end Go.Proofs.Ytpacdjkikbdkeaa
