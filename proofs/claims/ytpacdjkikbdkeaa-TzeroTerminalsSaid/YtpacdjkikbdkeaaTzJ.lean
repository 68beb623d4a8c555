/-
  The walk of the card's Reply.
-/
import Derived.Test.YtpacdjkikbdkeaaZ0
import Derived.Test.YtpacdjkikbdkeaaTzI
import Derived.Test.YtpacdjkikbdkeaaZ1
namespace Go.Proofs.Ytpacdjkikbdkeaa
set_option maxRecDepth 100000
set_option linter.unusedSimpArgs false
set_option linter.unusedVariables false
open Go.RowKit Go.Maps
set_option maxHeartbeats 8000000

theorem CardAt.replied {w w' : World} {g : Nat} {F : Nat → Prop} {l : List Int} {gt : List UInt8} {cmd : Tz.Cmd} {kp : List UInt8} {sw : Int} {gm m : Nat} {A : Option Addr} {c : Nat} {h : Hd} {x : CV} {inc : Bool} {Ad : Option Addr} {cd : Nat}
    (H : CardAt w g F l ⟨2, gt, cmd, kp, sw⟩ gm m A c h x inc Ad cd) (ho : Only (fun q => q = g) w w')
    (hb : Blk w' g 78 (ccard gm (phV g 0) (.slice A gt.length c) h x inc (.slice Ad kp.length cd) sw)) (hok : Tz.Ok ⟨0, gt, Tz.S.zero.cmd, kp, sw⟩) : CardAt' w' g F l ⟨0, gt, Tz.S.zero.cmd, kp, sw⟩ :=
  ⟨gm, m, A, c, h, x, inc, Ad, cd, { ok := hok, blk := hb, fg := H.fg, fm := H.fm, mp := H.mp.only ho H.gm_ne, got := H.got.only' ho (fun q e e2 => by have e2 : q = g := e2; have := (H.got.lt _ e).1; omega), fa := H.fa, kept := ⟨H.kept.1.only ho (fun a ha hn e => (H.row a.block ⟨a, ha, hn, rfl⟩).2 e), H.kept.2⟩, row := H.row, fine := ⟨fun e => (by cases e), fun e => (by cases e)⟩, frow := fun e => (by cases e), lt := fun q hq => Nat.lt_of_lt_of_le (H.lt q hq) ho.size, gm_ne := H.gm_ne }⟩
theorem CardAt.stored {w w' : World} {g : Nat} {F : Nat → Prop} {l : List Int} {gt : List UInt8} {cmd : Tz.Cmd} {kp d : List UInt8} {sw sw' : Int} {gm m : Nat} {A : Option Addr} {c : Nat} {h : Hd} {x : CV} {inc : Bool} {Ad A2 : Option Addr} {cd c2 n2 : Nat}
    (H : CardAt w g F l ⟨2, gt, cmd, kp, sw⟩ gm m A c h x inc Ad cd) (ho : Only (fun q => q = g) w w') (hd : d ≠ []) (hn : d.length = n2)
    (hb : Blk w' g 78 (ccard gm (phV g 0) (.slice A gt.length c) h x inc (.slice A2 n2 c2) sw')) (hok : Tz.Ok ⟨0, gt, Tz.S.zero.cmd, d, sw'⟩) (hown : Own w' w.heap.size 5 1 A2 n2 c2 (bcells d)) : CardAt' w' g (grow w w' F) l ⟨0, gt, Tz.S.zero.cmd, d, sw'⟩ := by
  subst hn
  have hK := H.kept_ (ho.mono fun q _ e => .inl e)
  have hle := hown.le
  have hpos : 0 < d.length := List.length_pos_iff.2 hd
  have hq : ∀ a, A2 = some a → w.heap.size ≤ a.block ∧ a.block < w'.heap.size := fun a ha => hown.lt a.block (by unfold ownAt; rw [if_neg (by omega), ha]; rfl)
  have hg := H.blk.lt
  exact ⟨gm, m, A, c, h, x, inc, A2, c2, { ok := hok, blk := hb, fg := hK.fg, fm := hK.fm, mp := hK.mp, got := H.got.only' ho (fun q e e2 => by have e2 : q = g := e2; have := (H.got.lt _ e).1; omega), fa := fun q e => .inl (H.fa q e), kept := ⟨hown.byt (Nat.le_refl _), fun a ha => .inr (hq a ha)⟩, row := fun q ⟨a, ha, _, e⟩ => (by
    have h1 := hq a ha
    exact ⟨fun e2 => (by have := (H.got.lt _ e2).2; omega), by omega⟩), fine := ⟨fun e => (by cases e), fun e => (by cases e)⟩, frow := fun e => (by cases e), lt := hK.lt, gm_ne := hK.gm_ne }⟩
theorem Apd.erE_no {n : Nat} {sw : Int} (h : ¬ Apd.erE n sw = 0) : 65536 < n ∨ Apd.wrd sw = false := by
  unfold Apd.erE at h
  by_cases hbig : 65536 < n
  · exact .inl hbig
  · rw [if_neg hbig] at h
    cases hw : Apd.wrd sw with
    | true => rw [hw] at h; exact absurd rfl h
    | false => exact .inr rfl
theorem Apd.erE_yes {n : Nat} {sw : Int} (h : Apd.erE n sw = 0) : ¬ (65536 < n ∨ Apd.wrd sw = false) := by
  unfold Apd.erE at h
  rintro (hbig | hw)
  · rw [if_pos hbig] at h; cases h
  · rw [hw] at h; split at h <;> cases h

set_option maxRecDepth 100000 in
theorem card_Reply (w0 : World) (g : Nat) (F : Nat → Prop) (l : List Int) (s : Tz.S) (H : CardAt' w0 g F l s) (B : Option Addr) (dn dc : Nat) (d : List UInt8) (sw : Int) (hb : BytO w0 F B dn dc d) (hdn : dn ≤ 1000000) :
    Calls Try.prog 21 #[.pointer (some ⟨g, 0, none⟩), .agg #[.slice B dn dc, .int .i64 sw]] w0 (PhRes' w0 g F l (Tz.reply l s d sw).1 (Tz.reply l s d sw).2) := by
  have hfn1 := fun (fn : Fn) (a b : Array Value) (w : World) => neq_func_nil (P := Try.prog) Try.underlying74 fn a b w
  have hfn2 := fun (w : World) => neq_nil_nil (P := Try.prog) Try.underlying74 w
  have hmf := fun fn a b u => make_func (P := Try.prog) fn a b u
  have hl := Lib.hid hb.1.1
  by_cases h2 : s.ph = 2
  · obtain ⟨gm, m, A, c, h, x, inc, Ad, cd, H⟩ := H
    have hok2 := H.ok.reply l d sw
    have hblk := H.blk
    obtain ⟨ph, gt, ⟨cla, ins, p1, p2, cd', le⟩, kp, sw0⟩ := s
    obtain rfl : ph = 2 := h2
    obtain rfl : gt = [] := H.ok.wt rfl
    obtain ⟨h0, h1, h2, h3, h4⟩ := h
    obtain ⟨x0, x1, x2, x3, ⟨xa, xn, xc, xb⟩, x5, x6⟩ := x
    obtain ⟨f0, f1, f2, f3, f4, f5, f6, f7, f8⟩ := H.fine.wait rfl
    simp only at f0 f1 f2 f3 f4 f5 f6 f8
    subst f0 f1 f2 f3 f4 f5 f6
    have HF := Lib.hid (fun q (e : q = g) => show F q from e ▸ H.fg)
    have HB : Hid (∀ u : World, Only (fun q => q = g) w0 u → Byt u u.heap.size B dn dc d) := by
      show ∀ u, _; intro u ho; exact hb.1.only ho (fun a ha hn e => hb.2 a ha hn (HF.out _ e))
    have hm : Mem (fun q => q = g) w0 w0 [⟨g, _, _⟩] [] := Mem.one hblk rfl
    simp only [ccard, phV, Tz.S.gotc, SV.val] at hm
    rw [if_neg (by decide : ¬ 2 = 0), if_neg (by decide : ¬ 2 = 1), if_neg (by decide : ¬ 2 = 1)] at hm
    simp only [List.length_nil] at hm
    have HH := Lib.hid H
    have hin := H.ok.c1
    have hle := H.ok.le
    simp only at hin hle
    clear hblk hb f7 H
    by_cases e1 : Apd.erE dn sw = 0
    · have e3 := Apd.erE_yes e1
      have hw : Apd.wrd sw = true := by
        cases h : Apd.wrd sw with
        | true => rfl
        | false => exact absurd (.inr h) e3
      have i1 : (Apd.erE dn sw != 0) = false := by rw [bne_eq_false_iff_eq]; exact e1
      by_cases e2 : d = []
      · have e : Tz.reply l ⟨2, [], ⟨x0, x1, x2, x3, xb, x5⟩, kp, sw0⟩ d sw = (⟨0, [], Tz.S.zero.cmd, kp, sw0⟩, Tz.wd sw) := by
          unfold Tz.reply
          rw [if_neg (by simp), if_neg (by rw [hl.out]; exact e3), if_pos e2]
        rw [e] at hok2 ⊢
        have i2 : ((dn : Int) == 0) = true := by rw [beq_iff_eq]; have := hl.out; rw [e2] at this; simp at this; omega
        clear e e1 e3 f8 e2 hw
        clear hl
        go_enter Try.func21, Try.ntmps21
        go_wp2_with (first | go_skip | ((with_reducible show wpList _ _ _ _ _ (World.alloc _ _)); refine wpList_up hm ?_; clear hm; intro n w hn hn2 hk hm hd hd2 ho; (try rw [← hn]); replace hn := Nat.le_of_eq hn.symm) | ((first | ((with_reducible show wpList _ _ _ (Oper.mk _ (Op.box _ _) _ _ _ _ :: _) _ _); (refine wpList_bx (by rfl) _ _ rfl _ (by simp only [Act.eval, Array.getD_eq_getD_getElem?, List.getElem?_toArray, List.getElem?_cons_succ, List.getElem?_cons_zero, Option.getD_some]; first | done | exact rfl) _ (by simp only [Value.cells]; first | done | exact rfl) hm ?_; clear hm; intro n w hn hz hm ho; (try simp only [List.cons_append, List.nil_append] at hm))) | ((with_reducible show wpList _ _ _ (Oper.mk _ (Op.load _ _) _ _ _ _ :: _) _ _); first | (refine wpList_ldS (by rfl) _ _ rfl _ _ rfl hm _ _ (by repeat (first | apply In.a | apply In.b)) (by decide +kernel) _ (by simp only [List.getElem?_toArray, List.getElem?_cons_succ, List.getElem?_cons_zero]; first | done | exact rfl) ?_) | (refine wpList_laS (by rfl) _ _ rfl _ _ rfl hm _ _ (by repeat (first | apply In.a | apply In.b)) (by kernel_rfl) _ (by rfl) (by kernel_rfl) (by simp) _ (by simp only [List.toList_toArray, List.drop_succ_cons, List.drop_zero, List.size_toArray, List.length_cons, List.length_nil, Nat.reduceAdd, List.take_succ_cons, List.take_zero]; first | done | exact rfl) ?_)) | ((with_reducible show wpList _ _ _ (Oper.mk _ (Op.store _ _ _) _ _ _ _ :: _) _ _); (refine wpList_stS (by rfl) _ _ _ rfl _ _ rfl _ (by simp only [Act.eval, Array.getD_eq_getD_getElem?, List.getElem?_toArray, List.getElem?_cons_succ, List.getElem?_cons_zero, Option.getD_some]; first | done | exact rfl) hm _ (by simp only [Value.cells]; first | done | exact rfl) _ _ _ _ (by repeat (first | apply Put.a | apply Put.b)) (by kernel_rfl) (by simp [Value.oneCell']) (by simp) (by simp only [List.set_cons_zero, List.set_cons_succ, spl, List.toList_toArray, List.size_toArray, List.length_cons, List.length_nil, Nat.reduceAdd, Nat.zero_add, List.take_succ_cons, List.take_zero, List.drop_succ_cons, List.drop_zero, List.drop_nil, List.cons_append, List.nil_append, List.append_nil]; first | done | exact rfl) ?_; clear hm; intro w hz hm ho)) | ((with_reducible show wpList _ _ _ (Oper.mk _ (Op.alloc _) _ _ _ _ :: _) _ _); (refine wpList_al (by rfl) _ rfl _ rfl _ (by simp only [Value.cells]; first | done | exact rfl) hm ?_; clear hm; intro n w hn hz hm ho; (try simp only [List.cons_append, List.nil_append] at hm)))); try simp only [Act.put, List.setIfInBounds_toArray, List.set_cons_zero, List.set_cons_succ]) | (go_at_call 38; refine (card_made g gm _ (by exact (hm.at_ 0 rfl).cell 0)).mono ?_; rintro e w' ⟨rfl, rfl⟩) | (go_at_call 43; refine (apdu_EncodeResponse B dn dc d sw _ (by exact HB.out _ hm.only) hdn).mono ?_; rintro e w2 ⟨A2, c2, rfl, hown, hbl⟩; replace hm := hm.below hbl; clear hown) | (go_at_call 44; refine (tz_status _ _).mono ?_; rintro e w2 ⟨A2, c2, rfl, hown, hbl⟩))
        go_ret
        exact PhRes'.fin (HH.out.replied hm.only (hm.at_ 0 rfl) hok2) (hm.only.mono fun _ _ e => HF.out _ e) (fun q e => .inl e) ⟨A2, c2, rfl, hown, hbl⟩
      · have i2 : ((dn : Int) == 0) = false := by rw [beq_eq_false_iff_ne]; have := hl.out; have := List.length_pos_iff.2 e2; omega
        by_cases e4 : Tz.inc l x0 x1 = false ∧ (d.length : Int) = x5
        · obtain ⟨e5, e6⟩ := e4
          have e : Tz.reply l ⟨2, [], ⟨x0, x1, x2, x3, xb, x5⟩, kp, sw0⟩ d sw = (⟨0, [], Tz.S.zero.cmd, kp, sw0⟩, Tz.byte x1 :: d ++ Tz.wd sw) := by
            unfold Tz.reply
            rw [if_neg (by simp), if_neg (by rw [hl.out]; exact e3), if_neg e2, if_pos ⟨e5, e6⟩]
          rw [e] at hok2 ⊢
          have i3 : ((dn : Int) == x5) = true := by rw [beq_iff_eq, ← hl.out]; exact e6
          obtain rfl : inc = false := f8.trans e5
          have hwr : IntKind.u8.wrap x1 = x1 := by rw [IntKind.wrap_u8]; omega
          have HX : Hid (x1 % 256 = x1) := by show _ = _; omega
          have HDL : Hid (d.length ≤ 65536) := by
            show _ ≤ _
            rcases Nat.lt_or_ge 65536 dn with h | h
            · exact absurd (.inl h) e3
            · have := hl.out; omega
          clear e e1 e3 f8 e2 e5 e6 hw
          go_enter Try.func21, Try.ntmps21
          go_wp2_with (first | go_skip | ((with_reducible show wpList _ _ _ _ _ (World.alloc _ _)); refine wpList_up hm ?_; clear hm; intro n w hn hn2 hk hm hd hd2 ho; (try rw [← hn]); replace hn := Nat.le_of_eq hn.symm) | ((first | ((with_reducible show wpList _ _ _ (Oper.mk _ (Op.box _ _) _ _ _ _ :: _) _ _); (refine wpList_bx (by rfl) _ _ rfl _ (by simp only [Act.eval, Array.getD_eq_getD_getElem?, List.getElem?_toArray, List.getElem?_cons_succ, List.getElem?_cons_zero, Option.getD_some]; first | done | exact rfl) _ (by simp only [Value.cells]; first | done | exact rfl) hm ?_; clear hm; intro n w hn hz hm ho; (try simp only [List.cons_append, List.nil_append] at hm))) | ((with_reducible show wpList _ _ _ (Oper.mk _ (Op.load _ _) _ _ _ _ :: _) _ _); first | (refine wpList_ldS (by rfl) _ _ rfl _ _ rfl hm _ _ (by repeat (first | apply In.a | apply In.b)) (by decide +kernel) _ (by simp only [List.getElem?_toArray, List.getElem?_cons_succ, List.getElem?_cons_zero]; first | done | exact rfl) ?_) | (refine wpList_laS (by rfl) _ _ rfl _ _ rfl hm _ _ (by repeat (first | apply In.a | apply In.b)) (by kernel_rfl) _ (by rfl) (by kernel_rfl) (by simp) _ (by simp only [List.toList_toArray, List.drop_succ_cons, List.drop_zero, List.size_toArray, List.length_cons, List.length_nil, Nat.reduceAdd, List.take_succ_cons, List.take_zero]; first | done | exact rfl) ?_)) | ((with_reducible show wpList _ _ _ (Oper.mk _ (Op.store _ _ _) _ _ _ _ :: _) _ _); (refine wpList_stS (by rfl) _ _ _ rfl _ _ rfl _ (by simp only [Act.eval, Array.getD_eq_getD_getElem?, List.getElem?_toArray, List.getElem?_cons_succ, List.getElem?_cons_zero, Option.getD_some]; first | done | exact rfl) hm _ (by simp only [Value.cells]; first | done | exact rfl) _ _ _ _ (by repeat (first | apply Put.a | apply Put.b)) (by kernel_rfl) (by simp [Value.oneCell']) (by simp) (by simp only [List.set_cons_zero, List.set_cons_succ, spl, List.toList_toArray, List.size_toArray, List.length_cons, List.length_nil, Nat.reduceAdd, Nat.zero_add, List.take_succ_cons, List.take_zero, List.drop_succ_cons, List.drop_zero, List.drop_nil, List.cons_append, List.nil_append, List.append_nil]; first | done | exact rfl) ?_; clear hm; intro w hz hm ho)) | ((with_reducible show wpList _ _ _ (Oper.mk _ (Op.alloc _) _ _ _ _ :: _) _ _); (refine wpList_al (by rfl) _ rfl _ rfl _ (by simp only [Value.cells]; first | done | exact rfl) hm ?_; clear hm; intro n w hn hz hm ho; (try simp only [List.cons_append, List.nil_append] at hm)))); try simp only [Act.put, List.setIfInBounds_toArray, List.set_cons_zero, List.set_cons_succ]) | (go_at_call 38; refine (card_made g gm _ (by exact (hm.at_ 0 rfl).cell 0)).mono ?_; rintro e w' ⟨rfl, rfl⟩) | (go_at_call 43; refine (apdu_EncodeResponse B dn dc d sw _ (by exact HB.out _ hm.only) hdn).mono ?_; rintro e w2 ⟨A2, c2, rfl, hown, hbl⟩; replace hm := hm.below hbl; clear hown))
          refine wp_region_quiet_lit (by kernel_rfl) (by kernel_rfl) ?_
          repeat (first | go_big_quiet_skip | ((with_reducible show wpQuiet _ _ _ _ (Oper.mk _ (Op.load _ _) _ _ _ _ :: _) _); first | (refine wpQuiet_ldS (by rfl) _ _ rfl _ _ rfl hm _ _ (by repeat (first | apply In.a | apply In.b)) (by decide +kernel) _ (by simp only [List.getElem?_toArray, List.getElem?_cons_succ, List.getElem?_cons_zero]; first | done | exact rfl) ?_; (try simp only [Act.put, List.setIfInBounds_toArray, List.set_cons_zero, List.set_cons_succ]))) | go_big_quiet_step (fail))
          refine wpQuiet_nil ?_
          rintro _ ⟨nq, rfl⟩
          replace hm := hm.drewN nq
          go_wp2_with fail
          refine wp_region_noPanic ?_
          refine wp_region_held_drew (S := MemS _ _ _ _) (by kernel_rfl) (MemS.of hm.drew) (fun hHeld => ?_)
          refine wpAnyH_fresh (by repeat (first | apply Fresh.a | apply Fresh.b)) ?_
          replace hm := hm.drew
          iterate 6 (first | (refine wpAnyH_take3 (b := 0) (by repeat (first | apply Seek.a | apply Seek.b | apply Seek.c)) (by simp only [List.getElem?_toArray, List.getElem?_cons_succ, List.getElem?_cons_zero]; first | done | exact rfl) ⟨?_, by kernel_rfl, by kernel_rfl, by kernel_rfl, fun _ _ _ h => h, Or.inr ⟨by rfl, rfl⟩, hHeld, ?_⟩) | (refine wpAnyH_take3 (b := 0) (by repeat (first | apply Seek.a | apply Seek.b | apply Seek.c)) (by simp only [List.getElem?_toArray, List.getElem?_cons_succ, List.getElem?_cons_zero]; first | done | exact rfl) ⟨?_, by kernel_rfl, by kernel_rfl, by kernel_rfl, fun _ _ _ h => h, Or.inl ⟨by rfl, ?_⟩, hHeld, ?_⟩; rotate_left 1; (first | (intro w9 h9; (with_reducible show (execOp _ (Oper.mk _ (Op.load _ _) _ _ _ _)).run _ _ = _); (first | (exact MemS.ldS h9 _ _ rfl _ _ rfl _ _ (by repeat (first | apply In.a | apply In.b)) (by decide +kernel) _ (by simp only [List.getElem?_toArray, List.getElem?_cons_succ, List.getElem?_cons_zero]; first | done | exact rfl)))) | focus (intro w9 hSw; go_simp; (try (with_reducible rfl)); done))); try simp only [Act.put, List.setIfInBounds_toArray, List.set_cons_zero, List.set_cons_succ])
          iterate 4 (first | (refine wpAnyH_take3 (b := 7) (by repeat (first | apply Seek.a | apply Seek.b | apply Seek.c)) (by simp only [List.getElem?_toArray, List.getElem?_cons_succ, List.getElem?_cons_zero]; first | done | exact rfl) ⟨?_, by kernel_rfl, by kernel_rfl, by kernel_rfl, fun _ _ _ h => h, Or.inr ⟨by rfl, rfl⟩, hHeld, ?_⟩) | (refine wpAnyH_take3 (b := 7) (by repeat (first | apply Seek.a | apply Seek.b | apply Seek.c)) (by simp only [List.getElem?_toArray, List.getElem?_cons_succ, List.getElem?_cons_zero]; first | done | exact rfl) ⟨?_, by kernel_rfl, by kernel_rfl, by kernel_rfl, fun _ _ _ h => h, Or.inl ⟨by rfl, ?_⟩, hHeld, ?_⟩; rotate_left 1; (first | (intro w9 h9; (with_reducible show (execOp _ (Oper.mk _ (Op.load _ _) _ _ _ _)).run _ _ = _); (first | (exact MemS.ldS h9 _ _ rfl _ _ rfl _ _ (by repeat (first | apply In.a | apply In.b)) (by decide +kernel) _ (by simp only [List.getElem?_toArray, List.getElem?_cons_succ, List.getElem?_cons_zero]; first | done | exact rfl)))) | focus (intro w9 hSw; go_simp; (try (with_reducible rfl)); done))); try simp only [Act.put, List.setIfInBounds_toArray, List.set_cons_zero, List.set_cons_succ])
          refine wpAnyH_ready (rs := [6, 11]) (by kernel_rfl) (by simp) ?_
          refine AllReadyH.cons3 (by simp only [List.getElem?_toArray, List.getElem?_cons_succ, List.getElem?_cons_zero]; first | done | exact rfl) (fun K hK => ?_) (AllReadyH.cons2 (by simp only [List.getElem?_toArray, List.getElem?_cons_succ, List.getElem?_cons_zero]; first | done | exact rfl) (fun K hK => ?_))
          · rw [if_pos (by rfl)]
            go_simp
            refine K_up hm ?_
            intro n5 w5 hn n5s hn5 hm1 n5d n5d2 hb1
            first | rw [← hn] | (rw [← (show _ = w2.heap.size from hn)]) | skip
            clear hn hm
            have hm := hm1
            clear hm1
            refine hK.out _ _ (MemS.of hm) (fun hHeld => ?_)
            clear hK K
            try simp only [Act.put, List.setIfInBounds_toArray, List.set_cons_zero, List.set_cons_succ]
            have hk := hn5
            clear hn5
            refine wpAnyH_ready (rs := [11]) (by kernel_rfl) (by simp) ?_
            refine AllReadyH.cons2 (by simp only [List.getElem?_toArray, List.getElem?_cons_succ, List.getElem?_cons_zero]; first | done | exact rfl) (fun K hK => ?_)
            rw [if_pos (by rfl)]
            go_simp
            refine (tz_status _ _).mono ?_
            rintro e w6 ⟨A6, c6, rfl, hst, hb6⟩
            replace hm := hm.below hb6
            go_simp
            have hk := hk.below hb6 hk.lt
            refine hK.out _ _ (MemS.of hm) (fun hHeld => ?_)
            clear hK K
            try simp only [Act.put, List.setIfInBounds_toArray, List.set_cons_zero, List.set_cons_succ]
            refine wpAnyH_ready (rs := [12]) (by kernel_rfl) (by simp) ?_
            refine AllReadyH.cons2 (by simp only [List.getElem?_toArray, List.getElem?_cons_succ, List.getElem?_cons_zero]; first | done | exact rfl) (fun K hK => ?_)
            rw [if_pos (by rfl)]
            go_simp
            refine K_up hm ?_
            intro n7 w7 hn n7s hn7 hm1 n7d n7d2 hb1
            first | rw [← hn] | (rw [← (show _ = w2.heap.size from hn)]) | skip
            clear hn hm
            have hm := hm1
            clear hm1
            have hk := hk.below hb1 hk.lt
            have hst := hst.below hb1
            refine hK.out _ _ (MemS.of hm) (fun hHeld => ?_)
            clear hK K
            try simp only [Act.put, List.setIfInBounds_toArray, List.set_cons_zero, List.set_cons_succ]
            refine wpAnyH_ready (rs := [13]) (by kernel_rfl) (by simp) ?_
            refine AllReadyH.cons2 (by simp only [List.getElem?_toArray, List.getElem?_cons_succ, List.getElem?_cons_zero]; first | done | exact rfl) (fun K hK => ?_)
            rw [if_pos (by rfl)]
            go_simp
            have hJ : Byts w7 w7.heap.size (some ⟨n7, 0, none⟩) [⟨some ⟨n5, 0, none⟩, 1, 1, [Tz.byte x1]⟩, ⟨B, dn, dc, d⟩, ⟨A6, 2, c6, Tz.wd sw⟩] := by
              refine ⟨hn7.row, fun v hv => ?_⟩
              rcases List.mem_cons.1 hv with rfl | hv
              · exact byt_blk (by have : (bcells [Tz.byte x1]).toArray = #[.int .u8 x1] := by simp only [bcells, List.map_cons, List.map_nil, Tz.B8_byte]; rw [HX.out]
                                  rw [this]; exact hk) hk.lt rfl
              rcases List.mem_cons.1 hv with rfl | hv
              · exact HB.out _ hm.only
              · obtain rfl := List.mem_singleton.1 hv
                exact hst.byt (Nat.le_refl _)
            have hjo : joined [⟨some ⟨n5, 0, none⟩, 1, 1, [Tz.byte x1]⟩, ⟨B, dn, dc, d⟩, ⟨A6, 2, c6, Tz.wd sw⟩] = Tz.byte x1 :: d ++ Tz.wd sw := by simp [joined]
            have hC := slices_Concat (some ⟨n7, 0, none⟩) 3 3 _ w7 hJ rfl (by omega) (by rw [hjo]; simp [Tz.wd]; have := HDL.out; omega)
            rw [hjo] at hC
            refine hC.mono ?_
            clear hC
            rintro e w8 ⟨A8, c8, rfl, hown, hb8⟩
            have HW := Lib.hid (And.intro hown (And.intro hb8 hm))
            clear hown hst hk hn7 hjo hJ
            go_simp
            refine hK.out _ _ (MemS.of (HW.out.2.2.below HW.out.2.1)) (fun hHeld => ?_)
            clear hK K
            try simp only [Act.put, List.setIfInBounds_toArray, List.set_cons_zero, List.set_cons_succ]
            iterate 1 (first | (refine wpAnyH_take3 (b := 14) (by repeat (first | apply Seek.a | apply Seek.b | apply Seek.c)) (by simp only [List.getElem?_toArray, List.getElem?_cons_succ, List.getElem?_cons_zero]; first | done | exact rfl) ⟨?_, by kernel_rfl, by kernel_rfl, by kernel_rfl, fun _ _ _ h => h, Or.inr ⟨by rfl, rfl⟩, hHeld, ?_⟩) | (refine wpAnyH_take3 (b := 14) (by repeat (first | apply Seek.a | apply Seek.b | apply Seek.c)) (by simp only [List.getElem?_toArray, List.getElem?_cons_succ, List.getElem?_cons_zero]; first | done | exact rfl) ⟨?_, by kernel_rfl, by kernel_rfl, by kernel_rfl, fun _ _ _ h => h, Or.inl ⟨by rfl, ?_⟩, hHeld, ?_⟩; rotate_left 1; (first | (intro w9 h9; (with_reducible show (execOp _ (Oper.mk _ (Op.load _ _) _ _ _ _)).run _ _ = _); (first | (exact MemS.ldS h9 _ _ rfl _ _ rfl _ _ (by repeat (first | apply In.a | apply In.b)) (by decide +kernel) _ (by simp only [List.getElem?_toArray, List.getElem?_cons_succ, List.getElem?_cons_zero]; first | done | exact rfl)))) | focus (intro w9 hSw; go_simp; (try (with_reducible rfl)); done))); try simp only [Act.put, List.setIfInBounds_toArray, List.set_cons_zero, List.set_cons_succ])
            refine wpAnyH_done (by kernel_rfl) ?_ _
            refine NoPanic.normal ?_
            go_wp2_with fail
            go_ret
            obtain ⟨hown, hb8, hm⟩ := HW.out
            exact PhRes'.fin (HH.out.replied hm.only (hm.at_ 0 rfl) hok2) (hm.only.mono fun _ _ e => HF.out _ e) (fun q e => .inl e) ⟨A8, c8, (by rw [List.length_cons, List.length_append]; rfl), hown, hb8⟩
          · rw [if_pos (by rfl)]
            go_simp
            refine (tz_status _ _).mono ?_
            rintro e w6 ⟨A6, c6, rfl, hst, hb6⟩
            replace hm := hm.below hb6
            go_simp
            refine hK.out _ _ (MemS.of hm) (fun hHeld => ?_)
            clear hK K
            try simp only [Act.put, List.setIfInBounds_toArray, List.set_cons_zero, List.set_cons_succ]
            refine wpAnyH_ready (rs := [6]) (by kernel_rfl) (by simp) ?_
            refine AllReadyH.cons2 (by simp only [List.getElem?_toArray, List.getElem?_cons_succ, List.getElem?_cons_zero]; first | done | exact rfl) (fun K hK => ?_)
            rw [if_pos (by rfl)]
            go_simp
            refine K_up hm ?_
            intro n5 w5 hn n5s hn5 hm1 n5d n5d2 hb1
            first | rw [← hn] | (rw [← (show _ = w2.heap.size from hn)]) | skip
            clear hn hm
            have hm := hm1
            clear hm1
            have hst := hst.below hb1
            refine hK.out _ _ (MemS.of hm) (fun hHeld => ?_)
            clear hK K
            try simp only [Act.put, List.setIfInBounds_toArray, List.set_cons_zero, List.set_cons_succ]
            have hk := hn5
            clear hn5
            refine wpAnyH_ready (rs := [12]) (by kernel_rfl) (by simp) ?_
            refine AllReadyH.cons2 (by simp only [List.getElem?_toArray, List.getElem?_cons_succ, List.getElem?_cons_zero]; first | done | exact rfl) (fun K hK => ?_)
            rw [if_pos (by rfl)]
            go_simp
            refine K_up hm ?_
            intro n7 w7 hn n7s hn7 hm1 n7d n7d2 hb1
            first | rw [← hn] | (rw [← (show _ = w2.heap.size from hn)]) | skip
            clear hn hm
            have hm := hm1
            clear hm1
            have hk := hk.below hb1 hk.lt
            have hst := hst.below hb1
            refine hK.out _ _ (MemS.of hm) (fun hHeld => ?_)
            clear hK K
            try simp only [Act.put, List.setIfInBounds_toArray, List.set_cons_zero, List.set_cons_succ]
            refine wpAnyH_ready (rs := [13]) (by kernel_rfl) (by simp) ?_
            refine AllReadyH.cons2 (by simp only [List.getElem?_toArray, List.getElem?_cons_succ, List.getElem?_cons_zero]; first | done | exact rfl) (fun K hK => ?_)
            rw [if_pos (by rfl)]
            go_simp
            have hJ : Byts w7 w7.heap.size (some ⟨n7, 0, none⟩) [⟨some ⟨n5, 0, none⟩, 1, 1, [Tz.byte x1]⟩, ⟨B, dn, dc, d⟩, ⟨A6, 2, c6, Tz.wd sw⟩] := by
              refine ⟨hn7.row, fun v hv => ?_⟩
              rcases List.mem_cons.1 hv with rfl | hv
              · exact byt_blk (by have : (bcells [Tz.byte x1]).toArray = #[.int .u8 x1] := by simp only [bcells, List.map_cons, List.map_nil, Tz.B8_byte]; rw [HX.out]
                                  rw [this]; exact hk) hk.lt rfl
              rcases List.mem_cons.1 hv with rfl | hv
              · exact HB.out _ hm.only
              · obtain rfl := List.mem_singleton.1 hv
                exact hst.byt (Nat.le_refl _)
            have hjo : joined [⟨some ⟨n5, 0, none⟩, 1, 1, [Tz.byte x1]⟩, ⟨B, dn, dc, d⟩, ⟨A6, 2, c6, Tz.wd sw⟩] = Tz.byte x1 :: d ++ Tz.wd sw := by simp [joined]
            have hC := slices_Concat (some ⟨n7, 0, none⟩) 3 3 _ w7 hJ rfl (by omega) (by rw [hjo]; simp [Tz.wd]; have := HDL.out; omega)
            rw [hjo] at hC
            refine hC.mono ?_
            clear hC
            rintro e w8 ⟨A8, c8, rfl, hown, hb8⟩
            have HW := Lib.hid (And.intro hown (And.intro hb8 hm))
            clear hown hst hk hn7 hjo hJ
            go_simp
            refine hK.out _ _ (MemS.of (HW.out.2.2.below HW.out.2.1)) (fun hHeld => ?_)
            clear hK K
            try simp only [Act.put, List.setIfInBounds_toArray, List.set_cons_zero, List.set_cons_succ]
            iterate 1 (first | (refine wpAnyH_take3 (b := 14) (by repeat (first | apply Seek.a | apply Seek.b | apply Seek.c)) (by simp only [List.getElem?_toArray, List.getElem?_cons_succ, List.getElem?_cons_zero]; first | done | exact rfl) ⟨?_, by kernel_rfl, by kernel_rfl, by kernel_rfl, fun _ _ _ h => h, Or.inr ⟨by rfl, rfl⟩, hHeld, ?_⟩) | (refine wpAnyH_take3 (b := 14) (by repeat (first | apply Seek.a | apply Seek.b | apply Seek.c)) (by simp only [List.getElem?_toArray, List.getElem?_cons_succ, List.getElem?_cons_zero]; first | done | exact rfl) ⟨?_, by kernel_rfl, by kernel_rfl, by kernel_rfl, fun _ _ _ h => h, Or.inl ⟨by rfl, ?_⟩, hHeld, ?_⟩; rotate_left 1; (first | (intro w9 h9; (with_reducible show (execOp _ (Oper.mk _ (Op.load _ _) _ _ _ _)).run _ _ = _); (first | (exact MemS.ldS h9 _ _ rfl _ _ rfl _ _ (by repeat (first | apply In.a | apply In.b)) (by decide +kernel) _ (by simp only [List.getElem?_toArray, List.getElem?_cons_succ, List.getElem?_cons_zero]; first | done | exact rfl)))) | focus (intro w9 hSw; go_simp; (try (with_reducible rfl)); done))); try simp only [Act.put, List.setIfInBounds_toArray, List.set_cons_zero, List.set_cons_succ])
            refine wpAnyH_done (by kernel_rfl) ?_ _
            refine NoPanic.normal ?_
            go_wp2_with fail
            go_ret
            obtain ⟨hown, hb8, hm⟩ := HW.out
            exact PhRes'.fin (HH.out.replied hm.only (hm.at_ 0 rfl) hok2) (hm.only.mono fun _ _ e => HF.out _ e) (fun q e => .inl e) ⟨A8, c8, (by rw [List.length_cons, List.length_append]; rfl), hown, hb8⟩
        · have e : Tz.reply l ⟨2, [], ⟨x0, x1, x2, x3, xb, x5⟩, kp, sw0⟩ d sw = (⟨0, [], Tz.S.zero.cmd, d, sw⟩, Tz.left 0x61 d.length) := by
            unfold Tz.reply
            rw [if_neg (by simp), if_neg (by rw [hl.out]; exact e3), if_neg e2, if_neg e4]
          rw [e] at hok2 ⊢
          have hcase : (inc = true) ∨ (inc = false ∧ ((dn : Int) == x5) = false) := by
            cases hi : inc with
            | true => exact .inl rfl
            | false => exact .inr ⟨rfl, by rw [beq_eq_false_iff_ne]; intro h; exact e4 ⟨f8.symm.trans hi, by rw [hl.out]; exact h⟩⟩
          have E2 := Lib.hid e2
          clear e e1 e3 f8 e2 e4 hw
          rcases hcase with rfl | ⟨rfl, i3⟩
          all_goals
            go_enter Try.func21, Try.ntmps21
            go_wp2_with (first | go_skip | ((with_reducible show wpList _ _ _ _ _ (World.alloc _ _)); refine wpList_up hm ?_; clear hm; intro n w hn hn2 hk hm hd hd2 ho; (try rw [← hn]); replace hn := Nat.le_of_eq hn.symm) | ((first | ((with_reducible show wpList _ _ _ (Oper.mk _ (Op.box _ _) _ _ _ _ :: _) _ _); (refine wpList_bx (by rfl) _ _ rfl _ (by simp only [Act.eval, Array.getD_eq_getD_getElem?, List.getElem?_toArray, List.getElem?_cons_succ, List.getElem?_cons_zero, Option.getD_some]; first | done | exact rfl) _ (by simp only [Value.cells]; first | done | exact rfl) hm ?_; clear hm; intro n w hn hz hm ho; (try simp only [List.cons_append, List.nil_append] at hm))) | ((with_reducible show wpList _ _ _ (Oper.mk _ (Op.load _ _) _ _ _ _ :: _) _ _); first | (refine wpList_ldS (by rfl) _ _ rfl _ _ rfl hm _ _ (by repeat (first | apply In.a | apply In.b)) (by decide +kernel) _ (by simp only [List.getElem?_toArray, List.getElem?_cons_succ, List.getElem?_cons_zero]; first | done | exact rfl) ?_) | (refine wpList_laS (by rfl) _ _ rfl _ _ rfl hm _ _ (by repeat (first | apply In.a | apply In.b)) (by kernel_rfl) _ (by rfl) (by kernel_rfl) (by simp) _ (by simp only [List.toList_toArray, List.drop_succ_cons, List.drop_zero, List.size_toArray, List.length_cons, List.length_nil, Nat.reduceAdd, List.take_succ_cons, List.take_zero]; first | done | exact rfl) ?_)) | ((with_reducible show wpList _ _ _ (Oper.mk _ (Op.store _ _ _) _ _ _ _ :: _) _ _); (refine wpList_stS (by rfl) _ _ _ rfl _ _ rfl _ (by simp only [Act.eval, Array.getD_eq_getD_getElem?, List.getElem?_toArray, List.getElem?_cons_succ, List.getElem?_cons_zero, Option.getD_some]; first | done | exact rfl) hm _ (by simp only [Value.cells]; first | done | exact rfl) _ _ _ _ (by repeat (first | apply Put.a | apply Put.b)) (by kernel_rfl) (by simp [Value.oneCell']) (by simp) (by simp only [List.set_cons_zero, List.set_cons_succ, spl, List.toList_toArray, List.size_toArray, List.length_cons, List.length_nil, Nat.reduceAdd, Nat.zero_add, List.take_succ_cons, List.take_zero, List.drop_succ_cons, List.drop_zero, List.drop_nil, List.cons_append, List.nil_append, List.append_nil]; first | done | exact rfl) ?_; clear hm; intro w hz hm ho)) | ((with_reducible show wpList _ _ _ (Oper.mk _ (Op.alloc _) _ _ _ _ :: _) _ _); (refine wpList_al (by rfl) _ rfl _ rfl _ (by simp only [Value.cells]; first | done | exact rfl) hm ?_; clear hm; intro n w hn hz hm ho; (try simp only [List.cons_append, List.nil_append] at hm)))); try simp only [Act.put, List.setIfInBounds_toArray, List.set_cons_zero, List.set_cons_succ]) | (go_at_call 38; refine (card_made g gm _ (by exact (hm.at_ 0 rfl).cell 0)).mono ?_; rintro e w' ⟨rfl, rfl⟩) | (go_at_call 43; refine (apdu_EncodeResponse B dn dc d sw _ (by exact HB.out _ hm.only) hdn).mono ?_; rintro e w2 ⟨A2, c2, rfl, hown, hbl⟩; replace hm := hm.below hbl; clear hown))
            refine wp_region_quiet_lit (by kernel_rfl) (by kernel_rfl) ?_
            repeat (first | go_big_quiet_skip | ((with_reducible show wpQuiet _ _ _ _ (Oper.mk _ (Op.load _ _) _ _ _ _ :: _) _); first | (refine wpQuiet_ldS (by rfl) _ _ rfl _ _ rfl hm _ _ (by repeat (first | apply In.a | apply In.b)) (by decide +kernel) _ (by simp only [List.getElem?_toArray, List.getElem?_cons_succ, List.getElem?_cons_zero]; first | done | exact rfl) ?_; (try simp only [Act.put, List.setIfInBounds_toArray, List.set_cons_zero, List.set_cons_succ]))) | go_big_quiet_step (fail))
            refine wpQuiet_nil ?_
            rintro _ ⟨nq, rfl⟩
            replace hm := hm.drewN nq
            go_wp2_with fail
            refine wp_region_noPanic ?_
            refine wp_region_held_drew (S := fun u => Blk u _ _ _) (by kernel_rfl) ((hm.at_ 1 rfl).drew) (fun hHeld => ?_)
            refine wpAnyH_fresh (by repeat (first | apply Fresh.a | apply Fresh.b)) ?_
            replace hm := hm.drew
            iterate 4 (first | (refine wpAnyH_take3 (b := 0) (by repeat (first | apply Seek.a | apply Seek.b | apply Seek.c)) (by simp only [List.getElem?_toArray, List.getElem?_cons_succ, List.getElem?_cons_zero]; first | done | exact rfl) ⟨?_, by kernel_rfl, by kernel_rfl, by kernel_rfl, fun _ _ _ h => h, Or.inr ⟨by rfl, rfl⟩, hHeld, ?_⟩) | (refine wpAnyH_take3 (b := 0) (by repeat (first | apply Seek.a | apply Seek.b | apply Seek.c)) (by simp only [List.getElem?_toArray, List.getElem?_cons_succ, List.getElem?_cons_zero]; first | done | exact rfl) ⟨?_, by kernel_rfl, by kernel_rfl, by kernel_rfl, fun _ _ _ h => h, Or.inl ⟨by rfl, ?_⟩, hHeld, ?_⟩; rotate_left 1; (first | (exact fun w9 h9 => exec_la h9 _ _ rfl rfl _ rfl (by kernel_rfl) (by kernel_rfl) (by simp) _ (by simp only [List.toList_toArray, List.drop_succ_cons, List.drop_zero, List.size_toArray, List.length_cons, List.length_nil, Nat.reduceAdd, List.take_succ_cons, List.take_zero]; first | done | exact rfl)) | (exact fun w9 h9 => exec_ld h9 _ _ rfl rfl (by decide +kernel) _ (by simp only [List.getElem?_toArray, List.getElem?_cons_succ, List.getElem?_cons_zero]; first | done | exact rfl)) | focus (intro w9 hSw; (try dsimp only at hSw); go_simp; try (with_reducible rfl)))); try simp only [Act.put, List.setIfInBounds_toArray, List.set_cons_zero, List.set_cons_succ])
            iterate 2 (first | (refine wpAnyH_take3 (b := 5) (by repeat (first | apply Seek.a | apply Seek.b | apply Seek.c)) (by simp only [List.getElem?_toArray, List.getElem?_cons_succ, List.getElem?_cons_zero]; first | done | exact rfl) ⟨?_, by kernel_rfl, by kernel_rfl, by kernel_rfl, fun _ _ _ h => h, Or.inr ⟨by rfl, rfl⟩, hHeld, ?_⟩) | (refine wpAnyH_take3 (b := 5) (by repeat (first | apply Seek.a | apply Seek.b | apply Seek.c)) (by simp only [List.getElem?_toArray, List.getElem?_cons_succ, List.getElem?_cons_zero]; first | done | exact rfl) ⟨?_, by kernel_rfl, by kernel_rfl, by kernel_rfl, fun _ _ _ h => h, Or.inl ⟨by rfl, ?_⟩, hHeld, ?_⟩; rotate_left 1; (first | (exact fun w9 h9 => exec_la h9 _ _ rfl rfl _ rfl (by kernel_rfl) (by kernel_rfl) (by simp) _ (by simp only [List.toList_toArray, List.drop_succ_cons, List.drop_zero, List.size_toArray, List.length_cons, List.length_nil, Nat.reduceAdd, List.take_succ_cons, List.take_zero]; first | done | exact rfl)) | (exact fun w9 h9 => exec_ld h9 _ _ rfl rfl (by decide +kernel) _ (by simp only [List.getElem?_toArray, List.getElem?_cons_succ, List.getElem?_cons_zero]; first | done | exact rfl)) | focus (intro w9 hSw; (try dsimp only at hSw); go_simp; try (with_reducible rfl)))); try simp only [Act.put, List.setIfInBounds_toArray, List.set_cons_zero, List.set_cons_succ])
            refine wpAnyH_ready (rs := [4]) (by kernel_rfl) (by simp) ?_
            refine AllReadyH.cons2 (by simp only [List.getElem?_toArray, List.getElem?_cons_succ, List.getElem?_cons_zero]; first | done | exact rfl) (fun K hK => ?_)
            rw [if_pos (by rfl)]
            go_simp
            refine (slices_Clone B dn dc d _ (by exact HB.out _ hm.only) (by omega)).mono ?_
            rintro e w5 ⟨A5, c5, rfl, hown, hbl⟩
            replace hm := hm.got hbl hown
            have hHeld2 := hHeld.below hbl hHeld.lt
            go_simp
            refine hK.out _ _ (hHeld2) (fun hHeld => ?_)
            clear hK K
            try simp only [Act.put, List.setIfInBounds_toArray, List.set_cons_zero, List.set_cons_succ]
            iterate 2 (first | (refine wpAnyH_take3 (b := 7) (by repeat (first | apply Seek.a | apply Seek.b | apply Seek.c)) (by simp only [List.getElem?_toArray, List.getElem?_cons_succ, List.getElem?_cons_zero]; first | done | exact rfl) ⟨?_, by kernel_rfl, by kernel_rfl, by kernel_rfl, fun _ _ _ h => h, Or.inr ⟨by rfl, rfl⟩, hHeld, ?_⟩) | (refine wpAnyH_take3 (b := 7) (by repeat (first | apply Seek.a | apply Seek.b | apply Seek.c)) (by simp only [List.getElem?_toArray, List.getElem?_cons_succ, List.getElem?_cons_zero]; first | done | exact rfl) ⟨?_, by kernel_rfl, by kernel_rfl, by kernel_rfl, fun _ _ _ h => h, Or.inl ⟨by rfl, ?_⟩, hHeld, ?_⟩; rotate_left 1; (first | (exact fun w9 h9 => exec_la h9 _ _ rfl rfl _ rfl (by kernel_rfl) (by kernel_rfl) (by simp) _ (by simp only [List.toList_toArray, List.drop_succ_cons, List.drop_zero, List.size_toArray, List.length_cons, List.length_nil, Nat.reduceAdd, List.take_succ_cons, List.take_zero]; first | done | exact rfl)) | (exact fun w9 h9 => exec_ld h9 _ _ rfl rfl (by decide +kernel) _ (by simp only [List.getElem?_toArray, List.getElem?_cons_succ, List.getElem?_cons_zero]; first | done | exact rfl)) | focus (intro w9 hSw; (try dsimp only at hSw); go_simp; try (with_reducible rfl)))); try simp only [Act.put, List.setIfInBounds_toArray, List.set_cons_zero, List.set_cons_succ])
            refine wpAnyH_ready (rs := [9]) (by kernel_rfl) (by simp) ?_
            refine AllReadyH.cons2 (by simp only [List.getElem?_toArray, List.getElem?_cons_succ, List.getElem?_cons_zero]; first | done | exact rfl) (fun K hK => ?_)
            refine step_stS (by rfl) _ _ _ rfl _ _ rfl _ (by simp only [Act.eval, Array.getD_eq_getD_getElem?, List.getElem?_toArray, List.getElem?_cons_succ, List.getElem?_cons_zero, Option.getD_some]; first | done | exact rfl) hm _ (by simp only [Value.cells]; first | done | exact rfl) _ _ _ _ (by repeat (first | apply Put.a | apply Put.b)) (by kernel_rfl) (by simp [Value.oneCell']) (by simp) (by simp only [List.set_cons_zero, List.set_cons_succ, spl, List.toList_toArray, List.size_toArray, List.length_cons, List.length_nil, Nat.reduceAdd, Nat.zero_add, List.take_succ_cons, List.take_zero, List.drop_succ_cons, List.drop_zero, List.drop_nil, List.cons_append, List.nil_append, List.append_nil]; first | done | exact rfl) ?_
            clear hm; intro w hz hm ho
            refine hK.out _ _ (hm.at_ 1 rfl) (fun hHeld => ?_)
            clear hK K
            try simp only [Act.put, List.setIfInBounds_toArray, List.set_cons_zero, List.set_cons_succ]
            iterate 2 (first | (refine wpAnyH_take3 (b := 10) (by repeat (first | apply Seek.a | apply Seek.b | apply Seek.c)) (by simp only [List.getElem?_toArray, List.getElem?_cons_succ, List.getElem?_cons_zero]; first | done | exact rfl) ⟨?_, by kernel_rfl, by kernel_rfl, by kernel_rfl, fun _ _ _ h => h, Or.inr ⟨by rfl, rfl⟩, hHeld, ?_⟩) | (refine wpAnyH_take3 (b := 10) (by repeat (first | apply Seek.a | apply Seek.b | apply Seek.c)) (by simp only [List.getElem?_toArray, List.getElem?_cons_succ, List.getElem?_cons_zero]; first | done | exact rfl) ⟨?_, by kernel_rfl, by kernel_rfl, by kernel_rfl, fun _ _ _ h => h, Or.inl ⟨by rfl, ?_⟩, hHeld, ?_⟩; rotate_left 1; (first | (exact fun w9 h9 => exec_la h9 _ _ rfl rfl _ rfl (by kernel_rfl) (by kernel_rfl) (by simp) _ (by simp only [List.toList_toArray, List.drop_succ_cons, List.drop_zero, List.size_toArray, List.length_cons, List.length_nil, Nat.reduceAdd, List.take_succ_cons, List.take_zero]; first | done | exact rfl)) | (exact fun w9 h9 => exec_ld h9 _ _ rfl rfl (by decide +kernel) _ (by simp only [List.getElem?_toArray, List.getElem?_cons_succ, List.getElem?_cons_zero]; first | done | exact rfl)) | focus (intro w9 hSw; (try dsimp only at hSw); go_simp; try (with_reducible rfl)))); try simp only [Act.put, List.setIfInBounds_toArray, List.set_cons_zero, List.set_cons_succ])
            refine wpAnyH_ready (rs := [12]) (by kernel_rfl) (by simp) ?_
            refine AllReadyH.cons2 (by simp only [List.getElem?_toArray, List.getElem?_cons_succ, List.getElem?_cons_zero]; first | done | exact rfl) (fun K hK => ?_)
            refine step_stS (by rfl) _ _ _ rfl _ _ rfl _ (by simp only [Act.eval, Array.getD_eq_getD_getElem?, List.getElem?_toArray, List.getElem?_cons_succ, List.getElem?_cons_zero, Option.getD_some]; first | done | exact rfl) hm _ (by simp only [Value.cells]; first | done | exact rfl) _ _ _ _ (by repeat (first | apply Put.a | apply Put.b)) (by kernel_rfl) (by simp [Value.oneCell']) (by simp) (by simp only [List.set_cons_zero, List.set_cons_succ, spl, List.toList_toArray, List.size_toArray, List.length_cons, List.length_nil, Nat.reduceAdd, Nat.zero_add, List.take_succ_cons, List.take_zero, List.drop_succ_cons, List.drop_zero, List.drop_nil, List.cons_append, List.nil_append, List.append_nil]; first | done | exact rfl) ?_
            clear hm; intro w hz hm ho
            refine hK.out _ _ (hm.at_ 1 rfl) (fun hHeld => ?_)
            clear hK K
            try simp only [Act.put, List.setIfInBounds_toArray, List.set_cons_zero, List.set_cons_succ]
            refine wpAnyH_done (by kernel_rfl) ?_ _
            refine NoPanic.normal ?_
            go_wp2_with (first | go_skip | ((with_reducible show wpList _ _ _ _ _ (World.alloc _ _)); refine wpList_up hm ?_; clear hm; intro n w hn hn2 hk hm hd hd2 ho; (try rw [← hn]); replace hn := Nat.le_of_eq hn.symm) | ((first | ((with_reducible show wpList _ _ _ (Oper.mk _ (Op.box _ _) _ _ _ _ :: _) _ _); (refine wpList_bx (by rfl) _ _ rfl _ (by simp only [Act.eval, Array.getD_eq_getD_getElem?, List.getElem?_toArray, List.getElem?_cons_succ, List.getElem?_cons_zero, Option.getD_some]; first | done | exact rfl) _ (by simp only [Value.cells]; first | done | exact rfl) hm ?_; clear hm; intro n w hn hz hm ho; (try simp only [List.cons_append, List.nil_append] at hm))) | ((with_reducible show wpList _ _ _ (Oper.mk _ (Op.load _ _) _ _ _ _ :: _) _ _); first | (refine wpList_ldS (by rfl) _ _ rfl _ _ rfl hm _ _ (by repeat (first | apply In.a | apply In.b)) (by decide +kernel) _ (by simp only [List.getElem?_toArray, List.getElem?_cons_succ, List.getElem?_cons_zero]; first | done | exact rfl) ?_) | (refine wpList_laS (by rfl) _ _ rfl _ _ rfl hm _ _ (by repeat (first | apply In.a | apply In.b)) (by kernel_rfl) _ (by rfl) (by kernel_rfl) (by simp) _ (by simp only [List.toList_toArray, List.drop_succ_cons, List.drop_zero, List.size_toArray, List.length_cons, List.length_nil, Nat.reduceAdd, List.take_succ_cons, List.take_zero]; first | done | exact rfl) ?_)) | ((with_reducible show wpList _ _ _ (Oper.mk _ (Op.store _ _ _) _ _ _ _ :: _) _ _); (refine wpList_stS (by rfl) _ _ _ rfl _ _ rfl _ (by simp only [Act.eval, Array.getD_eq_getD_getElem?, List.getElem?_toArray, List.getElem?_cons_succ, List.getElem?_cons_zero, Option.getD_some]; first | done | exact rfl) hm _ (by simp only [Value.cells]; first | done | exact rfl) _ _ _ _ (by repeat (first | apply Put.a | apply Put.b)) (by kernel_rfl) (by simp [Value.oneCell']) (by simp) (by simp only [List.set_cons_zero, List.set_cons_succ, spl, List.toList_toArray, List.size_toArray, List.length_cons, List.length_nil, Nat.reduceAdd, Nat.zero_add, List.take_succ_cons, List.take_zero, List.drop_succ_cons, List.drop_zero, List.drop_nil, List.cons_append, List.nil_append, List.append_nil]; first | done | exact rfl) ?_; clear hm; intro w hz hm ho)) | ((with_reducible show wpList _ _ _ (Oper.mk _ (Op.alloc _) _ _ _ _ :: _) _ _); (refine wpList_al (by rfl) _ rfl _ rfl _ (by simp only [Value.cells]; first | done | exact rfl) hm ?_; clear hm; intro n w hn hz hm ho; (try simp only [List.cons_append, List.nil_append] at hm)))); try simp only [Act.put, List.setIfInBounds_toArray, List.set_cons_zero, List.set_cons_succ]) | (go_at_call 46; refine (card_available _ A5 dn c5 _ _ (by exact (hm.at_ 0 rfl).cell 16)).mono ?_; rintro e w2 ⟨A2, c2, rfl, hown2, hbl2⟩))
            go_ret
            have hown := hm.fresh 0 rfl (fun q hq => ⟨_, List.mem_cons_self, hq.symm⟩)
            have hd := hl.out
            subst hd
            exact PhRes'.fin (HH.out.stored hm.only E2.out rfl (hm.at_ 0 rfl) hok2 hown) (hm.only.mono fun _ _ e => HF.out _ e) (fun q e => e.elim .inl (fun e => .inr e.1)) ⟨A2, c2, rfl, hown2, hbl2⟩
    · have e : Tz.reply l ⟨2, [], ⟨x0, x1, x2, x3, xb, x5⟩, kp, sw0⟩ d sw = (⟨0, [], Tz.S.zero.cmd, kp, sw0⟩, Tz.wd 0x6F00) := by
        unfold Tz.reply
        rw [if_neg (by simp), if_pos (by rw [hl.out]; exact Apd.erE_no e1)]
      rw [e] at hok2 ⊢
      have i1 : (Apd.erE dn sw != 0) = true := by rw [bne_iff_ne]; exact e1
      clear e e1 f8
      go_enter Try.func21, Try.ntmps21
      go_wp2_with (first | go_skip | ((with_reducible show wpList _ _ _ _ _ (World.alloc _ _)); refine wpList_up hm ?_; clear hm; intro n w hn hn2 hk hm hd hd2 ho; (try rw [← hn]); replace hn := Nat.le_of_eq hn.symm) | ((first | ((with_reducible show wpList _ _ _ (Oper.mk _ (Op.box _ _) _ _ _ _ :: _) _ _); (refine wpList_bx (by rfl) _ _ rfl _ (by simp only [Act.eval, Array.getD_eq_getD_getElem?, List.getElem?_toArray, List.getElem?_cons_succ, List.getElem?_cons_zero, Option.getD_some]; first | done | exact rfl) _ (by simp only [Value.cells]; first | done | exact rfl) hm ?_; clear hm; intro n w hn hz hm ho; (try simp only [List.cons_append, List.nil_append] at hm))) | ((with_reducible show wpList _ _ _ (Oper.mk _ (Op.load _ _) _ _ _ _ :: _) _ _); first | (refine wpList_ldS (by rfl) _ _ rfl _ _ rfl hm _ _ (by repeat (first | apply In.a | apply In.b)) (by decide +kernel) _ (by simp only [List.getElem?_toArray, List.getElem?_cons_succ, List.getElem?_cons_zero]; first | done | exact rfl) ?_) | (refine wpList_laS (by rfl) _ _ rfl _ _ rfl hm _ _ (by repeat (first | apply In.a | apply In.b)) (by kernel_rfl) _ (by rfl) (by kernel_rfl) (by simp) _ (by simp only [List.toList_toArray, List.drop_succ_cons, List.drop_zero, List.size_toArray, List.length_cons, List.length_nil, Nat.reduceAdd, List.take_succ_cons, List.take_zero]; first | done | exact rfl) ?_)) | ((with_reducible show wpList _ _ _ (Oper.mk _ (Op.store _ _ _) _ _ _ _ :: _) _ _); (refine wpList_stS (by rfl) _ _ _ rfl _ _ rfl _ (by simp only [Act.eval, Array.getD_eq_getD_getElem?, List.getElem?_toArray, List.getElem?_cons_succ, List.getElem?_cons_zero, Option.getD_some]; first | done | exact rfl) hm _ (by simp only [Value.cells]; first | done | exact rfl) _ _ _ _ (by repeat (first | apply Put.a | apply Put.b)) (by kernel_rfl) (by simp [Value.oneCell']) (by simp) (by simp only [List.set_cons_zero, List.set_cons_succ, spl, List.toList_toArray, List.size_toArray, List.length_cons, List.length_nil, Nat.reduceAdd, Nat.zero_add, List.take_succ_cons, List.take_zero, List.drop_succ_cons, List.drop_zero, List.drop_nil, List.cons_append, List.nil_append, List.append_nil]; first | done | exact rfl) ?_; clear hm; intro w hz hm ho)) | ((with_reducible show wpList _ _ _ (Oper.mk _ (Op.alloc _) _ _ _ _ :: _) _ _); (refine wpList_al (by rfl) _ rfl _ rfl _ (by simp only [Value.cells]; first | done | exact rfl) hm ?_; clear hm; intro n w hn hz hm ho; (try simp only [List.cons_append, List.nil_append] at hm)))); try simp only [Act.put, List.setIfInBounds_toArray, List.set_cons_zero, List.set_cons_succ]) | (go_at_call 38; refine (card_made g gm _ (by exact (hm.at_ 0 rfl).cell 0)).mono ?_; rintro e w' ⟨rfl, rfl⟩) | (go_at_call 43; refine (apdu_EncodeResponse B dn dc d sw _ (by exact HB.out _ hm.only) hdn).mono ?_; rintro e w2 ⟨A2, c2, rfl, hown, hbl⟩; replace hm := hm.below hbl; clear hown) | (go_at_call 44; refine (tz_status _ _).mono ?_; rintro e w2 ⟨A2, c2, rfl, hown, hbl⟩))
      go_ret
      exact PhRes'.fin (HH.out.replied hm.only (hm.at_ 0 rfl) hok2) (hm.only.mono fun _ _ e => HF.out _ e) (fun q e => .inl e) ⟨A2, c2, rfl, hown, hbl⟩
  · have e : Tz.reply l s d sw = (s, []) := by unfold Tz.reply; rw [if_pos h2]
    rw [e]
    have hph := H.ok.ph
    have HH := Lib.hid H
    obtain ⟨gm, cs, hblk, hfg, hc0, hc1⟩ := H.fields
    have hcp := (hblk.cell 1).trans hc1
    have hc0 : w0.cell? ⟨g, 0, none⟩ = some (.map (some gm)) := (hblk.cell 0).trans hc0
    clear hc1
    have hc1 : ∃ k, w0.cell? ⟨g, 1, none⟩ = some (.func (.func k) #[.pointer (some ⟨g, 0, none⟩)] #[]) := by
      rcases (show s.ph = 0 ∨ s.ph = 1 by omega) with e | e <;> rw [e] at hcp
      · exact ⟨_, hcp⟩
      · exact ⟨_, hcp⟩
    obtain ⟨k, hc1⟩ := hc1
    have hlt := hblk.lt
    have k0 : ∀ o, (w0.alloc o).cell? ⟨g, 0, none⟩ = some (.map (some gm)) := fun o => (World.cell?_of_block (Below.heap_alloc w0 o g hlt)).trans hc0
    have k1 : ∀ o, (w0.alloc o).cell? ⟨g, 1, none⟩ = some (.func (.func k) #[.pointer (some ⟨g, 0, none⟩)] #[]) := fun o => (World.cell?_of_block (Below.heap_alloc w0 o g hlt)).trans hc1
    have HB := Lib.hid (fun o => (Below.refl w0.heap.size w0).alloc (Nat.le_refl _) o)
    clear e h2 hblk hfg H hcp hb
    go_enter Try.func21, Try.ntmps21
    go_wp2_with (go_at_call 38; refine (card_made g gm _ (k0 _)).mono ?_; rintro e w' ⟨rfl, rfl⟩)
    go_ret
    exact PhRes'.same HH.out ⟨none, 0, rfl, Own.none_ _ _ _ _ _, HB.out _⟩
end Go.Proofs.Ytpacdjkikbdkeaa
