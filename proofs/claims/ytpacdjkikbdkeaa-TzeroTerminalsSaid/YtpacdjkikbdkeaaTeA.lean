/-
  The terminal's small functions.
-/
import Derived.Test.YtpacdjkikbdkeaaZ0
import Derived.Test.YtpacdjkikbdkeaaTeM
namespace Go.Proofs.Ytpacdjkikbdkeaa
set_option maxRecDepth 100000
set_option linter.unusedSimpArgs false
set_option linter.unusedVariables false
open Go.RowKit
set_option maxHeartbeats 8000000

theorem Own.low_ {w : World} {b : Nat} {t : TypeId} {s : Nat} {A : Option Addr} {n c : Nat} {cs : List Value} (h : Own w b t s A n c cs) : ∀ q, ownAt A c = some q → q < w.heap.size := fun q e => (h.lt q e).2
set_option maxRecDepth 100000 in
theorem term_send (w0 : World) (g : Nat) (x : CV) (b : Bool) (ph : Value) (h : Hd) (ins rest : Bool) (left : Int) (s1 : UInt8) (dv : Value) (dn : Bool) (rv : Value) (rsw : Int) (bd : Bool) (hb : Blk w0 g 81 (tcells x b ph h ins rest left s1 dv dn rv rsw bd)) (k : Hd) :
    Calls Try.prog 53 #[.pointer (some ⟨g, 0, none⟩), hV k] w0 fun e w' => ∃ A c, e = .returned (.slice A 5 c) ∧ Own w' w0.heap.size 5 1 A 5 c (bcells [Tz.byte k.h0, Tz.byte k.h1, Tz.byte k.h2, Tz.byte k.h3, Tz.byte k.h4]) ∧ Only (fun q => q = g) w0 w' ∧ Blk w' g 81 (tcells x b (tphV g 0) k true rest left s1 dv dn rv rsw bd) := by
  have hmf := fun fn a b u => make_func (P := Try.prog) fn a b u
  have hm : Mem (fun q => q = g) w0 w0 [⟨g, _, _⟩] [] := Mem.one hb rfl
  obtain ⟨k0, k1, k2, k3, k4⟩ := k
  obtain ⟨x0, x1, x2, x3, ⟨xa, xn, xc, xb⟩, x5, x6⟩ := x
  simp only [tcells, SV.val] at hm
  have u0 : IntKind.u8.wrap k0 = k0 % 256 := by rw [IntKind.wrap_u8]
  have u1 : IntKind.u8.wrap k1 = k1 % 256 := by rw [IntKind.wrap_u8]
  have u2 : IntKind.u8.wrap k2 = k2 % 256 := by rw [IntKind.wrap_u8]
  have u3 : IntKind.u8.wrap k3 = k3 % 256 := by rw [IntKind.wrap_u8]
  have u4 : IntKind.u8.wrap k4 = k4 % 256 := by rw [IntKind.wrap_u8]
  have HC : Hid (bcells [Tz.byte k0, Tz.byte k1, Tz.byte k2, Tz.byte k3, Tz.byte k4] = [.int .u8 (k0 % 256), .int .u8 (k1 % 256), .int .u8 (k2 % 256), .int .u8 (k3 % 256), .int .u8 (k4 % 256)]) := by
    show _ = _; simp only [bcells, List.map_cons, List.map_nil, Tz.B8_byte]
  have HP : Hid (tphV g 0 = .func (.func 72) #[.pointer (some ⟨g, 0, none⟩)] #[]) := rfl
  clear hb
  show Calls Try.prog 53 #[.pointer (some ⟨g, 0, none⟩), .agg #[.int .i64 k0, .int .i64 k1, .int .i64 k2, .int .i64 k3, .int .i64 k4]] w0 _
  rw [HC.out]
  go_enter Try.func53, Try.ntmps53
  go_wp2_with (first | go_skip | ((with_reducible show wpList _ _ _ _ _ (World.alloc _ _)); refine wpList_up hm ?_; clear hm; intro n w hn hn2 hk hm hd hd2 ho; (try rw [← hn]); replace hn := Nat.le_of_eq hn.symm) | ((first | ((with_reducible show wpList _ _ _ (Oper.mk _ (Op.box _ _) _ _ _ _ :: _) _ _); (refine wpList_bx (by rfl) _ _ rfl _ (by simp only [Act.eval, Array.getD_eq_getD_getElem?, List.getElem?_toArray, List.getElem?_cons_succ, List.getElem?_cons_zero, Option.getD_some]; first | done | exact rfl) _ (by simp only [Value.cells]; first | done | exact rfl) hm ?_; clear hm; intro n w hn hz hm ho; (try simp only [List.cons_append, List.nil_append] at hm))) | ((with_reducible show wpList _ _ _ (Oper.mk _ (Op.load _ _) _ _ _ _ :: _) _ _); first | (refine wpList_ldS (by rfl) _ _ rfl _ _ rfl hm _ _ (by repeat (first | apply In.a | apply In.b)) (by decide +kernel) _ (by simp only [List.getElem?_toArray, List.getElem?_cons_succ, List.getElem?_cons_zero]; first | done | exact rfl) ?_) | (refine wpList_laS (by rfl) _ _ rfl _ _ rfl hm _ _ (by repeat (first | apply In.a | apply In.b)) (by kernel_rfl) _ (by rfl) (by kernel_rfl) (by simp) _ (by simp only [List.toList_toArray, List.drop_succ_cons, List.drop_zero, List.size_toArray, List.length_cons, List.length_nil, Nat.reduceAdd, List.take_succ_cons, List.take_zero]; first | done | exact rfl) ?_)) | ((with_reducible show wpList _ _ _ (Oper.mk _ (Op.store _ _ _) _ _ _ _ :: _) _ _); (refine wpList_stS (by rfl) _ _ _ rfl _ _ rfl _ (by simp only [Act.eval, Array.getD_eq_getD_getElem?, List.getElem?_toArray, List.getElem?_cons_succ, List.getElem?_cons_zero, Option.getD_some]; first | done | exact rfl) hm _ (by simp only [Value.cells]; first | done | exact rfl) _ _ _ _ (by repeat (first | apply Put.a | apply Put.b)) (by kernel_rfl) (by simp [Value.oneCell']) (by simp) (by simp only [List.set_cons_zero, List.set_cons_succ, spl, List.toList_toArray, List.size_toArray, List.length_cons, List.length_nil, Nat.reduceAdd, Nat.zero_add, List.take_succ_cons, List.take_zero, List.drop_succ_cons, List.drop_zero, List.drop_nil, List.cons_append, List.nil_append, List.append_nil]; first | done | exact rfl) ?_; clear hm; intro w hz hm ho)) | ((with_reducible show wpList _ _ _ (Oper.mk _ (Op.alloc _) _ _ _ _ :: _) _ _); (refine wpList_al (by rfl) _ rfl _ rfl _ (by simp only [Value.cells]; first | done | exact rfl) hm ?_; clear hm; intro n w hn hz hm ho; (try simp only [List.cons_append, List.nil_append] at hm)))); try simp only [Act.put, List.setIfInBounds_toArray, List.set_cons_zero, List.set_cons_succ]))
  go_ret
  have hm2 := hm.newrow 5 #[.int .u8 (k0 % 256), .int .u8 (k1 % 256), .int .u8 (k2 % 256), .int .u8 (k3 % 256), .int .u8 (k4 % 256)] 1 5 _ rfl rfl (by unfold maxLen; omega)
  refine ⟨_, _, rfl, ?_, hm2.only, hm2.at_ 0 rfl⟩
  have h9 := hm2.sl_ 0 rfl
  exact h9.base (fun q e => by
    have e : some w.heap.size = some q := e
    injection e with e; rw [← e]; exact hm.only.size)
set_option maxRecDepth 100000 in
theorem term_receive (w0 : World) (g : Nat) (F : Nat → Prop) (t : Te.T) (H : TermAt' w0 g F t) (ha : t.act = true) (h1 : 0 < t.need) (hdl : t.data.length ≤ 100000000) (b : UInt8) :
    Calls Try.prog 77 #[.pointer (some ⟨g, 0, none⟩), B8 b] w0 (TRes w0 g F (Te.step t b).1 (Te.step t b).2) := by
  have hmf := fun fn a b u => make_func (P := Try.prog) fn a b u
  obtain ⟨x, ph, h, ins, rest, left, s1, A, c, db, rA, rn, rc, rsw, H⟩ := H
  have hok2 := H.ok.step b
  have e : Te.step t b = ({ t with data := t.data ++ [b], need := t.need - 1 }, []) := by unfold Te.step; rw [if_neg (by rw [ha]; simp), if_pos h1]
  rw [e] at hok2 ⊢
  have hf := H.act ha
  have hfl := hf.left
  have hph := hf.ph
  have hdb := hf.db
  have hpv : ph = tphV g 2 := by rw [hph]; unfold Te.T.ph; rw [if_pos h1]
  subst hfl hpv
  have HH := Lib.hid H
  have HA := Lib.hid ha
  have HFI := Lib.hid hf
  have hdb2 : db.length ≤ 100000000 := by rw [hdb]; exact hdl
  have HN : Hid (0 < t.need) := h1
  have HF0 : Hid (t.first = 0) := H.ok.nf.resolve_left (by omega)
  have hm := H.mem
  obtain ⟨h0, h1, h2, h3, h4⟩ := h
  obtain ⟨x0, x1, x2, x3, ⟨xa, xn, xc, xb⟩, x5, x6⟩ := x
  rw [ha] at hm
  simp only [tcells, SV.val] at hm
  have hw1 : IntKind.i64.wrap ((t.need : Int) - 1) = (t.need : Int) - 1 := IntWalk.i64_in _ (by have := H.ok.nd; omega)
  clear H hf hph hdb e ha
  by_cases e2 : t.need = 1
  · have i1 : ((t.need : Int) - 1 == 0) = true := by rw [beq_iff_eq]; omega
    have E2 := Lib.hid e2
    clear e2
    go_enter Try.func77, Try.ntmps77
    go_wp2_with (first | go_skip | ((with_reducible show wpList _ _ _ _ _ (World.alloc _ _)); refine wpList_up hm ?_; clear hm; intro n w hn hn2 hk hm hd hd2 ho; (try rw [← hn]); replace hn := Nat.le_of_eq hn.symm) | ((first | ((with_reducible show wpList _ _ _ (Oper.mk _ (Op.box _ _) _ _ _ _ :: _) _ _); (refine wpList_bx (by rfl) _ _ rfl _ (by simp only [Act.eval, Array.getD_eq_getD_getElem?, List.getElem?_toArray, List.getElem?_cons_succ, List.getElem?_cons_zero, Option.getD_some]; first | done | exact rfl) _ (by simp only [Value.cells]; first | done | exact rfl) hm ?_; clear hm; intro n w hn hz hm ho; (try simp only [List.cons_append, List.nil_append] at hm))) | ((with_reducible show wpList _ _ _ (Oper.mk _ (Op.load _ _) _ _ _ _ :: _) _ _); first | (refine wpList_ldS (by rfl) _ _ rfl _ _ rfl hm _ _ (by repeat (first | apply In.a | apply In.b)) (by decide +kernel) _ (by simp only [List.getElem?_toArray, List.getElem?_cons_succ, List.getElem?_cons_zero]; first | done | exact rfl) ?_) | (refine wpList_laS (by rfl) _ _ rfl _ _ rfl hm _ _ (by repeat (first | apply In.a | apply In.b)) (by kernel_rfl) _ (by rfl) (by kernel_rfl) (by simp) _ (by simp only [List.toList_toArray, List.drop_succ_cons, List.drop_zero, List.size_toArray, List.length_cons, List.length_nil, Nat.reduceAdd, List.take_succ_cons, List.take_zero]; first | done | exact rfl) ?_)) | ((with_reducible show wpList _ _ _ (Oper.mk _ (Op.store _ _ _) _ _ _ _ :: _) _ _); (refine wpList_stS (by rfl) _ _ _ rfl _ _ rfl _ (by simp only [Act.eval, Array.getD_eq_getD_getElem?, List.getElem?_toArray, List.getElem?_cons_succ, List.getElem?_cons_zero, Option.getD_some]; first | done | exact rfl) hm _ (by simp only [Value.cells]; first | done | exact rfl) _ _ _ _ (by repeat (first | apply Put.a | apply Put.b)) (by kernel_rfl) (by simp [Value.oneCell']) (by simp) (by simp only [List.set_cons_zero, List.set_cons_succ, spl, List.toList_toArray, List.size_toArray, List.length_cons, List.length_nil, Nat.reduceAdd, Nat.zero_add, List.take_succ_cons, List.take_zero, List.drop_succ_cons, List.drop_zero, List.drop_nil, List.cons_append, List.nil_append, List.append_nil]; first | done | exact rfl) ?_; clear hm; intro w hz hm ho)) | ((with_reducible show wpList _ _ _ (Oper.mk _ (Op.alloc _) _ _ _ _ :: _) _ _); (refine wpList_al (by rfl) _ rfl _ rfl _ (by simp only [Value.cells]; first | done | exact rfl) hm ?_; clear hm; intro n w hn hz hm ho; (try simp only [List.cons_append, List.nil_append] at hm)))); try simp only [Act.put, List.setIfInBounds_toArray, List.set_cons_zero, List.set_cons_succ]) | ((with_reducible show wpList _ _ _ (Oper.mk _ (Op.call { callee := Callee.builtin Builtin.append, args := #[Operand.tmp 9, Operand.tmp 11], argTypes := _ }) _ _ _ _ :: _) _ _); refine wpList_ap8 (by rfl) (.tmp 9) (.tmp 11) rfl _ _ _ _ rfl hm 0 rfl _ _ 1 _ [b] rfl hk.row rfl (by omega) ?_; clear hm; intro A3 c3 w hm ho _; try simp only [Act.put, List.setIfInBounds_toArray, List.set_cons_zero, List.set_cons_succ]))
    go_ret
    have hf := HFI.out
    exact TRes.nil (TermAt.next (h' := ⟨h0, h1, h2, h3, h4⟩) (s1' := s1) HH.out HA.out hm (by simp) hok2 HA.out rfl rfl rfl ⟨(by rw [hf.db]), hf.cla, hf.ci, hf.p1, hf.p2, hf.d, hf.le, hf.long, hf.h1, hf.h4, hf.ins, hf.rest, (by show (t.need : Int) - 1 = ((t.need - 1 : Nat) : Int); have := E2.out; have := HN.out; omega), hf.s1, (by unfold Te.T.ph; rw [if_neg (by show ¬ 0 < t.need - 1; have := E2.out; omega), if_neg (by show ¬ t.first ≠ 0; have := HF0.out; simp [this])]; rfl)⟩) (HH.out.reach hm.only) grow_ex
  · have i1 : ((t.need : Int) - 1 == 0) = false := by rw [beq_eq_false_iff_ne]; omega
    have E2 := Lib.hid e2
    clear e2
    go_enter Try.func77, Try.ntmps77
    go_wp2_with (first | go_skip | ((with_reducible show wpList _ _ _ _ _ (World.alloc _ _)); refine wpList_up hm ?_; clear hm; intro n w hn hn2 hk hm hd hd2 ho; (try rw [← hn]); replace hn := Nat.le_of_eq hn.symm) | ((first | ((with_reducible show wpList _ _ _ (Oper.mk _ (Op.box _ _) _ _ _ _ :: _) _ _); (refine wpList_bx (by rfl) _ _ rfl _ (by simp only [Act.eval, Array.getD_eq_getD_getElem?, List.getElem?_toArray, List.getElem?_cons_succ, List.getElem?_cons_zero, Option.getD_some]; first | done | exact rfl) _ (by simp only [Value.cells]; first | done | exact rfl) hm ?_; clear hm; intro n w hn hz hm ho; (try simp only [List.cons_append, List.nil_append] at hm))) | ((with_reducible show wpList _ _ _ (Oper.mk _ (Op.load _ _) _ _ _ _ :: _) _ _); first | (refine wpList_ldS (by rfl) _ _ rfl _ _ rfl hm _ _ (by repeat (first | apply In.a | apply In.b)) (by decide +kernel) _ (by simp only [List.getElem?_toArray, List.getElem?_cons_succ, List.getElem?_cons_zero]; first | done | exact rfl) ?_) | (refine wpList_laS (by rfl) _ _ rfl _ _ rfl hm _ _ (by repeat (first | apply In.a | apply In.b)) (by kernel_rfl) _ (by rfl) (by kernel_rfl) (by simp) _ (by simp only [List.toList_toArray, List.drop_succ_cons, List.drop_zero, List.size_toArray, List.length_cons, List.length_nil, Nat.reduceAdd, List.take_succ_cons, List.take_zero]; first | done | exact rfl) ?_)) | ((with_reducible show wpList _ _ _ (Oper.mk _ (Op.store _ _ _) _ _ _ _ :: _) _ _); (refine wpList_stS (by rfl) _ _ _ rfl _ _ rfl _ (by simp only [Act.eval, Array.getD_eq_getD_getElem?, List.getElem?_toArray, List.getElem?_cons_succ, List.getElem?_cons_zero, Option.getD_some]; first | done | exact rfl) hm _ (by simp only [Value.cells]; first | done | exact rfl) _ _ _ _ (by repeat (first | apply Put.a | apply Put.b)) (by kernel_rfl) (by simp [Value.oneCell']) (by simp) (by simp only [List.set_cons_zero, List.set_cons_succ, spl, List.toList_toArray, List.size_toArray, List.length_cons, List.length_nil, Nat.reduceAdd, Nat.zero_add, List.take_succ_cons, List.take_zero, List.drop_succ_cons, List.drop_zero, List.drop_nil, List.cons_append, List.nil_append, List.append_nil]; first | done | exact rfl) ?_; clear hm; intro w hz hm ho)) | ((with_reducible show wpList _ _ _ (Oper.mk _ (Op.alloc _) _ _ _ _ :: _) _ _); (refine wpList_al (by rfl) _ rfl _ rfl _ (by simp only [Value.cells]; first | done | exact rfl) hm ?_; clear hm; intro n w hn hz hm ho; (try simp only [List.cons_append, List.nil_append] at hm)))); try simp only [Act.put, List.setIfInBounds_toArray, List.set_cons_zero, List.set_cons_succ]) | ((with_reducible show wpList _ _ _ (Oper.mk _ (Op.call { callee := Callee.builtin Builtin.append, args := #[Operand.tmp 9, Operand.tmp 11], argTypes := _ }) _ _ _ _ :: _) _ _); refine wpList_ap8 (by rfl) (.tmp 9) (.tmp 11) rfl _ _ _ _ rfl hm 0 rfl _ _ 1 _ [b] rfl hk.row rfl (by omega) ?_; clear hm; intro A3 c3 w hm ho _; try simp only [Act.put, List.setIfInBounds_toArray, List.set_cons_zero, List.set_cons_succ]))
    go_ret
    have hf := HFI.out
    exact TRes.nil (TermAt.next (h' := ⟨h0, h1, h2, h3, h4⟩) (s1' := s1) HH.out HA.out hm (by simp) hok2 HA.out rfl rfl rfl ⟨(by rw [hf.db]), hf.cla, hf.ci, hf.p1, hf.p2, hf.d, hf.le, hf.long, hf.h1, hf.h4, hf.ins, hf.rest, (by show (t.need : Int) - 1 = ((t.need - 1 : Nat) : Int); have := E2.out; have := HN.out; omega), hf.s1, (by unfold Te.T.ph; rw [if_pos (by show 0 < t.need - 1; have := E2.out; have := HN.out; omega)])⟩) (HH.out.reach hm.only) grow_ex
set_option maxRecDepth 100000 in
theorem term_acknowledged (w0 : World) (g : Nat) (F : Nat → Prop) (t : Te.T) (H : TermAt' w0 g F t) (ha : t.act = true) (h1 : t.need = 0) (h2 : t.first = 0) (hmv : t.moved = false) :
    Calls Try.prog 75 #[.pointer (some ⟨g, 0, none⟩)] w0 (TRes w0 g F (Te.ack t).1 (Te.ack t).2) := by
  have hmf := fun fn a b u => make_func (P := Try.prog) fn a b u
  obtain ⟨x, ph, h, ins, rest, left, s1, A, c, db, rA, rn, rc, rsw, H⟩ := H
  have hok2 := H.ok.ack h2
  have hf := H.act ha
  have HH := Lib.hid H
  have HA := Lib.hid ha
  have HFI := Lib.hid hf
  have hfd := hf.d
  have hfr := hf.rest
  have hf4 := hf.h4
  have hxl := (H.xd ha).1.1.1
  have hcd := H.ok.cd
  have HX0 := Lib.hid (H.xd ha)
  have hm := H.mem
  obtain ⟨h0, h1, h2, h3, h4⟩ := h
  obtain ⟨x0, x1, x2, x3, ⟨xa, xn, xc, xb⟩, x5, x6⟩ := x
  rw [ha] at hm
  simp only [tcells, SV.val] at hm
  simp only at hfd hf4 hxl
  have HX : Hid (∀ u : World, Only (fun q => q = g ∨ ownAt A c = some q) w0 u → Byt u u.heap.size xa xn xc xb) := by
    show ∀ u, _; intro u ho
    exact HX0.out.1.1.only ho (fun a e hn e2 => e2.elim (HX0.out.2 a e hn).1 (HX0.out.2 a e hn).2)
  have HFD := Lib.hid hfd
  have hxn : xn ≤ 255 := by rw [← hfd] at hcd; omega
  by_cases e2 : t.more = false ∧ t.cmd.d ≠ []
  · have e : Te.ack t = ({ t with moved := true }, t.cmd.d) := by unfold Te.ack; rw [if_neg (by rw [hmv]; simp), if_pos e2]
    rw [e] at hok2 ⊢
    obtain ⟨e3, e4⟩ := e2
    have hr : rest = false := hfr.trans e3
    subst hr
    have i1 : 0 < xn := by rw [← hxl, hfd]; exact List.length_pos_iff.2 e4
    have HXL := Lib.hid hxl
    clear H hf hfd hfr hf4 hxl hcd e e3 e4
    go_enter Try.func75, Try.ntmps75
    go_wp2_with (first | go_skip | ((with_reducible show wpList _ _ _ _ _ (World.alloc _ _)); refine wpList_up hm ?_; clear hm; intro n w hn hn2 hk hm hd hd2 ho; (try rw [← hn]); replace hn := Nat.le_of_eq hn.symm) | ((first | ((with_reducible show wpList _ _ _ (Oper.mk _ (Op.box _ _) _ _ _ _ :: _) _ _); (refine wpList_bx (by rfl) _ _ rfl _ (by simp only [Act.eval, Array.getD_eq_getD_getElem?, List.getElem?_toArray, List.getElem?_cons_succ, List.getElem?_cons_zero, Option.getD_some]; first | done | exact rfl) _ (by simp only [Value.cells]; first | done | exact rfl) hm ?_; clear hm; intro n w hn hz hm ho; (try simp only [List.cons_append, List.nil_append] at hm))) | ((with_reducible show wpList _ _ _ (Oper.mk _ (Op.load _ _) _ _ _ _ :: _) _ _); first | (refine wpList_ldS (by rfl) _ _ rfl _ _ rfl hm _ _ (by repeat (first | apply In.a | apply In.b)) (by decide +kernel) _ (by simp only [List.getElem?_toArray, List.getElem?_cons_succ, List.getElem?_cons_zero]; first | done | exact rfl) ?_) | (refine wpList_laS (by rfl) _ _ rfl _ _ rfl hm _ _ (by repeat (first | apply In.a | apply In.b)) (by kernel_rfl) _ (by rfl) (by kernel_rfl) (by simp) _ (by simp only [List.toList_toArray, List.drop_succ_cons, List.drop_zero, List.size_toArray, List.length_cons, List.length_nil, Nat.reduceAdd, List.take_succ_cons, List.take_zero]; first | done | exact rfl) ?_)) | ((with_reducible show wpList _ _ _ (Oper.mk _ (Op.store _ _ _) _ _ _ _ :: _) _ _); (refine wpList_stS (by rfl) _ _ _ rfl _ _ rfl _ (by simp only [Act.eval, Array.getD_eq_getD_getElem?, List.getElem?_toArray, List.getElem?_cons_succ, List.getElem?_cons_zero, Option.getD_some]; first | done | exact rfl) hm _ (by simp only [Value.cells]; first | done | exact rfl) _ _ _ _ (by repeat (first | apply Put.a | apply Put.b)) (by kernel_rfl) (by simp [Value.oneCell']) (by simp) (by simp only [List.set_cons_zero, List.set_cons_succ, spl, List.toList_toArray, List.size_toArray, List.length_cons, List.length_nil, Nat.reduceAdd, Nat.zero_add, List.take_succ_cons, List.take_zero, List.drop_succ_cons, List.drop_zero, List.drop_nil, List.cons_append, List.nil_append, List.append_nil]; first | done | exact rfl) ?_; clear hm; intro w hz hm ho)) | ((with_reducible show wpList _ _ _ (Oper.mk _ (Op.alloc _) _ _ _ _ :: _) _ _); (refine wpList_al (by rfl) _ rfl _ rfl _ (by simp only [Value.cells]; first | done | exact rfl) hm ?_; clear hm; intro n w hn hz hm ho; (try simp only [List.cons_append, List.nil_append] at hm)))); try simp only [Act.put, List.setIfInBounds_toArray, List.set_cons_zero, List.set_cons_succ]) | (go_at_call 39; refine (slices_Clone xa xn xc xb _ (by exact HX.out _ hm.only) (by omega)).mono ?_; rintro e w2 ⟨A2, c2, rfl, hown, hbl⟩; have HO := Lib.hid (hown.mono hm.only.size); replace hm := hm.got hbl hown; clear hown))
    go_ret
    have hf := HFI.out
    have hn2 : xn = t.cmd.d.length := by rw [← HFD.out]; exact HXL.out.symm
    refine ⟨A2, c2, grow w0 w2 F, by rw [← hn2]; rfl, ?_, TermAt.next (h' := ⟨h0, h1, h2, h3, h4⟩) (s1' := s1) HH.out HA.out hm rfl hok2 HA.out rfl rfl rfl ⟨hf.db, hf.cla, hf.ci, hf.p1, hf.p2, hf.d, hf.le, hf.long, hf.h1, hf.h4, rfl, hf.rest, hf.left, hf.s1, hf.ph⟩, HH.out.reach hm.only, grow_ex⟩
    rw [← hn2, ← HFD.out]
    exact HO.out
  · have e : Te.ack t = ({ t with moved := true, need := (Tz.cnt t.p3.toNat).toNat }, []) := by unfold Te.ack; rw [if_neg (by rw [hmv]; simp), if_neg e2]
    rw [e] at hok2 ⊢
    have hcase : rest = true ∨ (rest = false ∧ xn = 0) := by
      cases hr : rest with
      | true => exact .inl rfl
      | false =>
        refine .inr ⟨rfl, ?_⟩
        rcases Nat.eq_zero_or_pos xn with h0 | h0
        · exact h0
        · exact absurd ⟨hfr.symm.trans hr, fun e5 => by rw [e5] at hfd; rw [hfd] at hxl; simp at hxl; omega⟩ e2
    have HR := Lib.hid hfr
    have HF4 := Lib.hid hf4
    have hcn := @Tz.cnt_le (t.p3.toNat : Int) (by omega) (by have := t.p3.toNat_lt; omega)
    clear H hf hfd hfr hxl hcd e e2
    subst hf4
    rcases hcase with rfl | ⟨rfl, rfl⟩
    all_goals
      go_enter Try.func75, Try.ntmps75
      go_wp2_with (first | go_skip | ((with_reducible show wpList _ _ _ _ _ (World.alloc _ _)); refine wpList_up hm ?_; clear hm; intro n w hn hn2 hk hm hd hd2 ho; (try rw [← hn]); replace hn := Nat.le_of_eq hn.symm) | ((first | ((with_reducible show wpList _ _ _ (Oper.mk _ (Op.box _ _) _ _ _ _ :: _) _ _); (refine wpList_bx (by rfl) _ _ rfl _ (by simp only [Act.eval, Array.getD_eq_getD_getElem?, List.getElem?_toArray, List.getElem?_cons_succ, List.getElem?_cons_zero, Option.getD_some]; first | done | exact rfl) _ (by simp only [Value.cells]; first | done | exact rfl) hm ?_; clear hm; intro n w hn hz hm ho; (try simp only [List.cons_append, List.nil_append] at hm))) | ((with_reducible show wpList _ _ _ (Oper.mk _ (Op.load _ _) _ _ _ _ :: _) _ _); first | (refine wpList_ldS (by rfl) _ _ rfl _ _ rfl hm _ _ (by repeat (first | apply In.a | apply In.b)) (by decide +kernel) _ (by simp only [List.getElem?_toArray, List.getElem?_cons_succ, List.getElem?_cons_zero]; first | done | exact rfl) ?_) | (refine wpList_laS (by rfl) _ _ rfl _ _ rfl hm _ _ (by repeat (first | apply In.a | apply In.b)) (by kernel_rfl) _ (by rfl) (by kernel_rfl) (by simp) _ (by simp only [List.toList_toArray, List.drop_succ_cons, List.drop_zero, List.size_toArray, List.length_cons, List.length_nil, Nat.reduceAdd, List.take_succ_cons, List.take_zero]; first | done | exact rfl) ?_)) | ((with_reducible show wpList _ _ _ (Oper.mk _ (Op.store _ _ _) _ _ _ _ :: _) _ _); (refine wpList_stS (by rfl) _ _ _ rfl _ _ rfl _ (by simp only [Act.eval, Array.getD_eq_getD_getElem?, List.getElem?_toArray, List.getElem?_cons_succ, List.getElem?_cons_zero, Option.getD_some]; first | done | exact rfl) hm _ (by simp only [Value.cells]; first | done | exact rfl) _ _ _ _ (by repeat (first | apply Put.a | apply Put.b)) (by kernel_rfl) (by simp [Value.oneCell']) (by simp) (by simp only [List.set_cons_zero, List.set_cons_succ, spl, List.toList_toArray, List.size_toArray, List.length_cons, List.length_nil, Nat.reduceAdd, Nat.zero_add, List.take_succ_cons, List.take_zero, List.drop_succ_cons, List.drop_zero, List.drop_nil, List.cons_append, List.nil_append, List.append_nil]; first | done | exact rfl) ?_; clear hm; intro w hz hm ho)) | ((with_reducible show wpList _ _ _ (Oper.mk _ (Op.alloc _) _ _ _ _ :: _) _ _); (refine wpList_al (by rfl) _ rfl _ rfl _ (by simp only [Value.cells]; first | done | exact rfl) hm ?_; clear hm; intro n w hn hz hm ho; (try simp only [List.cons_append, List.nil_append] at hm)))); try simp only [Act.put, List.setIfInBounds_toArray, List.set_cons_zero, List.set_cons_succ]) | (go_at_call 60; refine (tz_count _ _).mono ?_; rintro e w' ⟨rfl, rfl⟩))
      go_ret
      have hf := HFI.out
      exact TRes.nil (TermAt.next (h' := ⟨h0, h1, h2, h3, (t.p3.toNat : Int)⟩) (s1' := s1) HH.out HA.out hm rfl hok2 HA.out rfl rfl rfl ⟨hf.db, hf.cla, hf.ci, hf.p1, hf.p2, hf.d, hf.le, hf.long, hf.h1, hf.h4, rfl, hf.rest, (by show Tz.cnt (t.p3.toNat : Int) = ((Tz.cnt (t.p3.toNat : Int)).toNat : Int); omega), hf.s1, (by unfold Te.T.ph; rw [if_pos (by show 0 < (Tz.cnt (t.p3.toNat : Int)).toNat; omega)]; rfl)⟩) (HH.out.reach hm.only) grow_ex
end Go.Proofs.Ytpacdjkikbdkeaa
