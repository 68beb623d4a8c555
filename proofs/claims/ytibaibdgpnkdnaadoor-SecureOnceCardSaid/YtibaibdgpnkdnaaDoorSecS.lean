/-
  SecureOnce.
-/
import Derived.Test.YtibaibdgpnkdnaaDoorZ1
import Derived.Test.YtibaibdgpnkdnaaDoorSecK
namespace Go.Proofs.YtibaibdgpnkdnaaDoor
set_option maxRecDepth 100000
set_option linter.unusedSimpArgs false
set_option linter.unusedVariables false
open Go.RowKit
set_option maxHeartbeats 8000000

/-- What SecureOnce comes to, plainly. -/
theorem Sec.once {s s1 s2 : Sec.S} (hk : Sec.Ok s) (h1 : Sec.hb s.lvl 1 = true) (hs : s.shut = false) {a b x y : Apd.Cmd} (ha : Sec.wrapE s a = 0) (hx : Sec.wrap s a = (s1, x)) (hb : Sec.wrapE s1 b = 0) (hy : Sec.wrap s1 b = (s2, y)) :
    8 ≤ x.d.length ∧ x.d.length ≤ 65535 ∧ y.d.length ≤ 65535 ∧ x.d.drop (x.d.length - 8) = s1.chain ∧ s1.cnt = s.cnt + 1 ∧ Sec.unwrapE s x = 0 ∧ (Sec.unwrap s x).1 = s1 ∧ (s1.chain ≠ s.chain → Sec.unwrapE s y = 17 ∧ Sec.unwrapE s1 x = 17 ∧ Sec.unwrap s y = ({ s with shut := true }, Sec.cz) ∧ Sec.unwrap s1 x = ({ s1 with shut := true }, Sec.cz)) ∧ s1.shut = false := by
  have e1 := Sec.wrap_mac ha h1
  rw [hx] at e1
  obtain ⟨f1, f2⟩ := Prod.mk.inj e1
  have hM : (Sec.wrapM s a).length = 8 := Sec.cmac_length _ _ _ _ _ _ _ hk
  have hk1 : Sec.Ok s1 := by have := Sec.wrap_ok hk a; rwa [hx] at this
  have hl1 : s1.lvl = s.lvl := by rw [f1]
  have hs1 : s1.shut = false := by rw [f1]; exact hs
  have hm1 : s1.mac = s.mac := by rw [f1]
  have hh1 : Sec.hb s1.lvl 1 = true := by rw [hl1]; exact h1
  have e2 := Sec.wrap_mac hb hh1
  rw [hy] at e2
  obtain ⟨g1, g2⟩ := Prod.mk.inj e2
  have hM2 : (Sec.wrapM s1 b).length = 8 := Sec.cmac_length _ _ _ _ _ _ _ hk1
  have hu := Sec.unwrap_wrap hk a ha
  rw [hx] at hu
  have fa := (Sec.wrap_facts ha).2.2.2.2.2
  have fb := (Sec.wrap_facts hb).2.2.2.2.2
  rw [h1, if_pos rfl] at fa
  rw [hh1, if_pos rfl] at fb
  have hDa := Sec.wrapD_length s a hk.enc
  have hDb := Sec.wrapD_length s1 b hk1.enc
  refine ⟨?_, ?_, ?_, ?_, by rw [f1], hu.1, hu.2.1, fun hne => ?_, hs1⟩
  · rw [f2]; simp [hM]
  · rw [f2]; simp [hM, hDa]; omega
  · rw [g2]; simp [hM2, hDb]; omega
  · rw [f2, f1]; exact (Sec.cut8 _ _ hM).1
  · have h3 := Sec.wrap_other (s' := s) hk1 b hb hh1 hl1.symm hs hm1.symm (fun e => hne e.symm) hk.chain
    have h4 := Sec.wrap_other (s' := s1) hk a ha h1 hl1 hs1 hm1 hne hk1.chain
    rw [hy] at h3
    rw [hx] at h4
    refine ⟨h3, h4, ?_, ?_⟩
    · unfold Sec.unwrap; rw [if_neg (by rw [hs]; decide), if_pos (by have h3 : Sec.unwrapE s y = 17 := h3; rw [h3]; decide)]
    · unfold Sec.unwrap; rw [if_neg (by rw [hs1]; decide), if_pos (by have h4 : Sec.unwrapE s1 x = 17 := h4; rw [h4]; decide)]
set_option maxRecDepth 100000 in
theorem once_out1 (a : SnS) (s : Sec.S) (C : Option Addr) (cn cc : Nat) (w0 : World) (hg : HasEt w0) (hs : SnAt w0 a s C cn cc) (cla ins p1 p2 : Int) (A : Option Addr) (dn c : Nat) (b : List UInt8) (le : Int) (long : Bool) (hx : Byt w0 w0.heap.size A dn c b) (cla' ins' p1' p2' : Int) (A' : Option Addr) (dn' c' : Nat) (b' : List UInt8) (le' : Int) (long' : Bool) (hx' : Byt w0 w0.heap.size A' dn' c' b') (hd : 600 < dn) : Calls Tryd.prog 4 #[snV a s.lvl, .slice C cn cc, cmdV cla ins p1 p2 A dn c le long, cmdV cla' ins' p1' p2' A' dn' c' le' long'] w0 fun e w' => e = .returned (.bool true) ∧ Below w0.heap.size w0 w' := by
  have HG := Lib.hid hg
  have HP := Lib.hid hg.pos
  clear hg
  have i0 : decide ((600 : Int) < (dn : Int)) = true := decide_eq_true (by omega)
  have HC := Lib.hid (Scn.start w0)
  have hm := HC.out.rebase
  unfold snV cmdV
  go_enter Tryd.func4, Tryd.ntmps4
  go_wp2_with (first | go_skip | ((with_reducible show wpList _ _ _ _ _ (World.alloc _ _)); refine wpList_up hm ?_; clear hm; intro n w hn hn2 hk hm hd hd2 ho; (try rw [← hn]); replace hn := Nat.le_of_eq hn.symm) | ((first | ((with_reducible show wpList _ _ _ (Oper.mk _ (Op.box _ _) _ _ _ _ :: _) _ _); (refine wpList_bx (by rfl) _ _ rfl _ (by simp only [Act.eval, Array.getD_eq_getD_getElem?, List.getElem?_toArray, List.getElem?_cons_succ, List.getElem?_cons_zero, Option.getD_some]; first | done | exact rfl) _ (by simp only [Value.cells]; first | done | exact rfl) hm ?_; clear hm; intro n w hn hz hm ho; (try simp only [List.cons_append, List.nil_append] at hm))) | ((with_reducible show wpList _ _ _ (Oper.mk _ (Op.load _ _) _ _ _ _ :: _) _ _); first | (refine wpList_ldS (by rfl) _ _ rfl _ _ rfl hm _ _ (by repeat (first | apply In.a | apply In.b)) (by decide +kernel) _ (by simp only [List.getElem?_toArray, List.getElem?_cons_succ, List.getElem?_cons_zero]; first | done | exact rfl) ?_) | (refine wpList_laS (by rfl) _ _ rfl _ _ rfl hm _ _ (by repeat (first | apply In.a | apply In.b)) (by kernel_rfl) _ (by rfl) (by kernel_rfl) (by simp) _ (by simp only [List.toList_toArray, List.drop_succ_cons, List.drop_zero, List.size_toArray, List.length_cons, List.length_nil, Nat.reduceAdd, List.take_succ_cons, List.take_zero]; first | done | exact rfl) ?_)) | ((with_reducible show wpList _ _ _ (Oper.mk _ (Op.store _ _ _) _ _ _ _ :: _) _ _); (refine wpList_stS (by rfl) _ _ _ rfl _ _ rfl _ (by simp only [Act.eval, Array.getD_eq_getD_getElem?, List.getElem?_toArray, List.getElem?_cons_succ, List.getElem?_cons_zero, Option.getD_some]; first | done | exact rfl) hm _ (by simp only [Value.cells]; first | done | exact rfl) _ _ _ _ (by repeat (first | apply Put.a | apply Put.b)) (by kernel_rfl) (by simp [Value.oneCell']) (by simp) (by simp only [List.set_cons_zero, List.set_cons_succ, spl, List.toList_toArray, List.size_toArray, List.length_cons, List.length_nil, Nat.reduceAdd, Nat.zero_add, List.take_succ_cons, List.take_zero, List.drop_succ_cons, List.drop_zero, List.drop_nil, List.cons_append, List.nil_append, List.append_nil]; first | done | exact rfl) ?_; clear hm; intro w hz hm ho)) | ((with_reducible show wpList _ _ _ (Oper.mk _ (Op.alloc _) _ _ _ _ :: _) _ _); (refine wpList_al (by rfl) _ rfl _ rfl _ (by simp only [Value.cells]; first | done | exact rfl) hm ?_; clear hm; intro n w hn hz hm ho; (try simp only [List.cons_append, List.nil_append] at hm)))); try simp only [Act.put, List.setIfInBounds_toArray, List.set_cons_zero, List.set_cons_succ]))
  go_ret
  exact ⟨rfl, (HC.out.resync hm).low⟩
set_option maxRecDepth 100000 in
theorem once_out2 (a : SnS) (s : Sec.S) (C : Option Addr) (cn cc : Nat) (w0 : World) (hg : HasEt w0) (hs : SnAt w0 a s C cn cc) (cla ins p1 p2 : Int) (A : Option Addr) (dn c : Nat) (b : List UInt8) (le : Int) (long : Bool) (hx : Byt w0 w0.heap.size A dn c b) (cla' ins' p1' p2' : Int) (A' : Option Addr) (dn' c' : Nat) (b' : List UInt8) (le' : Int) (long' : Bool) (hx' : Byt w0 w0.heap.size A' dn' c' b') (hd : dn ≤ 600) (hd' : 600 < dn') : Calls Tryd.prog 4 #[snV a s.lvl, .slice C cn cc, cmdV cla ins p1 p2 A dn c le long, cmdV cla' ins' p1' p2' A' dn' c' le' long'] w0 fun e w' => e = .returned (.bool true) ∧ Below w0.heap.size w0 w' := by
  have HG := Lib.hid hg
  have HP := Lib.hid hg.pos
  clear hg
  have i0 : decide ((600 : Int) < (dn : Int)) = false := decide_eq_false (by omega)
  have i1 : decide ((600 : Int) < (dn' : Int)) = true := decide_eq_true (by omega)
  have HC := Lib.hid (Scn.start w0)
  have hm := HC.out.rebase
  unfold snV cmdV
  go_enter Tryd.func4, Tryd.ntmps4
  go_wp2_with (first | go_skip | ((with_reducible show wpList _ _ _ _ _ (World.alloc _ _)); refine wpList_up hm ?_; clear hm; intro n w hn hn2 hk hm hd hd2 ho; (try rw [← hn]); replace hn := Nat.le_of_eq hn.symm) | ((first | ((with_reducible show wpList _ _ _ (Oper.mk _ (Op.box _ _) _ _ _ _ :: _) _ _); (refine wpList_bx (by rfl) _ _ rfl _ (by simp only [Act.eval, Array.getD_eq_getD_getElem?, List.getElem?_toArray, List.getElem?_cons_succ, List.getElem?_cons_zero, Option.getD_some]; first | done | exact rfl) _ (by simp only [Value.cells]; first | done | exact rfl) hm ?_; clear hm; intro n w hn hz hm ho; (try simp only [List.cons_append, List.nil_append] at hm))) | ((with_reducible show wpList _ _ _ (Oper.mk _ (Op.load _ _) _ _ _ _ :: _) _ _); first | (refine wpList_ldS (by rfl) _ _ rfl _ _ rfl hm _ _ (by repeat (first | apply In.a | apply In.b)) (by decide +kernel) _ (by simp only [List.getElem?_toArray, List.getElem?_cons_succ, List.getElem?_cons_zero]; first | done | exact rfl) ?_) | (refine wpList_laS (by rfl) _ _ rfl _ _ rfl hm _ _ (by repeat (first | apply In.a | apply In.b)) (by kernel_rfl) _ (by rfl) (by kernel_rfl) (by simp) _ (by simp only [List.toList_toArray, List.drop_succ_cons, List.drop_zero, List.size_toArray, List.length_cons, List.length_nil, Nat.reduceAdd, List.take_succ_cons, List.take_zero]; first | done | exact rfl) ?_)) | ((with_reducible show wpList _ _ _ (Oper.mk _ (Op.store _ _ _) _ _ _ _ :: _) _ _); (refine wpList_stS (by rfl) _ _ _ rfl _ _ rfl _ (by simp only [Act.eval, Array.getD_eq_getD_getElem?, List.getElem?_toArray, List.getElem?_cons_succ, List.getElem?_cons_zero, Option.getD_some]; first | done | exact rfl) hm _ (by simp only [Value.cells]; first | done | exact rfl) _ _ _ _ (by repeat (first | apply Put.a | apply Put.b)) (by kernel_rfl) (by simp [Value.oneCell']) (by simp) (by simp only [List.set_cons_zero, List.set_cons_succ, spl, List.toList_toArray, List.size_toArray, List.length_cons, List.length_nil, Nat.reduceAdd, Nat.zero_add, List.take_succ_cons, List.take_zero, List.drop_succ_cons, List.drop_zero, List.drop_nil, List.cons_append, List.nil_append, List.append_nil]; first | done | exact rfl) ?_; clear hm; intro w hz hm ho)) | ((with_reducible show wpList _ _ _ (Oper.mk _ (Op.alloc _) _ _ _ _ :: _) _ _); (refine wpList_al (by rfl) _ rfl _ rfl _ (by simp only [Value.cells]; first | done | exact rfl) hm ?_; clear hm; intro n w hn hz hm ho; (try simp only [List.cons_append, List.nil_append] at hm)))); try simp only [Act.put, List.setIfInBounds_toArray, List.set_cons_zero, List.set_cons_succ]))
  go_ret
  exact ⟨rfl, (HC.out.resync hm).low⟩
set_option maxRecDepth 100000 in
theorem once_out3 (a : SnS) (s : Sec.S) (C : Option Addr) (cn cc : Nat) (w0 : World) (hg : HasEt w0) (hs : SnAt w0 a s C cn cc) (cla ins p1 p2 : Int) (A : Option Addr) (dn c : Nat) (b : List UInt8) (le : Int) (long : Bool) (hx : Byt w0 w0.heap.size A dn c b) (cla' ins' p1' p2' : Int) (A' : Option Addr) (dn' c' : Nat) (b' : List UInt8) (le' : Int) (long' : Bool) (hx' : Byt w0 w0.heap.size A' dn' c' b') (hd : dn ≤ 600) (hd' : dn' ≤ 600) (hn : 100 < cn) : Calls Tryd.prog 4 #[snV a s.lvl, .slice C cn cc, cmdV cla ins p1 p2 A dn c le long, cmdV cla' ins' p1' p2' A' dn' c' le' long'] w0 fun e w' => e = .returned (.bool true) ∧ Below w0.heap.size w0 w' := by
  have HG := Lib.hid hg
  have HP := Lib.hid hg.pos
  clear hg
  have i0 : decide ((600 : Int) < (dn : Int)) = false := decide_eq_false (by omega)
  have i1 : decide ((600 : Int) < (dn' : Int)) = false := decide_eq_false (by omega)
  have i2 : decide ((100 : Int) < (cn : Int)) = true := decide_eq_true (by omega)
  have HC := Lib.hid (Scn.start w0)
  have hm := HC.out.rebase
  unfold snV cmdV
  go_enter Tryd.func4, Tryd.ntmps4
  go_wp2_with (first | go_skip | ((with_reducible show wpList _ _ _ _ _ (World.alloc _ _)); refine wpList_up hm ?_; clear hm; intro n w hn hn2 hk hm hd hd2 ho; (try rw [← hn]); replace hn := Nat.le_of_eq hn.symm) | ((first | ((with_reducible show wpList _ _ _ (Oper.mk _ (Op.box _ _) _ _ _ _ :: _) _ _); (refine wpList_bx (by rfl) _ _ rfl _ (by simp only [Act.eval, Array.getD_eq_getD_getElem?, List.getElem?_toArray, List.getElem?_cons_succ, List.getElem?_cons_zero, Option.getD_some]; first | done | exact rfl) _ (by simp only [Value.cells]; first | done | exact rfl) hm ?_; clear hm; intro n w hn hz hm ho; (try simp only [List.cons_append, List.nil_append] at hm))) | ((with_reducible show wpList _ _ _ (Oper.mk _ (Op.load _ _) _ _ _ _ :: _) _ _); first | (refine wpList_ldS (by rfl) _ _ rfl _ _ rfl hm _ _ (by repeat (first | apply In.a | apply In.b)) (by decide +kernel) _ (by simp only [List.getElem?_toArray, List.getElem?_cons_succ, List.getElem?_cons_zero]; first | done | exact rfl) ?_) | (refine wpList_laS (by rfl) _ _ rfl _ _ rfl hm _ _ (by repeat (first | apply In.a | apply In.b)) (by kernel_rfl) _ (by rfl) (by kernel_rfl) (by simp) _ (by simp only [List.toList_toArray, List.drop_succ_cons, List.drop_zero, List.size_toArray, List.length_cons, List.length_nil, Nat.reduceAdd, List.take_succ_cons, List.take_zero]; first | done | exact rfl) ?_)) | ((with_reducible show wpList _ _ _ (Oper.mk _ (Op.store _ _ _) _ _ _ _ :: _) _ _); (refine wpList_stS (by rfl) _ _ _ rfl _ _ rfl _ (by simp only [Act.eval, Array.getD_eq_getD_getElem?, List.getElem?_toArray, List.getElem?_cons_succ, List.getElem?_cons_zero, Option.getD_some]; first | done | exact rfl) hm _ (by simp only [Value.cells]; first | done | exact rfl) _ _ _ _ (by repeat (first | apply Put.a | apply Put.b)) (by kernel_rfl) (by simp [Value.oneCell']) (by simp) (by simp only [List.set_cons_zero, List.set_cons_succ, spl, List.toList_toArray, List.size_toArray, List.length_cons, List.length_nil, Nat.reduceAdd, Nat.zero_add, List.take_succ_cons, List.take_zero, List.drop_succ_cons, List.drop_zero, List.drop_nil, List.cons_append, List.nil_append, List.append_nil]; first | done | exact rfl) ?_; clear hm; intro w hz hm ho)) | ((with_reducible show wpList _ _ _ (Oper.mk _ (Op.alloc _) _ _ _ _ :: _) _ _); (refine wpList_al (by rfl) _ rfl _ rfl _ (by simp only [Value.cells]; first | done | exact rfl) hm ?_; clear hm; intro n w hn hz hm ho; (try simp only [List.cons_append, List.nil_append] at hm)))); try simp only [Act.put, List.setIfInBounds_toArray, List.set_cons_zero, List.set_cons_succ]))
  go_ret
  exact ⟨rfl, (HC.out.resync hm).low⟩
set_option maxRecDepth 100000 in
theorem once_no (a : SnS) (s : Sec.S) (C : Option Addr) (cn cc : Nat) (w0 : World) (hg : HasEt w0) (hs : SnAt w0 a s C cn cc) (cla ins p1 p2 : Int) (A : Option Addr) (dn c : Nat) (b : List UInt8) (le : Int) (long : Bool) (hx : Byt w0 w0.heap.size A dn c b) (cla' ins' p1' p2' : Int) (A' : Option Addr) (dn' c' : Nat) (b' : List UInt8) (le' : Int) (long' : Bool) (hx' : Byt w0 w0.heap.size A' dn' c' b') (hd : dn ≤ 600) (hd' : dn' ≤ 600) (hn : cn ≤ 100) (hk : (okSn a s.lvl cn && !(s.lvl == 0)) = false) : Calls Tryd.prog 4 #[snV a s.lvl, .slice C cn cc, cmdV cla ins p1 p2 A dn c le long, cmdV cla' ins' p1' p2' A' dn' c' le' long'] w0 fun e w' => e = .returned (.bool true) ∧ Below w0.heap.size w0 w' := by
  have HG := Lib.hid hg
  have HP := Lib.hid hg.pos
  clear hg
  have i0 : decide ((600 : Int) < (dn : Int)) = false := decide_eq_false (by omega)
  have i1 : decide ((600 : Int) < (dn' : Int)) = false := decide_eq_false (by omega)
  have i2 : decide ((100 : Int) < (cn : Int)) = false := decide_eq_false (by omega)
  have hpr := fun u (hu : Below w0.heap.size w0 u) => law_pair u a s C cn cc (hs.below hu)
  have HPR := Lib.hid hpr
  have HX := Lib.hid hx
  have HY := Lib.hid hx'
  clear hpr hx hx'
  unfold snV at HPR
  rw [hk] at HPR
  clear hk hs
  generalize hlv : s.lvl = lv at *
  have HLV := Lib.hid hlv
  clear hlv
  have HC := Lib.hid (Scn.start w0)
  have hm := HC.out.rebase
  unfold snV cmdV
  go_enter Tryd.func4, Tryd.ntmps4
  go_wp2_with (first | go_skip | ((with_reducible show wpList _ _ _ _ _ (World.alloc _ _)); refine wpList_up hm ?_; clear hm; intro n w hn hn2 hk hm hd hd2 ho; (try rw [← hn]); replace hn := Nat.le_of_eq hn.symm) | ((first | ((with_reducible show wpList _ _ _ (Oper.mk _ (Op.box _ _) _ _ _ _ :: _) _ _); (refine wpList_bx (by rfl) _ _ rfl _ (by simp only [Act.eval, Array.getD_eq_getD_getElem?, List.getElem?_toArray, List.getElem?_cons_succ, List.getElem?_cons_zero, Option.getD_some]; first | done | exact rfl) _ (by simp only [Value.cells]; first | done | exact rfl) hm ?_; clear hm; intro n w hn hz hm ho; (try simp only [List.cons_append, List.nil_append] at hm))) | ((with_reducible show wpList _ _ _ (Oper.mk _ (Op.load _ _) _ _ _ _ :: _) _ _); first | (refine wpList_ldS (by rfl) _ _ rfl _ _ rfl hm _ _ (by repeat (first | apply In.a | apply In.b)) (by decide +kernel) _ (by simp only [List.getElem?_toArray, List.getElem?_cons_succ, List.getElem?_cons_zero]; first | done | exact rfl) ?_) | (refine wpList_laS (by rfl) _ _ rfl _ _ rfl hm _ _ (by repeat (first | apply In.a | apply In.b)) (by kernel_rfl) _ (by rfl) (by kernel_rfl) (by simp) _ (by simp only [List.toList_toArray, List.drop_succ_cons, List.drop_zero, List.size_toArray, List.length_cons, List.length_nil, Nat.reduceAdd, List.take_succ_cons, List.take_zero]; first | done | exact rfl) ?_)) | ((with_reducible show wpList _ _ _ (Oper.mk _ (Op.store _ _ _) _ _ _ _ :: _) _ _); (refine wpList_stS (by rfl) _ _ _ rfl _ _ rfl _ (by simp only [Act.eval, Array.getD_eq_getD_getElem?, List.getElem?_toArray, List.getElem?_cons_succ, List.getElem?_cons_zero, Option.getD_some]; first | done | exact rfl) hm _ (by simp only [Value.cells]; first | done | exact rfl) _ _ _ _ (by repeat (first | apply Put.a | apply Put.b)) (by kernel_rfl) (by simp [Value.oneCell']) (by simp) (by simp only [List.set_cons_zero, List.set_cons_succ, spl, List.toList_toArray, List.size_toArray, List.length_cons, List.length_nil, Nat.reduceAdd, Nat.zero_add, List.take_succ_cons, List.take_zero, List.drop_succ_cons, List.drop_zero, List.drop_nil, List.cons_append, List.nil_append, List.append_nil]; first | done | exact rfl) ?_; clear hm; intro w hz hm ho)) | ((with_reducible show wpList _ _ _ (Oper.mk _ (Op.alloc _) _ _ _ _ :: _) _ _); (refine wpList_al (by rfl) _ rfl _ rfl _ (by simp only [Value.cells]; first | done | exact rfl) hm ?_; clear hm; intro n w hn hz hm ho; (try simp only [List.cons_append, List.nil_append] at hm)))); try simp only [Act.put, List.setIfInBounds_toArray, List.set_cons_zero, List.set_cons_succ]))
  go_at_call 8
  refine (HPR.out _ (HC.out.resync hm).low).mono ?_
  rintro e w2 (⟨_, rfl, hbl⟩ | ⟨hv, _⟩)
  rotate_left 1
  · cases hv
  replace hm := hm.below hbl
  go_wp2_with (first | go_skip | ((with_reducible show wpList _ _ _ _ _ (World.alloc _ _)); refine wpList_up hm ?_; clear hm; intro n w hn hn2 hk hm hd hd2 ho; (try rw [← hn]); replace hn := Nat.le_of_eq hn.symm) | ((first | ((with_reducible show wpList _ _ _ (Oper.mk _ (Op.box _ _) _ _ _ _ :: _) _ _); (refine wpList_bx (by rfl) _ _ rfl _ (by simp only [Act.eval, Array.getD_eq_getD_getElem?, List.getElem?_toArray, List.getElem?_cons_succ, List.getElem?_cons_zero, Option.getD_some]; first | done | exact rfl) _ (by simp only [Value.cells]; first | done | exact rfl) hm ?_; clear hm; intro n w hn hz hm ho; (try simp only [List.cons_append, List.nil_append] at hm))) | ((with_reducible show wpList _ _ _ (Oper.mk _ (Op.load _ _) _ _ _ _ :: _) _ _); first | (refine wpList_ldS (by rfl) _ _ rfl _ _ rfl hm _ _ (by repeat (first | apply In.a | apply In.b)) (by decide +kernel) _ (by simp only [List.getElem?_toArray, List.getElem?_cons_succ, List.getElem?_cons_zero]; first | done | exact rfl) ?_) | (refine wpList_laS (by rfl) _ _ rfl _ _ rfl hm _ _ (by repeat (first | apply In.a | apply In.b)) (by kernel_rfl) _ (by rfl) (by kernel_rfl) (by simp) _ (by simp only [List.toList_toArray, List.drop_succ_cons, List.drop_zero, List.size_toArray, List.length_cons, List.length_nil, Nat.reduceAdd, List.take_succ_cons, List.take_zero]; first | done | exact rfl) ?_)) | ((with_reducible show wpList _ _ _ (Oper.mk _ (Op.store _ _ _) _ _ _ _ :: _) _ _); (refine wpList_stS (by rfl) _ _ _ rfl _ _ rfl _ (by simp only [Act.eval, Array.getD_eq_getD_getElem?, List.getElem?_toArray, List.getElem?_cons_succ, List.getElem?_cons_zero, Option.getD_some]; first | done | exact rfl) hm _ (by simp only [Value.cells]; first | done | exact rfl) _ _ _ _ (by repeat (first | apply Put.a | apply Put.b)) (by kernel_rfl) (by simp [Value.oneCell']) (by simp) (by simp only [List.set_cons_zero, List.set_cons_succ, spl, List.toList_toArray, List.size_toArray, List.length_cons, List.length_nil, Nat.reduceAdd, Nat.zero_add, List.take_succ_cons, List.take_zero, List.drop_succ_cons, List.drop_zero, List.drop_nil, List.cons_append, List.nil_append, List.append_nil]; first | done | exact rfl) ?_; clear hm; intro w hz hm ho)) | ((with_reducible show wpList _ _ _ (Oper.mk _ (Op.alloc _) _ _ _ _ :: _) _ _); (refine wpList_al (by rfl) _ rfl _ rfl _ (by simp only [Value.cells]; first | done | exact rfl) hm ?_; clear hm; intro n w hn hz hm ho; (try simp only [List.cons_append, List.nil_append] at hm)))); try simp only [Act.put, List.setIfInBounds_toArray, List.set_cons_zero, List.set_cons_succ]))
  go_ret
  exact ⟨rfl, (HC.out.resync hm).low⟩
set_option maxRecDepth 100000 in
theorem once_err1 (a : SnS) (s : Sec.S) (C : Option Addr) (cn cc : Nat) (w0 : World) (hg : HasEt w0) (hs : SnAt w0 a s C cn cc) (cla ins p1 p2 : Int) (A : Option Addr) (dn c : Nat) (b : List UInt8) (le : Int) (long : Bool) (hx : Byt w0 w0.heap.size A dn c b) (cla' ins' p1' p2' : Int) (A' : Option Addr) (dn' c' : Nat) (b' : List UInt8) (le' : Int) (long' : Bool) (hx' : Byt w0 w0.heap.size A' dn' c' b') (hd : dn ≤ 600) (hd' : dn' ≤ 600) (hn : cn ≤ 100) (hk : (okSn a s.lvl cn && !(s.lvl == 0)) = true) (hw : Sec.wrapE s ⟨cla, ins, p1, p2, b, le, long⟩ ≠ 0) : Calls Tryd.prog 4 #[snV a s.lvl, .slice C cn cc, cmdV cla ins p1 p2 A dn c le long, cmdV cla' ins' p1' p2' A' dn' c' le' long'] w0 fun e w' => e = .returned (.bool true) ∧ Below w0.heap.size w0 w' := by
  have HG := Lib.hid hg
  have HP := Lib.hid hg.pos
  clear hg
  have i0 : decide ((600 : Int) < (dn : Int)) = false := decide_eq_false (by omega)
  have i1 : decide ((600 : Int) < (dn' : Int)) = false := decide_eq_false (by omega)
  have i2 : decide ((100 : Int) < (cn : Int)) = false := decide_eq_false (by omega)
  have hpr := fun u (hu : Below w0.heap.size w0 u) => law_pair u a s C cn cc (hs.below hu)
  have HPR := Lib.hid hpr
  have HX := Lib.hid hx
  have HY := Lib.hid hx'
  clear hpr hx hx'
  unfold snV at HPR
  have hok : okSn a s.lvl cn = true := (Bool.and_eq_true_iff.1 hk).1
  have hl0 : (s.lvl == 0) = false := by simpa using (Bool.and_eq_true_iff.1 hk).2
  have HOK := Lib.hid (ok_of hs hok)
  have h1 := lv_one HOK.out.lvl hl0
  have HCN := Lib.hid hs.cnt
  have HSH := Lib.hid hs.shut
  rw [hk] at HPR
  clear hk hl0
  clear hok h1 hs
  have hne := hw
  obtain ⟨er, her⟩ : ∃ er, Sec.wrapE s ⟨cla, ins, p1, p2, b, le, long⟩ = er := ⟨_, rfl⟩
  rw [her] at hw
  have i3 : (er == 0) = false := beq_eq_false_iff_ne.2 hw
  have i4 : (er != 0) = true := bne_iff_ne.2 hw
  have HER := Lib.hid her
  have HWP : Hid (Sec.wrap s ⟨cla, ins, p1, p2, b, le, long⟩ = (s, Sec.cz)) := Lib.hid (by unfold Sec.wrap; rw [if_pos hne])
  have HC1 := Lib.hid (by have h := HCN.out; omega : s.cnt < 1000000)
  clear her hne hw
  generalize hlv : s.lvl = lv at *
  have HLV := Lib.hid hlv
  clear hlv
  have HC := Lib.hid (Scn.start w0)
  have hm := HC.out.rebase
  unfold snV cmdV
  go_enter Tryd.func4, Tryd.ntmps4
  go_wp2_with (first | go_skip | ((with_reducible show wpList _ _ _ _ _ (World.alloc _ _)); refine wpList_up hm ?_; clear hm; intro n w hn hn2 hk hm hd hd2 ho; (try rw [← hn]); replace hn := Nat.le_of_eq hn.symm) | ((first | ((with_reducible show wpList _ _ _ (Oper.mk _ (Op.box _ _) _ _ _ _ :: _) _ _); (refine wpList_bx (by rfl) _ _ rfl _ (by simp only [Act.eval, Array.getD_eq_getD_getElem?, List.getElem?_toArray, List.getElem?_cons_succ, List.getElem?_cons_zero, Option.getD_some]; first | done | exact rfl) _ (by simp only [Value.cells]; first | done | exact rfl) hm ?_; clear hm; intro n w hn hz hm ho; (try simp only [List.cons_append, List.nil_append] at hm))) | ((with_reducible show wpList _ _ _ (Oper.mk _ (Op.load _ _) _ _ _ _ :: _) _ _); first | (refine wpList_ldS (by rfl) _ _ rfl _ _ rfl hm _ _ (by repeat (first | apply In.a | apply In.b)) (by decide +kernel) _ (by simp only [List.getElem?_toArray, List.getElem?_cons_succ, List.getElem?_cons_zero]; first | done | exact rfl) ?_) | (refine wpList_laS (by rfl) _ _ rfl _ _ rfl hm _ _ (by repeat (first | apply In.a | apply In.b)) (by kernel_rfl) _ (by rfl) (by kernel_rfl) (by simp) _ (by simp only [List.toList_toArray, List.drop_succ_cons, List.drop_zero, List.size_toArray, List.length_cons, List.length_nil, Nat.reduceAdd, List.take_succ_cons, List.take_zero]; first | done | exact rfl) ?_)) | ((with_reducible show wpList _ _ _ (Oper.mk _ (Op.store _ _ _) _ _ _ _ :: _) _ _); (refine wpList_stS (by rfl) _ _ _ rfl _ _ rfl _ (by simp only [Act.eval, Array.getD_eq_getD_getElem?, List.getElem?_toArray, List.getElem?_cons_succ, List.getElem?_cons_zero, Option.getD_some]; first | done | exact rfl) hm _ (by simp only [Value.cells]; first | done | exact rfl) _ _ _ _ (by repeat (first | apply Put.a | apply Put.b)) (by kernel_rfl) (by simp [Value.oneCell']) (by simp) (by simp only [List.set_cons_zero, List.set_cons_succ, spl, List.toList_toArray, List.size_toArray, List.length_cons, List.length_nil, Nat.reduceAdd, Nat.zero_add, List.take_succ_cons, List.take_zero, List.drop_succ_cons, List.drop_zero, List.drop_nil, List.cons_append, List.nil_append, List.append_nil]; first | done | exact rfl) ?_; clear hm; intro w hz hm ho)) | ((with_reducible show wpList _ _ _ (Oper.mk _ (Op.alloc _) _ _ _ _ :: _) _ _); (refine wpList_al (by rfl) _ rfl _ rfl _ (by simp only [Value.cells]; first | done | exact rfl) hm ?_; clear hm; intro n w hn hz hm ho; (try simp only [List.cons_append, List.nil_append] at hm)))); try simp only [Act.put, List.setIfInBounds_toArray, List.set_cons_zero, List.set_cons_succ]))
  go_at_call 8
  refine (HPR.out _ (HC.out.resync hm).low).mono ?_
  rintro e w2 (⟨hv, _⟩ | ⟨_, u, g1, F1, g2, F2, rfl, hb1, hch1, hF1, hb2, hch2, hF2⟩)
  · cases hv
  have hc2 := ((HC.out.resync hm).born hb1 hch1.sup hF1).born hb2 hch2.sup hF2
  clear hch1 hF1 hch2 hF2 hb1 hb2
  clear HC hm
  simp only [List.nil_append, List.cons_append, List.set_cons_zero, List.set_cons_succ] at hc2
  have HC := Lib.hid hc2
  clear hc2
  have hm := HC.out.rebase
  go_wp2_with (first | go_skip | ((with_reducible show wpList _ _ _ _ _ (World.alloc _ _)); refine wpList_up hm ?_; clear hm; intro n w hn hn2 hk hm hd hd2 ho; (try rw [← hn]); replace hn := Nat.le_of_eq hn.symm) | ((first | ((with_reducible show wpList _ _ _ (Oper.mk _ (Op.box _ _) _ _ _ _ :: _) _ _); (refine wpList_bx (by rfl) _ _ rfl _ (by simp only [Act.eval, Array.getD_eq_getD_getElem?, List.getElem?_toArray, List.getElem?_cons_succ, List.getElem?_cons_zero, Option.getD_some]; first | done | exact rfl) _ (by simp only [Value.cells]; first | done | exact rfl) hm ?_; clear hm; intro n w hn hz hm ho; (try simp only [List.cons_append, List.nil_append] at hm))) | ((with_reducible show wpList _ _ _ (Oper.mk _ (Op.load _ _) _ _ _ _ :: _) _ _); first | (refine wpList_ldS (by rfl) _ _ rfl _ _ rfl hm _ _ (by repeat (first | apply In.a | apply In.b)) (by decide +kernel) _ (by simp only [List.getElem?_toArray, List.getElem?_cons_succ, List.getElem?_cons_zero]; first | done | exact rfl) ?_) | (refine wpList_laS (by rfl) _ _ rfl _ _ rfl hm _ _ (by repeat (first | apply In.a | apply In.b)) (by kernel_rfl) _ (by rfl) (by kernel_rfl) (by simp) _ (by simp only [List.toList_toArray, List.drop_succ_cons, List.drop_zero, List.size_toArray, List.length_cons, List.length_nil, Nat.reduceAdd, List.take_succ_cons, List.take_zero]; first | done | exact rfl) ?_)) | ((with_reducible show wpList _ _ _ (Oper.mk _ (Op.store _ _ _) _ _ _ _ :: _) _ _); (refine wpList_stS (by rfl) _ _ _ rfl _ _ rfl _ (by simp only [Act.eval, Array.getD_eq_getD_getElem?, List.getElem?_toArray, List.getElem?_cons_succ, List.getElem?_cons_zero, Option.getD_some]; first | done | exact rfl) hm _ (by simp only [Value.cells]; first | done | exact rfl) _ _ _ _ (by repeat (first | apply Put.a | apply Put.b)) (by kernel_rfl) (by simp [Value.oneCell']) (by simp) (by simp only [List.set_cons_zero, List.set_cons_succ, spl, List.toList_toArray, List.size_toArray, List.length_cons, List.length_nil, Nat.reduceAdd, Nat.zero_add, List.take_succ_cons, List.take_zero, List.drop_succ_cons, List.drop_zero, List.drop_nil, List.cons_append, List.nil_append, List.append_nil]; first | done | exact rfl) ?_; clear hm; intro w hz hm ho)) | ((with_reducible show wpList _ _ _ (Oper.mk _ (Op.alloc _) _ _ _ _ :: _) _ _); (refine wpList_al (by rfl) _ rfl _ rfl _ (by simp only [Value.cells]; first | done | exact rfl) hm ?_; clear hm; intro n w hn hz hm ho; (try simp only [List.cons_append, List.nil_append] at hm)))); try simp only [Act.put, List.setIfInBounds_toArray, List.set_cons_zero, List.set_cons_succ]))
  go_at_call 9
  have hby := (HC.out.resync hm).oldO 0 rfl HX.out
  refine (ch_wrap _ g1 F1 s ((HC.out.resync hm).obj 0 rfl) (by have h := HCN.out; omega) cla ins p1 p2 A dn c b hby.1 hby.2 (by omega) le long).mono ?_
  clear hby
  intro e w3 hres
  unfold WrRes at hres
  rw [HWP.out, HER.out] at hres
  obtain ⟨A6, c6, F3, rfl, hown, hch, hon, hF, hd6⟩ := hres
  dsimp only at hown hch
  have hc2 := (HC.out.resync hm).turned 0 rfl hon hF hch.sup hown hd6
  clear hown hch hon hF hd6
  clear HC hm
  simp only [List.nil_append, List.cons_append, List.set_cons_zero, List.set_cons_succ] at hc2
  have HC := Lib.hid hc2
  clear hc2
  have hm := HC.out.rebase
  unfold Sec.cz
  dsimp only
  unfold cmdV
  go_wp2_with (first | go_skip | ((with_reducible show wpList _ _ _ _ _ (World.alloc _ _)); refine wpList_up hm ?_; clear hm; intro n w hn hn2 hk hm hd hd2 ho; (try rw [← hn]); replace hn := Nat.le_of_eq hn.symm) | ((first | ((with_reducible show wpList _ _ _ (Oper.mk _ (Op.box _ _) _ _ _ _ :: _) _ _); (refine wpList_bx (by rfl) _ _ rfl _ (by simp only [Act.eval, Array.getD_eq_getD_getElem?, List.getElem?_toArray, List.getElem?_cons_succ, List.getElem?_cons_zero, Option.getD_some]; first | done | exact rfl) _ (by simp only [Value.cells]; first | done | exact rfl) hm ?_; clear hm; intro n w hn hz hm ho; (try simp only [List.cons_append, List.nil_append] at hm))) | ((with_reducible show wpList _ _ _ (Oper.mk _ (Op.load _ _) _ _ _ _ :: _) _ _); first | (refine wpList_ldS (by rfl) _ _ rfl _ _ rfl hm _ _ (by repeat (first | apply In.a | apply In.b)) (by decide +kernel) _ (by simp only [List.getElem?_toArray, List.getElem?_cons_succ, List.getElem?_cons_zero]; first | done | exact rfl) ?_) | (refine wpList_laS (by rfl) _ _ rfl _ _ rfl hm _ _ (by repeat (first | apply In.a | apply In.b)) (by kernel_rfl) _ (by rfl) (by kernel_rfl) (by simp) _ (by simp only [List.toList_toArray, List.drop_succ_cons, List.drop_zero, List.size_toArray, List.length_cons, List.length_nil, Nat.reduceAdd, List.take_succ_cons, List.take_zero]; first | done | exact rfl) ?_)) | ((with_reducible show wpList _ _ _ (Oper.mk _ (Op.store _ _ _) _ _ _ _ :: _) _ _); (refine wpList_stS (by rfl) _ _ _ rfl _ _ rfl _ (by simp only [Act.eval, Array.getD_eq_getD_getElem?, List.getElem?_toArray, List.getElem?_cons_succ, List.getElem?_cons_zero, Option.getD_some]; first | done | exact rfl) hm _ (by simp only [Value.cells]; first | done | exact rfl) _ _ _ _ (by repeat (first | apply Put.a | apply Put.b)) (by kernel_rfl) (by simp [Value.oneCell']) (by simp) (by simp only [List.set_cons_zero, List.set_cons_succ, spl, List.toList_toArray, List.size_toArray, List.length_cons, List.length_nil, Nat.reduceAdd, Nat.zero_add, List.take_succ_cons, List.take_zero, List.drop_succ_cons, List.drop_zero, List.drop_nil, List.cons_append, List.nil_append, List.append_nil]; first | done | exact rfl) ?_; clear hm; intro w hz hm ho)) | ((with_reducible show wpList _ _ _ (Oper.mk _ (Op.alloc _) _ _ _ _ :: _) _ _); (refine wpList_al (by rfl) _ rfl _ rfl _ (by simp only [Value.cells]; first | done | exact rfl) hm ?_; clear hm; intro n w hn hz hm ho; (try simp only [List.cons_append, List.nil_append] at hm)))); try simp only [Act.put, List.setIfInBounds_toArray, List.set_cons_zero, List.set_cons_succ]))
  go_at_call 9
  have hby := (HC.out.resync hm).oldO 0 rfl HY.out
  refine (ch_wrap _ g1 F3 s ((HC.out.resync hm).obj 0 rfl) HC1.out cla' ins' p1' p2' A' dn' c' b' hby.1 hby.2 (by omega) le' long').mono ?_
  clear hby
  intro e w3 hres
  unfold WrRes at hres
  generalize Sec.wrap s ⟨cla', ins', p1', p2', b', le', long'⟩ = r2 at hres
  obtain ⟨s2, y0, y1, y2, y3, yd, yle, ylong⟩ := r2
  dsimp only at hres
  generalize Sec.wrapE s ⟨cla', ins', p1', p2', b', le', long'⟩ = er2 at hres
  obtain ⟨A7, c7, F4, rfl, hown, hch, hon, hF, hd7⟩ := hres
  generalize yd.length = yn at *
  have hc2 := (HC.out.resync hm).turned 0 rfl hon hF hch.sup hown hd7
  clear hown hch hon hF hd7
  clear HC hm
  simp only [List.nil_append, List.cons_append, List.set_cons_zero, List.set_cons_succ] at hc2
  have HC := Lib.hid hc2
  clear hc2
  have hm := HC.out.rebase
  unfold cmdV
  go_wp2_with (first | go_skip | ((with_reducible show wpList _ _ _ _ _ (World.alloc _ _)); refine wpList_up hm ?_; clear hm; intro n w hn hn2 hk hm hd hd2 ho; (try rw [← hn]); replace hn := Nat.le_of_eq hn.symm) | ((first | ((with_reducible show wpList _ _ _ (Oper.mk _ (Op.box _ _) _ _ _ _ :: _) _ _); (refine wpList_bx (by rfl) _ _ rfl _ (by simp only [Act.eval, Array.getD_eq_getD_getElem?, List.getElem?_toArray, List.getElem?_cons_succ, List.getElem?_cons_zero, Option.getD_some]; first | done | exact rfl) _ (by simp only [Value.cells]; first | done | exact rfl) hm ?_; clear hm; intro n w hn hz hm ho; (try simp only [List.cons_append, List.nil_append] at hm))) | ((with_reducible show wpList _ _ _ (Oper.mk _ (Op.load _ _) _ _ _ _ :: _) _ _); first | (refine wpList_ldS (by rfl) _ _ rfl _ _ rfl hm _ _ (by repeat (first | apply In.a | apply In.b)) (by decide +kernel) _ (by simp only [List.getElem?_toArray, List.getElem?_cons_succ, List.getElem?_cons_zero]; first | done | exact rfl) ?_) | (refine wpList_laS (by rfl) _ _ rfl _ _ rfl hm _ _ (by repeat (first | apply In.a | apply In.b)) (by kernel_rfl) _ (by rfl) (by kernel_rfl) (by simp) _ (by simp only [List.toList_toArray, List.drop_succ_cons, List.drop_zero, List.size_toArray, List.length_cons, List.length_nil, Nat.reduceAdd, List.take_succ_cons, List.take_zero]; first | done | exact rfl) ?_)) | ((with_reducible show wpList _ _ _ (Oper.mk _ (Op.store _ _ _) _ _ _ _ :: _) _ _); (refine wpList_stS (by rfl) _ _ _ rfl _ _ rfl _ (by simp only [Act.eval, Array.getD_eq_getD_getElem?, List.getElem?_toArray, List.getElem?_cons_succ, List.getElem?_cons_zero, Option.getD_some]; first | done | exact rfl) hm _ (by simp only [Value.cells]; first | done | exact rfl) _ _ _ _ (by repeat (first | apply Put.a | apply Put.b)) (by kernel_rfl) (by simp [Value.oneCell']) (by simp) (by simp only [List.set_cons_zero, List.set_cons_succ, spl, List.toList_toArray, List.size_toArray, List.length_cons, List.length_nil, Nat.reduceAdd, Nat.zero_add, List.take_succ_cons, List.take_zero, List.drop_succ_cons, List.drop_zero, List.drop_nil, List.cons_append, List.nil_append, List.append_nil]; first | done | exact rfl) ?_; clear hm; intro w hz hm ho)) | ((with_reducible show wpList _ _ _ (Oper.mk _ (Op.alloc _) _ _ _ _ :: _) _ _); (refine wpList_al (by rfl) _ rfl _ rfl _ (by simp only [Value.cells]; first | done | exact rfl) hm ?_; clear hm; intro n w hn hz hm ho; (try simp only [List.cons_append, List.nil_append] at hm)))); try simp only [Act.put, List.setIfInBounds_toArray, List.set_cons_zero, List.set_cons_succ]) | (go_at_call 10; refine (law24_awake _ (HG.out.below (HC.out.resync hm).low HP.out)).mono ?_; rintro e w9 ⟨rfl, hb9⟩; replace hm := hm.below hb9))
  go_ret
  exact ⟨rfl, (HC.out.resync hm).low⟩
set_option maxRecDepth 100000 in
theorem once_err2 (a : SnS) (s : Sec.S) (C : Option Addr) (cn cc : Nat) (w0 : World) (hg : HasEt w0) (hs : SnAt w0 a s C cn cc) (cla ins p1 p2 : Int) (A : Option Addr) (dn c : Nat) (b : List UInt8) (le : Int) (long : Bool) (hx : Byt w0 w0.heap.size A dn c b) (cla' ins' p1' p2' : Int) (A' : Option Addr) (dn' c' : Nat) (b' : List UInt8) (le' : Int) (long' : Bool) (hx' : Byt w0 w0.heap.size A' dn' c' b') (hd : dn ≤ 600) (hd' : dn' ≤ 600) (hn : cn ≤ 100) (hk : (okSn a s.lvl cn && !(s.lvl == 0)) = true) (hw : Sec.wrapE s ⟨cla, ins, p1, p2, b, le, long⟩ = 0) (hw2 : Sec.wrapE (Sec.wrap s ⟨cla, ins, p1, p2, b, le, long⟩).1 ⟨cla', ins', p1', p2', b', le', long'⟩ ≠ 0) : Calls Tryd.prog 4 #[snV a s.lvl, .slice C cn cc, cmdV cla ins p1 p2 A dn c le long, cmdV cla' ins' p1' p2' A' dn' c' le' long'] w0 fun e w' => e = .returned (.bool true) ∧ Below w0.heap.size w0 w' := by
  have HG := Lib.hid hg
  have HP := Lib.hid hg.pos
  clear hg
  have i0 : decide ((600 : Int) < (dn : Int)) = false := decide_eq_false (by omega)
  have i1 : decide ((600 : Int) < (dn' : Int)) = false := decide_eq_false (by omega)
  have i2 : decide ((100 : Int) < (cn : Int)) = false := decide_eq_false (by omega)
  have hpr := fun u (hu : Below w0.heap.size w0 u) => law_pair u a s C cn cc (hs.below hu)
  have HPR := Lib.hid hpr
  have HX := Lib.hid hx
  have HY := Lib.hid hx'
  clear hpr hx hx'
  unfold snV at HPR
  have hok : okSn a s.lvl cn = true := (Bool.and_eq_true_iff.1 hk).1
  have hl0 : (s.lvl == 0) = false := by simpa using (Bool.and_eq_true_iff.1 hk).2
  have HOK := Lib.hid (ok_of hs hok)
  have h1 := lv_one HOK.out.lvl hl0
  have HCN := Lib.hid hs.cnt
  have HSH := Lib.hid hs.shut
  rw [hk] at HPR
  clear hk hl0
  clear hok h1 hs
  generalize hwp : Sec.wrap s ⟨cla, ins, p1, p2, b, le, long⟩ = r at *
  have HWP := Lib.hid hwp
  obtain ⟨s1, x0, x1, x2, x3, xd, xle, xlong⟩ := r
  dsimp only at *
  have hc1 : s1.cnt < 1000000 := by
    have h := HCN.out
    have e : (Sec.wrap s ⟨cla, ins, p1, p2, b, le, long⟩).1.cnt = s1.cnt := by rw [hwp]
    unfold Sec.wrap at e
    split at e
    · rename_i e0; exact absurd hw e0
    split at e <;> (simp only at e; omega)
  have HC1 := Lib.hid hc1
  have HER := Lib.hid hw
  have hne := hw2
  obtain ⟨er, her⟩ : ∃ er, Sec.wrapE s1 ⟨cla', ins', p1', p2', b', le', long'⟩ = er := ⟨_, rfl⟩
  rw [her] at hw2
  have i3 : (er == 0) = false := beq_eq_false_iff_ne.2 hw2
  have i4 : (er != 0) = true := bne_iff_ne.2 hw2
  have HER2 := Lib.hid her
  have HWP2 : Hid (Sec.wrap s1 ⟨cla', ins', p1', p2', b', le', long'⟩ = (s1, Sec.cz)) := Lib.hid (by unfold Sec.wrap; rw [if_pos hne])
  generalize hxn : xd.length = xn at *
  have HXN := Lib.hid hxn
  clear her hne hw hw2 hwp hc1 hxn
  generalize hlv : s.lvl = lv at *
  have HLV := Lib.hid hlv
  clear hlv
  have HC := Lib.hid (Scn.start w0)
  have hm := HC.out.rebase
  unfold snV cmdV
  go_enter Tryd.func4, Tryd.ntmps4
  go_wp2_with (first | go_skip | ((with_reducible show wpList _ _ _ _ _ (World.alloc _ _)); refine wpList_up hm ?_; clear hm; intro n w hn hn2 hk hm hd hd2 ho; (try rw [← hn]); replace hn := Nat.le_of_eq hn.symm) | ((first | ((with_reducible show wpList _ _ _ (Oper.mk _ (Op.box _ _) _ _ _ _ :: _) _ _); (refine wpList_bx (by rfl) _ _ rfl _ (by simp only [Act.eval, Array.getD_eq_getD_getElem?, List.getElem?_toArray, List.getElem?_cons_succ, List.getElem?_cons_zero, Option.getD_some]; first | done | exact rfl) _ (by simp only [Value.cells]; first | done | exact rfl) hm ?_; clear hm; intro n w hn hz hm ho; (try simp only [List.cons_append, List.nil_append] at hm))) | ((with_reducible show wpList _ _ _ (Oper.mk _ (Op.load _ _) _ _ _ _ :: _) _ _); first | (refine wpList_ldS (by rfl) _ _ rfl _ _ rfl hm _ _ (by repeat (first | apply In.a | apply In.b)) (by decide +kernel) _ (by simp only [List.getElem?_toArray, List.getElem?_cons_succ, List.getElem?_cons_zero]; first | done | exact rfl) ?_) | (refine wpList_laS (by rfl) _ _ rfl _ _ rfl hm _ _ (by repeat (first | apply In.a | apply In.b)) (by kernel_rfl) _ (by rfl) (by kernel_rfl) (by simp) _ (by simp only [List.toList_toArray, List.drop_succ_cons, List.drop_zero, List.size_toArray, List.length_cons, List.length_nil, Nat.reduceAdd, List.take_succ_cons, List.take_zero]; first | done | exact rfl) ?_)) | ((with_reducible show wpList _ _ _ (Oper.mk _ (Op.store _ _ _) _ _ _ _ :: _) _ _); (refine wpList_stS (by rfl) _ _ _ rfl _ _ rfl _ (by simp only [Act.eval, Array.getD_eq_getD_getElem?, List.getElem?_toArray, List.getElem?_cons_succ, List.getElem?_cons_zero, Option.getD_some]; first | done | exact rfl) hm _ (by simp only [Value.cells]; first | done | exact rfl) _ _ _ _ (by repeat (first | apply Put.a | apply Put.b)) (by kernel_rfl) (by simp [Value.oneCell']) (by simp) (by simp only [List.set_cons_zero, List.set_cons_succ, spl, List.toList_toArray, List.size_toArray, List.length_cons, List.length_nil, Nat.reduceAdd, Nat.zero_add, List.take_succ_cons, List.take_zero, List.drop_succ_cons, List.drop_zero, List.drop_nil, List.cons_append, List.nil_append, List.append_nil]; first | done | exact rfl) ?_; clear hm; intro w hz hm ho)) | ((with_reducible show wpList _ _ _ (Oper.mk _ (Op.alloc _) _ _ _ _ :: _) _ _); (refine wpList_al (by rfl) _ rfl _ rfl _ (by simp only [Value.cells]; first | done | exact rfl) hm ?_; clear hm; intro n w hn hz hm ho; (try simp only [List.cons_append, List.nil_append] at hm)))); try simp only [Act.put, List.setIfInBounds_toArray, List.set_cons_zero, List.set_cons_succ]))
  go_at_call 8
  refine (HPR.out _ (HC.out.resync hm).low).mono ?_
  rintro e w2 (⟨hv, _⟩ | ⟨_, u, g1, F1, g2, F2, rfl, hb1, hch1, hF1, hb2, hch2, hF2⟩)
  · cases hv
  have hc2 := ((HC.out.resync hm).born hb1 hch1.sup hF1).born hb2 hch2.sup hF2
  clear hch1 hF1 hch2 hF2 hb1 hb2
  clear HC hm
  simp only [List.nil_append, List.cons_append, List.set_cons_zero, List.set_cons_succ] at hc2
  have HC := Lib.hid hc2
  clear hc2
  have hm := HC.out.rebase
  go_wp2_with (first | go_skip | ((with_reducible show wpList _ _ _ _ _ (World.alloc _ _)); refine wpList_up hm ?_; clear hm; intro n w hn hn2 hk hm hd hd2 ho; (try rw [← hn]); replace hn := Nat.le_of_eq hn.symm) | ((first | ((with_reducible show wpList _ _ _ (Oper.mk _ (Op.box _ _) _ _ _ _ :: _) _ _); (refine wpList_bx (by rfl) _ _ rfl _ (by simp only [Act.eval, Array.getD_eq_getD_getElem?, List.getElem?_toArray, List.getElem?_cons_succ, List.getElem?_cons_zero, Option.getD_some]; first | done | exact rfl) _ (by simp only [Value.cells]; first | done | exact rfl) hm ?_; clear hm; intro n w hn hz hm ho; (try simp only [List.cons_append, List.nil_append] at hm))) | ((with_reducible show wpList _ _ _ (Oper.mk _ (Op.load _ _) _ _ _ _ :: _) _ _); first | (refine wpList_ldS (by rfl) _ _ rfl _ _ rfl hm _ _ (by repeat (first | apply In.a | apply In.b)) (by decide +kernel) _ (by simp only [List.getElem?_toArray, List.getElem?_cons_succ, List.getElem?_cons_zero]; first | done | exact rfl) ?_) | (refine wpList_laS (by rfl) _ _ rfl _ _ rfl hm _ _ (by repeat (first | apply In.a | apply In.b)) (by kernel_rfl) _ (by rfl) (by kernel_rfl) (by simp) _ (by simp only [List.toList_toArray, List.drop_succ_cons, List.drop_zero, List.size_toArray, List.length_cons, List.length_nil, Nat.reduceAdd, List.take_succ_cons, List.take_zero]; first | done | exact rfl) ?_)) | ((with_reducible show wpList _ _ _ (Oper.mk _ (Op.store _ _ _) _ _ _ _ :: _) _ _); (refine wpList_stS (by rfl) _ _ _ rfl _ _ rfl _ (by simp only [Act.eval, Array.getD_eq_getD_getElem?, List.getElem?_toArray, List.getElem?_cons_succ, List.getElem?_cons_zero, Option.getD_some]; first | done | exact rfl) hm _ (by simp only [Value.cells]; first | done | exact rfl) _ _ _ _ (by repeat (first | apply Put.a | apply Put.b)) (by kernel_rfl) (by simp [Value.oneCell']) (by simp) (by simp only [List.set_cons_zero, List.set_cons_succ, spl, List.toList_toArray, List.size_toArray, List.length_cons, List.length_nil, Nat.reduceAdd, Nat.zero_add, List.take_succ_cons, List.take_zero, List.drop_succ_cons, List.drop_zero, List.drop_nil, List.cons_append, List.nil_append, List.append_nil]; first | done | exact rfl) ?_; clear hm; intro w hz hm ho)) | ((with_reducible show wpList _ _ _ (Oper.mk _ (Op.alloc _) _ _ _ _ :: _) _ _); (refine wpList_al (by rfl) _ rfl _ rfl _ (by simp only [Value.cells]; first | done | exact rfl) hm ?_; clear hm; intro n w hn hz hm ho; (try simp only [List.cons_append, List.nil_append] at hm)))); try simp only [Act.put, List.setIfInBounds_toArray, List.set_cons_zero, List.set_cons_succ]))
  go_at_call 9
  have hby := (HC.out.resync hm).oldO 0 rfl HX.out
  refine (ch_wrap _ g1 F1 s ((HC.out.resync hm).obj 0 rfl) (by have h := HCN.out; omega) cla ins p1 p2 A dn c b hby.1 hby.2 (by omega) le long).mono ?_
  clear hby
  intro e w3 hres
  unfold WrRes at hres
  rw [HWP.out, HER.out] at hres
  obtain ⟨A6, c6, F3, rfl, hown, hch, hon, hF, hd6⟩ := hres
  dsimp only at hown hch
  rw [HXN.out] at hown
  have hc2 := (HC.out.resync hm).turned 0 rfl hon hF hch.sup hown hd6
  clear hown hch hon hF hd6
  clear HC hm
  simp only [List.nil_append, List.cons_append, List.set_cons_zero, List.set_cons_succ] at hc2
  have HC := Lib.hid hc2
  clear hc2
  have hm := HC.out.rebase
  dsimp only
  rw [HXN.out]
  unfold cmdV
  go_wp2_with (first | go_skip | ((with_reducible show wpList _ _ _ _ _ (World.alloc _ _)); refine wpList_up hm ?_; clear hm; intro n w hn hn2 hk hm hd hd2 ho; (try rw [← hn]); replace hn := Nat.le_of_eq hn.symm) | ((first | ((with_reducible show wpList _ _ _ (Oper.mk _ (Op.box _ _) _ _ _ _ :: _) _ _); (refine wpList_bx (by rfl) _ _ rfl _ (by simp only [Act.eval, Array.getD_eq_getD_getElem?, List.getElem?_toArray, List.getElem?_cons_succ, List.getElem?_cons_zero, Option.getD_some]; first | done | exact rfl) _ (by simp only [Value.cells]; first | done | exact rfl) hm ?_; clear hm; intro n w hn hz hm ho; (try simp only [List.cons_append, List.nil_append] at hm))) | ((with_reducible show wpList _ _ _ (Oper.mk _ (Op.load _ _) _ _ _ _ :: _) _ _); first | (refine wpList_ldS (by rfl) _ _ rfl _ _ rfl hm _ _ (by repeat (first | apply In.a | apply In.b)) (by decide +kernel) _ (by simp only [List.getElem?_toArray, List.getElem?_cons_succ, List.getElem?_cons_zero]; first | done | exact rfl) ?_) | (refine wpList_laS (by rfl) _ _ rfl _ _ rfl hm _ _ (by repeat (first | apply In.a | apply In.b)) (by kernel_rfl) _ (by rfl) (by kernel_rfl) (by simp) _ (by simp only [List.toList_toArray, List.drop_succ_cons, List.drop_zero, List.size_toArray, List.length_cons, List.length_nil, Nat.reduceAdd, List.take_succ_cons, List.take_zero]; first | done | exact rfl) ?_)) | ((with_reducible show wpList _ _ _ (Oper.mk _ (Op.store _ _ _) _ _ _ _ :: _) _ _); (refine wpList_stS (by rfl) _ _ _ rfl _ _ rfl _ (by simp only [Act.eval, Array.getD_eq_getD_getElem?, List.getElem?_toArray, List.getElem?_cons_succ, List.getElem?_cons_zero, Option.getD_some]; first | done | exact rfl) hm _ (by simp only [Value.cells]; first | done | exact rfl) _ _ _ _ (by repeat (first | apply Put.a | apply Put.b)) (by kernel_rfl) (by simp [Value.oneCell']) (by simp) (by simp only [List.set_cons_zero, List.set_cons_succ, spl, List.toList_toArray, List.size_toArray, List.length_cons, List.length_nil, Nat.reduceAdd, Nat.zero_add, List.take_succ_cons, List.take_zero, List.drop_succ_cons, List.drop_zero, List.drop_nil, List.cons_append, List.nil_append, List.append_nil]; first | done | exact rfl) ?_; clear hm; intro w hz hm ho)) | ((with_reducible show wpList _ _ _ (Oper.mk _ (Op.alloc _) _ _ _ _ :: _) _ _); (refine wpList_al (by rfl) _ rfl _ rfl _ (by simp only [Value.cells]; first | done | exact rfl) hm ?_; clear hm; intro n w hn hz hm ho; (try simp only [List.cons_append, List.nil_append] at hm)))); try simp only [Act.put, List.setIfInBounds_toArray, List.set_cons_zero, List.set_cons_succ]))
  go_at_call 9
  have hby := (HC.out.resync hm).oldO 0 rfl HY.out
  refine (ch_wrap _ g1 F3 s1 ((HC.out.resync hm).obj 0 rfl) HC1.out cla' ins' p1' p2' A' dn' c' b' hby.1 hby.2 (by omega) le' long').mono ?_
  clear hby
  intro e w3 hres
  unfold WrRes at hres
  rw [HWP2.out, HER2.out] at hres
  obtain ⟨A7, c7, F4, rfl, hown, hch, hon, hF, hd7⟩ := hres
  have hc2 := (HC.out.resync hm).turned 0 rfl hon hF hch.sup hown hd7
  clear hown hch hon hF hd7
  clear HC hm
  simp only [List.nil_append, List.cons_append, List.set_cons_zero, List.set_cons_succ] at hc2
  have HC := Lib.hid hc2
  clear hc2
  have hm := HC.out.rebase
  unfold Sec.cz
  dsimp only
  unfold cmdV
  go_wp2_with (first | go_skip | ((with_reducible show wpList _ _ _ _ _ (World.alloc _ _)); refine wpList_up hm ?_; clear hm; intro n w hn hn2 hk hm hd hd2 ho; (try rw [← hn]); replace hn := Nat.le_of_eq hn.symm) | ((first | ((with_reducible show wpList _ _ _ (Oper.mk _ (Op.box _ _) _ _ _ _ :: _) _ _); (refine wpList_bx (by rfl) _ _ rfl _ (by simp only [Act.eval, Array.getD_eq_getD_getElem?, List.getElem?_toArray, List.getElem?_cons_succ, List.getElem?_cons_zero, Option.getD_some]; first | done | exact rfl) _ (by simp only [Value.cells]; first | done | exact rfl) hm ?_; clear hm; intro n w hn hz hm ho; (try simp only [List.cons_append, List.nil_append] at hm))) | ((with_reducible show wpList _ _ _ (Oper.mk _ (Op.load _ _) _ _ _ _ :: _) _ _); first | (refine wpList_ldS (by rfl) _ _ rfl _ _ rfl hm _ _ (by repeat (first | apply In.a | apply In.b)) (by decide +kernel) _ (by simp only [List.getElem?_toArray, List.getElem?_cons_succ, List.getElem?_cons_zero]; first | done | exact rfl) ?_) | (refine wpList_laS (by rfl) _ _ rfl _ _ rfl hm _ _ (by repeat (first | apply In.a | apply In.b)) (by kernel_rfl) _ (by rfl) (by kernel_rfl) (by simp) _ (by simp only [List.toList_toArray, List.drop_succ_cons, List.drop_zero, List.size_toArray, List.length_cons, List.length_nil, Nat.reduceAdd, List.take_succ_cons, List.take_zero]; first | done | exact rfl) ?_)) | ((with_reducible show wpList _ _ _ (Oper.mk _ (Op.store _ _ _) _ _ _ _ :: _) _ _); (refine wpList_stS (by rfl) _ _ _ rfl _ _ rfl _ (by simp only [Act.eval, Array.getD_eq_getD_getElem?, List.getElem?_toArray, List.getElem?_cons_succ, List.getElem?_cons_zero, Option.getD_some]; first | done | exact rfl) hm _ (by simp only [Value.cells]; first | done | exact rfl) _ _ _ _ (by repeat (first | apply Put.a | apply Put.b)) (by kernel_rfl) (by simp [Value.oneCell']) (by simp) (by simp only [List.set_cons_zero, List.set_cons_succ, spl, List.toList_toArray, List.size_toArray, List.length_cons, List.length_nil, Nat.reduceAdd, Nat.zero_add, List.take_succ_cons, List.take_zero, List.drop_succ_cons, List.drop_zero, List.drop_nil, List.cons_append, List.nil_append, List.append_nil]; first | done | exact rfl) ?_; clear hm; intro w hz hm ho)) | ((with_reducible show wpList _ _ _ (Oper.mk _ (Op.alloc _) _ _ _ _ :: _) _ _); (refine wpList_al (by rfl) _ rfl _ rfl _ (by simp only [Value.cells]; first | done | exact rfl) hm ?_; clear hm; intro n w hn hz hm ho; (try simp only [List.cons_append, List.nil_append] at hm)))); try simp only [Act.put, List.setIfInBounds_toArray, List.set_cons_zero, List.set_cons_succ]) | (go_at_call 10; refine (law24_awake _ (HG.out.below (HC.out.resync hm).low HP.out)).mono ?_; rintro e w9 ⟨rfl, hb9⟩; replace hm := hm.below hb9))
  go_ret
  exact ⟨rfl, (HC.out.resync hm).low⟩
set_option maxRecDepth 100000 in
theorem once_same (a : SnS) (s : Sec.S) (C : Option Addr) (cn cc : Nat) (w0 : World) (hg : HasEt w0) (hs : SnAt w0 a s C cn cc) (cla ins p1 p2 : Int) (A : Option Addr) (dn c : Nat) (b : List UInt8) (le : Int) (long : Bool) (hx : Byt w0 w0.heap.size A dn c b) (cla' ins' p1' p2' : Int) (A' : Option Addr) (dn' c' : Nat) (b' : List UInt8) (le' : Int) (long' : Bool) (hx' : Byt w0 w0.heap.size A' dn' c' b') (hd : dn ≤ 600) (hd' : dn' ≤ 600) (hn : cn ≤ 100) (hk : (okSn a s.lvl cn && !(s.lvl == 0)) = true) (hw : Sec.wrapE s ⟨cla, ins, p1, p2, b, le, long⟩ = 0) (hw2 : Sec.wrapE (Sec.wrap s ⟨cla, ins, p1, p2, b, le, long⟩).1 ⟨cla', ins', p1', p2', b', le', long'⟩ = 0) (hsame : (Sec.wrap s ⟨cla, ins, p1, p2, b, le, long⟩).1.chain = s.chain) : Calls Tryd.prog 4 #[snV a s.lvl, .slice C cn cc, cmdV cla ins p1 p2 A dn c le long, cmdV cla' ins' p1' p2' A' dn' c' le' long'] w0 fun e w' => e = .returned (.bool true) ∧ Below w0.heap.size w0 w' := by
  have HG := Lib.hid hg
  have HP := Lib.hid hg.pos
  clear hg
  have i0 : decide ((600 : Int) < (dn : Int)) = false := decide_eq_false (by omega)
  have i1 : decide ((600 : Int) < (dn' : Int)) = false := decide_eq_false (by omega)
  have i2 : decide ((100 : Int) < (cn : Int)) = false := decide_eq_false (by omega)
  have hpr := fun u (hu : Below w0.heap.size w0 u) => law_pair u a s C cn cc (hs.below hu)
  have HPR := Lib.hid hpr
  have HX := Lib.hid hx
  have HY := Lib.hid hx'
  clear hpr hx hx'
  unfold snV at HPR
  have hok : okSn a s.lvl cn = true := (Bool.and_eq_true_iff.1 hk).1
  have hl0 : (s.lvl == 0) = false := by simpa using (Bool.and_eq_true_iff.1 hk).2
  have HOK := Lib.hid (ok_of hs hok)
  have h1 := lv_one HOK.out.lvl hl0
  have HCN := Lib.hid hs.cnt
  have HSH := Lib.hid hs.shut
  rw [hk] at HPR
  clear hk hl0
  generalize hwp : Sec.wrap s ⟨cla, ins, p1, p2, b, le, long⟩ = r at *
  obtain ⟨s1, x⟩ := r
  dsimp only at hw2
  generalize hwp2 : Sec.wrap s1 ⟨cla', ins', p1', p2', b', le', long'⟩ = r2 at *
  obtain ⟨s2, y⟩ := r2
  obtain ⟨q1, q2, q3, q4, q5, q6, q7, q8, q9⟩ := Sec.once HOK.out h1 HSH.out hw hwp hw2 hwp2
  have HC1 := Lib.hid (by have h := HCN.out; omega : s1.cnt < 1000000)
  have HC11 := Lib.hid (by have h := HCN.out; omega : s1.cnt = 1)
  have HER := Lib.hid hw
  have HER2 := Lib.hid hw2
  have HWP := Lib.hid hwp
  have HWP2 := Lib.hid hwp2
  have HCH := Lib.hid hs.chain
  obtain ⟨x0, x1, x2, x3, xd, xle, xlong⟩ := x
  obtain ⟨y0, y1, y2, y3, yd, yle, ylong⟩ := y
  dsimp only at *
  obtain ⟨k, hk8⟩ : ∃ k, xd.length = k + 8 := ⟨xd.length - 8, by omega⟩
  have HXN := Lib.hid hk8
  rw [hk8, Nat.add_sub_cancel] at q4
  generalize hyn : yd.length = yn at *
  have HYN := Lib.hid hyn
  have hk4 : k ≤ 65535 := by omega
  have HQ4 := Lib.hid q4
  have j1 : (k : Int) ≤ (k : Int) + 8 := by omega
  have j2 : decide ((k : Int) < 0) = false := decide_eq_false (by omega)
  have hsm : Oct.same (xd.drop k) s.chain = true := (Oct.same_iff _ _).2 (q4.trans hsame)
  have HSM := Lib.hid hsm
  have hyb : yn ≤ 70000 := by omega
  clear q1 q2 q3 q4 q5 q6 q7 q8 q9 hsm hsame hw hw2 hwp hwp2 h1 hs hk8 hyn hok
  generalize hlv : s.lvl = lv at *
  have HLV := Lib.hid hlv
  clear hlv
  have HC := Lib.hid (Scn.start w0)
  have hm := HC.out.rebase
  unfold snV cmdV
  go_enter Tryd.func4, Tryd.ntmps4
  go_wp2_with (first | go_skip | ((with_reducible show wpList _ _ _ _ _ (World.alloc _ _)); refine wpList_up hm ?_; clear hm; intro n w hn hn2 hk hm hd hd2 ho; (try rw [← hn]); replace hn := Nat.le_of_eq hn.symm) | ((first | ((with_reducible show wpList _ _ _ (Oper.mk _ (Op.box _ _) _ _ _ _ :: _) _ _); (refine wpList_bx (by rfl) _ _ rfl _ (by simp only [Act.eval, Array.getD_eq_getD_getElem?, List.getElem?_toArray, List.getElem?_cons_succ, List.getElem?_cons_zero, Option.getD_some]; first | done | exact rfl) _ (by simp only [Value.cells]; first | done | exact rfl) hm ?_; clear hm; intro n w hn hz hm ho; (try simp only [List.cons_append, List.nil_append] at hm))) | ((with_reducible show wpList _ _ _ (Oper.mk _ (Op.load _ _) _ _ _ _ :: _) _ _); first | (refine wpList_ldS (by rfl) _ _ rfl _ _ rfl hm _ _ (by repeat (first | apply In.a | apply In.b)) (by decide +kernel) _ (by simp only [List.getElem?_toArray, List.getElem?_cons_succ, List.getElem?_cons_zero]; first | done | exact rfl) ?_) | (refine wpList_laS (by rfl) _ _ rfl _ _ rfl hm _ _ (by repeat (first | apply In.a | apply In.b)) (by kernel_rfl) _ (by rfl) (by kernel_rfl) (by simp) _ (by simp only [List.toList_toArray, List.drop_succ_cons, List.drop_zero, List.size_toArray, List.length_cons, List.length_nil, Nat.reduceAdd, List.take_succ_cons, List.take_zero]; first | done | exact rfl) ?_)) | ((with_reducible show wpList _ _ _ (Oper.mk _ (Op.store _ _ _) _ _ _ _ :: _) _ _); (refine wpList_stS (by rfl) _ _ _ rfl _ _ rfl _ (by simp only [Act.eval, Array.getD_eq_getD_getElem?, List.getElem?_toArray, List.getElem?_cons_succ, List.getElem?_cons_zero, Option.getD_some]; first | done | exact rfl) hm _ (by simp only [Value.cells]; first | done | exact rfl) _ _ _ _ (by repeat (first | apply Put.a | apply Put.b)) (by kernel_rfl) (by simp [Value.oneCell']) (by simp) (by simp only [List.set_cons_zero, List.set_cons_succ, spl, List.toList_toArray, List.size_toArray, List.length_cons, List.length_nil, Nat.reduceAdd, Nat.zero_add, List.take_succ_cons, List.take_zero, List.drop_succ_cons, List.drop_zero, List.drop_nil, List.cons_append, List.nil_append, List.append_nil]; first | done | exact rfl) ?_; clear hm; intro w hz hm ho)) | ((with_reducible show wpList _ _ _ (Oper.mk _ (Op.alloc _) _ _ _ _ :: _) _ _); (refine wpList_al (by rfl) _ rfl _ rfl _ (by simp only [Value.cells]; first | done | exact rfl) hm ?_; clear hm; intro n w hn hz hm ho; (try simp only [List.cons_append, List.nil_append] at hm)))); try simp only [Act.put, List.setIfInBounds_toArray, List.set_cons_zero, List.set_cons_succ]))
  go_at_call 8
  refine (HPR.out _ (HC.out.resync hm).low).mono ?_
  rintro e w2 (⟨hv, _⟩ | ⟨_, u, g1, F1, g2, F2, rfl, hb1, hch1, hF1, hb2, hch2, hF2⟩)
  · cases hv
  have hc2 := ((HC.out.resync hm).born hb1 hch1.sup hF1).born hb2 hch2.sup hF2
  clear hch1 hF1 hch2 hF2 hb1 hb2
  clear HC hm
  simp only [List.nil_append, List.cons_append, List.set_cons_zero, List.set_cons_succ] at hc2
  have HC := Lib.hid hc2
  clear hc2
  have hm := HC.out.rebase
  go_wp2_with (first | go_skip | ((with_reducible show wpList _ _ _ _ _ (World.alloc _ _)); refine wpList_up hm ?_; clear hm; intro n w hn hn2 hk hm hd hd2 ho; (try rw [← hn]); replace hn := Nat.le_of_eq hn.symm) | ((first | ((with_reducible show wpList _ _ _ (Oper.mk _ (Op.box _ _) _ _ _ _ :: _) _ _); (refine wpList_bx (by rfl) _ _ rfl _ (by simp only [Act.eval, Array.getD_eq_getD_getElem?, List.getElem?_toArray, List.getElem?_cons_succ, List.getElem?_cons_zero, Option.getD_some]; first | done | exact rfl) _ (by simp only [Value.cells]; first | done | exact rfl) hm ?_; clear hm; intro n w hn hz hm ho; (try simp only [List.cons_append, List.nil_append] at hm))) | ((with_reducible show wpList _ _ _ (Oper.mk _ (Op.load _ _) _ _ _ _ :: _) _ _); first | (refine wpList_ldS (by rfl) _ _ rfl _ _ rfl hm _ _ (by repeat (first | apply In.a | apply In.b)) (by decide +kernel) _ (by simp only [List.getElem?_toArray, List.getElem?_cons_succ, List.getElem?_cons_zero]; first | done | exact rfl) ?_) | (refine wpList_laS (by rfl) _ _ rfl _ _ rfl hm _ _ (by repeat (first | apply In.a | apply In.b)) (by kernel_rfl) _ (by rfl) (by kernel_rfl) (by simp) _ (by simp only [List.toList_toArray, List.drop_succ_cons, List.drop_zero, List.size_toArray, List.length_cons, List.length_nil, Nat.reduceAdd, List.take_succ_cons, List.take_zero]; first | done | exact rfl) ?_)) | ((with_reducible show wpList _ _ _ (Oper.mk _ (Op.store _ _ _) _ _ _ _ :: _) _ _); (refine wpList_stS (by rfl) _ _ _ rfl _ _ rfl _ (by simp only [Act.eval, Array.getD_eq_getD_getElem?, List.getElem?_toArray, List.getElem?_cons_succ, List.getElem?_cons_zero, Option.getD_some]; first | done | exact rfl) hm _ (by simp only [Value.cells]; first | done | exact rfl) _ _ _ _ (by repeat (first | apply Put.a | apply Put.b)) (by kernel_rfl) (by simp [Value.oneCell']) (by simp) (by simp only [List.set_cons_zero, List.set_cons_succ, spl, List.toList_toArray, List.size_toArray, List.length_cons, List.length_nil, Nat.reduceAdd, Nat.zero_add, List.take_succ_cons, List.take_zero, List.drop_succ_cons, List.drop_zero, List.drop_nil, List.cons_append, List.nil_append, List.append_nil]; first | done | exact rfl) ?_; clear hm; intro w hz hm ho)) | ((with_reducible show wpList _ _ _ (Oper.mk _ (Op.alloc _) _ _ _ _ :: _) _ _); (refine wpList_al (by rfl) _ rfl _ rfl _ (by simp only [Value.cells]; first | done | exact rfl) hm ?_; clear hm; intro n w hn hz hm ho; (try simp only [List.cons_append, List.nil_append] at hm)))); try simp only [Act.put, List.setIfInBounds_toArray, List.set_cons_zero, List.set_cons_succ]))
  go_at_call 9
  have hby := (HC.out.resync hm).oldO 0 rfl HX.out
  refine (ch_wrap _ g1 F1 s ((HC.out.resync hm).obj 0 rfl) (by have h := HCN.out; omega) cla ins p1 p2 A dn c b hby.1 hby.2 (by omega) le long).mono ?_
  clear hby
  intro e w3 hres
  unfold WrRes at hres
  rw [HWP.out, HER.out] at hres
  obtain ⟨A6, c6, F3, rfl, hown, hch, hon, hF, hd6⟩ := hres
  dsimp only at hown hch
  rw [HXN.out] at hown
  have hc2 := (HC.out.resync hm).turned 0 rfl hon hF hch.sup hown hd6
  clear hown hch hon hF hd6
  clear HC hm
  simp only [List.nil_append, List.cons_append, List.set_cons_zero, List.set_cons_succ] at hc2
  have HC := Lib.hid hc2
  clear hc2
  have hm := HC.out.rebase
  dsimp only
  rw [HXN.out]
  unfold cmdV
  go_wp2_with (first | go_skip | ((with_reducible show wpList _ _ _ _ _ (World.alloc _ _)); refine wpList_up hm ?_; clear hm; intro n w hn hn2 hk hm hd hd2 ho; (try rw [← hn]); replace hn := Nat.le_of_eq hn.symm) | ((first | ((with_reducible show wpList _ _ _ (Oper.mk _ (Op.box _ _) _ _ _ _ :: _) _ _); (refine wpList_bx (by rfl) _ _ rfl _ (by simp only [Act.eval, Array.getD_eq_getD_getElem?, List.getElem?_toArray, List.getElem?_cons_succ, List.getElem?_cons_zero, Option.getD_some]; first | done | exact rfl) _ (by simp only [Value.cells]; first | done | exact rfl) hm ?_; clear hm; intro n w hn hz hm ho; (try simp only [List.cons_append, List.nil_append] at hm))) | ((with_reducible show wpList _ _ _ (Oper.mk _ (Op.load _ _) _ _ _ _ :: _) _ _); first | (refine wpList_ldS (by rfl) _ _ rfl _ _ rfl hm _ _ (by repeat (first | apply In.a | apply In.b)) (by decide +kernel) _ (by simp only [List.getElem?_toArray, List.getElem?_cons_succ, List.getElem?_cons_zero]; first | done | exact rfl) ?_) | (refine wpList_laS (by rfl) _ _ rfl _ _ rfl hm _ _ (by repeat (first | apply In.a | apply In.b)) (by kernel_rfl) _ (by rfl) (by kernel_rfl) (by simp) _ (by simp only [List.toList_toArray, List.drop_succ_cons, List.drop_zero, List.size_toArray, List.length_cons, List.length_nil, Nat.reduceAdd, List.take_succ_cons, List.take_zero]; first | done | exact rfl) ?_)) | ((with_reducible show wpList _ _ _ (Oper.mk _ (Op.store _ _ _) _ _ _ _ :: _) _ _); (refine wpList_stS (by rfl) _ _ _ rfl _ _ rfl _ (by simp only [Act.eval, Array.getD_eq_getD_getElem?, List.getElem?_toArray, List.getElem?_cons_succ, List.getElem?_cons_zero, Option.getD_some]; first | done | exact rfl) hm _ (by simp only [Value.cells]; first | done | exact rfl) _ _ _ _ (by repeat (first | apply Put.a | apply Put.b)) (by kernel_rfl) (by simp [Value.oneCell']) (by simp) (by simp only [List.set_cons_zero, List.set_cons_succ, spl, List.toList_toArray, List.size_toArray, List.length_cons, List.length_nil, Nat.reduceAdd, Nat.zero_add, List.take_succ_cons, List.take_zero, List.drop_succ_cons, List.drop_zero, List.drop_nil, List.cons_append, List.nil_append, List.append_nil]; first | done | exact rfl) ?_; clear hm; intro w hz hm ho)) | ((with_reducible show wpList _ _ _ (Oper.mk _ (Op.alloc _) _ _ _ _ :: _) _ _); (refine wpList_al (by rfl) _ rfl _ rfl _ (by simp only [Value.cells]; first | done | exact rfl) hm ?_; clear hm; intro n w hn hz hm ho; (try simp only [List.cons_append, List.nil_append] at hm)))); try simp only [Act.put, List.setIfInBounds_toArray, List.set_cons_zero, List.set_cons_succ]))
  go_at_call 9
  have hby := (HC.out.resync hm).oldO 0 rfl HY.out
  refine (ch_wrap _ g1 F3 s1 ((HC.out.resync hm).obj 0 rfl) HC1.out cla' ins' p1' p2' A' dn' c' b' hby.1 hby.2 (by omega) le' long').mono ?_
  clear hby
  intro e w3 hres
  unfold WrRes at hres
  rw [HWP2.out, HER2.out] at hres
  obtain ⟨A7, c7, F4, rfl, hown, hch, hon, hF, hd7⟩ := hres
  dsimp only at hown hch
  rw [HYN.out] at hown
  have hc2 := (HC.out.resync hm).turned 0 rfl hon hF hch.sup hown hd7
  clear hown hch hon hF hd7
  clear HC hm
  simp only [List.nil_append, List.cons_append, List.set_cons_zero, List.set_cons_succ] at hc2
  have HC := Lib.hid hc2
  clear hc2
  have hm := HC.out.rebase
  dsimp only
  rw [HYN.out]
  unfold cmdV
  have hby := HC.out.byt 0 rfl
  obtain ⟨q, o, rfl, _⟩ := hby.at_ (by omega)
  have hle6 := hby.2.1
  have j3 : ¬ c6 = k := by omega
  have j4 : k ≤ c6 := by omega
  clear hby hle6
  go_wp2_with (first | go_skip | ((with_reducible show wpList _ _ _ _ _ (World.alloc _ _)); refine wpList_up hm ?_; clear hm; intro n w hn hn2 hk hm hd hd2 ho; (try rw [← hn]); replace hn := Nat.le_of_eq hn.symm) | ((first | ((with_reducible show wpList _ _ _ (Oper.mk _ (Op.box _ _) _ _ _ _ :: _) _ _); (refine wpList_bx (by rfl) _ _ rfl _ (by simp only [Act.eval, Array.getD_eq_getD_getElem?, List.getElem?_toArray, List.getElem?_cons_succ, List.getElem?_cons_zero, Option.getD_some]; first | done | exact rfl) _ (by simp only [Value.cells]; first | done | exact rfl) hm ?_; clear hm; intro n w hn hz hm ho; (try simp only [List.cons_append, List.nil_append] at hm))) | ((with_reducible show wpList _ _ _ (Oper.mk _ (Op.load _ _) _ _ _ _ :: _) _ _); first | (refine wpList_ldS (by rfl) _ _ rfl _ _ rfl hm _ _ (by repeat (first | apply In.a | apply In.b)) (by decide +kernel) _ (by simp only [List.getElem?_toArray, List.getElem?_cons_succ, List.getElem?_cons_zero]; first | done | exact rfl) ?_) | (refine wpList_laS (by rfl) _ _ rfl _ _ rfl hm _ _ (by repeat (first | apply In.a | apply In.b)) (by kernel_rfl) _ (by rfl) (by kernel_rfl) (by simp) _ (by simp only [List.toList_toArray, List.drop_succ_cons, List.drop_zero, List.size_toArray, List.length_cons, List.length_nil, Nat.reduceAdd, List.take_succ_cons, List.take_zero]; first | done | exact rfl) ?_)) | ((with_reducible show wpList _ _ _ (Oper.mk _ (Op.store _ _ _) _ _ _ _ :: _) _ _); (refine wpList_stS (by rfl) _ _ _ rfl _ _ rfl _ (by simp only [Act.eval, Array.getD_eq_getD_getElem?, List.getElem?_toArray, List.getElem?_cons_succ, List.getElem?_cons_zero, Option.getD_some]; first | done | exact rfl) hm _ (by simp only [Value.cells]; first | done | exact rfl) _ _ _ _ (by repeat (first | apply Put.a | apply Put.b)) (by kernel_rfl) (by simp [Value.oneCell']) (by simp) (by simp only [List.set_cons_zero, List.set_cons_succ, spl, List.toList_toArray, List.size_toArray, List.length_cons, List.length_nil, Nat.reduceAdd, Nat.zero_add, List.take_succ_cons, List.take_zero, List.drop_succ_cons, List.drop_zero, List.drop_nil, List.cons_append, List.nil_append, List.append_nil]; first | done | exact rfl) ?_; clear hm; intro w hz hm ho)) | ((with_reducible show wpList _ _ _ (Oper.mk _ (Op.alloc _) _ _ _ _ :: _) _ _); (refine wpList_al (by rfl) _ rfl _ rfl _ (by simp only [Value.cells]; first | done | exact rfl) hm ?_; clear hm; intro n w hn hz hm ho; (try simp only [List.cons_append, List.nil_append] at hm)))); try simp only [Act.put, List.setIfInBounds_toArray, List.set_cons_zero, List.set_cons_succ]))
  go_at_call 11
  have hby := (byt_cut ((HC.out.resync hm).byt 0 rfl)).2
  have hch := (HC.out.resync hm).old HCH.out
  refine (ref01_Same (some ⟨q, o + k, none⟩) C 8 cn (c6 - k) cc (xd.drop k) s.chain _ hby hch (by omega) (by omega)).mono ?_
  clear hby hch
  rw [HSM.out]
  rintro e w9 ⟨rfl, k9, hk9⟩
  replace hm := hm.drewN k9
  rw [← hk9] at hm
  clear hk9
  go_wp2_with (first | go_skip | ((with_reducible show wpList _ _ _ _ _ (World.alloc _ _)); refine wpList_up hm ?_; clear hm; intro n w hn hn2 hk hm hd hd2 ho; (try rw [← hn]); replace hn := Nat.le_of_eq hn.symm) | ((first | ((with_reducible show wpList _ _ _ (Oper.mk _ (Op.box _ _) _ _ _ _ :: _) _ _); (refine wpList_bx (by rfl) _ _ rfl _ (by simp only [Act.eval, Array.getD_eq_getD_getElem?, List.getElem?_toArray, List.getElem?_cons_succ, List.getElem?_cons_zero, Option.getD_some]; first | done | exact rfl) _ (by simp only [Value.cells]; first | done | exact rfl) hm ?_; clear hm; intro n w hn hz hm ho; (try simp only [List.cons_append, List.nil_append] at hm))) | ((with_reducible show wpList _ _ _ (Oper.mk _ (Op.load _ _) _ _ _ _ :: _) _ _); first | (refine wpList_ldS (by rfl) _ _ rfl _ _ rfl hm _ _ (by repeat (first | apply In.a | apply In.b)) (by decide +kernel) _ (by simp only [List.getElem?_toArray, List.getElem?_cons_succ, List.getElem?_cons_zero]; first | done | exact rfl) ?_) | (refine wpList_laS (by rfl) _ _ rfl _ _ rfl hm _ _ (by repeat (first | apply In.a | apply In.b)) (by kernel_rfl) _ (by rfl) (by kernel_rfl) (by simp) _ (by simp only [List.toList_toArray, List.drop_succ_cons, List.drop_zero, List.size_toArray, List.length_cons, List.length_nil, Nat.reduceAdd, List.take_succ_cons, List.take_zero]; first | done | exact rfl) ?_)) | ((with_reducible show wpList _ _ _ (Oper.mk _ (Op.store _ _ _) _ _ _ _ :: _) _ _); (refine wpList_stS (by rfl) _ _ _ rfl _ _ rfl _ (by simp only [Act.eval, Array.getD_eq_getD_getElem?, List.getElem?_toArray, List.getElem?_cons_succ, List.getElem?_cons_zero, Option.getD_some]; first | done | exact rfl) hm _ (by simp only [Value.cells]; first | done | exact rfl) _ _ _ _ (by repeat (first | apply Put.a | apply Put.b)) (by kernel_rfl) (by simp [Value.oneCell']) (by simp) (by simp only [List.set_cons_zero, List.set_cons_succ, spl, List.toList_toArray, List.size_toArray, List.length_cons, List.length_nil, Nat.reduceAdd, Nat.zero_add, List.take_succ_cons, List.take_zero, List.drop_succ_cons, List.drop_zero, List.drop_nil, List.cons_append, List.nil_append, List.append_nil]; first | done | exact rfl) ?_; clear hm; intro w hz hm ho)) | ((with_reducible show wpList _ _ _ (Oper.mk _ (Op.alloc _) _ _ _ _ :: _) _ _); (refine wpList_al (by rfl) _ rfl _ rfl _ (by simp only [Value.cells]; first | done | exact rfl) hm ?_; clear hm; intro n w hn hz hm ho; (try simp only [List.cons_append, List.nil_append] at hm)))); try simp only [Act.put, List.setIfInBounds_toArray, List.set_cons_zero, List.set_cons_succ]) | (go_at_call 10; refine (law24_awake _ (HG.out.below (HC.out.resync hm).low HP.out)).mono ?_; rintro e w9 ⟨rfl, hb9⟩; replace hm := hm.below hb9))
  go_ret
  exact ⟨rfl, (HC.out.resync hm).low⟩
set_option maxRecDepth 100000 in
theorem once_go (a : SnS) (s : Sec.S) (C : Option Addr) (cn cc : Nat) (w0 : World) (hg : HasEt w0) (hs : SnAt w0 a s C cn cc) (cla ins p1 p2 : Int) (A : Option Addr) (dn c : Nat) (b : List UInt8) (le : Int) (long : Bool) (hx : Byt w0 w0.heap.size A dn c b) (cla' ins' p1' p2' : Int) (A' : Option Addr) (dn' c' : Nat) (b' : List UInt8) (le' : Int) (long' : Bool) (hx' : Byt w0 w0.heap.size A' dn' c' b') (hd : dn ≤ 600) (hd' : dn' ≤ 600) (hn : cn ≤ 100) (hk : (okSn a s.lvl cn && !(s.lvl == 0)) = true) (hw : Sec.wrapE s ⟨cla, ins, p1, p2, b, le, long⟩ = 0) (hw2 : Sec.wrapE (Sec.wrap s ⟨cla, ins, p1, p2, b, le, long⟩).1 ⟨cla', ins', p1', p2', b', le', long'⟩ = 0) (hsame : (Sec.wrap s ⟨cla, ins, p1, p2, b, le, long⟩).1.chain ≠ s.chain) : Calls Tryd.prog 4 #[snV a s.lvl, .slice C cn cc, cmdV cla ins p1 p2 A dn c le long, cmdV cla' ins' p1' p2' A' dn' c' le' long'] w0 fun e w' => e = .returned (.bool true) ∧ Below w0.heap.size w0 w' := by
  have HG := Lib.hid hg
  have HP := Lib.hid hg.pos
  clear hg
  have i0 : decide ((600 : Int) < (dn : Int)) = false := decide_eq_false (by omega)
  have i1 : decide ((600 : Int) < (dn' : Int)) = false := decide_eq_false (by omega)
  have i2 : decide ((100 : Int) < (cn : Int)) = false := decide_eq_false (by omega)
  have hpr := fun u (hu : Below w0.heap.size w0 u) => law_pair u a s C cn cc (hs.below hu)
  have HPR := Lib.hid hpr
  have HX := Lib.hid hx
  have HY := Lib.hid hx'
  clear hpr hx hx'
  unfold snV at HPR
  have hok : okSn a s.lvl cn = true := (Bool.and_eq_true_iff.1 hk).1
  have hl0 : (s.lvl == 0) = false := by simpa using (Bool.and_eq_true_iff.1 hk).2
  have HOK := Lib.hid (ok_of hs hok)
  have h1 := lv_one HOK.out.lvl hl0
  have HCN := Lib.hid hs.cnt
  have HSH := Lib.hid hs.shut
  rw [hk] at HPR
  clear hk hl0
  generalize hwp : Sec.wrap s ⟨cla, ins, p1, p2, b, le, long⟩ = r at *
  obtain ⟨s1, x⟩ := r
  dsimp only at hw2
  generalize hwp2 : Sec.wrap s1 ⟨cla', ins', p1', p2', b', le', long'⟩ = r2 at *
  obtain ⟨s2, y⟩ := r2
  obtain ⟨q1, q2, q3, q4, q5, q6, q7, q8, q9⟩ := Sec.once HOK.out h1 HSH.out hw hwp hw2 hwp2
  have HC1 := Lib.hid (by have h := HCN.out; omega : s1.cnt < 1000000)
  have HC11 := Lib.hid (by have h := HCN.out; omega : s1.cnt = 1)
  have HER := Lib.hid hw
  have HER2 := Lib.hid hw2
  have HWP := Lib.hid hwp
  have HWP2 := Lib.hid hwp2
  have HCH := Lib.hid hs.chain
  obtain ⟨x0, x1, x2, x3, xd, xle, xlong⟩ := x
  obtain ⟨y0, y1, y2, y3, yd, yle, ylong⟩ := y
  dsimp only at *
  obtain ⟨k, hk8⟩ : ∃ k, xd.length = k + 8 := ⟨xd.length - 8, by omega⟩
  have HXN := Lib.hid hk8
  rw [hk8, Nat.add_sub_cancel] at q4
  generalize hyn : yd.length = yn at *
  have HYN := Lib.hid hyn
  have hk4 : k ≤ 65535 := by omega
  have HQ4 := Lib.hid q4
  have j1 : (k : Int) ≤ (k : Int) + 8 := by omega
  have j2 : decide ((k : Int) < 0) = false := decide_eq_false (by omega)
  have hsm : Oct.same (xd.drop k) s.chain = false := by rw [Bool.eq_false_iff]; exact fun e => hsame (q4.symm.trans ((Oct.same_iff _ _).1 e))
  obtain ⟨r1, r2, r3, r4⟩ := q8 hsame
  have HR1 := Lib.hid r1
  have HR2 := Lib.hid r2
  have HR3 := Lib.hid r3
  have HR4 := Lib.hid r4
  have HQ6 := Lib.hid q6
  have hun : ∃ z, Sec.unwrap s ⟨x0, x1, x2, x3, xd, xle, xlong⟩ = (s1, z) := ⟨_, Prod.ext q7 rfl⟩
  obtain ⟨⟨z0, z1, z2, z3, zd, zle, zlong⟩, hun⟩ := hun
  have HUN := Lib.hid hun
  generalize hzn : zd.length = zn at *
  have HZN := Lib.hid hzn
  have hnw := fun u (hu : Below w0.heap.size w0 u) => (hs.below hu).new
  rw [hok] at hnw
  have HNW := Lib.hid hnw
  clear hnw r1 r2 r3 r4 hun hzn
  unfold snV at HNW
  have HSM := Lib.hid hsm
  have hyb : yn ≤ 70000 := by omega
  clear q1 q2 q3 q4 q5 q6 q7 q8 q9 hsm hsame hw hw2 hwp hwp2 h1 hs hk8 hyn hok
  generalize hlv : s.lvl = lv at *
  have HLV := Lib.hid hlv
  clear hlv
  have HC := Lib.hid (Scn.start w0)
  have hm := HC.out.rebase
  unfold snV cmdV
  go_enter Tryd.func4, Tryd.ntmps4
  go_wp2_with (first | go_skip | ((with_reducible show wpList _ _ _ _ _ (World.alloc _ _)); refine wpList_up hm ?_; clear hm; intro n w hn hn2 hk hm hd hd2 ho; (try rw [← hn]); replace hn := Nat.le_of_eq hn.symm) | ((first | ((with_reducible show wpList _ _ _ (Oper.mk _ (Op.box _ _) _ _ _ _ :: _) _ _); (refine wpList_bx (by rfl) _ _ rfl _ (by simp only [Act.eval, Array.getD_eq_getD_getElem?, List.getElem?_toArray, List.getElem?_cons_succ, List.getElem?_cons_zero, Option.getD_some]; first | done | exact rfl) _ (by simp only [Value.cells]; first | done | exact rfl) hm ?_; clear hm; intro n w hn hz hm ho; (try simp only [List.cons_append, List.nil_append] at hm))) | ((with_reducible show wpList _ _ _ (Oper.mk _ (Op.load _ _) _ _ _ _ :: _) _ _); first | (refine wpList_ldS (by rfl) _ _ rfl _ _ rfl hm _ _ (by repeat (first | apply In.a | apply In.b)) (by decide +kernel) _ (by simp only [List.getElem?_toArray, List.getElem?_cons_succ, List.getElem?_cons_zero]; first | done | exact rfl) ?_) | (refine wpList_laS (by rfl) _ _ rfl _ _ rfl hm _ _ (by repeat (first | apply In.a | apply In.b)) (by kernel_rfl) _ (by rfl) (by kernel_rfl) (by simp) _ (by simp only [List.toList_toArray, List.drop_succ_cons, List.drop_zero, List.size_toArray, List.length_cons, List.length_nil, Nat.reduceAdd, List.take_succ_cons, List.take_zero]; first | done | exact rfl) ?_)) | ((with_reducible show wpList _ _ _ (Oper.mk _ (Op.store _ _ _) _ _ _ _ :: _) _ _); (refine wpList_stS (by rfl) _ _ _ rfl _ _ rfl _ (by simp only [Act.eval, Array.getD_eq_getD_getElem?, List.getElem?_toArray, List.getElem?_cons_succ, List.getElem?_cons_zero, Option.getD_some]; first | done | exact rfl) hm _ (by simp only [Value.cells]; first | done | exact rfl) _ _ _ _ (by repeat (first | apply Put.a | apply Put.b)) (by kernel_rfl) (by simp [Value.oneCell']) (by simp) (by simp only [List.set_cons_zero, List.set_cons_succ, spl, List.toList_toArray, List.size_toArray, List.length_cons, List.length_nil, Nat.reduceAdd, Nat.zero_add, List.take_succ_cons, List.take_zero, List.drop_succ_cons, List.drop_zero, List.drop_nil, List.cons_append, List.nil_append, List.append_nil]; first | done | exact rfl) ?_; clear hm; intro w hz hm ho)) | ((with_reducible show wpList _ _ _ (Oper.mk _ (Op.alloc _) _ _ _ _ :: _) _ _); (refine wpList_al (by rfl) _ rfl _ rfl _ (by simp only [Value.cells]; first | done | exact rfl) hm ?_; clear hm; intro n w hn hz hm ho; (try simp only [List.cons_append, List.nil_append] at hm)))); try simp only [Act.put, List.setIfInBounds_toArray, List.set_cons_zero, List.set_cons_succ]))
  go_at_call 8
  refine (HPR.out _ (HC.out.resync hm).low).mono ?_
  rintro e w2 (⟨hv, _⟩ | ⟨_, u, g1, F1, g2, F2, rfl, hb1, hch1, hF1, hb2, hch2, hF2⟩)
  · cases hv
  have hc2 := ((HC.out.resync hm).born hb1 hch1.sup hF1).born hb2 hch2.sup hF2
  clear hch1 hF1 hch2 hF2 hb1 hb2
  clear HC hm
  simp only [List.nil_append, List.cons_append, List.set_cons_zero, List.set_cons_succ] at hc2
  have HC := Lib.hid hc2
  clear hc2
  have hm := HC.out.rebase
  go_wp2_with (first | go_skip | ((with_reducible show wpList _ _ _ _ _ (World.alloc _ _)); refine wpList_up hm ?_; clear hm; intro n w hn hn2 hk hm hd hd2 ho; (try rw [← hn]); replace hn := Nat.le_of_eq hn.symm) | ((first | ((with_reducible show wpList _ _ _ (Oper.mk _ (Op.box _ _) _ _ _ _ :: _) _ _); (refine wpList_bx (by rfl) _ _ rfl _ (by simp only [Act.eval, Array.getD_eq_getD_getElem?, List.getElem?_toArray, List.getElem?_cons_succ, List.getElem?_cons_zero, Option.getD_some]; first | done | exact rfl) _ (by simp only [Value.cells]; first | done | exact rfl) hm ?_; clear hm; intro n w hn hz hm ho; (try simp only [List.cons_append, List.nil_append] at hm))) | ((with_reducible show wpList _ _ _ (Oper.mk _ (Op.load _ _) _ _ _ _ :: _) _ _); first | (refine wpList_ldS (by rfl) _ _ rfl _ _ rfl hm _ _ (by repeat (first | apply In.a | apply In.b)) (by decide +kernel) _ (by simp only [List.getElem?_toArray, List.getElem?_cons_succ, List.getElem?_cons_zero]; first | done | exact rfl) ?_) | (refine wpList_laS (by rfl) _ _ rfl _ _ rfl hm _ _ (by repeat (first | apply In.a | apply In.b)) (by kernel_rfl) _ (by rfl) (by kernel_rfl) (by simp) _ (by simp only [List.toList_toArray, List.drop_succ_cons, List.drop_zero, List.size_toArray, List.length_cons, List.length_nil, Nat.reduceAdd, List.take_succ_cons, List.take_zero]; first | done | exact rfl) ?_)) | ((with_reducible show wpList _ _ _ (Oper.mk _ (Op.store _ _ _) _ _ _ _ :: _) _ _); (refine wpList_stS (by rfl) _ _ _ rfl _ _ rfl _ (by simp only [Act.eval, Array.getD_eq_getD_getElem?, List.getElem?_toArray, List.getElem?_cons_succ, List.getElem?_cons_zero, Option.getD_some]; first | done | exact rfl) hm _ (by simp only [Value.cells]; first | done | exact rfl) _ _ _ _ (by repeat (first | apply Put.a | apply Put.b)) (by kernel_rfl) (by simp [Value.oneCell']) (by simp) (by simp only [List.set_cons_zero, List.set_cons_succ, spl, List.toList_toArray, List.size_toArray, List.length_cons, List.length_nil, Nat.reduceAdd, Nat.zero_add, List.take_succ_cons, List.take_zero, List.drop_succ_cons, List.drop_zero, List.drop_nil, List.cons_append, List.nil_append, List.append_nil]; first | done | exact rfl) ?_; clear hm; intro w hz hm ho)) | ((with_reducible show wpList _ _ _ (Oper.mk _ (Op.alloc _) _ _ _ _ :: _) _ _); (refine wpList_al (by rfl) _ rfl _ rfl _ (by simp only [Value.cells]; first | done | exact rfl) hm ?_; clear hm; intro n w hn hz hm ho; (try simp only [List.cons_append, List.nil_append] at hm)))); try simp only [Act.put, List.setIfInBounds_toArray, List.set_cons_zero, List.set_cons_succ]))
  go_at_call 9
  have hby := (HC.out.resync hm).oldO 0 rfl HX.out
  refine (ch_wrap _ g1 F1 s ((HC.out.resync hm).obj 0 rfl) (by have h := HCN.out; omega) cla ins p1 p2 A dn c b hby.1 hby.2 (by omega) le long).mono ?_
  clear hby
  intro e w3 hres
  unfold WrRes at hres
  rw [HWP.out, HER.out] at hres
  obtain ⟨A6, c6, F3, rfl, hown, hch, hon, hF, hd6⟩ := hres
  dsimp only at hown hch
  rw [HXN.out] at hown
  have hc2 := (HC.out.resync hm).turned 0 rfl hon hF hch.sup hown hd6
  clear hown hch hon hF hd6
  clear HC hm
  simp only [List.nil_append, List.cons_append, List.set_cons_zero, List.set_cons_succ] at hc2
  have HC := Lib.hid hc2
  clear hc2
  have hm := HC.out.rebase
  dsimp only
  rw [HXN.out]
  unfold cmdV
  go_wp2_with (first | go_skip | ((with_reducible show wpList _ _ _ _ _ (World.alloc _ _)); refine wpList_up hm ?_; clear hm; intro n w hn hn2 hk hm hd hd2 ho; (try rw [← hn]); replace hn := Nat.le_of_eq hn.symm) | ((first | ((with_reducible show wpList _ _ _ (Oper.mk _ (Op.box _ _) _ _ _ _ :: _) _ _); (refine wpList_bx (by rfl) _ _ rfl _ (by simp only [Act.eval, Array.getD_eq_getD_getElem?, List.getElem?_toArray, List.getElem?_cons_succ, List.getElem?_cons_zero, Option.getD_some]; first | done | exact rfl) _ (by simp only [Value.cells]; first | done | exact rfl) hm ?_; clear hm; intro n w hn hz hm ho; (try simp only [List.cons_append, List.nil_append] at hm))) | ((with_reducible show wpList _ _ _ (Oper.mk _ (Op.load _ _) _ _ _ _ :: _) _ _); first | (refine wpList_ldS (by rfl) _ _ rfl _ _ rfl hm _ _ (by repeat (first | apply In.a | apply In.b)) (by decide +kernel) _ (by simp only [List.getElem?_toArray, List.getElem?_cons_succ, List.getElem?_cons_zero]; first | done | exact rfl) ?_) | (refine wpList_laS (by rfl) _ _ rfl _ _ rfl hm _ _ (by repeat (first | apply In.a | apply In.b)) (by kernel_rfl) _ (by rfl) (by kernel_rfl) (by simp) _ (by simp only [List.toList_toArray, List.drop_succ_cons, List.drop_zero, List.size_toArray, List.length_cons, List.length_nil, Nat.reduceAdd, List.take_succ_cons, List.take_zero]; first | done | exact rfl) ?_)) | ((with_reducible show wpList _ _ _ (Oper.mk _ (Op.store _ _ _) _ _ _ _ :: _) _ _); (refine wpList_stS (by rfl) _ _ _ rfl _ _ rfl _ (by simp only [Act.eval, Array.getD_eq_getD_getElem?, List.getElem?_toArray, List.getElem?_cons_succ, List.getElem?_cons_zero, Option.getD_some]; first | done | exact rfl) hm _ (by simp only [Value.cells]; first | done | exact rfl) _ _ _ _ (by repeat (first | apply Put.a | apply Put.b)) (by kernel_rfl) (by simp [Value.oneCell']) (by simp) (by simp only [List.set_cons_zero, List.set_cons_succ, spl, List.toList_toArray, List.size_toArray, List.length_cons, List.length_nil, Nat.reduceAdd, Nat.zero_add, List.take_succ_cons, List.take_zero, List.drop_succ_cons, List.drop_zero, List.drop_nil, List.cons_append, List.nil_append, List.append_nil]; first | done | exact rfl) ?_; clear hm; intro w hz hm ho)) | ((with_reducible show wpList _ _ _ (Oper.mk _ (Op.alloc _) _ _ _ _ :: _) _ _); (refine wpList_al (by rfl) _ rfl _ rfl _ (by simp only [Value.cells]; first | done | exact rfl) hm ?_; clear hm; intro n w hn hz hm ho; (try simp only [List.cons_append, List.nil_append] at hm)))); try simp only [Act.put, List.setIfInBounds_toArray, List.set_cons_zero, List.set_cons_succ]))
  go_at_call 9
  have hby := (HC.out.resync hm).oldO 0 rfl HY.out
  refine (ch_wrap _ g1 F3 s1 ((HC.out.resync hm).obj 0 rfl) HC1.out cla' ins' p1' p2' A' dn' c' b' hby.1 hby.2 (by omega) le' long').mono ?_
  clear hby
  intro e w3 hres
  unfold WrRes at hres
  rw [HWP2.out, HER2.out] at hres
  obtain ⟨A7, c7, F4, rfl, hown, hch, hon, hF, hd7⟩ := hres
  dsimp only at hown hch
  rw [HYN.out] at hown
  have hc2 := (HC.out.resync hm).turned 0 rfl hon hF hch.sup hown hd7
  clear hown hch hon hF hd7
  clear HC hm
  simp only [List.nil_append, List.cons_append, List.set_cons_zero, List.set_cons_succ] at hc2
  have HC := Lib.hid hc2
  clear hc2
  have hm := HC.out.rebase
  dsimp only
  rw [HYN.out]
  unfold cmdV
  have hby := HC.out.byt 0 rfl
  obtain ⟨q, o, rfl, _⟩ := hby.at_ (by omega)
  have hle6 := hby.2.1
  have j3 : ¬ c6 = k := by omega
  have j4 : k ≤ c6 := by omega
  clear hby hle6
  go_wp2_with (first | go_skip | ((with_reducible show wpList _ _ _ _ _ (World.alloc _ _)); refine wpList_up hm ?_; clear hm; intro n w hn hn2 hk hm hd hd2 ho; (try rw [← hn]); replace hn := Nat.le_of_eq hn.symm) | ((first | ((with_reducible show wpList _ _ _ (Oper.mk _ (Op.box _ _) _ _ _ _ :: _) _ _); (refine wpList_bx (by rfl) _ _ rfl _ (by simp only [Act.eval, Array.getD_eq_getD_getElem?, List.getElem?_toArray, List.getElem?_cons_succ, List.getElem?_cons_zero, Option.getD_some]; first | done | exact rfl) _ (by simp only [Value.cells]; first | done | exact rfl) hm ?_; clear hm; intro n w hn hz hm ho; (try simp only [List.cons_append, List.nil_append] at hm))) | ((with_reducible show wpList _ _ _ (Oper.mk _ (Op.load _ _) _ _ _ _ :: _) _ _); first | (refine wpList_ldS (by rfl) _ _ rfl _ _ rfl hm _ _ (by repeat (first | apply In.a | apply In.b)) (by decide +kernel) _ (by simp only [List.getElem?_toArray, List.getElem?_cons_succ, List.getElem?_cons_zero]; first | done | exact rfl) ?_) | (refine wpList_laS (by rfl) _ _ rfl _ _ rfl hm _ _ (by repeat (first | apply In.a | apply In.b)) (by kernel_rfl) _ (by rfl) (by kernel_rfl) (by simp) _ (by simp only [List.toList_toArray, List.drop_succ_cons, List.drop_zero, List.size_toArray, List.length_cons, List.length_nil, Nat.reduceAdd, List.take_succ_cons, List.take_zero]; first | done | exact rfl) ?_)) | ((with_reducible show wpList _ _ _ (Oper.mk _ (Op.store _ _ _) _ _ _ _ :: _) _ _); (refine wpList_stS (by rfl) _ _ _ rfl _ _ rfl _ (by simp only [Act.eval, Array.getD_eq_getD_getElem?, List.getElem?_toArray, List.getElem?_cons_succ, List.getElem?_cons_zero, Option.getD_some]; first | done | exact rfl) hm _ (by simp only [Value.cells]; first | done | exact rfl) _ _ _ _ (by repeat (first | apply Put.a | apply Put.b)) (by kernel_rfl) (by simp [Value.oneCell']) (by simp) (by simp only [List.set_cons_zero, List.set_cons_succ, spl, List.toList_toArray, List.size_toArray, List.length_cons, List.length_nil, Nat.reduceAdd, Nat.zero_add, List.take_succ_cons, List.take_zero, List.drop_succ_cons, List.drop_zero, List.drop_nil, List.cons_append, List.nil_append, List.append_nil]; first | done | exact rfl) ?_; clear hm; intro w hz hm ho)) | ((with_reducible show wpList _ _ _ (Oper.mk _ (Op.alloc _) _ _ _ _ :: _) _ _); (refine wpList_al (by rfl) _ rfl _ rfl _ (by simp only [Value.cells]; first | done | exact rfl) hm ?_; clear hm; intro n w hn hz hm ho; (try simp only [List.cons_append, List.nil_append] at hm)))); try simp only [Act.put, List.setIfInBounds_toArray, List.set_cons_zero, List.set_cons_succ]))
  go_at_call 11
  have hby := (byt_cut ((HC.out.resync hm).byt 0 rfl)).2
  have hch := (HC.out.resync hm).old HCH.out
  refine (ref01_Same (some ⟨q, o + k, none⟩) C 8 cn (c6 - k) cc (xd.drop k) s.chain _ hby hch (by omega) (by omega)).mono ?_
  clear hby hch
  rw [HSM.out]
  rintro e w9 ⟨rfl, k9, hk9⟩
  replace hm := hm.drewN k9
  rw [← hk9] at hm
  clear hk9
  go_wp2_with (first | go_skip | ((with_reducible show wpList _ _ _ _ _ (World.alloc _ _)); refine wpList_up hm ?_; clear hm; intro n w hn hn2 hk hm hd hd2 ho; (try rw [← hn]); replace hn := Nat.le_of_eq hn.symm) | ((first | ((with_reducible show wpList _ _ _ (Oper.mk _ (Op.box _ _) _ _ _ _ :: _) _ _); (refine wpList_bx (by rfl) _ _ rfl _ (by simp only [Act.eval, Array.getD_eq_getD_getElem?, List.getElem?_toArray, List.getElem?_cons_succ, List.getElem?_cons_zero, Option.getD_some]; first | done | exact rfl) _ (by simp only [Value.cells]; first | done | exact rfl) hm ?_; clear hm; intro n w hn hz hm ho; (try simp only [List.cons_append, List.nil_append] at hm))) | ((with_reducible show wpList _ _ _ (Oper.mk _ (Op.load _ _) _ _ _ _ :: _) _ _); first | (refine wpList_ldS (by rfl) _ _ rfl _ _ rfl hm _ _ (by repeat (first | apply In.a | apply In.b)) (by decide +kernel) _ (by simp only [List.getElem?_toArray, List.getElem?_cons_succ, List.getElem?_cons_zero]; first | done | exact rfl) ?_) | (refine wpList_laS (by rfl) _ _ rfl _ _ rfl hm _ _ (by repeat (first | apply In.a | apply In.b)) (by kernel_rfl) _ (by rfl) (by kernel_rfl) (by simp) _ (by simp only [List.toList_toArray, List.drop_succ_cons, List.drop_zero, List.size_toArray, List.length_cons, List.length_nil, Nat.reduceAdd, List.take_succ_cons, List.take_zero]; first | done | exact rfl) ?_)) | ((with_reducible show wpList _ _ _ (Oper.mk _ (Op.store _ _ _) _ _ _ _ :: _) _ _); (refine wpList_stS (by rfl) _ _ _ rfl _ _ rfl _ (by simp only [Act.eval, Array.getD_eq_getD_getElem?, List.getElem?_toArray, List.getElem?_cons_succ, List.getElem?_cons_zero, Option.getD_some]; first | done | exact rfl) hm _ (by simp only [Value.cells]; first | done | exact rfl) _ _ _ _ (by repeat (first | apply Put.a | apply Put.b)) (by kernel_rfl) (by simp [Value.oneCell']) (by simp) (by simp only [List.set_cons_zero, List.set_cons_succ, spl, List.toList_toArray, List.size_toArray, List.length_cons, List.length_nil, Nat.reduceAdd, Nat.zero_add, List.take_succ_cons, List.take_zero, List.drop_succ_cons, List.drop_zero, List.drop_nil, List.cons_append, List.nil_append, List.append_nil]; first | done | exact rfl) ?_; clear hm; intro w hz hm ho)) | ((with_reducible show wpList _ _ _ (Oper.mk _ (Op.alloc _) _ _ _ _ :: _) _ _); (refine wpList_al (by rfl) _ rfl _ rfl _ (by simp only [Value.cells]; first | done | exact rfl) hm ?_; clear hm; intro n w hn hz hm ho; (try simp only [List.cons_append, List.nil_append] at hm)))); try simp only [Act.put, List.setIfInBounds_toArray, List.set_cons_zero, List.set_cons_succ]))
  go_at_call 12
  refine (HNW.out _ (HC.out.resync hm).low).mono ?_
  rintro e w2 ⟨hbl, ⟨hv, _⟩ | ⟨_, g3, F5, rfl, hch, hF⟩⟩
  · cases hv
  have hc2 := (HC.out.resync hm).born hbl hch.sup hF
  clear hch hF hbl
  clear HC hm
  simp only [List.nil_append, List.cons_append, List.set_cons_zero, List.set_cons_succ] at hc2
  have HC := Lib.hid hc2
  clear hc2
  have hm := HC.out.rebase
  go_wp2_with (first | go_skip | ((with_reducible show wpList _ _ _ _ _ (World.alloc _ _)); refine wpList_up hm ?_; clear hm; intro n w hn hn2 hk hm hd hd2 ho; (try rw [← hn]); replace hn := Nat.le_of_eq hn.symm) | ((first | ((with_reducible show wpList _ _ _ (Oper.mk _ (Op.box _ _) _ _ _ _ :: _) _ _); (refine wpList_bx (by rfl) _ _ rfl _ (by simp only [Act.eval, Array.getD_eq_getD_getElem?, List.getElem?_toArray, List.getElem?_cons_succ, List.getElem?_cons_zero, Option.getD_some]; first | done | exact rfl) _ (by simp only [Value.cells]; first | done | exact rfl) hm ?_; clear hm; intro n w hn hz hm ho; (try simp only [List.cons_append, List.nil_append] at hm))) | ((with_reducible show wpList _ _ _ (Oper.mk _ (Op.load _ _) _ _ _ _ :: _) _ _); first | (refine wpList_ldS (by rfl) _ _ rfl _ _ rfl hm _ _ (by repeat (first | apply In.a | apply In.b)) (by decide +kernel) _ (by simp only [List.getElem?_toArray, List.getElem?_cons_succ, List.getElem?_cons_zero]; first | done | exact rfl) ?_) | (refine wpList_laS (by rfl) _ _ rfl _ _ rfl hm _ _ (by repeat (first | apply In.a | apply In.b)) (by kernel_rfl) _ (by rfl) (by kernel_rfl) (by simp) _ (by simp only [List.toList_toArray, List.drop_succ_cons, List.drop_zero, List.size_toArray, List.length_cons, List.length_nil, Nat.reduceAdd, List.take_succ_cons, List.take_zero]; first | done | exact rfl) ?_)) | ((with_reducible show wpList _ _ _ (Oper.mk _ (Op.store _ _ _) _ _ _ _ :: _) _ _); (refine wpList_stS (by rfl) _ _ _ rfl _ _ rfl _ (by simp only [Act.eval, Array.getD_eq_getD_getElem?, List.getElem?_toArray, List.getElem?_cons_succ, List.getElem?_cons_zero, Option.getD_some]; first | done | exact rfl) hm _ (by simp only [Value.cells]; first | done | exact rfl) _ _ _ _ (by repeat (first | apply Put.a | apply Put.b)) (by kernel_rfl) (by simp [Value.oneCell']) (by simp) (by simp only [List.set_cons_zero, List.set_cons_succ, spl, List.toList_toArray, List.size_toArray, List.length_cons, List.length_nil, Nat.reduceAdd, Nat.zero_add, List.take_succ_cons, List.take_zero, List.drop_succ_cons, List.drop_zero, List.drop_nil, List.cons_append, List.nil_append, List.append_nil]; first | done | exact rfl) ?_; clear hm; intro w hz hm ho)) | ((with_reducible show wpList _ _ _ (Oper.mk _ (Op.alloc _) _ _ _ _ :: _) _ _); (refine wpList_al (by rfl) _ rfl _ rfl _ (by simp only [Value.cells]; first | done | exact rfl) hm ?_; clear hm; intro n w hn hz hm ho; (try simp only [List.cons_append, List.nil_append] at hm)))); try simp only [Act.put, List.setIfInBounds_toArray, List.set_cons_zero, List.set_cons_succ]))
  go_at_call 13
  have hby := (HC.out.resync hm).bytO 1 2 rfl rfl
  refine (ch_unwrap _ g3 F5 s ((HC.out.resync hm).obj 2 rfl) (HG.out.below (HC.out.resync hm).low HP.out) (fun h => by have := (HC.out.resync hm).lo 2 rfl 0 h; have := HP.out; omega) (by have h := HCN.out; omega) y0 y1 y2 y3 A7 yn c7 yd hby.1 hby.2 hyb yle ylong).mono ?_
  clear hby
  intro e w4 hres
  unfold UnRes at hres
  rw [HR3.out, HR1.out] at hres
  obtain ⟨A8, c8, F8, rfl, hown, hch, hon, hF, hd7⟩ := hres
  have hc2 := (HC.out.resync hm).turned 2 rfl hon hF hch.sup hown hd7
  clear hown hch hon hF hd7
  clear HC hm
  simp only [List.nil_append, List.cons_append, List.set_cons_zero, List.set_cons_succ] at hc2
  have HC := Lib.hid hc2
  clear hc2
  have hm := HC.out.rebase
  unfold Sec.cz
  dsimp only
  unfold cmdV
  go_wp2_with (first | go_skip | ((with_reducible show wpList _ _ _ _ _ (World.alloc _ _)); refine wpList_up hm ?_; clear hm; intro n w hn hn2 hk hm hd hd2 ho; (try rw [← hn]); replace hn := Nat.le_of_eq hn.symm) | ((first | ((with_reducible show wpList _ _ _ (Oper.mk _ (Op.box _ _) _ _ _ _ :: _) _ _); (refine wpList_bx (by rfl) _ _ rfl _ (by simp only [Act.eval, Array.getD_eq_getD_getElem?, List.getElem?_toArray, List.getElem?_cons_succ, List.getElem?_cons_zero, Option.getD_some]; first | done | exact rfl) _ (by simp only [Value.cells]; first | done | exact rfl) hm ?_; clear hm; intro n w hn hz hm ho; (try simp only [List.cons_append, List.nil_append] at hm))) | ((with_reducible show wpList _ _ _ (Oper.mk _ (Op.load _ _) _ _ _ _ :: _) _ _); first | (refine wpList_ldS (by rfl) _ _ rfl _ _ rfl hm _ _ (by repeat (first | apply In.a | apply In.b)) (by decide +kernel) _ (by simp only [List.getElem?_toArray, List.getElem?_cons_succ, List.getElem?_cons_zero]; first | done | exact rfl) ?_) | (refine wpList_laS (by rfl) _ _ rfl _ _ rfl hm _ _ (by repeat (first | apply In.a | apply In.b)) (by kernel_rfl) _ (by rfl) (by kernel_rfl) (by simp) _ (by simp only [List.toList_toArray, List.drop_succ_cons, List.drop_zero, List.size_toArray, List.length_cons, List.length_nil, Nat.reduceAdd, List.take_succ_cons, List.take_zero]; first | done | exact rfl) ?_)) | ((with_reducible show wpList _ _ _ (Oper.mk _ (Op.store _ _ _) _ _ _ _ :: _) _ _); (refine wpList_stS (by rfl) _ _ _ rfl _ _ rfl _ (by simp only [Act.eval, Array.getD_eq_getD_getElem?, List.getElem?_toArray, List.getElem?_cons_succ, List.getElem?_cons_zero, Option.getD_some]; first | done | exact rfl) hm _ (by simp only [Value.cells]; first | done | exact rfl) _ _ _ _ (by repeat (first | apply Put.a | apply Put.b)) (by kernel_rfl) (by simp [Value.oneCell']) (by simp) (by simp only [List.set_cons_zero, List.set_cons_succ, spl, List.toList_toArray, List.size_toArray, List.length_cons, List.length_nil, Nat.reduceAdd, Nat.zero_add, List.take_succ_cons, List.take_zero, List.drop_succ_cons, List.drop_zero, List.drop_nil, List.cons_append, List.nil_append, List.append_nil]; first | done | exact rfl) ?_; clear hm; intro w hz hm ho)) | ((with_reducible show wpList _ _ _ (Oper.mk _ (Op.alloc _) _ _ _ _ :: _) _ _); (refine wpList_al (by rfl) _ rfl _ rfl _ (by simp only [Value.cells]; first | done | exact rfl) hm ?_; clear hm; intro n w hn hz hm ho; (try simp only [List.cons_append, List.nil_append] at hm)))); try simp only [Act.put, List.setIfInBounds_toArray, List.set_cons_zero, List.set_cons_succ]) | (go_at_call 14; refine (law_shut _ g3 F8 _ ((HC.out.resync hm).obj 2 rfl) rfl x0 x1 x2 x3 (some ⟨q, o, none⟩) (k + 8) c6 xle xlong).mono ?_; rintro e w9 ⟨rfl, hb9⟩; replace hm := hm.below hb9))
  go_at_call 13
  have hby := (HC.out.resync hm).bytO 0 1 rfl rfl
  refine (ch_unwrap _ g2 F2 s ((HC.out.resync hm).obj 1 rfl) (HG.out.below (HC.out.resync hm).low HP.out) (fun h => by have := (HC.out.resync hm).lo 1 rfl 0 h; have := HP.out; omega) (by have h := HCN.out; omega) x0 x1 x2 x3 (some ⟨q, o, none⟩) (k + 8) c6 xd hby.1 hby.2 (by omega) xle xlong).mono ?_
  clear hby
  intro e w4 hres
  unfold UnRes at hres
  rw [HUN.out, HQ6.out] at hres
  obtain ⟨A9, c9, F9, rfl, hown, hch, hon, hF, hd7⟩ := hres
  dsimp only at hown hch
  rw [HZN.out] at hown
  have hc2 := (HC.out.resync hm).turned 1 rfl hon hF hch.sup hown hd7
  clear hown hch hon hF hd7
  clear HC hm
  simp only [List.nil_append, List.cons_append, List.set_cons_zero, List.set_cons_succ] at hc2
  have HC := Lib.hid hc2
  clear hc2
  have hm := HC.out.rebase
  dsimp only
  rw [HZN.out]
  unfold cmdV
  go_wp2_with (first | go_skip | ((with_reducible show wpList _ _ _ _ _ (World.alloc _ _)); refine wpList_up hm ?_; clear hm; intro n w hn hn2 hk hm hd hd2 ho; (try rw [← hn]); replace hn := Nat.le_of_eq hn.symm) | ((first | ((with_reducible show wpList _ _ _ (Oper.mk _ (Op.box _ _) _ _ _ _ :: _) _ _); (refine wpList_bx (by rfl) _ _ rfl _ (by simp only [Act.eval, Array.getD_eq_getD_getElem?, List.getElem?_toArray, List.getElem?_cons_succ, List.getElem?_cons_zero, Option.getD_some]; first | done | exact rfl) _ (by simp only [Value.cells]; first | done | exact rfl) hm ?_; clear hm; intro n w hn hz hm ho; (try simp only [List.cons_append, List.nil_append] at hm))) | ((with_reducible show wpList _ _ _ (Oper.mk _ (Op.load _ _) _ _ _ _ :: _) _ _); first | (refine wpList_ldS (by rfl) _ _ rfl _ _ rfl hm _ _ (by repeat (first | apply In.a | apply In.b)) (by decide +kernel) _ (by simp only [List.getElem?_toArray, List.getElem?_cons_succ, List.getElem?_cons_zero]; first | done | exact rfl) ?_) | (refine wpList_laS (by rfl) _ _ rfl _ _ rfl hm _ _ (by repeat (first | apply In.a | apply In.b)) (by kernel_rfl) _ (by rfl) (by kernel_rfl) (by simp) _ (by simp only [List.toList_toArray, List.drop_succ_cons, List.drop_zero, List.size_toArray, List.length_cons, List.length_nil, Nat.reduceAdd, List.take_succ_cons, List.take_zero]; first | done | exact rfl) ?_)) | ((with_reducible show wpList _ _ _ (Oper.mk _ (Op.store _ _ _) _ _ _ _ :: _) _ _); (refine wpList_stS (by rfl) _ _ _ rfl _ _ rfl _ (by simp only [Act.eval, Array.getD_eq_getD_getElem?, List.getElem?_toArray, List.getElem?_cons_succ, List.getElem?_cons_zero, Option.getD_some]; first | done | exact rfl) hm _ (by simp only [Value.cells]; first | done | exact rfl) _ _ _ _ (by repeat (first | apply Put.a | apply Put.b)) (by kernel_rfl) (by simp [Value.oneCell']) (by simp) (by simp only [List.set_cons_zero, List.set_cons_succ, spl, List.toList_toArray, List.size_toArray, List.length_cons, List.length_nil, Nat.reduceAdd, Nat.zero_add, List.take_succ_cons, List.take_zero, List.drop_succ_cons, List.drop_zero, List.drop_nil, List.cons_append, List.nil_append, List.append_nil]; first | done | exact rfl) ?_; clear hm; intro w hz hm ho)) | ((with_reducible show wpList _ _ _ (Oper.mk _ (Op.alloc _) _ _ _ _ :: _) _ _); (refine wpList_al (by rfl) _ rfl _ rfl _ (by simp only [Value.cells]; first | done | exact rfl) hm ?_; clear hm; intro n w hn hz hm ho; (try simp only [List.cons_append, List.nil_append] at hm)))); try simp only [Act.put, List.setIfInBounds_toArray, List.set_cons_zero, List.set_cons_succ]))
  go_at_call 13
  have hby := (HC.out.resync hm).bytO 0 1 rfl rfl
  refine (ch_unwrap _ g2 F9 s1 ((HC.out.resync hm).obj 1 rfl) (HG.out.below (HC.out.resync hm).low HP.out) (fun h => by have := (HC.out.resync hm).lo 1 rfl 0 h; have := HP.out; omega) HC1.out x0 x1 x2 x3 (some ⟨q, o, none⟩) (k + 8) c6 xd hby.1 hby.2 (by omega) xle xlong).mono ?_
  clear hby
  intro e w4 hres
  unfold UnRes at hres
  rw [HR4.out, HR2.out] at hres
  obtain ⟨A10, c10, F10, rfl, hown, hch, hon, hF, hd7⟩ := hres
  have hc2 := (HC.out.resync hm).turned 1 rfl hon hF hch.sup hown hd7
  clear hown hch hon hF hd7
  clear HC hm
  simp only [List.nil_append, List.cons_append, List.set_cons_zero, List.set_cons_succ] at hc2
  have HC := Lib.hid hc2
  clear hc2
  have hm := HC.out.rebase
  unfold Sec.cz
  dsimp only
  unfold cmdV
  go_wp2_with (first | go_skip | ((with_reducible show wpList _ _ _ _ _ (World.alloc _ _)); refine wpList_up hm ?_; clear hm; intro n w hn hn2 hk hm hd hd2 ho; (try rw [← hn]); replace hn := Nat.le_of_eq hn.symm) | ((first | ((with_reducible show wpList _ _ _ (Oper.mk _ (Op.box _ _) _ _ _ _ :: _) _ _); (refine wpList_bx (by rfl) _ _ rfl _ (by simp only [Act.eval, Array.getD_eq_getD_getElem?, List.getElem?_toArray, List.getElem?_cons_succ, List.getElem?_cons_zero, Option.getD_some]; first | done | exact rfl) _ (by simp only [Value.cells]; first | done | exact rfl) hm ?_; clear hm; intro n w hn hz hm ho; (try simp only [List.cons_append, List.nil_append] at hm))) | ((with_reducible show wpList _ _ _ (Oper.mk _ (Op.load _ _) _ _ _ _ :: _) _ _); first | (refine wpList_ldS (by rfl) _ _ rfl _ _ rfl hm _ _ (by repeat (first | apply In.a | apply In.b)) (by decide +kernel) _ (by simp only [List.getElem?_toArray, List.getElem?_cons_succ, List.getElem?_cons_zero]; first | done | exact rfl) ?_) | (refine wpList_laS (by rfl) _ _ rfl _ _ rfl hm _ _ (by repeat (first | apply In.a | apply In.b)) (by kernel_rfl) _ (by rfl) (by kernel_rfl) (by simp) _ (by simp only [List.toList_toArray, List.drop_succ_cons, List.drop_zero, List.size_toArray, List.length_cons, List.length_nil, Nat.reduceAdd, List.take_succ_cons, List.take_zero]; first | done | exact rfl) ?_)) | ((with_reducible show wpList _ _ _ (Oper.mk _ (Op.store _ _ _) _ _ _ _ :: _) _ _); (refine wpList_stS (by rfl) _ _ _ rfl _ _ rfl _ (by simp only [Act.eval, Array.getD_eq_getD_getElem?, List.getElem?_toArray, List.getElem?_cons_succ, List.getElem?_cons_zero, Option.getD_some]; first | done | exact rfl) hm _ (by simp only [Value.cells]; first | done | exact rfl) _ _ _ _ (by repeat (first | apply Put.a | apply Put.b)) (by kernel_rfl) (by simp [Value.oneCell']) (by simp) (by simp only [List.set_cons_zero, List.set_cons_succ, spl, List.toList_toArray, List.size_toArray, List.length_cons, List.length_nil, Nat.reduceAdd, Nat.zero_add, List.take_succ_cons, List.take_zero, List.drop_succ_cons, List.drop_zero, List.drop_nil, List.cons_append, List.nil_append, List.append_nil]; first | done | exact rfl) ?_; clear hm; intro w hz hm ho)) | ((with_reducible show wpList _ _ _ (Oper.mk _ (Op.alloc _) _ _ _ _ :: _) _ _); (refine wpList_al (by rfl) _ rfl _ rfl _ (by simp only [Value.cells]; first | done | exact rfl) hm ?_; clear hm; intro n w hn hz hm ho; (try simp only [List.cons_append, List.nil_append] at hm)))); try simp only [Act.put, List.setIfInBounds_toArray, List.set_cons_zero, List.set_cons_succ]) | (go_at_call 15; have hcc := ch_count _ g2 F10 { s1 with shut := true } ((HC.out.resync hm).obj 1 rfl); rw [show ({ s1 with shut := true } : Sec.S).cnt = 1 from HC11.out] at hcc; refine hcc.mono ?_; clear hcc; rintro e w5 ⟨rfl, rfl⟩) | (go_at_call 14; refine (law_shut _ g2 F10 _ ((HC.out.resync hm).obj 1 rfl) rfl y0 y1 y2 y3 A7 yn c7 yle ylong).mono ?_; rintro e w9 ⟨rfl, hb9⟩; replace hm := hm.below hb9) | (go_at_call 10; refine (law24_awake _ (HG.out.below (HC.out.resync hm).low HP.out)).mono ?_; rintro e w9 ⟨rfl, hb9⟩; replace hm := hm.below hb9))
  go_ret
  exact ⟨rfl, (HC.out.resync hm).low⟩
theorem law_SecureOnce (a : SnS) (s : Sec.S) (C : Option Addr) (cn cc : Nat) (w0 : World) (hg : HasEt w0) (hs : SnAt w0 a s C cn cc) (cla ins p1 p2 : Int) (A : Option Addr) (dn c : Nat) (b : List UInt8) (le : Int) (long : Bool) (hx : Byt w0 w0.heap.size A dn c b) (cla' ins' p1' p2' : Int) (A' : Option Addr) (dn' c' : Nat) (b' : List UInt8) (le' : Int) (long' : Bool) (hx' : Byt w0 w0.heap.size A' dn' c' b') : Calls Tryd.prog 4 #[snV a s.lvl, .slice C cn cc, cmdV cla ins p1 p2 A dn c le long, cmdV cla' ins' p1' p2' A' dn' c' le' long'] w0 fun e w' => e = .returned (.bool true) ∧ Below w0.heap.size w0 w' := by
  by_cases hd : 600 < dn
  · exact once_out1 a s C cn cc w0 hg hs cla ins p1 p2 A dn c b le long hx cla' ins' p1' p2' A' dn' c' b' le' long' hx' hd
  have hd : dn ≤ 600 := by omega
  by_cases hd' : 600 < dn'
  · exact once_out2 a s C cn cc w0 hg hs cla ins p1 p2 A dn c b le long hx cla' ins' p1' p2' A' dn' c' b' le' long' hx' hd hd'
  have hd' : dn' ≤ 600 := by omega
  by_cases hn : 100 < cn
  · exact once_out3 a s C cn cc w0 hg hs cla ins p1 p2 A dn c b le long hx cla' ins' p1' p2' A' dn' c' b' le' long' hx' hd hd' hn
  have hn : cn ≤ 100 := by omega
  cases hk : (okSn a s.lvl cn && !(s.lvl == 0)) with
  | false => exact once_no a s C cn cc w0 hg hs cla ins p1 p2 A dn c b le long hx cla' ins' p1' p2' A' dn' c' b' le' long' hx' hd hd' hn hk
  | true =>
  by_cases hw : Sec.wrapE s ⟨cla, ins, p1, p2, b, le, long⟩ = 0
  rotate_left 1
  · exact once_err1 a s C cn cc w0 hg hs cla ins p1 p2 A dn c b le long hx cla' ins' p1' p2' A' dn' c' b' le' long' hx' hd hd' hn hk hw
  by_cases hw2 : Sec.wrapE (Sec.wrap s ⟨cla, ins, p1, p2, b, le, long⟩).1 ⟨cla', ins', p1', p2', b', le', long'⟩ = 0
  rotate_left 1
  · exact once_err2 a s C cn cc w0 hg hs cla ins p1 p2 A dn c b le long hx cla' ins' p1' p2' A' dn' c' b' le' long' hx' hd hd' hn hk hw hw2
  by_cases hq : (Sec.wrap s ⟨cla, ins, p1, p2, b, le, long⟩).1.chain = s.chain
  · exact once_same a s C cn cc w0 hg hs cla ins p1 p2 A dn c b le long hx cla' ins' p1' p2' A' dn' c' b' le' long' hx' hd hd' hn hk hw hw2 hq
  · exact once_go a s C cn cc w0 hg hs cla ins p1 p2 A dn c b le long hx cla' ins' p1' p2' A' dn' c' b' le' long' hx' hd hd' hn hk hw hw2 hq
end Go.Proofs.YtibaibdgpnkdnaaDoor
