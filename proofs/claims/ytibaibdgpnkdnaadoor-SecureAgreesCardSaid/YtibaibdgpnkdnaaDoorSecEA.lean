/-
  SecureAgrees.
-/
import Derived.Test.YtibaibdgpnkdnaaDoorZ1
import Derived.Test.YtibaibdgpnkdnaaDoorSecI
import Derived.Test.YtibaibdgpnkdnaaDoorSecC
import Derived.Test.YtibaibdgpnkdnaaDoorSecBO
import Derived.Test.YtibaibdgpnkdnaaDoorKnT
namespace Go.Proofs.YtibaibdgpnkdnaaDoor
set_option maxRecDepth 100000
set_option linter.unusedSimpArgs false
set_option linter.unusedVariables false
open Go.RowKit
set_option maxHeartbeats 8000000
-- FASTLC

theorem ok_of2 {w : World} {a : SnS} {s : Sec.S} {C : Option Addr} {cn cc : Nat} (h : SnAt w a s C cn cc) (hk : okSn a s.lvl cn = true) : Sec.Ok s := by
  have h1 := h.valid.trans hk
  obtain ⟨a, b, c, d, e, f⟩ := of_decide_eq_true h1
  exact { enc := a, mac := b, rmac := c, dat := d, lvl := e, chain := f }
/-- One turn, plainly. -/
theorem Sec.turn {s s1 : Sec.S} (hk : Sec.Ok s) (hs : s.shut = false) {x y : Apd.Cmd} (hd : x.d.length ≤ 600) (ha : Sec.wrapE s x = 0) (hx : Sec.wrap s x = (s1, y)) :
    y.d.length ≤ 65535 ∧ Sec.unwrapE s y = 0 ∧ Sec.unwrap s y = (s1, { x with long := y.long }) ∧ Sec.Ok s1 ∧ s1.lvl = s.lvl ∧ s1.shut = false ∧ s1.exp = true ∧ s1.cnt = s.cnt + 1 := by
  have hu := Sec.unwrap_wrap hk x ha
  have hk1 : Sec.Ok s1 := by have := Sec.wrap_ok hk x; rwa [hx] at this
  rw [hx] at hu
  have hlen : y.d.length ≤ 65535 ∧ s1.lvl = s.lvl ∧ s1.shut = false ∧ s1.exp = true ∧ s1.cnt = s.cnt + 1 := by
    cases h1 : Sec.hb s.lvl 1 with
    | false =>
      have e := Sec.wrap_no ha h1
      rw [hx] at e
      obtain ⟨f1, f2⟩ := Prod.mk.inj e
      exact ⟨by rw [f2]; omega, by rw [f1], by rw [f1]; exact hs, by rw [f1], by rw [f1]⟩
    | true =>
      have e := Sec.wrap_mac ha h1
      rw [hx] at e
      obtain ⟨f1, f2⟩ := Prod.mk.inj e
      have fa := (Sec.wrap_facts ha).2.2.2.2.2
      rw [h1, if_pos rfl] at fa
      have hM : (Sec.wrapM s x).length = 8 := Sec.cmac_length _ _ _ _ _ _ _ hk
      have hD := Sec.wrapD_length s x hk.enc
      exact ⟨by rw [f2]; simp [hM, hD]; omega, by rw [f1], by rw [f1]; exact hs, by rw [f1], by rw [f1]⟩
  exact ⟨hlen.1, hu.1, Prod.ext hu.2.1 hu.2.2, hk1, hlen.2⟩
theorem Sec.answer {s s2 : Sec.S} (hk : Sec.Ok s) (hs : s.shut = false) (he : s.exp = true) {d r : List UInt8} {sw sw2 : Int} (hd : d.length ≤ 600) (hsw : 0 ≤ sw ∧ sw ≤ 65535) (hx : Sec.sea s d sw = (s2, r, sw2)) :
    Sec.sealE s d sw = 0 ∧ sw2 = sw ∧ r.length ≤ 65536 ∧ Sec.openE s r sw = 0 ∧ Sec.opn s r sw = (s2, d, sw) ∧ Sec.Ok s2 ∧ s2.lvl = s.lvl ∧ s2.shut = false ∧ s2.cnt = s.cnt := by
  have hsz : ∀ v, Sec.sz d.length v + 8 ≤ 65536 := fun v => by unfold Sec.sz; split <;> omega
  have h0 : Sec.sealE s d sw = 0 := by
    unfold Sec.sealE
    rw [if_neg (by rw [hs, he]; rintro (e | e) <;> cases e), if_neg (by omega), if_neg]
    rintro (e | ⟨_, e⟩)
    · omega
    · have := hsz (Sec.hb s.lvl 32); omega
  have ho := Sec.opn_sea hk d sw h0
  rw [hx] at ho
  obtain ⟨o1, o2, o3, o4⟩ := ho
  have hlen : r.length ≤ 65536 ∧ s2 = { s with exp := false } := by
    cases h16 : Sec.hb s.lvl 16 with
    | false =>
      have e : Sec.sea s d sw = ({ s with exp := false }, d, sw) := by unfold Sec.sea; rw [if_neg (fun e => e h0), if_pos h16]
      rw [hx] at e
      obtain ⟨f1, f2⟩ := Prod.mk.inj e
      obtain ⟨f2, _⟩ := Prod.mk.inj f2
      exact ⟨by rw [f2]; omega, f1⟩
    | true =>
      have e := Sec.sea_mac h0 h16
      rw [hx] at e
      obtain ⟨f1, f2⟩ := Prod.mk.inj e
      obtain ⟨f2, _⟩ := Prod.mk.inj f2
      have hM : (Sec.rmc s (Sec.sealD s d) sw).length = 8 := Sec.rmc_length _ _ _ hk
      have hD : (Sec.sealD s d).length ≤ 65528 := by
        unfold Sec.sealD
        split
        · rw [Sec.hide_length s true d hk.enc]; split <;> omega
        · omega
      exact ⟨by rw [f2]; simp [hM]; omega, f1⟩
  obtain ⟨g1, g2⟩ := hlen
  refine ⟨h0, o4, g1, o1, Prod.ext o2 o3, by rw [g2]; exact { hk with }, by rw [g2], by rw [g2]; exact hs, by rw [g2]⟩
set_option maxRecDepth 100000 in
theorem law_alike (cla ins p1 p2 : Int) (A A' : Option Addr) (n c n' c' : Nat) (b : List UInt8) (le : Int) (lg lg' : Bool) (w0 : World) (h : Byt w0 w0.heap.size A n c b) (h' : Byt w0 w0.heap.size A' n' c' b) (hn : n ≤ 1000000) :
    Calls Tryd.prog 16 #[cmdV cla ins p1 p2 A n c le lg, cmdV cla ins p1 p2 A' n' c' le lg'] w0 fun e w' => e = .returned (.bool true) ∧ Below w0.heap.size w0 w' := by
  have hsm : Apd.smB cla ins p1 p2 b le lg' cla ins p1 p2 b le lg' = true := by unfold Apd.smB; simp [Oct.same_refl]
  have hn2 : n' ≤ 1000000 := by have := h.1; have := h'.1; omega
  have hs := fun u (hu : Below w0.heap.size w0 u) => ref04_Same cla ins p1 p2 A n c b le lg' cla ins p1 p2 A' n' c' b le lg' u ((h.below hu).more hu.size) ((h'.below hu).more hu.size) (by omega) (by omega)
  rw [hsm] at hs
  have HS := Lib.hid hs
  clear hs hsm h h'
  have hm := Mem.nil (fun _ => False) w0
  unfold cmdV at HS ⊢
  go_enter Tryd.func16, Tryd.ntmps16
  go_wp2_with (first | go_skip | ((with_reducible show wpList _ _ _ _ _ (World.alloc _ _)); refine wpList_up hm ?_; clear hm; intro n w hn hn2 hk hm hd hd2 ho; (try rw [← hn]); replace hn := Nat.le_of_eq hn.symm) | ((first | ((with_reducible show wpList _ _ _ (Oper.mk _ (Op.box _ _) _ _ _ _ :: _) _ _); (refine wpList_bx (by rfl) _ _ rfl _ (by simp only [Act.eval, Array.getD_eq_getD_getElem?, List.getElem?_toArray, List.getElem?_cons_succ, List.getElem?_cons_zero, Option.getD_some]; first | done | exact rfl) _ (by simp only [Value.cells]; first | done | exact rfl) hm ?_; clear hm; intro n w hn hz hm ho; (try simp only [List.cons_append, List.nil_append] at hm))) | ((with_reducible show wpList _ _ _ (Oper.mk _ (Op.load _ _) _ _ _ _ :: _) _ _); first | (refine wpList_ldS (by rfl) _ _ rfl _ _ rfl hm _ _ (by repeat (first | apply In.a | apply In.b)) (by decide +kernel) _ (by simp only [List.getElem?_toArray, List.getElem?_cons_succ, List.getElem?_cons_zero]; first | done | exact rfl) ?_) | (refine wpList_laS (by rfl) _ _ rfl _ _ rfl hm _ _ (by repeat (first | apply In.a | apply In.b)) (by kernel_rfl) _ (by rfl) (by kernel_rfl) (by simp) _ (by simp only [List.toList_toArray, List.drop_succ_cons, List.drop_zero, List.size_toArray, List.length_cons, List.length_nil, Nat.reduceAdd, List.take_succ_cons, List.take_zero]; first | done | exact rfl) ?_)) | ((with_reducible show wpList _ _ _ (Oper.mk _ (Op.store _ _ _) _ _ _ _ :: _) _ _); (refine wpList_stS (by rfl) _ _ _ rfl _ _ rfl _ (by simp only [Act.eval, Array.getD_eq_getD_getElem?, List.getElem?_toArray, List.getElem?_cons_succ, List.getElem?_cons_zero, Option.getD_some]; first | done | exact rfl) hm _ (by simp only [Value.cells]; first | done | exact rfl) _ _ _ _ (by repeat (first | apply Put.a | apply Put.b)) (by kernel_rfl) (by simp [Value.oneCell']) (by simp) (by simp only [List.set_cons_zero, List.set_cons_succ, spl, List.toList_toArray, List.size_toArray, List.length_cons, List.length_nil, Nat.reduceAdd, Nat.zero_add, List.take_succ_cons, List.take_zero, List.drop_succ_cons, List.drop_zero, List.drop_nil, List.cons_append, List.nil_append, List.append_nil]; first | done | exact rfl) ?_; clear hm; intro w hz hm ho)) | ((with_reducible show wpList _ _ _ (Oper.mk _ (Op.alloc _) _ _ _ _ :: _) _ _); (refine wpList_al (by rfl) _ rfl _ rfl _ (by simp only [Value.cells]; first | done | exact rfl) hm ?_; clear hm; intro n w hn hz hm ho; (try simp only [List.cons_append, List.nil_append] at hm)))); try simp only [Act.put, List.setIfInBounds_toArray, List.set_cons_zero, List.set_cons_succ]) | (go_at_call 39; refine (HS.out _ hm.low).mono ?_; rintro e w9 ⟨rfl, hb9⟩; replace hm := hm.below hb9))
  go_ret
  exact ⟨rfl, hm.low⟩
theorem same_rsp (A A' : Option Addr) (n c n' c' : Nat) (d : List UInt8) (sw : Int) (w : World) (h : Byt w w.heap.size A n c d) (h' : Byt w w.heap.size A' n' c' d) (hn : n ≤ 1000000) :
    Calls Tryd.prog 19 #[rspV A n c sw, rspV A' n' c' sw] w fun e w' => e = .returned (.bool true) ∧ Below w.heap.size w w' := by
  have hs := ref04_SameResponse A n c d sw A' n' c' d sw w h h' (by omega) (by have := h.1; have := h'.1; omega)
  rwa [show Apd.srB d sw d sw = true by unfold Apd.srB; simp [Oct.same_refl]] at hs
/-- What holds between two turns. -/
def AInv (w0 : World) (g1 g2 : Nat) (lv : Int) (eS : Ent) (n g : Nat) (v9 v10 : Value) (wr : World) : Prop :=
  ∃ k s F1 F2, k + g = n ∧ v9 = .int .i64 (s.cnt : Int) ∧ v10 = .int .i64 (k : Int) ∧ Sec.Ok s ∧ s.lvl = lv ∧ s.shut = false ∧ s.cnt ≤ k ∧ Scn w0 wr [eS] [] [⟨F1, fun u => ChAt' u g1 F1 s⟩, ⟨F2, fun u => ChAt' u g2 F2 s⟩] []
set_option maxRecDepth 100000 in
theorem agr_out1 (a : SnS) (s : Sec.S) (C : Option Addr) (cn cc : Nat) (w0 : World) (hg : HasEt w0) (hs : SnAt w0 a s C cn cc) (A : Option Addr) (nl c : Nat) (l : List Trn) (hl : Trns w0 A nl c l) (hd : 10 < nl) : Calls Tryd.prog 5 #[snV a s.lvl, .slice C cn cc, .slice A nl c] w0 fun e w' => e = .returned (.bool true) ∧ Below w0.heap.size w0 w' := by
  have HG := Lib.hid hg
  have HP := Lib.hid hg.pos
  clear hg
  have i0 : decide ((10 : Int) < (nl : Int)) = true := decide_eq_true (by omega)
  have HC := Lib.hid (Scn.start w0)
  have hm := HC.out.rebase
  unfold snV
  go_enter Tryd.func5, Tryd.ntmps5
  go_wp2_with (first | go_skip | ((with_reducible show wpList _ _ _ _ _ (World.alloc _ _)); refine wpList_up hm ?_; clear hm; intro n w hn hn2 hk hm hd hd2 ho; (try rw [← hn]); replace hn := Nat.le_of_eq hn.symm) | ((first | ((with_reducible show wpList _ _ _ (Oper.mk _ (Op.box _ _) _ _ _ _ :: _) _ _); (refine wpList_bx (by rfl) _ _ rfl _ (by simp only [Act.eval, Array.getD_eq_getD_getElem?, List.getElem?_toArray, List.getElem?_cons_succ, List.getElem?_cons_zero, Option.getD_some]; first | done | exact rfl) _ (by simp only [Value.cells]; first | done | exact rfl) hm ?_; clear hm; intro n w hn hz hm ho; (try simp only [List.cons_append, List.nil_append] at hm))) | ((with_reducible show wpList _ _ _ (Oper.mk _ (Op.load _ _) _ _ _ _ :: _) _ _); first | (refine wpList_ldS (by rfl) _ _ rfl _ _ rfl hm _ _ (by repeat (first | apply In.a | apply In.b)) (by decide +kernel) _ (by simp only [List.getElem?_toArray, List.getElem?_cons_succ, List.getElem?_cons_zero]; first | done | exact rfl) ?_) | (refine wpList_laS (by rfl) _ _ rfl _ _ rfl hm _ _ (by repeat (first | apply In.a | apply In.b)) (by kernel_rfl) _ (by rfl) (by kernel_rfl) (by simp) _ (by simp only [List.toList_toArray, List.drop_succ_cons, List.drop_zero, List.size_toArray, List.length_cons, List.length_nil, Nat.reduceAdd, List.take_succ_cons, List.take_zero]; first | done | exact rfl) ?_)) | ((with_reducible show wpList _ _ _ (Oper.mk _ (Op.store _ _ _) _ _ _ _ :: _) _ _); (refine wpList_stS (by rfl) _ _ _ rfl _ _ rfl _ (by simp only [Act.eval, Array.getD_eq_getD_getElem?, List.getElem?_toArray, List.getElem?_cons_succ, List.getElem?_cons_zero, Option.getD_some]; first | done | exact rfl) hm _ (by simp only [Value.cells]; first | done | exact rfl) _ _ _ _ (by repeat (first | apply Put.a | apply Put.b)) (by kernel_rfl) (by simp [Value.oneCell']) (by simp) (by simp only [List.set_cons_zero, List.set_cons_succ, spl, List.toList_toArray, List.size_toArray, List.length_cons, List.length_nil, Nat.reduceAdd, Nat.zero_add, List.take_succ_cons, List.take_zero, List.drop_succ_cons, List.drop_zero, List.drop_nil, List.cons_append, List.nil_append, List.append_nil]; first | done | exact rfl) ?_; clear hm; intro w hz hm ho)) | ((with_reducible show wpList _ _ _ (Oper.mk _ (Op.alloc _) _ _ _ _ :: _) _ _); (refine wpList_al (by rfl) _ rfl _ rfl _ (by simp only [Value.cells]; first | done | exact rfl) hm ?_; clear hm; intro n w hn hz hm ho; (try simp only [List.cons_append, List.nil_append] at hm)))); try simp only [Act.put, List.setIfInBounds_toArray, List.set_cons_zero, List.set_cons_succ]))
  go_ret
  exact ⟨rfl, (HC.out.resync hm).low⟩
set_option maxRecDepth 100000 in
theorem agr_out2 (a : SnS) (s : Sec.S) (C : Option Addr) (cn cc : Nat) (w0 : World) (hg : HasEt w0) (hs : SnAt w0 a s C cn cc) (A : Option Addr) (nl c : Nat) (l : List Trn) (hl : Trns w0 A nl c l) (hd : nl ≤ 10) (hn : 100 < cn) : Calls Tryd.prog 5 #[snV a s.lvl, .slice C cn cc, .slice A nl c] w0 fun e w' => e = .returned (.bool true) ∧ Below w0.heap.size w0 w' := by
  have HG := Lib.hid hg
  have HP := Lib.hid hg.pos
  clear hg
  have i0 : decide ((10 : Int) < (nl : Int)) = false := decide_eq_false (by omega)
  have i1 : decide ((100 : Int) < (cn : Int)) = true := decide_eq_true (by omega)
  have HC := Lib.hid (Scn.start w0)
  have hm := HC.out.rebase
  unfold snV
  go_enter Tryd.func5, Tryd.ntmps5
  go_wp2_with (first | go_skip | ((with_reducible show wpList _ _ _ _ _ (World.alloc _ _)); refine wpList_up hm ?_; clear hm; intro n w hn hn2 hk hm hd hd2 ho; (try rw [← hn]); replace hn := Nat.le_of_eq hn.symm) | ((first | ((with_reducible show wpList _ _ _ (Oper.mk _ (Op.box _ _) _ _ _ _ :: _) _ _); (refine wpList_bx (by rfl) _ _ rfl _ (by simp only [Act.eval, Array.getD_eq_getD_getElem?, List.getElem?_toArray, List.getElem?_cons_succ, List.getElem?_cons_zero, Option.getD_some]; first | done | exact rfl) _ (by simp only [Value.cells]; first | done | exact rfl) hm ?_; clear hm; intro n w hn hz hm ho; (try simp only [List.cons_append, List.nil_append] at hm))) | ((with_reducible show wpList _ _ _ (Oper.mk _ (Op.load _ _) _ _ _ _ :: _) _ _); first | (refine wpList_ldS (by rfl) _ _ rfl _ _ rfl hm _ _ (by repeat (first | apply In.a | apply In.b)) (by decide +kernel) _ (by simp only [List.getElem?_toArray, List.getElem?_cons_succ, List.getElem?_cons_zero]; first | done | exact rfl) ?_) | (refine wpList_laS (by rfl) _ _ rfl _ _ rfl hm _ _ (by repeat (first | apply In.a | apply In.b)) (by kernel_rfl) _ (by rfl) (by kernel_rfl) (by simp) _ (by simp only [List.toList_toArray, List.drop_succ_cons, List.drop_zero, List.size_toArray, List.length_cons, List.length_nil, Nat.reduceAdd, List.take_succ_cons, List.take_zero]; first | done | exact rfl) ?_)) | ((with_reducible show wpList _ _ _ (Oper.mk _ (Op.store _ _ _) _ _ _ _ :: _) _ _); (refine wpList_stS (by rfl) _ _ _ rfl _ _ rfl _ (by simp only [Act.eval, Array.getD_eq_getD_getElem?, List.getElem?_toArray, List.getElem?_cons_succ, List.getElem?_cons_zero, Option.getD_some]; first | done | exact rfl) hm _ (by simp only [Value.cells]; first | done | exact rfl) _ _ _ _ (by repeat (first | apply Put.a | apply Put.b)) (by kernel_rfl) (by simp [Value.oneCell']) (by simp) (by simp only [List.set_cons_zero, List.set_cons_succ, spl, List.toList_toArray, List.size_toArray, List.length_cons, List.length_nil, Nat.reduceAdd, Nat.zero_add, List.take_succ_cons, List.take_zero, List.drop_succ_cons, List.drop_zero, List.drop_nil, List.cons_append, List.nil_append, List.append_nil]; first | done | exact rfl) ?_; clear hm; intro w hz hm ho)) | ((with_reducible show wpList _ _ _ (Oper.mk _ (Op.alloc _) _ _ _ _ :: _) _ _); (refine wpList_al (by rfl) _ rfl _ rfl _ (by simp only [Value.cells]; first | done | exact rfl) hm ?_; clear hm; intro n w hn hz hm ho; (try simp only [List.cons_append, List.nil_append] at hm)))); try simp only [Act.put, List.setIfInBounds_toArray, List.set_cons_zero, List.set_cons_succ]))
  go_ret
  exact ⟨rfl, (HC.out.resync hm).low⟩
set_option maxRecDepth 100000 in
theorem agr_no (a : SnS) (s : Sec.S) (C : Option Addr) (cn cc : Nat) (w0 : World) (hg : HasEt w0) (hs : SnAt w0 a s C cn cc) (A : Option Addr) (nl c : Nat) (l : List Trn) (hl : Trns w0 A nl c l) (hd : nl ≤ 10) (hn : cn ≤ 100) (hk : okSn a s.lvl cn = false) : Calls Tryd.prog 5 #[snV a s.lvl, .slice C cn cc, .slice A nl c] w0 fun e w' => e = .returned (.bool true) ∧ Below w0.heap.size w0 w' := by
  have HG := Lib.hid hg
  have HP := Lib.hid hg.pos
  clear hg
  have i0 : decide ((10 : Int) < (nl : Int)) = false := decide_eq_false (by omega)
  have i1 : decide ((100 : Int) < (cn : Int)) = false := decide_eq_false (by omega)
  have hnw := fun u (hu : Below w0.heap.size w0 u) => (hs.below hu).new
  rw [hk] at hnw
  have HNW := Lib.hid hnw
  clear hnw
  unfold snV at HNW
  clear hk hs
  generalize hlv : s.lvl = lv at *
  have HLV := Lib.hid hlv
  clear hlv
  have HC := Lib.hid (Scn.start w0)
  have hm := HC.out.rebase
  unfold snV
  go_enter Tryd.func5, Tryd.ntmps5
  go_wp2_with (first | go_skip | ((with_reducible show wpList _ _ _ _ _ (World.alloc _ _)); refine wpList_up hm ?_; clear hm; intro n w hn hn2 hk hm hd hd2 ho; (try rw [← hn]); replace hn := Nat.le_of_eq hn.symm) | ((first | ((with_reducible show wpList _ _ _ (Oper.mk _ (Op.box _ _) _ _ _ _ :: _) _ _); (refine wpList_bx (by rfl) _ _ rfl _ (by simp only [Act.eval, Array.getD_eq_getD_getElem?, List.getElem?_toArray, List.getElem?_cons_succ, List.getElem?_cons_zero, Option.getD_some]; first | done | exact rfl) _ (by simp only [Value.cells]; first | done | exact rfl) hm ?_; clear hm; intro n w hn hz hm ho; (try simp only [List.cons_append, List.nil_append] at hm))) | ((with_reducible show wpList _ _ _ (Oper.mk _ (Op.load _ _) _ _ _ _ :: _) _ _); first | (refine wpList_ldS (by rfl) _ _ rfl _ _ rfl hm _ _ (by repeat (first | apply In.a | apply In.b)) (by decide +kernel) _ (by simp only [List.getElem?_toArray, List.getElem?_cons_succ, List.getElem?_cons_zero]; first | done | exact rfl) ?_) | (refine wpList_laS (by rfl) _ _ rfl _ _ rfl hm _ _ (by repeat (first | apply In.a | apply In.b)) (by kernel_rfl) _ (by rfl) (by kernel_rfl) (by simp) _ (by simp only [List.toList_toArray, List.drop_succ_cons, List.drop_zero, List.size_toArray, List.length_cons, List.length_nil, Nat.reduceAdd, List.take_succ_cons, List.take_zero]; first | done | exact rfl) ?_)) | ((with_reducible show wpList _ _ _ (Oper.mk _ (Op.store _ _ _) _ _ _ _ :: _) _ _); (refine wpList_stS (by rfl) _ _ _ rfl _ _ rfl _ (by simp only [Act.eval, Array.getD_eq_getD_getElem?, List.getElem?_toArray, List.getElem?_cons_succ, List.getElem?_cons_zero, Option.getD_some]; first | done | exact rfl) hm _ (by simp only [Value.cells]; first | done | exact rfl) _ _ _ _ (by repeat (first | apply Put.a | apply Put.b)) (by kernel_rfl) (by simp [Value.oneCell']) (by simp) (by simp only [List.set_cons_zero, List.set_cons_succ, spl, List.toList_toArray, List.size_toArray, List.length_cons, List.length_nil, Nat.reduceAdd, Nat.zero_add, List.take_succ_cons, List.take_zero, List.drop_succ_cons, List.drop_zero, List.drop_nil, List.cons_append, List.nil_append, List.append_nil]; first | done | exact rfl) ?_; clear hm; intro w hz hm ho)) | ((with_reducible show wpList _ _ _ (Oper.mk _ (Op.alloc _) _ _ _ _ :: _) _ _); (refine wpList_al (by rfl) _ rfl _ rfl _ (by simp only [Value.cells]; first | done | exact rfl) hm ?_; clear hm; intro n w hn hz hm ho; (try simp only [List.cons_append, List.nil_append] at hm)))); try simp only [Act.put, List.setIfInBounds_toArray, List.set_cons_zero, List.set_cons_succ]))
  go_at_call 12
  refine (HNW.out _ (HC.out.resync hm).low).mono ?_
  rintro e w2 ⟨hbl, ⟨_, rfl⟩ | ⟨hv, _⟩⟩
  rotate_left 1
  · cases hv
  replace hm := hm.below hbl
  go_wp2_with (first | go_skip | ((with_reducible show wpList _ _ _ _ _ (World.alloc _ _)); refine wpList_up hm ?_; clear hm; intro n w hn hn2 hk hm hd hd2 ho; (try rw [← hn]); replace hn := Nat.le_of_eq hn.symm) | ((first | ((with_reducible show wpList _ _ _ (Oper.mk _ (Op.box _ _) _ _ _ _ :: _) _ _); (refine wpList_bx (by rfl) _ _ rfl _ (by simp only [Act.eval, Array.getD_eq_getD_getElem?, List.getElem?_toArray, List.getElem?_cons_succ, List.getElem?_cons_zero, Option.getD_some]; first | done | exact rfl) _ (by simp only [Value.cells]; first | done | exact rfl) hm ?_; clear hm; intro n w hn hz hm ho; (try simp only [List.cons_append, List.nil_append] at hm))) | ((with_reducible show wpList _ _ _ (Oper.mk _ (Op.load _ _) _ _ _ _ :: _) _ _); first | (refine wpList_ldS (by rfl) _ _ rfl _ _ rfl hm _ _ (by repeat (first | apply In.a | apply In.b)) (by decide +kernel) _ (by simp only [List.getElem?_toArray, List.getElem?_cons_succ, List.getElem?_cons_zero]; first | done | exact rfl) ?_) | (refine wpList_laS (by rfl) _ _ rfl _ _ rfl hm _ _ (by repeat (first | apply In.a | apply In.b)) (by kernel_rfl) _ (by rfl) (by kernel_rfl) (by simp) _ (by simp only [List.toList_toArray, List.drop_succ_cons, List.drop_zero, List.size_toArray, List.length_cons, List.length_nil, Nat.reduceAdd, List.take_succ_cons, List.take_zero]; first | done | exact rfl) ?_)) | ((with_reducible show wpList _ _ _ (Oper.mk _ (Op.store _ _ _) _ _ _ _ :: _) _ _); (refine wpList_stS (by rfl) _ _ _ rfl _ _ rfl _ (by simp only [Act.eval, Array.getD_eq_getD_getElem?, List.getElem?_toArray, List.getElem?_cons_succ, List.getElem?_cons_zero, Option.getD_some]; first | done | exact rfl) hm _ (by simp only [Value.cells]; first | done | exact rfl) _ _ _ _ (by repeat (first | apply Put.a | apply Put.b)) (by kernel_rfl) (by simp [Value.oneCell']) (by simp) (by simp only [List.set_cons_zero, List.set_cons_succ, spl, List.toList_toArray, List.size_toArray, List.length_cons, List.length_nil, Nat.reduceAdd, Nat.zero_add, List.take_succ_cons, List.take_zero, List.drop_succ_cons, List.drop_zero, List.drop_nil, List.cons_append, List.nil_append, List.append_nil]; first | done | exact rfl) ?_; clear hm; intro w hz hm ho)) | ((with_reducible show wpList _ _ _ (Oper.mk _ (Op.alloc _) _ _ _ _ :: _) _ _); (refine wpList_al (by rfl) _ rfl _ rfl _ (by simp only [Value.cells]; first | done | exact rfl) hm ?_; clear hm; intro n w hn hz hm ho; (try simp only [List.cons_append, List.nil_append] at hm)))); try simp only [Act.put, List.setIfInBounds_toArray, List.set_cons_zero, List.set_cons_succ]))
  go_at_call 12
  refine (HNW.out _ (HC.out.resync hm).low).mono ?_
  rintro e w2 ⟨hbl, ⟨_, rfl⟩ | ⟨hv, _⟩⟩
  rotate_left 1
  · cases hv
  replace hm := hm.below hbl
  go_wp2_with (first | go_skip | ((with_reducible show wpList _ _ _ _ _ (World.alloc _ _)); refine wpList_up hm ?_; clear hm; intro n w hn hn2 hk hm hd hd2 ho; (try rw [← hn]); replace hn := Nat.le_of_eq hn.symm) | ((first | ((with_reducible show wpList _ _ _ (Oper.mk _ (Op.box _ _) _ _ _ _ :: _) _ _); (refine wpList_bx (by rfl) _ _ rfl _ (by simp only [Act.eval, Array.getD_eq_getD_getElem?, List.getElem?_toArray, List.getElem?_cons_succ, List.getElem?_cons_zero, Option.getD_some]; first | done | exact rfl) _ (by simp only [Value.cells]; first | done | exact rfl) hm ?_; clear hm; intro n w hn hz hm ho; (try simp only [List.cons_append, List.nil_append] at hm))) | ((with_reducible show wpList _ _ _ (Oper.mk _ (Op.load _ _) _ _ _ _ :: _) _ _); first | (refine wpList_ldS (by rfl) _ _ rfl _ _ rfl hm _ _ (by repeat (first | apply In.a | apply In.b)) (by decide +kernel) _ (by simp only [List.getElem?_toArray, List.getElem?_cons_succ, List.getElem?_cons_zero]; first | done | exact rfl) ?_) | (refine wpList_laS (by rfl) _ _ rfl _ _ rfl hm _ _ (by repeat (first | apply In.a | apply In.b)) (by kernel_rfl) _ (by rfl) (by kernel_rfl) (by simp) _ (by simp only [List.toList_toArray, List.drop_succ_cons, List.drop_zero, List.size_toArray, List.length_cons, List.length_nil, Nat.reduceAdd, List.take_succ_cons, List.take_zero]; first | done | exact rfl) ?_)) | ((with_reducible show wpList _ _ _ (Oper.mk _ (Op.store _ _ _) _ _ _ _ :: _) _ _); (refine wpList_stS (by rfl) _ _ _ rfl _ _ rfl _ (by simp only [Act.eval, Array.getD_eq_getD_getElem?, List.getElem?_toArray, List.getElem?_cons_succ, List.getElem?_cons_zero, Option.getD_some]; first | done | exact rfl) hm _ (by simp only [Value.cells]; first | done | exact rfl) _ _ _ _ (by repeat (first | apply Put.a | apply Put.b)) (by kernel_rfl) (by simp [Value.oneCell']) (by simp) (by simp only [List.set_cons_zero, List.set_cons_succ, spl, List.toList_toArray, List.size_toArray, List.length_cons, List.length_nil, Nat.reduceAdd, Nat.zero_add, List.take_succ_cons, List.take_zero, List.drop_succ_cons, List.drop_zero, List.drop_nil, List.cons_append, List.nil_append, List.append_nil]; first | done | exact rfl) ?_; clear hm; intro w hz hm ho)) | ((with_reducible show wpList _ _ _ (Oper.mk _ (Op.alloc _) _ _ _ _ :: _) _ _); (refine wpList_al (by rfl) _ rfl _ rfl _ (by simp only [Value.cells]; first | done | exact rfl) hm ?_; clear hm; intro n w hn hz hm ho; (try simp only [List.cons_append, List.nil_append] at hm)))); try simp only [Act.put, List.setIfInBounds_toArray, List.set_cons_zero, List.set_cons_succ]) | (go_at_call 10; refine (law24_awake _ (HG.out.below (HC.out.resync hm).low HP.out)).mono ?_; rintro e w9 ⟨rfl, hb9⟩; replace hm := hm.below hb9))
  go_ret
  exact ⟨rfl, (HC.out.resync hm).low⟩
set_option maxRecDepth 100000 in
theorem agr_go (a : SnS) (s : Sec.S) (C : Option Addr) (cn cc : Nat) (w0 : World) (hg : HasEt w0) (hs : SnAt w0 a s C cn cc) (A : Option Addr) (nl c : Nat) (l : List Trn) (hl : Trns w0 A nl c l) (hd : nl ≤ 10) (hn : cn ≤ 100) (hk : okSn a s.lvl cn = true) : Calls Tryd.prog 5 #[snV a s.lvl, .slice C cn cc, .slice A nl c] w0 fun e w' => e = .returned (.bool true) ∧ Below w0.heap.size w0 w' := by
  have HG := Lib.hid hg
  have HP := Lib.hid hg.pos
  clear hg
  have i0 : decide ((10 : Int) < (nl : Int)) = false := decide_eq_false (by omega)
  have i1 : decide ((100 : Int) < (cn : Int)) = false := decide_eq_false (by omega)
  have hnw := fun u (hu : Below w0.heap.size w0 u) => (hs.below hu).new
  rw [hk] at hnw
  have HNW := Lib.hid hnw
  clear hnw
  unfold snV at HNW
  have HOK0 := Lib.hid (ok_of2 hs hk)
  have HCN0 := Lib.hid hs.cnt
  have HSH0 := Lib.hid hs.shut
  have HT := Lib.hid hl
  obtain ⟨lv, hlv⟩ : ∃ lv, s.lvl = lv := ⟨_, rfl⟩
  have HLV := Lib.hid hlv
  rw [hlv] at HNW ⊢
  clear hk hs hl hlv
  have HC := Lib.hid (Scn.start w0)
  have hm := HC.out.rebase
  unfold snV
  go_enter Tryd.func5, Tryd.ntmps5
  go_wp2_with (first | go_skip | ((with_reducible show wpList _ _ _ _ _ (World.alloc _ _)); refine wpList_up hm ?_; clear hm; intro n w hn hn2 hk hm hd hd2 ho; (try rw [← hn]); replace hn := Nat.le_of_eq hn.symm) | ((first | ((with_reducible show wpList _ _ _ (Oper.mk _ (Op.box _ _) _ _ _ _ :: _) _ _); (refine wpList_bx (by rfl) _ _ rfl _ (by simp only [Act.eval, Array.getD_eq_getD_getElem?, List.getElem?_toArray, List.getElem?_cons_succ, List.getElem?_cons_zero, Option.getD_some]; first | done | exact rfl) _ (by simp only [Value.cells]; first | done | exact rfl) hm ?_; clear hm; intro n w hn hz hm ho; (try simp only [List.cons_append, List.nil_append] at hm))) | ((with_reducible show wpList _ _ _ (Oper.mk _ (Op.load _ _) _ _ _ _ :: _) _ _); first | (refine wpList_ldS (by rfl) _ _ rfl _ _ rfl hm _ _ (by repeat (first | apply In.a | apply In.b)) (by decide +kernel) _ (by simp only [List.getElem?_toArray, List.getElem?_cons_succ, List.getElem?_cons_zero]; first | done | exact rfl) ?_) | (refine wpList_laS (by rfl) _ _ rfl _ _ rfl hm _ _ (by repeat (first | apply In.a | apply In.b)) (by kernel_rfl) _ (by rfl) (by kernel_rfl) (by simp) _ (by simp only [List.toList_toArray, List.drop_succ_cons, List.drop_zero, List.size_toArray, List.length_cons, List.length_nil, Nat.reduceAdd, List.take_succ_cons, List.take_zero]; first | done | exact rfl) ?_)) | ((with_reducible show wpList _ _ _ (Oper.mk _ (Op.store _ _ _) _ _ _ _ :: _) _ _); (refine wpList_stS (by rfl) _ _ _ rfl _ _ rfl _ (by simp only [Act.eval, Array.getD_eq_getD_getElem?, List.getElem?_toArray, List.getElem?_cons_succ, List.getElem?_cons_zero, Option.getD_some]; first | done | exact rfl) hm _ (by simp only [Value.cells]; first | done | exact rfl) _ _ _ _ (by repeat (first | apply Put.a | apply Put.b)) (by kernel_rfl) (by simp [Value.oneCell']) (by simp) (by simp only [List.set_cons_zero, List.set_cons_succ, spl, List.toList_toArray, List.size_toArray, List.length_cons, List.length_nil, Nat.reduceAdd, Nat.zero_add, List.take_succ_cons, List.take_zero, List.drop_succ_cons, List.drop_zero, List.drop_nil, List.cons_append, List.nil_append, List.append_nil]; first | done | exact rfl) ?_; clear hm; intro w hz hm ho)) | ((with_reducible show wpList _ _ _ (Oper.mk _ (Op.alloc _) _ _ _ _ :: _) _ _); (refine wpList_al (by rfl) _ rfl _ rfl _ (by simp only [Value.cells]; first | done | exact rfl) hm ?_; clear hm; intro n w hn hz hm ho; (try simp only [List.cons_append, List.nil_append] at hm)))); try simp only [Act.put, List.setIfInBounds_toArray, List.set_cons_zero, List.set_cons_succ]))
  go_at_call 12
  refine (HNW.out _ (HC.out.resync hm).low).mono ?_
  rintro e w2 ⟨hbl, ⟨hv, _⟩ | ⟨_, g1, F1, rfl, hch, hF⟩⟩
  · cases hv
  have hc2 := (HC.out.resync hm).born hbl hch.sup hF
  clear hch hF hbl
  clear HC hm
  simp only [List.nil_append, List.cons_append, List.set_cons_zero, List.set_cons_succ] at hc2
  have HC := Lib.hid hc2
  clear hc2
  have hm := HC.out.rebase
  go_wp2_with (first | go_skip | ((with_reducible show wpList _ _ _ _ _ (World.alloc _ _)); refine wpList_up hm ?_; clear hm; intro n w hn hn2 hk hm hd hd2 ho; (try rw [← hn]); replace hn := Nat.le_of_eq hn.symm) | ((first | ((with_reducible show wpList _ _ _ (Oper.mk _ (Op.box _ _) _ _ _ _ :: _) _ _); (refine wpList_bx (by rfl) _ _ rfl _ (by simp only [Act.eval, Array.getD_eq_getD_getElem?, List.getElem?_toArray, List.getElem?_cons_succ, List.getElem?_cons_zero, Option.getD_some]; first | done | exact rfl) _ (by simp only [Value.cells]; first | done | exact rfl) hm ?_; clear hm; intro n w hn hz hm ho; (try simp only [List.cons_append, List.nil_append] at hm))) | ((with_reducible show wpList _ _ _ (Oper.mk _ (Op.load _ _) _ _ _ _ :: _) _ _); first | (refine wpList_ldS (by rfl) _ _ rfl _ _ rfl hm _ _ (by repeat (first | apply In.a | apply In.b)) (by decide +kernel) _ (by simp only [List.getElem?_toArray, List.getElem?_cons_succ, List.getElem?_cons_zero]; first | done | exact rfl) ?_) | (refine wpList_laS (by rfl) _ _ rfl _ _ rfl hm _ _ (by repeat (first | apply In.a | apply In.b)) (by kernel_rfl) _ (by rfl) (by kernel_rfl) (by simp) _ (by simp only [List.toList_toArray, List.drop_succ_cons, List.drop_zero, List.size_toArray, List.length_cons, List.length_nil, Nat.reduceAdd, List.take_succ_cons, List.take_zero]; first | done | exact rfl) ?_)) | ((with_reducible show wpList _ _ _ (Oper.mk _ (Op.store _ _ _) _ _ _ _ :: _) _ _); (refine wpList_stS (by rfl) _ _ _ rfl _ _ rfl _ (by simp only [Act.eval, Array.getD_eq_getD_getElem?, List.getElem?_toArray, List.getElem?_cons_succ, List.getElem?_cons_zero, Option.getD_some]; first | done | exact rfl) hm _ (by simp only [Value.cells]; first | done | exact rfl) _ _ _ _ (by repeat (first | apply Put.a | apply Put.b)) (by kernel_rfl) (by simp [Value.oneCell']) (by simp) (by simp only [List.set_cons_zero, List.set_cons_succ, spl, List.toList_toArray, List.size_toArray, List.length_cons, List.length_nil, Nat.reduceAdd, Nat.zero_add, List.take_succ_cons, List.take_zero, List.drop_succ_cons, List.drop_zero, List.drop_nil, List.cons_append, List.nil_append, List.append_nil]; first | done | exact rfl) ?_; clear hm; intro w hz hm ho)) | ((with_reducible show wpList _ _ _ (Oper.mk _ (Op.alloc _) _ _ _ _ :: _) _ _); (refine wpList_al (by rfl) _ rfl _ rfl _ (by simp only [Value.cells]; first | done | exact rfl) hm ?_; clear hm; intro n w hn hz hm ho; (try simp only [List.cons_append, List.nil_append] at hm)))); try simp only [Act.put, List.setIfInBounds_toArray, List.set_cons_zero, List.set_cons_succ]))
  go_at_call 12
  refine (HNW.out _ (HC.out.resync hm).low).mono ?_
  rintro e w2 ⟨hbl, ⟨hv, _⟩ | ⟨_, g2, F2, rfl, hch, hF⟩⟩
  · cases hv
  have hc2 := (HC.out.resync hm).born hbl hch.sup hF
  clear hch hF hbl
  clear HC hm
  simp only [List.nil_append, List.cons_append, List.set_cons_zero, List.set_cons_succ] at hc2
  have HC := Lib.hid hc2
  clear hc2
  have hm := HC.out.rebase
  go_wp2_with (first | go_skip | ((with_reducible show wpList _ _ _ _ _ (World.alloc _ _)); refine wpList_up hm ?_; clear hm; intro n w hn hn2 hk hm hd hd2 ho; (try rw [← hn]); replace hn := Nat.le_of_eq hn.symm) | ((first | ((with_reducible show wpList _ _ _ (Oper.mk _ (Op.box _ _) _ _ _ _ :: _) _ _); (refine wpList_bx (by rfl) _ _ rfl _ (by simp only [Act.eval, Array.getD_eq_getD_getElem?, List.getElem?_toArray, List.getElem?_cons_succ, List.getElem?_cons_zero, Option.getD_some]; first | done | exact rfl) _ (by simp only [Value.cells]; first | done | exact rfl) hm ?_; clear hm; intro n w hn hz hm ho; (try simp only [List.cons_append, List.nil_append] at hm))) | ((with_reducible show wpList _ _ _ (Oper.mk _ (Op.load _ _) _ _ _ _ :: _) _ _); first | (refine wpList_ldS (by rfl) _ _ rfl _ _ rfl hm _ _ (by repeat (first | apply In.a | apply In.b)) (by decide +kernel) _ (by simp only [List.getElem?_toArray, List.getElem?_cons_succ, List.getElem?_cons_zero]; first | done | exact rfl) ?_) | (refine wpList_laS (by rfl) _ _ rfl _ _ rfl hm _ _ (by repeat (first | apply In.a | apply In.b)) (by kernel_rfl) _ (by rfl) (by kernel_rfl) (by simp) _ (by simp only [List.toList_toArray, List.drop_succ_cons, List.drop_zero, List.size_toArray, List.length_cons, List.length_nil, Nat.reduceAdd, List.take_succ_cons, List.take_zero]; first | done | exact rfl) ?_)) | ((with_reducible show wpList _ _ _ (Oper.mk _ (Op.store _ _ _) _ _ _ _ :: _) _ _); (refine wpList_stS (by rfl) _ _ _ rfl _ _ rfl _ (by simp only [Act.eval, Array.getD_eq_getD_getElem?, List.getElem?_toArray, List.getElem?_cons_succ, List.getElem?_cons_zero, Option.getD_some]; first | done | exact rfl) hm _ (by simp only [Value.cells]; first | done | exact rfl) _ _ _ _ (by repeat (first | apply Put.a | apply Put.b)) (by kernel_rfl) (by simp [Value.oneCell']) (by simp) (by simp only [List.set_cons_zero, List.set_cons_succ, spl, List.toList_toArray, List.size_toArray, List.length_cons, List.length_nil, Nat.reduceAdd, Nat.zero_add, List.take_succ_cons, List.take_zero, List.drop_succ_cons, List.drop_zero, List.drop_nil, List.cons_append, List.nil_append, List.append_nil]; first | done | exact rfl) ?_; clear hm; intro w hz hm ho)) | ((with_reducible show wpList _ _ _ (Oper.mk _ (Op.alloc _) _ _ _ _ :: _) _ _); (refine wpList_al (by rfl) _ rfl _ rfl _ (by simp only [Value.cells]; first | done | exact rfl) hm ?_; clear hm; intro n w hn hz hm ho; (try simp only [List.cons_append, List.nil_append] at hm)))); try simp only [Act.put, List.setIfInBounds_toArray, List.set_cons_zero, List.set_cons_succ]))
  obtain ⟨n3, h9⟩ := hm.nm 0 rfl
  dsimp only at h9
  subst h9
  go_loopg [9, 10] nl (fun g v9 v10 wr => AInv w0 g1 g2 lv ⟨n3, _, _⟩ nl g v9 v10 wr)
  case atStart => exact ⟨0, s, F1, F2, by omega, by rw [HCN0.out]; rfl, rfl, HOK0.out, HLV.out, HSH0.out, by rw [HCN0.out]; exact Nat.le_refl _, HC.out.resync hm⟩
  case round =>
    clear HC hm
    obtain ⟨k, s, F1, F2, hkg, rfl, rfl, hok, hlv2, hsh, hck, hsc⟩ := hrel
    have HC := Lib.hid hsc
    clear hsc
    have hm := HC.out.rebase
    have HOK := Lib.hid hok
    have HSH := Lib.hid hsh
    have HLV2 := Lib.hid hlv2
    have HKG := Lib.hid hkg
    have HCK := Lib.hid hck
    have HCN : Hid (s.cnt < 1000000) := Lib.hid (by omega)
    cases gk with
    | zero =>
      obtain rfl : k = nl := by omega
      have ik : decide ((k : Int) < (k : Int)) = false := decide_eq_false (by omega)
      clear hkg hok hlv2 hsh hck
      go_wp2_with (first | go_skip | ((with_reducible show wpList _ _ _ _ _ (World.alloc _ _)); refine wpList_up hm ?_; clear hm; intro n w hn hn2 hk hm hd hd2 ho; (try rw [← hn]); replace hn := Nat.le_of_eq hn.symm) | ((first | ((with_reducible show wpList _ _ _ (Oper.mk _ (Op.box _ _) _ _ _ _ :: _) _ _); (refine wpList_bx (by rfl) _ _ rfl _ (by simp only [Act.eval, Array.getD_eq_getD_getElem?, List.getElem?_toArray, List.getElem?_cons_succ, List.getElem?_cons_zero, Option.getD_some]; first | done | exact rfl) _ (by simp only [Value.cells]; first | done | exact rfl) hm ?_; clear hm; intro n w hn hz hm ho; (try simp only [List.cons_append, List.nil_append] at hm))) | ((with_reducible show wpList _ _ _ (Oper.mk _ (Op.load _ _) _ _ _ _ :: _) _ _); first | (refine wpList_ldS (by rfl) _ _ rfl _ _ rfl hm _ _ (by repeat (first | apply In.a | apply In.b)) (by decide +kernel) _ (by simp only [List.getElem?_toArray, List.getElem?_cons_succ, List.getElem?_cons_zero]; first | done | exact rfl) ?_) | (refine wpList_laS (by rfl) _ _ rfl _ _ rfl hm _ _ (by repeat (first | apply In.a | apply In.b)) (by kernel_rfl) _ (by rfl) (by kernel_rfl) (by simp) _ (by simp only [List.toList_toArray, List.drop_succ_cons, List.drop_zero, List.size_toArray, List.length_cons, List.length_nil, Nat.reduceAdd, List.take_succ_cons, List.take_zero]; first | done | exact rfl) ?_)) | ((with_reducible show wpList _ _ _ (Oper.mk _ (Op.store _ _ _) _ _ _ _ :: _) _ _); (refine wpList_stS (by rfl) _ _ _ rfl _ _ rfl _ (by simp only [Act.eval, Array.getD_eq_getD_getElem?, List.getElem?_toArray, List.getElem?_cons_succ, List.getElem?_cons_zero, Option.getD_some]; first | done | exact rfl) hm _ (by simp only [Value.cells]; first | done | exact rfl) _ _ _ _ (by repeat (first | apply Put.a | apply Put.b)) (by kernel_rfl) (by simp [Value.oneCell']) (by simp) (by simp only [List.set_cons_zero, List.set_cons_succ, spl, List.toList_toArray, List.size_toArray, List.length_cons, List.length_nil, Nat.reduceAdd, Nat.zero_add, List.take_succ_cons, List.take_zero, List.drop_succ_cons, List.drop_zero, List.drop_nil, List.cons_append, List.nil_append, List.append_nil]; first | done | exact rfl) ?_; clear hm; intro w hz hm ho)) | ((with_reducible show wpList _ _ _ (Oper.mk _ (Op.alloc _) _ _ _ _ :: _) _ _); (refine wpList_al (by rfl) _ rfl _ rfl _ (by simp only [Value.cells]; first | done | exact rfl) hm ?_; clear hm; intro n w hn hz hm ho; (try simp only [List.cons_append, List.nil_append] at hm)))); try simp only [Act.put, List.setIfInBounds_toArray, List.set_cons_zero, List.set_cons_succ]))
      refine wp_region_noPanic ?_
      refine wp_region_held_drew (S := KnS _ _) (by kernel_rfl) (KnS.of hm.drew (Rngs.nil _)) (fun hHeld => ?_)
      refine wpAnyH_fresh (by repeat (first | apply Fresh.a | apply Fresh.b)) ?_
      replace hm := hm.drew
      iterate 1 (first | (refine wpAnyH_take3 (b := 0) (by repeat (first | apply Seek.a | apply Seek.b | apply Seek.c)) (by simp only [List.getElem?_toArray, List.getElem?_cons_succ, List.getElem?_cons_zero]; first | done | exact rfl) ⟨undef, by kernel_rfl, by kernel_rfl, by kernel_rfl, fun _ _ _ h => h, Or.inr ⟨by rfl, rfl⟩, hHeld, ?_⟩) | (refine wpAnyH_take3 (b := 0) (by repeat (first | apply Seek.a | apply Seek.b | apply Seek.c)) (by simp only [List.getElem?_toArray, List.getElem?_cons_succ, List.getElem?_cons_zero]; first | done | exact rfl) ⟨?_, by kernel_rfl, by kernel_rfl, by kernel_rfl, fun _ _ _ h => h, Or.inl ⟨by rfl, ?_⟩, hHeld, ?_⟩; rotate_left 1; (first | (intro w9 h9; (with_reducible show (execOp _ (Oper.mk _ (Op.load _ _) _ _ _ _)).run _ _ = _); (first | (exact KnS.ld h9 _ _ rfl _ _ rfl _ _ (by repeat (first | apply In.a | apply In.b)) (by decide +kernel) _ (by simp only [List.getElem?_toArray, List.getElem?_cons_succ, List.getElem?_cons_zero]; first | done | exact rfl)) | (exact KnS.lcT h9 _ _ rfl rfl (by decide +kernel) _ (by repeat (first | apply InR.a | apply InR.b)) _ (by first | done | exact rfl)) | (exact KnS.la h9 _ _ rfl _ _ rfl _ _ (by repeat (first | apply In.a | apply In.b)) (by kernel_rfl) _ (by rfl) (by kernel_rfl) (by simp) _ (by simp only [List.toList_toArray, List.drop_succ_cons, List.drop_zero, List.size_toArray, List.length_cons, List.length_nil, Nat.reduceAdd, List.take_succ_cons, List.take_zero]; first | done | exact rfl)) | (exact KnS.lr h9 _ _ rfl rfl _ (by repeat (first | apply InR.a | apply InR.b)) (by kernel_rfl) (by kernel_rfl) _ (by first | done | exact rfl)))) | focus (intro w9 hSw; go_simp; (try (with_reducible rfl)); done))); try simp only [Act.put, List.setIfInBounds_toArray, List.set_cons_zero, List.set_cons_succ])
      iterate 2 (first | (refine wpAnyH_take3 (b := 2) (by repeat (first | apply Seek.a | apply Seek.b | apply Seek.c)) (by simp only [List.getElem?_toArray, List.getElem?_cons_succ, List.getElem?_cons_zero]; first | done | exact rfl) ⟨undef, by kernel_rfl, by kernel_rfl, by kernel_rfl, fun _ _ _ h => h, Or.inr ⟨by rfl, rfl⟩, hHeld, ?_⟩) | (refine wpAnyH_take3 (b := 2) (by repeat (first | apply Seek.a | apply Seek.b | apply Seek.c)) (by simp only [List.getElem?_toArray, List.getElem?_cons_succ, List.getElem?_cons_zero]; first | done | exact rfl) ⟨?_, by kernel_rfl, by kernel_rfl, by kernel_rfl, fun _ _ _ h => h, Or.inl ⟨by rfl, ?_⟩, hHeld, ?_⟩; rotate_left 1; (first | (intro w9 h9; (with_reducible show (execOp _ (Oper.mk _ (Op.load _ _) _ _ _ _)).run _ _ = _); (first | (exact KnS.ld h9 _ _ rfl _ _ rfl _ _ (by repeat (first | apply In.a | apply In.b)) (by decide +kernel) _ (by simp only [List.getElem?_toArray, List.getElem?_cons_succ, List.getElem?_cons_zero]; first | done | exact rfl)) | (exact KnS.lcT h9 _ _ rfl rfl (by decide +kernel) _ (by repeat (first | apply InR.a | apply InR.b)) _ (by first | done | exact rfl)) | (exact KnS.la h9 _ _ rfl _ _ rfl _ _ (by repeat (first | apply In.a | apply In.b)) (by kernel_rfl) _ (by rfl) (by kernel_rfl) (by simp) _ (by simp only [List.toList_toArray, List.drop_succ_cons, List.drop_zero, List.size_toArray, List.length_cons, List.length_nil, Nat.reduceAdd, List.take_succ_cons, List.take_zero]; first | done | exact rfl)) | (exact KnS.lr h9 _ _ rfl rfl _ (by repeat (first | apply InR.a | apply InR.b)) (by kernel_rfl) (by kernel_rfl) _ (by first | done | exact rfl)))) | focus (intro w9 hSw; go_simp; (try (with_reducible rfl)); done))); try simp only [Act.put, List.setIfInBounds_toArray, List.set_cons_zero, List.set_cons_succ])
      refine wpAnyH_ready (rs := [1]) (by kernel_rfl) (by simp) ?_
      refine AllReadyH.cons2 (by simp only [List.getElem?_toArray, List.getElem?_cons_succ, List.getElem?_cons_zero]; first | done | exact rfl) (fun K hK => ?_)
      rw [if_pos (by rfl)]
      go_simp
      have hcc := ch_level _ g1 F1 s ((HC.out.resync hm).obj 0 rfl)
      rw [HSH.out, if_neg (by decide), HLV2.out] at hcc
      refine hcc.mono ?_
      clear hcc
      rintro e w9 ⟨rfl, rfl⟩
      go_simp
      refine hK.out _ _ (KnS.of hm (Rngs.nil _)) (fun hHeld => ?_)
      clear hK K
      try simp only [Act.put, List.setIfInBounds_toArray, List.set_cons_zero, List.set_cons_succ]
      iterate 3 (first | (refine wpAnyH_take3 (b := 4) (by repeat (first | apply Seek.a | apply Seek.b | apply Seek.c)) (by simp only [List.getElem?_toArray, List.getElem?_cons_succ, List.getElem?_cons_zero]; first | done | exact rfl) ⟨undef, by kernel_rfl, by kernel_rfl, by kernel_rfl, fun _ _ _ h => h, Or.inr ⟨by rfl, rfl⟩, hHeld, ?_⟩) | (refine wpAnyH_take3 (b := 4) (by repeat (first | apply Seek.a | apply Seek.b | apply Seek.c)) (by simp only [List.getElem?_toArray, List.getElem?_cons_succ, List.getElem?_cons_zero]; first | done | exact rfl) ⟨?_, by kernel_rfl, by kernel_rfl, by kernel_rfl, fun _ _ _ h => h, Or.inl ⟨by rfl, ?_⟩, hHeld, ?_⟩; rotate_left 1; (first | (intro w9 h9; (with_reducible show (execOp _ (Oper.mk _ (Op.load _ _) _ _ _ _)).run _ _ = _); (first | (exact KnS.ld h9 _ _ rfl _ _ rfl _ _ (by repeat (first | apply In.a | apply In.b)) (by decide +kernel) _ (by simp only [List.getElem?_toArray, List.getElem?_cons_succ, List.getElem?_cons_zero]; first | done | exact rfl)) | (exact KnS.lcT h9 _ _ rfl rfl (by decide +kernel) _ (by repeat (first | apply InR.a | apply InR.b)) _ (by first | done | exact rfl)) | (exact KnS.la h9 _ _ rfl _ _ rfl _ _ (by repeat (first | apply In.a | apply In.b)) (by kernel_rfl) _ (by rfl) (by kernel_rfl) (by simp) _ (by simp only [List.toList_toArray, List.drop_succ_cons, List.drop_zero, List.size_toArray, List.length_cons, List.length_nil, Nat.reduceAdd, List.take_succ_cons, List.take_zero]; first | done | exact rfl)) | (exact KnS.lr h9 _ _ rfl rfl _ (by repeat (first | apply InR.a | apply InR.b)) (by kernel_rfl) (by kernel_rfl) _ (by first | done | exact rfl)))) | focus (intro w9 hSw; go_simp; (try (with_reducible rfl)); done))); try simp only [Act.put, List.setIfInBounds_toArray, List.set_cons_zero, List.set_cons_succ])
      iterate 2 (first | (refine wpAnyH_take3 (b := 8) (by repeat (first | apply Seek.a | apply Seek.b | apply Seek.c)) (by simp only [List.getElem?_toArray, List.getElem?_cons_succ, List.getElem?_cons_zero]; first | done | exact rfl) ⟨undef, by kernel_rfl, by kernel_rfl, by kernel_rfl, fun _ _ _ h => h, Or.inr ⟨by rfl, rfl⟩, hHeld, ?_⟩) | (refine wpAnyH_take3 (b := 8) (by repeat (first | apply Seek.a | apply Seek.b | apply Seek.c)) (by simp only [List.getElem?_toArray, List.getElem?_cons_succ, List.getElem?_cons_zero]; first | done | exact rfl) ⟨?_, by kernel_rfl, by kernel_rfl, by kernel_rfl, fun _ _ _ h => h, Or.inl ⟨by rfl, ?_⟩, hHeld, ?_⟩; rotate_left 1; (first | (intro w9 h9; (with_reducible show (execOp _ (Oper.mk _ (Op.load _ _) _ _ _ _)).run _ _ = _); (first | (exact KnS.ld h9 _ _ rfl _ _ rfl _ _ (by repeat (first | apply In.a | apply In.b)) (by decide +kernel) _ (by simp only [List.getElem?_toArray, List.getElem?_cons_succ, List.getElem?_cons_zero]; first | done | exact rfl)) | (exact KnS.lcT h9 _ _ rfl rfl (by decide +kernel) _ (by repeat (first | apply InR.a | apply InR.b)) _ (by first | done | exact rfl)) | (exact KnS.la h9 _ _ rfl _ _ rfl _ _ (by repeat (first | apply In.a | apply In.b)) (by kernel_rfl) _ (by rfl) (by kernel_rfl) (by simp) _ (by simp only [List.toList_toArray, List.drop_succ_cons, List.drop_zero, List.size_toArray, List.length_cons, List.length_nil, Nat.reduceAdd, List.take_succ_cons, List.take_zero]; first | done | exact rfl)) | (exact KnS.lr h9 _ _ rfl rfl _ (by repeat (first | apply InR.a | apply InR.b)) (by kernel_rfl) (by kernel_rfl) _ (by first | done | exact rfl)))) | focus (intro w9 hSw; go_simp; (try (with_reducible rfl)); done))); try simp only [Act.put, List.setIfInBounds_toArray, List.set_cons_zero, List.set_cons_succ])
      refine wpAnyH_ready (rs := [7]) (by kernel_rfl) (by simp) ?_
      refine AllReadyH.cons2 (by simp only [List.getElem?_toArray, List.getElem?_cons_succ, List.getElem?_cons_zero]; first | done | exact rfl) (fun K hK => ?_)
      rw [if_pos (by rfl)]
      go_simp
      have hcc := ch_level _ g2 F2 s ((HC.out.resync hm).obj 1 rfl)
      rw [HSH.out, if_neg (by decide), HLV2.out] at hcc
      refine hcc.mono ?_
      clear hcc
      rintro e w9 ⟨rfl, rfl⟩
      go_simp
      refine hK.out _ _ (KnS.of hm (Rngs.nil _)) (fun hHeld => ?_)
      clear hK K
      try simp only [Act.put, List.setIfInBounds_toArray, List.set_cons_zero, List.set_cons_succ]
      iterate 3 (first | (refine wpAnyH_take3 (b := 10) (by repeat (first | apply Seek.a | apply Seek.b | apply Seek.c)) (by simp only [List.getElem?_toArray, List.getElem?_cons_succ, List.getElem?_cons_zero]; first | done | exact rfl) ⟨undef, by kernel_rfl, by kernel_rfl, by kernel_rfl, fun _ _ _ h => h, Or.inr ⟨by rfl, rfl⟩, hHeld, ?_⟩) | (refine wpAnyH_take3 (b := 10) (by repeat (first | apply Seek.a | apply Seek.b | apply Seek.c)) (by simp only [List.getElem?_toArray, List.getElem?_cons_succ, List.getElem?_cons_zero]; first | done | exact rfl) ⟨?_, by kernel_rfl, by kernel_rfl, by kernel_rfl, fun _ _ _ h => h, Or.inl ⟨by rfl, ?_⟩, hHeld, ?_⟩; rotate_left 1; (first | (intro w9 h9; (with_reducible show (execOp _ (Oper.mk _ (Op.load _ _) _ _ _ _)).run _ _ = _); (first | (exact KnS.ld h9 _ _ rfl _ _ rfl _ _ (by repeat (first | apply In.a | apply In.b)) (by decide +kernel) _ (by simp only [List.getElem?_toArray, List.getElem?_cons_succ, List.getElem?_cons_zero]; first | done | exact rfl)) | (exact KnS.lcT h9 _ _ rfl rfl (by decide +kernel) _ (by repeat (first | apply InR.a | apply InR.b)) _ (by first | done | exact rfl)) | (exact KnS.la h9 _ _ rfl _ _ rfl _ _ (by repeat (first | apply In.a | apply In.b)) (by kernel_rfl) _ (by rfl) (by kernel_rfl) (by simp) _ (by simp only [List.toList_toArray, List.drop_succ_cons, List.drop_zero, List.size_toArray, List.length_cons, List.length_nil, Nat.reduceAdd, List.take_succ_cons, List.take_zero]; first | done | exact rfl)) | (exact KnS.lr h9 _ _ rfl rfl _ (by repeat (first | apply InR.a | apply InR.b)) (by kernel_rfl) (by kernel_rfl) _ (by first | done | exact rfl)))) | focus (intro w9 hSw; go_simp; (try (with_reducible rfl)); done))); try simp only [Act.put, List.setIfInBounds_toArray, List.set_cons_zero, List.set_cons_succ])
      refine wpAnyH_ready (rs := [13]) (by kernel_rfl) (by simp) ?_
      refine AllReadyH.cons2 (by simp only [List.getElem?_toArray, List.getElem?_cons_succ, List.getElem?_cons_zero]; first | done | exact rfl) (fun K hK => ?_)
      rw [if_pos (by rfl)]
      go_simp
      refine (law24_awake _ (HG.out.below (HC.out.resync hm).low HP.out)).mono ?_
      rintro e w9 ⟨rfl, hb9⟩
      replace hm := hm.below hb9
      go_simp
      refine hK.out _ _ (KnS.of hm (Rngs.nil _)) (fun hHeld => ?_)
      clear hK K
      try simp only [Act.put, List.setIfInBounds_toArray, List.set_cons_zero, List.set_cons_succ]
      iterate 2 (first | (refine wpAnyH_take3 (b := 14) (by repeat (first | apply Seek.a | apply Seek.b | apply Seek.c)) (by simp only [List.getElem?_toArray, List.getElem?_cons_succ, List.getElem?_cons_zero]; first | done | exact rfl) ⟨undef, by kernel_rfl, by kernel_rfl, by kernel_rfl, fun _ _ _ h => h, Or.inr ⟨by rfl, rfl⟩, hHeld, ?_⟩) | (refine wpAnyH_take3 (b := 14) (by repeat (first | apply Seek.a | apply Seek.b | apply Seek.c)) (by simp only [List.getElem?_toArray, List.getElem?_cons_succ, List.getElem?_cons_zero]; first | done | exact rfl) ⟨?_, by kernel_rfl, by kernel_rfl, by kernel_rfl, fun _ _ _ h => h, Or.inl ⟨by rfl, ?_⟩, hHeld, ?_⟩; rotate_left 1; (first | (intro w9 h9; (with_reducible show (execOp _ (Oper.mk _ (Op.load _ _) _ _ _ _)).run _ _ = _); (first | (exact KnS.ld h9 _ _ rfl _ _ rfl _ _ (by repeat (first | apply In.a | apply In.b)) (by decide +kernel) _ (by simp only [List.getElem?_toArray, List.getElem?_cons_succ, List.getElem?_cons_zero]; first | done | exact rfl)) | (exact KnS.lcT h9 _ _ rfl rfl (by decide +kernel) _ (by repeat (first | apply InR.a | apply InR.b)) _ (by first | done | exact rfl)) | (exact KnS.la h9 _ _ rfl _ _ rfl _ _ (by repeat (first | apply In.a | apply In.b)) (by kernel_rfl) _ (by rfl) (by kernel_rfl) (by simp) _ (by simp only [List.toList_toArray, List.drop_succ_cons, List.drop_zero, List.size_toArray, List.length_cons, List.length_nil, Nat.reduceAdd, List.take_succ_cons, List.take_zero]; first | done | exact rfl)) | (exact KnS.lr h9 _ _ rfl rfl _ (by repeat (first | apply InR.a | apply InR.b)) (by kernel_rfl) (by kernel_rfl) _ (by first | done | exact rfl)))) | focus (intro w9 hSw; go_simp; (try (with_reducible rfl)); done))); try simp only [Act.put, List.setIfInBounds_toArray, List.set_cons_zero, List.set_cons_succ])
      refine wpAnyH_done (by kernel_rfl) ?_ _
      refine NoPanic.normal ?_
      go_wp2_with fail
      go_ret
      exact ⟨rfl, (HC.out.resync hm).low⟩
    | succ g =>
      have hkn : k < nl := by omega
      have ik : decide ((k : Int) < (nl : Int)) = true := decide_eq_true (by omega)
      obtain ⟨bb, oo, x, hA, hxo, _, hrg⟩ := HT.out.at_ hkn
      subst hA
      obtain ⟨cla, ins, p1, p2, A4, dn, dc, b, le, long, A5, rn, rc, rb, sw⟩ := x
      obtain ⟨hx1, hx2⟩ := hxo
      dsimp only [Trn.cells] at hx1 hx2 hrg
      have HX1 := Lib.hid hx1
      have HX2 := Lib.hid hx2
      have RK : Hid (∀ u : World, Below w0.heap.size w0 u → Rngs [⟨bb, oo + k * 9, [.int .i64 cla, .int .i64 ins, .int .i64 p1, .int .i64 p2, .slice A4 dn dc, .int .i64 le, .bool long]⟩, ⟨bb, oo + k * 9 + 7, [.slice A5 rn rc, .int .i64 sw]⟩, ⟨bb, oo + k * 9 + 4, [.slice A4 dn dc]⟩, ⟨bb, oo + k * 9 + 7, [.slice A5 rn rc]⟩] u) := by
        show ∀ u, _
        intro u hu
        refine Rngs.below (w := w0) ?_ hu
        intro r hr j v hv
        simp only [List.mem_cons, List.not_mem_nil, or_false] at hr
        rcases hr with rfl | rfl | rfl | rfl
        · match j, hv with
          | 0, hv => exact hrg 0 v hv
          | 1, hv => exact hrg 1 v hv
          | 2, hv => exact hrg 2 v hv
          | 3, hv => exact hrg 3 v hv
          | 4, hv => exact hrg 4 v hv
          | 5, hv => exact hrg 5 v hv
          | 6, hv => exact hrg 6 v hv
          | j + 7, hv => simp at hv
        · match j, hv with
          | 0, hv => exact hrg 7 v hv
          | 1, hv => exact hrg 8 v hv
          | j + 2, hv => simp at hv
        · match j, hv with
          | 0, hv => exact hrg 4 v hv
          | j + 1, hv => simp at hv
        · match j, hv with
          | 0, hv => exact hrg 7 v hv
          | j + 1, hv => simp at hv
      clear hx2 hrg
      have hbl := hx1.1
      have hrl := HX2.out.1
      clear hx1
      by_cases h6 : 600 < dn
      · have i2 : decide ((600 : Int) < (dn : Int)) = true := decide_eq_true (by omega)
        clear hkg hok hlv2 hsh hck
        go_wp2_with (first | go_skip | ((with_reducible show wpList _ _ _ _ _ (World.alloc _ _)); refine wpList_up hm ?_; clear hm; intro n w hn hn2 hk hm hd hd2 ho; (try rw [← hn]); replace hn := Nat.le_of_eq hn.symm) | ((first | ((with_reducible show wpList _ _ _ (Oper.mk _ (Op.box _ _) _ _ _ _ :: _) _ _); (refine wpList_bx (by rfl) _ _ rfl _ (by simp only [Act.eval, Array.getD_eq_getD_getElem?, List.getElem?_toArray, List.getElem?_cons_succ, List.getElem?_cons_zero, Option.getD_some]; first | done | exact rfl) _ (by simp only [Value.cells]; first | done | exact rfl) hm ?_; clear hm; intro n w hn hz hm ho; (try simp only [List.cons_append, List.nil_append] at hm))) | ((with_reducible show wpList _ _ _ (Oper.mk _ (Op.load _ _) _ _ _ _ :: _) _ _); first | (refine wpList_ldS (by rfl) _ _ rfl _ _ rfl hm _ _ (by repeat (first | apply In.a | apply In.b)) (by decide +kernel) _ (by simp only [List.getElem?_toArray, List.getElem?_cons_succ, List.getElem?_cons_zero]; first | done | exact rfl) ?_) | (refine wpList_laS (by rfl) _ _ rfl _ _ rfl hm _ _ (by repeat (first | apply In.a | apply In.b)) (by kernel_rfl) _ (by rfl) (by kernel_rfl) (by simp) _ (by simp only [List.toList_toArray, List.drop_succ_cons, List.drop_zero, List.size_toArray, List.length_cons, List.length_nil, Nat.reduceAdd, List.take_succ_cons, List.take_zero]; first | done | exact rfl) ?_) | (refine wpList_lcRT (RK.out _ (HC.out.resync hm).low) (by rfl) _ _ rfl (by decide +kernel) _ _ rfl _ (by repeat (first | apply InR.a | apply InR.b)) ?_) | (refine wpList_lrR (RK.out _ (HC.out.resync hm).low) (by rfl) _ _ rfl _ _ rfl _ (by repeat (first | apply InR.a | apply InR.b)) (by kernel_rfl) (by kernel_rfl) ?_)) | ((with_reducible show wpList _ _ _ (Oper.mk _ (Op.store _ _ _) _ _ _ _ :: _) _ _); (refine wpList_stS (by rfl) _ _ _ rfl _ _ rfl _ (by simp only [Act.eval, Array.getD_eq_getD_getElem?, List.getElem?_toArray, List.getElem?_cons_succ, List.getElem?_cons_zero, Option.getD_some]; first | done | exact rfl) hm _ (by simp only [Value.cells]; first | done | exact rfl) _ _ _ _ (by repeat (first | apply Put.a | apply Put.b)) (by kernel_rfl) (by simp [Value.oneCell']) (by simp) (by simp only [List.set_cons_zero, List.set_cons_succ, spl, List.toList_toArray, List.size_toArray, List.length_cons, List.length_nil, Nat.reduceAdd, Nat.zero_add, List.take_succ_cons, List.take_zero, List.drop_succ_cons, List.drop_zero, List.drop_nil, List.cons_append, List.nil_append, List.append_nil]; first | done | exact rfl) ?_; clear hm; intro w hz hm ho)) | ((with_reducible show wpList _ _ _ (Oper.mk _ (Op.alloc _) _ _ _ _ :: _) _ _); (refine wpList_al (by rfl) _ rfl _ rfl _ (by simp only [Value.cells]; first | done | exact rfl) hm ?_; clear hm; intro n w hn hz hm ho; (try simp only [List.cons_append, List.nil_append] at hm)))); try simp only [Act.put, List.setIfInBounds_toArray, List.set_cons_zero, List.set_cons_succ]))
        go_ret
        exact ⟨rfl, (HC.out.resync hm).low⟩
      by_cases h7 : 600 < rn
      · have i2 : decide ((600 : Int) < (dn : Int)) = false := decide_eq_false (by omega)
        have i3 : decide ((600 : Int) < (rn : Int)) = true := decide_eq_true (by omega)
        clear hkg hok hlv2 hsh hck
        go_wp2_with (first | go_skip | ((with_reducible show wpList _ _ _ _ _ (World.alloc _ _)); refine wpList_up hm ?_; clear hm; intro n w hn hn2 hk hm hd hd2 ho; (try rw [← hn]); replace hn := Nat.le_of_eq hn.symm) | ((first | ((with_reducible show wpList _ _ _ (Oper.mk _ (Op.box _ _) _ _ _ _ :: _) _ _); (refine wpList_bx (by rfl) _ _ rfl _ (by simp only [Act.eval, Array.getD_eq_getD_getElem?, List.getElem?_toArray, List.getElem?_cons_succ, List.getElem?_cons_zero, Option.getD_some]; first | done | exact rfl) _ (by simp only [Value.cells]; first | done | exact rfl) hm ?_; clear hm; intro n w hn hz hm ho; (try simp only [List.cons_append, List.nil_append] at hm))) | ((with_reducible show wpList _ _ _ (Oper.mk _ (Op.load _ _) _ _ _ _ :: _) _ _); first | (refine wpList_ldS (by rfl) _ _ rfl _ _ rfl hm _ _ (by repeat (first | apply In.a | apply In.b)) (by decide +kernel) _ (by simp only [List.getElem?_toArray, List.getElem?_cons_succ, List.getElem?_cons_zero]; first | done | exact rfl) ?_) | (refine wpList_laS (by rfl) _ _ rfl _ _ rfl hm _ _ (by repeat (first | apply In.a | apply In.b)) (by kernel_rfl) _ (by rfl) (by kernel_rfl) (by simp) _ (by simp only [List.toList_toArray, List.drop_succ_cons, List.drop_zero, List.size_toArray, List.length_cons, List.length_nil, Nat.reduceAdd, List.take_succ_cons, List.take_zero]; first | done | exact rfl) ?_) | (refine wpList_lcRT (RK.out _ (HC.out.resync hm).low) (by rfl) _ _ rfl (by decide +kernel) _ _ rfl _ (by repeat (first | apply InR.a | apply InR.b)) ?_) | (refine wpList_lrR (RK.out _ (HC.out.resync hm).low) (by rfl) _ _ rfl _ _ rfl _ (by repeat (first | apply InR.a | apply InR.b)) (by kernel_rfl) (by kernel_rfl) ?_)) | ((with_reducible show wpList _ _ _ (Oper.mk _ (Op.store _ _ _) _ _ _ _ :: _) _ _); (refine wpList_stS (by rfl) _ _ _ rfl _ _ rfl _ (by simp only [Act.eval, Array.getD_eq_getD_getElem?, List.getElem?_toArray, List.getElem?_cons_succ, List.getElem?_cons_zero, Option.getD_some]; first | done | exact rfl) hm _ (by simp only [Value.cells]; first | done | exact rfl) _ _ _ _ (by repeat (first | apply Put.a | apply Put.b)) (by kernel_rfl) (by simp [Value.oneCell']) (by simp) (by simp only [List.set_cons_zero, List.set_cons_succ, spl, List.toList_toArray, List.size_toArray, List.length_cons, List.length_nil, Nat.reduceAdd, Nat.zero_add, List.take_succ_cons, List.take_zero, List.drop_succ_cons, List.drop_zero, List.drop_nil, List.cons_append, List.nil_append, List.append_nil]; first | done | exact rfl) ?_; clear hm; intro w hz hm ho)) | ((with_reducible show wpList _ _ _ (Oper.mk _ (Op.alloc _) _ _ _ _ :: _) _ _); (refine wpList_al (by rfl) _ rfl _ rfl _ (by simp only [Value.cells]; first | done | exact rfl) hm ?_; clear hm; intro n w hn hz hm ho; (try simp only [List.cons_append, List.nil_append] at hm)))); try simp only [Act.put, List.setIfInBounds_toArray, List.set_cons_zero, List.set_cons_succ]))
        go_ret
        exact ⟨rfl, (HC.out.resync hm).low⟩
      have i2 : decide ((600 : Int) < (dn : Int)) = false := decide_eq_false (by omega)
      have i3 : decide ((600 : Int) < (rn : Int)) = false := decide_eq_false (by omega)
      by_cases hw : Sec.wrapE s ⟨cla, ins, p1, p2, b, le, long⟩ = 0
      rotate_left 1
      · obtain ⟨er, her⟩ : ∃ er, Sec.wrapE s ⟨cla, ins, p1, p2, b, le, long⟩ = er := ⟨_, rfl⟩
        have HWP : Hid (Sec.wrap s ⟨cla, ins, p1, p2, b, le, long⟩ = (s, Sec.cz)) := Lib.hid (by unfold Sec.wrap; rw [if_pos hw])
        rw [her] at hw
        have i4 : (er == 0) = false := beq_eq_false_iff_ne.2 hw
        have i5 : (er != 0) = true := bne_iff_ne.2 hw
        have HER := Lib.hid her
        clear hkg hok hlv2 hsh hck her hw
        go_wp2_with (first | go_skip | ((with_reducible show wpList _ _ _ _ _ (World.alloc _ _)); refine wpList_up hm ?_; clear hm; intro n w hn hn2 hk hm hd hd2 ho; (try rw [← hn]); replace hn := Nat.le_of_eq hn.symm) | ((first | ((with_reducible show wpList _ _ _ (Oper.mk _ (Op.box _ _) _ _ _ _ :: _) _ _); (refine wpList_bx (by rfl) _ _ rfl _ (by simp only [Act.eval, Array.getD_eq_getD_getElem?, List.getElem?_toArray, List.getElem?_cons_succ, List.getElem?_cons_zero, Option.getD_some]; first | done | exact rfl) _ (by simp only [Value.cells]; first | done | exact rfl) hm ?_; clear hm; intro n w hn hz hm ho; (try simp only [List.cons_append, List.nil_append] at hm))) | ((with_reducible show wpList _ _ _ (Oper.mk _ (Op.load _ _) _ _ _ _ :: _) _ _); first | (refine wpList_ldS (by rfl) _ _ rfl _ _ rfl hm _ _ (by repeat (first | apply In.a | apply In.b)) (by decide +kernel) _ (by simp only [List.getElem?_toArray, List.getElem?_cons_succ, List.getElem?_cons_zero]; first | done | exact rfl) ?_) | (refine wpList_laS (by rfl) _ _ rfl _ _ rfl hm _ _ (by repeat (first | apply In.a | apply In.b)) (by kernel_rfl) _ (by rfl) (by kernel_rfl) (by simp) _ (by simp only [List.toList_toArray, List.drop_succ_cons, List.drop_zero, List.size_toArray, List.length_cons, List.length_nil, Nat.reduceAdd, List.take_succ_cons, List.take_zero]; first | done | exact rfl) ?_) | (refine wpList_lcRT (RK.out _ (HC.out.resync hm).low) (by rfl) _ _ rfl (by decide +kernel) _ _ rfl _ (by repeat (first | apply InR.a | apply InR.b)) ?_) | (refine wpList_lrR (RK.out _ (HC.out.resync hm).low) (by rfl) _ _ rfl _ _ rfl _ (by repeat (first | apply InR.a | apply InR.b)) (by kernel_rfl) (by kernel_rfl) ?_)) | ((with_reducible show wpList _ _ _ (Oper.mk _ (Op.store _ _ _) _ _ _ _ :: _) _ _); (refine wpList_stS (by rfl) _ _ _ rfl _ _ rfl _ (by simp only [Act.eval, Array.getD_eq_getD_getElem?, List.getElem?_toArray, List.getElem?_cons_succ, List.getElem?_cons_zero, Option.getD_some]; first | done | exact rfl) hm _ (by simp only [Value.cells]; first | done | exact rfl) _ _ _ _ (by repeat (first | apply Put.a | apply Put.b)) (by kernel_rfl) (by simp [Value.oneCell']) (by simp) (by simp only [List.set_cons_zero, List.set_cons_succ, spl, List.toList_toArray, List.size_toArray, List.length_cons, List.length_nil, Nat.reduceAdd, Nat.zero_add, List.take_succ_cons, List.take_zero, List.drop_succ_cons, List.drop_zero, List.drop_nil, List.cons_append, List.nil_append, List.append_nil]; first | done | exact rfl) ?_; clear hm; intro w hz hm ho)) | ((with_reducible show wpList _ _ _ (Oper.mk _ (Op.alloc _) _ _ _ _ :: _) _ _); (refine wpList_al (by rfl) _ rfl _ rfl _ (by simp only [Value.cells]; first | done | exact rfl) hm ?_; clear hm; intro n w hn hz hm ho; (try simp only [List.cons_append, List.nil_append] at hm)))); try simp only [Act.put, List.setIfInBounds_toArray, List.set_cons_zero, List.set_cons_succ]))
        go_at_call 9
        have hby := (HC.out.resync hm).oldO 0 rfl HX1.out
        refine (ch_wrap _ g1 F1 s ((HC.out.resync hm).obj 0 rfl) HCN.out cla ins p1 p2 A4 dn dc b hby.1 hby.2 (by omega) le long).mono ?_
        clear hby
        intro e w3 hres
        unfold WrRes at hres
        rw [HWP.out, HER.out] at hres
        obtain ⟨A6, c6, F3, rfl, hown, hch, hon, hF, hd6⟩ := hres
        have hc2 := (HC.out.resync hm).turned 0 rfl hon hF hch.sup hown hd6
        clear hown hch hon hF hd6
        clear HC hm
        simp only [List.nil_append, List.cons_append, List.set_cons_zero, List.set_cons_succ] at hc2
        have HC := Lib.hid hc2
        clear hc2
        have hm := HC.out.rebase
        unfold Sec.cz
        dsimp only
        unfold cmdV
        go_wp2_with (first | go_skip | ((with_reducible show wpList _ _ _ _ _ (World.alloc _ _)); refine wpList_up hm ?_; clear hm; intro n w hn hn2 hk hm hd hd2 ho; (try rw [← hn]); replace hn := Nat.le_of_eq hn.symm) | ((first | ((with_reducible show wpList _ _ _ (Oper.mk _ (Op.box _ _) _ _ _ _ :: _) _ _); (refine wpList_bx (by rfl) _ _ rfl _ (by simp only [Act.eval, Array.getD_eq_getD_getElem?, List.getElem?_toArray, List.getElem?_cons_succ, List.getElem?_cons_zero, Option.getD_some]; first | done | exact rfl) _ (by simp only [Value.cells]; first | done | exact rfl) hm ?_; clear hm; intro n w hn hz hm ho; (try simp only [List.cons_append, List.nil_append] at hm))) | ((with_reducible show wpList _ _ _ (Oper.mk _ (Op.load _ _) _ _ _ _ :: _) _ _); first | (refine wpList_ldS (by rfl) _ _ rfl _ _ rfl hm _ _ (by repeat (first | apply In.a | apply In.b)) (by decide +kernel) _ (by simp only [List.getElem?_toArray, List.getElem?_cons_succ, List.getElem?_cons_zero]; first | done | exact rfl) ?_) | (refine wpList_laS (by rfl) _ _ rfl _ _ rfl hm _ _ (by repeat (first | apply In.a | apply In.b)) (by kernel_rfl) _ (by rfl) (by kernel_rfl) (by simp) _ (by simp only [List.toList_toArray, List.drop_succ_cons, List.drop_zero, List.size_toArray, List.length_cons, List.length_nil, Nat.reduceAdd, List.take_succ_cons, List.take_zero]; first | done | exact rfl) ?_) | (refine wpList_lcRT (RK.out _ (HC.out.resync hm).low) (by rfl) _ _ rfl (by decide +kernel) _ _ rfl _ (by repeat (first | apply InR.a | apply InR.b)) ?_) | (refine wpList_lrR (RK.out _ (HC.out.resync hm).low) (by rfl) _ _ rfl _ _ rfl _ (by repeat (first | apply InR.a | apply InR.b)) (by kernel_rfl) (by kernel_rfl) ?_)) | ((with_reducible show wpList _ _ _ (Oper.mk _ (Op.store _ _ _) _ _ _ _ :: _) _ _); (refine wpList_stS (by rfl) _ _ _ rfl _ _ rfl _ (by simp only [Act.eval, Array.getD_eq_getD_getElem?, List.getElem?_toArray, List.getElem?_cons_succ, List.getElem?_cons_zero, Option.getD_some]; first | done | exact rfl) hm _ (by simp only [Value.cells]; first | done | exact rfl) _ _ _ _ (by repeat (first | apply Put.a | apply Put.b)) (by kernel_rfl) (by simp [Value.oneCell']) (by simp) (by simp only [List.set_cons_zero, List.set_cons_succ, spl, List.toList_toArray, List.size_toArray, List.length_cons, List.length_nil, Nat.reduceAdd, Nat.zero_add, List.take_succ_cons, List.take_zero, List.drop_succ_cons, List.drop_zero, List.drop_nil, List.cons_append, List.nil_append, List.append_nil]; first | done | exact rfl) ?_; clear hm; intro w hz hm ho)) | ((with_reducible show wpList _ _ _ (Oper.mk _ (Op.alloc _) _ _ _ _ :: _) _ _); (refine wpList_al (by rfl) _ rfl _ rfl _ (by simp only [Value.cells]; first | done | exact rfl) hm ?_; clear hm; intro n w hn hz hm ho; (try simp only [List.cons_append, List.nil_append] at hm)))); try simp only [Act.put, List.setIfInBounds_toArray, List.set_cons_zero, List.set_cons_succ]))
        go_roundg g
        case rel => exact ⟨k + 1, s, F3, F2, by have := HKG.out; omega, rfl, by go_num, HOK.out, HLV2.out, HSH.out, by have := HCK.out; omega, (HC.out.resync hm).part (.cons_cons _ (List.nil_sublist _)) (List.nil_sublist _) (List.nil_sublist _)⟩
        case measure => omega
      generalize hwp : Sec.wrap s ⟨cla, ins, p1, p2, b, le, long⟩ = r at *
      obtain ⟨s1, y⟩ := r
      obtain ⟨q1, q2, q3, q4, q5, q6, q7, q8⟩ := Sec.turn hok hsh (by show b.length ≤ 600; omega) hw hwp
      obtain ⟨y0, y1, y2, y3, yd, yle, ylong⟩ := y
      dsimp only at q1 q3
      have HER := Lib.hid hw
      have HWP := Lib.hid hwp
      have HQ2 := Lib.hid q2
      have HQ3 := Lib.hid q3
      have HC1 := Lib.hid (by omega : s1.cnt ≤ 1000000)
      have HCE := Lib.hid (by rw [q8]; omega : ((s1.cnt : Nat) : Int) = (s.cnt : Int) + 1)
      have hci : 0 ≤ (s.cnt : Int) ∧ (s.cnt : Int) < 1000000 := by omega
      obtain ⟨hci0, hci1⟩ := hci
      generalize hyn : yd.length = yn at *
      have HYN := Lib.hid hyn
      have HQ5 := Lib.hid q5
      have HQ8 := Lib.hid q8
      by_cases hsw : 0 ≤ sw ∧ sw ≤ 65535
      rotate_left 1
      · have hse : Sec.sealE s1 rb sw = 1 := by
          unfold Sec.sealE
          rw [if_neg (by rw [q6, q7]; rintro (e | e) <;> cases e), if_pos (by omega)]
        have HSE := Lib.hid hse
        have HSA : Hid (Sec.sea s1 rb sw = (s1, [], 0)) := Lib.hid (by unfold Sec.sea; rw [if_pos (by rw [hse]; decide)])
        clear hkg hok hlv2 hsh hck hw hwp hyn q2 q3 q4 q5 q6 q7 q8 hse hsw
        go_wp2_with (first | go_skip | ((with_reducible show wpList _ _ _ _ _ (World.alloc _ _)); refine wpList_up hm ?_; clear hm; intro n w hn hn2 hk hm hd hd2 ho; (try rw [← hn]); replace hn := Nat.le_of_eq hn.symm) | ((first | ((with_reducible show wpList _ _ _ (Oper.mk _ (Op.box _ _) _ _ _ _ :: _) _ _); (refine wpList_bx (by rfl) _ _ rfl _ (by simp only [Act.eval, Array.getD_eq_getD_getElem?, List.getElem?_toArray, List.getElem?_cons_succ, List.getElem?_cons_zero, Option.getD_some]; first | done | exact rfl) _ (by simp only [Value.cells]; first | done | exact rfl) hm ?_; clear hm; intro n w hn hz hm ho; (try simp only [List.cons_append, List.nil_append] at hm))) | ((with_reducible show wpList _ _ _ (Oper.mk _ (Op.load _ _) _ _ _ _ :: _) _ _); first | (refine wpList_ldS (by rfl) _ _ rfl _ _ rfl hm _ _ (by repeat (first | apply In.a | apply In.b)) (by decide +kernel) _ (by simp only [List.getElem?_toArray, List.getElem?_cons_succ, List.getElem?_cons_zero]; first | done | exact rfl) ?_) | (refine wpList_laS (by rfl) _ _ rfl _ _ rfl hm _ _ (by repeat (first | apply In.a | apply In.b)) (by kernel_rfl) _ (by rfl) (by kernel_rfl) (by simp) _ (by simp only [List.toList_toArray, List.drop_succ_cons, List.drop_zero, List.size_toArray, List.length_cons, List.length_nil, Nat.reduceAdd, List.take_succ_cons, List.take_zero]; first | done | exact rfl) ?_) | (refine wpList_lcRT (RK.out _ (HC.out.resync hm).low) (by rfl) _ _ rfl (by decide +kernel) _ _ rfl _ (by repeat (first | apply InR.a | apply InR.b)) ?_) | (refine wpList_lrR (RK.out _ (HC.out.resync hm).low) (by rfl) _ _ rfl _ _ rfl _ (by repeat (first | apply InR.a | apply InR.b)) (by kernel_rfl) (by kernel_rfl) ?_)) | ((with_reducible show wpList _ _ _ (Oper.mk _ (Op.store _ _ _) _ _ _ _ :: _) _ _); (refine wpList_stS (by rfl) _ _ _ rfl _ _ rfl _ (by simp only [Act.eval, Array.getD_eq_getD_getElem?, List.getElem?_toArray, List.getElem?_cons_succ, List.getElem?_cons_zero, Option.getD_some]; first | done | exact rfl) hm _ (by simp only [Value.cells]; first | done | exact rfl) _ _ _ _ (by repeat (first | apply Put.a | apply Put.b)) (by kernel_rfl) (by simp [Value.oneCell']) (by simp) (by simp only [List.set_cons_zero, List.set_cons_succ, spl, List.toList_toArray, List.size_toArray, List.length_cons, List.length_nil, Nat.reduceAdd, Nat.zero_add, List.take_succ_cons, List.take_zero, List.drop_succ_cons, List.drop_zero, List.drop_nil, List.cons_append, List.nil_append, List.append_nil]; first | done | exact rfl) ?_; clear hm; intro w hz hm ho)) | ((with_reducible show wpList _ _ _ (Oper.mk _ (Op.alloc _) _ _ _ _ :: _) _ _); (refine wpList_al (by rfl) _ rfl _ rfl _ (by simp only [Value.cells]; first | done | exact rfl) hm ?_; clear hm; intro n w hn hz hm ho; (try simp only [List.cons_append, List.nil_append] at hm)))); try simp only [Act.put, List.setIfInBounds_toArray, List.set_cons_zero, List.set_cons_succ]))
        go_at_call 9
        have hby := (HC.out.resync hm).oldO 0 rfl HX1.out
        refine (ch_wrap _ g1 F1 s ((HC.out.resync hm).obj 0 rfl) HCN.out cla ins p1 p2 A4 dn dc b hby.1 hby.2 (by omega) le long).mono ?_
        clear hby
        intro e w3 hres
        unfold WrRes at hres
        rw [HWP.out, HER.out] at hres
        obtain ⟨A6, c6, F3, rfl, hown, hch, hon, hF, hd6⟩ := hres
        dsimp only at hown hch
        rw [HYN.out] at hown
        have hc2 := (HC.out.resync hm).turned 0 rfl hon hF hch.sup hown hd6
        clear hown hch hon hF hd6
        clear HC hm
        simp only [List.nil_append, List.cons_append, List.set_cons_zero, List.set_cons_succ] at hc2
        have HC := Lib.hid hc2
        clear hc2
        have hm := HC.out.rebase
        dsimp only
        rw [HYN.out]
        unfold cmdV
        go_wp2_with (first | go_skip | ((with_reducible show wpList _ _ _ _ _ (World.alloc _ _)); refine wpList_up hm ?_; clear hm; intro n w hn hn2 hk hm hd hd2 ho; (try rw [← hn]); replace hn := Nat.le_of_eq hn.symm) | ((first | ((with_reducible show wpList _ _ _ (Oper.mk _ (Op.box _ _) _ _ _ _ :: _) _ _); (refine wpList_bx (by rfl) _ _ rfl _ (by simp only [Act.eval, Array.getD_eq_getD_getElem?, List.getElem?_toArray, List.getElem?_cons_succ, List.getElem?_cons_zero, Option.getD_some]; first | done | exact rfl) _ (by simp only [Value.cells]; first | done | exact rfl) hm ?_; clear hm; intro n w hn hz hm ho; (try simp only [List.cons_append, List.nil_append] at hm))) | ((with_reducible show wpList _ _ _ (Oper.mk _ (Op.load _ _) _ _ _ _ :: _) _ _); first | (refine wpList_ldS (by rfl) _ _ rfl _ _ rfl hm _ _ (by repeat (first | apply In.a | apply In.b)) (by decide +kernel) _ (by simp only [List.getElem?_toArray, List.getElem?_cons_succ, List.getElem?_cons_zero]; first | done | exact rfl) ?_) | (refine wpList_laS (by rfl) _ _ rfl _ _ rfl hm _ _ (by repeat (first | apply In.a | apply In.b)) (by kernel_rfl) _ (by rfl) (by kernel_rfl) (by simp) _ (by simp only [List.toList_toArray, List.drop_succ_cons, List.drop_zero, List.size_toArray, List.length_cons, List.length_nil, Nat.reduceAdd, List.take_succ_cons, List.take_zero]; first | done | exact rfl) ?_) | (refine wpList_lcRT (RK.out _ (HC.out.resync hm).low) (by rfl) _ _ rfl (by decide +kernel) _ _ rfl _ (by repeat (first | apply InR.a | apply InR.b)) ?_) | (refine wpList_lrR (RK.out _ (HC.out.resync hm).low) (by rfl) _ _ rfl _ _ rfl _ (by repeat (first | apply InR.a | apply InR.b)) (by kernel_rfl) (by kernel_rfl) ?_)) | ((with_reducible show wpList _ _ _ (Oper.mk _ (Op.store _ _ _) _ _ _ _ :: _) _ _); (refine wpList_stS (by rfl) _ _ _ rfl _ _ rfl _ (by simp only [Act.eval, Array.getD_eq_getD_getElem?, List.getElem?_toArray, List.getElem?_cons_succ, List.getElem?_cons_zero, Option.getD_some]; first | done | exact rfl) hm _ (by simp only [Value.cells]; first | done | exact rfl) _ _ _ _ (by repeat (first | apply Put.a | apply Put.b)) (by kernel_rfl) (by simp [Value.oneCell']) (by simp) (by simp only [List.set_cons_zero, List.set_cons_succ, spl, List.toList_toArray, List.size_toArray, List.length_cons, List.length_nil, Nat.reduceAdd, Nat.zero_add, List.take_succ_cons, List.take_zero, List.drop_succ_cons, List.drop_zero, List.drop_nil, List.cons_append, List.nil_append, List.append_nil]; first | done | exact rfl) ?_; clear hm; intro w hz hm ho)) | ((with_reducible show wpList _ _ _ (Oper.mk _ (Op.alloc _) _ _ _ _ :: _) _ _); (refine wpList_al (by rfl) _ rfl _ rfl _ (by simp only [Value.cells]; first | done | exact rfl) hm ?_; clear hm; intro n w hn hz hm ho; (try simp only [List.cons_append, List.nil_append] at hm)))); try simp only [Act.put, List.setIfInBounds_toArray, List.set_cons_zero, List.set_cons_succ]))
        go_at_call 13
        have hby := (HC.out.resync hm).bytO 0 1 rfl rfl
        refine (ch_unwrap _ g2 F2 s ((HC.out.resync hm).obj 1 rfl) (HG.out.below (HC.out.resync hm).low HP.out) (fun h => by have := (HC.out.resync hm).lo 1 rfl 0 h; have := HP.out; omega) HCN.out y0 y1 y2 y3 A6 yn c6 yd hby.1 hby.2 (by omega) yle ylong).mono ?_
        clear hby
        intro e w4 hres
        unfold UnRes at hres
        rw [HQ3.out, HQ2.out] at hres
        obtain ⟨A7, c7, F4, rfl, hown, hch, hon, hF, hd7⟩ := hres
        dsimp only at hown hch
        rw [HX1.out.1] at hown
        have hc2 := (HC.out.resync hm).turned 1 rfl hon hF hch.sup hown hd7
        clear hown hch hon hF hd7
        clear HC hm
        simp only [List.nil_append, List.cons_append, List.set_cons_zero, List.set_cons_succ] at hc2
        have HC := Lib.hid hc2
        clear hc2
        have hm := HC.out.rebase
        dsimp only
        rw [HX1.out.1]
        unfold cmdV
        go_wp2_with (first | go_skip | ((with_reducible show wpList _ _ _ _ _ (World.alloc _ _)); refine wpList_up hm ?_; clear hm; intro n w hn hn2 hk hm hd hd2 ho; (try rw [← hn]); replace hn := Nat.le_of_eq hn.symm) | ((first | ((with_reducible show wpList _ _ _ (Oper.mk _ (Op.box _ _) _ _ _ _ :: _) _ _); (refine wpList_bx (by rfl) _ _ rfl _ (by simp only [Act.eval, Array.getD_eq_getD_getElem?, List.getElem?_toArray, List.getElem?_cons_succ, List.getElem?_cons_zero, Option.getD_some]; first | done | exact rfl) _ (by simp only [Value.cells]; first | done | exact rfl) hm ?_; clear hm; intro n w hn hz hm ho; (try simp only [List.cons_append, List.nil_append] at hm))) | ((with_reducible show wpList _ _ _ (Oper.mk _ (Op.load _ _) _ _ _ _ :: _) _ _); first | (refine wpList_ldS (by rfl) _ _ rfl _ _ rfl hm _ _ (by repeat (first | apply In.a | apply In.b)) (by decide +kernel) _ (by simp only [List.getElem?_toArray, List.getElem?_cons_succ, List.getElem?_cons_zero]; first | done | exact rfl) ?_) | (refine wpList_laS (by rfl) _ _ rfl _ _ rfl hm _ _ (by repeat (first | apply In.a | apply In.b)) (by kernel_rfl) _ (by rfl) (by kernel_rfl) (by simp) _ (by simp only [List.toList_toArray, List.drop_succ_cons, List.drop_zero, List.size_toArray, List.length_cons, List.length_nil, Nat.reduceAdd, List.take_succ_cons, List.take_zero]; first | done | exact rfl) ?_) | (refine wpList_lcRT (RK.out _ (HC.out.resync hm).low) (by rfl) _ _ rfl (by decide +kernel) _ _ rfl _ (by repeat (first | apply InR.a | apply InR.b)) ?_) | (refine wpList_lrR (RK.out _ (HC.out.resync hm).low) (by rfl) _ _ rfl _ _ rfl _ (by repeat (first | apply InR.a | apply InR.b)) (by kernel_rfl) (by kernel_rfl) ?_)) | ((with_reducible show wpList _ _ _ (Oper.mk _ (Op.store _ _ _) _ _ _ _ :: _) _ _); (refine wpList_stS (by rfl) _ _ _ rfl _ _ rfl _ (by simp only [Act.eval, Array.getD_eq_getD_getElem?, List.getElem?_toArray, List.getElem?_cons_succ, List.getElem?_cons_zero, Option.getD_some]; first | done | exact rfl) hm _ (by simp only [Value.cells]; first | done | exact rfl) _ _ _ _ (by repeat (first | apply Put.a | apply Put.b)) (by kernel_rfl) (by simp [Value.oneCell']) (by simp) (by simp only [List.set_cons_zero, List.set_cons_succ, spl, List.toList_toArray, List.size_toArray, List.length_cons, List.length_nil, Nat.reduceAdd, Nat.zero_add, List.take_succ_cons, List.take_zero, List.drop_succ_cons, List.drop_zero, List.drop_nil, List.cons_append, List.nil_append, List.append_nil]; first | done | exact rfl) ?_; clear hm; intro w hz hm ho)) | ((with_reducible show wpList _ _ _ (Oper.mk _ (Op.alloc _) _ _ _ _ :: _) _ _); (refine wpList_al (by rfl) _ rfl _ rfl _ (by simp only [Value.cells]; first | done | exact rfl) hm ?_; clear hm; intro n w hn hz hm ho; (try simp only [List.cons_append, List.nil_append] at hm)))); try simp only [Act.put, List.setIfInBounds_toArray, List.set_cons_zero, List.set_cons_succ]))
        have hc2 := HC.out.resync hm
        clear HC hm
        simp only [List.nil_append, List.cons_append, List.set_cons_zero, List.set_cons_succ] at hc2
        have HC := Lib.hid hc2
        clear hc2
        have hm := HC.out.rebase
        refine wp_region_noPanic ?_
        refine wp_region_held_drew (S := KnS _ _) (by kernel_rfl) (KnS.of hm.drew (RK.out _ (HC.out.resync hm.drew).low)) (fun hHeld => ?_)
        refine wpAnyH_fresh (by repeat (first | apply Fresh.a | apply Fresh.b)) ?_
        replace hm := hm.drew
        iterate 8 (first | (refine wpAnyH_take3 (b := 0) (by repeat (first | apply Seek.a | apply Seek.b | apply Seek.c)) (by simp only [List.getElem?_toArray, List.getElem?_cons_succ, List.getElem?_cons_zero]; first | done | exact rfl) ⟨undef, by kernel_rfl, by kernel_rfl, by kernel_rfl, fun _ _ _ h => h, Or.inr ⟨by rfl, rfl⟩, hHeld, ?_⟩) | (refine wpAnyH_take3 (b := 0) (by repeat (first | apply Seek.a | apply Seek.b | apply Seek.c)) (by simp only [List.getElem?_toArray, List.getElem?_cons_succ, List.getElem?_cons_zero]; first | done | exact rfl) ⟨?_, by kernel_rfl, by kernel_rfl, by kernel_rfl, fun _ _ _ h => h, Or.inl ⟨by rfl, ?_⟩, hHeld, ?_⟩; rotate_left 1; (first | (intro w9 h9; (with_reducible show (execOp _ (Oper.mk _ (Op.load _ _) _ _ _ _)).run _ _ = _); (first | (exact KnS.ld h9 _ _ rfl _ _ rfl _ _ (by repeat (first | apply In.a | apply In.b)) (by decide +kernel) _ (by simp only [List.getElem?_toArray, List.getElem?_cons_succ, List.getElem?_cons_zero]; first | done | exact rfl)) | (exact KnS.lcT h9 _ _ rfl rfl (by decide +kernel) _ (by repeat (first | apply InR.a | apply InR.b)) _ (by first | done | exact rfl)) | (exact KnS.la h9 _ _ rfl _ _ rfl _ _ (by repeat (first | apply In.a | apply In.b)) (by kernel_rfl) _ (by rfl) (by kernel_rfl) (by simp) _ (by simp only [List.toList_toArray, List.drop_succ_cons, List.drop_zero, List.size_toArray, List.length_cons, List.length_nil, Nat.reduceAdd, List.take_succ_cons, List.take_zero]; first | done | exact rfl)) | (exact KnS.lr h9 _ _ rfl rfl _ (by repeat (first | apply InR.a | apply InR.b)) (by kernel_rfl) (by kernel_rfl) _ (by first | done | exact rfl)))) | focus (intro w9 hSw; go_simp; (try (with_reducible rfl)); done))); try simp only [Act.put, List.setIfInBounds_toArray, List.set_cons_zero, List.set_cons_succ])
        refine wpAnyH_take3 (b := 8) (by repeat (first | apply Seek.a | apply Seek.b | apply Seek.c)) (by simp only [List.getElem?_toArray, List.getElem?_cons_succ, List.getElem?_cons_zero]; first | done | exact rfl) ⟨?_, by kernel_rfl, by kernel_rfl, by kernel_rfl, fun _ _ _ h => h, Or.inl ⟨by rfl, ?_⟩, hHeld, ?_⟩
        rotate_left 1
        · intro w9 h9
          exact KnS.lr h9 _ _ rfl rfl _ (by repeat (first | apply InR.a | apply InR.b)) (by kernel_rfl) (by kernel_rfl) _ (by first | done | exact rfl)
        try simp only [Act.put, List.setIfInBounds_toArray, List.set_cons_zero, List.set_cons_succ]
        refine wpAnyH_ready (rs := [9]) (by kernel_rfl) (by simp) ?_
        refine AllReadyH.cons2 (by simp only [List.getElem?_toArray, List.getElem?_cons_succ, List.getElem?_cons_zero]; first | done | exact rfl) (fun K hK => ?_)
        rw [if_pos (by rfl)]
        go_simp
        refine (law_alike cla ins p1 p2 A7 A4 dn c7 dn dc b le ylong long _ ((HC.out.resync hm).byt 1 rfl) ((HC.out.resync hm).old HX1.out) (by omega)).mono ?_
        rintro e w9 ⟨rfl, hb9⟩
        replace hm := hm.below hb9
        go_simp
        refine hK.out _ _ (KnS.of hm (RK.out _ (HC.out.resync hm).low)) (fun hHeld => ?_)
        clear hK K
        try simp only [Act.put, List.setIfInBounds_toArray, List.set_cons_zero, List.set_cons_succ]
        iterate 4 (first | (refine wpAnyH_take3 (b := 10) (by repeat (first | apply Seek.a | apply Seek.b | apply Seek.c)) (by simp only [List.getElem?_toArray, List.getElem?_cons_succ, List.getElem?_cons_zero]; first | done | exact rfl) ⟨undef, by kernel_rfl, by kernel_rfl, by kernel_rfl, fun _ _ _ h => h, Or.inr ⟨by rfl, rfl⟩, hHeld, ?_⟩) | (refine wpAnyH_take3 (b := 10) (by repeat (first | apply Seek.a | apply Seek.b | apply Seek.c)) (by simp only [List.getElem?_toArray, List.getElem?_cons_succ, List.getElem?_cons_zero]; first | done | exact rfl) ⟨?_, by kernel_rfl, by kernel_rfl, by kernel_rfl, fun _ _ _ h => h, Or.inl ⟨by rfl, ?_⟩, hHeld, ?_⟩; rotate_left 1; (first | (intro w9 h9; (with_reducible show (execOp _ (Oper.mk _ (Op.load _ _) _ _ _ _)).run _ _ = _); (first | (exact KnS.ld h9 _ _ rfl _ _ rfl _ _ (by repeat (first | apply In.a | apply In.b)) (by decide +kernel) _ (by simp only [List.getElem?_toArray, List.getElem?_cons_succ, List.getElem?_cons_zero]; first | done | exact rfl)) | (exact KnS.lcT h9 _ _ rfl rfl (by decide +kernel) _ (by repeat (first | apply InR.a | apply InR.b)) _ (by first | done | exact rfl)) | (exact KnS.la h9 _ _ rfl _ _ rfl _ _ (by repeat (first | apply In.a | apply In.b)) (by kernel_rfl) _ (by rfl) (by kernel_rfl) (by simp) _ (by simp only [List.toList_toArray, List.drop_succ_cons, List.drop_zero, List.size_toArray, List.length_cons, List.length_nil, Nat.reduceAdd, List.take_succ_cons, List.take_zero]; first | done | exact rfl)) | (exact KnS.lr h9 _ _ rfl rfl _ (by repeat (first | apply InR.a | apply InR.b)) (by kernel_rfl) (by kernel_rfl) _ (by first | done | exact rfl)))) | focus (intro w9 hSw; go_simp; (try (with_reducible rfl)); done))); try simp only [Act.put, List.setIfInBounds_toArray, List.set_cons_zero, List.set_cons_succ])
        iterate 1 (first | (refine wpAnyH_take3 (b := 15) (by repeat (first | apply Seek.a | apply Seek.b | apply Seek.c)) (by simp only [List.getElem?_toArray, List.getElem?_cons_succ, List.getElem?_cons_zero]; first | done | exact rfl) ⟨undef, by kernel_rfl, by kernel_rfl, by kernel_rfl, fun _ _ _ h => h, Or.inr ⟨by rfl, rfl⟩, hHeld, ?_⟩) | (refine wpAnyH_take3 (b := 15) (by repeat (first | apply Seek.a | apply Seek.b | apply Seek.c)) (by simp only [List.getElem?_toArray, List.getElem?_cons_succ, List.getElem?_cons_zero]; first | done | exact rfl) ⟨?_, by kernel_rfl, by kernel_rfl, by kernel_rfl, fun _ _ _ h => h, Or.inl ⟨by rfl, ?_⟩, hHeld, ?_⟩; rotate_left 1; (first | (intro w9 h9; (with_reducible show (execOp _ (Oper.mk _ (Op.load _ _) _ _ _ _)).run _ _ = _); (first | (exact KnS.ld h9 _ _ rfl _ _ rfl _ _ (by repeat (first | apply In.a | apply In.b)) (by decide +kernel) _ (by simp only [List.getElem?_toArray, List.getElem?_cons_succ, List.getElem?_cons_zero]; first | done | exact rfl)) | (exact KnS.lcT h9 _ _ rfl rfl (by decide +kernel) _ (by repeat (first | apply InR.a | apply InR.b)) _ (by first | done | exact rfl)) | (exact KnS.la h9 _ _ rfl _ _ rfl _ _ (by repeat (first | apply In.a | apply In.b)) (by kernel_rfl) _ (by rfl) (by kernel_rfl) (by simp) _ (by simp only [List.toList_toArray, List.drop_succ_cons, List.drop_zero, List.size_toArray, List.length_cons, List.length_nil, Nat.reduceAdd, List.take_succ_cons, List.take_zero]; first | done | exact rfl)) | (exact KnS.lr h9 _ _ rfl rfl _ (by repeat (first | apply InR.a | apply InR.b)) (by kernel_rfl) (by kernel_rfl) _ (by first | done | exact rfl)))) | focus (intro w9 hSw; go_simp; (try (with_reducible rfl)); done))); try simp only [Act.put, List.setIfInBounds_toArray, List.set_cons_zero, List.set_cons_succ])
        refine wpAnyH_ready (rs := [14]) (by kernel_rfl) (by simp) ?_
        refine AllReadyH.cons2 (by simp only [List.getElem?_toArray, List.getElem?_cons_succ, List.getElem?_cons_zero]; first | done | exact rfl) (fun K hK => ?_)
        rw [if_pos (by rfl)]
        go_simp
        have hcc := ch_count _ g1 F3 s1 ((HC.out.resync hm).obj 0 rfl)
        rw [HCE.out] at hcc
        refine hcc.mono ?_
        clear hcc
        rintro e w9 ⟨rfl, rfl⟩
        go_simp
        refine hK.out _ _ (KnS.of hm (RK.out _ (HC.out.resync hm).low)) (fun hHeld => ?_)
        clear hK K
        try simp only [Act.put, List.setIfInBounds_toArray, List.set_cons_zero, List.set_cons_succ]
        iterate 4 (first | (refine wpAnyH_take3 (b := 16) (by repeat (first | apply Seek.a | apply Seek.b | apply Seek.c)) (by simp only [List.getElem?_toArray, List.getElem?_cons_succ, List.getElem?_cons_zero]; first | done | exact rfl) ⟨undef, by kernel_rfl, by kernel_rfl, by kernel_rfl, fun _ _ _ h => h, Or.inr ⟨by rfl, rfl⟩, hHeld, ?_⟩) | (refine wpAnyH_take3 (b := 16) (by repeat (first | apply Seek.a | apply Seek.b | apply Seek.c)) (by simp only [List.getElem?_toArray, List.getElem?_cons_succ, List.getElem?_cons_zero]; first | done | exact rfl) ⟨?_, by kernel_rfl, by kernel_rfl, by kernel_rfl, fun _ _ _ h => h, Or.inl ⟨by rfl, ?_⟩, hHeld, ?_⟩; rotate_left 1; (first | (intro w9 h9; (with_reducible show (execOp _ (Oper.mk _ (Op.load _ _) _ _ _ _)).run _ _ = _); (first | (exact KnS.ld h9 _ _ rfl _ _ rfl _ _ (by repeat (first | apply In.a | apply In.b)) (by decide +kernel) _ (by simp only [List.getElem?_toArray, List.getElem?_cons_succ, List.getElem?_cons_zero]; first | done | exact rfl)) | (exact KnS.lcT h9 _ _ rfl rfl (by decide +kernel) _ (by repeat (first | apply InR.a | apply InR.b)) _ (by first | done | exact rfl)) | (exact KnS.la h9 _ _ rfl _ _ rfl _ _ (by repeat (first | apply In.a | apply In.b)) (by kernel_rfl) _ (by rfl) (by kernel_rfl) (by simp) _ (by simp only [List.toList_toArray, List.drop_succ_cons, List.drop_zero, List.size_toArray, List.length_cons, List.length_nil, Nat.reduceAdd, List.take_succ_cons, List.take_zero]; first | done | exact rfl)) | (exact KnS.lr h9 _ _ rfl rfl _ (by repeat (first | apply InR.a | apply InR.b)) (by kernel_rfl) (by kernel_rfl) _ (by first | done | exact rfl)))) | focus (intro w9 hSw; go_simp; (try (with_reducible rfl)); done))); try simp only [Act.put, List.setIfInBounds_toArray, List.set_cons_zero, List.set_cons_succ])
        iterate 1 (first | (refine wpAnyH_take3 (b := 21) (by repeat (first | apply Seek.a | apply Seek.b | apply Seek.c)) (by simp only [List.getElem?_toArray, List.getElem?_cons_succ, List.getElem?_cons_zero]; first | done | exact rfl) ⟨undef, by kernel_rfl, by kernel_rfl, by kernel_rfl, fun _ _ _ h => h, Or.inr ⟨by rfl, rfl⟩, hHeld, ?_⟩) | (refine wpAnyH_take3 (b := 21) (by repeat (first | apply Seek.a | apply Seek.b | apply Seek.c)) (by simp only [List.getElem?_toArray, List.getElem?_cons_succ, List.getElem?_cons_zero]; first | done | exact rfl) ⟨?_, by kernel_rfl, by kernel_rfl, by kernel_rfl, fun _ _ _ h => h, Or.inl ⟨by rfl, ?_⟩, hHeld, ?_⟩; rotate_left 1; (first | (intro w9 h9; (with_reducible show (execOp _ (Oper.mk _ (Op.load _ _) _ _ _ _)).run _ _ = _); (first | (exact KnS.ld h9 _ _ rfl _ _ rfl _ _ (by repeat (first | apply In.a | apply In.b)) (by decide +kernel) _ (by simp only [List.getElem?_toArray, List.getElem?_cons_succ, List.getElem?_cons_zero]; first | done | exact rfl)) | (exact KnS.lcT h9 _ _ rfl rfl (by decide +kernel) _ (by repeat (first | apply InR.a | apply InR.b)) _ (by first | done | exact rfl)) | (exact KnS.la h9 _ _ rfl _ _ rfl _ _ (by repeat (first | apply In.a | apply In.b)) (by kernel_rfl) _ (by rfl) (by kernel_rfl) (by simp) _ (by simp only [List.toList_toArray, List.drop_succ_cons, List.drop_zero, List.size_toArray, List.length_cons, List.length_nil, Nat.reduceAdd, List.take_succ_cons, List.take_zero]; first | done | exact rfl)) | (exact KnS.lr h9 _ _ rfl rfl _ (by repeat (first | apply InR.a | apply InR.b)) (by kernel_rfl) (by kernel_rfl) _ (by first | done | exact rfl)))) | focus (intro w9 hSw; go_simp; (try (with_reducible rfl)); done))); try simp only [Act.put, List.setIfInBounds_toArray, List.set_cons_zero, List.set_cons_succ])
        refine wpAnyH_ready (rs := [20]) (by kernel_rfl) (by simp) ?_
        refine AllReadyH.cons2 (by simp only [List.getElem?_toArray, List.getElem?_cons_succ, List.getElem?_cons_zero]; first | done | exact rfl) (fun K hK => ?_)
        rw [if_pos (by rfl)]
        go_simp
        have hcc := ch_count _ g2 F4 s1 ((HC.out.resync hm).obj 1 rfl)
        rw [HCE.out] at hcc
        refine hcc.mono ?_
        clear hcc
        rintro e w9 ⟨rfl, rfl⟩
        go_simp
        refine hK.out _ _ (KnS.of hm (RK.out _ (HC.out.resync hm).low)) (fun hHeld => ?_)
        clear hK K
        try simp only [Act.put, List.setIfInBounds_toArray, List.set_cons_zero, List.set_cons_succ]
        iterate 2 (first | (refine wpAnyH_take3 (b := 22) (by repeat (first | apply Seek.a | apply Seek.b | apply Seek.c)) (by simp only [List.getElem?_toArray, List.getElem?_cons_succ, List.getElem?_cons_zero]; first | done | exact rfl) ⟨undef, by kernel_rfl, by kernel_rfl, by kernel_rfl, fun _ _ _ h => h, Or.inr ⟨by rfl, rfl⟩, hHeld, ?_⟩) | (refine wpAnyH_take3 (b := 22) (by repeat (first | apply Seek.a | apply Seek.b | apply Seek.c)) (by simp only [List.getElem?_toArray, List.getElem?_cons_succ, List.getElem?_cons_zero]; first | done | exact rfl) ⟨?_, by kernel_rfl, by kernel_rfl, by kernel_rfl, fun _ _ _ h => h, Or.inl ⟨by rfl, ?_⟩, hHeld, ?_⟩; rotate_left 1; (first | (intro w9 h9; (with_reducible show (execOp _ (Oper.mk _ (Op.load _ _) _ _ _ _)).run _ _ = _); (first | (exact KnS.ld h9 _ _ rfl _ _ rfl _ _ (by repeat (first | apply In.a | apply In.b)) (by decide +kernel) _ (by simp only [List.getElem?_toArray, List.getElem?_cons_succ, List.getElem?_cons_zero]; first | done | exact rfl)) | (exact KnS.lcT h9 _ _ rfl rfl (by decide +kernel) _ (by repeat (first | apply InR.a | apply InR.b)) _ (by first | done | exact rfl)) | (exact KnS.la h9 _ _ rfl _ _ rfl _ _ (by repeat (first | apply In.a | apply In.b)) (by kernel_rfl) _ (by rfl) (by kernel_rfl) (by simp) _ (by simp only [List.toList_toArray, List.drop_succ_cons, List.drop_zero, List.size_toArray, List.length_cons, List.length_nil, Nat.reduceAdd, List.take_succ_cons, List.take_zero]; first | done | exact rfl)) | (exact KnS.lr h9 _ _ rfl rfl _ (by repeat (first | apply InR.a | apply InR.b)) (by kernel_rfl) (by kernel_rfl) _ (by first | done | exact rfl)))) | focus (intro w9 hSw; go_simp; (try (with_reducible rfl)); done))); try simp only [Act.put, List.setIfInBounds_toArray, List.set_cons_zero, List.set_cons_succ])
        refine wpAnyH_done (by kernel_rfl) ?_ _
        refine NoPanic.normal ?_
        go_wp2_with (first | go_skip | ((with_reducible show wpList _ _ _ _ _ (World.alloc _ _)); refine wpList_up hm ?_; clear hm; intro n w hn hn2 hk hm hd hd2 ho; (try rw [← hn]); replace hn := Nat.le_of_eq hn.symm) | ((first | ((with_reducible show wpList _ _ _ (Oper.mk _ (Op.box _ _) _ _ _ _ :: _) _ _); (refine wpList_bx (by rfl) _ _ rfl _ (by simp only [Act.eval, Array.getD_eq_getD_getElem?, List.getElem?_toArray, List.getElem?_cons_succ, List.getElem?_cons_zero, Option.getD_some]; first | done | exact rfl) _ (by simp only [Value.cells]; first | done | exact rfl) hm ?_; clear hm; intro n w hn hz hm ho; (try simp only [List.cons_append, List.nil_append] at hm))) | ((with_reducible show wpList _ _ _ (Oper.mk _ (Op.load _ _) _ _ _ _ :: _) _ _); first | (refine wpList_ldS (by rfl) _ _ rfl _ _ rfl hm _ _ (by repeat (first | apply In.a | apply In.b)) (by decide +kernel) _ (by simp only [List.getElem?_toArray, List.getElem?_cons_succ, List.getElem?_cons_zero]; first | done | exact rfl) ?_) | (refine wpList_laS (by rfl) _ _ rfl _ _ rfl hm _ _ (by repeat (first | apply In.a | apply In.b)) (by kernel_rfl) _ (by rfl) (by kernel_rfl) (by simp) _ (by simp only [List.toList_toArray, List.drop_succ_cons, List.drop_zero, List.size_toArray, List.length_cons, List.length_nil, Nat.reduceAdd, List.take_succ_cons, List.take_zero]; first | done | exact rfl) ?_) | (refine wpList_lcRT (RK.out _ (HC.out.resync hm).low) (by rfl) _ _ rfl (by decide +kernel) _ _ rfl _ (by repeat (first | apply InR.a | apply InR.b)) ?_) | (refine wpList_lrR (RK.out _ (HC.out.resync hm).low) (by rfl) _ _ rfl _ _ rfl _ (by repeat (first | apply InR.a | apply InR.b)) (by kernel_rfl) (by kernel_rfl) ?_)) | ((with_reducible show wpList _ _ _ (Oper.mk _ (Op.store _ _ _) _ _ _ _ :: _) _ _); (refine wpList_stS (by rfl) _ _ _ rfl _ _ rfl _ (by simp only [Act.eval, Array.getD_eq_getD_getElem?, List.getElem?_toArray, List.getElem?_cons_succ, List.getElem?_cons_zero, Option.getD_some]; first | done | exact rfl) hm _ (by simp only [Value.cells]; first | done | exact rfl) _ _ _ _ (by repeat (first | apply Put.a | apply Put.b)) (by kernel_rfl) (by simp [Value.oneCell']) (by simp) (by simp only [List.set_cons_zero, List.set_cons_succ, spl, List.toList_toArray, List.size_toArray, List.length_cons, List.length_nil, Nat.reduceAdd, Nat.zero_add, List.take_succ_cons, List.take_zero, List.drop_succ_cons, List.drop_zero, List.drop_nil, List.cons_append, List.nil_append, List.append_nil]; first | done | exact rfl) ?_; clear hm; intro w hz hm ho)) | ((with_reducible show wpList _ _ _ (Oper.mk _ (Op.alloc _) _ _ _ _ :: _) _ _); (refine wpList_al (by rfl) _ rfl _ rfl _ (by simp only [Value.cells]; first | done | exact rfl) hm ?_; clear hm; intro n w hn hz hm ho; (try simp only [List.cons_append, List.nil_append] at hm)))); try simp only [Act.put, List.setIfInBounds_toArray, List.set_cons_zero, List.set_cons_succ]))
        go_at_call 17
        have hby := (HC.out.resync hm).oldO 1 rfl HX2.out
        refine (ch_seal _ g2 F4 s1 ((HC.out.resync hm).obj 1 rfl) HC1.out A5 rn rc rb hby.1 hby.2 (by omega) sw).mono ?_
        clear hby
        intro e w5 hres
        unfold SaRes at hres
        rw [HSA.out, HSE.out] at hres
        obtain ⟨A8, c8, rfl, hown, hch, hon⟩ := hres
        have hd8 : ∀ q, F4 q → ownAt A8 c8 ≠ some q := fun q hq e => by have h1 := (hown.lt q e).1; have h2 := (HC.out.resync hm).lt 1 rfl q hq; omega
        have hc2 := (HC.out.resync hm).turned 1 rfl hon (fun q hq => .inl hq) hch.sup hown hd8
        clear hown hch hon hd8
        clear HC hm
        simp only [List.nil_append, List.cons_append, List.set_cons_zero, List.set_cons_succ] at hc2
        have HC := Lib.hid hc2
        clear hc2
        have hm := HC.out.rebase
        dsimp only
        unfold rspV
        go_wp2_with (first | go_skip | ((with_reducible show wpList _ _ _ _ _ (World.alloc _ _)); refine wpList_up hm ?_; clear hm; intro n w hn hn2 hk hm hd hd2 ho; (try rw [← hn]); replace hn := Nat.le_of_eq hn.symm) | ((first | ((with_reducible show wpList _ _ _ (Oper.mk _ (Op.box _ _) _ _ _ _ :: _) _ _); (refine wpList_bx (by rfl) _ _ rfl _ (by simp only [Act.eval, Array.getD_eq_getD_getElem?, List.getElem?_toArray, List.getElem?_cons_succ, List.getElem?_cons_zero, Option.getD_some]; first | done | exact rfl) _ (by simp only [Value.cells]; first | done | exact rfl) hm ?_; clear hm; intro n w hn hz hm ho; (try simp only [List.cons_append, List.nil_append] at hm))) | ((with_reducible show wpList _ _ _ (Oper.mk _ (Op.load _ _) _ _ _ _ :: _) _ _); first | (refine wpList_ldS (by rfl) _ _ rfl _ _ rfl hm _ _ (by repeat (first | apply In.a | apply In.b)) (by decide +kernel) _ (by simp only [List.getElem?_toArray, List.getElem?_cons_succ, List.getElem?_cons_zero]; first | done | exact rfl) ?_) | (refine wpList_laS (by rfl) _ _ rfl _ _ rfl hm _ _ (by repeat (first | apply In.a | apply In.b)) (by kernel_rfl) _ (by rfl) (by kernel_rfl) (by simp) _ (by simp only [List.toList_toArray, List.drop_succ_cons, List.drop_zero, List.size_toArray, List.length_cons, List.length_nil, Nat.reduceAdd, List.take_succ_cons, List.take_zero]; first | done | exact rfl) ?_) | (refine wpList_lcRT (RK.out _ (HC.out.resync hm).low) (by rfl) _ _ rfl (by decide +kernel) _ _ rfl _ (by repeat (first | apply InR.a | apply InR.b)) ?_) | (refine wpList_lrR (RK.out _ (HC.out.resync hm).low) (by rfl) _ _ rfl _ _ rfl _ (by repeat (first | apply InR.a | apply InR.b)) (by kernel_rfl) (by kernel_rfl) ?_)) | ((with_reducible show wpList _ _ _ (Oper.mk _ (Op.store _ _ _) _ _ _ _ :: _) _ _); (refine wpList_stS (by rfl) _ _ _ rfl _ _ rfl _ (by simp only [Act.eval, Array.getD_eq_getD_getElem?, List.getElem?_toArray, List.getElem?_cons_succ, List.getElem?_cons_zero, Option.getD_some]; first | done | exact rfl) hm _ (by simp only [Value.cells]; first | done | exact rfl) _ _ _ _ (by repeat (first | apply Put.a | apply Put.b)) (by kernel_rfl) (by simp [Value.oneCell']) (by simp) (by simp only [List.set_cons_zero, List.set_cons_succ, spl, List.toList_toArray, List.size_toArray, List.length_cons, List.length_nil, Nat.reduceAdd, Nat.zero_add, List.take_succ_cons, List.take_zero, List.drop_succ_cons, List.drop_zero, List.drop_nil, List.cons_append, List.nil_append, List.append_nil]; first | done | exact rfl) ?_; clear hm; intro w hz hm ho)) | ((with_reducible show wpList _ _ _ (Oper.mk _ (Op.alloc _) _ _ _ _ :: _) _ _); (refine wpList_al (by rfl) _ rfl _ rfl _ (by simp only [Value.cells]; first | done | exact rfl) hm ?_; clear hm; intro n w hn hz hm ho; (try simp only [List.cons_append, List.nil_append] at hm)))); try simp only [Act.put, List.setIfInBounds_toArray, List.set_cons_zero, List.set_cons_succ]) | (go_at_call 10; refine (law24_awake _ (HG.out.below (HC.out.resync hm).low HP.out)).mono ?_; rintro e w9 ⟨rfl, hb9⟩; replace hm := hm.below hb9))
        go_ret
        exact ⟨rfl, (HC.out.resync hm).low⟩
      generalize hsp : Sec.sea s1 rb sw = r2 at *
      obtain ⟨s2, rr, sw2⟩ := r2
      obtain ⟨t1, t2, t3, t4, t5, t6, t7, t8, t9⟩ := Sec.answer q4 q6 q7 (by omega : rb.length ≤ 600) hsw hsp
      replace t2 := t2.symm
      subst t2
      have HSE := Lib.hid t1
      have HSA := Lib.hid hsp
      have HOE := Lib.hid t4
      have HOP := Lib.hid t5
      have HOK2 := Lib.hid t6
      have HT7 := Lib.hid t7
      have HT8 := Lib.hid t8
      have HT9 := Lib.hid t9
      generalize hrn2 : rr.length = rn2 at *
      have HRN2 := Lib.hid hrn2
      clear hkg hok hlv2 hsh hck hw hwp hyn q2 q3 q4 q5 q6 q7 q8 hsw hsp t1 t4 t5 t6 t7 t8 t9 hrn2
      go_wp2_with (first | go_skip | ((with_reducible show wpList _ _ _ _ _ (World.alloc _ _)); refine wpList_up hm ?_; clear hm; intro n w hn hn2 hk hm hd hd2 ho; (try rw [← hn]); replace hn := Nat.le_of_eq hn.symm) | ((first | ((with_reducible show wpList _ _ _ (Oper.mk _ (Op.box _ _) _ _ _ _ :: _) _ _); (refine wpList_bx (by rfl) _ _ rfl _ (by simp only [Act.eval, Array.getD_eq_getD_getElem?, List.getElem?_toArray, List.getElem?_cons_succ, List.getElem?_cons_zero, Option.getD_some]; first | done | exact rfl) _ (by simp only [Value.cells]; first | done | exact rfl) hm ?_; clear hm; intro n w hn hz hm ho; (try simp only [List.cons_append, List.nil_append] at hm))) | ((with_reducible show wpList _ _ _ (Oper.mk _ (Op.load _ _) _ _ _ _ :: _) _ _); first | (refine wpList_ldS (by rfl) _ _ rfl _ _ rfl hm _ _ (by repeat (first | apply In.a | apply In.b)) (by decide +kernel) _ (by simp only [List.getElem?_toArray, List.getElem?_cons_succ, List.getElem?_cons_zero]; first | done | exact rfl) ?_) | (refine wpList_laS (by rfl) _ _ rfl _ _ rfl hm _ _ (by repeat (first | apply In.a | apply In.b)) (by kernel_rfl) _ (by rfl) (by kernel_rfl) (by simp) _ (by simp only [List.toList_toArray, List.drop_succ_cons, List.drop_zero, List.size_toArray, List.length_cons, List.length_nil, Nat.reduceAdd, List.take_succ_cons, List.take_zero]; first | done | exact rfl) ?_) | (refine wpList_lcRT (RK.out _ (HC.out.resync hm).low) (by rfl) _ _ rfl (by decide +kernel) _ _ rfl _ (by repeat (first | apply InR.a | apply InR.b)) ?_) | (refine wpList_lrR (RK.out _ (HC.out.resync hm).low) (by rfl) _ _ rfl _ _ rfl _ (by repeat (first | apply InR.a | apply InR.b)) (by kernel_rfl) (by kernel_rfl) ?_)) | ((with_reducible show wpList _ _ _ (Oper.mk _ (Op.store _ _ _) _ _ _ _ :: _) _ _); (refine wpList_stS (by rfl) _ _ _ rfl _ _ rfl _ (by simp only [Act.eval, Array.getD_eq_getD_getElem?, List.getElem?_toArray, List.getElem?_cons_succ, List.getElem?_cons_zero, Option.getD_some]; first | done | exact rfl) hm _ (by simp only [Value.cells]; first | done | exact rfl) _ _ _ _ (by repeat (first | apply Put.a | apply Put.b)) (by kernel_rfl) (by simp [Value.oneCell']) (by simp) (by simp only [List.set_cons_zero, List.set_cons_succ, spl, List.toList_toArray, List.size_toArray, List.length_cons, List.length_nil, Nat.reduceAdd, Nat.zero_add, List.take_succ_cons, List.take_zero, List.drop_succ_cons, List.drop_zero, List.drop_nil, List.cons_append, List.nil_append, List.append_nil]; first | done | exact rfl) ?_; clear hm; intro w hz hm ho)) | ((with_reducible show wpList _ _ _ (Oper.mk _ (Op.alloc _) _ _ _ _ :: _) _ _); (refine wpList_al (by rfl) _ rfl _ rfl _ (by simp only [Value.cells]; first | done | exact rfl) hm ?_; clear hm; intro n w hn hz hm ho; (try simp only [List.cons_append, List.nil_append] at hm)))); try simp only [Act.put, List.setIfInBounds_toArray, List.set_cons_zero, List.set_cons_succ]))
      go_at_call 9
      have hby := (HC.out.resync hm).oldO 0 rfl HX1.out
      refine (ch_wrap _ g1 F1 s ((HC.out.resync hm).obj 0 rfl) HCN.out cla ins p1 p2 A4 dn dc b hby.1 hby.2 (by omega) le long).mono ?_
      clear hby
      intro e w3 hres
      unfold WrRes at hres
      rw [HWP.out, HER.out] at hres
      obtain ⟨A6, c6, F3, rfl, hown, hch, hon, hF, hd6⟩ := hres
      dsimp only at hown hch
      rw [HYN.out] at hown
      have hc2 := (HC.out.resync hm).turned 0 rfl hon hF hch.sup hown hd6
      clear hown hch hon hF hd6
      clear HC hm
      simp only [List.nil_append, List.cons_append, List.set_cons_zero, List.set_cons_succ] at hc2
      have HC := Lib.hid hc2
      clear hc2
      have hm := HC.out.rebase
      dsimp only
      rw [HYN.out]
      unfold cmdV
      go_wp2_with (first | go_skip | ((with_reducible show wpList _ _ _ _ _ (World.alloc _ _)); refine wpList_up hm ?_; clear hm; intro n w hn hn2 hk hm hd hd2 ho; (try rw [← hn]); replace hn := Nat.le_of_eq hn.symm) | ((first | ((with_reducible show wpList _ _ _ (Oper.mk _ (Op.box _ _) _ _ _ _ :: _) _ _); (refine wpList_bx (by rfl) _ _ rfl _ (by simp only [Act.eval, Array.getD_eq_getD_getElem?, List.getElem?_toArray, List.getElem?_cons_succ, List.getElem?_cons_zero, Option.getD_some]; first | done | exact rfl) _ (by simp only [Value.cells]; first | done | exact rfl) hm ?_; clear hm; intro n w hn hz hm ho; (try simp only [List.cons_append, List.nil_append] at hm))) | ((with_reducible show wpList _ _ _ (Oper.mk _ (Op.load _ _) _ _ _ _ :: _) _ _); first | (refine wpList_ldS (by rfl) _ _ rfl _ _ rfl hm _ _ (by repeat (first | apply In.a | apply In.b)) (by decide +kernel) _ (by simp only [List.getElem?_toArray, List.getElem?_cons_succ, List.getElem?_cons_zero]; first | done | exact rfl) ?_) | (refine wpList_laS (by rfl) _ _ rfl _ _ rfl hm _ _ (by repeat (first | apply In.a | apply In.b)) (by kernel_rfl) _ (by rfl) (by kernel_rfl) (by simp) _ (by simp only [List.toList_toArray, List.drop_succ_cons, List.drop_zero, List.size_toArray, List.length_cons, List.length_nil, Nat.reduceAdd, List.take_succ_cons, List.take_zero]; first | done | exact rfl) ?_) | (refine wpList_lcRT (RK.out _ (HC.out.resync hm).low) (by rfl) _ _ rfl (by decide +kernel) _ _ rfl _ (by repeat (first | apply InR.a | apply InR.b)) ?_) | (refine wpList_lrR (RK.out _ (HC.out.resync hm).low) (by rfl) _ _ rfl _ _ rfl _ (by repeat (first | apply InR.a | apply InR.b)) (by kernel_rfl) (by kernel_rfl) ?_)) | ((with_reducible show wpList _ _ _ (Oper.mk _ (Op.store _ _ _) _ _ _ _ :: _) _ _); (refine wpList_stS (by rfl) _ _ _ rfl _ _ rfl _ (by simp only [Act.eval, Array.getD_eq_getD_getElem?, List.getElem?_toArray, List.getElem?_cons_succ, List.getElem?_cons_zero, Option.getD_some]; first | done | exact rfl) hm _ (by simp only [Value.cells]; first | done | exact rfl) _ _ _ _ (by repeat (first | apply Put.a | apply Put.b)) (by kernel_rfl) (by simp [Value.oneCell']) (by simp) (by simp only [List.set_cons_zero, List.set_cons_succ, spl, List.toList_toArray, List.size_toArray, List.length_cons, List.length_nil, Nat.reduceAdd, Nat.zero_add, List.take_succ_cons, List.take_zero, List.drop_succ_cons, List.drop_zero, List.drop_nil, List.cons_append, List.nil_append, List.append_nil]; first | done | exact rfl) ?_; clear hm; intro w hz hm ho)) | ((with_reducible show wpList _ _ _ (Oper.mk _ (Op.alloc _) _ _ _ _ :: _) _ _); (refine wpList_al (by rfl) _ rfl _ rfl _ (by simp only [Value.cells]; first | done | exact rfl) hm ?_; clear hm; intro n w hn hz hm ho; (try simp only [List.cons_append, List.nil_append] at hm)))); try simp only [Act.put, List.setIfInBounds_toArray, List.set_cons_zero, List.set_cons_succ]))
      go_at_call 13
      have hby := (HC.out.resync hm).bytO 0 1 rfl rfl
      refine (ch_unwrap _ g2 F2 s ((HC.out.resync hm).obj 1 rfl) (HG.out.below (HC.out.resync hm).low HP.out) (fun h => by have := (HC.out.resync hm).lo 1 rfl 0 h; have := HP.out; omega) HCN.out y0 y1 y2 y3 A6 yn c6 yd hby.1 hby.2 (by omega) yle ylong).mono ?_
      clear hby
      intro e w4 hres
      unfold UnRes at hres
      rw [HQ3.out, HQ2.out] at hres
      obtain ⟨A7, c7, F4, rfl, hown, hch, hon, hF, hd7⟩ := hres
      dsimp only at hown hch
      rw [HX1.out.1] at hown
      have hc2 := (HC.out.resync hm).turned 1 rfl hon hF hch.sup hown hd7
      clear hown hch hon hF hd7
      clear HC hm
      simp only [List.nil_append, List.cons_append, List.set_cons_zero, List.set_cons_succ] at hc2
      have HC := Lib.hid hc2
      clear hc2
      have hm := HC.out.rebase
      dsimp only
      rw [HX1.out.1]
      unfold cmdV
      go_wp2_with (first | go_skip | ((with_reducible show wpList _ _ _ _ _ (World.alloc _ _)); refine wpList_up hm ?_; clear hm; intro n w hn hn2 hk hm hd hd2 ho; (try rw [← hn]); replace hn := Nat.le_of_eq hn.symm) | ((first | ((with_reducible show wpList _ _ _ (Oper.mk _ (Op.box _ _) _ _ _ _ :: _) _ _); (refine wpList_bx (by rfl) _ _ rfl _ (by simp only [Act.eval, Array.getD_eq_getD_getElem?, List.getElem?_toArray, List.getElem?_cons_succ, List.getElem?_cons_zero, Option.getD_some]; first | done | exact rfl) _ (by simp only [Value.cells]; first | done | exact rfl) hm ?_; clear hm; intro n w hn hz hm ho; (try simp only [List.cons_append, List.nil_append] at hm))) | ((with_reducible show wpList _ _ _ (Oper.mk _ (Op.load _ _) _ _ _ _ :: _) _ _); first | (refine wpList_ldS (by rfl) _ _ rfl _ _ rfl hm _ _ (by repeat (first | apply In.a | apply In.b)) (by decide +kernel) _ (by simp only [List.getElem?_toArray, List.getElem?_cons_succ, List.getElem?_cons_zero]; first | done | exact rfl) ?_) | (refine wpList_laS (by rfl) _ _ rfl _ _ rfl hm _ _ (by repeat (first | apply In.a | apply In.b)) (by kernel_rfl) _ (by rfl) (by kernel_rfl) (by simp) _ (by simp only [List.toList_toArray, List.drop_succ_cons, List.drop_zero, List.size_toArray, List.length_cons, List.length_nil, Nat.reduceAdd, List.take_succ_cons, List.take_zero]; first | done | exact rfl) ?_) | (refine wpList_lcRT (RK.out _ (HC.out.resync hm).low) (by rfl) _ _ rfl (by decide +kernel) _ _ rfl _ (by repeat (first | apply InR.a | apply InR.b)) ?_) | (refine wpList_lrR (RK.out _ (HC.out.resync hm).low) (by rfl) _ _ rfl _ _ rfl _ (by repeat (first | apply InR.a | apply InR.b)) (by kernel_rfl) (by kernel_rfl) ?_)) | ((with_reducible show wpList _ _ _ (Oper.mk _ (Op.store _ _ _) _ _ _ _ :: _) _ _); (refine wpList_stS (by rfl) _ _ _ rfl _ _ rfl _ (by simp only [Act.eval, Array.getD_eq_getD_getElem?, List.getElem?_toArray, List.getElem?_cons_succ, List.getElem?_cons_zero, Option.getD_some]; first | done | exact rfl) hm _ (by simp only [Value.cells]; first | done | exact rfl) _ _ _ _ (by repeat (first | apply Put.a | apply Put.b)) (by kernel_rfl) (by simp [Value.oneCell']) (by simp) (by simp only [List.set_cons_zero, List.set_cons_succ, spl, List.toList_toArray, List.size_toArray, List.length_cons, List.length_nil, Nat.reduceAdd, Nat.zero_add, List.take_succ_cons, List.take_zero, List.drop_succ_cons, List.drop_zero, List.drop_nil, List.cons_append, List.nil_append, List.append_nil]; first | done | exact rfl) ?_; clear hm; intro w hz hm ho)) | ((with_reducible show wpList _ _ _ (Oper.mk _ (Op.alloc _) _ _ _ _ :: _) _ _); (refine wpList_al (by rfl) _ rfl _ rfl _ (by simp only [Value.cells]; first | done | exact rfl) hm ?_; clear hm; intro n w hn hz hm ho; (try simp only [List.cons_append, List.nil_append] at hm)))); try simp only [Act.put, List.setIfInBounds_toArray, List.set_cons_zero, List.set_cons_succ]))
      have hc2 := HC.out.resync hm
      clear HC hm
      simp only [List.nil_append, List.cons_append, List.set_cons_zero, List.set_cons_succ] at hc2
      have HC := Lib.hid hc2
      clear hc2
      have hm := HC.out.rebase
      refine wp_region_noPanic ?_
      refine wp_region_held_drew (S := KnS _ _) (by kernel_rfl) (KnS.of hm.drew (RK.out _ (HC.out.resync hm.drew).low)) (fun hHeld => ?_)
      refine wpAnyH_fresh (by repeat (first | apply Fresh.a | apply Fresh.b)) ?_
      replace hm := hm.drew
      iterate 8 (first | (refine wpAnyH_take3 (b := 0) (by repeat (first | apply Seek.a | apply Seek.b | apply Seek.c)) (by simp only [List.getElem?_toArray, List.getElem?_cons_succ, List.getElem?_cons_zero]; first | done | exact rfl) ⟨undef, by kernel_rfl, by kernel_rfl, by kernel_rfl, fun _ _ _ h => h, Or.inr ⟨by rfl, rfl⟩, hHeld, ?_⟩) | (refine wpAnyH_take3 (b := 0) (by repeat (first | apply Seek.a | apply Seek.b | apply Seek.c)) (by simp only [List.getElem?_toArray, List.getElem?_cons_succ, List.getElem?_cons_zero]; first | done | exact rfl) ⟨?_, by kernel_rfl, by kernel_rfl, by kernel_rfl, fun _ _ _ h => h, Or.inl ⟨by rfl, ?_⟩, hHeld, ?_⟩; rotate_left 1; (first | (intro w9 h9; (with_reducible show (execOp _ (Oper.mk _ (Op.load _ _) _ _ _ _)).run _ _ = _); (first | (exact KnS.ld h9 _ _ rfl _ _ rfl _ _ (by repeat (first | apply In.a | apply In.b)) (by decide +kernel) _ (by simp only [List.getElem?_toArray, List.getElem?_cons_succ, List.getElem?_cons_zero]; first | done | exact rfl)) | (exact KnS.lcT h9 _ _ rfl rfl (by decide +kernel) _ (by repeat (first | apply InR.a | apply InR.b)) _ (by first | done | exact rfl)) | (exact KnS.la h9 _ _ rfl _ _ rfl _ _ (by repeat (first | apply In.a | apply In.b)) (by kernel_rfl) _ (by rfl) (by kernel_rfl) (by simp) _ (by simp only [List.toList_toArray, List.drop_succ_cons, List.drop_zero, List.size_toArray, List.length_cons, List.length_nil, Nat.reduceAdd, List.take_succ_cons, List.take_zero]; first | done | exact rfl)) | (exact KnS.lr h9 _ _ rfl rfl _ (by repeat (first | apply InR.a | apply InR.b)) (by kernel_rfl) (by kernel_rfl) _ (by first | done | exact rfl)))) | focus (intro w9 hSw; go_simp; (try (with_reducible rfl)); done))); try simp only [Act.put, List.setIfInBounds_toArray, List.set_cons_zero, List.set_cons_succ])
      refine wpAnyH_take3 (b := 8) (by repeat (first | apply Seek.a | apply Seek.b | apply Seek.c)) (by simp only [List.getElem?_toArray, List.getElem?_cons_succ, List.getElem?_cons_zero]; first | done | exact rfl) ⟨?_, by kernel_rfl, by kernel_rfl, by kernel_rfl, fun _ _ _ h => h, Or.inl ⟨by rfl, ?_⟩, hHeld, ?_⟩
      rotate_left 1
      · intro w9 h9
        exact KnS.lr h9 _ _ rfl rfl _ (by repeat (first | apply InR.a | apply InR.b)) (by kernel_rfl) (by kernel_rfl) _ (by first | done | exact rfl)
      try simp only [Act.put, List.setIfInBounds_toArray, List.set_cons_zero, List.set_cons_succ]
      refine wpAnyH_ready (rs := [9]) (by kernel_rfl) (by simp) ?_
      refine AllReadyH.cons2 (by simp only [List.getElem?_toArray, List.getElem?_cons_succ, List.getElem?_cons_zero]; first | done | exact rfl) (fun K hK => ?_)
      rw [if_pos (by rfl)]
      go_simp
      refine (law_alike cla ins p1 p2 A7 A4 dn c7 dn dc b le ylong long _ ((HC.out.resync hm).byt 1 rfl) ((HC.out.resync hm).old HX1.out) (by omega)).mono ?_
      rintro e w9 ⟨rfl, hb9⟩
      replace hm := hm.below hb9
      go_simp
      refine hK.out _ _ (KnS.of hm (RK.out _ (HC.out.resync hm).low)) (fun hHeld => ?_)
      clear hK K
      try simp only [Act.put, List.setIfInBounds_toArray, List.set_cons_zero, List.set_cons_succ]
      iterate 4 (first | (refine wpAnyH_take3 (b := 10) (by repeat (first | apply Seek.a | apply Seek.b | apply Seek.c)) (by simp only [List.getElem?_toArray, List.getElem?_cons_succ, List.getElem?_cons_zero]; first | done | exact rfl) ⟨undef, by kernel_rfl, by kernel_rfl, by kernel_rfl, fun _ _ _ h => h, Or.inr ⟨by rfl, rfl⟩, hHeld, ?_⟩) | (refine wpAnyH_take3 (b := 10) (by repeat (first | apply Seek.a | apply Seek.b | apply Seek.c)) (by simp only [List.getElem?_toArray, List.getElem?_cons_succ, List.getElem?_cons_zero]; first | done | exact rfl) ⟨?_, by kernel_rfl, by kernel_rfl, by kernel_rfl, fun _ _ _ h => h, Or.inl ⟨by rfl, ?_⟩, hHeld, ?_⟩; rotate_left 1; (first | (intro w9 h9; (with_reducible show (execOp _ (Oper.mk _ (Op.load _ _) _ _ _ _)).run _ _ = _); (first | (exact KnS.ld h9 _ _ rfl _ _ rfl _ _ (by repeat (first | apply In.a | apply In.b)) (by decide +kernel) _ (by simp only [List.getElem?_toArray, List.getElem?_cons_succ, List.getElem?_cons_zero]; first | done | exact rfl)) | (exact KnS.lcT h9 _ _ rfl rfl (by decide +kernel) _ (by repeat (first | apply InR.a | apply InR.b)) _ (by first | done | exact rfl)) | (exact KnS.la h9 _ _ rfl _ _ rfl _ _ (by repeat (first | apply In.a | apply In.b)) (by kernel_rfl) _ (by rfl) (by kernel_rfl) (by simp) _ (by simp only [List.toList_toArray, List.drop_succ_cons, List.drop_zero, List.size_toArray, List.length_cons, List.length_nil, Nat.reduceAdd, List.take_succ_cons, List.take_zero]; first | done | exact rfl)) | (exact KnS.lr h9 _ _ rfl rfl _ (by repeat (first | apply InR.a | apply InR.b)) (by kernel_rfl) (by kernel_rfl) _ (by first | done | exact rfl)))) | focus (intro w9 hSw; go_simp; (try (with_reducible rfl)); done))); try simp only [Act.put, List.setIfInBounds_toArray, List.set_cons_zero, List.set_cons_succ])
      iterate 1 (first | (refine wpAnyH_take3 (b := 15) (by repeat (first | apply Seek.a | apply Seek.b | apply Seek.c)) (by simp only [List.getElem?_toArray, List.getElem?_cons_succ, List.getElem?_cons_zero]; first | done | exact rfl) ⟨undef, by kernel_rfl, by kernel_rfl, by kernel_rfl, fun _ _ _ h => h, Or.inr ⟨by rfl, rfl⟩, hHeld, ?_⟩) | (refine wpAnyH_take3 (b := 15) (by repeat (first | apply Seek.a | apply Seek.b | apply Seek.c)) (by simp only [List.getElem?_toArray, List.getElem?_cons_succ, List.getElem?_cons_zero]; first | done | exact rfl) ⟨?_, by kernel_rfl, by kernel_rfl, by kernel_rfl, fun _ _ _ h => h, Or.inl ⟨by rfl, ?_⟩, hHeld, ?_⟩; rotate_left 1; (first | (intro w9 h9; (with_reducible show (execOp _ (Oper.mk _ (Op.load _ _) _ _ _ _)).run _ _ = _); (first | (exact KnS.ld h9 _ _ rfl _ _ rfl _ _ (by repeat (first | apply In.a | apply In.b)) (by decide +kernel) _ (by simp only [List.getElem?_toArray, List.getElem?_cons_succ, List.getElem?_cons_zero]; first | done | exact rfl)) | (exact KnS.lcT h9 _ _ rfl rfl (by decide +kernel) _ (by repeat (first | apply InR.a | apply InR.b)) _ (by first | done | exact rfl)) | (exact KnS.la h9 _ _ rfl _ _ rfl _ _ (by repeat (first | apply In.a | apply In.b)) (by kernel_rfl) _ (by rfl) (by kernel_rfl) (by simp) _ (by simp only [List.toList_toArray, List.drop_succ_cons, List.drop_zero, List.size_toArray, List.length_cons, List.length_nil, Nat.reduceAdd, List.take_succ_cons, List.take_zero]; first | done | exact rfl)) | (exact KnS.lr h9 _ _ rfl rfl _ (by repeat (first | apply InR.a | apply InR.b)) (by kernel_rfl) (by kernel_rfl) _ (by first | done | exact rfl)))) | focus (intro w9 hSw; go_simp; (try (with_reducible rfl)); done))); try simp only [Act.put, List.setIfInBounds_toArray, List.set_cons_zero, List.set_cons_succ])
      refine wpAnyH_ready (rs := [14]) (by kernel_rfl) (by simp) ?_
      refine AllReadyH.cons2 (by simp only [List.getElem?_toArray, List.getElem?_cons_succ, List.getElem?_cons_zero]; first | done | exact rfl) (fun K hK => ?_)
      rw [if_pos (by rfl)]
      go_simp
      have hcc := ch_count _ g1 F3 s1 ((HC.out.resync hm).obj 0 rfl)
      rw [HCE.out] at hcc
      refine hcc.mono ?_
      clear hcc
      rintro e w9 ⟨rfl, rfl⟩
      go_simp
      refine hK.out _ _ (KnS.of hm (RK.out _ (HC.out.resync hm).low)) (fun hHeld => ?_)
      clear hK K
      try simp only [Act.put, List.setIfInBounds_toArray, List.set_cons_zero, List.set_cons_succ]
      iterate 4 (first | (refine wpAnyH_take3 (b := 16) (by repeat (first | apply Seek.a | apply Seek.b | apply Seek.c)) (by simp only [List.getElem?_toArray, List.getElem?_cons_succ, List.getElem?_cons_zero]; first | done | exact rfl) ⟨undef, by kernel_rfl, by kernel_rfl, by kernel_rfl, fun _ _ _ h => h, Or.inr ⟨by rfl, rfl⟩, hHeld, ?_⟩) | (refine wpAnyH_take3 (b := 16) (by repeat (first | apply Seek.a | apply Seek.b | apply Seek.c)) (by simp only [List.getElem?_toArray, List.getElem?_cons_succ, List.getElem?_cons_zero]; first | done | exact rfl) ⟨?_, by kernel_rfl, by kernel_rfl, by kernel_rfl, fun _ _ _ h => h, Or.inl ⟨by rfl, ?_⟩, hHeld, ?_⟩; rotate_left 1; (first | (intro w9 h9; (with_reducible show (execOp _ (Oper.mk _ (Op.load _ _) _ _ _ _)).run _ _ = _); (first | (exact KnS.ld h9 _ _ rfl _ _ rfl _ _ (by repeat (first | apply In.a | apply In.b)) (by decide +kernel) _ (by simp only [List.getElem?_toArray, List.getElem?_cons_succ, List.getElem?_cons_zero]; first | done | exact rfl)) | (exact KnS.lcT h9 _ _ rfl rfl (by decide +kernel) _ (by repeat (first | apply InR.a | apply InR.b)) _ (by first | done | exact rfl)) | (exact KnS.la h9 _ _ rfl _ _ rfl _ _ (by repeat (first | apply In.a | apply In.b)) (by kernel_rfl) _ (by rfl) (by kernel_rfl) (by simp) _ (by simp only [List.toList_toArray, List.drop_succ_cons, List.drop_zero, List.size_toArray, List.length_cons, List.length_nil, Nat.reduceAdd, List.take_succ_cons, List.take_zero]; first | done | exact rfl)) | (exact KnS.lr h9 _ _ rfl rfl _ (by repeat (first | apply InR.a | apply InR.b)) (by kernel_rfl) (by kernel_rfl) _ (by first | done | exact rfl)))) | focus (intro w9 hSw; go_simp; (try (with_reducible rfl)); done))); try simp only [Act.put, List.setIfInBounds_toArray, List.set_cons_zero, List.set_cons_succ])
      iterate 1 (first | (refine wpAnyH_take3 (b := 21) (by repeat (first | apply Seek.a | apply Seek.b | apply Seek.c)) (by simp only [List.getElem?_toArray, List.getElem?_cons_succ, List.getElem?_cons_zero]; first | done | exact rfl) ⟨undef, by kernel_rfl, by kernel_rfl, by kernel_rfl, fun _ _ _ h => h, Or.inr ⟨by rfl, rfl⟩, hHeld, ?_⟩) | (refine wpAnyH_take3 (b := 21) (by repeat (first | apply Seek.a | apply Seek.b | apply Seek.c)) (by simp only [List.getElem?_toArray, List.getElem?_cons_succ, List.getElem?_cons_zero]; first | done | exact rfl) ⟨?_, by kernel_rfl, by kernel_rfl, by kernel_rfl, fun _ _ _ h => h, Or.inl ⟨by rfl, ?_⟩, hHeld, ?_⟩; rotate_left 1; (first | (intro w9 h9; (with_reducible show (execOp _ (Oper.mk _ (Op.load _ _) _ _ _ _)).run _ _ = _); (first | (exact KnS.ld h9 _ _ rfl _ _ rfl _ _ (by repeat (first | apply In.a | apply In.b)) (by decide +kernel) _ (by simp only [List.getElem?_toArray, List.getElem?_cons_succ, List.getElem?_cons_zero]; first | done | exact rfl)) | (exact KnS.lcT h9 _ _ rfl rfl (by decide +kernel) _ (by repeat (first | apply InR.a | apply InR.b)) _ (by first | done | exact rfl)) | (exact KnS.la h9 _ _ rfl _ _ rfl _ _ (by repeat (first | apply In.a | apply In.b)) (by kernel_rfl) _ (by rfl) (by kernel_rfl) (by simp) _ (by simp only [List.toList_toArray, List.drop_succ_cons, List.drop_zero, List.size_toArray, List.length_cons, List.length_nil, Nat.reduceAdd, List.take_succ_cons, List.take_zero]; first | done | exact rfl)) | (exact KnS.lr h9 _ _ rfl rfl _ (by repeat (first | apply InR.a | apply InR.b)) (by kernel_rfl) (by kernel_rfl) _ (by first | done | exact rfl)))) | focus (intro w9 hSw; go_simp; (try (with_reducible rfl)); done))); try simp only [Act.put, List.setIfInBounds_toArray, List.set_cons_zero, List.set_cons_succ])
      refine wpAnyH_ready (rs := [20]) (by kernel_rfl) (by simp) ?_
      refine AllReadyH.cons2 (by simp only [List.getElem?_toArray, List.getElem?_cons_succ, List.getElem?_cons_zero]; first | done | exact rfl) (fun K hK => ?_)
      rw [if_pos (by rfl)]
      go_simp
      have hcc := ch_count _ g2 F4 s1 ((HC.out.resync hm).obj 1 rfl)
      rw [HCE.out] at hcc
      refine hcc.mono ?_
      clear hcc
      rintro e w9 ⟨rfl, rfl⟩
      go_simp
      refine hK.out _ _ (KnS.of hm (RK.out _ (HC.out.resync hm).low)) (fun hHeld => ?_)
      clear hK K
      try simp only [Act.put, List.setIfInBounds_toArray, List.set_cons_zero, List.set_cons_succ]
      iterate 2 (first | (refine wpAnyH_take3 (b := 22) (by repeat (first | apply Seek.a | apply Seek.b | apply Seek.c)) (by simp only [List.getElem?_toArray, List.getElem?_cons_succ, List.getElem?_cons_zero]; first | done | exact rfl) ⟨undef, by kernel_rfl, by kernel_rfl, by kernel_rfl, fun _ _ _ h => h, Or.inr ⟨by rfl, rfl⟩, hHeld, ?_⟩) | (refine wpAnyH_take3 (b := 22) (by repeat (first | apply Seek.a | apply Seek.b | apply Seek.c)) (by simp only [List.getElem?_toArray, List.getElem?_cons_succ, List.getElem?_cons_zero]; first | done | exact rfl) ⟨?_, by kernel_rfl, by kernel_rfl, by kernel_rfl, fun _ _ _ h => h, Or.inl ⟨by rfl, ?_⟩, hHeld, ?_⟩; rotate_left 1; (first | (intro w9 h9; (with_reducible show (execOp _ (Oper.mk _ (Op.load _ _) _ _ _ _)).run _ _ = _); (first | (exact KnS.ld h9 _ _ rfl _ _ rfl _ _ (by repeat (first | apply In.a | apply In.b)) (by decide +kernel) _ (by simp only [List.getElem?_toArray, List.getElem?_cons_succ, List.getElem?_cons_zero]; first | done | exact rfl)) | (exact KnS.lcT h9 _ _ rfl rfl (by decide +kernel) _ (by repeat (first | apply InR.a | apply InR.b)) _ (by first | done | exact rfl)) | (exact KnS.la h9 _ _ rfl _ _ rfl _ _ (by repeat (first | apply In.a | apply In.b)) (by kernel_rfl) _ (by rfl) (by kernel_rfl) (by simp) _ (by simp only [List.toList_toArray, List.drop_succ_cons, List.drop_zero, List.size_toArray, List.length_cons, List.length_nil, Nat.reduceAdd, List.take_succ_cons, List.take_zero]; first | done | exact rfl)) | (exact KnS.lr h9 _ _ rfl rfl _ (by repeat (first | apply InR.a | apply InR.b)) (by kernel_rfl) (by kernel_rfl) _ (by first | done | exact rfl)))) | focus (intro w9 hSw; go_simp; (try (with_reducible rfl)); done))); try simp only [Act.put, List.setIfInBounds_toArray, List.set_cons_zero, List.set_cons_succ])
      refine wpAnyH_done (by kernel_rfl) ?_ _
      refine NoPanic.normal ?_
      go_wp2_with (first | go_skip | ((with_reducible show wpList _ _ _ _ _ (World.alloc _ _)); refine wpList_up hm ?_; clear hm; intro n w hn hn2 hk hm hd hd2 ho; (try rw [← hn]); replace hn := Nat.le_of_eq hn.symm) | ((first | ((with_reducible show wpList _ _ _ (Oper.mk _ (Op.box _ _) _ _ _ _ :: _) _ _); (refine wpList_bx (by rfl) _ _ rfl _ (by simp only [Act.eval, Array.getD_eq_getD_getElem?, List.getElem?_toArray, List.getElem?_cons_succ, List.getElem?_cons_zero, Option.getD_some]; first | done | exact rfl) _ (by simp only [Value.cells]; first | done | exact rfl) hm ?_; clear hm; intro n w hn hz hm ho; (try simp only [List.cons_append, List.nil_append] at hm))) | ((with_reducible show wpList _ _ _ (Oper.mk _ (Op.load _ _) _ _ _ _ :: _) _ _); first | (refine wpList_ldS (by rfl) _ _ rfl _ _ rfl hm _ _ (by repeat (first | apply In.a | apply In.b)) (by decide +kernel) _ (by simp only [List.getElem?_toArray, List.getElem?_cons_succ, List.getElem?_cons_zero]; first | done | exact rfl) ?_) | (refine wpList_laS (by rfl) _ _ rfl _ _ rfl hm _ _ (by repeat (first | apply In.a | apply In.b)) (by kernel_rfl) _ (by rfl) (by kernel_rfl) (by simp) _ (by simp only [List.toList_toArray, List.drop_succ_cons, List.drop_zero, List.size_toArray, List.length_cons, List.length_nil, Nat.reduceAdd, List.take_succ_cons, List.take_zero]; first | done | exact rfl) ?_) | (refine wpList_lcRT (RK.out _ (HC.out.resync hm).low) (by rfl) _ _ rfl (by decide +kernel) _ _ rfl _ (by repeat (first | apply InR.a | apply InR.b)) ?_) | (refine wpList_lrR (RK.out _ (HC.out.resync hm).low) (by rfl) _ _ rfl _ _ rfl _ (by repeat (first | apply InR.a | apply InR.b)) (by kernel_rfl) (by kernel_rfl) ?_)) | ((with_reducible show wpList _ _ _ (Oper.mk _ (Op.store _ _ _) _ _ _ _ :: _) _ _); (refine wpList_stS (by rfl) _ _ _ rfl _ _ rfl _ (by simp only [Act.eval, Array.getD_eq_getD_getElem?, List.getElem?_toArray, List.getElem?_cons_succ, List.getElem?_cons_zero, Option.getD_some]; first | done | exact rfl) hm _ (by simp only [Value.cells]; first | done | exact rfl) _ _ _ _ (by repeat (first | apply Put.a | apply Put.b)) (by kernel_rfl) (by simp [Value.oneCell']) (by simp) (by simp only [List.set_cons_zero, List.set_cons_succ, spl, List.toList_toArray, List.size_toArray, List.length_cons, List.length_nil, Nat.reduceAdd, Nat.zero_add, List.take_succ_cons, List.take_zero, List.drop_succ_cons, List.drop_zero, List.drop_nil, List.cons_append, List.nil_append, List.append_nil]; first | done | exact rfl) ?_; clear hm; intro w hz hm ho)) | ((with_reducible show wpList _ _ _ (Oper.mk _ (Op.alloc _) _ _ _ _ :: _) _ _); (refine wpList_al (by rfl) _ rfl _ rfl _ (by simp only [Value.cells]; first | done | exact rfl) hm ?_; clear hm; intro n w hn hz hm ho; (try simp only [List.cons_append, List.nil_append] at hm)))); try simp only [Act.put, List.setIfInBounds_toArray, List.set_cons_zero, List.set_cons_succ]))
      go_at_call 17
      have hby := (HC.out.resync hm).oldO 1 rfl HX2.out
      refine (ch_seal _ g2 F4 s1 ((HC.out.resync hm).obj 1 rfl) HC1.out A5 rn rc rb hby.1 hby.2 (by omega) sw).mono ?_
      clear hby
      intro e w5 hres
      unfold SaRes at hres
      rw [HSA.out, HSE.out] at hres
      obtain ⟨A8, c8, rfl, hown, hch, hon⟩ := hres
      have hd8 : ∀ q, F4 q → ownAt A8 c8 ≠ some q := fun q hq e => by have h1 := (hown.lt q e).1; have h2 := (HC.out.resync hm).lt 1 rfl q hq; omega
      dsimp only at hown hch
      rw [HRN2.out] at hown
      have hc2 := (HC.out.resync hm).turned 1 rfl hon (fun q hq => .inl hq) hch.sup hown hd8
      clear hown hch hon hd8
      clear HC hm
      simp only [List.nil_append, List.cons_append, List.set_cons_zero, List.set_cons_succ] at hc2
      have HC := Lib.hid hc2
      clear hc2
      have hm := HC.out.rebase
      dsimp only
      rw [HRN2.out]
      unfold rspV
      go_wp2_with (first | go_skip | ((with_reducible show wpList _ _ _ _ _ (World.alloc _ _)); refine wpList_up hm ?_; clear hm; intro n w hn hn2 hk hm hd hd2 ho; (try rw [← hn]); replace hn := Nat.le_of_eq hn.symm) | ((first | ((with_reducible show wpList _ _ _ (Oper.mk _ (Op.box _ _) _ _ _ _ :: _) _ _); (refine wpList_bx (by rfl) _ _ rfl _ (by simp only [Act.eval, Array.getD_eq_getD_getElem?, List.getElem?_toArray, List.getElem?_cons_succ, List.getElem?_cons_zero, Option.getD_some]; first | done | exact rfl) _ (by simp only [Value.cells]; first | done | exact rfl) hm ?_; clear hm; intro n w hn hz hm ho; (try simp only [List.cons_append, List.nil_append] at hm))) | ((with_reducible show wpList _ _ _ (Oper.mk _ (Op.load _ _) _ _ _ _ :: _) _ _); first | (refine wpList_ldS (by rfl) _ _ rfl _ _ rfl hm _ _ (by repeat (first | apply In.a | apply In.b)) (by decide +kernel) _ (by simp only [List.getElem?_toArray, List.getElem?_cons_succ, List.getElem?_cons_zero]; first | done | exact rfl) ?_) | (refine wpList_laS (by rfl) _ _ rfl _ _ rfl hm _ _ (by repeat (first | apply In.a | apply In.b)) (by kernel_rfl) _ (by rfl) (by kernel_rfl) (by simp) _ (by simp only [List.toList_toArray, List.drop_succ_cons, List.drop_zero, List.size_toArray, List.length_cons, List.length_nil, Nat.reduceAdd, List.take_succ_cons, List.take_zero]; first | done | exact rfl) ?_) | (refine wpList_lcRT (RK.out _ (HC.out.resync hm).low) (by rfl) _ _ rfl (by decide +kernel) _ _ rfl _ (by repeat (first | apply InR.a | apply InR.b)) ?_) | (refine wpList_lrR (RK.out _ (HC.out.resync hm).low) (by rfl) _ _ rfl _ _ rfl _ (by repeat (first | apply InR.a | apply InR.b)) (by kernel_rfl) (by kernel_rfl) ?_)) | ((with_reducible show wpList _ _ _ (Oper.mk _ (Op.store _ _ _) _ _ _ _ :: _) _ _); (refine wpList_stS (by rfl) _ _ _ rfl _ _ rfl _ (by simp only [Act.eval, Array.getD_eq_getD_getElem?, List.getElem?_toArray, List.getElem?_cons_succ, List.getElem?_cons_zero, Option.getD_some]; first | done | exact rfl) hm _ (by simp only [Value.cells]; first | done | exact rfl) _ _ _ _ (by repeat (first | apply Put.a | apply Put.b)) (by kernel_rfl) (by simp [Value.oneCell']) (by simp) (by simp only [List.set_cons_zero, List.set_cons_succ, spl, List.toList_toArray, List.size_toArray, List.length_cons, List.length_nil, Nat.reduceAdd, Nat.zero_add, List.take_succ_cons, List.take_zero, List.drop_succ_cons, List.drop_zero, List.drop_nil, List.cons_append, List.nil_append, List.append_nil]; first | done | exact rfl) ?_; clear hm; intro w hz hm ho)) | ((with_reducible show wpList _ _ _ (Oper.mk _ (Op.alloc _) _ _ _ _ :: _) _ _); (refine wpList_al (by rfl) _ rfl _ rfl _ (by simp only [Value.cells]; first | done | exact rfl) hm ?_; clear hm; intro n w hn hz hm ho; (try simp only [List.cons_append, List.nil_append] at hm)))); try simp only [Act.put, List.setIfInBounds_toArray, List.set_cons_zero, List.set_cons_succ]))
      go_at_call 18
      refine (ch_open _ g1 F3 s1 ((HC.out.resync hm).obj 0 rfl) (HG.out.below (HC.out.resync hm).low HP.out) (fun h => by have := (HC.out.resync hm).lo 0 rfl 0 h; have := HP.out; omega) HC1.out A8 rn2 c8 rr ((HC.out.resync hm).byt 2 rfl) (by omega) sw).mono ?_
      intro e w6 hres
      unfold OpRes at hres
      rw [HOP.out, HOE.out] at hres
      obtain ⟨A9, c9, rfl, hown, hch, hon⟩ := hres
      dsimp only at hown hch
      rw [HX2.out.1] at hown
      have hd9 : ∀ q, F3 q → ownAt A9 c9 ≠ some q := fun q hq e => by have h1 := (hown.lt q e).1; have h2 := (HC.out.resync hm).lt 0 rfl q hq; omega
      have hc2 := (HC.out.resync hm).turned 0 rfl hon (fun q hq => .inl hq) hch.sup hown hd9
      clear hown hch hon hd9
      clear HC hm
      simp only [List.nil_append, List.cons_append, List.set_cons_zero, List.set_cons_succ] at hc2
      have HC := Lib.hid hc2
      clear hc2
      have hm := HC.out.rebase
      dsimp only
      rw [HX2.out.1]
      unfold rspV
      go_wp2_with (first | go_skip | ((with_reducible show wpList _ _ _ _ _ (World.alloc _ _)); refine wpList_up hm ?_; clear hm; intro n w hn hn2 hk hm hd hd2 ho; (try rw [← hn]); replace hn := Nat.le_of_eq hn.symm) | ((first | ((with_reducible show wpList _ _ _ (Oper.mk _ (Op.box _ _) _ _ _ _ :: _) _ _); (refine wpList_bx (by rfl) _ _ rfl _ (by simp only [Act.eval, Array.getD_eq_getD_getElem?, List.getElem?_toArray, List.getElem?_cons_succ, List.getElem?_cons_zero, Option.getD_some]; first | done | exact rfl) _ (by simp only [Value.cells]; first | done | exact rfl) hm ?_; clear hm; intro n w hn hz hm ho; (try simp only [List.cons_append, List.nil_append] at hm))) | ((with_reducible show wpList _ _ _ (Oper.mk _ (Op.load _ _) _ _ _ _ :: _) _ _); first | (refine wpList_ldS (by rfl) _ _ rfl _ _ rfl hm _ _ (by repeat (first | apply In.a | apply In.b)) (by decide +kernel) _ (by simp only [List.getElem?_toArray, List.getElem?_cons_succ, List.getElem?_cons_zero]; first | done | exact rfl) ?_) | (refine wpList_laS (by rfl) _ _ rfl _ _ rfl hm _ _ (by repeat (first | apply In.a | apply In.b)) (by kernel_rfl) _ (by rfl) (by kernel_rfl) (by simp) _ (by simp only [List.toList_toArray, List.drop_succ_cons, List.drop_zero, List.size_toArray, List.length_cons, List.length_nil, Nat.reduceAdd, List.take_succ_cons, List.take_zero]; first | done | exact rfl) ?_) | (refine wpList_lcRT (RK.out _ (HC.out.resync hm).low) (by rfl) _ _ rfl (by decide +kernel) _ _ rfl _ (by repeat (first | apply InR.a | apply InR.b)) ?_) | (refine wpList_lrR (RK.out _ (HC.out.resync hm).low) (by rfl) _ _ rfl _ _ rfl _ (by repeat (first | apply InR.a | apply InR.b)) (by kernel_rfl) (by kernel_rfl) ?_)) | ((with_reducible show wpList _ _ _ (Oper.mk _ (Op.store _ _ _) _ _ _ _ :: _) _ _); (refine wpList_stS (by rfl) _ _ _ rfl _ _ rfl _ (by simp only [Act.eval, Array.getD_eq_getD_getElem?, List.getElem?_toArray, List.getElem?_cons_succ, List.getElem?_cons_zero, Option.getD_some]; first | done | exact rfl) hm _ (by simp only [Value.cells]; first | done | exact rfl) _ _ _ _ (by repeat (first | apply Put.a | apply Put.b)) (by kernel_rfl) (by simp [Value.oneCell']) (by simp) (by simp only [List.set_cons_zero, List.set_cons_succ, spl, List.toList_toArray, List.size_toArray, List.length_cons, List.length_nil, Nat.reduceAdd, Nat.zero_add, List.take_succ_cons, List.take_zero, List.drop_succ_cons, List.drop_zero, List.drop_nil, List.cons_append, List.nil_append, List.append_nil]; first | done | exact rfl) ?_; clear hm; intro w hz hm ho)) | ((with_reducible show wpList _ _ _ (Oper.mk _ (Op.alloc _) _ _ _ _ :: _) _ _); (refine wpList_al (by rfl) _ rfl _ rfl _ (by simp only [Value.cells]; first | done | exact rfl) hm ?_; clear hm; intro n w hn hz hm ho; (try simp only [List.cons_append, List.nil_append] at hm)))); try simp only [Act.put, List.setIfInBounds_toArray, List.set_cons_zero, List.set_cons_succ]))
      have hc2 := HC.out.resync hm
      clear HC hm
      simp only [List.nil_append, List.cons_append, List.set_cons_zero, List.set_cons_succ] at hc2
      have HC := Lib.hid hc2
      clear hc2
      have hm := HC.out.rebase
      refine wp_region_noPanic ?_
      refine wp_region_held_drew (S := KnS _ _) (by kernel_rfl) (KnS.of hm.drew (RK.out _ (HC.out.resync hm.drew).low)) (fun hHeld => ?_)
      refine wpAnyH_fresh (by repeat (first | apply Fresh.a | apply Fresh.b)) ?_
      replace hm := hm.drew
      iterate 8 (first | (refine wpAnyH_take3 (b := 0) (by repeat (first | apply Seek.a | apply Seek.b | apply Seek.c)) (by simp only [List.getElem?_toArray, List.getElem?_cons_succ, List.getElem?_cons_zero]; first | done | exact rfl) ⟨undef, by kernel_rfl, by kernel_rfl, by kernel_rfl, fun _ _ _ h => h, Or.inr ⟨by rfl, rfl⟩, hHeld, ?_⟩) | (refine wpAnyH_take3 (b := 0) (by repeat (first | apply Seek.a | apply Seek.b | apply Seek.c)) (by simp only [List.getElem?_toArray, List.getElem?_cons_succ, List.getElem?_cons_zero]; first | done | exact rfl) ⟨?_, by kernel_rfl, by kernel_rfl, by kernel_rfl, fun _ _ _ h => h, Or.inl ⟨by rfl, ?_⟩, hHeld, ?_⟩; rotate_left 1; (first | (intro w9 h9; (with_reducible show (execOp _ (Oper.mk _ (Op.load _ _) _ _ _ _)).run _ _ = _); (first | (exact KnS.ld h9 _ _ rfl _ _ rfl _ _ (by repeat (first | apply In.a | apply In.b)) (by decide +kernel) _ (by simp only [List.getElem?_toArray, List.getElem?_cons_succ, List.getElem?_cons_zero]; first | done | exact rfl)) | (exact KnS.lcT h9 _ _ rfl rfl (by decide +kernel) _ (by repeat (first | apply InR.a | apply InR.b)) _ (by first | done | exact rfl)) | (exact KnS.la h9 _ _ rfl _ _ rfl _ _ (by repeat (first | apply In.a | apply In.b)) (by kernel_rfl) _ (by rfl) (by kernel_rfl) (by simp) _ (by simp only [List.toList_toArray, List.drop_succ_cons, List.drop_zero, List.size_toArray, List.length_cons, List.length_nil, Nat.reduceAdd, List.take_succ_cons, List.take_zero]; first | done | exact rfl)) | (exact KnS.lr h9 _ _ rfl rfl _ (by repeat (first | apply InR.a | apply InR.b)) (by kernel_rfl) (by kernel_rfl) _ (by first | done | exact rfl)))) | focus (intro w9 hSw; go_simp; (try (with_reducible rfl)); done))); try simp only [Act.put, List.setIfInBounds_toArray, List.set_cons_zero, List.set_cons_succ])
      refine wpAnyH_take3 (b := 8) (by repeat (first | apply Seek.a | apply Seek.b | apply Seek.c)) (by simp only [List.getElem?_toArray, List.getElem?_cons_succ, List.getElem?_cons_zero]; first | done | exact rfl) ⟨?_, by kernel_rfl, by kernel_rfl, by kernel_rfl, fun _ _ _ h => h, Or.inl ⟨by rfl, ?_⟩, hHeld, ?_⟩
      rotate_left 1
      · intro w9 h9
        exact KnS.lr h9 _ _ rfl rfl _ (by repeat (first | apply InR.a | apply InR.b)) (by kernel_rfl) (by kernel_rfl) _ (by first | done | exact rfl)
      try simp only [Act.put, List.setIfInBounds_toArray, List.set_cons_zero, List.set_cons_succ]
      refine wpAnyH_ready (rs := [9]) (by kernel_rfl) (by simp) ?_
      refine AllReadyH.cons2 (by simp only [List.getElem?_toArray, List.getElem?_cons_succ, List.getElem?_cons_zero]; first | done | exact rfl) (fun K hK => ?_)
      rw [if_pos (by rfl)]
      go_simp
      refine (same_rsp A9 A5 rn c9 rn rc rb sw _ ((HC.out.resync hm).byt 3 rfl) ((HC.out.resync hm).old HX2.out) (by omega)).mono ?_
      rintro e w9 ⟨rfl, hb9⟩
      replace hm := hm.below hb9
      go_simp
      refine hK.out _ _ (KnS.of hm (RK.out _ (HC.out.resync hm).low)) (fun hHeld => ?_)
      clear hK K
      try simp only [Act.put, List.setIfInBounds_toArray, List.set_cons_zero, List.set_cons_succ]
      iterate 2 (first | (refine wpAnyH_take3 (b := 10) (by repeat (first | apply Seek.a | apply Seek.b | apply Seek.c)) (by simp only [List.getElem?_toArray, List.getElem?_cons_succ, List.getElem?_cons_zero]; first | done | exact rfl) ⟨undef, by kernel_rfl, by kernel_rfl, by kernel_rfl, fun _ _ _ h => h, Or.inr ⟨by rfl, rfl⟩, hHeld, ?_⟩) | (refine wpAnyH_take3 (b := 10) (by repeat (first | apply Seek.a | apply Seek.b | apply Seek.c)) (by simp only [List.getElem?_toArray, List.getElem?_cons_succ, List.getElem?_cons_zero]; first | done | exact rfl) ⟨?_, by kernel_rfl, by kernel_rfl, by kernel_rfl, fun _ _ _ h => h, Or.inl ⟨by rfl, ?_⟩, hHeld, ?_⟩; rotate_left 1; (first | (intro w9 h9; (with_reducible show (execOp _ (Oper.mk _ (Op.load _ _) _ _ _ _)).run _ _ = _); (first | (exact KnS.ld h9 _ _ rfl _ _ rfl _ _ (by repeat (first | apply In.a | apply In.b)) (by decide +kernel) _ (by simp only [List.getElem?_toArray, List.getElem?_cons_succ, List.getElem?_cons_zero]; first | done | exact rfl)) | (exact KnS.lcT h9 _ _ rfl rfl (by decide +kernel) _ (by repeat (first | apply InR.a | apply InR.b)) _ (by first | done | exact rfl)) | (exact KnS.la h9 _ _ rfl _ _ rfl _ _ (by repeat (first | apply In.a | apply In.b)) (by kernel_rfl) _ (by rfl) (by kernel_rfl) (by simp) _ (by simp only [List.toList_toArray, List.drop_succ_cons, List.drop_zero, List.size_toArray, List.length_cons, List.length_nil, Nat.reduceAdd, List.take_succ_cons, List.take_zero]; first | done | exact rfl)) | (exact KnS.lr h9 _ _ rfl rfl _ (by repeat (first | apply InR.a | apply InR.b)) (by kernel_rfl) (by kernel_rfl) _ (by first | done | exact rfl)))) | focus (intro w9 hSw; go_simp; (try (with_reducible rfl)); done))); try simp only [Act.put, List.setIfInBounds_toArray, List.set_cons_zero, List.set_cons_succ])
      refine wpAnyH_done (by kernel_rfl) ?_ _
      refine NoPanic.normal ?_
      go_wp2_with (first | go_skip | ((with_reducible show wpList _ _ _ _ _ (World.alloc _ _)); refine wpList_up hm ?_; clear hm; intro n w hn hn2 hk hm hd hd2 ho; (try rw [← hn]); replace hn := Nat.le_of_eq hn.symm) | ((first | ((with_reducible show wpList _ _ _ (Oper.mk _ (Op.box _ _) _ _ _ _ :: _) _ _); (refine wpList_bx (by rfl) _ _ rfl _ (by simp only [Act.eval, Array.getD_eq_getD_getElem?, List.getElem?_toArray, List.getElem?_cons_succ, List.getElem?_cons_zero, Option.getD_some]; first | done | exact rfl) _ (by simp only [Value.cells]; first | done | exact rfl) hm ?_; clear hm; intro n w hn hz hm ho; (try simp only [List.cons_append, List.nil_append] at hm))) | ((with_reducible show wpList _ _ _ (Oper.mk _ (Op.load _ _) _ _ _ _ :: _) _ _); first | (refine wpList_ldS (by rfl) _ _ rfl _ _ rfl hm _ _ (by repeat (first | apply In.a | apply In.b)) (by decide +kernel) _ (by simp only [List.getElem?_toArray, List.getElem?_cons_succ, List.getElem?_cons_zero]; first | done | exact rfl) ?_) | (refine wpList_laS (by rfl) _ _ rfl _ _ rfl hm _ _ (by repeat (first | apply In.a | apply In.b)) (by kernel_rfl) _ (by rfl) (by kernel_rfl) (by simp) _ (by simp only [List.toList_toArray, List.drop_succ_cons, List.drop_zero, List.size_toArray, List.length_cons, List.length_nil, Nat.reduceAdd, List.take_succ_cons, List.take_zero]; first | done | exact rfl) ?_) | (refine wpList_lcRT (RK.out _ (HC.out.resync hm).low) (by rfl) _ _ rfl (by decide +kernel) _ _ rfl _ (by repeat (first | apply InR.a | apply InR.b)) ?_) | (refine wpList_lrR (RK.out _ (HC.out.resync hm).low) (by rfl) _ _ rfl _ _ rfl _ (by repeat (first | apply InR.a | apply InR.b)) (by kernel_rfl) (by kernel_rfl) ?_)) | ((with_reducible show wpList _ _ _ (Oper.mk _ (Op.store _ _ _) _ _ _ _ :: _) _ _); (refine wpList_stS (by rfl) _ _ _ rfl _ _ rfl _ (by simp only [Act.eval, Array.getD_eq_getD_getElem?, List.getElem?_toArray, List.getElem?_cons_succ, List.getElem?_cons_zero, Option.getD_some]; first | done | exact rfl) hm _ (by simp only [Value.cells]; first | done | exact rfl) _ _ _ _ (by repeat (first | apply Put.a | apply Put.b)) (by kernel_rfl) (by simp [Value.oneCell']) (by simp) (by simp only [List.set_cons_zero, List.set_cons_succ, spl, List.toList_toArray, List.size_toArray, List.length_cons, List.length_nil, Nat.reduceAdd, Nat.zero_add, List.take_succ_cons, List.take_zero, List.drop_succ_cons, List.drop_zero, List.drop_nil, List.cons_append, List.nil_append, List.append_nil]; first | done | exact rfl) ?_; clear hm; intro w hz hm ho)) | ((with_reducible show wpList _ _ _ (Oper.mk _ (Op.alloc _) _ _ _ _ :: _) _ _); (refine wpList_al (by rfl) _ rfl _ rfl _ (by simp only [Value.cells]; first | done | exact rfl) hm ?_; clear hm; intro n w hn hz hm ho; (try simp only [List.cons_append, List.nil_append] at hm)))); try simp only [Act.put, List.setIfInBounds_toArray, List.set_cons_zero, List.set_cons_succ]))
      go_roundg g
      case rel => exact ⟨k + 1, s2, F3, F4, by have := HKG.out; omega, by rw [HT9.out, HCE.out], by go_num, HOK2.out, by rw [HT7.out, HQ5.out, HLV2.out], HT8.out, by have := HCK.out; have := HT9.out; have := HQ8.out; omega, (HC.out.resync hm).part (.cons_cons _ (List.nil_sublist _)) (List.nil_sublist _) (List.nil_sublist _)⟩
      case measure => omega
theorem law_SecureAgrees (a : SnS) (s : Sec.S) (C : Option Addr) (cn cc : Nat) (w0 : World) (hg : HasEt w0) (hs : SnAt w0 a s C cn cc) (A : Option Addr) (nl c : Nat) (l : List Trn) (hl : Trns w0 A nl c l) : Calls Tryd.prog 5 #[snV a s.lvl, .slice C cn cc, .slice A nl c] w0 fun e w' => e = .returned (.bool true) ∧ Below w0.heap.size w0 w' := by
  by_cases hd : 10 < nl
  · exact agr_out1 a s C cn cc w0 hg hs A nl c l hl hd
  by_cases hn : 100 < cn
  · exact agr_out2 a s C cn cc w0 hg hs A nl c l hl (by omega) hn
  cases hk : okSn a s.lvl cn with
  | false => exact agr_no a s C cn cc w0 hg hs A nl c l hl (by omega) (by omega) hk
  | true => exact agr_go a s C cn cc w0 hg hs A nl c l hl (by omega) (by omega) hk
end Go.Proofs.YtibaibdgpnkdnaaDoor
