/-
  The walk of Wrap.
-/
import Derived.Test.YtibaibdgpnkdnaaGreatDoorZ1
import Derived.Test.YtibaibdgpnkdnaaGreatDoorSecO
import Derived.Test.YtibaibdgpnkdnaaGreatDoorZ0
namespace Go.Proofs.YtibaibdgpnkdnaaGreatDoor
set_option maxRecDepth 100000
set_option linter.unusedSimpArgs false
set_option linter.unusedVariables false
open Go.RowKit
set_option maxHeartbeats 8000000

/-- What Wrap leaves. -/
def WrRes (w : World) (g : Nat) (F : Nat → Prop) (s : Sec.S) (x : Apd.Cmd) (e : Ending) (w' : World) : Prop :=
  ∃ A c F', e = .returned (.tuple #[cmdV (Sec.wrap s x).2.cla (Sec.wrap s x).2.ins (Sec.wrap s x).2.p1 (Sec.wrap s x).2.p2 A (Sec.wrap s x).2.d.length c (Sec.wrap s x).2.le (Sec.wrap s x).2.long, .int .i64 (Sec.wrapE s x)]) ∧
    Own w' w.heap.size 5 1 A (Sec.wrap s x).2.d.length c (bcells (Sec.wrap s x).2.d) ∧ ChAt' w' g F' (Sec.wrap s x).1 ∧ Only F w w' ∧ (∀ q, F' q → F q ∨ w.heap.size ≤ q) ∧ ∀ q, F' q → ownAt A c ≠ some q
theorem WrRes.bad {w w' : World} {g : Nat} {F : Nat → Prop} {s : Sec.S} {x : Apd.Cmd} {k : Int} (H : ChAt' w g F s) (hk : Sec.wrapE s x = k) (h0 : k ≠ 0) (hb : Below w.heap.size w w') : WrRes w g F s x (.returned (.tuple #[cmdV 0 0 0 0 none 0 0 0 false, .int .i64 k])) w' := by
  have e : Sec.wrap s x = (s, Sec.cz) := by unfold Sec.wrap; rw [if_pos (by rw [hk]; exact h0)]
  unfold WrRes
  rw [e, hk]
  exact ⟨none, 0, F, rfl, Own.none_ _ _ _ _ _, H.away (R := fun _ => False) (Only.of_below hb) (fun _ _ e => e), Only.of_below hb, fun q hq => .inl hq, fun q _ e => (by cases e)⟩
set_option maxRecDepth 100000 in
theorem wrap_shut (w0 : World) (g : Nat) (F : Nat → Prop) (s : Sec.S) (H : ChAt' w0 g F s) (cla ins p1 p2 : Int) (A : Option Addr) (dn c : Nat) (b : List UInt8) (le : Int) (long : Bool) (hs : s.shut = true) :
    Calls Tryz.prog 14 #[.pointer (some ⟨g, 0, none⟩), cmdV cla ins p1 p2 A dn c le long] w0 (WrRes w0 g F s ⟨cla, ins, p1, p2, b, le, long⟩) := by
  have HH := Lib.hid H
  have HE := Lib.hid (show Sec.wrapE s ⟨cla, ins, p1, p2, b, le, long⟩ = 14 by unfold Sec.wrapE; rw [if_pos hs])
  obtain ⟨a, H⟩ := H
  obtain ⟨AC, hC⟩ := H.chainAt
  have hm := H.mem
  have hK := H.blk
  rw [hs] at hm hK
  have HK := Lib.hid hK
  clear H hs hK
  obtain ⟨E, ce, M, cm, R, cr, D, cd, C, cc⟩ := a
  have hC : C = some AC := hC
  subst hC
  simp only [cch] at hm HK
  unfold cmdV
  go_enter Tryz.func14, Tryz.ntmps14
  go_wp2_with (first | go_skip | ((with_reducible show wpList _ _ _ _ _ (World.alloc _ _)); refine wpList_up hm ?_; clear hm; intro n w hn hn2 hk hm hd hd2 ho; (try rw [← hn]); replace hn := Nat.le_of_eq hn.symm) | ((first | ((with_reducible show wpList _ _ _ (Oper.mk _ (Op.box _ _) _ _ _ _ :: _) _ _); (refine bxA hm ?_; clear hm; intro n w hn hz hm ho; (try simp only [List.cons_append, List.nil_append] at hm))) | ((with_reducible show wpList _ _ _ (Oper.mk _ (Op.load _ _) _ _ _ _ :: _) _ _); first | (refine ldA hm ?_) | (refine laA hm ?_)) | ((with_reducible show wpList _ _ _ (Oper.mk _ (Op.store _ _ _) _ _ _ _ :: _) _ _); (refine stA hm ?_; clear hm; intro w hz hm ho)) | ((with_reducible show wpList _ _ _ (Oper.mk _ (Op.alloc _) _ _ _ _ :: _) _ _); (refine alA hm ?_; clear hm; intro n w hn hz hm ho; (try simp only [List.cons_append, List.nil_append] at hm)))); try simp only [Act.put, sxQ]) | (go_at_call 30; refine (ch_made (by exact hm.at_ 0 rfl)).mono ?_; rintro e w2 ⟨rfl, rfl⟩))
  refine bodyPost_ret (results_row_tmp rfl _ _ _ 28 _ (0, 0) _ rfl (by exact hm.at_ 2 rfl) Tryz.underlying28 rfl (by kernel_rfl)) rfl ?_
  exact WrRes.bad HH.out HE.out (by decide) (hm.still 0 rfl HK.out)
set_option maxRecDepth 100000 in
theorem wrap_chk (w0 : World) (g : Nat) (F : Nat → Prop) (s : Sec.S) (H : ChAt' w0 g F s) (cla ins p1 p2 : Int) (A : Option Addr) (dn c : Nat) (b : List UInt8) (hb : b.length = dn) (le : Int) (long : Bool) (hs : s.shut = false) (hc : Apd.chk cla ins p1 p2 dn le long ≠ 0) :
    Calls Tryz.prog 14 #[.pointer (some ⟨g, 0, none⟩), cmdV cla ins p1 p2 A dn c le long] w0 (WrRes w0 g F s ⟨cla, ins, p1, p2, b, le, long⟩) := by
  subst hb
  have hE : Sec.wrapE s ⟨cla, ins, p1, p2, b, le, long⟩ = Apd.chk cla ins p1 p2 b.length le long := by unfold Sec.wrapE; rw [if_neg (by rw [hs]; decide), if_pos (show Sec.chkC ⟨cla, ins, p1, p2, b, le, long⟩ ≠ 0 from hc)]; rfl
  have HE := Lib.hid hE
  have hck := fun u => apdu_Check cla ins p1 p2 A b.length c le long u
  have HCK := Lib.hid hck
  clear hck hE
  generalize Apd.chk cla ins p1 p2 b.length le long = er at *
  have i0 : (er == 0) = false := beq_eq_false_iff_ne.2 hc
  have HC0 := Lib.hid hc
  clear hc
  have HH := Lib.hid H
  obtain ⟨a, H⟩ := H
  obtain ⟨AC, hC⟩ := H.chainAt
  have hm := H.mem
  have hK := H.blk
  rw [hs] at hm hK
  have HK := Lib.hid hK
  have HLV := Lib.hid H.ok.lvl
  clear H hs hK
  obtain ⟨E, ce, M, cm, R, cr, D, cd, C, cc⟩ := a
  have hC : C = some AC := hC
  subst hC
  simp only [cch] at hm HK
  unfold cmdV
  go_enter Tryz.func14, Tryz.ntmps14
  go_wp2_with (first | go_skip | ((with_reducible show wpList _ _ _ _ _ (World.alloc _ _)); refine wpList_up hm ?_; clear hm; intro n w hn hn2 hk hm hd hd2 ho; (try rw [← hn]); replace hn := Nat.le_of_eq hn.symm) | ((first | ((with_reducible show wpList _ _ _ (Oper.mk _ (Op.box _ _) _ _ _ _ :: _) _ _); (refine bxA hm ?_; clear hm; intro n w hn hz hm ho; (try simp only [List.cons_append, List.nil_append] at hm))) | ((with_reducible show wpList _ _ _ (Oper.mk _ (Op.load _ _) _ _ _ _ :: _) _ _); first | (refine ldA hm ?_) | (refine laA hm ?_)) | ((with_reducible show wpList _ _ _ (Oper.mk _ (Op.store _ _ _) _ _ _ _ :: _) _ _); (refine stA hm ?_; clear hm; intro w hz hm ho)) | ((with_reducible show wpList _ _ _ (Oper.mk _ (Op.alloc _) _ _ _ _ :: _) _ _); (refine alA hm ?_; clear hm; intro n w hn hz hm ho; (try simp only [List.cons_append, List.nil_append] at hm)))); try simp only [Act.put, sxQ]) | (go_at_call 30; refine (ch_made (by exact hm.at_ 0 rfl)).mono ?_; rintro e w2 ⟨rfl, rfl⟩) | (go_at_call 31; refine (HCK.out _).mono ?_; rintro e w2 ⟨rfl, hbl⟩; replace hm := hm.below hbl))
  refine bodyPost_ret (results_row_tmp rfl _ _ _ 28 _ (0, 0) _ rfl (by exact hm.at_ 2 rfl) Tryz.underlying28 rfl (by kernel_rfl)) rfl ?_
  exact WrRes.bad HH.out HE.out HC0.out (hm.still 0 rfl HK.out)
set_option maxRecDepth 100000 in
theorem wrap_form (w0 : World) (g : Nat) (F : Nat → Prop) (s : Sec.S) (H : ChAt' w0 g F s) (cla ins p1 p2 : Int) (A : Option Addr) (dn c : Nat) (b : List UInt8) (hb : b.length = dn) (le : Int) (long : Bool) (hs : s.shut = false) (hc : Apd.chk cla ins p1 p2 dn le long = 0)
    (hf : Apd.cok cla = false ∨ cla / 4 % 2 = 1 ∨ cla / 16 % 2 = 1) :
    Calls Tryz.prog 14 #[.pointer (some ⟨g, 0, none⟩), cmdV cla ins p1 p2 A dn c le long] w0 (WrRes w0 g F s ⟨cla, ins, p1, p2, b, le, long⟩) := by
  subst hb
  have hE : Sec.wrapE s ⟨cla, ins, p1, p2, b, le, long⟩ = 4 := by unfold Sec.wrapE; rw [if_neg (by rw [hs]; decide), if_neg (fun e => e (show Sec.chkC ⟨cla, ins, p1, p2, b, le, long⟩ = 0 from hc)), if_pos hf]
  have HE := Lib.hid hE
  have hck := fun u => apdu_Check cla ins p1 p2 A b.length c le long u
  rw [hc] at hck
  have HCK := Lib.hid hck
  have hcase : ∃ ch o4 o16 op ok, Apd.clsV cla = infoV ch o4 o16 op ∧ Apd.cok cla = ok ∧ (ok = false ∨ (ok = true ∧ (o4 = true ∨ (o4 = false ∧ o16 = true)))) := by
    cases hk : Apd.cok cla with
    | false => exact ⟨0, false, false, false, false, by unfold Apd.clsV; rw [hk]; rfl, rfl, .inl rfl⟩
    | true =>
      refine ⟨cla % 4, cla / 4 % 2 == 1, cla / 16 % 2 == 1, cla / 128 == 1, true, by unfold Apd.clsV; rw [hk]; rfl, rfl, .inr ⟨rfl, ?_⟩⟩
      rw [hk] at hf
      by_cases h4 : cla / 4 % 2 = 1
      · exact .inl (by rw [h4]; rfl)
      · exact .inr ⟨beq_eq_false_iff_ne.2 h4, hf.elim (fun e => (by cases e)) (fun e => e.elim (fun e => absurd e h4) (fun e => (by rw [e]; rfl)))⟩
  obtain ⟨ch, o4, o16, op, ok, e1, e2, hcase⟩ := hcase
  have hcl := fun u => apdu_Class cla u
  rw [e1, e2] at hcl
  have HCL := Lib.hid hcl
  clear hck hE hc hf e1 e2 hcl
  have HH := Lib.hid H
  obtain ⟨a, H⟩ := H
  obtain ⟨AC, hC⟩ := H.chainAt
  have hm := H.mem
  have hK := H.blk
  rw [hs] at hm hK
  have HK := Lib.hid hK
  clear H hs hK
  obtain ⟨E, ce, M, cm, R, cr, D, cd, C, cc⟩ := a
  have hC : C = some AC := hC
  subst hC
  simp only [cch] at hm HK
  unfold cmdV
  unfold infoV at HCL
  rcases hcase with rfl | ⟨rfl, rfl | ⟨rfl, rfl⟩⟩
  all_goals
    go_enter Tryz.func14, Tryz.ntmps14
    go_wp2_with (first | go_skip | ((with_reducible show wpList _ _ _ _ _ (World.alloc _ _)); refine wpList_up hm ?_; clear hm; intro n w hn hn2 hk hm hd hd2 ho; (try rw [← hn]); replace hn := Nat.le_of_eq hn.symm) | ((first | ((with_reducible show wpList _ _ _ (Oper.mk _ (Op.box _ _) _ _ _ _ :: _) _ _); (refine bxA hm ?_; clear hm; intro n w hn hz hm ho; (try simp only [List.cons_append, List.nil_append] at hm))) | ((with_reducible show wpList _ _ _ (Oper.mk _ (Op.load _ _) _ _ _ _ :: _) _ _); first | (refine ldA hm ?_) | (refine laA hm ?_)) | ((with_reducible show wpList _ _ _ (Oper.mk _ (Op.store _ _ _) _ _ _ _ :: _) _ _); (refine stA hm ?_; clear hm; intro w hz hm ho)) | ((with_reducible show wpList _ _ _ (Oper.mk _ (Op.alloc _) _ _ _ _ :: _) _ _); (refine alA hm ?_; clear hm; intro n w hn hz hm ho; (try simp only [List.cons_append, List.nil_append] at hm)))); try simp only [Act.put, sxQ]) | (go_at_call 30; refine (ch_made (by exact hm.at_ 0 rfl)).mono ?_; rintro e w2 ⟨rfl, rfl⟩) | (go_at_call 31; refine (HCK.out _).mono ?_; rintro e w2 ⟨rfl, hbl⟩; replace hm := hm.below hbl) | (go_at_call 32; refine (HCL.out _).mono ?_; rintro e w2 ⟨rfl, hbl⟩; replace hm := hm.below hbl))
    refine bodyPost_ret (results_row_tmp rfl _ _ _ 28 _ (0, 0) _ rfl (by exact hm.at_ 2 rfl) Tryz.underlying28 rfl (by kernel_rfl)) rfl ?_
    exact WrRes.bad HH.out HE.out (by decide) (hm.still 0 rfl HK.out)
end Go.Proofs.YtibaibdgpnkdnaaGreatDoor
