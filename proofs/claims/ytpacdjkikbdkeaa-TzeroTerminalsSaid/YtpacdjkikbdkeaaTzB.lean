/-
  The walk of 'ready'.
-/
import Derived.Test.YtpacdjkikbdkeaaZ0
import Derived.Test.YtpacdjkikbdkeaaTzA
namespace Go.Proofs.Ytpacdjkikbdkeaa
set_option maxRecDepth 100000
set_option linter.unusedSimpArgs false
set_option linter.unusedVariables false
open Go.RowKit Go.Maps
set_option maxHeartbeats 4000000
theorem card_ready (g gm : Nat) (ph got : Value) (h : Hd) (x : CV) (inc : Bool) (data : Value) (sw : Int) (A : Option Addr) (n c : Nat) (bs : List UInt8) (le : Int) (w : World) (hb : Blk w g 78 (ccard gm ph got h x inc data sw)) :
    Calls Try.prog 59 #[.pointer (some ⟨g, 0, none⟩), .slice A n c, .int .i64 le] w fun e w' => e = .returned (.tuple #[]) ∧
      Blk w' g 78 (ccard gm .nilFunc got h ⟨h.h0, h.h1, h.h2, h.h3, ⟨A, n, c, bs⟩, le, false⟩ inc data sw) ∧ Only (fun q => q = g) w w' := by
  obtain ⟨h0, h1, h2, h3, h4⟩ := h
  obtain ⟨x0, x1, x2, x3, ⟨xa, xn, xc, xb⟩, x5, x6⟩ := x
  have hm : Mem (fun q => q = g) w w [⟨g, _, _⟩] [] := Mem.one hb rfl
  simp only [ccard] at hm
  clear hb
  go_enter Try.func59, Try.ntmps59
  go_wp2_with (first | go_skip | ((with_reducible show wpList _ _ _ _ _ (World.alloc _ _)); refine wpList_up hm ?_; clear hm; intro n w hn hn2 hk hm hd hd2 ho; (try rw [← hn]); replace hn := Nat.le_of_eq hn.symm) | ((first | ((with_reducible show wpList _ _ _ (Oper.mk _ (Op.box _ _) _ _ _ _ :: _) _ _); (refine wpList_bx (by rfl) _ _ rfl _ (by simp only [Act.eval, Array.getD_eq_getD_getElem?, List.getElem?_toArray, List.getElem?_cons_succ, List.getElem?_cons_zero, Option.getD_some]; first | done | exact rfl) _ (by simp only [Value.cells]; first | done | exact rfl) hm ?_; clear hm; intro n w hn hz hm ho; (try simp only [List.cons_append, List.nil_append] at hm))) | ((with_reducible show wpList _ _ _ (Oper.mk _ (Op.load _ _) _ _ _ _ :: _) _ _); first | (refine wpList_ldS (by rfl) _ _ rfl _ _ rfl hm _ _ (by repeat (first | apply In.a | apply In.b)) (by decide +kernel) _ (by simp only [List.getElem?_toArray, List.getElem?_cons_succ, List.getElem?_cons_zero]; first | done | exact rfl) ?_) | (refine wpList_laS (by rfl) _ _ rfl _ _ rfl hm _ _ (by repeat (first | apply In.a | apply In.b)) (by kernel_rfl) _ (by rfl) (by kernel_rfl) (by simp) _ (by simp only [List.toList_toArray, List.drop_succ_cons, List.drop_zero, List.size_toArray, List.length_cons, List.length_nil, Nat.reduceAdd, List.take_succ_cons, List.take_zero]; first | done | exact rfl) ?_)) | ((with_reducible show wpList _ _ _ (Oper.mk _ (Op.store _ _ _) _ _ _ _ :: _) _ _); (refine wpList_stS (by rfl) _ _ _ rfl _ _ rfl _ (by simp only [Act.eval, Array.getD_eq_getD_getElem?, List.getElem?_toArray, List.getElem?_cons_succ, List.getElem?_cons_zero, Option.getD_some]; first | done | exact rfl) hm _ (by simp only [Value.cells]; first | done | exact rfl) _ _ _ _ (by repeat (first | apply Put.a | apply Put.b)) (by kernel_rfl) (by simp [Value.oneCell']) (by simp) (by simp only [List.set_cons_zero, List.set_cons_succ, spl, List.toList_toArray, List.size_toArray, List.length_cons, List.length_nil, Nat.reduceAdd, Nat.zero_add, List.take_succ_cons, List.take_zero, List.drop_succ_cons, List.drop_zero, List.drop_nil, List.cons_append, List.nil_append, List.append_nil]; first | done | exact rfl) ?_; clear hm; intro w hz hm ho)) | ((with_reducible show wpList _ _ _ (Oper.mk _ (Op.alloc _) _ _ _ _ :: _) _ _); (refine wpList_al (by rfl) _ rfl _ rfl _ (by simp only [Value.cells]; first | done | exact rfl) hm ?_; clear hm; intro n w hn hz hm ho; (try simp only [List.cons_append, List.nil_append] at hm)))); try simp only [Act.put, List.setIfInBounds_toArray, List.set_cons_zero, List.set_cons_succ]))
  go_end0
  exact ⟨rfl, hm.at_ 0 rfl, hm.only⟩
end Go.Proofs.Ytpacdjkikbdkeaa
