/-
  The reference's Weight.
-/
import Derived.Test.YtmhjddmamknglaaGreatZ0
import Derived.Test.YtmhjddmamknglaaGreatJnS
namespace Go.Proofs.YtmhjddmamknglaaGreat
set_option maxRecDepth 100000
set_option linter.unusedSimpArgs false
set_option linter.unusedVariables false
open Go.RowKit
set_option maxHeartbeats 8000000

section
variable {w0 : World} {A : Option Addr} {m c : Nat} {l : List JC}
theorem ref12_Weight (h : Chs w0 w0.heap.size A m c l) (hm47 : m ≤ 100000) :
    Calls Tryz.prog 36 #[.slice A m c] w0 fun e w' => ∃ z : Nat, e = .returned (.int .i64 (z : Int)) ∧ (z ≤ 1024 ↔ JC.weight l ≤ 1024) ∧ Below w0.heap.size w0 w' := by
  have hl := h.len
  have HH := Lib.hid h
  have HC := Lib.hid (Scn.start w0)
  have hm := HC.out.rebase
  have HL := Lib.hid hl
  clear h hl
  go_enter Tryz.func36, Tryz.ntmps36
  go_wp2_with (first | go_skip | ((with_reducible show wpList _ _ _ _ _ (World.alloc _ _)); refine wpList_up hm ?_; clear hm; intro n w hn hn2 hk hm hd hd2 ho; (try rw [← hn]); replace hn := Nat.le_of_eq hn.symm) | ((first | ((with_reducible show wpList _ _ _ (Oper.mk _ (Op.box _ _) _ _ _ _ :: _) _ _); (refine bxA hm ?_; clear hm; intro n w hn hz hm ho; (try simp only [List.cons_append, List.nil_append] at hm))) | ((with_reducible show wpList _ _ _ (Oper.mk _ (Op.load _ _) _ _ _ _ :: _) _ _); first | (refine ldA hm ?_) | (refine laA hm ?_)) | ((with_reducible show wpList _ _ _ (Oper.mk _ (Op.store _ _ _) _ _ _ _ :: _) _ _); (refine stA hm ?_; clear hm; intro w hz hm ho)) | ((with_reducible show wpList _ _ _ (Oper.mk _ (Op.alloc _) _ _ _ _ :: _) _ _); (refine alA hm ?_; clear hm; intro n w hn hz hm ho; (try simp only [List.cons_append, List.nil_append] at hm)))); try simp only [Act.put, sxQ]))
  have hc2 := HC.out.resync hm
  clear HC hm
  simp only [List.nil_append, List.cons_append, List.set_cons_zero, List.set_cons_succ] at hc2
  have HC := Lib.hid hc2
  clear hc2
  have hm := HC.out.rebase
  go_loopg [3, 4] m (fun gk v3 v4 wr => ∃ k, k + gk = m ∧ v4 = .int .i64 (k : Int) ∧ v3 = .int .i64 (JC.weight (l.take k) : Int) ∧ JC.weight (l.take k) ≤ 3000 ∧ Scn w0 wr [] [] [] [])
  case atStart => exact ⟨0, by omega, rfl, rfl, Nat.zero_le _, HC.out⟩
  case round =>
    clear HC hm
    obtain ⟨k, hkg, rfl, rfl, hV3, hsc⟩ := hrel
    have HC := Lib.hid hsc
    have hm := HC.out.rebase
    clear hsc
    obtain ⟨V, hV⟩ : ∃ V, V = JC.weight (l.take k) := ⟨_, rfl⟩
    rw [← hV] at hV3 ⊢
    have HV := Lib.hid hV
    clear hV
    cases gk with
    | zero =>
      obtain rfl : m = k := by omega
      have ik : decide ((m : Int) < (m : Int)) = false := decide_eq_false (by omega)
      have HW := Lib.hid (show V = JC.weight l by rw [HV.out, List.take_of_length_le (by rw [HL.out]; exact Nat.le_refl _)])
      clear hkg
      go_wp2_with (first | go_skip | ((with_reducible show wpList _ _ _ _ _ (World.alloc _ _)); refine wpList_up hm ?_; clear hm; intro n w hn hn2 hk hm hd hd2 ho; (try rw [← hn]); replace hn := Nat.le_of_eq hn.symm) | ((first | ((with_reducible show wpList _ _ _ (Oper.mk _ (Op.box _ _) _ _ _ _ :: _) _ _); (refine bxA hm ?_; clear hm; intro n w hn hz hm ho; (try simp only [List.cons_append, List.nil_append] at hm))) | ((with_reducible show wpList _ _ _ (Oper.mk _ (Op.load _ _) _ _ _ _ :: _) _ _); first | (refine ldA hm ?_) | (refine laA hm ?_)) | ((with_reducible show wpList _ _ _ (Oper.mk _ (Op.store _ _ _) _ _ _ _ :: _) _ _); (refine stA hm ?_; clear hm; intro w hz hm ho)) | ((with_reducible show wpList _ _ _ (Oper.mk _ (Op.alloc _) _ _ _ _ :: _) _ _); (refine alA hm ?_; clear hm; intro n w hn hz hm ho; (try simp only [List.cons_append, List.nil_append] at hm)))); try simp only [Act.put, sxQ]))
      go_ret
      exact ⟨V, rfl, by rw [HW.out], (HC.out.resync hm).low⟩
    | succ j =>
      have hk : k < m := by omega
      have ik : decide ((k : Int) < (m : Int)) = true := decide_eq_true (by omega)
      by_cases hbig : 1024 < V
      · have d2 : decide ((V : Int) ≤ 1024) = false := decide_eq_false (by omega)
        have HW := Lib.hid (show V ≤ JC.weight l by rw [HV.out]; exact JC.weight_take l k)
        go_wp2_with (first | go_skip | ((with_reducible show wpList _ _ _ _ _ (World.alloc _ _)); refine wpList_up hm ?_; clear hm; intro n w hn hn2 hk hm hd hd2 ho; (try rw [← hn]); replace hn := Nat.le_of_eq hn.symm) | ((first | ((with_reducible show wpList _ _ _ (Oper.mk _ (Op.box _ _) _ _ _ _ :: _) _ _); (refine bxA hm ?_; clear hm; intro n w hn hz hm ho; (try simp only [List.cons_append, List.nil_append] at hm))) | ((with_reducible show wpList _ _ _ (Oper.mk _ (Op.load _ _) _ _ _ _ :: _) _ _); first | (refine ldA hm ?_) | (refine laA hm ?_)) | ((with_reducible show wpList _ _ _ (Oper.mk _ (Op.store _ _ _) _ _ _ _ :: _) _ _); (refine stA hm ?_; clear hm; intro w hz hm ho)) | ((with_reducible show wpList _ _ _ (Oper.mk _ (Op.alloc _) _ _ _ _ :: _) _ _); (refine alA hm ?_; clear hm; intro n w hn hz hm ho; (try simp only [List.cons_append, List.nil_append] at hm)))); try simp only [Act.put, sxQ]))
        go_ret
        exact ⟨V, rfl, by have := HW.out; omega, (HC.out.resync hm).low⟩
      · have d2 : decide ((V : Int) ≤ 1024) = true := decide_eq_true (by omega)
        obtain ⟨bb, oo, y, hA, hyl, hyk, RK⟩ := HH.out.keeps hk
        subst hA
        have hstep : JC.weight (l.take (k + 1)) = V + (8 + y.n) := by
          rw [List.take_add_one, hyk, HV.out]; simp [JC.weight]
        have HS := Lib.hid hstep
        have HW := Lib.hid (show V + (8 + y.n) ≤ JC.weight l by rw [← hstep]; exact JC.weight_take l _)
        have RK2 : Hid (∀ u : World, Below w0.heap.size w0 u → Rngs [⟨bb, oo + k * 2 + 1, [.slice y.A y.n y.c]⟩] u) := Lib.hid fun u hu r hr => by
          obtain rfl := List.mem_singleton.1 hr
          intro q v hv
          cases q with
          | zero => cases hv; exact RK.out u hu _ (List.mem_singleton.2 rfl) 1 _ rfl
          | succ q => simp at hv
        clear hstep hyl hyk RK
        by_cases hlong : 1024 < y.n
        · skip
          go_wp2_with (first | go_skip | ((with_reducible show wpList _ _ _ _ _ (World.alloc _ _)); refine wpList_up hm ?_; clear hm; intro n w hn hn2 hk hm hd hd2 ho; (try rw [← hn]); replace hn := Nat.le_of_eq hn.symm) | ((first | ((with_reducible show wpList _ _ _ (Oper.mk _ (Op.box _ _) _ _ _ _ :: _) _ _); (refine bxA hm ?_; clear hm; intro n w hn hz hm ho; (try simp only [List.cons_append, List.nil_append] at hm))) | ((with_reducible show wpList _ _ _ (Oper.mk _ (Op.load _ _) _ _ _ _ :: _) _ _); first | (refine ldA hm ?_) | (refine laA hm ?_) | (refine lcA (RK2.out _ (HC.out.resync hm).low) ?_) | (refine lrA (RK2.out _ (HC.out.resync hm).low) ?_)) | ((with_reducible show wpList _ _ _ (Oper.mk _ (Op.store _ _ _) _ _ _ _ :: _) _ _); (refine stA hm ?_; clear hm; intro w hz hm ho)) | ((with_reducible show wpList _ _ _ (Oper.mk _ (Op.alloc _) _ _ _ _ :: _) _ _); (refine alA hm ?_; clear hm; intro n w hn hz hm ho; (try simp only [List.cons_append, List.nil_append] at hm)))); try simp only [Act.put, sxQ]))
          go_ret
          exact ⟨1025, rfl, by have := HW.out; omega, (HC.out.resync hm).low⟩
        · skip
          have d3 : (y.n : Int) ≤ 1024 := by omega
          go_wp2_with (first | go_skip | ((with_reducible show wpList _ _ _ _ _ (World.alloc _ _)); refine wpList_up hm ?_; clear hm; intro n w hn hn2 hk hm hd hd2 ho; (try rw [← hn]); replace hn := Nat.le_of_eq hn.symm) | ((first | ((with_reducible show wpList _ _ _ (Oper.mk _ (Op.box _ _) _ _ _ _ :: _) _ _); (refine bxA hm ?_; clear hm; intro n w hn hz hm ho; (try simp only [List.cons_append, List.nil_append] at hm))) | ((with_reducible show wpList _ _ _ (Oper.mk _ (Op.load _ _) _ _ _ _ :: _) _ _); first | (refine ldA hm ?_) | (refine laA hm ?_) | (refine lcA (RK2.out _ (HC.out.resync hm).low) ?_) | (refine lrA (RK2.out _ (HC.out.resync hm).low) ?_)) | ((with_reducible show wpList _ _ _ (Oper.mk _ (Op.store _ _ _) _ _ _ _ :: _) _ _); (refine stA hm ?_; clear hm; intro w hz hm ho)) | ((with_reducible show wpList _ _ _ (Oper.mk _ (Op.alloc _) _ _ _ _ :: _) _ _); (refine alA hm ?_; clear hm; intro n w hn hz hm ho; (try simp only [List.cons_append, List.nil_append] at hm)))); try simp only [Act.put, sxQ]))
          go_roundg j
          case measure => omega
          case rel => exact ⟨k + 1, by omega, by go_num, by rw [HS.out]; go_num, by rw [HS.out]; omega, (HC.out.resync hm).keep 0 0 0⟩
end
end Go.Proofs.YtmhjddmamknglaaGreat
