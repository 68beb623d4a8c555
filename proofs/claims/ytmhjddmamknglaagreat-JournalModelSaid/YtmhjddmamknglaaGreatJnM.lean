/-
  The laws' short; the reference's Size.
-/
import Derived.Test.YtmhjddmamknglaaGreatZ0
import Derived.Test.YtmhjddmamknglaaGreatJnG
namespace Go.Proofs.YtmhjddmamknglaaGreat
set_option maxRecDepth 100000
set_option linter.unusedSimpArgs false
set_option linter.unusedVariables false
open Go.RowKit
set_option maxHeartbeats 8000000

def JC.cap2 (l : List JC) : Nat := (l.map fun y => min y.n 2000).sum
def JC.total (l : List JC) : Nat := (l.map fun y => y.n).sum
def JC.shortB (l : List JC) : Bool := decide (l.length ≤ 40) && decide (JC.total l ≤ 1200)
theorem JC.cap2_le (l : List JC) : JC.cap2 l ≤ JC.total l := by
  unfold JC.cap2 JC.total
  induction l with
  | nil => exact Nat.le_refl _
  | cons y l ih => simp only [List.map_cons, List.sum_cons]; omega
theorem JC.cap2_iff (l : List JC) : JC.cap2 l ≤ 1200 ↔ JC.total l ≤ 1200 := by
  constructor
  · unfold JC.cap2 JC.total
    intro h
    have key : ∀ l : List JC, (l.map fun y => min y.n 2000).sum ≤ 1200 → (l.map fun y => min y.n 2000).sum = (l.map fun y => y.n).sum := by
      intro l
      induction l with
      | nil => intro _; rfl
      | cons y l ih =>
        intro h
        simp only [List.map_cons, List.sum_cons] at h ⊢
        rw [ih (by omega)]
        omega
    rw [← key l h]; exact h
  · intro h; exact Nat.le_trans (JC.cap2_le l) h
theorem JC.cap2_take (l : List JC) (k : Nat) : JC.cap2 (l.take k) ≤ JC.cap2 l := by
  have e := congrArg JC.cap2 (List.take_append_drop k l)
  unfold JC.cap2 at e ⊢
  rw [List.map_append, List.sum_append] at e
  omega
section
variable {w0 : World} {A : Option Addr} {m c : Nat} {l : List JC}
theorem law12_short (h : Chs w0 w0.heap.size A m c l) (hm47 : m ≤ 9223372036854775807) :
    Calls Tryz.prog 5 #[.slice A m c] w0 fun e w' => e = .returned (.bool (JC.shortB l)) ∧ Below w0.heap.size w0 w' := by
  have hl := h.len
  by_cases h40 : 40 < m
  · have d1 : decide ((40 : Int) < (m : Int)) = true := decide_eq_true (by omega)
    have e1 : JC.shortB l = false := by unfold JC.shortB; rw [decide_eq_false (by omega)]; rfl
    rw [e1]
    clear h h40 hl e1
    go_enter Tryz.func5, Tryz.ntmps5
    go_wp2_with fail
    go_ret
    exact ⟨rfl, Below.refl _ _⟩
  have d1 : decide ((40 : Int) < (m : Int)) = false := decide_eq_false (by omega)
  have e1 : JC.shortB l = decide (JC.cap2 l ≤ 1200) := by
    unfold JC.shortB
    rw [decide_eq_true (by omega), Bool.true_and, decide_eq_decide]
    exact (JC.cap2_iff l).symm
  rw [e1]
  have HH := Lib.hid h
  have HC := Lib.hid (Scn.start w0)
  have hm := HC.out.rebase
  have HL := Lib.hid hl
  obtain ⟨R, hR⟩ : ∃ R, R = decide (JC.cap2 l ≤ 1200) := ⟨_, rfl⟩
  rw [← hR]
  have HR := Lib.hid hR
  clear h e1 hR hl
  go_enter Tryz.func5, Tryz.ntmps5
  go_wp2_with (first | go_skip | ((with_reducible show wpList _ _ _ _ _ (World.alloc _ _)); refine wpList_up hm ?_; clear hm; intro n w hn hn2 hk hm hd hd2 ho; (try rw [← hn]); replace hn := Nat.le_of_eq hn.symm) | ((first | ((with_reducible show wpList _ _ _ (Oper.mk _ (Op.box _ _) _ _ _ _ :: _) _ _); (refine bxA hm ?_; clear hm; intro n w hn hz hm ho; (try simp only [List.cons_append, List.nil_append] at hm))) | ((with_reducible show wpList _ _ _ (Oper.mk _ (Op.load _ _) _ _ _ _ :: _) _ _); first | (refine ldA hm ?_) | (refine laA hm ?_)) | ((with_reducible show wpList _ _ _ (Oper.mk _ (Op.store _ _ _) _ _ _ _ :: _) _ _); (refine stA hm ?_; clear hm; intro w hz hm ho)) | ((with_reducible show wpList _ _ _ (Oper.mk _ (Op.alloc _) _ _ _ _ :: _) _ _); (refine alA hm ?_; clear hm; intro n w hn hz hm ho; (try simp only [List.cons_append, List.nil_append] at hm)))); try simp only [Act.put, sxQ]))
  have hc2 := HC.out.resync hm
  clear HC hm
  simp only [List.nil_append, List.cons_append, List.set_cons_zero, List.set_cons_succ] at hc2
  have HC := Lib.hid hc2
  clear hc2
  have hm := HC.out.rebase
  go_loopg [3, 4] m (fun gk v3 v4 wr => ∃ k, k + gk = m ∧ v4 = .int .i64 (k : Int) ∧ v3 = .int .i64 (JC.cap2 (l.take k) : Int) ∧ Scn w0 wr [] [] [] [])
  case atStart => exact ⟨0, by omega, rfl, rfl, HC.out⟩
  case round =>
    clear HC hm
    obtain ⟨k, hkg, rfl, rfl, hsc⟩ := hrel
    have HC := Lib.hid hsc
    have hm := HC.out.rebase
    clear hsc
    obtain ⟨V, hV⟩ : ∃ V, V = JC.cap2 (l.take k) := ⟨_, rfl⟩
    rw [← hV]
    have HV := Lib.hid hV
    have hVl : V ≤ 2000 * m := by
      rw [hV]
      unfold JC.cap2
      have key : ∀ l : List JC, (l.map fun y => min y.n 2000).sum ≤ 2000 * l.length := by
        intro l
        induction l with
        | nil => exact Nat.le_refl _
        | cons y l ih => simp only [List.map_cons, List.sum_cons, List.length_cons]; omega
      have := key (l.take k)
      rw [List.length_take, HL.out] at this
      omega
    clear hV
    cases gk with
    | zero =>
      obtain rfl : m = k := by omega
      have ik : decide ((m : Int) < (m : Int)) = false := decide_eq_false (by omega)
      have hfin : R = decide (V ≤ 1200) := by rw [HR.out, HV.out, List.take_of_length_le (by rw [HL.out]; exact Nat.le_refl _)]
      subst hfin
      clear hkg
      go_wp2_with (first | go_skip | ((with_reducible show wpList _ _ _ _ _ (World.alloc _ _)); refine wpList_up hm ?_; clear hm; intro n w hn hn2 hk hm hd hd2 ho; (try rw [← hn]); replace hn := Nat.le_of_eq hn.symm) | ((first | ((with_reducible show wpList _ _ _ (Oper.mk _ (Op.box _ _) _ _ _ _ :: _) _ _); (refine bxA hm ?_; clear hm; intro n w hn hz hm ho; (try simp only [List.cons_append, List.nil_append] at hm))) | ((with_reducible show wpList _ _ _ (Oper.mk _ (Op.load _ _) _ _ _ _ :: _) _ _); first | (refine ldA hm ?_) | (refine laA hm ?_)) | ((with_reducible show wpList _ _ _ (Oper.mk _ (Op.store _ _ _) _ _ _ _ :: _) _ _); (refine stA hm ?_; clear hm; intro w hz hm ho)) | ((with_reducible show wpList _ _ _ (Oper.mk _ (Op.alloc _) _ _ _ _ :: _) _ _); (refine alA hm ?_; clear hm; intro n w hn hz hm ho; (try simp only [List.cons_append, List.nil_append] at hm)))); try simp only [Act.put, sxQ]))
      go_ret
      exact ⟨by simp; omega, (HC.out.resync hm).low⟩
    | succ j =>
      have hk : k < m := by omega
      have ik : decide ((k : Int) < (m : Int)) = true := decide_eq_true (by omega)
      by_cases hbig : 1200 < V
      · have d2 : decide ((V : Int) ≤ 1200) = false := decide_eq_false (by omega)
        have hfin : R = false := by
          rw [HR.out]
          refine decide_eq_false ?_
          have := JC.cap2_take l k
          rw [← HV.out] at this
          omega
        subst hfin
        go_wp2_with (first | go_skip | ((with_reducible show wpList _ _ _ _ _ (World.alloc _ _)); refine wpList_up hm ?_; clear hm; intro n w hn hn2 hk hm hd hd2 ho; (try rw [← hn]); replace hn := Nat.le_of_eq hn.symm) | ((first | ((with_reducible show wpList _ _ _ (Oper.mk _ (Op.box _ _) _ _ _ _ :: _) _ _); (refine bxA hm ?_; clear hm; intro n w hn hz hm ho; (try simp only [List.cons_append, List.nil_append] at hm))) | ((with_reducible show wpList _ _ _ (Oper.mk _ (Op.load _ _) _ _ _ _ :: _) _ _); first | (refine ldA hm ?_) | (refine laA hm ?_)) | ((with_reducible show wpList _ _ _ (Oper.mk _ (Op.store _ _ _) _ _ _ _ :: _) _ _); (refine stA hm ?_; clear hm; intro w hz hm ho)) | ((with_reducible show wpList _ _ _ (Oper.mk _ (Op.alloc _) _ _ _ _ :: _) _ _); (refine alA hm ?_; clear hm; intro n w hn hz hm ho; (try simp only [List.cons_append, List.nil_append] at hm)))); try simp only [Act.put, sxQ]))
        go_ret
        exact ⟨rfl, (HC.out.resync hm).low⟩
      · have d2 : decide ((V : Int) ≤ 1200) = true := decide_eq_true (by omega)
        obtain ⟨bb, oo, y, hA, hyl, hyk, RK⟩ := HH.out.keeps hk
        subst hA
        have hstep : JC.cap2 (l.take (k + 1)) = V + min y.n 2000 := by
          rw [List.take_add_one, hyk, HV.out]; simp [JC.cap2]
        have HS := Lib.hid hstep
        have RK2 : Hid (∀ u : World, Below w0.heap.size w0 u → Rngs [⟨bb, oo + k * 2 + 1, [.slice y.A y.n y.c]⟩] u) := Lib.hid fun u hu r hr => by
          obtain rfl := List.mem_singleton.1 hr
          intro q v hv
          cases q with
          | zero => cases hv; exact RK.out u hu _ (List.mem_singleton.2 rfl) 1 _ rfl
          | succ q => simp at hv
        clear hstep hyl hyk RK
        go_wp2_with (first | go_skip | ((with_reducible show wpList _ _ _ _ _ (World.alloc _ _)); refine wpList_up hm ?_; clear hm; intro n w hn hn2 hk hm hd hd2 ho; (try rw [← hn]); replace hn := Nat.le_of_eq hn.symm) | ((first | ((with_reducible show wpList _ _ _ (Oper.mk _ (Op.box _ _) _ _ _ _ :: _) _ _); (refine bxA hm ?_; clear hm; intro n w hn hz hm ho; (try simp only [List.cons_append, List.nil_append] at hm))) | ((with_reducible show wpList _ _ _ (Oper.mk _ (Op.load _ _) _ _ _ _ :: _) _ _); first | (refine ldA hm ?_) | (refine laA hm ?_) | (refine lcA (RK2.out _ (HC.out.resync hm).low) ?_) | (refine lrA (RK2.out _ (HC.out.resync hm).low) ?_)) | ((with_reducible show wpList _ _ _ (Oper.mk _ (Op.store _ _ _) _ _ _ _ :: _) _ _); (refine stA hm ?_; clear hm; intro w hz hm ho)) | ((with_reducible show wpList _ _ _ (Oper.mk _ (Op.alloc _) _ _ _ _ :: _) _ _); (refine alA hm ?_; clear hm; intro n w hn hz hm ho; (try simp only [List.cons_append, List.nil_append] at hm)))); try simp only [Act.put, sxQ]))
        go_roundg j
        case measure => omega
        case rel => exact ⟨k + 1, by omega, by go_num, by rw [HS.out]; go_num, (HC.out.resync hm).keep 0 0 0⟩
end
theorem ref12_Size (n : Nat) (hn : n ≤ 100000) (w : World) : Calls Tryz.prog 24 #[.int .i64 (n : Int)] w fun e w' => e = .returned (.int .i64 (48 * ((n - 32 : Nat) : Int))) ∧ w' = w := by
  by_cases h : n ≤ 32
  · have d1 : decide ((n : Int) ≤ 32) = true := decide_eq_true (by omega)
    rw [show n - 32 = 0 by omega]
    clear h
    go_enter Tryz.func24, Tryz.ntmps24
    go_wp2_with fail
    go_ret
    exact ⟨rfl, rfl⟩
  · obtain ⟨k, rfl⟩ : ∃ k, n = k + 32 := ⟨n - 32, by omega⟩
    have d1 : decide ((k : Int) + 32 ≤ 32) = false := decide_eq_false (by omega)
    rw [show k + 32 - 32 = k by omega]
    have u1 : wrap64 (((k + 32 : Nat) : Int) - 32) = (k : Int) := by rw [IntWalk.wrap64_in _ (by omega)]; omega
    have u2 : wrap64 (48 * (k : Int)) = 48 * (k : Int) := IntWalk.wrap64_in _ (by omega)
    clear h
    go_enter Tryz.func24, Tryz.ntmps24
    go_wp2_with fail
    go_ret
    exact ⟨rfl, rfl⟩
end Go.Proofs.YtmhjddmamknglaaGreat
