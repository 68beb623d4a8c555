/-
  The journal: Read.
-/
import Derived.Test.YtmhjddmamknglaaGreatZ0
import Derived.Test.YtmhjddmamknglaaGreatJnE
namespace Go.Proofs.YtmhjddmamknglaaGreat
set_option maxRecDepth 100000
set_option linter.unusedSimpArgs false
set_option linter.unusedVariables false
open Go.RowKit
set_option maxHeartbeats 8000000

namespace Jn
/-- The reference's Read. -/
def rread (S : Bs) (off n : Int) : Bs × Int := if off < 0 ∨ n < 0 ∨ (S.length : Int) < off ∨ (S.length : Int) - off < n then ([], 2) else ((S.drop off.toNat).take n.toNat, 0)
theorem flat_len {st : St} (h : ∀ x ∈ st, x.length = 48) : (flat st).length = 48 * (st.length - 32) := by
  unfold flat
  rw [flatten_length _ (fun x hx => h x (List.mem_of_mem_drop hx)), List.length_drop]
end Jn
theorem PL.all48 {q : Prop} {B : Nat} {p : Pg.P} {st : List (List UInt8)} (L : PL q B p st) : ∀ x ∈ st, x.length = 48 := fun x hx => by
  obtain ⟨i, hi, rfl⟩ := List.mem_iff_getElem.1 hx
  have := L.st_len hi
  rwa [Jn.getD_eq hi] at this
section
variable {w0 : World} {g gj B : Nat} {G : Nat → Prop} {s : PgS} {p : Pg.P} {st : List (List UInt8)} {q : Prop}
theorem jn_Read (hj : JAt w0 gj g) (hd : ¬ G gj) (H : PAt w0 g G s p) (L : PL q B p st) (off n0 : Int) (hB : B + 200000000 ≤ 900000000) :
    Calls Tryz.prog 20 #[.pointer (some ⟨gj, 0, none⟩), .int .i64 off, .int .i64 n0] w0 fun e w' =>
      ∃ A k m c, e = .returned (.tuple #[.slice A k m, .int .i64 (Jn.rread (Jn.flat st) off n0).2]) ∧ k = (Jn.rread (Jn.flat st) off n0).1.length ∧ Own w' w0.heap.size 5 1 A k m (bcells (Jn.rread (Jn.flat st) off n0).1) ∧ PAt w' g G s (p.more c) ∧ PL q (B + 200000000) (p.more c) st ∧ Only G w0 w' := by
  have HP := L.pos
  have hfl := Jn.flat_len L.all48
  have HC := Lib.hid (Mth.jn hj hd H)
  have RKJ := Lib.hid (JAt.rng hj hd)
  have hm := HC.out.rebase
  have HL := Lib.hid L
  have HD := Lib.hid hd
  obtain ⟨N, hN⟩ : ∃ N, N = st.length - 32 := ⟨_, rfl⟩
  have hN2 : N ≤ 2730 := by omega
  rw [← hN] at hfl
  have HN := Lib.hid hN
  have HN2 := Lib.hid hN2
  have HFL := Lib.hid hfl
  by_cases hbad : off < 0 ∨ n0 < 0 ∨ ((Jn.flat st).length : Int) < off ∨ ((Jn.flat st).length : Int) - off < n0
  · have e1 : Jn.rread (Jn.flat st) off n0 = ([], 2) := by unfold Jn.rread; rw [if_pos hbad]
    rw [e1]
    rw [hfl] at hbad
    clear hj hd H L e1 hfl HP hN
    by_cases h1 : off < 0
    · clear hbad
      have d1 : decide (off < 0) = true := decide_eq_true h1
      clear h1

      go_enter Tryz.func20, Tryz.ntmps20
      go_wp2_with (first | go_skip | ((with_reducible show wpList _ _ _ _ _ (World.alloc _ _)); refine wpList_up hm ?_; clear hm; intro n w hn hn2 hk hm hd hd2 ho; (try rw [← hn]); replace hn := Nat.le_of_eq hn.symm) | ((first | ((with_reducible show wpList _ _ _ (Oper.mk _ (Op.box _ _) _ _ _ _ :: _) _ _); (refine bxA hm ?_; clear hm; intro n w hn hz hm ho; (try simp only [List.cons_append, List.nil_append] at hm))) | ((with_reducible show wpList _ _ _ (Oper.mk _ (Op.load _ _) _ _ _ _ :: _) _ _); first | (refine ldA hm ?_) | (refine laA hm ?_) | (refine lcA (RKJ.out _ (HC.out.resync hm).low) ?_) | (refine lrA (RKJ.out _ (HC.out.resync hm).low) ?_)) | ((with_reducible show wpList _ _ _ (Oper.mk _ (Op.store _ _ _) _ _ _ _ :: _) _ _); (refine stA hm ?_; clear hm; intro w hz hm ho)) | ((with_reducible show wpList _ _ _ (Oper.mk _ (Op.alloc _) _ _ _ _ :: _) _ _); (refine alA hm ?_; clear hm; intro n w hn hz hm ho; (try simp only [List.cons_append, List.nil_append] at hm)))); try simp only [Act.put, sxQ]))
      go_at_call 26
      refine (jn_made ((HC.out.resync hm).val 0 rfl)).mono ?_
      rintro e w2 ⟨rfl, hb2⟩
      have hc2 := (HC.out.resync hm).below hb2
      clear hb2
      clear HC hm
      simp only [List.nil_append, List.cons_append, List.set_cons_zero, List.set_cons_succ] at hc2
      have HC := Lib.hid hc2
      clear hc2
      have hm := HC.out.rebase
      go_wp2_with (first | go_skip | ((with_reducible show wpList _ _ _ _ _ (World.alloc _ _)); refine wpList_up hm ?_; clear hm; intro n w hn hn2 hk hm hd hd2 ho; (try rw [← hn]); replace hn := Nat.le_of_eq hn.symm) | ((first | ((with_reducible show wpList _ _ _ (Oper.mk _ (Op.box _ _) _ _ _ _ :: _) _ _); (refine bxA hm ?_; clear hm; intro n w hn hz hm ho; (try simp only [List.cons_append, List.nil_append] at hm))) | ((with_reducible show wpList _ _ _ (Oper.mk _ (Op.load _ _) _ _ _ _ :: _) _ _); first | (refine ldA hm ?_) | (refine laA hm ?_) | (refine lcA (RKJ.out _ (HC.out.resync hm).low) ?_) | (refine lrA (RKJ.out _ (HC.out.resync hm).low) ?_)) | ((with_reducible show wpList _ _ _ (Oper.mk _ (Op.store _ _ _) _ _ _ _ :: _) _ _); (refine stA hm ?_; clear hm; intro w hz hm ho)) | ((with_reducible show wpList _ _ _ (Oper.mk _ (Op.alloc _) _ _ _ _ :: _) _ _); (refine alA hm ?_; clear hm; intro n w hn hz hm ho; (try simp only [List.cons_append, List.nil_append] at hm)))); try simp only [Act.put, sxQ]))
      go_at_call 27
      refine (jp_Alive ((HC.out.resync hm).obj 0 rfl) HL.out).mono ?_
      rintro e w3 ⟨rfl, hb3⟩
      have hc2 := (HC.out.resync hm).below hb3
      clear hb3
      clear HC hm
      simp only [List.nil_append, List.cons_append, List.set_cons_zero, List.set_cons_succ] at hc2
      have HC := Lib.hid hc2
      clear hc2
      have hm := HC.out.rebase
      go_wp2_with (first | (go_at_call 47; refine (jn_Size ((HC.out.resync hm).val 0 rfl) ((HC.out.resync hm).obj 0 rfl) HL.out).mono ?_; rw [← HN.out]; rintro e w4 ⟨rfl, hb4⟩; have hc2 := (HC.out.resync hm).below hb4; clear hb4; clear HC hm; simp only [List.nil_append, List.cons_append, List.set_cons_zero, List.set_cons_succ] at hc2; have HC := Lib.hid hc2; clear hc2; have hm := HC.out.rebase) | go_skip | ((with_reducible show wpList _ _ _ _ _ (World.alloc _ _)); refine wpList_up hm ?_; clear hm; intro n w hn hn2 hk hm hd hd2 ho; (try rw [← hn]); replace hn := Nat.le_of_eq hn.symm) | ((first | ((with_reducible show wpList _ _ _ (Oper.mk _ (Op.box _ _) _ _ _ _ :: _) _ _); (refine bxA hm ?_; clear hm; intro n w hn hz hm ho; (try simp only [List.cons_append, List.nil_append] at hm))) | ((with_reducible show wpList _ _ _ (Oper.mk _ (Op.load _ _) _ _ _ _ :: _) _ _); first | (refine ldA hm ?_) | (refine laA hm ?_) | (refine lcA (RKJ.out _ (HC.out.resync hm).low) ?_) | (refine lrA (RKJ.out _ (HC.out.resync hm).low) ?_)) | ((with_reducible show wpList _ _ _ (Oper.mk _ (Op.store _ _ _) _ _ _ _ :: _) _ _); (refine stA hm ?_; clear hm; intro w hz hm ho)) | ((with_reducible show wpList _ _ _ (Oper.mk _ (Op.alloc _) _ _ _ _ :: _) _ _); (refine alA hm ?_; clear hm; intro n w hn hz hm ho; (try simp only [List.cons_append, List.nil_append] at hm)))); try simp only [Act.put, sxQ]))
      go_ret2
      have hsc := HC.out.resync hm
      exact ⟨none, 0, 0, 0, rfl, rfl, Own.none_ _ _ _ _ _, hsc.obj 0 rfl, HL.out.mono (by omega), hsc.low⟩
    by_cases h2 : n0 < 0
    · clear hbad
      have d1 : decide (off < 0) = false := decide_eq_false h1
      have d2 : decide (n0 < 0) = true := decide_eq_true h2
      clear h1 h2

      go_enter Tryz.func20, Tryz.ntmps20
      go_wp2_with (first | go_skip | ((with_reducible show wpList _ _ _ _ _ (World.alloc _ _)); refine wpList_up hm ?_; clear hm; intro n w hn hn2 hk hm hd hd2 ho; (try rw [← hn]); replace hn := Nat.le_of_eq hn.symm) | ((first | ((with_reducible show wpList _ _ _ (Oper.mk _ (Op.box _ _) _ _ _ _ :: _) _ _); (refine bxA hm ?_; clear hm; intro n w hn hz hm ho; (try simp only [List.cons_append, List.nil_append] at hm))) | ((with_reducible show wpList _ _ _ (Oper.mk _ (Op.load _ _) _ _ _ _ :: _) _ _); first | (refine ldA hm ?_) | (refine laA hm ?_) | (refine lcA (RKJ.out _ (HC.out.resync hm).low) ?_) | (refine lrA (RKJ.out _ (HC.out.resync hm).low) ?_)) | ((with_reducible show wpList _ _ _ (Oper.mk _ (Op.store _ _ _) _ _ _ _ :: _) _ _); (refine stA hm ?_; clear hm; intro w hz hm ho)) | ((with_reducible show wpList _ _ _ (Oper.mk _ (Op.alloc _) _ _ _ _ :: _) _ _); (refine alA hm ?_; clear hm; intro n w hn hz hm ho; (try simp only [List.cons_append, List.nil_append] at hm)))); try simp only [Act.put, sxQ]))
      go_at_call 26
      refine (jn_made ((HC.out.resync hm).val 0 rfl)).mono ?_
      rintro e w2 ⟨rfl, hb2⟩
      have hc2 := (HC.out.resync hm).below hb2
      clear hb2
      clear HC hm
      simp only [List.nil_append, List.cons_append, List.set_cons_zero, List.set_cons_succ] at hc2
      have HC := Lib.hid hc2
      clear hc2
      have hm := HC.out.rebase
      go_wp2_with (first | go_skip | ((with_reducible show wpList _ _ _ _ _ (World.alloc _ _)); refine wpList_up hm ?_; clear hm; intro n w hn hn2 hk hm hd hd2 ho; (try rw [← hn]); replace hn := Nat.le_of_eq hn.symm) | ((first | ((with_reducible show wpList _ _ _ (Oper.mk _ (Op.box _ _) _ _ _ _ :: _) _ _); (refine bxA hm ?_; clear hm; intro n w hn hz hm ho; (try simp only [List.cons_append, List.nil_append] at hm))) | ((with_reducible show wpList _ _ _ (Oper.mk _ (Op.load _ _) _ _ _ _ :: _) _ _); first | (refine ldA hm ?_) | (refine laA hm ?_) | (refine lcA (RKJ.out _ (HC.out.resync hm).low) ?_) | (refine lrA (RKJ.out _ (HC.out.resync hm).low) ?_)) | ((with_reducible show wpList _ _ _ (Oper.mk _ (Op.store _ _ _) _ _ _ _ :: _) _ _); (refine stA hm ?_; clear hm; intro w hz hm ho)) | ((with_reducible show wpList _ _ _ (Oper.mk _ (Op.alloc _) _ _ _ _ :: _) _ _); (refine alA hm ?_; clear hm; intro n w hn hz hm ho; (try simp only [List.cons_append, List.nil_append] at hm)))); try simp only [Act.put, sxQ]))
      go_at_call 27
      refine (jp_Alive ((HC.out.resync hm).obj 0 rfl) HL.out).mono ?_
      rintro e w3 ⟨rfl, hb3⟩
      have hc2 := (HC.out.resync hm).below hb3
      clear hb3
      clear HC hm
      simp only [List.nil_append, List.cons_append, List.set_cons_zero, List.set_cons_succ] at hc2
      have HC := Lib.hid hc2
      clear hc2
      have hm := HC.out.rebase
      go_wp2_with (first | (go_at_call 47; refine (jn_Size ((HC.out.resync hm).val 0 rfl) ((HC.out.resync hm).obj 0 rfl) HL.out).mono ?_; rw [← HN.out]; rintro e w4 ⟨rfl, hb4⟩; have hc2 := (HC.out.resync hm).below hb4; clear hb4; clear HC hm; simp only [List.nil_append, List.cons_append, List.set_cons_zero, List.set_cons_succ] at hc2; have HC := Lib.hid hc2; clear hc2; have hm := HC.out.rebase) | go_skip | ((with_reducible show wpList _ _ _ _ _ (World.alloc _ _)); refine wpList_up hm ?_; clear hm; intro n w hn hn2 hk hm hd hd2 ho; (try rw [← hn]); replace hn := Nat.le_of_eq hn.symm) | ((first | ((with_reducible show wpList _ _ _ (Oper.mk _ (Op.box _ _) _ _ _ _ :: _) _ _); (refine bxA hm ?_; clear hm; intro n w hn hz hm ho; (try simp only [List.cons_append, List.nil_append] at hm))) | ((with_reducible show wpList _ _ _ (Oper.mk _ (Op.load _ _) _ _ _ _ :: _) _ _); first | (refine ldA hm ?_) | (refine laA hm ?_) | (refine lcA (RKJ.out _ (HC.out.resync hm).low) ?_) | (refine lrA (RKJ.out _ (HC.out.resync hm).low) ?_)) | ((with_reducible show wpList _ _ _ (Oper.mk _ (Op.store _ _ _) _ _ _ _ :: _) _ _); (refine stA hm ?_; clear hm; intro w hz hm ho)) | ((with_reducible show wpList _ _ _ (Oper.mk _ (Op.alloc _) _ _ _ _ :: _) _ _); (refine alA hm ?_; clear hm; intro n w hn hz hm ho; (try simp only [List.cons_append, List.nil_append] at hm)))); try simp only [Act.put, sxQ]))
      go_ret2
      have hsc := HC.out.resync hm
      exact ⟨none, 0, 0, 0, rfl, rfl, Own.none_ _ _ _ _ _, hsc.obj 0 rfl, HL.out.mono (by omega), hsc.low⟩
    by_cases h3 : 48 * (N : Int) < off
    · clear hbad
      have d1 : decide (off < 0) = false := decide_eq_false h1
      have d2 : decide (n0 < 0) = false := decide_eq_false h2
      have d3 : decide (48 * (N : Int) < off) = true := decide_eq_true (by omega)
      clear h1 h2 h3

      go_enter Tryz.func20, Tryz.ntmps20
      go_wp2_with (first | go_skip | ((with_reducible show wpList _ _ _ _ _ (World.alloc _ _)); refine wpList_up hm ?_; clear hm; intro n w hn hn2 hk hm hd hd2 ho; (try rw [← hn]); replace hn := Nat.le_of_eq hn.symm) | ((first | ((with_reducible show wpList _ _ _ (Oper.mk _ (Op.box _ _) _ _ _ _ :: _) _ _); (refine bxA hm ?_; clear hm; intro n w hn hz hm ho; (try simp only [List.cons_append, List.nil_append] at hm))) | ((with_reducible show wpList _ _ _ (Oper.mk _ (Op.load _ _) _ _ _ _ :: _) _ _); first | (refine ldA hm ?_) | (refine laA hm ?_) | (refine lcA (RKJ.out _ (HC.out.resync hm).low) ?_) | (refine lrA (RKJ.out _ (HC.out.resync hm).low) ?_)) | ((with_reducible show wpList _ _ _ (Oper.mk _ (Op.store _ _ _) _ _ _ _ :: _) _ _); (refine stA hm ?_; clear hm; intro w hz hm ho)) | ((with_reducible show wpList _ _ _ (Oper.mk _ (Op.alloc _) _ _ _ _ :: _) _ _); (refine alA hm ?_; clear hm; intro n w hn hz hm ho; (try simp only [List.cons_append, List.nil_append] at hm)))); try simp only [Act.put, sxQ]))
      go_at_call 26
      refine (jn_made ((HC.out.resync hm).val 0 rfl)).mono ?_
      rintro e w2 ⟨rfl, hb2⟩
      have hc2 := (HC.out.resync hm).below hb2
      clear hb2
      clear HC hm
      simp only [List.nil_append, List.cons_append, List.set_cons_zero, List.set_cons_succ] at hc2
      have HC := Lib.hid hc2
      clear hc2
      have hm := HC.out.rebase
      go_wp2_with (first | go_skip | ((with_reducible show wpList _ _ _ _ _ (World.alloc _ _)); refine wpList_up hm ?_; clear hm; intro n w hn hn2 hk hm hd hd2 ho; (try rw [← hn]); replace hn := Nat.le_of_eq hn.symm) | ((first | ((with_reducible show wpList _ _ _ (Oper.mk _ (Op.box _ _) _ _ _ _ :: _) _ _); (refine bxA hm ?_; clear hm; intro n w hn hz hm ho; (try simp only [List.cons_append, List.nil_append] at hm))) | ((with_reducible show wpList _ _ _ (Oper.mk _ (Op.load _ _) _ _ _ _ :: _) _ _); first | (refine ldA hm ?_) | (refine laA hm ?_) | (refine lcA (RKJ.out _ (HC.out.resync hm).low) ?_) | (refine lrA (RKJ.out _ (HC.out.resync hm).low) ?_)) | ((with_reducible show wpList _ _ _ (Oper.mk _ (Op.store _ _ _) _ _ _ _ :: _) _ _); (refine stA hm ?_; clear hm; intro w hz hm ho)) | ((with_reducible show wpList _ _ _ (Oper.mk _ (Op.alloc _) _ _ _ _ :: _) _ _); (refine alA hm ?_; clear hm; intro n w hn hz hm ho; (try simp only [List.cons_append, List.nil_append] at hm)))); try simp only [Act.put, sxQ]))
      go_at_call 27
      refine (jp_Alive ((HC.out.resync hm).obj 0 rfl) HL.out).mono ?_
      rintro e w3 ⟨rfl, hb3⟩
      have hc2 := (HC.out.resync hm).below hb3
      clear hb3
      clear HC hm
      simp only [List.nil_append, List.cons_append, List.set_cons_zero, List.set_cons_succ] at hc2
      have HC := Lib.hid hc2
      clear hc2
      have hm := HC.out.rebase
      go_wp2_with (first | (go_at_call 47; refine (jn_Size ((HC.out.resync hm).val 0 rfl) ((HC.out.resync hm).obj 0 rfl) HL.out).mono ?_; rw [← HN.out]; rintro e w4 ⟨rfl, hb4⟩; have hc2 := (HC.out.resync hm).below hb4; clear hb4; clear HC hm; simp only [List.nil_append, List.cons_append, List.set_cons_zero, List.set_cons_succ] at hc2; have HC := Lib.hid hc2; clear hc2; have hm := HC.out.rebase) | go_skip | ((with_reducible show wpList _ _ _ _ _ (World.alloc _ _)); refine wpList_up hm ?_; clear hm; intro n w hn hn2 hk hm hd hd2 ho; (try rw [← hn]); replace hn := Nat.le_of_eq hn.symm) | ((first | ((with_reducible show wpList _ _ _ (Oper.mk _ (Op.box _ _) _ _ _ _ :: _) _ _); (refine bxA hm ?_; clear hm; intro n w hn hz hm ho; (try simp only [List.cons_append, List.nil_append] at hm))) | ((with_reducible show wpList _ _ _ (Oper.mk _ (Op.load _ _) _ _ _ _ :: _) _ _); first | (refine ldA hm ?_) | (refine laA hm ?_) | (refine lcA (RKJ.out _ (HC.out.resync hm).low) ?_) | (refine lrA (RKJ.out _ (HC.out.resync hm).low) ?_)) | ((with_reducible show wpList _ _ _ (Oper.mk _ (Op.store _ _ _) _ _ _ _ :: _) _ _); (refine stA hm ?_; clear hm; intro w hz hm ho)) | ((with_reducible show wpList _ _ _ (Oper.mk _ (Op.alloc _) _ _ _ _ :: _) _ _); (refine alA hm ?_; clear hm; intro n w hn hz hm ho; (try simp only [List.cons_append, List.nil_append] at hm)))); try simp only [Act.put, sxQ]))
      go_ret2
      have hsc := HC.out.resync hm
      exact ⟨none, 0, 0, 0, rfl, rfl, Own.none_ _ _ _ _ _, hsc.obj 0 rfl, HL.out.mono (by omega), hsc.low⟩
    have h4 : 48 * (N : Int) - off < n0 := by omega
    clear hbad
    have d1 : decide (off < 0) = false := decide_eq_false h1
    have d2 : decide (n0 < 0) = false := decide_eq_false h2
    have d3 : decide (48 * (N : Int) < off) = false := decide_eq_false (by omega)
    have u4 : wrap64 (48 * (N : Int) - off) = 48 * (N : Int) - off := IntWalk.wrap64_in _ (by omega)
    have d4 : decide (48 * (N : Int) - off < n0) = true := decide_eq_true (by omega)
    clear h1 h2 h3 h4

    go_enter Tryz.func20, Tryz.ntmps20
    go_wp2_with (first | go_skip | ((with_reducible show wpList _ _ _ _ _ (World.alloc _ _)); refine wpList_up hm ?_; clear hm; intro n w hn hn2 hk hm hd hd2 ho; (try rw [← hn]); replace hn := Nat.le_of_eq hn.symm) | ((first | ((with_reducible show wpList _ _ _ (Oper.mk _ (Op.box _ _) _ _ _ _ :: _) _ _); (refine bxA hm ?_; clear hm; intro n w hn hz hm ho; (try simp only [List.cons_append, List.nil_append] at hm))) | ((with_reducible show wpList _ _ _ (Oper.mk _ (Op.load _ _) _ _ _ _ :: _) _ _); first | (refine ldA hm ?_) | (refine laA hm ?_) | (refine lcA (RKJ.out _ (HC.out.resync hm).low) ?_) | (refine lrA (RKJ.out _ (HC.out.resync hm).low) ?_)) | ((with_reducible show wpList _ _ _ (Oper.mk _ (Op.store _ _ _) _ _ _ _ :: _) _ _); (refine stA hm ?_; clear hm; intro w hz hm ho)) | ((with_reducible show wpList _ _ _ (Oper.mk _ (Op.alloc _) _ _ _ _ :: _) _ _); (refine alA hm ?_; clear hm; intro n w hn hz hm ho; (try simp only [List.cons_append, List.nil_append] at hm)))); try simp only [Act.put, sxQ]))
    go_at_call 26
    refine (jn_made ((HC.out.resync hm).val 0 rfl)).mono ?_
    rintro e w2 ⟨rfl, hb2⟩
    have hc2 := (HC.out.resync hm).below hb2
    clear hb2
    clear HC hm
    simp only [List.nil_append, List.cons_append, List.set_cons_zero, List.set_cons_succ] at hc2
    have HC := Lib.hid hc2
    clear hc2
    have hm := HC.out.rebase
    go_wp2_with (first | go_skip | ((with_reducible show wpList _ _ _ _ _ (World.alloc _ _)); refine wpList_up hm ?_; clear hm; intro n w hn hn2 hk hm hd hd2 ho; (try rw [← hn]); replace hn := Nat.le_of_eq hn.symm) | ((first | ((with_reducible show wpList _ _ _ (Oper.mk _ (Op.box _ _) _ _ _ _ :: _) _ _); (refine bxA hm ?_; clear hm; intro n w hn hz hm ho; (try simp only [List.cons_append, List.nil_append] at hm))) | ((with_reducible show wpList _ _ _ (Oper.mk _ (Op.load _ _) _ _ _ _ :: _) _ _); first | (refine ldA hm ?_) | (refine laA hm ?_) | (refine lcA (RKJ.out _ (HC.out.resync hm).low) ?_) | (refine lrA (RKJ.out _ (HC.out.resync hm).low) ?_)) | ((with_reducible show wpList _ _ _ (Oper.mk _ (Op.store _ _ _) _ _ _ _ :: _) _ _); (refine stA hm ?_; clear hm; intro w hz hm ho)) | ((with_reducible show wpList _ _ _ (Oper.mk _ (Op.alloc _) _ _ _ _ :: _) _ _); (refine alA hm ?_; clear hm; intro n w hn hz hm ho; (try simp only [List.cons_append, List.nil_append] at hm)))); try simp only [Act.put, sxQ]))
    go_at_call 27
    refine (jp_Alive ((HC.out.resync hm).obj 0 rfl) HL.out).mono ?_
    rintro e w3 ⟨rfl, hb3⟩
    have hc2 := (HC.out.resync hm).below hb3
    clear hb3
    clear HC hm
    simp only [List.nil_append, List.cons_append, List.set_cons_zero, List.set_cons_succ] at hc2
    have HC := Lib.hid hc2
    clear hc2
    have hm := HC.out.rebase
    go_wp2_with (first | (go_at_call 47; refine (jn_Size ((HC.out.resync hm).val 0 rfl) ((HC.out.resync hm).obj 0 rfl) HL.out).mono ?_; rw [← HN.out]; rintro e w4 ⟨rfl, hb4⟩; have hc2 := (HC.out.resync hm).below hb4; clear hb4; clear HC hm; simp only [List.nil_append, List.cons_append, List.set_cons_zero, List.set_cons_succ] at hc2; have HC := Lib.hid hc2; clear hc2; have hm := HC.out.rebase) | go_skip | ((with_reducible show wpList _ _ _ _ _ (World.alloc _ _)); refine wpList_up hm ?_; clear hm; intro n w hn hn2 hk hm hd hd2 ho; (try rw [← hn]); replace hn := Nat.le_of_eq hn.symm) | ((first | ((with_reducible show wpList _ _ _ (Oper.mk _ (Op.box _ _) _ _ _ _ :: _) _ _); (refine bxA hm ?_; clear hm; intro n w hn hz hm ho; (try simp only [List.cons_append, List.nil_append] at hm))) | ((with_reducible show wpList _ _ _ (Oper.mk _ (Op.load _ _) _ _ _ _ :: _) _ _); first | (refine ldA hm ?_) | (refine laA hm ?_) | (refine lcA (RKJ.out _ (HC.out.resync hm).low) ?_) | (refine lrA (RKJ.out _ (HC.out.resync hm).low) ?_)) | ((with_reducible show wpList _ _ _ (Oper.mk _ (Op.store _ _ _) _ _ _ _ :: _) _ _); (refine stA hm ?_; clear hm; intro w hz hm ho)) | ((with_reducible show wpList _ _ _ (Oper.mk _ (Op.alloc _) _ _ _ _ :: _) _ _); (refine alA hm ?_; clear hm; intro n w hn hz hm ho; (try simp only [List.cons_append, List.nil_append] at hm)))); try simp only [Act.put, sxQ]))
    go_ret2
    have hsc := HC.out.resync hm
    exact ⟨none, 0, 0, 0, rfl, rfl, Own.none_ _ _ _ _ _, hsc.obj 0 rfl, HL.out.mono (by omega), hsc.low⟩
  · have e1 : Jn.rread (Jn.flat st) off n0 = (((Jn.flat st).drop off.toNat).take n0.toNat, 0) := by unfold Jn.rread; rw [if_neg hbad]
    rw [e1]
    rw [hfl] at hbad
    obtain ⟨o1, rfl⟩ := Int.eq_ofNat_of_zero_le (a := off) (by omega)
    obtain ⟨n1, rfl⟩ := Int.eq_ofNat_of_zero_le (a := n0) (by omega)
    rw [Int.toNat_natCast, Int.toNat_natCast]
    clear hj hd H L e1 hN hfl
    have d1 : decide ((o1 : Int) < 0) = false := decide_eq_false (by omega)
    have d2 : decide ((n1 : Int) < 0) = false := decide_eq_false (by omega)
    have d3 : decide (48 * (N : Int) < (o1 : Int)) = false := decide_eq_false (by omega)
    have u4 : wrap64 (48 * (N : Int) - (o1 : Int)) = 48 * (N : Int) - (o1 : Int) := IntWalk.wrap64_in _ (by omega)
    have d4 : decide (48 * (N : Int) - (o1 : Int) < (n1 : Int)) = false := decide_eq_false (by omega)
    have HBD := Lib.hid (show o1 + n1 ≤ 48 * N by omega)
    clear hbad

    go_enter Tryz.func20, Tryz.ntmps20
    go_wp2_with (first | go_skip | ((with_reducible show wpList _ _ _ _ _ (World.alloc _ _)); refine wpList_up hm ?_; clear hm; intro n w hn hn2 hk hm hd hd2 ho; (try rw [← hn]); replace hn := Nat.le_of_eq hn.symm) | ((first | ((with_reducible show wpList _ _ _ (Oper.mk _ (Op.box _ _) _ _ _ _ :: _) _ _); (refine bxA hm ?_; clear hm; intro n w hn hz hm ho; (try simp only [List.cons_append, List.nil_append] at hm))) | ((with_reducible show wpList _ _ _ (Oper.mk _ (Op.load _ _) _ _ _ _ :: _) _ _); first | (refine ldA hm ?_) | (refine laA hm ?_) | (refine lcA (RKJ.out _ (HC.out.resync hm).low) ?_) | (refine lrA (RKJ.out _ (HC.out.resync hm).low) ?_)) | ((with_reducible show wpList _ _ _ (Oper.mk _ (Op.store _ _ _) _ _ _ _ :: _) _ _); (refine stA hm ?_; clear hm; intro w hz hm ho)) | ((with_reducible show wpList _ _ _ (Oper.mk _ (Op.alloc _) _ _ _ _ :: _) _ _); (refine alA hm ?_; clear hm; intro n w hn hz hm ho; (try simp only [List.cons_append, List.nil_append] at hm)))); try simp only [Act.put, sxQ]))
    go_at_call 26
    refine (jn_made ((HC.out.resync hm).val 0 rfl)).mono ?_
    rintro e w2 ⟨rfl, hb2⟩
    have hc2 := (HC.out.resync hm).below hb2
    clear hb2
    clear HC hm
    simp only [List.nil_append, List.cons_append, List.set_cons_zero, List.set_cons_succ] at hc2
    have HC := Lib.hid hc2
    clear hc2
    have hm := HC.out.rebase
    go_wp2_with (first | go_skip | ((with_reducible show wpList _ _ _ _ _ (World.alloc _ _)); refine wpList_up hm ?_; clear hm; intro n w hn hn2 hk hm hd hd2 ho; (try rw [← hn]); replace hn := Nat.le_of_eq hn.symm) | ((first | ((with_reducible show wpList _ _ _ (Oper.mk _ (Op.box _ _) _ _ _ _ :: _) _ _); (refine bxA hm ?_; clear hm; intro n w hn hz hm ho; (try simp only [List.cons_append, List.nil_append] at hm))) | ((with_reducible show wpList _ _ _ (Oper.mk _ (Op.load _ _) _ _ _ _ :: _) _ _); first | (refine ldA hm ?_) | (refine laA hm ?_) | (refine lcA (RKJ.out _ (HC.out.resync hm).low) ?_) | (refine lrA (RKJ.out _ (HC.out.resync hm).low) ?_)) | ((with_reducible show wpList _ _ _ (Oper.mk _ (Op.store _ _ _) _ _ _ _ :: _) _ _); (refine stA hm ?_; clear hm; intro w hz hm ho)) | ((with_reducible show wpList _ _ _ (Oper.mk _ (Op.alloc _) _ _ _ _ :: _) _ _); (refine alA hm ?_; clear hm; intro n w hn hz hm ho; (try simp only [List.cons_append, List.nil_append] at hm)))); try simp only [Act.put, sxQ]))
    go_at_call 27
    refine (jp_Alive ((HC.out.resync hm).obj 0 rfl) HL.out).mono ?_
    rintro e w3 ⟨rfl, hb3⟩
    have hc2 := (HC.out.resync hm).below hb3
    clear hb3
    clear HC hm
    simp only [List.nil_append, List.cons_append, List.set_cons_zero, List.set_cons_succ] at hc2
    have HC := Lib.hid hc2
    clear hc2
    have hm := HC.out.rebase
    go_wp2_with (first | (go_at_call 47; refine (jn_Size ((HC.out.resync hm).val 0 rfl) ((HC.out.resync hm).obj 0 rfl) HL.out).mono ?_; rw [← HN.out]; rintro e w4 ⟨rfl, hb4⟩; have hc2 := (HC.out.resync hm).below hb4; clear hb4; clear HC hm; simp only [List.nil_append, List.cons_append, List.set_cons_zero, List.set_cons_succ] at hc2; have HC := Lib.hid hc2; clear hc2; have hm := HC.out.rebase) | go_skip | ((with_reducible show wpList _ _ _ _ _ (World.alloc _ _)); refine wpList_up hm ?_; clear hm; intro n w hn hn2 hk hm hd hd2 ho; (try rw [← hn]); replace hn := Nat.le_of_eq hn.symm) | ((first | ((with_reducible show wpList _ _ _ (Oper.mk _ (Op.box _ _) _ _ _ _ :: _) _ _); (refine bxA hm ?_; clear hm; intro n w hn hz hm ho; (try simp only [List.cons_append, List.nil_append] at hm))) | ((with_reducible show wpList _ _ _ (Oper.mk _ (Op.load _ _) _ _ _ _ :: _) _ _); first | (refine ldA hm ?_) | (refine laA hm ?_) | (refine lcA (RKJ.out _ (HC.out.resync hm).low) ?_) | (refine lrA (RKJ.out _ (HC.out.resync hm).low) ?_)) | ((with_reducible show wpList _ _ _ (Oper.mk _ (Op.store _ _ _) _ _ _ _ :: _) _ _); (refine stA hm ?_; clear hm; intro w hz hm ho)) | ((with_reducible show wpList _ _ _ (Oper.mk _ (Op.alloc _) _ _ _ _ :: _) _ _); (refine alA hm ?_; clear hm; intro n w hn hz hm ho; (try simp only [List.cons_append, List.nil_append] at hm)))); try simp only [Act.put, sxQ]))
    go_at_call 48
    have hcj := jn_pages ((HC.out.resync hm).val 0 rfl) HD.out ((HC.out.resync hm).obj 0 rfl) HL.out 32 o1 n1 (by have := HBD.out; have := HN2.out; omega) (by have := HBD.out; have := HN.out; omega)
    refine hcj.mono ?_
    rintro e w5 ⟨A5, m5, c5, rfl, ho5, hp5, hl5, hon5⟩
    have hlow := (HC.out.resync hm).low
    have hsz := (HC.out.resync hm).size
    go_wp2_with (first | go_skip | ((with_reducible show wpList _ _ _ _ _ (World.alloc _ _)); refine wpList_up hm ?_; clear hm; intro n w hn hn2 hk hm hd hd2 ho; (try rw [← hn]); replace hn := Nat.le_of_eq hn.symm) | ((first | ((with_reducible show wpList _ _ _ (Oper.mk _ (Op.box _ _) _ _ _ _ :: _) _ _); (refine bxA hm ?_; clear hm; intro n w hn hz hm ho; (try simp only [List.cons_append, List.nil_append] at hm))) | ((with_reducible show wpList _ _ _ (Oper.mk _ (Op.load _ _) _ _ _ _ :: _) _ _); first | (refine ldA hm ?_) | (refine laA hm ?_) | (refine lcA (RKJ.out _ (HC.out.resync hm).low) ?_) | (refine lrA (RKJ.out _ (HC.out.resync hm).low) ?_)) | ((with_reducible show wpList _ _ _ (Oper.mk _ (Op.store _ _ _) _ _ _ _ :: _) _ _); (refine stA hm ?_; clear hm; intro w hz hm ho)) | ((with_reducible show wpList _ _ _ (Oper.mk _ (Op.alloc _) _ _ _ _ :: _) _ _); (refine alA hm ?_; clear hm; intro n w hn hz hm ho; (try simp only [List.cons_append, List.nil_append] at hm)))); try simp only [Act.put, sxQ]))
    go_ret2
    refine ⟨A5, n1, m5, c5, rfl, ?_, ho5.mono hsz, hp5, hl5.mono (by have := HBD.out; have := HN2.out; omega), hlow.trans hon5⟩
    show n1 = (((Jn.flat st).drop o1).take n1).length
    rw [List.length_take, List.length_drop, HFL.out]
    have := HBD.out; omega
end
end Go.Proofs.YtmhjddmamknglaaGreat
