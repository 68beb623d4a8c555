/-
  Changes: a slice of them; slices.IndexFunc, slices.ContainsFunc; the weight.
-/
import Derived.Test.YtmhjddmamknglaaGreatZ0
import Derived.Test.YtmhjddmamknglaaGreatJnF
import Derived.Test.YtmhjddmamknglaaGreatZ4
import Derived.Test.YtmhjddmamknglaaGreatZ2
namespace Go.Proofs.YtmhjddmamknglaaGreat
set_option maxRecDepth 100000
set_option linter.unusedSimpArgs false
set_option linter.unusedVariables false
open Go.RowKit Go.ChangeShapes Go.WideShapes Go.Deep
set_option maxHeartbeats 8000000

/-- A change as it lies in memory. -/
structure JC where
  off : Int
  A : Option Addr
  n : Nat
  c : Nat
  bs : List UInt8
instance : Inhabited JC := ⟨⟨0, none, 0, 0, []⟩⟩
def JC.cells (y : JC) : List Value := [.int .i64 y.off, .slice y.A y.n y.c]
def JC.val (y : JC) : Value := .agg #[.int .i64 y.off, .slice y.A y.n y.c]
structure Chs (w : World) (B : Nat) (A : Option Addr) (n c : Nat) (l : List JC) : Prop where
  len : l.length = n
  cap : n ≤ c
  row : Recs JC.cells 2 w B A l
  ok : ∀ y ∈ l, Byt w B y.A y.n y.c y.bs
section
variable {w w' : World} {B B' : Nat} {A : Option Addr} {n c : Nat} {l : List JC}
theorem Chs.below (h : Chs w B A n c l) (hb : Below B w w') : Chs w' B A n c l := ⟨h.len, h.cap, h.row.below hb, fun y hy => (h.ok y hy).below hb⟩
theorem Chs.more (h : Chs w B A n c l) (hB : B ≤ B') : Chs w B' A n c l := ⟨h.len, h.cap, h.row.more hB, fun y hy => (h.ok y hy).more hB⟩
theorem Chs.at_ (h : Chs w B A n c l) {k : Nat} (hk : k < n) : ∃ (b o : Nat) (y : JC), A = some ⟨b, o, none⟩ ∧ b < B ∧ y ∈ l ∧ l[k]? = some y ∧ w.rangeAt b (o + k * 2) y.cells := by
  have hl := h.len
  obtain ⟨b, o, e, hb, hr⟩ := h.row (by omega)
  have hx : l[k]? = some l[k] := List.getElem?_eq_getElem (by omega)
  refine ⟨b, o, _, e, hb, List.mem_of_getElem? hx, hx, fun j v hv => ?_⟩
  have := hr k _ hx j v hv
  rwa [← Nat.add_assoc] at this
theorem Chs.keeps (h : Chs w B A n c l) {k : Nat} (hk : k < n) : ∃ (b o : Nat) (y : JC), A = some ⟨b, o, none⟩ ∧ y ∈ l ∧ l[k]? = some y ∧ Hid (∀ u : World, Below B w u → Rngs [⟨b, o + k * 2, [.int .i64 y.off, .slice y.A y.n y.c]⟩] u) := by
  obtain ⟨b, o, y, h1, h2, h3, h4, h5⟩ := h.at_ hk
  refine ⟨b, o, y, h1, h3, h4, Lib.hid fun u hu r hr => ?_⟩
  obtain rfl := List.mem_singleton.1 hr
  intro j v hv
  exact (World.cell?_of_block (hu.block b h2)).trans (h5 j v hv)
end
theorem chs_of_trod {H : Type} {enc : TypeId × Value → H} {w : World} {base : Nat} {spare : Nat → Bool} {held : Bool} {A : Option Addr} {n c : Nat} {d : DataW H} {p : List MemPlace}
    (h : DataW.Trod enc Tryz.prog w base spare held 22 (.slice A n c) d p) : ∃ l : List JC, (Chs w w.heap.size A n c l ∧ ∀ y ∈ l, (-9223372036854775808 ≤ y.off ∧ y.off ≤ 9223372036854775807) ∧ y.c ≤ maxLen) ∧ c ≤ maxLen := by
  obtain ⟨fuel, hf⟩ := h
  rcases flat_slice (k := 4) (ts := [3, 33]) Tryz.underlying22 (by kernel_rfl) hf with hcs | ⟨a, len, cap, hcs, hl, hm, hr⟩
  · simp [Value.cells] at hcs
    obtain ⟨rfl, rfl, rfl⟩ := hcs
    exact ⟨[], ⟨⟨rfl, Nat.le_refl _, fun hn => absurd hn (Nat.lt_irrefl 0), fun v hv => (by cases hv)⟩, fun y hy => (by cases hy)⟩, Nat.zero_le _⟩
  · simp [Value.cells] at hcs
    obtain ⟨rfl, rfl, rfl⟩ := hcs
    have hC : Tryz.prog.cellsOf 58 = 2 := by kernel_rfl
    rw [hC] at hr
    obtain ⟨l, h1, h2, h3⟩ := recs_of (cells := JC.cells) (s := 2) (n := n) (w := w) (a := a) (G := fun y => Byt w w.heap.size y.A y.n y.c y.bs ∧ (-9223372036854775808 ≤ y.off ∧ y.off ≤ 9223372036854775807) ∧ y.c ≤ maxLen) (fun x => ⟨_, rfl⟩) (fun i hi => by
      obtain ⟨v0, c0, t0⟩ := hr i hi 0 _ rfl
      obtain ⟨v1, c1, t1⟩ := hr i hi 1 _ rfl
      obtain ⟨z0, rfl, hz0⟩ := t0.int Tryz.underlying3
      obtain ⟨A4, n4, k4, b4, rfl, hb4, hm4⟩ := t1.byt Tryz.underlying33 Tryz.underlying5 (by kernel_rfl)
      refine ⟨⟨z0, A4, n4, k4, b4⟩, fun j v hv => ?_, hb4, hz0, hm4⟩
      match j, hv with
      | 0, hv => injection hv with hv; subst hv; exact c0
      | 1, hv => injection hv with hv; subst hv; exact c1
      | j + 2, hv => simp [JC.cells] at hv)
    exact ⟨l, ⟨⟨h1, hl, h2, fun y hy => (h3 y hy).1⟩, fun y hy => (h3 y hy).2⟩, hm⟩
section
variable {w0 : World} {A : Option Addr} {m c : Nat} {l : List JC}
theorem slices_IndexFuncJ (cv : Value) (pr : JC → Bool) (h : Chs w0 w0.heap.size A m c l) (hm47 : m ≤ 9223372036854775807)
    (HF : ∀ y ∈ l, ∀ u, Below w0.heap.size w0 u → Calls Tryz.prog 29 #[y.val, cv] u fun e w' => e = .returned (.bool (pr y)) ∧ Below u.heap.size u w') :
    Calls Tryz.prog 50 #[.slice A m c, .func (.func 29) #[] #[cv]] w0 fun e w' => ∃ z : Int, e = .returned (.int .i64 z) ∧ decide (0 ≤ z) = l.any pr ∧ Below w0.heap.size w0 w' := by
  have HH := Lib.hid h
  have HFF := Lib.hid HF
  have HC := Lib.hid (Scn.start w0)
  have hm := HC.out.rebase
  have HL := Lib.hid h.len
  clear h HF
  go_enter Tryz.func50, Tryz.ntmps50
  go_wp2_with (first | go_skip | ((with_reducible show wpList _ _ _ _ _ (World.alloc _ _)); refine wpList_up hm ?_; clear hm; intro n w hn hn2 hk hm hd hd2 ho; (try rw [← hn]); replace hn := Nat.le_of_eq hn.symm) | ((first | ((with_reducible show wpList _ _ _ (Oper.mk _ (Op.box _ _) _ _ _ _ :: _) _ _); (refine bxA hm ?_; clear hm; intro n w hn hz hm ho; (try simp only [List.cons_append, List.nil_append] at hm))) | ((with_reducible show wpList _ _ _ (Oper.mk _ (Op.load _ _) _ _ _ _ :: _) _ _); first | (refine ldA hm ?_) | (refine laA hm ?_)) | ((with_reducible show wpList _ _ _ (Oper.mk _ (Op.store _ _ _) _ _ _ _ :: _) _ _); (refine stA hm ?_; clear hm; intro w hz hm ho)) | ((with_reducible show wpList _ _ _ (Oper.mk _ (Op.alloc _) _ _ _ _ :: _) _ _); (refine alA hm ?_; clear hm; intro n w hn hz hm ho; (try simp only [List.cons_append, List.nil_append] at hm)))); try simp only [Act.put, sxQ]))
  have hc2 := HC.out.resync hm
  clear HC hm
  simp only [List.nil_append, List.cons_append, List.set_cons_zero, List.set_cons_succ] at hc2
  have HC := Lib.hid hc2
  clear hc2
  have hm := HC.out.rebase
  go_loopg [8] m (fun gk v8 wr => ∃ k, k + gk = m ∧ v8 = .int .i64 (k : Int) ∧ (∀ y ∈ l.take k, pr y = false) ∧ Scn w0 wr [] [] [] [])
  case atStart => exact ⟨0, by omega, rfl, fun y hy => by simp at hy, HC.out⟩
  case round =>
    clear HC hm
    obtain ⟨k, hkg, rfl, hno, hsc⟩ := hrel
    have HC := Lib.hid hsc
    have HNO := Lib.hid hno
    have hm := HC.out.rebase
    clear hsc hno
    cases gk with
    | zero =>
      obtain rfl : m = k := by omega
      have ik : decide ((m : Int) < (m : Int)) = false := decide_eq_false (by omega)
      clear hkg
      go_wp2_with (first | go_skip | ((with_reducible show wpList _ _ _ _ _ (World.alloc _ _)); refine wpList_up hm ?_; clear hm; intro n w hn hn2 hk hm hd hd2 ho; (try rw [← hn]); replace hn := Nat.le_of_eq hn.symm) | ((first | ((with_reducible show wpList _ _ _ (Oper.mk _ (Op.box _ _) _ _ _ _ :: _) _ _); (refine bxA hm ?_; clear hm; intro n w hn hz hm ho; (try simp only [List.cons_append, List.nil_append] at hm))) | ((with_reducible show wpList _ _ _ (Oper.mk _ (Op.load _ _) _ _ _ _ :: _) _ _); first | (refine ldA hm ?_) | (refine laA hm ?_)) | ((with_reducible show wpList _ _ _ (Oper.mk _ (Op.store _ _ _) _ _ _ _ :: _) _ _); (refine stA hm ?_; clear hm; intro w hz hm ho)) | ((with_reducible show wpList _ _ _ (Oper.mk _ (Op.alloc _) _ _ _ _ :: _) _ _); (refine alA hm ?_; clear hm; intro n w hn hz hm ho; (try simp only [List.cons_append, List.nil_append] at hm)))); try simp only [Act.put, sxQ]))
      go_ret
      refine ⟨-1, rfl, ?_, (HC.out.resync hm).low⟩
      have hno := HNO.out
      rw [List.take_of_length_le (by rw [HL.out]; exact Nat.le_refl _)] at hno
      have e1 : l.any pr = false := by rw [List.any_eq_false]; intro y hy; rw [hno y hy]; decide
      rw [e1]; rfl
    | succ j =>
      have hk : k < m := by omega
      have ik : decide ((k : Int) < (m : Int)) = true := decide_eq_true (by omega)
      obtain ⟨bb, oo, y, hA, hyl, hyk, RK⟩ := HH.out.keeps hk
      subst hA
      have HY := Lib.hid (And.intro hyl hyk)
      clear hyl hyk
      go_wp2_with (first | go_skip | ((with_reducible show wpList _ _ _ _ _ (World.alloc _ _)); refine wpList_up hm ?_; clear hm; intro n w hn hn2 hk hm hd hd2 ho; (try rw [← hn]); replace hn := Nat.le_of_eq hn.symm) | ((first | ((with_reducible show wpList _ _ _ (Oper.mk _ (Op.box _ _) _ _ _ _ :: _) _ _); (refine bxA hm ?_; clear hm; intro n w hn hz hm ho; (try simp only [List.cons_append, List.nil_append] at hm))) | ((with_reducible show wpList _ _ _ (Oper.mk _ (Op.load _ _) _ _ _ _ :: _) _ _); first | (refine ldA hm ?_) | (refine laA hm ?_) | (refine lcA (RK.out _ (HC.out.resync hm).low) ?_) | (refine lrA (RK.out _ (HC.out.resync hm).low) ?_)) | ((with_reducible show wpList _ _ _ (Oper.mk _ (Op.store _ _ _) _ _ _ _ :: _) _ _); (refine stA hm ?_; clear hm; intro w hz hm ho)) | ((with_reducible show wpList _ _ _ (Oper.mk _ (Op.alloc _) _ _ _ _ :: _) _ _); (refine alA hm ?_; clear hm; intro n w hn hz hm ho; (try simp only [List.cons_append, List.nil_append] at hm)))); try simp only [Act.put, sxQ]))
      have hff := HFF.out y HY.out.1 _ (HC.out.resync hm).low
      unfold JC.val at hff
      go_at_call 29
      refine hff.mono ?_
      rintro e w4 ⟨rfl, hb4⟩
      have hc2 := (HC.out.resync hm).below hb4
      clear hb4 hff
      clear HC hm
      simp only [List.nil_append, List.cons_append, List.set_cons_zero, List.set_cons_succ] at hc2
      have HC := Lib.hid hc2
      clear hc2
      have hm := HC.out.rebase
      cases hpr : pr y with
      | true =>
        go_wp2_with (first | go_skip | ((with_reducible show wpList _ _ _ _ _ (World.alloc _ _)); refine wpList_up hm ?_; clear hm; intro n w hn hn2 hk hm hd hd2 ho; (try rw [← hn]); replace hn := Nat.le_of_eq hn.symm) | ((first | ((with_reducible show wpList _ _ _ (Oper.mk _ (Op.box _ _) _ _ _ _ :: _) _ _); (refine bxA hm ?_; clear hm; intro n w hn hz hm ho; (try simp only [List.cons_append, List.nil_append] at hm))) | ((with_reducible show wpList _ _ _ (Oper.mk _ (Op.load _ _) _ _ _ _ :: _) _ _); first | (refine ldA hm ?_) | (refine laA hm ?_) | (refine lcA (RK.out _ (HC.out.resync hm).low) ?_) | (refine lrA (RK.out _ (HC.out.resync hm).low) ?_)) | ((with_reducible show wpList _ _ _ (Oper.mk _ (Op.store _ _ _) _ _ _ _ :: _) _ _); (refine stA hm ?_; clear hm; intro w hz hm ho)) | ((with_reducible show wpList _ _ _ (Oper.mk _ (Op.alloc _) _ _ _ _ :: _) _ _); (refine alA hm ?_; clear hm; intro n w hn hz hm ho; (try simp only [List.cons_append, List.nil_append] at hm)))); try simp only [Act.put, sxQ]))
        go_ret
        refine ⟨k, rfl, ?_, (HC.out.resync hm).low⟩
        have e1 : l.any pr = true := List.any_eq_true.2 ⟨y, HY.out.1, hpr⟩
        rw [e1]; exact decide_eq_true (by omega)
      | false =>
        have hno := HNO.out
        have hyk := HY.out.2
        clear HNO
        go_wp2_with (first | go_skip | ((with_reducible show wpList _ _ _ _ _ (World.alloc _ _)); refine wpList_up hm ?_; clear hm; intro n w hn hn2 hk hm hd hd2 ho; (try rw [← hn]); replace hn := Nat.le_of_eq hn.symm) | ((first | ((with_reducible show wpList _ _ _ (Oper.mk _ (Op.box _ _) _ _ _ _ :: _) _ _); (refine bxA hm ?_; clear hm; intro n w hn hz hm ho; (try simp only [List.cons_append, List.nil_append] at hm))) | ((with_reducible show wpList _ _ _ (Oper.mk _ (Op.load _ _) _ _ _ _ :: _) _ _); first | (refine ldA hm ?_) | (refine laA hm ?_) | (refine lcA (RK.out _ (HC.out.resync hm).low) ?_) | (refine lrA (RK.out _ (HC.out.resync hm).low) ?_)) | ((with_reducible show wpList _ _ _ (Oper.mk _ (Op.store _ _ _) _ _ _ _ :: _) _ _); (refine stA hm ?_; clear hm; intro w hz hm ho)) | ((with_reducible show wpList _ _ _ (Oper.mk _ (Op.alloc _) _ _ _ _ :: _) _ _); (refine alA hm ?_; clear hm; intro n w hn hz hm ho; (try simp only [List.cons_append, List.nil_append] at hm)))); try simp only [Act.put, sxQ]))
        go_roundg j
        case measure => omega
        case rel => exact ⟨k + 1, by omega, by go_num, fun z hz => by
          rw [List.take_add_one, hyk] at hz
          rcases List.mem_append.1 hz with hz | hz
          · exact hno z hz
          · obtain rfl : z = y := by simpa using hz
            exact hpr, HC.out.resync hm⟩
theorem slices_ContainsFuncJ (cv : Value) (pr : JC → Bool) (h : Chs w0 w0.heap.size A m c l) (hm47 : m ≤ 9223372036854775807)
    (HF : ∀ y ∈ l, ∀ u, Below w0.heap.size w0 u → Calls Tryz.prog 29 #[y.val, cv] u fun e w' => e = .returned (.bool (pr y)) ∧ Below u.heap.size u w') :
    Calls Tryz.prog 28 #[.slice A m c, .func (.func 29) #[] #[cv]] w0 fun e w' => e = .returned (.bool (l.any pr)) ∧ Below w0.heap.size w0 w' := by
  have HI := Lib.hid (slices_IndexFuncJ cv pr h hm47 HF)
  generalize l.any pr = ac at *
  clear h HF
  go_enter Tryz.func28, Tryz.ntmps28
  go_wp2_with fail
  go_at_call 50
  refine HI.out.mono ?_
  rintro e w2 ⟨z, rfl, hz, hb⟩
  go_wp2_with fail
  go_ret
  exact ⟨rfl, hb⟩
theorem slices_IndexFuncR (cv : Value) (pr : JC → Bool) (h : Chs w0 w0.heap.size A m c l) (hm47 : m ≤ 9223372036854775807)
    (HF : ∀ y ∈ l, ∀ u, Below w0.heap.size w0 u → Calls Tryz.prog 66 #[y.val, cv] u fun e w' => e = .returned (.bool (pr y)) ∧ Below u.heap.size u w') :
    Calls Tryz.prog 50 #[.slice A m c, .func (.func 66) #[] #[cv]] w0 fun e w' => ∃ z : Int, e = .returned (.int .i64 z) ∧ decide (0 ≤ z) = l.any pr ∧ Below w0.heap.size w0 w' := by
  have HH := Lib.hid h
  have HFF := Lib.hid HF
  have HC := Lib.hid (Scn.start w0)
  have hm := HC.out.rebase
  have HL := Lib.hid h.len
  clear h HF
  go_enter Tryz.func50, Tryz.ntmps50
  go_wp2_with (first | go_skip | ((with_reducible show wpList _ _ _ _ _ (World.alloc _ _)); refine wpList_up hm ?_; clear hm; intro n w hn hn2 hk hm hd hd2 ho; (try rw [← hn]); replace hn := Nat.le_of_eq hn.symm) | ((first | ((with_reducible show wpList _ _ _ (Oper.mk _ (Op.box _ _) _ _ _ _ :: _) _ _); (refine bxA hm ?_; clear hm; intro n w hn hz hm ho; (try simp only [List.cons_append, List.nil_append] at hm))) | ((with_reducible show wpList _ _ _ (Oper.mk _ (Op.load _ _) _ _ _ _ :: _) _ _); first | (refine ldA hm ?_) | (refine laA hm ?_)) | ((with_reducible show wpList _ _ _ (Oper.mk _ (Op.store _ _ _) _ _ _ _ :: _) _ _); (refine stA hm ?_; clear hm; intro w hz hm ho)) | ((with_reducible show wpList _ _ _ (Oper.mk _ (Op.alloc _) _ _ _ _ :: _) _ _); (refine alA hm ?_; clear hm; intro n w hn hz hm ho; (try simp only [List.cons_append, List.nil_append] at hm)))); try simp only [Act.put, sxQ]))
  have hc2 := HC.out.resync hm
  clear HC hm
  simp only [List.nil_append, List.cons_append, List.set_cons_zero, List.set_cons_succ] at hc2
  have HC := Lib.hid hc2
  clear hc2
  have hm := HC.out.rebase
  go_loopg [8] m (fun gk v8 wr => ∃ k, k + gk = m ∧ v8 = .int .i64 (k : Int) ∧ (∀ y ∈ l.take k, pr y = false) ∧ Scn w0 wr [] [] [] [])
  case atStart => exact ⟨0, by omega, rfl, fun y hy => by simp at hy, HC.out⟩
  case round =>
    clear HC hm
    obtain ⟨k, hkg, rfl, hno, hsc⟩ := hrel
    have HC := Lib.hid hsc
    have HNO := Lib.hid hno
    have hm := HC.out.rebase
    clear hsc hno
    cases gk with
    | zero =>
      obtain rfl : m = k := by omega
      have ik : decide ((m : Int) < (m : Int)) = false := decide_eq_false (by omega)
      clear hkg
      go_wp2_with (first | go_skip | ((with_reducible show wpList _ _ _ _ _ (World.alloc _ _)); refine wpList_up hm ?_; clear hm; intro n w hn hn2 hk hm hd hd2 ho; (try rw [← hn]); replace hn := Nat.le_of_eq hn.symm) | ((first | ((with_reducible show wpList _ _ _ (Oper.mk _ (Op.box _ _) _ _ _ _ :: _) _ _); (refine bxA hm ?_; clear hm; intro n w hn hz hm ho; (try simp only [List.cons_append, List.nil_append] at hm))) | ((with_reducible show wpList _ _ _ (Oper.mk _ (Op.load _ _) _ _ _ _ :: _) _ _); first | (refine ldA hm ?_) | (refine laA hm ?_)) | ((with_reducible show wpList _ _ _ (Oper.mk _ (Op.store _ _ _) _ _ _ _ :: _) _ _); (refine stA hm ?_; clear hm; intro w hz hm ho)) | ((with_reducible show wpList _ _ _ (Oper.mk _ (Op.alloc _) _ _ _ _ :: _) _ _); (refine alA hm ?_; clear hm; intro n w hn hz hm ho; (try simp only [List.cons_append, List.nil_append] at hm)))); try simp only [Act.put, sxQ]))
      go_ret
      refine ⟨-1, rfl, ?_, (HC.out.resync hm).low⟩
      have hno := HNO.out
      rw [List.take_of_length_le (by rw [HL.out]; exact Nat.le_refl _)] at hno
      have e1 : l.any pr = false := by rw [List.any_eq_false]; intro y hy; rw [hno y hy]; decide
      rw [e1]; rfl
    | succ j =>
      have hk : k < m := by omega
      have ik : decide ((k : Int) < (m : Int)) = true := decide_eq_true (by omega)
      obtain ⟨bb, oo, y, hA, hyl, hyk, RK⟩ := HH.out.keeps hk
      subst hA
      have HY := Lib.hid (And.intro hyl hyk)
      clear hyl hyk
      go_wp2_with (first | go_skip | ((with_reducible show wpList _ _ _ _ _ (World.alloc _ _)); refine wpList_up hm ?_; clear hm; intro n w hn hn2 hk hm hd hd2 ho; (try rw [← hn]); replace hn := Nat.le_of_eq hn.symm) | ((first | ((with_reducible show wpList _ _ _ (Oper.mk _ (Op.box _ _) _ _ _ _ :: _) _ _); (refine bxA hm ?_; clear hm; intro n w hn hz hm ho; (try simp only [List.cons_append, List.nil_append] at hm))) | ((with_reducible show wpList _ _ _ (Oper.mk _ (Op.load _ _) _ _ _ _ :: _) _ _); first | (refine ldA hm ?_) | (refine laA hm ?_) | (refine lcA (RK.out _ (HC.out.resync hm).low) ?_) | (refine lrA (RK.out _ (HC.out.resync hm).low) ?_)) | ((with_reducible show wpList _ _ _ (Oper.mk _ (Op.store _ _ _) _ _ _ _ :: _) _ _); (refine stA hm ?_; clear hm; intro w hz hm ho)) | ((with_reducible show wpList _ _ _ (Oper.mk _ (Op.alloc _) _ _ _ _ :: _) _ _); (refine alA hm ?_; clear hm; intro n w hn hz hm ho; (try simp only [List.cons_append, List.nil_append] at hm)))); try simp only [Act.put, sxQ]))
      have hff := HFF.out y HY.out.1 _ (HC.out.resync hm).low
      unfold JC.val at hff
      go_at_call 66
      refine hff.mono ?_
      rintro e w4 ⟨rfl, hb4⟩
      have hc2 := (HC.out.resync hm).below hb4
      clear hb4 hff
      clear HC hm
      simp only [List.nil_append, List.cons_append, List.set_cons_zero, List.set_cons_succ] at hc2
      have HC := Lib.hid hc2
      clear hc2
      have hm := HC.out.rebase
      cases hpr : pr y with
      | true =>
        go_wp2_with (first | go_skip | ((with_reducible show wpList _ _ _ _ _ (World.alloc _ _)); refine wpList_up hm ?_; clear hm; intro n w hn hn2 hk hm hd hd2 ho; (try rw [← hn]); replace hn := Nat.le_of_eq hn.symm) | ((first | ((with_reducible show wpList _ _ _ (Oper.mk _ (Op.box _ _) _ _ _ _ :: _) _ _); (refine bxA hm ?_; clear hm; intro n w hn hz hm ho; (try simp only [List.cons_append, List.nil_append] at hm))) | ((with_reducible show wpList _ _ _ (Oper.mk _ (Op.load _ _) _ _ _ _ :: _) _ _); first | (refine ldA hm ?_) | (refine laA hm ?_) | (refine lcA (RK.out _ (HC.out.resync hm).low) ?_) | (refine lrA (RK.out _ (HC.out.resync hm).low) ?_)) | ((with_reducible show wpList _ _ _ (Oper.mk _ (Op.store _ _ _) _ _ _ _ :: _) _ _); (refine stA hm ?_; clear hm; intro w hz hm ho)) | ((with_reducible show wpList _ _ _ (Oper.mk _ (Op.alloc _) _ _ _ _ :: _) _ _); (refine alA hm ?_; clear hm; intro n w hn hz hm ho; (try simp only [List.cons_append, List.nil_append] at hm)))); try simp only [Act.put, sxQ]))
        go_ret
        refine ⟨k, rfl, ?_, (HC.out.resync hm).low⟩
        have e1 : l.any pr = true := List.any_eq_true.2 ⟨y, HY.out.1, hpr⟩
        rw [e1]; exact decide_eq_true (by omega)
      | false =>
        have hno := HNO.out
        have hyk := HY.out.2
        clear HNO
        go_wp2_with (first | go_skip | ((with_reducible show wpList _ _ _ _ _ (World.alloc _ _)); refine wpList_up hm ?_; clear hm; intro n w hn hn2 hk hm hd hd2 ho; (try rw [← hn]); replace hn := Nat.le_of_eq hn.symm) | ((first | ((with_reducible show wpList _ _ _ (Oper.mk _ (Op.box _ _) _ _ _ _ :: _) _ _); (refine bxA hm ?_; clear hm; intro n w hn hz hm ho; (try simp only [List.cons_append, List.nil_append] at hm))) | ((with_reducible show wpList _ _ _ (Oper.mk _ (Op.load _ _) _ _ _ _ :: _) _ _); first | (refine ldA hm ?_) | (refine laA hm ?_) | (refine lcA (RK.out _ (HC.out.resync hm).low) ?_) | (refine lrA (RK.out _ (HC.out.resync hm).low) ?_)) | ((with_reducible show wpList _ _ _ (Oper.mk _ (Op.store _ _ _) _ _ _ _ :: _) _ _); (refine stA hm ?_; clear hm; intro w hz hm ho)) | ((with_reducible show wpList _ _ _ (Oper.mk _ (Op.alloc _) _ _ _ _ :: _) _ _); (refine alA hm ?_; clear hm; intro n w hn hz hm ho; (try simp only [List.cons_append, List.nil_append] at hm)))); try simp only [Act.put, sxQ]))
        go_roundg j
        case measure => omega
        case rel => exact ⟨k + 1, by omega, by go_num, fun z hz => by
          rw [List.take_add_one, hyk] at hz
          rcases List.mem_append.1 hz with hz | hz
          · exact hno z hz
          · obtain rfl : z = y := by simpa using hz
            exact hpr, HC.out.resync hm⟩
theorem slices_ContainsFuncR (cv : Value) (pr : JC → Bool) (h : Chs w0 w0.heap.size A m c l) (hm47 : m ≤ 9223372036854775807)
    (HF : ∀ y ∈ l, ∀ u, Below w0.heap.size w0 u → Calls Tryz.prog 66 #[y.val, cv] u fun e w' => e = .returned (.bool (pr y)) ∧ Below u.heap.size u w') :
    Calls Tryz.prog 28 #[.slice A m c, .func (.func 66) #[] #[cv]] w0 fun e w' => e = .returned (.bool (l.any pr)) ∧ Below w0.heap.size w0 w' := by
  have HI := Lib.hid (slices_IndexFuncR cv pr h hm47 HF)
  generalize l.any pr = ac at *
  clear h HF
  go_enter Tryz.func28, Tryz.ntmps28
  go_wp2_with fail
  go_at_call 50
  refine HI.out.mono ?_
  rintro e w2 ⟨z, rfl, hz, hb⟩
  go_wp2_with fail
  go_ret
  exact ⟨rfl, hb⟩
theorem slices_IndexFuncD (pr : JC → Bool) (h : Chs w0 w0.heap.size A m c l) (hm47 : m ≤ 9223372036854775807)
    (HF : ∀ y ∈ l, ∀ u, Below w0.heap.size w0 u → Calls Tryz.prog 32 #[y.val] u fun e w' => e = .returned (.bool (pr y)) ∧ Below u.heap.size u w') :
    Calls Tryz.prog 50 #[.slice A m c, .func (.func 32) #[] #[]] w0 fun e w' => ∃ z : Int, e = .returned (.int .i64 z) ∧ decide (0 ≤ z) = l.any pr ∧ Below w0.heap.size w0 w' := by
  have HH := Lib.hid h
  have HFF := Lib.hid HF
  have HC := Lib.hid (Scn.start w0)
  have hm := HC.out.rebase
  have HL := Lib.hid h.len
  clear h HF
  go_enter Tryz.func50, Tryz.ntmps50
  go_wp2_with (first | go_skip | ((with_reducible show wpList _ _ _ _ _ (World.alloc _ _)); refine wpList_up hm ?_; clear hm; intro n w hn hn2 hk hm hd hd2 ho; (try rw [← hn]); replace hn := Nat.le_of_eq hn.symm) | ((first | ((with_reducible show wpList _ _ _ (Oper.mk _ (Op.box _ _) _ _ _ _ :: _) _ _); (refine bxA hm ?_; clear hm; intro n w hn hz hm ho; (try simp only [List.cons_append, List.nil_append] at hm))) | ((with_reducible show wpList _ _ _ (Oper.mk _ (Op.load _ _) _ _ _ _ :: _) _ _); first | (refine ldA hm ?_) | (refine laA hm ?_)) | ((with_reducible show wpList _ _ _ (Oper.mk _ (Op.store _ _ _) _ _ _ _ :: _) _ _); (refine stA hm ?_; clear hm; intro w hz hm ho)) | ((with_reducible show wpList _ _ _ (Oper.mk _ (Op.alloc _) _ _ _ _ :: _) _ _); (refine alA hm ?_; clear hm; intro n w hn hz hm ho; (try simp only [List.cons_append, List.nil_append] at hm)))); try simp only [Act.put, sxQ]))
  have hc2 := HC.out.resync hm
  clear HC hm
  simp only [List.nil_append, List.cons_append, List.set_cons_zero, List.set_cons_succ] at hc2
  have HC := Lib.hid hc2
  clear hc2
  have hm := HC.out.rebase
  go_loopg [8] m (fun gk v8 wr => ∃ k, k + gk = m ∧ v8 = .int .i64 (k : Int) ∧ (∀ y ∈ l.take k, pr y = false) ∧ Scn w0 wr [] [] [] [])
  case atStart => exact ⟨0, by omega, rfl, fun y hy => by simp at hy, HC.out⟩
  case round =>
    clear HC hm
    obtain ⟨k, hkg, rfl, hno, hsc⟩ := hrel
    have HC := Lib.hid hsc
    have HNO := Lib.hid hno
    have hm := HC.out.rebase
    clear hsc hno
    cases gk with
    | zero =>
      obtain rfl : m = k := by omega
      have ik : decide ((m : Int) < (m : Int)) = false := decide_eq_false (by omega)
      clear hkg
      go_wp2_with (first | go_skip | ((with_reducible show wpList _ _ _ _ _ (World.alloc _ _)); refine wpList_up hm ?_; clear hm; intro n w hn hn2 hk hm hd hd2 ho; (try rw [← hn]); replace hn := Nat.le_of_eq hn.symm) | ((first | ((with_reducible show wpList _ _ _ (Oper.mk _ (Op.box _ _) _ _ _ _ :: _) _ _); (refine bxA hm ?_; clear hm; intro n w hn hz hm ho; (try simp only [List.cons_append, List.nil_append] at hm))) | ((with_reducible show wpList _ _ _ (Oper.mk _ (Op.load _ _) _ _ _ _ :: _) _ _); first | (refine ldA hm ?_) | (refine laA hm ?_)) | ((with_reducible show wpList _ _ _ (Oper.mk _ (Op.store _ _ _) _ _ _ _ :: _) _ _); (refine stA hm ?_; clear hm; intro w hz hm ho)) | ((with_reducible show wpList _ _ _ (Oper.mk _ (Op.alloc _) _ _ _ _ :: _) _ _); (refine alA hm ?_; clear hm; intro n w hn hz hm ho; (try simp only [List.cons_append, List.nil_append] at hm)))); try simp only [Act.put, sxQ]))
      go_ret
      refine ⟨-1, rfl, ?_, (HC.out.resync hm).low⟩
      have hno := HNO.out
      rw [List.take_of_length_le (by rw [HL.out]; exact Nat.le_refl _)] at hno
      have e1 : l.any pr = false := by rw [List.any_eq_false]; intro y hy; rw [hno y hy]; decide
      rw [e1]; rfl
    | succ j =>
      have hk : k < m := by omega
      have ik : decide ((k : Int) < (m : Int)) = true := decide_eq_true (by omega)
      obtain ⟨bb, oo, y, hA, hyl, hyk, RK⟩ := HH.out.keeps hk
      subst hA
      have HY := Lib.hid (And.intro hyl hyk)
      clear hyl hyk
      go_wp2_with (first | go_skip | ((with_reducible show wpList _ _ _ _ _ (World.alloc _ _)); refine wpList_up hm ?_; clear hm; intro n w hn hn2 hk hm hd hd2 ho; (try rw [← hn]); replace hn := Nat.le_of_eq hn.symm) | ((first | ((with_reducible show wpList _ _ _ (Oper.mk _ (Op.box _ _) _ _ _ _ :: _) _ _); (refine bxA hm ?_; clear hm; intro n w hn hz hm ho; (try simp only [List.cons_append, List.nil_append] at hm))) | ((with_reducible show wpList _ _ _ (Oper.mk _ (Op.load _ _) _ _ _ _ :: _) _ _); first | (refine ldA hm ?_) | (refine laA hm ?_) | (refine lcA (RK.out _ (HC.out.resync hm).low) ?_) | (refine lrA (RK.out _ (HC.out.resync hm).low) ?_)) | ((with_reducible show wpList _ _ _ (Oper.mk _ (Op.store _ _ _) _ _ _ _ :: _) _ _); (refine stA hm ?_; clear hm; intro w hz hm ho)) | ((with_reducible show wpList _ _ _ (Oper.mk _ (Op.alloc _) _ _ _ _ :: _) _ _); (refine alA hm ?_; clear hm; intro n w hn hz hm ho; (try simp only [List.cons_append, List.nil_append] at hm)))); try simp only [Act.put, sxQ]))
      have hff := HFF.out y HY.out.1 _ (HC.out.resync hm).low
      unfold JC.val at hff
      go_at_call 32
      refine hff.mono ?_
      rintro e w4 ⟨rfl, hb4⟩
      have hc2 := (HC.out.resync hm).below hb4
      clear hb4 hff
      clear HC hm
      simp only [List.nil_append, List.cons_append, List.set_cons_zero, List.set_cons_succ] at hc2
      have HC := Lib.hid hc2
      clear hc2
      have hm := HC.out.rebase
      cases hpr : pr y with
      | true =>
        go_wp2_with (first | go_skip | ((with_reducible show wpList _ _ _ _ _ (World.alloc _ _)); refine wpList_up hm ?_; clear hm; intro n w hn hn2 hk hm hd hd2 ho; (try rw [← hn]); replace hn := Nat.le_of_eq hn.symm) | ((first | ((with_reducible show wpList _ _ _ (Oper.mk _ (Op.box _ _) _ _ _ _ :: _) _ _); (refine bxA hm ?_; clear hm; intro n w hn hz hm ho; (try simp only [List.cons_append, List.nil_append] at hm))) | ((with_reducible show wpList _ _ _ (Oper.mk _ (Op.load _ _) _ _ _ _ :: _) _ _); first | (refine ldA hm ?_) | (refine laA hm ?_) | (refine lcA (RK.out _ (HC.out.resync hm).low) ?_) | (refine lrA (RK.out _ (HC.out.resync hm).low) ?_)) | ((with_reducible show wpList _ _ _ (Oper.mk _ (Op.store _ _ _) _ _ _ _ :: _) _ _); (refine stA hm ?_; clear hm; intro w hz hm ho)) | ((with_reducible show wpList _ _ _ (Oper.mk _ (Op.alloc _) _ _ _ _ :: _) _ _); (refine alA hm ?_; clear hm; intro n w hn hz hm ho; (try simp only [List.cons_append, List.nil_append] at hm)))); try simp only [Act.put, sxQ]))
        go_ret
        refine ⟨k, rfl, ?_, (HC.out.resync hm).low⟩
        have e1 : l.any pr = true := List.any_eq_true.2 ⟨y, HY.out.1, hpr⟩
        rw [e1]; exact decide_eq_true (by omega)
      | false =>
        have hno := HNO.out
        have hyk := HY.out.2
        clear HNO
        go_wp2_with (first | go_skip | ((with_reducible show wpList _ _ _ _ _ (World.alloc _ _)); refine wpList_up hm ?_; clear hm; intro n w hn hn2 hk hm hd hd2 ho; (try rw [← hn]); replace hn := Nat.le_of_eq hn.symm) | ((first | ((with_reducible show wpList _ _ _ (Oper.mk _ (Op.box _ _) _ _ _ _ :: _) _ _); (refine bxA hm ?_; clear hm; intro n w hn hz hm ho; (try simp only [List.cons_append, List.nil_append] at hm))) | ((with_reducible show wpList _ _ _ (Oper.mk _ (Op.load _ _) _ _ _ _ :: _) _ _); first | (refine ldA hm ?_) | (refine laA hm ?_) | (refine lcA (RK.out _ (HC.out.resync hm).low) ?_) | (refine lrA (RK.out _ (HC.out.resync hm).low) ?_)) | ((with_reducible show wpList _ _ _ (Oper.mk _ (Op.store _ _ _) _ _ _ _ :: _) _ _); (refine stA hm ?_; clear hm; intro w hz hm ho)) | ((with_reducible show wpList _ _ _ (Oper.mk _ (Op.alloc _) _ _ _ _ :: _) _ _); (refine alA hm ?_; clear hm; intro n w hn hz hm ho; (try simp only [List.cons_append, List.nil_append] at hm)))); try simp only [Act.put, sxQ]))
        go_roundg j
        case measure => omega
        case rel => exact ⟨k + 1, by omega, by go_num, fun z hz => by
          rw [List.take_add_one, hyk] at hz
          rcases List.mem_append.1 hz with hz | hz
          · exact hno z hz
          · obtain rfl : z = y := by simpa using hz
            exact hpr, HC.out.resync hm⟩
theorem slices_ContainsFuncD (pr : JC → Bool) (h : Chs w0 w0.heap.size A m c l) (hm47 : m ≤ 9223372036854775807)
    (HF : ∀ y ∈ l, ∀ u, Below w0.heap.size w0 u → Calls Tryz.prog 32 #[y.val] u fun e w' => e = .returned (.bool (pr y)) ∧ Below u.heap.size u w') :
    Calls Tryz.prog 28 #[.slice A m c, .func (.func 32) #[] #[]] w0 fun e w' => e = .returned (.bool (l.any pr)) ∧ Below w0.heap.size w0 w' := by
  have HI := Lib.hid (slices_IndexFuncD pr h hm47 HF)
  generalize l.any pr = ac at *
  clear h HF
  go_enter Tryz.func28, Tryz.ntmps28
  go_wp2_with fail
  go_at_call 50
  refine HI.out.mono ?_
  rintro e w2 ⟨z, rfl, hz, hb⟩
  go_wp2_with fail
  go_ret
  exact ⟨rfl, hb⟩
end
end Go.Proofs.YtmhjddmamknglaaGreat
