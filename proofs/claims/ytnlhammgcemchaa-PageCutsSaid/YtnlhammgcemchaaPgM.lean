/-
  Actions: a slice of them that came in; the laws' short and data.
-/
import Derived.Test.YtnlhammgcemchaaZ0
import Derived.Test.YtnlhammgcemchaaPgE
import Derived.Test.YtnlhammgcemchaaZ1
namespace Go.Proofs.Ytnlhammgcemchaa
set_option maxRecDepth 100000
set_option linter.unusedSimpArgs false
set_option linter.unusedVariables false
open Go.RowKit Go.ChangeShapes Go.WideShapes Go.Deep
set_option maxHeartbeats 4000000

/-- An action as it lies in memory. -/
structure POp where
  re : Bool
  ex : Bool
  i : Int
  j : Int
  A : Option Addr
  n : Nat
  c : Nat
  bs : List UInt8
instance : Inhabited POp := ⟨⟨false, false, 0, 0, none, 0, 0, []⟩⟩
def POp.cells (y : POp) : List Value := [.bool y.re, .bool y.ex, .int .i64 y.i, .int .i64 y.j, .slice y.A y.n y.c]
/-- What it writes. -/
def POp.data (y : POp) : List UInt8 := if y.ex then y.bs else Pg.pad y.bs
structure POps (w : World) (A : Option Addr) (n c : Nat) (l : List POp) : Prop where
  len : l.length = n
  cap : n ≤ c
  row : Recs POp.cells 5 w w.heap.size A l
  ok : ∀ y ∈ l, Byt w w.heap.size y.A y.n y.c y.bs
theorem pops_of_trod {H : Type} {enc : TypeId × Value → H} {w : World} {base : Nat} {spare : Nat → Bool} {held : Bool} {A : Option Addr} {n c : Nat} {d : DataW H} {p : List MemPlace}
    (h : DataW.Trod enc Try.prog w base spare held 22 (.slice A n c) d p) : ∃ l : List POp, POps w A n c l ∧ c ≤ maxLen := by
  obtain ⟨fuel, hf⟩ := h
  rcases flat_slice (k := 4) (ts := [4, 4, 3, 3, 39]) Try.underlying22 (by kernel_rfl) hf with hcs | ⟨a, len, cap, hcs, hl, hm, hr⟩
  · simp [Value.cells] at hcs
    obtain ⟨rfl, rfl, rfl⟩ := hcs
    exact ⟨[], ⟨rfl, Nat.le_refl _, fun hn => absurd hn (Nat.lt_irrefl 0), fun v hv => (by cases hv)⟩, Nat.zero_le _⟩
  · simp [Value.cells] at hcs
    obtain ⟨rfl, rfl, rfl⟩ := hcs
    have hC : Try.prog.cellsOf 41 = 5 := by kernel_rfl
    rw [hC] at hr
    obtain ⟨l, h1, h2, h3⟩ := recs_of (cells := POp.cells) (s := 5) (n := n) (w := w) (a := a) (G := fun y => Byt w w.heap.size y.A y.n y.c y.bs) (fun x => ⟨_, rfl⟩) (fun i hi => by
      obtain ⟨v0, c0, t0⟩ := hr i hi 0 _ rfl
      obtain ⟨v1, c1, t1⟩ := hr i hi 1 _ rfl
      obtain ⟨v2, c2, t2⟩ := hr i hi 2 _ rfl
      obtain ⟨v3, c3, t3⟩ := hr i hi 3 _ rfl
      obtain ⟨v4, c4, t4⟩ := hr i hi 4 _ rfl
      obtain ⟨z0, rfl⟩ := t0.bool Try.underlying4
      obtain ⟨z1, rfl⟩ := t1.bool Try.underlying4
      obtain ⟨z2, rfl, -⟩ := t2.int Try.underlying3
      obtain ⟨z3, rfl, -⟩ := t3.int Try.underlying3
      obtain ⟨A4, n4, k4, b4, rfl, hb4, -⟩ := t4.byt Try.underlying39 Try.underlying5 (by kernel_rfl)
      refine ⟨⟨z0, z1, z2, z3, A4, n4, k4, b4⟩, fun j v hv => ?_, hb4⟩
      match j, hv with
      | 0, hv => injection hv with hv; subst hv; exact c0
      | 1, hv => injection hv with hv; subst hv; exact c1
      | 2, hv => injection hv with hv; subst hv; exact c2
      | 3, hv => injection hv with hv; subst hv; exact c3
      | 4, hv => injection hv with hv; subst hv; exact c4
      | j + 5, hv => simp [POp.cells] at hv)
    exact ⟨l, ⟨h1, hl, h2, h3⟩, hm⟩
theorem POps.at_ {w : World} {A : Option Addr} {n c : Nat} {l : List POp} (h : POps w A n c l) {k : Nat} (hk : k < n) : ∃ (b o : Nat) (y : POp), A = some ⟨b, o, none⟩ ∧ Byt w w.heap.size y.A y.n y.c y.bs ∧ l[k]? = some y ∧ w.rangeAt b (o + k * 5) y.cells := by
  have hl := h.len
  obtain ⟨b, o, e, hb, hr⟩ := h.row (by omega)
  have hx : l[k]? = some l[k] := List.getElem?_eq_getElem (by omega)
  refine ⟨b, o, _, e, h.ok _ (List.mem_of_getElem? hx), hx, fun j v hv => ?_⟩
  have := hr k _ hx j v hv
  rwa [← Nat.add_assoc] at this
/-- An action in memory, whatever else was done. -/
theorem POps.keeps {w : World} {A : Option Addr} {n c : Nat} {l : List POp} (h : POps w A n c l) {k : Nat} (hk : k < n) : ∃ (b o : Nat) (y : POp), A = some ⟨b, o, none⟩ ∧ Byt w w.heap.size y.A y.n y.c y.bs ∧ l[k]? = some y ∧ Hid (∀ u : World, Below w.heap.size w u → Rngs [⟨b, o + k * 5, y.cells⟩] u) := by
  obtain ⟨b, o, y, h1, h2, h3, h4⟩ := h.at_ hk
  refine ⟨b, o, y, h1, h2, h3, Lib.hid fun u hu => Rngs.below (w := w) (fun r hr => ?_) hu⟩
  obtain rfl := List.mem_singleton.1 hr
  exact h4
/-- Few and small. -/
def Pg.shortB (l : List POp) : Bool := decide (l.length ≤ 120) && l.all fun y => decide (y.n ≤ 100)
set_option maxRecDepth 100000 in
theorem law11_short (A : Option Addr) (n c : Nat) (l : List POp) (w0 : World) (h : POps w0 A n c l) :
    Calls Try.prog 9 #[.slice A n c] w0 fun e w' => e = .returned (.bool (Pg.shortB l)) ∧ Below w0.heap.size w0 w' := by
  have hm := Mem.nil (fun _ => False) w0
  have hl := h.len
  by_cases h1 : 120 < n
  · have d1 : decide ((120 : Int) < (n : Int)) = true := decide_eq_true (by omega)
    have e1 : Pg.shortB l = false := by unfold Pg.shortB; rw [decide_eq_false (by omega)]; rfl
    rw [e1]
    clear h h1 hl e1
    go_enter Try.func9, Try.ntmps9
    go_wp2_with fail
    go_ret
    exact ⟨rfl, hm.low⟩
  · have d1 : decide ((120 : Int) < (n : Int)) = false := decide_eq_false (by omega)
    have HL := Lib.hid h
    have e1 : Pg.shortB l = l.all fun y => decide (y.n ≤ 100) := by unfold Pg.shortB; rw [decide_eq_true (by omega)]; rfl
    rw [e1]
    generalize hR : (l.all fun y => decide (y.n ≤ 100)) = R
    have HR := Lib.hid hR
    clear h e1 hR
    go_enter Try.func9, Try.ntmps9
    go_wp2_with fail
    go_loopg [3] n (fun g v3 wr => ∃ k : Nat, k + g = n ∧ v3 = .int .i64 (k : Int) ∧ Hid (∀ j y, j < k → l[j]? = some y → y.n ≤ 100) ∧ w0 = wr)
    case atStart => exact ⟨0, by omega, rfl, Lib.hid fun j y hj _ => absurd hj (Nat.not_lt_zero _), rfl⟩
    case round =>
      obtain ⟨k, hkg, rfl, hsh, rfl⟩ := hrel
      cases gk with
      | zero =>
        obtain rfl : k = n := by omega
        have ik : decide ((k : Int) < (k : Int)) = false := decide_eq_false (by omega)
        have hall : (l.all fun y => decide (y.n ≤ 100)) = true := by
          rw [List.all_eq_true]
          intro y hy
          obtain ⟨j, hj⟩ := List.mem_iff_getElem?.1 hy
          exact decide_eq_true (hsh.out j y (by have := (List.getElem?_eq_some_iff.1 hj).1; omega) hj)
        obtain rfl : R = true := HR.out.symm.trans hall
        clear hall hl
        go_wp2_with fail
        go_ret
        exact ⟨rfl, hm.low⟩
      | succ g =>
        have hkn : k < n := by omega
        have ik : decide ((k : Int) < (n : Int)) = true := decide_eq_true (by omega)
        obtain ⟨bb, oo, y, hA, hyb, hyl, RK⟩ := HL.out.keeps hkn
        subst hA
        have HY := Lib.hid hyl
        have hcell : w0.cell? ⟨bb, oo + k * 5 + 4, none⟩ = some (.slice y.A y.n y.c) := RK.out w0 (Below.refl _ _) _ (List.mem_singleton.2 rfl) 4 _ rfl
        clear hyb hyl
        by_cases hy : 100 < y.n
        · have d2 : decide ((100 : Int) < (y.n : Int)) = true := decide_eq_true (by omega)
          have hall : (l.all fun y => decide (y.n ≤ 100)) = false := by
            rw [List.all_eq_false]
            exact ⟨y, List.mem_of_getElem? HY.out, by simp; omega⟩
          obtain rfl : R = false := HR.out.symm.trans hall
          clear hall hl hy
          go_wp2_with fail
          go_ret
          exact ⟨rfl, hm.low⟩
        · have d2 : decide ((100 : Int) < (y.n : Int)) = false := decide_eq_false (by omega)
          have hy2 := Lib.hid (show y.n ≤ 100 by omega)
          clear hl hy
          go_wp2_with fail
          go_roundg g
          case rel => exact ⟨k + 1, by omega, by go_num, Lib.hid fun j z hj hz => by
            rcases Nat.lt_or_ge j k with h | h
            · exact hsh.out j z h hz
            · obtain rfl : j = k := by omega
              rw [HY.out] at hz
              cases hz
              exact hy2.out, rfl⟩
          case measure => omega
/-- What an action writes. -/
theorem law11_data (y : POp) (w0 : World) (hb : Byt w0 w0.heap.size y.A y.n y.c y.bs) :
    Calls Try.prog 15 #[.agg y.cells.toArray] w0 fun e w' => ∃ A n c, e = .returned (.slice A n c) ∧ Byt w' w'.heap.size A n c y.data ∧ ((A = y.A ∧ n = y.n) ∨ ∀ a, A = some a → w0.heap.size ≤ a.block) ∧ Below w0.heap.size w0 w' := by
  obtain ⟨re, ex, yi, yj, yA, yn, yc, ys⟩ := y
  have hm := Mem.nil (fun _ => False) w0
  have HB := Lib.hid hb
  clear hb
  unfold POp.cells
  cases ex with
  | true =>
    go_enter Try.func15, Try.ntmps15
    go_wp2_with (first | go_skip | ((with_reducible show wpList _ _ _ _ _ (World.alloc _ _)); refine wpList_up hm ?_; clear hm; intro n w hn hn2 hk hm hd hd2 ho; (try rw [← hn]); replace hn := Nat.le_of_eq hn.symm) | ((first | ((with_reducible show wpList _ _ _ (Oper.mk _ (Op.box _ _) _ _ _ _ :: _) _ _); (refine bxA hm ?_; clear hm; intro n w hn hz hm ho; (try simp only [List.cons_append, List.nil_append] at hm))) | ((with_reducible show wpList _ _ _ (Oper.mk _ (Op.load _ _) _ _ _ _ :: _) _ _); first | (refine ldA hm ?_) | (refine laA hm ?_)) | ((with_reducible show wpList _ _ _ (Oper.mk _ (Op.store _ _ _) _ _ _ _ :: _) _ _); (refine stA hm ?_; clear hm; intro w hz hm ho)) | ((with_reducible show wpList _ _ _ (Oper.mk _ (Op.alloc _) _ _ _ _ :: _) _ _); (refine alA hm ?_; clear hm; intro n w hn hz hm ho; (try simp only [List.cons_append, List.nil_append] at hm)))); try simp only [Act.put, sxQ]))
    go_ret
    exact ⟨yA, yn, yc, rfl, (HB.out.below hm.low).more hm.low.size, .inl ⟨rfl, rfl⟩, hm.low⟩
  | false =>
    go_enter Try.func15, Try.ntmps15
    go_wp2_with (first | go_skip | ((with_reducible show wpList _ _ _ _ _ (World.alloc _ _)); refine wpList_up hm ?_; clear hm; intro n w hn hn2 hk hm hd hd2 ho; (try rw [← hn]); replace hn := Nat.le_of_eq hn.symm) | ((first | ((with_reducible show wpList _ _ _ (Oper.mk _ (Op.box _ _) _ _ _ _ :: _) _ _); (refine bxA hm ?_; clear hm; intro n w hn hz hm ho; (try simp only [List.cons_append, List.nil_append] at hm))) | ((with_reducible show wpList _ _ _ (Oper.mk _ (Op.load _ _) _ _ _ _ :: _) _ _); first | (refine ldA hm ?_) | (refine laA hm ?_)) | ((with_reducible show wpList _ _ _ (Oper.mk _ (Op.store _ _ _) _ _ _ _ :: _) _ _); (refine stA hm ?_; clear hm; intro w hz hm ho)) | ((with_reducible show wpList _ _ _ (Oper.mk _ (Op.alloc _) _ _ _ _ :: _) _ _); (refine alA hm ?_; clear hm; intro n w hn hz hm ho; (try simp only [List.cons_append, List.nil_append] at hm)))); try simp only [Act.put, sxQ]))
    go_at_call 25
    refine (law11_block yA yn yc ys _ ((HB.out.below hm.low).more hm.low.size)).mono ?_
    rintro e w3 ⟨q3, rfl, ho3, hb3⟩
    have hb4 := hm.low.trans (hb3.mono hm.low.size)
    go_wp2_with fail
    go_ret
    exact ⟨_, 48, 48, rfl, ho3.byt (Nat.le_refl _), .inr fun a e => by cases e; exact Nat.le_trans hm.low.size (ho3.lt q3 rfl).1, hb4⟩
end Go.Proofs.Ytnlhammgcemchaa
