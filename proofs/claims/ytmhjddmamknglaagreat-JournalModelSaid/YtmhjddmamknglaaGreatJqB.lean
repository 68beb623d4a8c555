/-
  The journal's reference: Apply.
-/
import Derived.Test.YtmhjddmamknglaaGreatZ0
import Derived.Test.YtmhjddmamknglaaGreatJqA
import Derived.Test.YtmhjddmamknglaaGreatJnT
namespace Go.Proofs.YtmhjddmamknglaaGreat
set_option maxRecDepth 100000
set_option linter.unusedSimpArgs false
set_option linter.unusedVariables false
open Go.RowKit
set_option maxHeartbeats 8000000

/-- The reference's Apply. -/
def Jn.rapply (S : List UInt8) (l : List JC) : List UInt8 × Int := if JC.allIn S.length l = false then (S, 2) else if 1024 < JC.weight l then (S, 11) else (Jn.appB (Jn.pairs (JC.plains l)) S, 0)
theorem Jn.rapply_length (S : List UInt8) (l : List JC) : (Jn.rapply S l).1.length = S.length := by
  unfold Jn.rapply
  split
  · rfl
  · split
    · rfl
    · exact Jn.appB_length _ _
theorem allIn_step {n : Nat} {l : List JC} {i : Nat} {y : JC} (hy : l[i]? = some y) (h : JC.allIn n (l.take i) = true) (hi : y.inB n = true) : JC.allIn n (l.take (i + 1)) = true := by
  unfold JC.allIn at h ⊢
  rw [List.take_add_one, hy, List.any_append]
  rw [Bool.not_eq_true'] at h ⊢
  rw [h]; simp [hi]
theorem allIn_no {n : Nat} {l : List JC} {i : Nat} {y : JC} (hy : l[i]? = some y) (hi : y.inB n = false) : JC.allIn n l = false := by
  unfold JC.allIn
  rw [Bool.not_eq_false', List.any_eq_true]
  exact ⟨y, List.mem_of_getElem? hy, by simp [hi]⟩
theorem allIn_mem {n : Nat} {l : List JC} (h : JC.allIn n l = true) : ∀ y ∈ l, y.inB n = true := fun y hy => by
  unfold JC.allIn at h
  rw [Bool.not_eq_true', List.any_eq_false] at h
  have := h y hy
  simpa using this
/-- What the reference hands back: the state, its bytes the elder state's or new. -/
def RapR (w0 : World) (A : Option Addr) (S : List UInt8) (l : List JC) (e : Ending) (w' : World) : Prop :=
  ∃ A2 n2 c2, e = .returned (.tuple #[.agg #[.slice A2 n2 c2], .int .i64 (Jn.rapply S l).2]) ∧ Byt w' w'.heap.size A2 n2 c2 (Jn.rapply S l).1 ∧ (A2 = A ∨ ∀ a, A2 = some a → 0 < n2 → w0.heap.size ≤ a.block) ∧ Below w0.heap.size w0 w'
theorem rap_facts (o k a yn nn : Nat) (ha : a = o + k) (hk : k < yn) (hin : o + yn ≤ nn) (hn : nn ≤ 1000000) : wrap64 ((o : Int) + (k : Int)) = (a : Int) ∧ IntKind.i64.wrap ((o : Int) + (k : Int)) = (a : Int) ∧ (a : Int) < (nn : Int) ∧ a < nn ∧ k < 1000000 := by
  refine ⟨by rw [IntWalk.wrap64_in _ (by omega)]; omega, by rw [IntWalk.i64_in _ (by omega)]; omega, by omega, by omega, by omega⟩
section
variable {w0 : World} {A : Option Addr} {nn c : Nat} {S : List UInt8} {A1 : Option Addr} {m c1 : Nat} {l : List JC}
theorem Mth.stateC (hb : Byt w0 w0.heap.size A nn c S) (hc : Chs w0 w0.heap.size A1 m c1 l) : Mth (fun _ => False) w0 w0 [] [] [] [⟨blks #[.slice A nn c], fun u => Byt u u.heap.size A nn c S⟩, ⟨chsG A1 m l, fun u => Chs u u.heap.size A1 m c1 l⟩] :=
  Mth.enter w0 _ _ _ (fun x hx => by cases hx) .nil (fun x hx => by cases hx) (fun x hx => by
    rcases List.mem_cons.1 hx with rfl | hx
    · exact ⟨bytSup hb, fun y hy => by cases hy⟩
    · obtain rfl := List.mem_singleton.1 hx
      exact ⟨Chs.sup hc, fun y hy => by cases hy⟩)
/-- A change, each of its cells, whatever is made. -/
theorem Chs.cells {k : Nat} (hc : Chs w0 w0.heap.size A1 m c1 l) (hk : k < m) : ∃ (b o : Nat) (y : JC), A1 = some ⟨b, o, none⟩ ∧ l[k]? = some y ∧ y.n = y.bs.length ∧ y.n ≤ y.c ∧
    (∀ u : World, Only (fun _ => False) w0 u → Rngs [⟨b, o + k * 2, [.int .i64 y.off]⟩, ⟨b, o + k * 2 + 1, [.slice y.A y.n y.c]⟩] u) ∧
    ∀ j, j < y.n → ∃ yb yo, y.A = some ⟨yb, yo, none⟩ ∧ ∀ u : World, Only (fun _ => False) w0 u → Rngs [⟨b, o + k * 2, [.int .i64 y.off]⟩, ⟨b, o + k * 2 + 1, [.slice y.A y.n y.c]⟩, ⟨yb, yo + j, [.int .u8 (y.bs.getD j 0).toNat]⟩] u := by
  obtain ⟨b, o, y, hA, hyl, hy, hr⟩ := hc.keeps hk
  have hby := hc.ok y hyl
  have two : ∀ u : World, Only (fun _ => False) w0 u → Rngs [⟨b, o + k * 2, [.int .i64 y.off]⟩, ⟨b, o + k * 2 + 1, [.slice y.A y.n y.c]⟩] u := fun u hu r hr2 => by
    have hbel : Below w0.heap.size w0 u := hu.below (Nat.le_refl _) (fun _ _ e => e)
    have h := hr.out u hbel _ (List.mem_singleton.2 rfl)
    simp only [List.mem_cons, List.not_mem_nil, or_false] at hr2
    rcases hr2 with rfl | rfl
    · intro i v hv
      cases i with
      | zero => cases hv; exact h 0 _ rfl
      | succ i => simp at hv
    · intro i v hv
      cases i with
      | zero => cases hv; exact h 1 _ rfl
      | succ i => simp at hv
  refine ⟨b, o, y, hA, hy, hby.1.symm, hby.2.1, two, fun j hj => ?_⟩
  obtain ⟨yb, yo, e, _⟩ := hby.at_ (by omega)
  refine ⟨yb, yo, e, fun u hu r hr2 => ?_⟩
  rcases List.mem_cons.1 hr2 with rfl | hr2
  · exact two u hu _ List.mem_cons_self
  rcases List.mem_cons.1 hr2 with rfl | hr2
  · exact two u hu _ (List.mem_cons_of_mem _ List.mem_cons_self)
  obtain rfl := List.mem_singleton.1 hr2
  have hbel : Below w0.heap.size w0 u := hu.below (Nat.le_refl _) (fun _ _ e => e)
  have h2 := (hby.below hbel).2.2
  rw [e] at h2
  have h1 := Row.byte h2 j (by rw [hby.1]; exact hj)
  intro i v hv
  cases i with
  | zero => cases hv; exact h1
  | succ i => simp at hv
theorem ref12_Apply (hb : Byt w0 w0.heap.size A nn c S) (hn0 : 0 < nn) (hn1 : nn ≤ 1000000) (hc : Chs w0 w0.heap.size A1 m c1 l) (hm1 : m ≤ 100000) (hyo : ∀ y ∈ l, (-9223372036854775808 ≤ y.off ∧ y.off ≤ 9223372036854775807) ∧ y.n ≤ 9223372036854775807) :
    Calls Tryz.prog 10 #[.agg #[.slice A nn c], .slice A1 m c1] w0 (RapR w0 A S l) := by
  have HC := Lib.hid (Mth.stateC hb hc)
  have hm := HC.out.rebase
  have HB := Lib.hid hb
  have HCH := Lib.hid hc
  have HYO := Lib.hid hyo
  have HL := Lib.hid (And.intro hb.1 (And.intro hn0 (And.intro hn1 hm1)))
  clear hb hc hyo hm1 hn0 hn1
  go_enter Tryz.func10, Tryz.ntmps10
  go_wp2_with (first | go_skip | ((with_reducible show wpList _ _ _ _ _ (World.alloc _ _)); refine wpList_up hm ?_; clear hm; intro n w hn hn2 hk hm hd hd2 ho; (try rw [← hn]); replace hn := Nat.le_of_eq hn.symm) | ((first | ((with_reducible show wpList _ _ _ (Oper.mk _ (Op.box _ _) _ _ _ _ :: _) _ _); (refine bxA hm ?_; clear hm; intro n w hn hz hm ho; (try simp only [List.cons_append, List.nil_append] at hm))) | ((with_reducible show wpList _ _ _ (Oper.mk _ (Op.load _ _) _ _ _ _ :: _) _ _); first | (refine ldA hm ?_) | (refine laA hm ?_)) | ((with_reducible show wpList _ _ _ (Oper.mk _ (Op.store _ _ _) _ _ _ _ :: _) _ _); (refine stA hm ?_; clear hm; intro w hz hm ho)) | ((with_reducible show wpList _ _ _ (Oper.mk _ (Op.alloc _) _ _ _ _ :: _) _ _); (refine alA hm ?_; clear hm; intro n w hn hz hm ho; (try simp only [List.cons_append, List.nil_append] at hm)))); try simp only [Act.put, sxQ]))
  obtain ⟨n2, h9⟩ := hm.nm 0 rfl
  dsimp only at h9
  subst h9
  obtain ⟨n4, h9⟩ := hm.nm 1 rfl
  dsimp only at h9
  subst h9
  have hc2 := HC.out.resync hm
  clear HC hm
  simp only [List.nil_append, List.cons_append, List.set_cons_zero, List.set_cons_succ] at hc2
  have HC := Lib.hid hc2
  clear hc2
  have hm := HC.out.rebase
  go_loopg [6] m (fun gk v6 wr => ∃ i, i + gk = m ∧ v6 = .int .i64 (i : Int) ∧ JC.allIn nn (l.take i) = true ∧ Mth (fun _ => False) w0 wr [⟨n2, 35, #[.slice A nn c]⟩, ⟨n4, 35, #[.slice none 0 0]⟩] [] [] [⟨blks #[.slice A nn c], fun u => Byt u u.heap.size A nn c S⟩, ⟨chsG A1 m l, fun u => Chs u u.heap.size A1 m c1 l⟩])
  case atStart => exact ⟨0, Nat.zero_add _, rfl, by rw [List.take_zero]; rfl, HC.out⟩
  case round =>
    clear HC hm
    obtain ⟨i, hig, rfl, hin, hsc⟩ := hrel
    have HC := Lib.hid hsc
    have HIN := Lib.hid hin
    have hm := HC.out.rebase
    clear hsc hin
    cases gk with
    | zero =>
      obtain rfl : i = m := by omega
      have ik : decide ((i : Int) < (i : Int)) = false := decide_eq_false (by omega)
      go_wp2_with (first | go_skip | ((with_reducible show wpList _ _ _ _ _ (World.alloc _ _)); refine wpList_up hm ?_; clear hm; intro n w hn hn2 hk hm hd hd2 ho; (try rw [← hn]); replace hn := Nat.le_of_eq hn.symm) | ((first | ((with_reducible show wpList _ _ _ (Oper.mk _ (Op.box _ _) _ _ _ _ :: _) _ _); (refine bxA hm ?_; clear hm; intro n w hn hz hm ho; (try simp only [List.cons_append, List.nil_append] at hm))) | ((with_reducible show wpList _ _ _ (Oper.mk _ (Op.load _ _) _ _ _ _ :: _) _ _); first | (refine ldA hm ?_) | (refine laA hm ?_)) | ((with_reducible show wpList _ _ _ (Oper.mk _ (Op.store _ _ _) _ _ _ _ :: _) _ _); (refine stA hm ?_; clear hm; intro w hz hm ho)) | ((with_reducible show wpList _ _ _ (Oper.mk _ (Op.alloc _) _ _ _ _ :: _) _ _); (refine alA hm ?_; clear hm; intro n w hn hz hm ho; (try simp only [List.cons_append, List.nil_append] at hm)))); try simp only [Act.put, sxQ]))
      have hll : l.length = i := HCH.out.len
      have HALL := Lib.hid (show JC.allIn nn l = true by have := HIN.out; rw [List.take_of_length_le (by omega)] at this; exact this)
      have HVS := Lib.hid (fun (x : Thing) (hx : x ∈ [⟨blks #[.slice A nn c], fun u => Byt u u.heap.size A nn c S⟩, ⟨chsG A1 i l, fun u => Chs u u.heap.size A1 i c1 l⟩]) (q : Nat) (hq : x.G q) => show q < w0.heap.size from by
        rcases List.mem_cons.1 hx with rfl | hx
        · exact (bytSup HB.out).lt q hq
        · obtain rfl := List.mem_singleton.1 hx; exact (Chs.sup HCH.out).lt q hq)
      have HLL := Lib.hid hll
      clear hll HIN
      go_at_call 36
      refine (ref12_Weight ((HC.out.resync hm).val 1 rfl) (by have := HL.out.2.2.2; omega)).mono ?_
      rintro e w1 ⟨z, rfl, hz, hb1⟩
      have hc2 := (HC.out.resync hm).below hb1
      clear hb1
      clear HC hm
      simp only [List.nil_append, List.cons_append, List.set_cons_zero, List.set_cons_succ] at hc2
      have HC := Lib.hid hc2
      clear hc2
      have hm := HC.out.rebase
      by_cases hwt : 1024 < JC.weight l
      · have d1 : decide (1024 < (z : Int)) = true := decide_eq_true (by omega)
        have HWT := Lib.hid hwt
        clear hwt hz
        go_wp2_with (first | go_skip | ((with_reducible show wpList _ _ _ _ _ (World.alloc _ _)); refine wpList_up hm ?_; clear hm; intro n w hn hn2 hk hm hd hd2 ho; (try rw [← hn]); replace hn := Nat.le_of_eq hn.symm) | ((first | ((with_reducible show wpList _ _ _ (Oper.mk _ (Op.box _ _) _ _ _ _ :: _) _ _); (refine bxA hm ?_; clear hm; intro n w hn hz hm ho; (try simp only [List.cons_append, List.nil_append] at hm))) | ((with_reducible show wpList _ _ _ (Oper.mk _ (Op.load _ _) _ _ _ _ :: _) _ _); first | (refine ldA hm ?_) | (refine laA hm ?_)) | ((with_reducible show wpList _ _ _ (Oper.mk _ (Op.store _ _ _) _ _ _ _ :: _) _ _); (refine stA hm ?_; clear hm; intro w hz hm ho)) | ((with_reducible show wpList _ _ _ (Oper.mk _ (Op.alloc _) _ _ _ _ :: _) _ _); (refine alA hm ?_; clear hm; intro n w hn hz hm ho; (try simp only [List.cons_append, List.nil_append] at hm)))); try simp only [Act.put, sxQ]))
        refine bodyPost_ret (results_row_tmp rfl _ _ n4 35 _ _ _ rfl (hm.at_ 1 rfl) Tryz.underlying35 rfl (by kernel_rfl)) rfl ?_
        have hsc := HC.out.resync hm
        have e1 : Jn.rapply S l = (S, 11) := by unfold Jn.rapply; rw [HL.out.1, HALL.out, if_neg (by decide), if_pos HWT.out]
        unfold RapR
        rw [e1]
        exact ⟨A, nn, c, rfl, hsc.val 0 rfl, .inl rfl, hsc.quiet⟩
      · have d1 : decide (1024 < (z : Int)) = false := decide_eq_false (by omega)
        have HWT := Lib.hid hwt
        clear hwt hz
        replace hm := hm.empty 5 1 none
        have hc2 := HC.out.resync hm
        clear HC hm
        simp only [List.nil_append, List.cons_append, List.set_cons_zero, List.set_cons_succ] at hc2
        have HC := Lib.hid hc2
        clear hc2
        have hm := HC.out.rebase
        have hb1 : Byt w1 w1.heap.size A nn c S := HC.out.val 0 rfl
        have HROW := Lib.hid hb1.2.2
        clear hb1
        go_upto_region 10 with (first | ((with_reducible show wpList _ _ _ (Oper.mk _ (Op.call { callee := Callee.builtin Builtin.append, args := _, argTypes := _ }) _ _ _ _ :: _) _ _); refine wpList_apJ rfl (.tmp 56) (.tmp 58) rfl none 0 0 [] rfl (HC.out.resync hm) 0 rfl (fun x hx q hq => HVS.out x hx q hq) _ _ nn _ S rfl HROW.out HL.out.1 (by have := HL.out.2.2.1; omega) ?_; clear hm HROW; intro A2 c2 w2 hc2; clear HC; (try simp only [Act.put, sxQ]); simp only [List.nil_append, List.cons_append, List.set_cons_zero, Nat.zero_add] at hc2; have HC := Lib.hid hc2; clear hc2; have hm := HC.out.rebase) | go_skip | ((with_reducible show wpList _ _ _ _ _ (World.alloc _ _)); refine wpList_up hm ?_; clear hm; intro n w hn hn2 hk hm hd hd2 ho; (try rw [← hn]); replace hn := Nat.le_of_eq hn.symm) | ((first | ((with_reducible show wpList _ _ _ (Oper.mk _ (Op.box _ _) _ _ _ _ :: _) _ _); (refine bxA hm ?_; clear hm; intro n w hn hz hm ho; (try simp only [List.cons_append, List.nil_append] at hm))) | ((with_reducible show wpList _ _ _ (Oper.mk _ (Op.load _ _) _ _ _ _ :: _) _ _); first | (refine ldA hm ?_) | (refine laA hm ?_)) | ((with_reducible show wpList _ _ _ (Oper.mk _ (Op.store _ _ _) _ _ _ _ :: _) _ _); (refine stA hm ?_; clear hm; intro w hz hm ho)) | ((with_reducible show wpList _ _ _ (Oper.mk _ (Op.alloc _) _ _ _ _ :: _) _ _); (refine alA hm ?_; clear hm; intro n w hn hz hm ho; (try simp only [List.cons_append, List.nil_append] at hm)))); try simp only [Act.put, sxQ]))
        simp only [Nat.zero_add]
        obtain ⟨l2, hl2⟩ : ∃ l2, l2 = JC.plains l := ⟨_, rfl⟩
        have HL2 := Lib.hid hl2
        have hoc : nn ≤ c2 := (HC.out.own 0 rfl).2.1
        have hq2 : ∃ qb, A2 = some ⟨qb, 0, none⟩ := by
          obtain ⟨qb, _, e, _⟩ := (HC.out.own 0 rfl).2.2.2 (show 0 < c2 by have := HL.out.2.1; omega)
          exact ⟨qb, e⟩
        obtain ⟨qb, rfl⟩ := hq2
        have e0 : Jn.appB (Jn.far l2 0 0) S = S := by rw [Jn.far_zero]; rfl
        have hI0 : Mth (fun _ => False) w0 w2 [⟨n2, 35, #[.slice A nn c]⟩, ⟨n4, 35, #[.slice none 0 0]⟩] [⟨5, 1, some ⟨qb, 0, none⟩, nn, c2, bcells (Jn.appB (Jn.far l2 0 0) S)⟩] [] [⟨blks #[.slice A nn c], fun u => Byt u u.heap.size A nn c S⟩, ⟨chsG A1 i l, fun u => Chs u u.heap.size A1 i c1 l⟩] := by rw [e0]; exact HC.out
        have HNC := Lib.hid hoc
        clear hl2 e0 HC hm hoc
        go_wp2_with fail
        go_loopg [8] i (fun gk v8 wr => ∃ j, j + gk = i ∧ v8 = .int .i64 (j : Int) ∧ Mth (fun _ => False) w0 wr [⟨n2, 35, #[.slice A nn c]⟩, ⟨n4, 35, #[.slice none 0 0]⟩] [⟨5, 1, some ⟨qb, 0, none⟩, nn, c2, bcells (Jn.appB (Jn.far l2 j 0) S)⟩] [] [⟨blks #[.slice A nn c], fun u => Byt u u.heap.size A nn c S⟩, ⟨chsG A1 i l, fun u => Chs u u.heap.size A1 i c1 l⟩])
        case atStart => exact ⟨0, Nat.zero_add _, rfl, hI0⟩
        case round =>
          clear hI0
          obtain ⟨j, hjg, rfl, hsc⟩ := hrel
          have HC := Lib.hid hsc
          have hm := HC.out.rebase
          clear hsc
          cases gk with
          | zero =>
            obtain rfl : j = i := by omega
            have ij : decide ((j : Int) < (j : Int)) = false := decide_eq_false (by omega)
            go_wp2_with (first | go_skip | ((with_reducible show wpList _ _ _ _ _ (World.alloc _ _)); refine wpList_up hm ?_; clear hm; intro n w hn hn2 hk hm hd hd2 ho; (try rw [← hn]); replace hn := Nat.le_of_eq hn.symm) | ((first | ((with_reducible show wpList _ _ _ (Oper.mk _ (Op.box _ _) _ _ _ _ :: _) _ _); (refine bxA hm ?_; clear hm; intro n w hn hz hm ho; (try simp only [List.cons_append, List.nil_append] at hm))) | ((with_reducible show wpList _ _ _ (Oper.mk _ (Op.load _ _) _ _ _ _ :: _) _ _); first | (refine ldA hm ?_) | (refine laA hm ?_)) | ((with_reducible show wpList _ _ _ (Oper.mk _ (Op.store _ _ _) _ _ _ _ :: _) _ _); (refine stA hm ?_; clear hm; intro w hz hm ho)) | ((with_reducible show wpList _ _ _ (Oper.mk _ (Op.alloc _) _ _ _ _ :: _) _ _); (refine alA hm ?_; clear hm; intro n w hn hz hm ho; (try simp only [List.cons_append, List.nil_append] at hm)))); try simp only [Act.put, sxQ]))
            refine bodyPost_ret (results_row_tmp rfl _ _ n4 35 _ _ _ rfl (hm.at_ 1 rfl) Tryz.underlying35 rfl (by kernel_rfl)) rfl ?_
            have hsc := HC.out.resync hm
            have ef : Jn.far l2 j 0 = Jn.pairs (JC.plains l) := by
              have e : l2.length = j := by rw [HL2.out, JC.plains, List.length_map]; exact HLL.out
              rw [← e, Jn.far_all, HL2.out]
            have e1 : Jn.rapply S l = (Jn.appB (Jn.pairs (JC.plains l)) S, 0) := by unfold Jn.rapply; rw [HL.out.1, HALL.out, if_neg (by decide), if_neg HWT.out]
            unfold RapR
            rw [e1]
            rw [ef] at hsc
            exact ⟨some ⟨qb, 0, none⟩, nn, c2, rfl, hsc.byt 0 rfl, .inr fun a e _ => by cases e; exact ((hsc.own 0 rfl).lt qb (show ownAt (some ⟨qb, 0, none⟩) c2 = some qb from ownAt_some (a := ⟨qb, 0, none⟩) (show 0 < c2 by have := HNC.out; have := HL.out.2.1; omega) rfl)).1, hsc.quiet⟩
          | succ gj =>
            have hj : j < i := by omega
            have ij : decide ((j : Int) < (i : Int)) = true := decide_eq_true (by omega)
            obtain ⟨cb, co, y, hA, hyj, hyn, hyc, hRc, hby⟩ := HCH.out.cells hj
            have hin := allIn_mem HALL.out y (List.mem_of_getElem? hyj)
            have hl2j : l2[j]? = some y.plain := by rw [HL2.out, JC.plains, List.getElem?_map, hyj]; rfl
            obtain ⟨z0, yA, yn, yc, ybs⟩ := y
            unfold JC.inB at hin
            have hin := of_decide_eq_true hin
            dsimp only [JC.plain] at hyn hyc hRc hby hin hl2j
            obtain ⟨o, rfl⟩ : ∃ o : Nat, z0 = (o : Int) := ⟨z0.toNat, by omega⟩
            rw [Int.toNat_natCast] at hl2j
            have RKC := Lib.hid hRc
            have HBY := Lib.hid hby
            have HLJ := Lib.hid (And.intro hl2j hyn)
            have HIN := Lib.hid (show o + yn ≤ nn by omega)
            have io2 : (j : Int) < (i : Int) := by omega
            rw [hA]
            clear hRc hby hyj hyn hyc hin hl2j
            go_wp2_with (first | go_skip | ((with_reducible show wpList _ _ _ _ _ (World.alloc _ _)); refine wpList_up hm ?_; clear hm; intro n w hn hn2 hk hm hd hd2 ho; (try rw [← hn]); replace hn := Nat.le_of_eq hn.symm) | ((first | ((with_reducible show wpList _ _ _ (Oper.mk _ (Op.box _ _) _ _ _ _ :: _) _ _); (refine bxA hm ?_; clear hm; intro n w hn hz hm ho; (try simp only [List.cons_append, List.nil_append] at hm))) | ((with_reducible show wpList _ _ _ (Oper.mk _ (Op.load _ _) _ _ _ _ :: _) _ _); first | (refine ldA hm ?_) | (refine laA hm ?_)) | ((with_reducible show wpList _ _ _ (Oper.mk _ (Op.store _ _ _) _ _ _ _ :: _) _ _); (refine stA hm ?_; clear hm; intro w hz hm ho)) | ((with_reducible show wpList _ _ _ (Oper.mk _ (Op.alloc _) _ _ _ _ :: _) _ _); (refine alA hm ?_; clear hm; intro n w hn hz hm ho; (try simp only [List.cons_append, List.nil_append] at hm)))); try simp only [Act.put, sxQ]))
            go_loopg [9] yn (fun gk v9 wr => ∃ k, k + gk = yn ∧ v9 = .int .i64 (k : Int) ∧ Mth (fun _ => False) w0 wr [⟨n2, 35, #[.slice A nn c]⟩, ⟨n4, 35, #[.slice none 0 0]⟩] [⟨5, 1, some ⟨qb, 0, none⟩, nn, c2, bcells (Jn.appB (Jn.far l2 j k) S)⟩] [] [⟨blks #[.slice A nn c], fun u => Byt u u.heap.size A nn c S⟩, ⟨chsG A1 i l, fun u => Chs u u.heap.size A1 i c1 l⟩])
            case atStart => exact ⟨0, Nat.zero_add _, rfl, HC.out.resync hm⟩
            case round =>
              clear HC hm
              obtain ⟨k, hkg, rfl, hsc⟩ := hrel
              have HC := Lib.hid hsc
              have hm := HC.out.rebase
              clear hsc
              cases gk with
              | zero =>
                obtain rfl : k = yn := by omega
                have ik2 : decide ((k : Int) < (k : Int)) = false := decide_eq_false (by omega)
                go_wp2_with (first | go_skip | ((with_reducible show wpList _ _ _ _ _ (World.alloc _ _)); refine wpList_up hm ?_; clear hm; intro n w hn hn2 hk hm hd hd2 ho; (try rw [← hn]); replace hn := Nat.le_of_eq hn.symm) | ((first | ((with_reducible show wpList _ _ _ (Oper.mk _ (Op.box _ _) _ _ _ _ :: _) _ _); (refine bxA hm ?_; clear hm; intro n w hn hz hm ho; (try simp only [List.cons_append, List.nil_append] at hm))) | ((with_reducible show wpList _ _ _ (Oper.mk _ (Op.load _ _) _ _ _ _ :: _) _ _); first | (refine ldA hm ?_) | (refine laA hm ?_) | (refine lcA (RKC.out _ (HC.out.resync hm).low) ?_) | (refine lrA (RKC.out _ (HC.out.resync hm).low) ?_)) | ((with_reducible show wpList _ _ _ (Oper.mk _ (Op.store _ _ _) _ _ _ _ :: _) _ _); (refine stA hm ?_; clear hm; intro w hz hm ho)) | ((with_reducible show wpList _ _ _ (Oper.mk _ (Op.alloc _) _ _ _ _ :: _) _ _); (refine alA hm ?_; clear hm; intro n w hn hz hm ho; (try simp only [List.cons_append, List.nil_append] at hm)))); try simp only [Act.put, sxQ]))
                have hsc := HC.out.resync hm
                have hnx : Jn.far l2 j k = Jn.far l2 (j + 1) 0 := by have := Jn.far_next HLJ.out.1; rw [← HLJ.out.2] at this; exact this
                rw [hnx] at hsc
                rw [← hA]
                go_roundg gj
                case measure => omega
                case rel => exact ⟨j + 1, by omega, by rw [wr_succ j (by have := HL.out.2.2.2; omega)], hsc⟩
              | succ gl =>
                have hk : k < yn := by omega
                have ik2 : decide ((k : Int) < (yn : Int)) = true := decide_eq_true (by omega)
                go_upto_region 16 with (first | go_skip | ((with_reducible show wpList _ _ _ _ _ (World.alloc _ _)); refine wpList_up hm ?_; clear hm; intro n w hn hn2 hk hm hd hd2 ho; (try rw [← hn]); replace hn := Nat.le_of_eq hn.symm) | ((first | ((with_reducible show wpList _ _ _ (Oper.mk _ (Op.box _ _) _ _ _ _ :: _) _ _); (refine bxA hm ?_; clear hm; intro n w hn hz hm ho; (try simp only [List.cons_append, List.nil_append] at hm))) | ((with_reducible show wpList _ _ _ (Oper.mk _ (Op.load _ _) _ _ _ _ :: _) _ _); first | (refine ldA hm ?_) | (refine laA hm ?_) | (refine lcA (RKC.out _ (HC.out.resync hm).low) ?_) | (refine lrA (RKC.out _ (HC.out.resync hm).low) ?_)) | ((with_reducible show wpList _ _ _ (Oper.mk _ (Op.store _ _ _) _ _ _ _ :: _) _ _); (refine stA hm ?_; clear hm; intro w hz hm ho)) | ((with_reducible show wpList _ _ _ (Oper.mk _ (Op.alloc _) _ _ _ _ :: _) _ _); (refine alA hm ?_; clear hm; intro n w hn hz hm ho; (try simp only [List.cons_append, List.nil_append] at hm)))); try simp only [Act.put, sxQ]))
                obtain ⟨yb, yo, hYA, hRb⟩ := HBY.out k hk
                subst hYA
                obtain ⟨v, hv⟩ : ∃ v, v = ybs.getD k 0 := ⟨_, rfl⟩
                rw [← hv] at hRb
                have RKB := Lib.hid hRb
                obtain ⟨a, ha⟩ : ∃ a, a = o + k := ⟨_, rfl⟩
                obtain ⟨u1, u2, ia1, ia2, hk6⟩ := rap_facts o k a yn nn ha hk HIN.out HL.out.2.2.1
                have hstep : Jn.far l2 j (k + 1) = Jn.far l2 j k ++ [(a, v)] := by have := Jn.far_byte HLJ.out.1 (k := k) (by rw [← HLJ.out.2]; exact hk); rw [ha, hv]; exact this
                have HSTEP := Lib.hid hstep
                have HK6 := Lib.hid hk6
                have HAN := Lib.hid ia2
                clear hRb hv ha hstep hk6
                have ik3 : (k : Int) < (yn : Int) := by omega
                refine wp_region_noPanic ?_
                refine wp_region_phase (S := KnS _ _) [17] (by kernel_rfl) (KnS.of hm.drew (RKB.out _ (HC.out.resync hm.drew).low)) (fun hHeld => ?_)
                refine wpAnyP_fresh (by repeat (first | apply Fresh.a | apply Fresh.b)) ?_
                replace hm := hm.drew
                iterate 17 (first | (refine takePN 0 hHeld ?_) | (refine takePY 0 ?_ hHeld ?_ ?_; rotate_left 1; (first | (intro w9 h9; (with_reducible show (execOp _ (Oper.mk _ (Op.load _ _) _ _ _ _)).run _ _ = _); first | exact h9.ldA | exact h9.lcA | exact h9.laA | exact h9.lrA) | focus (intro w9 hSw; go_simp; (try (with_reducible rfl)); done))); try simp only [Act.put, sxQ])
                refine wpAnyP_last 17 (by kernel_rfl) (by simp only [sxN]; first | done | exact rfl) (by kernel_rfl) (fun K hK => ?_)
                obtain ⟨cur, hcb, hcs, hput⟩ := own_put (i := a) ((HC.out.resync hm).own 0 rfl |>.mono (Nat.zero_le _)) HAN.out
                have hm1 : Mem (fun q => q = qb) wr.drew wr.drew [⟨qb, 5, cur⟩] [] := Mem.one hcb rfl
                have hat2 : a + 1 ≤ cur.size := Nat.le_trans HAN.out hcs
                refine stB hm1 ?_ (hin := hat2) (hcs := rfl)
                intro w5 hz5 hm5 ho5
                have hown5 := hput w5 _ (hm5.at_ 0 rfl)
                have hat : ownAt (some ⟨qb, 0, none⟩) c2 = some qb := ownAt_some (a := ⟨qb, 0, none⟩) (by have := HNC.out; have := HL.out.2.1; omega) rfl
                have hc2 := (HC.out.resync hm).app 0 rfl hown5 ⟨ho5.os, ho5.tape, ho5.output, ho5.size, fun q hq hn => ho5.block q hq (fun e => hn (by rw [hat, e]))⟩ (.inl rfl) HVS.out
                clear hcb hcs hput hm1 hm5 ho5 hown5 hat
                have eb : (bcells (Jn.appB (Jn.far l2 j k) S)).set a (Value.int .u8 (v.toNat : Int)) = bcells (Jn.appB (Jn.far l2 j (k + 1)) S) := by rw [HSTEP.out, Jn.appB_snoc, bcells, bcells, List.map_set]
                rw [eb] at hc2
                clear HC hm
                simp only [List.nil_append, List.cons_append, List.set_cons_zero, List.set_cons_succ] at hc2
                have HC := Lib.hid hc2
                clear hc2
                have hm := HC.out.rebase
                refine hK.out _ _ ?_
                clear hK K
                try simp only [Act.put, sxQ]
                refine wpAnyP_done (by kernel_rfl) ?_ _
                refine NoPanic.normal ?_
                go_wp2_with (first | go_skip | ((with_reducible show wpList _ _ _ _ _ (World.alloc _ _)); refine wpList_up hm ?_; clear hm; intro n w hn hn2 hk hm hd hd2 ho; (try rw [← hn]); replace hn := Nat.le_of_eq hn.symm) | ((first | ((with_reducible show wpList _ _ _ (Oper.mk _ (Op.box _ _) _ _ _ _ :: _) _ _); (refine bxA hm ?_; clear hm; intro n w hn hz hm ho; (try simp only [List.cons_append, List.nil_append] at hm))) | ((with_reducible show wpList _ _ _ (Oper.mk _ (Op.load _ _) _ _ _ _ :: _) _ _); first | (refine ldA hm ?_) | (refine laA hm ?_)) | ((with_reducible show wpList _ _ _ (Oper.mk _ (Op.store _ _ _) _ _ _ _ :: _) _ _); (refine stA hm ?_; clear hm; intro w hz hm ho)) | ((with_reducible show wpList _ _ _ (Oper.mk _ (Op.alloc _) _ _ _ _ :: _) _ _); (refine alA hm ?_; clear hm; intro n w hn hz hm ho; (try simp only [List.cons_append, List.nil_append] at hm)))); try simp only [Act.put, sxQ]))
                go_roundg gl
                case measure => omega
                case rel => exact ⟨k + 1, by omega, by rw [wr_succ k HK6.out], HC.out.resync hm⟩
    | succ gi =>
      have hi : i < m := by omega
      have ik : decide ((i : Int) < (m : Int)) = true := decide_eq_true (by omega)
      obtain ⟨cb, co, y, hA, hyi, hyn, hyc, hRc, _⟩ := HCH.out.cells hi
      have hyof := HYO.out y (List.mem_of_getElem? hyi)
      obtain ⟨off, yA, yn, yc, ybs⟩ := y
      dsimp only at hyn hyc hRc hyof
      have RKC := Lib.hid hRc
      have HYI := Lib.hid hyi
      have HYC := Lib.hid (And.intro hyn (And.intro hyc hyof))
      rw [hA]
      clear hRc hyi hyn hyc hyof
      go_upto_region 4 with (first | go_skip | ((with_reducible show wpList _ _ _ _ _ (World.alloc _ _)); refine wpList_up hm ?_; clear hm; intro n w hn hn2 hk hm hd hd2 ho; (try rw [← hn]); replace hn := Nat.le_of_eq hn.symm) | ((first | ((with_reducible show wpList _ _ _ (Oper.mk _ (Op.box _ _) _ _ _ _ :: _) _ _); (refine bxA hm ?_; clear hm; intro n w hn hz hm ho; (try simp only [List.cons_append, List.nil_append] at hm))) | ((with_reducible show wpList _ _ _ (Oper.mk _ (Op.load _ _) _ _ _ _ :: _) _ _); first | (refine ldA hm ?_) | (refine laA hm ?_)) | ((with_reducible show wpList _ _ _ (Oper.mk _ (Op.store _ _ _) _ _ _ _ :: _) _ _); (refine stA hm ?_; clear hm; intro w hz hm ho)) | ((with_reducible show wpList _ _ _ (Oper.mk _ (Op.alloc _) _ _ _ _ :: _) _ _); (refine alA hm ?_; clear hm; intro n w hn hz hm ho; (try simp only [List.cons_append, List.nil_append] at hm)))); try simp only [Act.put, sxQ]))
      have io2 : (i : Int) < (m : Int) := by omega
      by_cases h1 : off < 0
      · have d1 : decide (off < 0) = true := decide_eq_true h1
        have HBD := Lib.hid (show JC.inB nn ⟨off, yA, yn, yc, ybs⟩ = false from decide_eq_false (by have := HL.out.2.2.1; dsimp only; omega))
        clear h1
        refine wp_region_noPanic ?_
        refine wp_region_held_drew (S := KnS _ _) (by kernel_rfl) (KnS.of hm.drew (RKC.out _ (HC.out.resync hm.drew).low)) (fun hHeld => ?_)
        refine wpAnyH_fresh (by repeat (first | apply Fresh.a | apply Fresh.b)) ?_
        replace hm := hm.drew
        iterate 7 (first | (refine takeN 0 hHeld ?_) | (refine takeY 0 ?_ hHeld ?_ ?_; rotate_left 1; (first | (intro w9 h9; (with_reducible show (execOp _ (Oper.mk _ (Op.load _ _) _ _ _ _)).run _ _ = _); first | exact h9.ldA | exact h9.lcA | exact h9.laA | exact h9.lrA) | focus (intro w9 hSw; go_simp; (try (with_reducible rfl)); done))); try simp only [Act.put, sxQ])
        refine wpAnyH_take3 (b := 7) (by repeat (first | apply Seek.a | apply Seek.b | apply Seek.c)) (by simp only [sxN]; first | done | exact rfl) ⟨undef, by kernel_rfl, by kernel_rfl, by kernel_rfl, fun _ _ _ h => h, Or.inr ⟨by kernel_rfl, rfl⟩, hHeld, ?_⟩
        try simp only [Act.put, sxQ]
        refine wpAnyH_take3 (b := 8) (by repeat (first | apply Seek.a | apply Seek.b | apply Seek.c)) (by simp only [sxN]; first | done | exact rfl) ⟨undef, by kernel_rfl, by kernel_rfl, by kernel_rfl, fun _ _ _ h => h, Or.inr ⟨by kernel_rfl, rfl⟩, hHeld, ?_⟩
        try simp only [Act.put, sxQ]
        refine wpAnyH_take3 (b := 9) (by repeat (first | apply Seek.a | apply Seek.b | apply Seek.c)) (by simp only [sxN]; first | done | exact rfl) ⟨undef, by kernel_rfl, by kernel_rfl, by kernel_rfl, fun _ _ _ h => h, Or.inr ⟨by kernel_rfl, rfl⟩, hHeld, ?_⟩
        try simp only [Act.put, sxQ]
        refine wpAnyH_take3 (b := 10) (by repeat (first | apply Seek.a | apply Seek.b | apply Seek.c)) (by simp only [sxN]; first | done | exact rfl) ⟨undef, by kernel_rfl, by kernel_rfl, by kernel_rfl, fun _ _ _ h => h, Or.inr ⟨by kernel_rfl, rfl⟩, hHeld, ?_⟩
        try simp only [Act.put, sxQ]
        refine wpAnyH_take3 (b := 11) (by repeat (first | apply Seek.a | apply Seek.b | apply Seek.c)) (by simp only [sxN]; first | done | exact rfl) ⟨undef, by kernel_rfl, by kernel_rfl, by kernel_rfl, fun _ _ _ h => h, Or.inr ⟨by kernel_rfl, rfl⟩, hHeld, ?_⟩
        try simp only [Act.put, sxQ]
        refine wpAnyH_take3 (b := 12) (by repeat (first | apply Seek.a | apply Seek.b | apply Seek.c)) (by simp only [sxN]; first | done | exact rfl) ⟨undef, by kernel_rfl, by kernel_rfl, by kernel_rfl, fun _ _ _ h => h, Or.inr ⟨by kernel_rfl, rfl⟩, hHeld, ?_⟩
        try simp only [Act.put, sxQ]
        refine wpAnyH_take3 (b := 13) (by repeat (first | apply Seek.a | apply Seek.b | apply Seek.c)) (by simp only [sxN]; first | done | exact rfl) ⟨undef, by kernel_rfl, by kernel_rfl, by kernel_rfl, fun _ _ _ h => h, Or.inr ⟨by kernel_rfl, rfl⟩, hHeld, ?_⟩
        try simp only [Act.put, sxQ]
        refine wpAnyH_take3 (b := 14) (by repeat (first | apply Seek.a | apply Seek.b | apply Seek.c)) (by simp only [sxN]; first | done | exact rfl) ⟨undef, by kernel_rfl, by kernel_rfl, by kernel_rfl, fun _ _ _ h => h, Or.inr ⟨by kernel_rfl, rfl⟩, hHeld, ?_⟩
        try simp only [Act.put, sxQ]
        refine wpAnyH_take3 (b := 15) (by repeat (first | apply Seek.a | apply Seek.b | apply Seek.c)) (by simp only [sxN]; first | done | exact rfl) ⟨undef, by kernel_rfl, by kernel_rfl, by kernel_rfl, fun _ _ _ h => h, Or.inr ⟨by kernel_rfl, rfl⟩, hHeld, ?_⟩
        try simp only [Act.put, sxQ]
        iterate 2 (first | (refine takeN 16 hHeld ?_) | (refine takeY 16 ?_ hHeld ?_ ?_; rotate_left 1; (first | (intro w9 h9; (with_reducible show (execOp _ (Oper.mk _ (Op.load _ _) _ _ _ _)).run _ _ = _); first | exact h9.ldA | exact h9.lcA | exact h9.laA | exact h9.lrA) | focus (intro w9 hSw; go_simp; (try (with_reducible rfl)); done))); try simp only [Act.put, sxQ])
        refine wpAnyH_take3 (b := 18) (by repeat (first | apply Seek.a | apply Seek.b | apply Seek.c)) (by simp only [sxN]; first | done | exact rfl) ⟨undef, by kernel_rfl, by kernel_rfl, by kernel_rfl, fun _ _ _ h => h, Or.inr ⟨by kernel_rfl, rfl⟩, hHeld, ?_⟩
        try simp only [Act.put, sxQ]
        refine wpAnyH_take3 (b := 19) (by repeat (first | apply Seek.a | apply Seek.b | apply Seek.c)) (by simp only [sxN]; first | done | exact rfl) ⟨undef, by kernel_rfl, by kernel_rfl, by kernel_rfl, fun _ _ _ h => h, Or.inr ⟨by kernel_rfl, rfl⟩, hHeld, ?_⟩
        try simp only [Act.put, sxQ]
        refine wpAnyH_take3 (b := 20) (by repeat (first | apply Seek.a | apply Seek.b | apply Seek.c)) (by simp only [sxN]; first | done | exact rfl) ⟨undef, by kernel_rfl, by kernel_rfl, by kernel_rfl, fun _ _ _ h => h, Or.inr ⟨by kernel_rfl, rfl⟩, hHeld, ?_⟩
        try simp only [Act.put, sxQ]
        refine wpAnyH_take3 (b := 21) (by repeat (first | apply Seek.a | apply Seek.b | apply Seek.c)) (by simp only [sxN]; first | done | exact rfl) ⟨undef, by kernel_rfl, by kernel_rfl, by kernel_rfl, fun _ _ _ h => h, Or.inr ⟨by kernel_rfl, rfl⟩, hHeld, ?_⟩
        try simp only [Act.put, sxQ]
        refine wpAnyH_take3 (b := 22) (by repeat (first | apply Seek.a | apply Seek.b | apply Seek.c)) (by simp only [sxN]; first | done | exact rfl) ⟨undef, by kernel_rfl, by kernel_rfl, by kernel_rfl, fun _ _ _ h => h, Or.inr ⟨by kernel_rfl, rfl⟩, hHeld, ?_⟩
        try simp only [Act.put, sxQ]
        refine wpAnyH_take3 (b := 23) (by repeat (first | apply Seek.a | apply Seek.b | apply Seek.c)) (by simp only [sxN]; first | done | exact rfl) ⟨undef, by kernel_rfl, by kernel_rfl, by kernel_rfl, fun _ _ _ h => h, Or.inr ⟨by kernel_rfl, rfl⟩, hHeld, ?_⟩
        try simp only [Act.put, sxQ]
        refine wpAnyH_take3 (b := 24) (by repeat (first | apply Seek.a | apply Seek.b | apply Seek.c)) (by simp only [sxN]; first | done | exact rfl) ⟨undef, by kernel_rfl, by kernel_rfl, by kernel_rfl, fun _ _ _ h => h, Or.inr ⟨by kernel_rfl, rfl⟩, hHeld, ?_⟩
        try simp only [Act.put, sxQ]
        refine wpAnyH_take3 (b := 25) (by repeat (first | apply Seek.a | apply Seek.b | apply Seek.c)) (by simp only [sxN]; first | done | exact rfl) ⟨undef, by kernel_rfl, by kernel_rfl, by kernel_rfl, fun _ _ _ h => h, Or.inr ⟨by kernel_rfl, rfl⟩, hHeld, ?_⟩
        try simp only [Act.put, sxQ]
        refine wpAnyH_take3 (b := 26) (by repeat (first | apply Seek.a | apply Seek.b | apply Seek.c)) (by simp only [sxN]; first | done | exact rfl) ⟨undef, by kernel_rfl, by kernel_rfl, by kernel_rfl, fun _ _ _ h => h, Or.inr ⟨by kernel_rfl, rfl⟩, hHeld, ?_⟩
        try simp only [Act.put, sxQ]
        refine wpAnyH_take3 (b := 27) (by repeat (first | apply Seek.a | apply Seek.b | apply Seek.c)) (by simp only [sxN]; first | done | exact rfl) ⟨undef, by kernel_rfl, by kernel_rfl, by kernel_rfl, fun _ _ _ h => h, Or.inr ⟨by kernel_rfl, rfl⟩, hHeld, ?_⟩
        try simp only [Act.put, sxQ]
        refine wpAnyH_take3 (b := 28) (by repeat (first | apply Seek.a | apply Seek.b | apply Seek.c)) (by simp only [sxN]; first | done | exact rfl) ⟨undef, by kernel_rfl, by kernel_rfl, by kernel_rfl, fun _ _ _ h => h, Or.inr ⟨by kernel_rfl, rfl⟩, hHeld, ?_⟩
        try simp only [Act.put, sxQ]
        refine wpAnyH_take3 (b := 29) (by repeat (first | apply Seek.a | apply Seek.b | apply Seek.c)) (by simp only [sxN]; first | done | exact rfl) ⟨undef, by kernel_rfl, by kernel_rfl, by kernel_rfl, fun _ _ _ h => h, Or.inr ⟨by kernel_rfl, rfl⟩, hHeld, ?_⟩
        try simp only [Act.put, sxQ]
        refine wpAnyH_take3 (b := 30) (by repeat (first | apply Seek.a | apply Seek.b | apply Seek.c)) (by simp only [sxN]; first | done | exact rfl) ⟨undef, by kernel_rfl, by kernel_rfl, by kernel_rfl, fun _ _ _ h => h, Or.inr ⟨by kernel_rfl, rfl⟩, hHeld, ?_⟩
        try simp only [Act.put, sxQ]
        refine wpAnyH_take3 (b := 31) (by repeat (first | apply Seek.a | apply Seek.b | apply Seek.c)) (by simp only [sxN]; first | done | exact rfl) ⟨undef, by kernel_rfl, by kernel_rfl, by kernel_rfl, fun _ _ _ h => h, Or.inr ⟨by kernel_rfl, rfl⟩, hHeld, ?_⟩
        try simp only [Act.put, sxQ]
        refine wpAnyH_take3 (b := 32) (by repeat (first | apply Seek.a | apply Seek.b | apply Seek.c)) (by simp only [sxN]; first | done | exact rfl) ⟨undef, by kernel_rfl, by kernel_rfl, by kernel_rfl, fun _ _ _ h => h, Or.inr ⟨by kernel_rfl, rfl⟩, hHeld, ?_⟩
        try simp only [Act.put, sxQ]
        refine wpAnyH_take3 (b := 33) (by repeat (first | apply Seek.a | apply Seek.b | apply Seek.c)) (by simp only [sxN]; first | done | exact rfl) ⟨undef, by kernel_rfl, by kernel_rfl, by kernel_rfl, fun _ _ _ h => h, Or.inr ⟨by kernel_rfl, rfl⟩, hHeld, ?_⟩
        try simp only [Act.put, sxQ]
        iterate 1 (first | (refine takeN 34 hHeld ?_) | (refine takeY 34 ?_ hHeld ?_ ?_; rotate_left 1; (first | (intro w9 h9; (with_reducible show (execOp _ (Oper.mk _ (Op.load _ _) _ _ _ _)).run _ _ = _); first | exact h9.ldA | exact h9.lcA | exact h9.laA | exact h9.lrA) | focus (intro w9 hSw; go_simp; (try (with_reducible rfl)); done))); try simp only [Act.put, sxQ])
        refine wpAnyH_done (by kernel_rfl) ?_ _
        refine NoPanic.normal ?_
        go_wp2_with (first | go_skip | ((with_reducible show wpList _ _ _ _ _ (World.alloc _ _)); refine wpList_up hm ?_; clear hm; intro n w hn hn2 hk hm hd hd2 ho; (try rw [← hn]); replace hn := Nat.le_of_eq hn.symm) | ((first | ((with_reducible show wpList _ _ _ (Oper.mk _ (Op.box _ _) _ _ _ _ :: _) _ _); (refine bxA hm ?_; clear hm; intro n w hn hz hm ho; (try simp only [List.cons_append, List.nil_append] at hm))) | ((with_reducible show wpList _ _ _ (Oper.mk _ (Op.load _ _) _ _ _ _ :: _) _ _); first | (refine ldA hm ?_) | (refine laA hm ?_)) | ((with_reducible show wpList _ _ _ (Oper.mk _ (Op.store _ _ _) _ _ _ _ :: _) _ _); (refine stA hm ?_; clear hm; intro w hz hm ho)) | ((with_reducible show wpList _ _ _ (Oper.mk _ (Op.alloc _) _ _ _ _ :: _) _ _); (refine alA hm ?_; clear hm; intro n w hn hz hm ho; (try simp only [List.cons_append, List.nil_append] at hm)))); try simp only [Act.put, sxQ]))
        refine bodyPost_ret (results_row_tmp rfl _ _ n4 35 _ _ _ rfl (hm.at_ 1 rfl) Tryz.underlying35 rfl (by kernel_rfl)) rfl ?_
        have hsc := HC.out.resync hm
        have e1 : Jn.rapply S l = (S, 2) := by unfold Jn.rapply; rw [HL.out.1, allIn_no HYI.out HBD.out]; rfl
        unfold RapR
        rw [e1]
        exact ⟨A, nn, c, rfl, hsc.val 0 rfl, .inl rfl, hsc.quiet⟩
      · have hN : ∃ o : Nat, off = (o : Int) := ⟨off.toNat, by omega⟩
        obtain ⟨o, rfl⟩ := hN
        have d1 : decide ((o : Int) < 0) = false := decide_eq_false h1
        by_cases h2 : nn < o
        · have d2 : decide ((nn : Int) < (o : Int)) = true := decide_eq_true (by omega)
          have d3 : decide (nn < o) = true := decide_eq_true h2
          have HBD := Lib.hid (show JC.inB nn ⟨(o : Int), yA, yn, yc, ybs⟩ = false from decide_eq_false (by have := HL.out.2.2.1; dsimp only; omega))
          clear h1 h2
          refine wp_region_noPanic ?_
          refine wp_region_held_drew (S := KnS _ _) (by kernel_rfl) (KnS.of hm.drew (RKC.out _ (HC.out.resync hm.drew).low)) (fun hHeld => ?_)
          refine wpAnyH_fresh (by repeat (first | apply Fresh.a | apply Fresh.b)) ?_
          replace hm := hm.drew
          iterate 18 (first | (refine takeN 0 hHeld ?_) | (refine takeY 0 ?_ hHeld ?_ ?_; rotate_left 1; (first | (intro w9 h9; (with_reducible show (execOp _ (Oper.mk _ (Op.load _ _) _ _ _ _)).run _ _ = _); first | exact h9.ldA | exact h9.lcA | exact h9.laA | exact h9.lrA) | focus (intro w9 hSw; go_simp; (try (with_reducible rfl)); done))); try simp only [Act.put, sxQ])
          refine wpAnyH_take3 (b := 18) (by repeat (first | apply Seek.a | apply Seek.b | apply Seek.c)) (by simp only [sxN]; first | done | exact rfl) ⟨undef, by kernel_rfl, by kernel_rfl, by kernel_rfl, fun _ _ _ h => h, Or.inr ⟨by kernel_rfl, rfl⟩, hHeld, ?_⟩
          try simp only [Act.put, sxQ]
          refine wpAnyH_take3 (b := 19) (by repeat (first | apply Seek.a | apply Seek.b | apply Seek.c)) (by simp only [sxN]; first | done | exact rfl) ⟨undef, by kernel_rfl, by kernel_rfl, by kernel_rfl, fun _ _ _ h => h, Or.inr ⟨by kernel_rfl, rfl⟩, hHeld, ?_⟩
          try simp only [Act.put, sxQ]
          refine wpAnyH_take3 (b := 20) (by repeat (first | apply Seek.a | apply Seek.b | apply Seek.c)) (by simp only [sxN]; first | done | exact rfl) ⟨undef, by kernel_rfl, by kernel_rfl, by kernel_rfl, fun _ _ _ h => h, Or.inr ⟨by kernel_rfl, rfl⟩, hHeld, ?_⟩
          try simp only [Act.put, sxQ]
          refine wpAnyH_take3 (b := 21) (by repeat (first | apply Seek.a | apply Seek.b | apply Seek.c)) (by simp only [sxN]; first | done | exact rfl) ⟨undef, by kernel_rfl, by kernel_rfl, by kernel_rfl, fun _ _ _ h => h, Or.inr ⟨by kernel_rfl, rfl⟩, hHeld, ?_⟩
          try simp only [Act.put, sxQ]
          refine wpAnyH_take3 (b := 22) (by repeat (first | apply Seek.a | apply Seek.b | apply Seek.c)) (by simp only [sxN]; first | done | exact rfl) ⟨undef, by kernel_rfl, by kernel_rfl, by kernel_rfl, fun _ _ _ h => h, Or.inr ⟨by kernel_rfl, rfl⟩, hHeld, ?_⟩
          try simp only [Act.put, sxQ]
          refine wpAnyH_take3 (b := 23) (by repeat (first | apply Seek.a | apply Seek.b | apply Seek.c)) (by simp only [sxN]; first | done | exact rfl) ⟨undef, by kernel_rfl, by kernel_rfl, by kernel_rfl, fun _ _ _ h => h, Or.inr ⟨by kernel_rfl, rfl⟩, hHeld, ?_⟩
          try simp only [Act.put, sxQ]
          refine wpAnyH_take3 (b := 24) (by repeat (first | apply Seek.a | apply Seek.b | apply Seek.c)) (by simp only [sxN]; first | done | exact rfl) ⟨undef, by kernel_rfl, by kernel_rfl, by kernel_rfl, fun _ _ _ h => h, Or.inr ⟨by kernel_rfl, rfl⟩, hHeld, ?_⟩
          try simp only [Act.put, sxQ]
          refine wpAnyH_take3 (b := 25) (by repeat (first | apply Seek.a | apply Seek.b | apply Seek.c)) (by simp only [sxN]; first | done | exact rfl) ⟨undef, by kernel_rfl, by kernel_rfl, by kernel_rfl, fun _ _ _ h => h, Or.inr ⟨by kernel_rfl, rfl⟩, hHeld, ?_⟩
          try simp only [Act.put, sxQ]
          refine wpAnyH_take3 (b := 26) (by repeat (first | apply Seek.a | apply Seek.b | apply Seek.c)) (by simp only [sxN]; first | done | exact rfl) ⟨undef, by kernel_rfl, by kernel_rfl, by kernel_rfl, fun _ _ _ h => h, Or.inr ⟨by kernel_rfl, rfl⟩, hHeld, ?_⟩
          try simp only [Act.put, sxQ]
          refine wpAnyH_take3 (b := 27) (by repeat (first | apply Seek.a | apply Seek.b | apply Seek.c)) (by simp only [sxN]; first | done | exact rfl) ⟨undef, by kernel_rfl, by kernel_rfl, by kernel_rfl, fun _ _ _ h => h, Or.inr ⟨by kernel_rfl, rfl⟩, hHeld, ?_⟩
          try simp only [Act.put, sxQ]
          refine wpAnyH_take3 (b := 28) (by repeat (first | apply Seek.a | apply Seek.b | apply Seek.c)) (by simp only [sxN]; first | done | exact rfl) ⟨undef, by kernel_rfl, by kernel_rfl, by kernel_rfl, fun _ _ _ h => h, Or.inr ⟨by kernel_rfl, rfl⟩, hHeld, ?_⟩
          try simp only [Act.put, sxQ]
          refine wpAnyH_take3 (b := 29) (by repeat (first | apply Seek.a | apply Seek.b | apply Seek.c)) (by simp only [sxN]; first | done | exact rfl) ⟨undef, by kernel_rfl, by kernel_rfl, by kernel_rfl, fun _ _ _ h => h, Or.inr ⟨by kernel_rfl, rfl⟩, hHeld, ?_⟩
          try simp only [Act.put, sxQ]
          refine wpAnyH_take3 (b := 30) (by repeat (first | apply Seek.a | apply Seek.b | apply Seek.c)) (by simp only [sxN]; first | done | exact rfl) ⟨undef, by kernel_rfl, by kernel_rfl, by kernel_rfl, fun _ _ _ h => h, Or.inr ⟨by kernel_rfl, rfl⟩, hHeld, ?_⟩
          try simp only [Act.put, sxQ]
          refine wpAnyH_take3 (b := 31) (by repeat (first | apply Seek.a | apply Seek.b | apply Seek.c)) (by simp only [sxN]; first | done | exact rfl) ⟨undef, by kernel_rfl, by kernel_rfl, by kernel_rfl, fun _ _ _ h => h, Or.inr ⟨by kernel_rfl, rfl⟩, hHeld, ?_⟩
          try simp only [Act.put, sxQ]
          refine wpAnyH_take3 (b := 32) (by repeat (first | apply Seek.a | apply Seek.b | apply Seek.c)) (by simp only [sxN]; first | done | exact rfl) ⟨undef, by kernel_rfl, by kernel_rfl, by kernel_rfl, fun _ _ _ h => h, Or.inr ⟨by kernel_rfl, rfl⟩, hHeld, ?_⟩
          try simp only [Act.put, sxQ]
          refine wpAnyH_take3 (b := 33) (by repeat (first | apply Seek.a | apply Seek.b | apply Seek.c)) (by simp only [sxN]; first | done | exact rfl) ⟨undef, by kernel_rfl, by kernel_rfl, by kernel_rfl, fun _ _ _ h => h, Or.inr ⟨by kernel_rfl, rfl⟩, hHeld, ?_⟩
          try simp only [Act.put, sxQ]
          iterate 1 (first | (refine takeN 34 hHeld ?_) | (refine takeY 34 ?_ hHeld ?_ ?_; rotate_left 1; (first | (intro w9 h9; (with_reducible show (execOp _ (Oper.mk _ (Op.load _ _) _ _ _ _)).run _ _ = _); first | exact h9.ldA | exact h9.lcA | exact h9.laA | exact h9.lrA) | focus (intro w9 hSw; go_simp; (try (with_reducible rfl)); done))); try simp only [Act.put, sxQ])
          refine wpAnyH_done (by kernel_rfl) ?_ _
          refine NoPanic.normal ?_
          go_wp2_with (first | go_skip | ((with_reducible show wpList _ _ _ _ _ (World.alloc _ _)); refine wpList_up hm ?_; clear hm; intro n w hn hn2 hk hm hd hd2 ho; (try rw [← hn]); replace hn := Nat.le_of_eq hn.symm) | ((first | ((with_reducible show wpList _ _ _ (Oper.mk _ (Op.box _ _) _ _ _ _ :: _) _ _); (refine bxA hm ?_; clear hm; intro n w hn hz hm ho; (try simp only [List.cons_append, List.nil_append] at hm))) | ((with_reducible show wpList _ _ _ (Oper.mk _ (Op.load _ _) _ _ _ _ :: _) _ _); first | (refine ldA hm ?_) | (refine laA hm ?_)) | ((with_reducible show wpList _ _ _ (Oper.mk _ (Op.store _ _ _) _ _ _ _ :: _) _ _); (refine stA hm ?_; clear hm; intro w hz hm ho)) | ((with_reducible show wpList _ _ _ (Oper.mk _ (Op.alloc _) _ _ _ _ :: _) _ _); (refine alA hm ?_; clear hm; intro n w hn hz hm ho; (try simp only [List.cons_append, List.nil_append] at hm)))); try simp only [Act.put, sxQ]))
          refine bodyPost_ret (results_row_tmp rfl _ _ n4 35 _ _ _ rfl (hm.at_ 1 rfl) Tryz.underlying35 rfl (by kernel_rfl)) rfl ?_
          have hsc := HC.out.resync hm
          have e1 : Jn.rapply S l = (S, 2) := by unfold Jn.rapply; rw [HL.out.1, allIn_no HYI.out HBD.out]; rfl
          unfold RapR
          rw [e1]
          exact ⟨A, nn, c, rfl, hsc.val 0 rfl, .inl rfl, hsc.quiet⟩
        · have d2 : decide ((nn : Int) < (o : Int)) = false := decide_eq_false (by omega)
          have d3 : decide (nn < o) = false := decide_eq_false h2
          obtain ⟨r, hr⟩ : ∃ r, r = nn - o := ⟨_, rfl⟩
          have u1 : wrap64 ((nn : Int) - (o : Int)) = (r : Int) := wr_sub nn o r (by omega) (by have := HL.out.2.2.1; omega)
          have u2 : IntKind.i64.wrap ((nn : Int) - (o : Int)) = (r : Int) := by rw [IntWalk.i64_in _ (by have := HL.out.2.2.1; omega)]; omega
          by_cases h3 : r < yn
          · have d4 : decide ((r : Int) < (yn : Int)) = true := decide_eq_true (by omega)
            have d5 : decide (r < yn) = true := decide_eq_true h3
            have HBD := Lib.hid (show JC.inB nn ⟨(o : Int), yA, yn, yc, ybs⟩ = false from decide_eq_false (by have := HL.out.2.2.1; dsimp only; omega))
            clear h1 h2 h3 hr
            refine wp_region_noPanic ?_
            refine wp_region_held_drew (S := KnS _ _) (by kernel_rfl) (KnS.of hm.drew (RKC.out _ (HC.out.resync hm.drew).low)) (fun hHeld => ?_)
            refine wpAnyH_fresh (by repeat (first | apply Fresh.a | apply Fresh.b)) ?_
            replace hm := hm.drew
            iterate 35 (first | (refine takeN 0 hHeld ?_) | (refine takeY 0 ?_ hHeld ?_ ?_; rotate_left 1; (first | (intro w9 h9; (with_reducible show (execOp _ (Oper.mk _ (Op.load _ _) _ _ _ _)).run _ _ = _); first | exact h9.ldA | exact h9.lcA | exact h9.laA | exact h9.lrA) | focus (intro w9 hSw; go_simp; (try (with_reducible rfl)); done))); try simp only [Act.put, sxQ])
            refine wpAnyH_done (by kernel_rfl) ?_ _
            refine NoPanic.normal ?_
            go_wp2_with (first | go_skip | ((with_reducible show wpList _ _ _ _ _ (World.alloc _ _)); refine wpList_up hm ?_; clear hm; intro n w hn hn2 hk hm hd hd2 ho; (try rw [← hn]); replace hn := Nat.le_of_eq hn.symm) | ((first | ((with_reducible show wpList _ _ _ (Oper.mk _ (Op.box _ _) _ _ _ _ :: _) _ _); (refine bxA hm ?_; clear hm; intro n w hn hz hm ho; (try simp only [List.cons_append, List.nil_append] at hm))) | ((with_reducible show wpList _ _ _ (Oper.mk _ (Op.load _ _) _ _ _ _ :: _) _ _); first | (refine ldA hm ?_) | (refine laA hm ?_)) | ((with_reducible show wpList _ _ _ (Oper.mk _ (Op.store _ _ _) _ _ _ _ :: _) _ _); (refine stA hm ?_; clear hm; intro w hz hm ho)) | ((with_reducible show wpList _ _ _ (Oper.mk _ (Op.alloc _) _ _ _ _ :: _) _ _); (refine alA hm ?_; clear hm; intro n w hn hz hm ho; (try simp only [List.cons_append, List.nil_append] at hm)))); try simp only [Act.put, sxQ]))
            refine bodyPost_ret (results_row_tmp rfl _ _ n4 35 _ _ _ rfl (hm.at_ 1 rfl) Tryz.underlying35 rfl (by kernel_rfl)) rfl ?_
            have hsc := HC.out.resync hm
            have e1 : Jn.rapply S l = (S, 2) := by unfold Jn.rapply; rw [HL.out.1, allIn_no HYI.out HBD.out]; rfl
            unfold RapR
            rw [e1]
            exact ⟨A, nn, c, rfl, hsc.val 0 rfl, .inl rfl, hsc.quiet⟩
          · have d4 : decide ((r : Int) < (yn : Int)) = false := decide_eq_false (by omega)
            have d5 : decide (r < yn) = false := decide_eq_false h3
            have HGD := Lib.hid (show JC.inB nn ⟨(o : Int), yA, yn, yc, ybs⟩ = true from decide_eq_true (by have := HL.out.2.2.1; dsimp only; omega))
            clear h1 h2 h3 hr
            refine wp_region_noPanic ?_
            refine wp_region_held_drew (S := KnS _ _) (by kernel_rfl) (KnS.of hm.drew (RKC.out _ (HC.out.resync hm.drew).low)) (fun hHeld => ?_)
            refine wpAnyH_fresh (by repeat (first | apply Fresh.a | apply Fresh.b)) ?_
            replace hm := hm.drew
            iterate 35 (first | (refine takeN 0 hHeld ?_) | (refine takeY 0 ?_ hHeld ?_ ?_; rotate_left 1; (first | (intro w9 h9; (with_reducible show (execOp _ (Oper.mk _ (Op.load _ _) _ _ _ _)).run _ _ = _); first | exact h9.ldA | exact h9.lcA | exact h9.laA | exact h9.lrA) | focus (intro w9 hSw; go_simp; (try (with_reducible rfl)); done))); try simp only [Act.put, sxQ])
            refine wpAnyH_done (by kernel_rfl) ?_ _
            refine NoPanic.normal ?_
            go_wp2_with (first | go_skip | ((with_reducible show wpList _ _ _ _ _ (World.alloc _ _)); refine wpList_up hm ?_; clear hm; intro n w hn hn2 hk hm hd hd2 ho; (try rw [← hn]); replace hn := Nat.le_of_eq hn.symm) | ((first | ((with_reducible show wpList _ _ _ (Oper.mk _ (Op.box _ _) _ _ _ _ :: _) _ _); (refine bxA hm ?_; clear hm; intro n w hn hz hm ho; (try simp only [List.cons_append, List.nil_append] at hm))) | ((with_reducible show wpList _ _ _ (Oper.mk _ (Op.load _ _) _ _ _ _ :: _) _ _); first | (refine ldA hm ?_) | (refine laA hm ?_)) | ((with_reducible show wpList _ _ _ (Oper.mk _ (Op.store _ _ _) _ _ _ _ :: _) _ _); (refine stA hm ?_; clear hm; intro w hz hm ho)) | ((with_reducible show wpList _ _ _ (Oper.mk _ (Op.alloc _) _ _ _ _ :: _) _ _); (refine alA hm ?_; clear hm; intro n w hn hz hm ho; (try simp only [List.cons_append, List.nil_append] at hm)))); try simp only [Act.put, sxQ]))
            rw [← hA]
            go_roundg gi
            case measure => omega
            case rel => exact ⟨i + 1, by omega, by have := HL.out.2.2.2; rw [wr_succ i (by omega)], allIn_step HYI.out HIN.out HGD.out, HC.out.resync hm⟩
end
end Go.Proofs.YtmhjddmamknglaaGreat
