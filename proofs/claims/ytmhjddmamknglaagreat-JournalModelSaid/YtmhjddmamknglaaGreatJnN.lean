/-
  The journal: decode, the walk.
-/
import Derived.Test.YtmhjddmamknglaaGreatZ0
import Derived.Test.YtmhjddmamknglaaGreatJnL
namespace Go.Proofs.YtmhjddmamknglaaGreat
set_option maxRecDepth 100000
set_option linter.unusedSimpArgs false
set_option linter.unusedVariables false
open Go.RowKit
set_option maxHeartbeats 8000000

theorem o_chJ : (Tryz.prog.info? 58).map (fun i => (i.zero, i.size, i.bytes)) = some (some (.agg #[.int .i64 0, .slice none 0 0]), 2, 32) := by kernel_rfl
/-- A change is appended. -/
theorem wpList_apC {ops : Array Oper} {rest : List Oper} {o : Oper} {a : Act} {w0 w : World} {Q : Exit → Act → World → Prop} {G0 : Nat → Prop} {L : List Ent} {O : List Osl} {Fs Vs : List Thing} (hgd : o.guard = none) (x y : Operand)
    (ho : o.op = .call { callee := .builtin .append, args := #[x, y], argTypes := #[22, 22] })
    (A : Option Addr) (n c : Nat) (X : List JC) (hx : a.eval x = .slice A n c) (hm : Mth G0 w0 w L O Fs Vs) (k : Nat) (hk : O[k]? = some ⟨58, 2, A, n, c, JC.cellsL X⟩) (hV : ∀ x ∈ Vs, ∀ q, x.G q → q < w0.heap.size)
    (B : Nat) (A' : Option Addr) (c' : Nat) (z : JC) (hy : a.eval y = .slice A' 1 c') (hr : Row w B A' (JC.cells z)) (hsz : n + 1 ≤ 1000000)
    (h : ∀ A2 c2 w1, Mth G0 w0 w1 L (O.set k ⟨58, 2, A2, n + 1, c2, JC.cellsL (X ++ [z])⟩) Fs Vs → wpList Tryz.prog ops Q rest (a.put o.dst (.slice A2 (n + 1) c2)) w1) : wpList Tryz.prog ops Q (o :: rest) a w := by
  obtain ⟨ti, hti, hz0, hz1, hz2⟩ := info_parts o_chJ
  refine wpList_append w hgd x y 22 ho 0 58 ti _ 2 32 Tryz.underlying22 hti hz0 hz1 hz2 rfl (by omega) A n c (JC.cellsL X) hx (hm.scn.cal.mem.sl _ (List.mem_of_getElem? hk)) B A' 1 c' (JC.cells z) hy hr rfl (fun v hv => by
    simp only [JC.cells, List.mem_cons, List.not_mem_nil, or_false] at hv
    rcases hv with rfl | rfl <;> rfl) (by unfold maxLen; omega) (by omega) (Nat.zero_le _) ?_
  intro A2 c2 w1 h1 h2 h3
  rw [← JC.cellsL_snoc] at h1
  exact h A2 c2 w1 (hm.app k hk h1 h2 h3 hV)
section
variable {w0 : World} {A : Option Addr} {n0 c0 : Nat} {L : List Jn.C}
/-- What decode hands out. -/
structure DecR (w w' : World) (A : Option Addr) (L : List Jn.C) (A2 : Option Addr) (k2 c2 : Nat) (l : List JC) : Prop where
  own : Own w' w.heap.size 58 2 A2 k2 c2 (JC.cellsL l)
  len : l.length = k2
  plain : JC.plains l = L
  off : ∀ y ∈ l, 0 ≤ y.off ∧ y.off < 281474976710656 ∧ y.n < 65536
  ok : ∀ y ∈ l, Byt w' w'.heap.size y.A y.n y.c y.bs ∧ ∀ a, y.A = some a → 0 < y.n → ∃ a0, A = some a0 ∧ a0.block = a.block
theorem jn_decode (hb : Byt w0 w0.heap.size A n0 c0 (Jn.enc L)) (hL : ∀ x ∈ L, x.off < 281474976710656 ∧ x.data.length < 65536) (hn : n0 ≤ 100000) :
    Calls Tryz.prog 65 #[.slice A n0 c0] w0 fun e w' => ∃ A2 k2 c2 l, e = .returned (.slice A2 k2 c2) ∧ DecR w0 w' A L A2 k2 c2 l ∧ Below w0.heap.size w0 w' := by
  have HC := Lib.hid (Mth.enterB hb)
  have hm := HC.out.rebase
  have HB := Lib.hid hb
  have HLL := Lib.hid hL
  have HN := Lib.hid hn
  have HVO := Lib.hid (show ∀ x ∈ [(⟨blks #[.slice A n0 c0], fun u => Byt u u.heap.size A n0 c0 (Jn.enc L)⟩ : Thing)], ∀ q, x.G q → q < w0.heap.size from fun x hx q hq => by
    obtain rfl := List.mem_singleton.1 hx
    obtain ⟨A1, n1, c1, a1, h1, h2, h3, h4⟩ := hq
    simp at h1
    obtain ⟨rfl, rfl, rfl⟩ := h1
    obtain ⟨b, o, e, hlt⟩ := hb.at_ h2
    rw [h3] at e; cases e
    exact h4 ▸ hlt)
  have HLN := Lib.hid (show L.length ≤ 100000 from by
    have h1 : ∀ L : List Jn.C, L.length ≤ (Jn.enc L).length := by
      intro L
      induction L with
      | nil => exact Nat.zero_le _
      | cons x L ih => rw [Jn.enc_cons, List.length_append, Jn.encC_length, List.length_cons]; omega
    have := h1 L
    rw [hb.1] at this
    omega)
  clear hb hL hn
  go_enter Tryz.func65, Tryz.ntmps65
  go_wp2_with (first | go_skip | ((with_reducible show wpList _ _ _ _ _ (World.alloc _ _)); refine wpList_up hm ?_; clear hm; intro n w hn hn2 hk hm hd hd2 ho; (try rw [← hn]); replace hn := Nat.le_of_eq hn.symm) | ((first | ((with_reducible show wpList _ _ _ (Oper.mk _ (Op.box _ _) _ _ _ _ :: _) _ _); (refine bxA hm ?_; clear hm; intro n w hn hz hm ho; (try simp only [List.cons_append, List.nil_append] at hm))) | ((with_reducible show wpList _ _ _ (Oper.mk _ (Op.load _ _) _ _ _ _ :: _) _ _); first | (refine ldA hm ?_) | (refine laA hm ?_)) | ((with_reducible show wpList _ _ _ (Oper.mk _ (Op.store _ _ _) _ _ _ _ :: _) _ _); (refine stA hm ?_; clear hm; intro w hz hm ho)) | ((with_reducible show wpList _ _ _ (Oper.mk _ (Op.alloc _) _ _ _ _ :: _) _ _); (refine alA hm ?_; clear hm; intro n w hn hz hm ho; (try simp only [List.cons_append, List.nil_append] at hm)))); try simp only [Act.put, sxQ]))
  replace hm := hm.empty 58 2 none
  have hc2 := HC.out.resync hm
  clear HC hm
  simp only [List.nil_append, List.cons_append, List.set_cons_zero, List.set_cons_succ] at hc2
  have HC := Lib.hid hc2
  clear hc2
  have hm := HC.out.rebase
  go_loopg [0, 3] L.length (fun gk v0 v3 wr => ∃ k A1 n1 c1 A2 c2 l, k + gk = L.length ∧ v0 = .slice A1 n1 c1 ∧ v3 = .slice A2 k c2 ∧ l.length = k ∧ JC.plains l = L.take k ∧ n1 ≤ n0 ∧
    (∀ u, Byt u u.heap.size A n0 c0 (Jn.enc L) → Byt u u.heap.size A1 n1 c1 (Jn.enc (L.drop k))) ∧ (∀ a, A1 = some a → 0 < n1 → ∃ a0, A = some a0 ∧ a0.block = a.block) ∧
    (∀ y ∈ l, (0 ≤ y.off ∧ y.off < 281474976710656 ∧ y.n < 65536) ∧ (∀ u, Byt u u.heap.size A n0 c0 (Jn.enc L) → Byt u u.heap.size y.A y.n y.c y.bs) ∧ ∀ a, y.A = some a → 0 < y.n → ∃ a0, A = some a0 ∧ a0.block = a.block) ∧
    Mth (fun _ => False) w0 wr [] [⟨58, 2, A2, k, c2, JC.cellsL l⟩] [] [⟨blks #[.slice A n0 c0], fun u => Byt u u.heap.size A n0 c0 (Jn.enc L)⟩])
  case atStart => exact ⟨0, A, n0, c0, none, 0, [], by omega, rfl, rfl, rfl, rfl, Nat.le_refl _, fun u h => h, fun a e _ => ⟨a, e, rfl⟩, fun y hy => (by cases hy), HC.out⟩
  case round =>
    clear HC hm
    obtain ⟨k, A1, n1, c1, A2, c2, l, hkg, rfl, rfl, hlk, hpl, hn1, hcur, hblk, hys, hsc⟩ := hrel
    have HC := Lib.hid hsc
    have HP := Lib.hid (And.intro hlk hpl)
    have HCU := Lib.hid hcur
    have HBK := Lib.hid hblk
    have HNN := Lib.hid hn1
    have HYS := Lib.hid hys
    have hm := HC.out.rebase
    have hbyt := hcur _ (HC.out.val 0 rfl)
    clear hsc hlk hpl hcur hblk hys hn1
    cases gk with
    | zero =>
      obtain rfl : L.length = k := by omega
      have hn0 : n1 = 0 := by
        have := hbyt.1
        rw [List.drop_of_length_le (Nat.le_refl _)] at this
        exact this.symm
      subst hn0
      clear hbyt hkg
      go_wp2_with (first | go_skip | ((with_reducible show wpList _ _ _ _ _ (World.alloc _ _)); refine wpList_up hm ?_; clear hm; intro n w hn hn2 hk hm hd hd2 ho; (try rw [← hn]); replace hn := Nat.le_of_eq hn.symm) | ((first | ((with_reducible show wpList _ _ _ (Oper.mk _ (Op.box _ _) _ _ _ _ :: _) _ _); (refine bxA hm ?_; clear hm; intro n w hn hz hm ho; (try simp only [List.cons_append, List.nil_append] at hm))) | ((with_reducible show wpList _ _ _ (Oper.mk _ (Op.load _ _) _ _ _ _ :: _) _ _); first | (refine ldA hm ?_) | (refine laA hm ?_)) | ((with_reducible show wpList _ _ _ (Oper.mk _ (Op.store _ _ _) _ _ _ _ :: _) _ _); (refine stA hm ?_; clear hm; intro w hz hm ho)) | ((with_reducible show wpList _ _ _ (Oper.mk _ (Op.alloc _) _ _ _ _ :: _) _ _); (refine alA hm ?_; clear hm; intro n w hn hz hm ho; (try simp only [List.cons_append, List.nil_append] at hm)))); try simp only [Act.put, sxQ]))
      go_ret
      have hsc := HC.out.resync hm
      refine ⟨A2, L.length, c2, l, rfl, ⟨hsc.own 0 rfl, HP.out.1, by rw [HP.out.2, List.take_of_length_le (Nat.le_refl _)], fun y hy => (HYS.out y hy).1, fun y hy => ⟨(HYS.out y hy).2.1 _ (hsc.val 0 rfl), (HYS.out y hy).2.2⟩⟩, hsc.only.below (Nat.le_refl _) (fun _ _ e => e)⟩
    | succ j =>
      have hk : k < L.length := by omega
      have hk6 : k + 1 ≤ 1000000 := by have := HLN.out; omega
      obtain ⟨x, hx⟩ : ∃ x, x = L[k] := ⟨_, rfl⟩
      have hdrop : L.drop k = x :: L.drop (k + 1) := by rw [hx]; exact List.drop_eq_getElem_cons hk
      have hxm := HLL.out x (by rw [hx]; exact List.getElem_mem hk)
      have hen : Jn.enc (L.drop k) = Jn.encC x ++ Jn.enc (L.drop (k + 1)) := by rw [hdrop, Jn.enc_cons]
      have hln : n1 = 8 + x.data.length + (Jn.enc (L.drop (k + 1))).length := by
        have := hbyt.1
        rw [hen, List.length_append, Jn.encC_length] at this
        omega
      obtain ⟨e1, e2, e3, e4⟩ := enc_parts x (Jn.enc (L.drop (k + 1))) hxm.1 hxm.2
      rw [hen] at hbyt
      obtain ⟨ab, ao, hA1, _⟩ := hbyt.at_ (by omega)
      subst hA1
      have hc1 := hbyt.2.1
      obtain ⟨d, hd⟩ : ∃ d, d = x.data.length := ⟨_, rfl⟩
      obtain ⟨r, hr⟩ : ∃ r, r = (Jn.enc (L.drop (k + 1))).length := ⟨_, rfl⟩
      rw [← hd, ← hr] at hln
      have q1 : 8 ≤ n1 := by omega
      have q2 : 8 ≤ c1 := by omega
      have q3 : ¬ c1 = 6 := by omega
      have q4 : (6 : Int) ≤ (c1 : Int) := by omega
      have q5 : (8 : Int) ≤ (c1 : Int) := by omega
      have HE := Lib.hid (And.intro e1 (And.intro e2 (And.intro e3 e4)))
      have HD := Lib.hid (And.intro hd (And.intro hr (And.intro hln (And.intro hxm hx))))
      have HEN := Lib.hid hen
      have hb6 := byt_slice hbyt 0 6 c1 (by omega) (by omega)
      have hb2 := byt_slice hbyt 6 2 (c1 - 6) (by omega) (by omega)
      rw [Nat.add_zero, List.drop_zero] at hb6
      have HB6 := Lib.hid hb6
      have HB2 := Lib.hid hb2
      have HC1 := Lib.hid hc1
      clear e1 e2 e3 e4 hd hr hln hxm hx hen hdrop hb6 hb2 hc1 hbyt
      go_upto_region 3 with (first | go_skip | ((with_reducible show wpList _ _ _ _ _ (World.alloc _ _)); refine wpList_up hm ?_; clear hm; intro n w hn hn2 hk hm hd hd2 ho; (try rw [← hn]); replace hn := Nat.le_of_eq hn.symm) | ((first | ((with_reducible show wpList _ _ _ (Oper.mk _ (Op.box _ _) _ _ _ _ :: _) _ _); (refine bxA hm ?_; clear hm; intro n w hn hz hm ho; (try simp only [List.cons_append, List.nil_append] at hm))) | ((with_reducible show wpList _ _ _ (Oper.mk _ (Op.load _ _) _ _ _ _ :: _) _ _); first | (refine ldA hm ?_) | (refine laA hm ?_)) | ((with_reducible show wpList _ _ _ (Oper.mk _ (Op.store _ _ _) _ _ _ _ :: _) _ _); (refine stA hm ?_; clear hm; intro w hz hm ho)) | ((with_reducible show wpList _ _ _ (Oper.mk _ (Op.alloc _) _ _ _ _ :: _) _ _); (refine alA hm ?_; clear hm; intro n w hn hz hm ho; (try simp only [List.cons_append, List.nil_append] at hm)))); try simp only [Act.put, sxQ]))
      refine wp_region_noPanic ?_
      refine wp_region_held_drew (S := KnS _ _) (by kernel_rfl) (KnS.of hm.drew (Rngs.nil _)) (fun hHeld => ?_)
      refine wpAnyH_fresh (by repeat (first | apply Fresh.a | apply Fresh.b)) ?_
      replace hm := hm.drew
      iterate 2 (first | (refine takeN 0 hHeld ?_) | (refine takeY 0 ?_ hHeld ?_ ?_; rotate_left 1; (first | (intro w9 h9; (with_reducible show (execOp _ (Oper.mk _ (Op.load _ _) _ _ _ _)).run _ _ = _); first | exact h9.ldA | exact h9.lcA | exact h9.laA | exact h9.lrA) | focus (intro w9 hSw; go_simp; (try (with_reducible rfl)); done))); try simp only [Act.put, sxQ])
      iterate 2 (first | (refine takeN 3 hHeld ?_) | (refine takeY 3 ?_ hHeld ?_ ?_; rotate_left 1; (first | (intro w9 h9; (with_reducible show (execOp _ (Oper.mk _ (Op.load _ _) _ _ _ _)).run _ _ = _); first | exact h9.ldA | exact h9.lcA | exact h9.laA | exact h9.lrA) | focus (intro w9 hSw; go_simp; (try (with_reducible rfl)); done))); try simp only [Act.put, sxQ])
      refine wpAnyH_ready (rs := [2]) (by kernel_rfl) (by simp) ?_
      refine AllReadyH.cons2 (by simp only [sxN]; first | done | exact rfl) (fun K hK => ?_)
      rw [if_pos (by rfl)]
      go_simp
      refine (jn_number (some ⟨ab, ao, none⟩) 6 c1 _ _ (by exact HB6.out) (by rw [HE.out.1]; have := HD.out.2.2.2.1; omega) (by omega)).mono ?_
      rw [HE.out.1]
      rintro e w4 ⟨rfl, rfl⟩
      go_simp
      refine hK.out _ _ (KnS.of hm (Rngs.nil _)) (fun hHeld => ?_)
      clear hK K
      try simp only [Act.put, sxQ]
      refine wpAnyH_ready (rs := [5]) (by kernel_rfl) (by simp) ?_
      refine AllReadyH.cons2 (by simp only [sxN]; first | done | exact rfl) (fun K hK => ?_)
      rw [if_pos (by rfl)]
      go_simp
      refine (jn_number (some ⟨ab, ao + 6, none⟩) 2 (c1 - 6) _ _ (by exact HB2.out) (by rw [HE.out.2.1]; have := HD.out.2.2.2.1; omega) (by omega)).mono ?_
      rw [HE.out.2.1, ← HD.out.1]
      rintro e w5 ⟨rfl, rfl⟩
      go_simp
      refine hK.out _ _ (KnS.of hm (Rngs.nil _)) (fun hHeld => ?_)
      clear hK K
      try simp only [Act.put, sxQ]
      iterate 2 (first | (refine takeN 6 hHeld ?_) | (refine takeY 6 ?_ hHeld ?_ ?_; rotate_left 1; (first | (intro w9 h9; (with_reducible show (execOp _ (Oper.mk _ (Op.load _ _) _ _ _ _)).run _ _ = _); first | exact h9.ldA | exact h9.lcA | exact h9.laA | exact h9.lrA) | focus (intro w9 hSw; go_simp; (try (with_reducible rfl)); done))); try simp only [Act.put, sxQ])
      refine wpAnyH_done (by kernel_rfl) ?_ _
      refine NoPanic.normal ?_
      have hc2 := HC.out.resync hm
      clear q3 q4
      clear HC hm
      simp only [List.nil_append, List.cons_append, List.set_cons_zero, List.set_cons_succ] at hc2
      have HC := Lib.hid hc2
      clear hc2
      have hm := HC.out.rebase
      generalize wr.drew = w5 at *
      have hD := HD.out
      by_cases hz : c1 = 8
      · skip
        obtain rfl : d = 0 := by have := HD.out.2.2.1; have := HC1.out; omega
        have hn8 : n1 - 8 = 0 := by have := HD.out.2.2.1; have := HC1.out; omega
        clear hD
        go_wp2_with (first | ((with_reducible show wpList _ _ _ (Oper.mk _ (Op.call { callee := Callee.builtin Builtin.append, args := _, argTypes := _ }) _ _ _ _ :: _) _ _); refine wpList_apC rfl (.tmp 21) (.tmp 28) rfl A2 k c2 l rfl (HC.out.resync hm) 0 rfl (fun x hx q hq => HVO.out x hx q hq) _ _ _ ⟨(x.off : Int), some ⟨ab, ao, none⟩, 0, 0, x.data⟩ rfl (Blk.row hk) (by omega) ?_; clear hm hk hd hd2; intro A5 c5 w6 hc2; clear HC; (try simp only [Act.put, sxQ]); simp only [List.nil_append, List.cons_append, List.set_cons_zero] at hc2; have HC := Lib.hid hc2; clear hc2; have hm := HC.out.rebase) | go_skip | ((with_reducible show wpList _ _ _ _ _ (World.alloc _ _)); refine wpList_up hm ?_; clear hm; intro n w hn hn2 hk hm hd hd2 ho; (try rw [← hn]); replace hn := Nat.le_of_eq hn.symm) | ((first | ((with_reducible show wpList _ _ _ (Oper.mk _ (Op.box _ _) _ _ _ _ :: _) _ _); (refine bxA hm ?_; clear hm; intro n w hn hz hm ho; (try simp only [List.cons_append, List.nil_append] at hm))) | ((with_reducible show wpList _ _ _ (Oper.mk _ (Op.load _ _) _ _ _ _ :: _) _ _); first | (refine ldA hm ?_) | (refine laA hm ?_)) | ((with_reducible show wpList _ _ _ (Oper.mk _ (Op.store _ _ _) _ _ _ _ :: _) _ _); (refine stA hm ?_; clear hm; intro w hz hm ho)) | ((with_reducible show wpList _ _ _ (Oper.mk _ (Op.alloc _) _ _ _ _ :: _) _ _); (refine alA hm ?_; clear hm; intro n w hn hz hm ho; (try simp only [List.cons_append, List.nil_append] at hm)))); try simp only [Act.put, sxQ]))
        go_roundg j
        case measure => omega
        case rel =>
          have hrest : Jn.enc (L.drop (k + 1)) = [] := List.eq_nil_of_length_eq_zero (by have := HD.out.2.1; have := HD.out.2.2.1; omega)
          have hcur' : ∀ u, Byt u u.heap.size A n0 c0 (Jn.enc L) → Byt u u.heap.size (some ⟨ab, ao, none⟩) 0 0 (Jn.enc (L.drop (k + 1))) := fun u hu => by
            rw [hrest]; exact byt_nil
          have hnew : ∀ u, Byt u u.heap.size A n0 c0 (Jn.enc L) → Byt u u.heap.size (some ⟨ab, ao, none⟩) 0 0 x.data := fun u hu => by
            rw [List.eq_nil_of_length_eq_zero HD.out.1.symm]; exact byt_nil
          have hbk0 := HBK.out _ rfl (by omega)
          refine ⟨k + 1, some ⟨ab, ao, none⟩, 0, 0, A5, c5, l ++ [⟨(x.off : Int), some ⟨ab, ao, none⟩, 0, 0, x.data⟩], by omega, rfl, rfl, by rw [List.length_append, HP.out.1]; rfl, ?_, Nat.zero_le _, hcur', fun a e _ => (by cases e; exact hbk0), ?_, HC.out⟩
          · have ep : ∀ z : JC, JC.plains (l ++ [z]) = JC.plains l ++ [z.plain] := fun z => by simp [JC.plains]
            rw [ep, HP.out.2, List.take_add_one, List.getElem?_eq_getElem hk, ← HD.out.2.2.2.2]
            rfl
          · intro y hy
            rcases List.mem_append.1 hy with hy | hy
            · exact HYS.out y hy
            · obtain rfl := List.mem_singleton.1 hy
              exact ⟨⟨Int.natCast_nonneg _, by have := HD.out.2.2.2.1.1; show (x.off : Int) < _; omega, by show 0 < _; have := HD.out.2.2.2.1.2; have := HD.out.1; omega⟩, hnew, fun a e _ => (by cases e; exact hbk0)⟩
      · have q6 : min (d : Int) ((n1 - 8 : Nat) : Int) = (d : Int) := by have := HD.out.2.2.1; have := HC1.out; omega
        have q7 : (d : Int) ≤ ((c1 - 8 : Nat) : Int) := by have := HD.out.2.2.1; have := HC1.out; omega
        have q8 : d ≤ c1 - 8 := by have := HD.out.2.2.1; have := HC1.out; omega
        have q9 : d ≤ n1 - 8 := by have := HD.out.2.2.1; have := HC1.out; omega
        by_cases hy : c1 - 8 = d
        · skip
          have hn8 : n1 - 8 = d := by have := HD.out.2.2.1; have := HC1.out; omega
          clear hD
          go_wp2_with (first | ((with_reducible show wpList _ _ _ (Oper.mk _ (Op.call { callee := Callee.builtin Builtin.append, args := _, argTypes := _ }) _ _ _ _ :: _) _ _); refine wpList_apC rfl (.tmp 21) (.tmp 28) rfl A2 k c2 l rfl (HC.out.resync hm) 0 rfl (fun x hx q hq => HVO.out x hx q hq) _ _ _ ⟨(x.off : Int), some ⟨ab, ao + 8, none⟩, d, d, x.data⟩ rfl (Blk.row hk) (by omega) ?_; clear hm hk hd hd2; intro A5 c5 w6 hc2; clear HC; (try simp only [Act.put, sxQ]); simp only [List.nil_append, List.cons_append, List.set_cons_zero] at hc2; have HC := Lib.hid hc2; clear hc2; have hm := HC.out.rebase) | go_skip | ((with_reducible show wpList _ _ _ _ _ (World.alloc _ _)); refine wpList_up hm ?_; clear hm; intro n w hn hn2 hk hm hd hd2 ho; (try rw [← hn]); replace hn := Nat.le_of_eq hn.symm) | ((first | ((with_reducible show wpList _ _ _ (Oper.mk _ (Op.box _ _) _ _ _ _ :: _) _ _); (refine bxA hm ?_; clear hm; intro n w hn hz hm ho; (try simp only [List.cons_append, List.nil_append] at hm))) | ((with_reducible show wpList _ _ _ (Oper.mk _ (Op.load _ _) _ _ _ _ :: _) _ _); first | (refine ldA hm ?_) | (refine laA hm ?_)) | ((with_reducible show wpList _ _ _ (Oper.mk _ (Op.store _ _ _) _ _ _ _ :: _) _ _); (refine stA hm ?_; clear hm; intro w hz hm ho)) | ((with_reducible show wpList _ _ _ (Oper.mk _ (Op.alloc _) _ _ _ _ :: _) _ _); (refine alA hm ?_; clear hm; intro n w hn hz hm ho; (try simp only [List.cons_append, List.nil_append] at hm)))); try simp only [Act.put, sxQ]))
          go_roundg j
          case measure => omega
          case rel =>
            have hrest : Jn.enc (L.drop (k + 1)) = [] := List.eq_nil_of_length_eq_zero (by have := HD.out.2.1; have := HD.out.2.2.1; omega)
            have hcur' : ∀ u, Byt u u.heap.size A n0 c0 (Jn.enc L) → Byt u u.heap.size (some ⟨ab, ao + 8, none⟩) 0 0 (Jn.enc (L.drop (k + 1))) := fun u hu => by
              rw [hrest]; exact byt_nil
            have hnew : ∀ u, Byt u u.heap.size A n0 c0 (Jn.enc L) → Byt u u.heap.size (some ⟨ab, ao + 8, none⟩) d d x.data := fun u hu => by
              have b1 := HCU.out u hu
              rw [HEN.out] at b1
              have b2 := byt_slice b1 8 d d (by have := HD.out.2.2.1; omega) (Nat.le_refl _)
              rw [HD.out.1, HE.out.2.2.1, ← HD.out.1] at b2
              exact b2
            have hbk0 := HBK.out _ rfl (by omega)
            refine ⟨k + 1, some ⟨ab, ao + 8, none⟩, 0, 0, A5, c5, l ++ [⟨(x.off : Int), some ⟨ab, ao + 8, none⟩, d, d, x.data⟩], by omega, rfl, rfl, by rw [List.length_append, HP.out.1]; rfl, ?_, Nat.zero_le _, hcur', fun a e _ => (by cases e; exact hbk0), ?_, HC.out⟩
            · have ep : ∀ z : JC, JC.plains (l ++ [z]) = JC.plains l ++ [z.plain] := fun z => by simp [JC.plains]
              rw [ep, HP.out.2, List.take_add_one, List.getElem?_eq_getElem hk, ← HD.out.2.2.2.2]
              rfl
            · intro y hy
              rcases List.mem_append.1 hy with hy | hy
              · exact HYS.out y hy
              · obtain rfl := List.mem_singleton.1 hy
                exact ⟨⟨Int.natCast_nonneg _, by have := HD.out.2.2.2.1.1; show (x.off : Int) < _; omega, by show d < _; have := HD.out.2.2.2.1.2; have := HD.out.1; omega⟩, hnew, fun a e _ => (by cases e; exact hbk0)⟩
        · skip
          clear hD
          go_wp2_with (first | ((with_reducible show wpList _ _ _ (Oper.mk _ (Op.call { callee := Callee.builtin Builtin.append, args := _, argTypes := _ }) _ _ _ _ :: _) _ _); refine wpList_apC rfl (.tmp 21) (.tmp 28) rfl A2 k c2 l rfl (HC.out.resync hm) 0 rfl (fun x hx q hq => HVO.out x hx q hq) _ _ _ ⟨(x.off : Int), some ⟨ab, ao + 8, none⟩, d, d, x.data⟩ rfl (Blk.row hk) (by omega) ?_; clear hm hk hd hd2; intro A5 c5 w6 hc2; clear HC; (try simp only [Act.put, sxQ]); simp only [List.nil_append, List.cons_append, List.set_cons_zero] at hc2; have HC := Lib.hid hc2; clear hc2; have hm := HC.out.rebase) | go_skip | ((with_reducible show wpList _ _ _ _ _ (World.alloc _ _)); refine wpList_up hm ?_; clear hm; intro n w hn hn2 hk hm hd hd2 ho; (try rw [← hn]); replace hn := Nat.le_of_eq hn.symm) | ((first | ((with_reducible show wpList _ _ _ (Oper.mk _ (Op.box _ _) _ _ _ _ :: _) _ _); (refine bxA hm ?_; clear hm; intro n w hn hz hm ho; (try simp only [List.cons_append, List.nil_append] at hm))) | ((with_reducible show wpList _ _ _ (Oper.mk _ (Op.load _ _) _ _ _ _ :: _) _ _); first | (refine ldA hm ?_) | (refine laA hm ?_)) | ((with_reducible show wpList _ _ _ (Oper.mk _ (Op.store _ _ _) _ _ _ _ :: _) _ _); (refine stA hm ?_; clear hm; intro w hz hm ho)) | ((with_reducible show wpList _ _ _ (Oper.mk _ (Op.alloc _) _ _ _ _ :: _) _ _); (refine alA hm ?_; clear hm; intro n w hn hz hm ho; (try simp only [List.cons_append, List.nil_append] at hm)))); try simp only [Act.put, sxQ]))
          go_roundg j
          case measure => omega
          case rel =>
            have hcur' : ∀ u, Byt u u.heap.size A n0 c0 (Jn.enc L) → Byt u u.heap.size (some ⟨ab, ao + 8 + d, none⟩) (n1 - 8 - d) (c1 - 8 - d) (Jn.enc (L.drop (k + 1))) := fun u hu => by
              have b1 := HCU.out u hu
              rw [HEN.out] at b1
              have b2 := byt_slice b1 (8 + d) (n1 - 8 - d) (c1 - 8 - d) (by have := HD.out.2.2.1; have := HC1.out; omega) (by have := HC1.out; omega)
              rw [HD.out.1, HE.out.2.2.2, List.take_of_length_le (by have := HD.out.2.2.1; have := HD.out.2.1; have := HD.out.1; omega), ← HD.out.1, ← Nat.add_assoc] at b2
              exact b2
            have hnew : ∀ u, Byt u u.heap.size A n0 c0 (Jn.enc L) → Byt u u.heap.size (some ⟨ab, ao + 8, none⟩) d d x.data := fun u hu => by
              have b1 := HCU.out u hu
              rw [HEN.out] at b1
              have b2 := byt_slice b1 8 d d (by have := HD.out.2.2.1; omega) (Nat.le_refl _)
              rw [HD.out.1, HE.out.2.2.1, ← HD.out.1] at b2
              exact b2
            have hbk0 := HBK.out _ rfl (by omega)
            refine ⟨k + 1, some ⟨ab, ao + 8 + d, none⟩, n1 - 8 - d, c1 - 8 - d, A5, c5, l ++ [⟨(x.off : Int), some ⟨ab, ao + 8, none⟩, d, d, x.data⟩], by omega, rfl, rfl, by rw [List.length_append, HP.out.1]; rfl, ?_, by have := HNN.out; omega, hcur', fun a e _ => (by cases e; exact hbk0), ?_, HC.out⟩
            · have ep : ∀ z : JC, JC.plains (l ++ [z]) = JC.plains l ++ [z.plain] := fun z => by simp [JC.plains]
              rw [ep, HP.out.2, List.take_add_one, List.getElem?_eq_getElem hk, ← HD.out.2.2.2.2]
              rfl
            · intro y hy
              rcases List.mem_append.1 hy with hy | hy
              · exact HYS.out y hy
              · obtain rfl := List.mem_singleton.1 hy
                exact ⟨⟨Int.natCast_nonneg _, by have := HD.out.2.2.2.1.1; show (x.off : Int) < _; omega, by show d < _; have := HD.out.2.2.2.1.2; have := HD.out.1; omega⟩, hnew, fun a e _ => (by cases e; exact hbk0)⟩
end
end Go.Proofs.YtmhjddmamknglaaGreat
