/-
  The walks of the card's phases: GET RESPONSE.
-/
import Derived.Test.YtpacdjkikbdkeaaZ0
import Derived.Test.YtpacdjkikbdkeaaTzB
namespace Go.Proofs.Ytpacdjkikbdkeaa
set_option maxRecDepth 100000
set_option linter.unusedSimpArgs false
set_option linter.unusedVariables false
open Go.RowKit Go.Maps
set_option maxHeartbeats 8000000

/-- What a phase leaves. -/
def PhRes (w : World) (g : Nat) (F : Nat → Prop) (l : List Int) (s' : Tz.S) (bs : List UInt8) (e : Ending) (w' : World) : Prop :=
  ∃ A c F', e = .returned (.slice A bs.length c) ∧ Own w' w.heap.size 5 1 A bs.length c (bcells bs) ∧ CardAt' w' g F' l s' ∧ Only F w w' ∧ ∀ q, F' q → F q ∨ w.heap.size ≤ q
theorem wpList_ap8 {ops : Array Oper} {rest : List Oper} {o : Oper} {a : Act} {w s : World} {Q : Exit → Act → World → Prop} {R : Nat → Prop} {L : List Ent} {O : List Osl} (hw : Region.wanted o (yielded ops a.tmps) = true) (x y : Operand)
    (ho : o.op = .call { callee := .builtin .append, args := #[x, y], argTypes := #[23, 23] })
    (A : Option Addr) (n c : Nat) (X : List UInt8) (hx : a.eval x = .slice A n c) (hm : Mem R s w L O) (k : Nat) (hk : O[k]? = some ⟨5, 1, A, n, c, bcells X⟩)
    (B : Nat) (A' : Option Addr) (m c' : Nat) (M : List UInt8) (hy : a.eval y = .slice A' m c') (hr : Row w B A' (bcells M)) (hl : M.length = m) (hsz : n + m ≤ 1000000000)
    (h : ∀ A2 c2 w1, Mem R s w1 L (O.set k ⟨5, 1, A2, n + m, c2, bcells (X ++ M)⟩) → Only (fun q => ownAt A c = some q) w w1 → (ownAt A2 c2 = ownAt A c ∨ ∃ q, ownAt A2 c2 = some q ∧ w.heap.size ≤ q) → wpList Try.prog ops Q rest (a.put o.dst (.slice A2 (n + m) c2)) w1) : wpList Try.prog ops Q (o :: rest) a w := by
  obtain ⟨ti, hti, hz0, hz1, hz2⟩ := info_parts o_u8
  refine wpList_ap hw x y 23 ho 5 ti _ 1 1 Try.underlying23 hti hz0 hz1 hz2 rfl (by omega) A n c (bcells X) hx hm k hk B A' m c' (bcells M) hy hr (by rw [length_bcells, hl]; omega) (bcells_one _) (by unfold maxLen; omega) (by omega) ?_
  intro A2 c2 w1 h1 h2 h3
  rw [← bcells_append] at h1
  exact h A2 c2 w1 h1 h2 h3
theorem Mem.fresh {R : Nat → Prop} {s w : World} {L : List Ent} {O : List Osl} {x : Osl} (hm : Mem R s w L O) (k : Nat) (hk : O[k]? = some x) (hR : ∀ q, R q → ∃ e ∈ L, e.g = q) : Own w s.heap.size x.t x.s x.A x.n x.c x.cs := by
  have hmem := List.mem_of_getElem? hk
  have h := hm.sl _ hmem
  refine ⟨h.1, h.2.1, h.2.2.1, fun hc => ?_⟩
  obtain ⟨g, cur, e, hb, r⟩ := h.2.2.2 hc
  have hq : ownAt x.A x.c = some g := by unfold ownAt; rw [if_neg (by omega), e]; rfl
  refine ⟨g, cur, e, ?_, r⟩
  rcases hm.slR _ hmem g hq with h1 | h1
  · obtain ⟨e2, he, h2⟩ := hR g h1
    exact absurd (h2 ▸ hq) (hm.slL _ hmem e2 he)
  · exact h1
theorem CardAt.keep {w w' : World} {g : Nat} {F : Nat → Prop} {l : List Int} {s : Tz.S} {gm m : Nat} {A : Option Addr} {c : Nat} {h : Hd} {x : CV} {inc : Bool} {Ad : Option Addr} {cd : Nat} (H : CardAt w g F l s gm m A c h x inc Ad cd)
    (h0 : s.ph = 0) (hg : s.got = []) {Ad' : Option Addr} {cd' : Nat} {kp : List UInt8} {sw : Int} (ho : Only (fun q => q = g) w w')
    (hb : Blk w' g 78 (ccard gm (phV g 0) (.slice A 0 c) h x inc (.slice Ad' kp.length cd') sw)) (hk : BytF w F Ad' kp.length cd' kp) (hr : ∀ q, (∃ a, Ad' = some a ∧ 0 < kp.length ∧ a.block = q) → ownAt A c ≠ some q ∧ q ≠ g)
    (hok : Tz.Ok { s with kept := kp, sw := sw }) : CardAt' w' g F l { s with kept := kp, sw := sw } := by
  obtain ⟨ph, got, cmd, kp0, sw0⟩ := s
  obtain rfl : ph = 0 := h0
  obtain rfl : got = [] := hg
  refine ⟨gm, m, A, c, h, x, inc, Ad', cd', { ok := hok, blk := hb, fg := H.fg, fm := H.fm, mp := H.mp.only ho H.gm_ne, got := ?_, fa := H.fa, kept := ⟨?_, hk.2⟩, row := hr, fine := ⟨fun e => (by cases e), fun e => (by cases e)⟩, frow := fun e => (by cases e), lt := fun q hq => Nat.lt_of_lt_of_le (H.lt q hq) ho.size, gm_ne := H.gm_ne }⟩
  · exact H.got.only' ho (fun q e e2 => by have e2 : q = g := e2; have := (H.got.lt _ e).1; omega)
  · refine hk.1.only ho (fun a ha hn e => (hr _ ⟨a, ha, hn, rfl⟩).2 e)
theorem PhRes.same {w w' : World} {g : Nat} {F : Nat → Prop} {l : List Int} {s : Tz.S} {bs : List UInt8} {e : Ending} (H : CardAt' w g F l s) (h : ORes w bs e w') : PhRes w g F l s bs e w' := by
  obtain ⟨A, c, he, ho, hb⟩ := h
  obtain ⟨gm, m, A1, c1, h1, x, inc, Ad, cd, H⟩ := H
  exact ⟨A, c, F, he, ho, ⟨gm, m, A1, c1, h1, x, inc, Ad, cd, H.below hb⟩, Only.of_below hb, fun q hq => .inl hq⟩

theorem PhRes.fin {w w1 w' : World} {g : Nat} {F F' : Nat → Prop} {l : List Int} {s : Tz.S} {bs : List UInt8} {e : Ending} (H : CardAt' w1 g F' l s) (ho : Only F w w1) (hF : ∀ q, F' q → F q ∨ w.heap.size ≤ q) (h : ORes w1 bs e w') : PhRes w g F l s bs e w' := by
  obtain ⟨A, c, he, hw, hb⟩ := h
  obtain ⟨gm, m, A1, c1, h1, x, inc, Ad, cd, H⟩ := H
  refine ⟨A, c, F', he, hw.mono ho.size, ⟨gm, m, A1, c1, h1, x, inc, Ad, cd, H.below hb⟩, ho.trans (Only.of_below hb), hF⟩

theorem PhRes.mk {R : Nat → Prop} {L : List Ent} {O : List Osl} {w w' : World} {g : Nat} {F F' : Nat → Prop} {l : List Int} {s : Tz.S} {bs X : List UInt8} {A : Option Addr} {n c : Nat} (hm : Mem R w w' L O) (k : Nat) (hk : O[k]? = some ⟨5, 1, A, n, c, bcells X⟩) (hX : X = bs) (hn : bs.length = n)
    (hR : ∀ q, R q → ∃ e ∈ L, e.g = q) (H : CardAt' w' g F' l s) (ho : Only F w w') (hF : ∀ q, F' q → F q ∨ w.heap.size ≤ q) : PhRes w g F l s bs (.returned (.slice A n c)) w' := by
  subst hX
  subst hn
  exact ⟨A, c, F', rfl, hm.fresh k hk hR, H, ho, hF⟩
theorem BytF.cut {w : World} {F : Nat → Prop} {b o n c : Nat} {bs : List UInt8} (h : BytF w F (some ⟨b, o, none⟩) n c bs) (q : Nat) (hq : q ≤ n) : BytF w F (some ⟨b, o + q, none⟩) (n - q) (c - q) (bs.drop q) := by
  have h1 := h.1.1
  have h2 := h.1.2.1
  exact ⟨⟨by rw [List.length_drop]; omega, by omega, h.1.2.2.bdrop q⟩, fun a ha => by injection ha with ha; subst ha; have := h.2 ⟨b, o, .none⟩ rfl; exact this⟩
theorem BytF.none {w : World} {F : Nat → Prop} {A : Option Addr} {n c : Nat} {bs : List UInt8} (h : BytF w F A n c bs) (B : Option Addr) (hB : B.map (·.block) = A.map (·.block)) (c' : Nat) : BytF w F B 0 c' [] :=
  ⟨⟨rfl, Nat.zero_le _, Row.nil _ _ _⟩, fun a ha => by
    subst ha
    cases A with
    | none => cases hB
    | some x => have hB : a.block = x.block := by simpa using hB
                rw [hB]; exact h.2 _ rfl⟩
set_option maxRecDepth 100000 in
theorem card_rest (w : World) (g : Nat) (F : Nat → Prop) (l : List Int) (s : Tz.S) (H : CardAt' w g F l s) (h0 : s.ph = 0) (hg : s.got = []) (a0 a2 a3 a4 : Int) (b4 : 0 ≤ a4 ∧ a4 ≤ 255) :
    Calls Try.prog 57 #[.pointer (some ⟨g, 0, none⟩), hV ⟨a0, 192, a2, a3, a4⟩] w (PhRes w g F l (Tz.more s 192 a2 a3 a4).1 (Tz.more s 192 a2 a3 a4).2) := by
  have hok2 := H.choose_spec.choose_spec.choose_spec.choose_spec.choose_spec.choose_spec.choose_spec.choose_spec.choose_spec.ok.more h0 192 a2 a3 a4 b4
  obtain ⟨gm, m, A, c, h, x, inc, Ad, cd, H⟩ := H
  have hb := H.blk
  have hok := H.ok
  have hkp := H.kept
  obtain ⟨ph, got, cmd, kp, sw⟩ := s
  obtain rfl : ph = 0 := h0
  obtain rfl : got = [] := hg
  have HK := Lib.hid (fun w1 ho hb => H.keep (w' := w1) rfl rfl ho hb hkp H.row hok)
  have HF := Lib.hid (fun q (e : q = g) => show F q from e ▸ H.fg)
  obtain ⟨h0, h1, h2, h3, h4⟩ := h
  obtain ⟨x0, x1, x2, x3, ⟨xa, xn, xc, xb⟩, x5, x6⟩ := x
  have hm : Mem (fun q => q = g) w w [⟨g, _, _⟩] [] := Mem.one hb rfl
  simp only [ccard, phV, if_pos, Tz.S.gotc, SV.val] at hm
  have hcn := Tz.cnt_le b4.1 b4.2
  have hkl := hok.kl
  have hksw := hok.kp
  have hsw := hok.sw
  simp only at hkl hksw hsw
  by_cases e1 : a2 ≠ 0 ∨ a3 ≠ 0
  · have e : Tz.more ⟨0, [], cmd, kp, sw⟩ 192 a2 a3 a4 = (⟨0, [], cmd, kp, sw⟩, Tz.wd 0x6A86) := by unfold Tz.more; rw [if_pos e1]
    rw [e]
    clear e hb hok hok2 hkp H hksw
    unfold hV
    by_cases e2 : a2 = 0
    · have i1 : (a2 != 0) = false := by rw [e2]; rfl
      have i2 : (a3 != 0) = true := by rw [bne_iff_ne]; omega
      clear e1 e2
      go_enter Try.func57, Try.ntmps57
      go_wp2_with (first | go_skip | ((with_reducible show wpList _ _ _ _ _ (World.alloc _ _)); refine wpList_up hm ?_; clear hm; intro n w hn hn2 hk hm hd hd2 ho; (try rw [← hn]); replace hn := Nat.le_of_eq hn.symm) | ((first | ((with_reducible show wpList _ _ _ (Oper.mk _ (Op.box _ _) _ _ _ _ :: _) _ _); (refine wpList_bx (by rfl) _ _ rfl _ (by simp only [Act.eval, Array.getD_eq_getD_getElem?, List.getElem?_toArray, List.getElem?_cons_succ, List.getElem?_cons_zero, Option.getD_some]; first | done | exact rfl) _ (by simp only [Value.cells]; first | done | exact rfl) hm ?_; clear hm; intro n w hn hz hm ho; (try simp only [List.cons_append, List.nil_append] at hm))) | ((with_reducible show wpList _ _ _ (Oper.mk _ (Op.load _ _) _ _ _ _ :: _) _ _); first | (refine wpList_ldS (by rfl) _ _ rfl _ _ rfl hm _ _ (by repeat (first | apply In.a | apply In.b)) (by decide +kernel) _ (by simp only [List.getElem?_toArray, List.getElem?_cons_succ, List.getElem?_cons_zero]; first | done | exact rfl) ?_) | (refine wpList_laS (by rfl) _ _ rfl _ _ rfl hm _ _ (by repeat (first | apply In.a | apply In.b)) (by kernel_rfl) _ (by rfl) (by kernel_rfl) (by simp) _ (by simp only [List.toList_toArray, List.drop_succ_cons, List.drop_zero, List.size_toArray, List.length_cons, List.length_nil, Nat.reduceAdd, List.take_succ_cons, List.take_zero]; first | done | exact rfl) ?_)) | ((with_reducible show wpList _ _ _ (Oper.mk _ (Op.store _ _ _) _ _ _ _ :: _) _ _); (refine wpList_stS (by rfl) _ _ _ rfl _ _ rfl _ (by simp only [Act.eval, Array.getD_eq_getD_getElem?, List.getElem?_toArray, List.getElem?_cons_succ, List.getElem?_cons_zero, Option.getD_some]; first | done | exact rfl) hm _ (by simp only [Value.cells]; first | done | exact rfl) _ _ _ _ (by repeat (first | apply Put.a | apply Put.b)) (by kernel_rfl) (by simp [Value.oneCell']) (by simp) (by simp only [List.set_cons_zero, List.set_cons_succ, spl, List.toList_toArray, List.size_toArray, List.length_cons, List.length_nil, Nat.reduceAdd, Nat.zero_add, List.take_succ_cons, List.take_zero, List.drop_succ_cons, List.drop_zero, List.drop_nil, List.cons_append, List.nil_append, List.append_nil]; first | done | exact rfl) ?_; clear hm; intro w hz hm ho)) | ((with_reducible show wpList _ _ _ (Oper.mk _ (Op.alloc _) _ _ _ _ :: _) _ _); (refine wpList_al (by rfl) _ rfl _ rfl _ (by simp only [Value.cells]; first | done | exact rfl) hm ?_; clear hm; intro n w hn hz hm ho; (try simp only [List.cons_append, List.nil_append] at hm)))); try simp only [Act.put, List.setIfInBounds_toArray, List.set_cons_zero, List.set_cons_succ]) | (go_at_call 60; refine (tz_count _ _).mono ?_; rintro e w' ⟨rfl, rfl⟩) | (go_at_call 44; refine (tz_status _ _).mono ?_; rintro e w2 ⟨A2, c2, rfl, hown, hbl⟩))
      go_ret
      exact PhRes.fin (HK.out _ hm.only (hm.at_ 0 rfl)) (hm.only.mono fun _ _ e => HF.out _ e) (fun q e => .inl e) ⟨A2, c2, rfl, hown, hbl⟩
    · have i1 : (a2 != 0) = true := by rw [bne_iff_ne]; omega
      clear e1 e2
      go_enter Try.func57, Try.ntmps57
      go_wp2_with (first | go_skip | ((with_reducible show wpList _ _ _ _ _ (World.alloc _ _)); refine wpList_up hm ?_; clear hm; intro n w hn hn2 hk hm hd hd2 ho; (try rw [← hn]); replace hn := Nat.le_of_eq hn.symm) | ((first | ((with_reducible show wpList _ _ _ (Oper.mk _ (Op.box _ _) _ _ _ _ :: _) _ _); (refine wpList_bx (by rfl) _ _ rfl _ (by simp only [Act.eval, Array.getD_eq_getD_getElem?, List.getElem?_toArray, List.getElem?_cons_succ, List.getElem?_cons_zero, Option.getD_some]; first | done | exact rfl) _ (by simp only [Value.cells]; first | done | exact rfl) hm ?_; clear hm; intro n w hn hz hm ho; (try simp only [List.cons_append, List.nil_append] at hm))) | ((with_reducible show wpList _ _ _ (Oper.mk _ (Op.load _ _) _ _ _ _ :: _) _ _); first | (refine wpList_ldS (by rfl) _ _ rfl _ _ rfl hm _ _ (by repeat (first | apply In.a | apply In.b)) (by decide +kernel) _ (by simp only [List.getElem?_toArray, List.getElem?_cons_succ, List.getElem?_cons_zero]; first | done | exact rfl) ?_) | (refine wpList_laS (by rfl) _ _ rfl _ _ rfl hm _ _ (by repeat (first | apply In.a | apply In.b)) (by kernel_rfl) _ (by rfl) (by kernel_rfl) (by simp) _ (by simp only [List.toList_toArray, List.drop_succ_cons, List.drop_zero, List.size_toArray, List.length_cons, List.length_nil, Nat.reduceAdd, List.take_succ_cons, List.take_zero]; first | done | exact rfl) ?_)) | ((with_reducible show wpList _ _ _ (Oper.mk _ (Op.store _ _ _) _ _ _ _ :: _) _ _); (refine wpList_stS (by rfl) _ _ _ rfl _ _ rfl _ (by simp only [Act.eval, Array.getD_eq_getD_getElem?, List.getElem?_toArray, List.getElem?_cons_succ, List.getElem?_cons_zero, Option.getD_some]; first | done | exact rfl) hm _ (by simp only [Value.cells]; first | done | exact rfl) _ _ _ _ (by repeat (first | apply Put.a | apply Put.b)) (by kernel_rfl) (by simp [Value.oneCell']) (by simp) (by simp only [List.set_cons_zero, List.set_cons_succ, spl, List.toList_toArray, List.size_toArray, List.length_cons, List.length_nil, Nat.reduceAdd, Nat.zero_add, List.take_succ_cons, List.take_zero, List.drop_succ_cons, List.drop_zero, List.drop_nil, List.cons_append, List.nil_append, List.append_nil]; first | done | exact rfl) ?_; clear hm; intro w hz hm ho)) | ((with_reducible show wpList _ _ _ (Oper.mk _ (Op.alloc _) _ _ _ _ :: _) _ _); (refine wpList_al (by rfl) _ rfl _ rfl _ (by simp only [Value.cells]; first | done | exact rfl) hm ?_; clear hm; intro n w hn hz hm ho; (try simp only [List.cons_append, List.nil_append] at hm)))); try simp only [Act.put, List.setIfInBounds_toArray, List.set_cons_zero, List.set_cons_succ]) | (go_at_call 60; refine (tz_count _ _).mono ?_; rintro e w' ⟨rfl, rfl⟩) | (go_at_call 44; refine (tz_status _ _).mono ?_; rintro e w2 ⟨A2, c2, rfl, hown, hbl⟩))
      go_ret
      exact PhRes.fin (HK.out _ hm.only (hm.at_ 0 rfl)) (hm.only.mono fun _ _ e => HF.out _ e) (fun q e => .inl e) ⟨A2, c2, rfl, hown, hbl⟩
  have e2 : a2 = 0 := by omega
  have e3 : a3 = 0 := by omega
  subst e2 e3
  clear e1
  by_cases e4 : sw = 0
  · subst e4
    have e : Tz.more ⟨0, [], cmd, kp, 0⟩ 192 0 0 a4 = (⟨0, [], cmd, kp, 0⟩, Tz.wd 0x6985) := by unfold Tz.more; rw [if_neg (by simp), if_pos rfl]
    rw [e]
    clear e hb hok hok2 hkp H hksw
    unfold hV
    go_enter Try.func57, Try.ntmps57
    go_wp2_with (first | go_skip | ((with_reducible show wpList _ _ _ _ _ (World.alloc _ _)); refine wpList_up hm ?_; clear hm; intro n w hn hn2 hk hm hd hd2 ho; (try rw [← hn]); replace hn := Nat.le_of_eq hn.symm) | ((first | ((with_reducible show wpList _ _ _ (Oper.mk _ (Op.box _ _) _ _ _ _ :: _) _ _); (refine wpList_bx (by rfl) _ _ rfl _ (by simp only [Act.eval, Array.getD_eq_getD_getElem?, List.getElem?_toArray, List.getElem?_cons_succ, List.getElem?_cons_zero, Option.getD_some]; first | done | exact rfl) _ (by simp only [Value.cells]; first | done | exact rfl) hm ?_; clear hm; intro n w hn hz hm ho; (try simp only [List.cons_append, List.nil_append] at hm))) | ((with_reducible show wpList _ _ _ (Oper.mk _ (Op.load _ _) _ _ _ _ :: _) _ _); first | (refine wpList_ldS (by rfl) _ _ rfl _ _ rfl hm _ _ (by repeat (first | apply In.a | apply In.b)) (by decide +kernel) _ (by simp only [List.getElem?_toArray, List.getElem?_cons_succ, List.getElem?_cons_zero]; first | done | exact rfl) ?_) | (refine wpList_laS (by rfl) _ _ rfl _ _ rfl hm _ _ (by repeat (first | apply In.a | apply In.b)) (by kernel_rfl) _ (by rfl) (by kernel_rfl) (by simp) _ (by simp only [List.toList_toArray, List.drop_succ_cons, List.drop_zero, List.size_toArray, List.length_cons, List.length_nil, Nat.reduceAdd, List.take_succ_cons, List.take_zero]; first | done | exact rfl) ?_)) | ((with_reducible show wpList _ _ _ (Oper.mk _ (Op.store _ _ _) _ _ _ _ :: _) _ _); (refine wpList_stS (by rfl) _ _ _ rfl _ _ rfl _ (by simp only [Act.eval, Array.getD_eq_getD_getElem?, List.getElem?_toArray, List.getElem?_cons_succ, List.getElem?_cons_zero, Option.getD_some]; first | done | exact rfl) hm _ (by simp only [Value.cells]; first | done | exact rfl) _ _ _ _ (by repeat (first | apply Put.a | apply Put.b)) (by kernel_rfl) (by simp [Value.oneCell']) (by simp) (by simp only [List.set_cons_zero, List.set_cons_succ, spl, List.toList_toArray, List.size_toArray, List.length_cons, List.length_nil, Nat.reduceAdd, Nat.zero_add, List.take_succ_cons, List.take_zero, List.drop_succ_cons, List.drop_zero, List.drop_nil, List.cons_append, List.nil_append, List.append_nil]; first | done | exact rfl) ?_; clear hm; intro w hz hm ho)) | ((with_reducible show wpList _ _ _ (Oper.mk _ (Op.alloc _) _ _ _ _ :: _) _ _); (refine wpList_al (by rfl) _ rfl _ rfl _ (by simp only [Value.cells]; first | done | exact rfl) hm ?_; clear hm; intro n w hn hz hm ho; (try simp only [List.cons_append, List.nil_append] at hm)))); try simp only [Act.put, List.setIfInBounds_toArray, List.set_cons_zero, List.set_cons_succ]) | (go_at_call 60; refine (tz_count _ _).mono ?_; rintro e w' ⟨rfl, rfl⟩) | (go_at_call 44; refine (tz_status _ _).mono ?_; rintro e w2 ⟨A2, c2, rfl, hown, hbl⟩))
    go_ret
    exact PhRes.fin (HK.out _ hm.only (hm.at_ 0 rfl)) (hm.only.mono fun _ _ e => HF.out _ e) (fun q e => .inl e) ⟨A2, c2, rfl, hown, hbl⟩
  have i4 : (sw == 0) = false := beq_eq_false_iff_ne.2 e4
  by_cases e5 : (kp.length : Int) < Tz.cnt a4
  · have e : Tz.more ⟨0, [], cmd, kp, sw⟩ 192 0 0 a4 = (⟨0, [], cmd, kp, sw⟩, Tz.left 0x6C kp.length) := by unfold Tz.more; rw [if_neg (by simp), if_neg e4, if_pos e5]
    rw [e]
    clear e hb hok hok2 hkp H hksw
    unfold hV
    go_enter Try.func57, Try.ntmps57
    go_wp2_with (first | go_skip | ((with_reducible show wpList _ _ _ _ _ (World.alloc _ _)); refine wpList_up hm ?_; clear hm; intro n w hn hn2 hk hm hd hd2 ho; (try rw [← hn]); replace hn := Nat.le_of_eq hn.symm) | ((first | ((with_reducible show wpList _ _ _ (Oper.mk _ (Op.box _ _) _ _ _ _ :: _) _ _); (refine wpList_bx (by rfl) _ _ rfl _ (by simp only [Act.eval, Array.getD_eq_getD_getElem?, List.getElem?_toArray, List.getElem?_cons_succ, List.getElem?_cons_zero, Option.getD_some]; first | done | exact rfl) _ (by simp only [Value.cells]; first | done | exact rfl) hm ?_; clear hm; intro n w hn hz hm ho; (try simp only [List.cons_append, List.nil_append] at hm))) | ((with_reducible show wpList _ _ _ (Oper.mk _ (Op.load _ _) _ _ _ _ :: _) _ _); first | (refine wpList_ldS (by rfl) _ _ rfl _ _ rfl hm _ _ (by repeat (first | apply In.a | apply In.b)) (by decide +kernel) _ (by simp only [List.getElem?_toArray, List.getElem?_cons_succ, List.getElem?_cons_zero]; first | done | exact rfl) ?_) | (refine wpList_laS (by rfl) _ _ rfl _ _ rfl hm _ _ (by repeat (first | apply In.a | apply In.b)) (by kernel_rfl) _ (by rfl) (by kernel_rfl) (by simp) _ (by simp only [List.toList_toArray, List.drop_succ_cons, List.drop_zero, List.size_toArray, List.length_cons, List.length_nil, Nat.reduceAdd, List.take_succ_cons, List.take_zero]; first | done | exact rfl) ?_)) | ((with_reducible show wpList _ _ _ (Oper.mk _ (Op.store _ _ _) _ _ _ _ :: _) _ _); (refine wpList_stS (by rfl) _ _ _ rfl _ _ rfl _ (by simp only [Act.eval, Array.getD_eq_getD_getElem?, List.getElem?_toArray, List.getElem?_cons_succ, List.getElem?_cons_zero, Option.getD_some]; first | done | exact rfl) hm _ (by simp only [Value.cells]; first | done | exact rfl) _ _ _ _ (by repeat (first | apply Put.a | apply Put.b)) (by kernel_rfl) (by simp [Value.oneCell']) (by simp) (by simp only [List.set_cons_zero, List.set_cons_succ, spl, List.toList_toArray, List.size_toArray, List.length_cons, List.length_nil, Nat.reduceAdd, Nat.zero_add, List.take_succ_cons, List.take_zero, List.drop_succ_cons, List.drop_zero, List.drop_nil, List.cons_append, List.nil_append, List.append_nil]; first | done | exact rfl) ?_; clear hm; intro w hz hm ho)) | ((with_reducible show wpList _ _ _ (Oper.mk _ (Op.alloc _) _ _ _ _ :: _) _ _); (refine wpList_al (by rfl) _ rfl _ rfl _ (by simp only [Value.cells]; first | done | exact rfl) hm ?_; clear hm; intro n w hn hz hm ho; (try simp only [List.cons_append, List.nil_append] at hm)))); try simp only [Act.put, List.setIfInBounds_toArray, List.set_cons_zero, List.set_cons_succ]) | (go_at_call 60; refine (tz_count _ _).mono ?_; rintro e w' ⟨rfl, rfl⟩) | (go_at_call 46; refine (card_available _ Ad kp.length cd _ _ (by exact (hm.at_ 0 rfl).cell 16)).mono ?_; rintro e w2 ⟨A2, c2, rfl, hown, hbl⟩))
    go_ret
    exact PhRes.fin (HK.out _ hm.only (hm.at_ 0 rfl)) (hm.only.mono fun _ _ e => HF.out _ e) (fun q e => .inl e) ⟨A2, c2, rfl, hown, hbl⟩
  have e6 : 0 < kp.length := by omega
  obtain ⟨q, hq⟩ : ∃ q : Nat, Tz.cnt a4 = (q : Int) := ⟨(Tz.cnt a4).toNat, by omega⟩
  have HC : Hid (∀ u : World, Calls Try.prog 60 #[.int .i64 a4] u fun e w' => e = .returned (.int .i64 (q : Int)) ∧ u = w') := by show ∀ u, _; intro u; rw [← hq]; exact tz_count a4 u
  obtain ⟨b, o, rfl, hbo⟩ := hkp.1.at_ e6
  have hne : b ≠ g ∧ ownAt A c ≠ some b := by have := H.row b ⟨_, rfl, e6, rfl⟩; exact ⟨this.2, this.1⟩
  have HB := Lib.hid (fun (w1 : World) (ho : Only (fun q => q = g) w w1) => hkp.1.only ho (fun a ha hn e => (H.row a.block ⟨a, ha, hn, rfl⟩).2 e))
  have hcd : kp.length ≤ cd := hkp.1.2.1
  have hq1 : 0 < q := by omega
  have hq2 : q ≤ 256 := by omega
  have hql : q ≤ kp.length := by omega
  have HR : Hid (∀ q : Nat, q = g → ∃ e ∈ ([⟨g, 78, #[]⟩] : List Ent), e.g = q) := by show ∀ q : Nat, _; rintro q rfl; exact ⟨_, List.mem_singleton_self _, rfl⟩
  by_cases e7 : kp.length = q
  · have e : Tz.more ⟨0, [], cmd, kp, sw⟩ 192 0 0 a4 = (⟨0, [], cmd, [], 0⟩, Tz.byte 192 :: kp ++ Tz.wd sw) := by
      unfold Tz.more; rw [if_neg (by simp), if_neg e4, if_neg e5, if_pos (by show kp.length = _; omega)]
    rw [e] at hok2 ⊢
    have HE := Lib.hid e7
    have HK2 := Lib.hid (fun w1 ho hb => H.keep (w' := w1) (Ad' := some ⟨b, o, none⟩) (cd' := 0) (kp := []) (sw := 0) rfl rfl ho hb (hkp.none (some ⟨b, o, none⟩) rfl _) (fun q' ⟨a, ha, hl, _⟩ => by cases hl) hok2)
    have HK3 := Lib.hid (fun w1 ho hb => H.keep (w' := w1) (Ad' := some ⟨b, o + q, none⟩) (cd' := cd - q) (kp := []) (sw := 0) rfl rfl ho hb (hkp.none (some ⟨b, o + q, none⟩) rfl _) (fun q' ⟨a, ha, hl, _⟩ => by cases hl) hok2)
    clear e hb hq hcn hksw hok hok2 H
    unfold hV
    have i7 : decide (kp.length < q) = false := by simp; omega
    have i9 : ¬ q < kp.length := by omega
    by_cases e8 : cd = q
    · obtain rfl : q = cd := e8.symm
      clear e7
      go_enter Try.func57, Try.ntmps57
      go_wp2_with (first | go_skip | ((with_reducible show wpList _ _ _ _ _ (World.alloc _ _)); refine wpList_up hm ?_; clear hm; intro n w hn hn2 hk hm hd hd2 ho; (try rw [← hn]); replace hn := Nat.le_of_eq hn.symm) | ((first | ((with_reducible show wpList _ _ _ (Oper.mk _ (Op.box _ _) _ _ _ _ :: _) _ _); (refine wpList_bx (by rfl) _ _ rfl _ (by simp only [Act.eval, Array.getD_eq_getD_getElem?, List.getElem?_toArray, List.getElem?_cons_succ, List.getElem?_cons_zero, Option.getD_some]; first | done | exact rfl) _ (by simp only [Value.cells]; first | done | exact rfl) hm ?_; clear hm; intro n w hn hz hm ho; (try simp only [List.cons_append, List.nil_append] at hm))) | ((with_reducible show wpList _ _ _ (Oper.mk _ (Op.load _ _) _ _ _ _ :: _) _ _); first | (refine wpList_ldS (by rfl) _ _ rfl _ _ rfl hm _ _ (by repeat (first | apply In.a | apply In.b)) (by decide +kernel) _ (by simp only [List.getElem?_toArray, List.getElem?_cons_succ, List.getElem?_cons_zero]; first | done | exact rfl) ?_) | (refine wpList_laS (by rfl) _ _ rfl _ _ rfl hm _ _ (by repeat (first | apply In.a | apply In.b)) (by kernel_rfl) _ (by rfl) (by kernel_rfl) (by simp) _ (by simp only [List.toList_toArray, List.drop_succ_cons, List.drop_zero, List.size_toArray, List.length_cons, List.length_nil, Nat.reduceAdd, List.take_succ_cons, List.take_zero]; first | done | exact rfl) ?_)) | ((with_reducible show wpList _ _ _ (Oper.mk _ (Op.store _ _ _) _ _ _ _ :: _) _ _); (refine wpList_stS (by rfl) _ _ _ rfl _ _ rfl _ (by simp only [Act.eval, Array.getD_eq_getD_getElem?, List.getElem?_toArray, List.getElem?_cons_succ, List.getElem?_cons_zero, Option.getD_some]; first | done | exact rfl) hm _ (by simp only [Value.cells]; first | done | exact rfl) _ _ _ _ (by repeat (first | apply Put.a | apply Put.b)) (by kernel_rfl) (by simp [Value.oneCell']) (by simp) (by simp only [List.set_cons_zero, List.set_cons_succ, spl, List.toList_toArray, List.size_toArray, List.length_cons, List.length_nil, Nat.reduceAdd, Nat.zero_add, List.take_succ_cons, List.take_zero, List.drop_succ_cons, List.drop_zero, List.drop_nil, List.cons_append, List.nil_append, List.append_nil]; first | done | exact rfl) ?_; clear hm; intro w hz hm ho)) | ((with_reducible show wpList _ _ _ (Oper.mk _ (Op.alloc _) _ _ _ _ :: _) _ _); (refine wpList_al (by rfl) _ rfl _ rfl _ (by simp only [Value.cells]; first | done | exact rfl) hm ?_; clear hm; intro n w hn hz hm ho; (try simp only [List.cons_append, List.nil_append] at hm)))); try simp only [Act.put, List.setIfInBounds_toArray, List.set_cons_zero, List.set_cons_succ]) | (go_at_call 60; refine (HC.out _).mono ?_; rintro e w' ⟨rfl, rfl⟩) | ((with_reducible show wpList _ _ _ (Oper.mk _ (Op.call { callee := Callee.builtin Builtin.append, args := #[Operand.tmp 37, Operand.tmp 43], argTypes := _ }) _ _ _ _ :: _) _ _); refine wpList_ap8 (by rfl) (.tmp 37) (.tmp 43) rfl _ 1 1 [192] rfl (hm.row hk hn2 hd hd2 1 1 (bcells [192]) rfl rfl (by unfold maxLen; omega)) 0 rfl _ _ q _ (kp.take q) rfl ((HB.out w hm.only).2.2.btake q) (by rw [List.length_take]; omega) (by omega) ?_; clear hm; intro A3 c3 w hm ho _; (try simp only [Act.put, List.setIfInBounds_toArray, List.set_cons_zero, List.set_cons_succ])) | (go_at_call 44; refine (tz_status _ _).mono ?_; rintro e w2 ⟨A2, c2, rfl, hown, hbl⟩; replace hm := hm.got hbl hown; clear hown) | ((with_reducible show wpList _ _ _ (Oper.mk _ (Op.call { callee := Callee.builtin Builtin.append, args := #[Operand.tmp 64, Operand.tmp 69], argTypes := _ }) _ _ _ _ :: _) _ _); refine wpList_ap8 (by rfl) (.tmp 64) (.tmp 69) rfl _ _ _ _ rfl hm 0 rfl _ _ _ _ (Tz.wd sw) rfl (by exact (hm.sl_ 1 rfl).row) rfl (by show 1 + q + 2 ≤ _; omega) ?_; clear hm; intro A4 c4 w hm ho _; (try simp only [Act.put, List.setIfInBounds_toArray, List.set_cons_zero, List.set_cons_succ])))
      go_ret
      try rw [show kp.length - q = 0 by have := HE.out; omega] at hm
      refine PhRes.mk hm 0 rfl (by rw [List.take_of_length_le (by have := HE.out; omega)]; rfl) (by simp [Tz.wd]; have := HE.out; omega) (fun q hq => ⟨_, List.mem_cons_self, hq.symm⟩) (HK2.out _ hm.only (hm.at_ 0 rfl)) (hm.only.mono fun _ _ e => HF.out _ e) (fun q e => .inl e)
    · clear e7
      go_enter Try.func57, Try.ntmps57
      go_wp2_with (first | go_skip | ((with_reducible show wpList _ _ _ _ _ (World.alloc _ _)); refine wpList_up hm ?_; clear hm; intro n w hn hn2 hk hm hd hd2 ho; (try rw [← hn]); replace hn := Nat.le_of_eq hn.symm) | ((first | ((with_reducible show wpList _ _ _ (Oper.mk _ (Op.box _ _) _ _ _ _ :: _) _ _); (refine wpList_bx (by rfl) _ _ rfl _ (by simp only [Act.eval, Array.getD_eq_getD_getElem?, List.getElem?_toArray, List.getElem?_cons_succ, List.getElem?_cons_zero, Option.getD_some]; first | done | exact rfl) _ (by simp only [Value.cells]; first | done | exact rfl) hm ?_; clear hm; intro n w hn hz hm ho; (try simp only [List.cons_append, List.nil_append] at hm))) | ((with_reducible show wpList _ _ _ (Oper.mk _ (Op.load _ _) _ _ _ _ :: _) _ _); first | (refine wpList_ldS (by rfl) _ _ rfl _ _ rfl hm _ _ (by repeat (first | apply In.a | apply In.b)) (by decide +kernel) _ (by simp only [List.getElem?_toArray, List.getElem?_cons_succ, List.getElem?_cons_zero]; first | done | exact rfl) ?_) | (refine wpList_laS (by rfl) _ _ rfl _ _ rfl hm _ _ (by repeat (first | apply In.a | apply In.b)) (by kernel_rfl) _ (by rfl) (by kernel_rfl) (by simp) _ (by simp only [List.toList_toArray, List.drop_succ_cons, List.drop_zero, List.size_toArray, List.length_cons, List.length_nil, Nat.reduceAdd, List.take_succ_cons, List.take_zero]; first | done | exact rfl) ?_)) | ((with_reducible show wpList _ _ _ (Oper.mk _ (Op.store _ _ _) _ _ _ _ :: _) _ _); (refine wpList_stS (by rfl) _ _ _ rfl _ _ rfl _ (by simp only [Act.eval, Array.getD_eq_getD_getElem?, List.getElem?_toArray, List.getElem?_cons_succ, List.getElem?_cons_zero, Option.getD_some]; first | done | exact rfl) hm _ (by simp only [Value.cells]; first | done | exact rfl) _ _ _ _ (by repeat (first | apply Put.a | apply Put.b)) (by kernel_rfl) (by simp [Value.oneCell']) (by simp) (by simp only [List.set_cons_zero, List.set_cons_succ, spl, List.toList_toArray, List.size_toArray, List.length_cons, List.length_nil, Nat.reduceAdd, Nat.zero_add, List.take_succ_cons, List.take_zero, List.drop_succ_cons, List.drop_zero, List.drop_nil, List.cons_append, List.nil_append, List.append_nil]; first | done | exact rfl) ?_; clear hm; intro w hz hm ho)) | ((with_reducible show wpList _ _ _ (Oper.mk _ (Op.alloc _) _ _ _ _ :: _) _ _); (refine wpList_al (by rfl) _ rfl _ rfl _ (by simp only [Value.cells]; first | done | exact rfl) hm ?_; clear hm; intro n w hn hz hm ho; (try simp only [List.cons_append, List.nil_append] at hm)))); try simp only [Act.put, List.setIfInBounds_toArray, List.set_cons_zero, List.set_cons_succ]) | (go_at_call 60; refine (HC.out _).mono ?_; rintro e w' ⟨rfl, rfl⟩) | ((with_reducible show wpList _ _ _ (Oper.mk _ (Op.call { callee := Callee.builtin Builtin.append, args := #[Operand.tmp 37, Operand.tmp 43], argTypes := _ }) _ _ _ _ :: _) _ _); refine wpList_ap8 (by rfl) (.tmp 37) (.tmp 43) rfl _ 1 1 [192] rfl (hm.row hk hn2 hd hd2 1 1 (bcells [192]) rfl rfl (by unfold maxLen; omega)) 0 rfl _ _ q _ (kp.take q) rfl ((HB.out w hm.only).2.2.btake q) (by rw [List.length_take]; omega) (by omega) ?_; clear hm; intro A3 c3 w hm ho _; (try simp only [Act.put, List.setIfInBounds_toArray, List.set_cons_zero, List.set_cons_succ])) | (go_at_call 44; refine (tz_status _ _).mono ?_; rintro e w2 ⟨A2, c2, rfl, hown, hbl⟩; replace hm := hm.got hbl hown; clear hown) | ((with_reducible show wpList _ _ _ (Oper.mk _ (Op.call { callee := Callee.builtin Builtin.append, args := #[Operand.tmp 64, Operand.tmp 69], argTypes := _ }) _ _ _ _ :: _) _ _); refine wpList_ap8 (by rfl) (.tmp 64) (.tmp 69) rfl _ _ _ _ rfl hm 0 rfl _ _ _ _ (Tz.wd sw) rfl (by exact (hm.sl_ 1 rfl).row) rfl (by show 1 + q + 2 ≤ _; omega) ?_; clear hm; intro A4 c4 w hm ho _; (try simp only [Act.put, List.setIfInBounds_toArray, List.set_cons_zero, List.set_cons_succ])))
      go_ret
      try rw [show kp.length - q = 0 by have := HE.out; omega] at hm
      refine PhRes.mk hm 0 rfl (by rw [List.take_of_length_le (by have := HE.out; omega)]; rfl) (by simp [Tz.wd]; have := HE.out; omega) (fun q hq => ⟨_, List.mem_cons_self, hq.symm⟩) (HK3.out _ hm.only (hm.at_ 0 rfl)) (hm.only.mono fun _ _ e => HF.out _ e) (fun q e => .inl e)
  · have e : Tz.more ⟨0, [], cmd, kp, sw⟩ 192 0 0 a4 = (⟨0, [], cmd, kp.drop q, sw⟩, Tz.byte 192 :: kp.take q ++ Tz.left 0x61 (kp.drop q).length) := by
      unfold Tz.more; rw [if_neg (by simp), if_neg e4, if_neg e5, if_neg (by show ¬ kp.length = _; omega), show (Tz.cnt a4).toNat = q by omega]
    rw [e] at hok2 ⊢
    have HE : Hid ((kp.drop q).length = kp.length - q) := List.length_drop
    have HK2 := Lib.hid (fun w1 ho hb => H.keep (w' := w1) (Ad' := some ⟨b, o + q, none⟩) (cd' := cd - q) (kp := kp.drop q) (sw := sw) rfl rfl ho hb (by rw [HE.out]; exact hkp.cut q hql) (fun q' ⟨a, ha, hl, hq'⟩ => by injection ha with ha; subst ha; subst hq'; exact ⟨hne.2, hne.1⟩) hok2)
    clear e hb hq hcn hksw hok hok2 H
    unfold hV
    have i7 : decide (kp.length < q) = false := by simp; omega
    have i9 : q < kp.length := by omega
    have e8 : ¬ cd = q := by omega
    go_enter Try.func57, Try.ntmps57
    go_wp2_with (first | go_skip | ((with_reducible show wpList _ _ _ _ _ (World.alloc _ _)); refine wpList_up hm ?_; clear hm; intro n w hn hn2 hk hm hd hd2 ho; (try rw [← hn]); replace hn := Nat.le_of_eq hn.symm) | ((first | ((with_reducible show wpList _ _ _ (Oper.mk _ (Op.box _ _) _ _ _ _ :: _) _ _); (refine wpList_bx (by rfl) _ _ rfl _ (by simp only [Act.eval, Array.getD_eq_getD_getElem?, List.getElem?_toArray, List.getElem?_cons_succ, List.getElem?_cons_zero, Option.getD_some]; first | done | exact rfl) _ (by simp only [Value.cells]; first | done | exact rfl) hm ?_; clear hm; intro n w hn hz hm ho; (try simp only [List.cons_append, List.nil_append] at hm))) | ((with_reducible show wpList _ _ _ (Oper.mk _ (Op.load _ _) _ _ _ _ :: _) _ _); first | (refine wpList_ldS (by rfl) _ _ rfl _ _ rfl hm _ _ (by repeat (first | apply In.a | apply In.b)) (by decide +kernel) _ (by simp only [List.getElem?_toArray, List.getElem?_cons_succ, List.getElem?_cons_zero]; first | done | exact rfl) ?_) | (refine wpList_laS (by rfl) _ _ rfl _ _ rfl hm _ _ (by repeat (first | apply In.a | apply In.b)) (by kernel_rfl) _ (by rfl) (by kernel_rfl) (by simp) _ (by simp only [List.toList_toArray, List.drop_succ_cons, List.drop_zero, List.size_toArray, List.length_cons, List.length_nil, Nat.reduceAdd, List.take_succ_cons, List.take_zero]; first | done | exact rfl) ?_)) | ((with_reducible show wpList _ _ _ (Oper.mk _ (Op.store _ _ _) _ _ _ _ :: _) _ _); (refine wpList_stS (by rfl) _ _ _ rfl _ _ rfl _ (by simp only [Act.eval, Array.getD_eq_getD_getElem?, List.getElem?_toArray, List.getElem?_cons_succ, List.getElem?_cons_zero, Option.getD_some]; first | done | exact rfl) hm _ (by simp only [Value.cells]; first | done | exact rfl) _ _ _ _ (by repeat (first | apply Put.a | apply Put.b)) (by kernel_rfl) (by simp [Value.oneCell']) (by simp) (by simp only [List.set_cons_zero, List.set_cons_succ, spl, List.toList_toArray, List.size_toArray, List.length_cons, List.length_nil, Nat.reduceAdd, Nat.zero_add, List.take_succ_cons, List.take_zero, List.drop_succ_cons, List.drop_zero, List.drop_nil, List.cons_append, List.nil_append, List.append_nil]; first | done | exact rfl) ?_; clear hm; intro w hz hm ho)) | ((with_reducible show wpList _ _ _ (Oper.mk _ (Op.alloc _) _ _ _ _ :: _) _ _); (refine wpList_al (by rfl) _ rfl _ rfl _ (by simp only [Value.cells]; first | done | exact rfl) hm ?_; clear hm; intro n w hn hz hm ho; (try simp only [List.cons_append, List.nil_append] at hm)))); try simp only [Act.put, List.setIfInBounds_toArray, List.set_cons_zero, List.set_cons_succ]) | (go_at_call 60; refine (HC.out _).mono ?_; rintro e w' ⟨rfl, rfl⟩) | ((with_reducible show wpList _ _ _ (Oper.mk _ (Op.call { callee := Callee.builtin Builtin.append, args := #[Operand.tmp 37, Operand.tmp 43], argTypes := _ }) _ _ _ _ :: _) _ _); refine wpList_ap8 (by rfl) (.tmp 37) (.tmp 43) rfl _ 1 1 [192] rfl (hm.row hk hn2 hd hd2 1 1 (bcells [192]) rfl rfl (by unfold maxLen; omega)) 0 rfl _ _ q _ (kp.take q) rfl ((HB.out w hm.only).2.2.btake q) (by rw [List.length_take]; omega) (by omega) ?_; clear hm; intro A3 c3 w hm ho _; (try simp only [Act.put, List.setIfInBounds_toArray, List.set_cons_zero, List.set_cons_succ])) | (go_at_call 46; refine (card_available _ _ _ _ _ _ (by exact (hm.at_ 0 rfl).cell 16)).mono ?_; rintro e w2 ⟨A2, c2, rfl, hown, hbl⟩; replace hm := hm.got hbl hown; clear hown) | ((with_reducible show wpList _ _ _ (Oper.mk _ (Op.call { callee := Callee.builtin Builtin.append, args := #[Operand.tmp 60, Operand.tmp 62], argTypes := _ }) _ _ _ _ :: _) _ _); refine wpList_ap8 (by rfl) (.tmp 60) (.tmp 62) rfl _ _ _ _ rfl hm 0 rfl _ _ _ _ (Tz.left 97 (kp.length - q)) rfl (by exact (hm.sl_ 1 rfl).row) rfl (by show 1 + q + 2 ≤ _; omega) ?_; clear hm; intro A4 c4 w hm ho _; (try simp only [Act.put, List.setIfInBounds_toArray, List.set_cons_zero, List.set_cons_succ])))
    go_ret
    rw [← HE.out] at hm
    refine PhRes.mk hm 0 rfl rfl (by simp [Tz.left]; omega) (fun q hq => ⟨_, List.mem_cons_self, hq.symm⟩) (HK2.out _ hm.only (hm.at_ 0 rfl)) (hm.only.mono fun _ _ e => HF.out _ e) (fun q e => .inl e)
end Go.Proofs.Ytpacdjkikbdkeaa
