/-
  The walks of the card's phases: the data of a command.
-/
import Derived.Test.YtpacdjkikbdkeaaZ0
import Derived.Test.YtpacdjkikbdkeaaTzC
namespace Go.Proofs.Ytpacdjkikbdkeaa
set_option maxRecDepth 100000
set_option linter.unusedSimpArgs false
set_option linter.unusedVariables false
open Go.RowKit Go.Maps
set_option maxHeartbeats 8000000

theorem PhRes.nil {w w' : World} {g : Nat} {F F' : Nat → Prop} {l : List Int} {s : Tz.S} (H : CardAt' w' g F' l s) (ho : Only F w w') (hF : ∀ q, F' q → F q ∨ w.heap.size ≤ q) : PhRes w g F l s [] (.returned (.slice none 0 0)) w' :=
  ⟨none, 0, F', rfl, Own.none_ _ _ _ _ _, H, ho, hF⟩
theorem Own.base {w : World} {b b' : Nat} {t : TypeId} {s : Nat} {A : Option Addr} {n c : Nat} {cs : List Value} (h : Own w b t s A n c cs) (hq : ∀ q, ownAt A c = some q → b' ≤ q) : Own w b' t s A n c cs := by
  refine ⟨h.1, h.2.1, h.2.2.1, fun hc => ?_⟩
  obtain ⟨g, cur, e, hb, r⟩ := h.2.2.2 hc
  exact ⟨g, cur, e, hq g (by unfold ownAt; rw [if_neg (by omega), e]; rfl), r⟩
/-- The card and the slice of its bytes, as known memory. -/
theorem CardAt.mem {w : World} {g : Nat} {F : Nat → Prop} {l : List Int} {s : Tz.S} {gm m : Nat} {A : Option Addr} {c : Nat} {h : Hd} {x : CV} {inc : Bool} {Ad : Option Addr} {cd : Nat} (H : CardAt w g F l s gm m A c h x inc Ad cd) :
    Mem (fun q => q = g ∨ ownAt A c = some q) w w [⟨g, 78, ccard gm (phV g s.ph) (.slice A s.gotc.length c) h x inc (.slice Ad s.kept.length cd) s.sw⟩] [⟨5, 1, A, s.gotc.length, c, bcells s.gotc⟩] :=
  (Mem.one (R := fun q => q = g ∨ ownAt A c = some q) H.blk (.inl rfl)).more (O := []) (H.got.mono (Nat.zero_le _)) (fun q e => .inl (.inr e)) (fun e he e1 => by
    obtain rfl := List.mem_singleton.1 he
    have := (H.got.lt _ e1).1
    simp only at this
    omega) (fun y hy => by cases hy)
theorem ReachC {w w' : World} {R : Nat → Prop} {g : Nat} {F : Nat → Prop} {A : Option Addr} {c : Nat} (ho : Only (fun q => q = g ∨ ownAt A c = some q) w w') (hg : F g) (hf : ∀ q, ownAt A c = some q → F q) : Only F w w' :=
  ho.mono fun q _ e => e.elim (fun e => e ▸ hg) (hf q)
/-- All that a card may hold behind a step. -/
def grow (w w' : World) (F : Nat → Prop) (q : Nat) : Prop := F q ∨ (w.heap.size ≤ q ∧ q < w'.heap.size)

theorem InAt.not_own {w : World} {gm n : Nat} {D : DataW Unit} (h : InAt w gm n D) {b : Nat} {t : TypeId} {s : Nat} {A : Option Addr} {k c : Nat} {cs : List Value} (ho : Own w b t s A k c cs) : ownAt A c ≠ some gm := by
  intro e
  obtain ⟨es, clock, hb, _⟩ := h
  unfold ownAt at e
  split at e
  · cases e
  · obtain ⟨g, cur, e2, _, hh, _⟩ := ho.2.2.2 (by omega)
    subst e2
    simp only [Option.map_some, Option.some.injEq] at e
    subst e
    rw [hh] at hb
    cases hb
section
variable {w w0 : World} {g : Nat} {F : Nat → Prop} {A : Option Addr} {c : Nat} {L : List Ent} {O : List Osl}
theorem Mem.where_ (hm : Mem (fun q => q = g ∨ ownAt A c = some q) w0 w L O) {k j : Nat} {e : Ent} {x : Osl} (hk : L[k]? = some e) (he : e.g = g) (hj : O[j]? = some x) (q : Nat) (hq : ownAt x.A x.c = some q) : ownAt A c = some q ∨ w0.heap.size ≤ q := by
  rcases hm.slR _ (List.mem_of_getElem? hj) q hq with (h | h) | h
  · exact absurd (by rw [hq, he, h]) (hm.slL _ (List.mem_of_getElem? hj) _ (List.mem_of_getElem? hk))
  · exact .inl h
  · exact .inr h
theorem Mem.grow_ (hm : Mem (fun q => q = g ∨ ownAt A c = some q) w0 w L O) {k j : Nat} {e : Ent} {x : Osl} (hk : L[k]? = some e) (he : e.g = g) (hj : O[j]? = some x) (hf : ∀ q, ownAt A c = some q → F q) (q : Nat) (hq : ownAt x.A x.c = some q) : grow w0 w F q := by
  rcases hm.where_ hk he hj q hq with h | h
  · exact .inl (hf q h)
  · exact .inr ⟨h, hm.slt (List.mem_of_getElem? hj) hq⟩
end
/-- What a step that only touches the card's struct and its slice of bytes keeps. -/
structure Kept (w w' : World) (g : Nat) (F : Nat → Prop) (l : List Int) (gm m : Nat) (Ad : Option Addr) (cd : Nat) (kp : List UInt8) : Prop where
  fg : grow w w' F g
  fm : grow w w' F gm
  mp : InAt w' gm m (tmapD l (.map []))
  kept : BytF w' (grow w w' F) Ad kp.length cd kp
  lt : ∀ q, grow w w' F q → q < w'.heap.size
  gm_ne : gm ≠ g
  only : Only F w w'
  hF : ∀ q, grow w w' F q → F q ∨ w.heap.size ≤ q
theorem CardAt.kept_ {w w' : World} {g : Nat} {F : Nat → Prop} {l : List Int} {s : Tz.S} {gm m : Nat} {A : Option Addr} {c : Nat} {h : Hd} {x : CV} {inc : Bool} {Ad : Option Addr} {cd : Nat} (H : CardAt w g F l s gm m A c h x inc Ad cd)
    (ho : Only (fun q => q = g ∨ ownAt A c = some q) w w') : Kept w w' g F l gm m Ad cd s.kept :=
  { fg := .inl H.fg, fm := .inl H.fm
    mp := H.mp.only ho (fun e => e.elim H.gm_ne (H.mp.not_own H.got))
    kept := ⟨H.kept.1.only ho (fun a ha hn e => by
      have := H.row a.block ⟨a, ha, hn, rfl⟩
      exact e.elim this.2 this.1), fun a ha => .inl (H.kept.2 a ha)⟩
    lt := fun q hq => hq.elim (fun h => Nat.lt_of_lt_of_le (H.lt q h) ho.size) (·.2)
    gm_ne := H.gm_ne
    only := ho.mono fun q _ e => e.elim (fun e => e ▸ H.fg) (H.fa q)
    hF := fun q hq => hq.elim .inl (fun h => .inr h.1) }

set_option maxRecDepth 100000 in
theorem card_collect (w0 : World) (g : Nat) (F : Nat → Prop) (l : List Int) (s : Tz.S) (H : CardAt' w0 g F l s) (h1 : s.ph = 1) (b : UInt8) :
    Calls Try.prog 58 #[.pointer (some ⟨g, 0, none⟩), B8 b] w0 (PhRes w0 g F l (Tz.step l s b).1 (Tz.step l s b).2) := by
  obtain ⟨gm, m, A, c, h, x, inc, Ad, cd, H⟩ := H
  have hok2 := H.ok.step l b
  obtain ⟨ph, got, cmd, kp, sw⟩ := s
  obtain rfl : ph = 1 := h1
  have hdt := H.ok.dt rfl
  obtain ⟨p, d, rfl⟩ : ∃ p d, got = p :: d := by
    cases got with
    | nil => exact absurd hdt.1 (by simp)
    | cons p d => exact ⟨p, d, rfl⟩
  have hm := H.mem
  obtain ⟨h0, h1, h2, h3, h4⟩ := h
  obtain ⟨x0, x1, x2, x3, ⟨xa, xn, xc, xb⟩, x5, x6⟩ := x
  obtain ⟨f0, f1, f2, f3, f4, f5, f6, f7⟩ := H.fine.data rfl
  have f4 : h4 = (p.toNat : Int) := f4
  subst f4
  have hp := p.toNat_lt
  have hd : d.length + 1 ≤ p.toNat := hdt.2
  simp only [ccard, phV, Tz.S.gotc, SV.val, if_pos, List.drop_succ_cons, List.drop_zero] at hm
  rw [if_neg (by decide : ¬ 1 = 0)] at hm
  by_cases e1 : d.length + 1 = p.toNat
  · have e : Tz.step l ⟨1, p :: d, cmd, kp, sw⟩ b = (⟨2, [], { cmd with d := d ++ [b] }, kp, sw⟩, []) := by
      unfold Tz.step; rw [if_neg (by simp), if_neg (by simp), if_pos (by simpa using e1)]; rfl
    rw [e] at hok2 ⊢
    have i1 : ((d.length : Int) + 1 == (p.toNat : Int)) = true := by rw [beq_iff_eq]; omega
    have HH := Lib.hid H
    have HF := Lib.hid (And.intro f0 (And.intro f1 (And.intro f2 (And.intro f3 (And.intro f5 (And.intro f6 f7))))))
    clear e e1 hdt H f0 f1 f2 f3 f4 f5 f6 f7
    generalize p.toNat = pn at *
    go_enter Try.func58, Try.ntmps58
    go_wp2_with (first | go_skip | ((with_reducible show wpList _ _ _ _ _ (World.alloc _ _)); refine wpList_up hm ?_; clear hm; intro n w hn hn2 hk hm hd hd2 ho; (try rw [← hn]); replace hn := Nat.le_of_eq hn.symm) | ((first | ((with_reducible show wpList _ _ _ (Oper.mk _ (Op.box _ _) _ _ _ _ :: _) _ _); (refine wpList_bx (by rfl) _ _ rfl _ (by simp only [Act.eval, Array.getD_eq_getD_getElem?, List.getElem?_toArray, List.getElem?_cons_succ, List.getElem?_cons_zero, Option.getD_some]; first | done | exact rfl) _ (by simp only [Value.cells]; first | done | exact rfl) hm ?_; clear hm; intro n w hn hz hm ho; (try simp only [List.cons_append, List.nil_append] at hm))) | ((with_reducible show wpList _ _ _ (Oper.mk _ (Op.load _ _) _ _ _ _ :: _) _ _); first | (refine wpList_ldS (by rfl) _ _ rfl _ _ rfl hm _ _ (by repeat (first | apply In.a | apply In.b)) (by decide +kernel) _ (by simp only [List.getElem?_toArray, List.getElem?_cons_succ, List.getElem?_cons_zero]; first | done | exact rfl) ?_) | (refine wpList_laS (by rfl) _ _ rfl _ _ rfl hm _ _ (by repeat (first | apply In.a | apply In.b)) (by kernel_rfl) _ (by rfl) (by kernel_rfl) (by simp) _ (by simp only [List.toList_toArray, List.drop_succ_cons, List.drop_zero, List.size_toArray, List.length_cons, List.length_nil, Nat.reduceAdd, List.take_succ_cons, List.take_zero]; first | done | exact rfl) ?_)) | ((with_reducible show wpList _ _ _ (Oper.mk _ (Op.store _ _ _) _ _ _ _ :: _) _ _); (refine wpList_stS (by rfl) _ _ _ rfl _ _ rfl _ (by simp only [Act.eval, Array.getD_eq_getD_getElem?, List.getElem?_toArray, List.getElem?_cons_succ, List.getElem?_cons_zero, Option.getD_some]; first | done | exact rfl) hm _ (by simp only [Value.cells]; first | done | exact rfl) _ _ _ _ (by repeat (first | apply Put.a | apply Put.b)) (by kernel_rfl) (by simp [Value.oneCell']) (by simp) (by simp only [List.set_cons_zero, List.set_cons_succ, spl, List.toList_toArray, List.size_toArray, List.length_cons, List.length_nil, Nat.reduceAdd, Nat.zero_add, List.take_succ_cons, List.take_zero, List.drop_succ_cons, List.drop_zero, List.drop_nil, List.cons_append, List.nil_append, List.append_nil]; first | done | exact rfl) ?_; clear hm; intro w hz hm ho)) | ((with_reducible show wpList _ _ _ (Oper.mk _ (Op.alloc _) _ _ _ _ :: _) _ _); (refine wpList_al (by rfl) _ rfl _ rfl _ (by simp only [Value.cells]; first | done | exact rfl) hm ?_; clear hm; intro n w hn hz hm ho; (try simp only [List.cons_append, List.nil_append] at hm)))); try simp only [Act.put, List.setIfInBounds_toArray, List.set_cons_zero, List.set_cons_succ]) | ((with_reducible show wpList _ _ _ (Oper.mk _ (Op.call { callee := Callee.builtin Builtin.append, args := #[Operand.tmp 10, Operand.tmp 12], argTypes := _ }) _ _ _ _ :: _) _ _); refine wpList_ap8 (by rfl) (.tmp 10) (.tmp 12) rfl _ _ _ _ rfl hm 0 rfl _ _ 1 _ [b] rfl hk.row rfl (by omega) ?_; clear hm; intro A3 c3 w hm ho _; try simp only [Act.put, List.setIfInBounds_toArray, List.set_cons_zero, List.set_cons_succ]))
    refine wp_region_quiet_lit (by kernel_rfl) (by kernel_rfl) ?_
    repeat (first | go_big_quiet_skip | ((with_reducible show wpQuiet _ _ _ _ (Oper.mk _ (Op.load _ _) _ _ _ _ :: _) _); first | (refine wpQuiet_ldS (by rfl) _ _ rfl _ _ rfl hm _ _ (by repeat (first | apply In.a | apply In.b)) (by decide +kernel) _ (by simp only [List.getElem?_toArray, List.getElem?_cons_succ, List.getElem?_cons_zero]; first | done | exact rfl) ?_; (try simp only [Act.put, List.setIfInBounds_toArray, List.set_cons_zero, List.set_cons_succ]))) | go_big_quiet_step (fail))
    refine wpQuiet_nil ?_
    rintro _ ⟨nq, rfl⟩
    replace hm := hm.drewN nq
    go_wp2_with (first | go_skip | ((with_reducible show wpList _ _ _ _ _ (World.alloc _ _)); refine wpList_up hm ?_; clear hm; intro n w hn hn2 hk hm hd hd2 ho; (try rw [← hn]); replace hn := Nat.le_of_eq hn.symm) | ((first | ((with_reducible show wpList _ _ _ (Oper.mk _ (Op.box _ _) _ _ _ _ :: _) _ _); (refine wpList_bx (by rfl) _ _ rfl _ (by simp only [Act.eval, Array.getD_eq_getD_getElem?, List.getElem?_toArray, List.getElem?_cons_succ, List.getElem?_cons_zero, Option.getD_some]; first | done | exact rfl) _ (by simp only [Value.cells]; first | done | exact rfl) hm ?_; clear hm; intro n w hn hz hm ho; (try simp only [List.cons_append, List.nil_append] at hm))) | ((with_reducible show wpList _ _ _ (Oper.mk _ (Op.load _ _) _ _ _ _ :: _) _ _); first | (refine wpList_ldS (by rfl) _ _ rfl _ _ rfl hm _ _ (by repeat (first | apply In.a | apply In.b)) (by decide +kernel) _ (by simp only [List.getElem?_toArray, List.getElem?_cons_succ, List.getElem?_cons_zero]; first | done | exact rfl) ?_) | (refine wpList_laS (by rfl) _ _ rfl _ _ rfl hm _ _ (by repeat (first | apply In.a | apply In.b)) (by kernel_rfl) _ (by rfl) (by kernel_rfl) (by simp) _ (by simp only [List.toList_toArray, List.drop_succ_cons, List.drop_zero, List.size_toArray, List.length_cons, List.length_nil, Nat.reduceAdd, List.take_succ_cons, List.take_zero]; first | done | exact rfl) ?_)) | ((with_reducible show wpList _ _ _ (Oper.mk _ (Op.store _ _ _) _ _ _ _ :: _) _ _); (refine wpList_stS (by rfl) _ _ _ rfl _ _ rfl _ (by simp only [Act.eval, Array.getD_eq_getD_getElem?, List.getElem?_toArray, List.getElem?_cons_succ, List.getElem?_cons_zero, Option.getD_some]; first | done | exact rfl) hm _ (by simp only [Value.cells]; first | done | exact rfl) _ _ _ _ (by repeat (first | apply Put.a | apply Put.b)) (by kernel_rfl) (by simp [Value.oneCell']) (by simp) (by simp only [List.set_cons_zero, List.set_cons_succ, spl, List.toList_toArray, List.size_toArray, List.length_cons, List.length_nil, Nat.reduceAdd, Nat.zero_add, List.take_succ_cons, List.take_zero, List.drop_succ_cons, List.drop_zero, List.drop_nil, List.cons_append, List.nil_append, List.append_nil]; first | done | exact rfl) ?_; clear hm; intro w hz hm ho)) | ((with_reducible show wpList _ _ _ (Oper.mk _ (Op.alloc _) _ _ _ _ :: _) _ _); (refine wpList_al (by rfl) _ rfl _ rfl _ (by simp only [Value.cells]; first | done | exact rfl) hm ?_; clear hm; intro n w hn hz hm ho; (try simp only [List.cons_append, List.nil_append] at hm)))); try simp only [Act.put, List.setIfInBounds_toArray, List.set_cons_zero, List.set_cons_succ]) | (go_at_call 59; refine (card_ready g gm _ _ ⟨h0, h1, h2, h3, pn⟩ ⟨x0, x1, x2, x3, ⟨xa, xn, xc, xb⟩, x5, x6⟩ inc _ sw A3 (d.length + 1) c3 (d ++ [b]) 256 _ (by exact hm.at_ 0 rfl)).mono ?_; rintro e w2 ⟨rfl, hb2, ho2⟩; replace hm := hm.put 0 rfl ho2 hb2; clear hb2))
    go_ret
    obtain ⟨f0, f1, f2, f3, f5, f6, f7⟩ := HF.out
    have hH := HH.out
    have hK := hH.kept_ hm.only
    have hgr := hm.grow_ (k := 0) (j := 0) rfl rfl rfl hH.fa
    have hsl := hm.slL _ (List.mem_of_getElem? (i := 0) rfl) _ (List.mem_of_getElem? (i := 0) rfl)
    have hown := hm.sl_ 0 rfl
    have hc3 : 0 < c3 := by have := hown.le; simp only at this; omega
    have hat : ∀ a, A3 = some a → ownAt A3 c3 = some a.block := fun a ha => by unfold ownAt; rw [if_neg (by omega), ha]; rfl
    refine PhRes.nil (F' := grow w0 w2 F) ⟨gm, m, none, 0, ⟨h0, h1, h2, h3, pn⟩, ⟨h0, h1, h2, h3, ⟨A3, d.length + 1, c3, d ++ [b]⟩, 256, false⟩, inc, Ad, cd,
      { ok := hok2, blk := hm.at_ 0 rfl, fg := hK.fg, fm := hK.fm, mp := hK.mp, got := Own.none_ _ _ _ _ _, fa := fun q e => (by cases e), kept := hK.kept, row := fun q hq => ⟨fun e => (by cases e), (hH.row q hq).2⟩
        fine := ⟨fun _ => ⟨f0, f1, f2, f3, rfl, f7.symm, rfl, ⟨(hown.byt (Nat.le_refl _)), fun a ha => hgr _ (hat a ha)⟩, f5.trans f6.symm⟩, fun e => (by cases e)⟩
        frow := fun _ a ha hn => ⟨fun e => hsl (by rw [hat a ha, e]), fun e => (by cases e)⟩, lt := hK.lt, gm_ne := hK.gm_ne }⟩ hK.only hK.hF
  · have e : Tz.step l ⟨1, p :: d, cmd, kp, sw⟩ b = (⟨1, p :: (d ++ [b]), cmd, kp, sw⟩, []) := by
      unfold Tz.step; rw [if_neg (by simp), if_neg (by simp), if_neg (by simpa using e1)]; rfl
    rw [e] at hok2 ⊢
    have i1 : ((d.length : Int) + 1 == (p.toNat : Int)) = false := by rw [beq_eq_false_iff_ne]; omega
    have HH := Lib.hid H
    have HF := Lib.hid (And.intro f0 (And.intro f1 (And.intro f2 (And.intro f3 (And.intro f5 (And.intro f6 f7))))))
    have HP : Hid ((p.toNat : Int) = (p.toNat : Int)) := rfl
    clear e e1 hdt H f0 f1 f2 f3 f4 f5 f6 f7 HP
    generalize hpn : p.toNat = pn at *
    have HP := Lib.hid hpn
    clear hpn
    go_enter Try.func58, Try.ntmps58
    go_wp2_with (first | go_skip | ((with_reducible show wpList _ _ _ _ _ (World.alloc _ _)); refine wpList_up hm ?_; clear hm; intro n w hn hn2 hk hm hd hd2 ho; (try rw [← hn]); replace hn := Nat.le_of_eq hn.symm) | ((first | ((with_reducible show wpList _ _ _ (Oper.mk _ (Op.box _ _) _ _ _ _ :: _) _ _); (refine wpList_bx (by rfl) _ _ rfl _ (by simp only [Act.eval, Array.getD_eq_getD_getElem?, List.getElem?_toArray, List.getElem?_cons_succ, List.getElem?_cons_zero, Option.getD_some]; first | done | exact rfl) _ (by simp only [Value.cells]; first | done | exact rfl) hm ?_; clear hm; intro n w hn hz hm ho; (try simp only [List.cons_append, List.nil_append] at hm))) | ((with_reducible show wpList _ _ _ (Oper.mk _ (Op.load _ _) _ _ _ _ :: _) _ _); first | (refine wpList_ldS (by rfl) _ _ rfl _ _ rfl hm _ _ (by repeat (first | apply In.a | apply In.b)) (by decide +kernel) _ (by simp only [List.getElem?_toArray, List.getElem?_cons_succ, List.getElem?_cons_zero]; first | done | exact rfl) ?_) | (refine wpList_laS (by rfl) _ _ rfl _ _ rfl hm _ _ (by repeat (first | apply In.a | apply In.b)) (by kernel_rfl) _ (by rfl) (by kernel_rfl) (by simp) _ (by simp only [List.toList_toArray, List.drop_succ_cons, List.drop_zero, List.size_toArray, List.length_cons, List.length_nil, Nat.reduceAdd, List.take_succ_cons, List.take_zero]; first | done | exact rfl) ?_)) | ((with_reducible show wpList _ _ _ (Oper.mk _ (Op.store _ _ _) _ _ _ _ :: _) _ _); (refine wpList_stS (by rfl) _ _ _ rfl _ _ rfl _ (by simp only [Act.eval, Array.getD_eq_getD_getElem?, List.getElem?_toArray, List.getElem?_cons_succ, List.getElem?_cons_zero, Option.getD_some]; first | done | exact rfl) hm _ (by simp only [Value.cells]; first | done | exact rfl) _ _ _ _ (by repeat (first | apply Put.a | apply Put.b)) (by kernel_rfl) (by simp [Value.oneCell']) (by simp) (by simp only [List.set_cons_zero, List.set_cons_succ, spl, List.toList_toArray, List.size_toArray, List.length_cons, List.length_nil, Nat.reduceAdd, Nat.zero_add, List.take_succ_cons, List.take_zero, List.drop_succ_cons, List.drop_zero, List.drop_nil, List.cons_append, List.nil_append, List.append_nil]; first | done | exact rfl) ?_; clear hm; intro w hz hm ho)) | ((with_reducible show wpList _ _ _ (Oper.mk _ (Op.alloc _) _ _ _ _ :: _) _ _); (refine wpList_al (by rfl) _ rfl _ rfl _ (by simp only [Value.cells]; first | done | exact rfl) hm ?_; clear hm; intro n w hn hz hm ho; (try simp only [List.cons_append, List.nil_append] at hm)))); try simp only [Act.put, List.setIfInBounds_toArray, List.set_cons_zero, List.set_cons_succ]) | ((with_reducible show wpList _ _ _ (Oper.mk _ (Op.call { callee := Callee.builtin Builtin.append, args := #[Operand.tmp 10, Operand.tmp 12], argTypes := _ }) _ _ _ _ :: _) _ _); refine wpList_ap8 (by rfl) (.tmp 10) (.tmp 12) rfl _ _ _ _ rfl hm 0 rfl _ _ 1 _ [b] rfl hk.row rfl (by omega) ?_; clear hm; intro A3 c3 w hm ho _; try simp only [Act.put, List.setIfInBounds_toArray, List.set_cons_zero, List.set_cons_succ]))
    refine wp_region_quiet_lit (by kernel_rfl) (by kernel_rfl) ?_
    repeat (first | go_big_quiet_skip | ((with_reducible show wpQuiet _ _ _ _ (Oper.mk _ (Op.load _ _) _ _ _ _ :: _) _); first | (refine wpQuiet_ldS (by rfl) _ _ rfl _ _ rfl hm _ _ (by repeat (first | apply In.a | apply In.b)) (by decide +kernel) _ (by simp only [List.getElem?_toArray, List.getElem?_cons_succ, List.getElem?_cons_zero]; first | done | exact rfl) ?_; (try simp only [Act.put, List.setIfInBounds_toArray, List.set_cons_zero, List.set_cons_succ]))) | go_big_quiet_step (fail))
    refine wpQuiet_nil ?_
    rintro _ ⟨nq, rfl⟩
    replace hm := hm.drewN nq
    go_wp2_with (first | go_skip | ((with_reducible show wpList _ _ _ _ _ (World.alloc _ _)); refine wpList_up hm ?_; clear hm; intro n w hn hn2 hk hm hd hd2 ho; (try rw [← hn]); replace hn := Nat.le_of_eq hn.symm) | ((first | ((with_reducible show wpList _ _ _ (Oper.mk _ (Op.box _ _) _ _ _ _ :: _) _ _); (refine wpList_bx (by rfl) _ _ rfl _ (by simp only [Act.eval, Array.getD_eq_getD_getElem?, List.getElem?_toArray, List.getElem?_cons_succ, List.getElem?_cons_zero, Option.getD_some]; first | done | exact rfl) _ (by simp only [Value.cells]; first | done | exact rfl) hm ?_; clear hm; intro n w hn hz hm ho; (try simp only [List.cons_append, List.nil_append] at hm))) | ((with_reducible show wpList _ _ _ (Oper.mk _ (Op.load _ _) _ _ _ _ :: _) _ _); first | (refine wpList_ldS (by rfl) _ _ rfl _ _ rfl hm _ _ (by repeat (first | apply In.a | apply In.b)) (by decide +kernel) _ (by simp only [List.getElem?_toArray, List.getElem?_cons_succ, List.getElem?_cons_zero]; first | done | exact rfl) ?_) | (refine wpList_laS (by rfl) _ _ rfl _ _ rfl hm _ _ (by repeat (first | apply In.a | apply In.b)) (by kernel_rfl) _ (by rfl) (by kernel_rfl) (by simp) _ (by simp only [List.toList_toArray, List.drop_succ_cons, List.drop_zero, List.size_toArray, List.length_cons, List.length_nil, Nat.reduceAdd, List.take_succ_cons, List.take_zero]; first | done | exact rfl) ?_)) | ((with_reducible show wpList _ _ _ (Oper.mk _ (Op.store _ _ _) _ _ _ _ :: _) _ _); (refine wpList_stS (by rfl) _ _ _ rfl _ _ rfl _ (by simp only [Act.eval, Array.getD_eq_getD_getElem?, List.getElem?_toArray, List.getElem?_cons_succ, List.getElem?_cons_zero, Option.getD_some]; first | done | exact rfl) hm _ (by simp only [Value.cells]; first | done | exact rfl) _ _ _ _ (by repeat (first | apply Put.a | apply Put.b)) (by kernel_rfl) (by simp [Value.oneCell']) (by simp) (by simp only [List.set_cons_zero, List.set_cons_succ, spl, List.toList_toArray, List.size_toArray, List.length_cons, List.length_nil, Nat.reduceAdd, Nat.zero_add, List.take_succ_cons, List.take_zero, List.drop_succ_cons, List.drop_zero, List.drop_nil, List.cons_append, List.nil_append, List.append_nil]; first | done | exact rfl) ?_; clear hm; intro w hz hm ho)) | ((with_reducible show wpList _ _ _ (Oper.mk _ (Op.alloc _) _ _ _ _ :: _) _ _); (refine wpList_al (by rfl) _ rfl _ rfl _ (by simp only [Value.cells]; first | done | exact rfl) hm ?_; clear hm; intro n w hn hz hm ho; (try simp only [List.cons_append, List.nil_append] at hm)))); try simp only [Act.put, List.setIfInBounds_toArray, List.set_cons_zero, List.set_cons_succ]))
    go_ret
    obtain ⟨f0, f1, f2, f3, f5, f6, f7⟩ := HF.out
    have hH := HH.out
    have hK := hH.kept_ hm.only
    have hgr := hm.grow_ (k := 0) (j := 0) rfl rfl rfl hH.fa
    have hsl := hm.slL _ (List.mem_of_getElem? (i := 0) rfl) _ (List.mem_of_getElem? (i := 0) rfl)
    have hown := hm.sl_ 0 rfl
    have hwh := hm.where_ (k := 0) (j := 0) rfl rfl rfl
    have hgl := hH.blk.lt
    have hsl2 : ∀ q, (∃ a, Ad = some a ∧ 0 < kp.length ∧ a.block = q) → ownAt A3 c3 ≠ some q := fun q hq e => by
      rcases hwh q e with h | h
      · exact (hH.row q hq).1 h
      · obtain ⟨a, ha, hl, rfl⟩ := hq
        have := hH.lt _ (hH.kept.2 a ha)
        omega
    refine PhRes.nil (F' := grow w0 _ F) ⟨gm, m, A3, c3, ⟨h0, h1, h2, h3, pn⟩, ⟨x0, x1, x2, x3, ⟨xa, xn, xc, xb⟩, x5, x6⟩, inc, Ad, cd,
      { ok := hok2, blk := (by have := hm.at_ 0 rfl; simpa [Tz.S.gotc, ccard, phV, SV.val] using this), fg := hK.fg, fm := hK.fm, mp := hK.mp
        got := (by have := hown.base (b' := g + 1) (fun q e => by
                      rcases hwh q e with h | h
                      · exact (hH.got.lt q h).1
                      · omega); simpa [Tz.S.gotc] using this)
        fa := hgr, kept := hK.kept, row := fun q hq => ⟨hsl2 q hq, (hH.row q hq).2⟩
        fine := ⟨fun e => (by cases e), fun _ => ⟨f0, f1, f2, f3, (by have := HP.out; simp [this]), f5, f6, f7⟩⟩
        frow := fun e => (by cases e), lt := hK.lt, gm_ne := hK.gm_ne }⟩ hK.only hK.hF
end Go.Proofs.Ytpacdjkikbdkeaa
