/-
  The walks of the card's phases: a header.
-/
import Derived.Test.YtpacdjkikbdkeaaZ0
import Derived.Test.YtpacdjkikbdkeaaTzD
import Derived.Test.YtpacdjkikbdkeaaZ1
namespace Go.Proofs.Ytpacdjkikbdkeaa
set_option maxRecDepth 100000
set_option linter.unusedSimpArgs false
set_option linter.unusedVariables false
open Go.RowKit Go.Maps
set_option maxHeartbeats 8000000

theorem InAt.drewN {w : World} {gm n : Nat} {D : DataW Unit} (h : InAt w gm n D) (k : Nat) : InAt (w.drewN k) gm n D := h.only (R := fun _ => False) ((Only.refl _ w).drewN k) (fun e => e)
theorem PhRes.trans {w0 w w' : World} {g : Nat} {F : Nat → Prop} {l : List Int} {s : Tz.S} {bs : List UInt8} {e : Ending} (ho : Only F w0 w) (h : PhRes w g (grow w0 w F) l s bs e w') : PhRes w0 g F l s bs e w' := by
  obtain ⟨A, c, F', he, hw, hc, ho2, hF⟩ := h
  have hg : ∀ q, grow w0 w F q → F q ∨ w0.heap.size ≤ q := fun q hq => hq.elim .inl (fun e => .inr e.1)
  refine ⟨A, c, F', he, hw.mono ho.size, hc, ho.more ho2 (fun q _ hq => hg q hq), fun q hq => ?_⟩
  rcases hF q hq with h | h
  · exact hg q h
  · exact .inr (Nat.le_trans ho.size h)
theorem CardAt.clear {w w' : World} {g : Nat} {F : Nat → Prop} {l : List Int} {got : List UInt8} {cmd : Tz.Cmd} {kp : List UInt8} {sw : Int} {gm m : Nat} {A : Option Addr} {c : Nat} {h : Hd} {x : CV} {inc : Bool} {Ad : Option Addr} {cd : Nat}
    (H : CardAt w g F l ⟨0, got, cmd, kp, sw⟩ gm m A c h x inc Ad cd) (ho : Only (fun q => q = g ∨ ownAt A c = some q) w w')
    (hb : Blk w' g 78 (ccard gm (phV g 0) (.slice none 0 0) h x inc (.slice Ad kp.length cd) sw)) : CardAt' w' g (grow w w' F) l ⟨0, [], cmd, kp, sw⟩ := by
  have hK := H.kept_ ho
  exact ⟨gm, m, none, 0, h, x, inc, Ad, cd, { ok := H.ok.got0 rfl, blk := hb, fg := hK.fg, fm := hK.fm, mp := hK.mp, got := Own.none_ _ _ _ _ _, fa := fun q e => (by cases e), kept := hK.kept, row := fun q hq => ⟨fun e => (by cases e), (H.row q hq).2⟩, fine := ⟨fun e => (by cases e), fun e => (by cases e)⟩, frow := fun e => (by cases e), lt := hK.lt, gm_ne := hK.gm_ne }⟩
theorem CardAt.newhead {w w' : World} {g : Nat} {F : Nat → Prop} {l : List Int} {s s' : Tz.S} {gm m : Nat} {A : Option Addr} {c : Nat} {h h' : Hd} {x x' : CV} {inc inc' : Bool} {Ad : Option Addr} {cd : Nat}
    (H : CardAt w g F l s gm m A c h x inc Ad cd) (ho : Only (fun q => q = g ∨ ownAt A c = some q) w w')
    (hb : Blk w' g 78 (ccard gm (phV g s'.ph) (.slice none 0 0) h' x' inc' (.slice none 0 0) 0)) (hok : Tz.Ok s') (hg : s'.gotc = []) (hk : s'.kept = []) (hsw : s'.sw = 0) (hx : s'.ph = 2 → x'.d.n = 0)
    (hf : Fine w' (grow w w' F) l s' h' x' inc') : CardAt' w' g (grow w w' F) l s' := by
  have hK := H.kept_ ho
  exact ⟨gm, m, none, 0, h', x', inc', none, 0, { ok := hok, blk := by rw [hg, hk, hsw]; exact hb, fg := hK.fg, fm := hK.fm, mp := hK.mp, got := by rw [hg]; exact Own.none_ _ _ _ _ _, fa := fun q e => (by cases e), kept := by rw [hk]; exact ⟨⟨rfl, Nat.le_refl _, Row.nil _ _ _⟩, fun a ha => (by cases ha)⟩, row := fun q ⟨a, ha, _⟩ => (by cases ha), fine := hf, frow := fun e a _ hn => (by have := hx e; omega), lt := hK.lt, gm_ne := hK.gm_ne }⟩

set_option maxRecDepth 100000 in
theorem card_header_short (w0 : World) (g : Nat) (F : Nat → Prop) (l : List Int) (got : List UInt8) (cmd : Tz.Cmd) (kp : List UInt8) (sw : Int) (H : CardAt' w0 g F l ⟨0, got, cmd, kp, sw⟩) (hg : got.length < 4) (b : UInt8) :
    Calls Try.prog 37 #[.pointer (some ⟨g, 0, none⟩), B8 b] w0 (PhRes w0 g F l ⟨0, got ++ [b], cmd, kp, sw⟩ []) := by
  obtain ⟨gm, m, A, c, h, x, inc, Ad, cd, H⟩ := H
  have hm := H.mem
  have hok2 : Tz.Ok ⟨0, got ++ [b], cmd, kp, sw⟩ := { H.ok with hd := fun _ => by show (got ++ [b]).length < 5; simp; omega, dt := fun e => (by cases e), wt := fun e => (by cases e), cd := H.ok.cd }
  obtain ⟨h0, h1, h2, h3, h4⟩ := h
  obtain ⟨x0, x1, x2, x3, ⟨xa, xn, xc, xb⟩, x5, x6⟩ := x
  simp only [ccard, phV, Tz.S.gotc, SV.val, if_pos] at hm
  rw [if_neg (by decide : ¬ 0 = 1)] at hm
  have HH := Lib.hid H
  clear H
  have i1 : got.length + 1 < 5 := by omega
  go_enter Try.func37, Try.ntmps37
  go_wp2_with (first | go_skip | ((with_reducible show wpList _ _ _ _ _ (World.alloc _ _)); refine wpList_up hm ?_; clear hm; intro n w hn hn2 hk hm hd hd2 ho; (try rw [← hn]); replace hn := Nat.le_of_eq hn.symm) | ((first | ((with_reducible show wpList _ _ _ (Oper.mk _ (Op.box _ _) _ _ _ _ :: _) _ _); (refine wpList_bx (by rfl) _ _ rfl _ (by simp only [Act.eval, Array.getD_eq_getD_getElem?, List.getElem?_toArray, List.getElem?_cons_succ, List.getElem?_cons_zero, Option.getD_some]; first | done | exact rfl) _ (by simp only [Value.cells]; first | done | exact rfl) hm ?_; clear hm; intro n w hn hz hm ho; (try simp only [List.cons_append, List.nil_append] at hm))) | ((with_reducible show wpList _ _ _ (Oper.mk _ (Op.load _ _) _ _ _ _ :: _) _ _); first | (refine wpList_ldS (by rfl) _ _ rfl _ _ rfl hm _ _ (by repeat (first | apply In.a | apply In.b)) (by decide +kernel) _ (by simp only [List.getElem?_toArray, List.getElem?_cons_succ, List.getElem?_cons_zero]; first | done | exact rfl) ?_) | (refine wpList_laS (by rfl) _ _ rfl _ _ rfl hm _ _ (by repeat (first | apply In.a | apply In.b)) (by kernel_rfl) _ (by rfl) (by kernel_rfl) (by simp) _ (by simp only [List.toList_toArray, List.drop_succ_cons, List.drop_zero, List.size_toArray, List.length_cons, List.length_nil, Nat.reduceAdd, List.take_succ_cons, List.take_zero]; first | done | exact rfl) ?_)) | ((with_reducible show wpList _ _ _ (Oper.mk _ (Op.store _ _ _) _ _ _ _ :: _) _ _); (refine wpList_stS (by rfl) _ _ _ rfl _ _ rfl _ (by simp only [Act.eval, Array.getD_eq_getD_getElem?, List.getElem?_toArray, List.getElem?_cons_succ, List.getElem?_cons_zero, Option.getD_some]; first | done | exact rfl) hm _ (by simp only [Value.cells]; first | done | exact rfl) _ _ _ _ (by repeat (first | apply Put.a | apply Put.b)) (by kernel_rfl) (by simp [Value.oneCell']) (by simp) (by simp only [List.set_cons_zero, List.set_cons_succ, spl, List.toList_toArray, List.size_toArray, List.length_cons, List.length_nil, Nat.reduceAdd, Nat.zero_add, List.take_succ_cons, List.take_zero, List.drop_succ_cons, List.drop_zero, List.drop_nil, List.cons_append, List.nil_append, List.append_nil]; first | done | exact rfl) ?_; clear hm; intro w hz hm ho)) | ((with_reducible show wpList _ _ _ (Oper.mk _ (Op.alloc _) _ _ _ _ :: _) _ _); (refine wpList_al (by rfl) _ rfl _ rfl _ (by simp only [Value.cells]; first | done | exact rfl) hm ?_; clear hm; intro n w hn hz hm ho; (try simp only [List.cons_append, List.nil_append] at hm)))); try simp only [Act.put, List.setIfInBounds_toArray, List.set_cons_zero, List.set_cons_succ]) | ((with_reducible show wpList _ _ _ (Oper.mk _ (Op.call { callee := Callee.builtin Builtin.append, args := #[Operand.tmp 12, Operand.tmp 14], argTypes := _ }) _ _ _ _ :: _) _ _); refine wpList_ap8 (by rfl) (.tmp 12) (.tmp 14) rfl _ _ _ _ rfl hm 0 rfl _ _ 1 _ [b] rfl hk.row rfl (by omega) ?_; clear hm; intro A3 c3 w hm ho _; try simp only [Act.put, List.setIfInBounds_toArray, List.set_cons_zero, List.set_cons_succ]))
  go_ret
  have hH := HH.out
  have hK := hH.kept_ hm.only
  have hgr := hm.grow_ (k := 0) (j := 0) rfl rfl rfl hH.fa
  have hown := hm.sl_ 0 rfl
  have hwh := hm.where_ (k := 0) (j := 0) rfl rfl rfl
  have hgl := hH.blk.lt
  have hsl2 : ∀ q, (∃ a, Ad = some a ∧ 0 < kp.length ∧ a.block = q) → ownAt A3 c3 ≠ some q := fun q hq e => by
    rcases hwh q e with h | h
    · exact (hH.row q hq).1 h
    · obtain ⟨a, ha, hl, rfl⟩ := hq
      have := hH.lt _ (hH.kept.2 a ha)
      omega
  refine PhRes.nil (F' := grow w0 _ F) ⟨gm, m, A3, c3, ⟨h0, h1, h2, h3, h4⟩, ⟨x0, x1, x2, x3, ⟨xa, xn, xc, xb⟩, x5, x6⟩, inc, Ad, cd,
    { ok := hok2, blk := (by have := hm.at_ 0 rfl; simpa [Tz.S.gotc, ccard, phV, SV.val] using this), fg := hK.fg, fm := hK.fm, mp := hK.mp
      got := (by have := hown.base (b' := g + 1) (fun q e => by
                    rcases hwh q e with h | h
                    · exact (hH.got.lt q h).1
                    · omega); simpa [Tz.S.gotc] using this)
      fa := hgr, kept := hK.kept, row := fun q hq => ⟨hsl2 q hq, (hH.row q hq).2⟩
      fine := ⟨fun e => (by cases e), fun e => (by cases e)⟩
      frow := fun e => (by cases e), lt := hK.lt, gm_ne := hK.gm_ne }⟩ hK.only hK.hF
end Go.Proofs.Ytpacdjkikbdkeaa
