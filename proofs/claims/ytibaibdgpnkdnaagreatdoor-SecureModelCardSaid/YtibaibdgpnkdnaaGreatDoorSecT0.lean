/-
  The walk of accept.
-/
import Derived.Test.YtibaibdgpnkdnaaGreatDoorSecR
import Derived.Test.YtibaibdgpnkdnaaGreatDoorZ1
namespace Go.Proofs.YtibaibdgpnkdnaaGreatDoor
set_option maxRecDepth 100000
set_option linter.unusedSimpArgs false
set_option linter.unusedVariables false
open Go.RowKit
set_option maxHeartbeats 8000000

/-- What accept leaves. -/
def AcRes (w : World) (g : Nat) (F : Nat → Prop) (s : Sec.S) (a : ChS) (x : Apd.Cmd) (e : Ending) (w' : World) : Prop :=
  (Sec.unwrapE s x ≠ 0 ∧ e = .returned (.tuple #[cmdV 0 0 0 0 none 0 0 0 false, .iface 106 (.agg #[.int .i64 (Sec.unwrapE s x)])]) ∧ Only (fun q => q = g) w w' ∧ ∃ k, ChAt w' g F { s with cnt := k } a) ∨
  (Sec.unwrapE s x = 0 ∧ ∃ A c F', e = .returned (.tuple #[cmdV (Sec.unwrap s x).2.cla (Sec.unwrap s x).2.ins (Sec.unwrap s x).2.p1 (Sec.unwrap s x).2.p2 A (Sec.unwrap s x).2.d.length c (Sec.unwrap s x).2.le (Sec.unwrap s x).2.long, .nilIface]) ∧
    Own w' w.heap.size 5 1 A (Sec.unwrap s x).2.d.length c (bcells (Sec.unwrap s x).2.d) ∧ ChAt' w' g F' (Sec.unwrap s x).1 ∧ Only (fun q => q = g) w w' ∧ (∀ q, F' q → F q ∨ w.heap.size ≤ q) ∧ ∀ q, F' q → ownAt A c ≠ some q)
theorem AcRes.bad {w w' : World} {g : Nat} {F : Nat → Prop} {s : Sec.S} {a : ChS} {x : Apd.Cmd} {k : Int} (H : ChAt w g F s a) (hk : Sec.unwrapE s x = k) (h0 : k ≠ 0) (hb : Below w.heap.size w w') : AcRes w g F s a x (.returned (.tuple #[cmdV 0 0 0 0 none 0 0 0 false, .iface 106 (.agg #[.int .i64 k])])) w' :=
  .inl ⟨by rw [hk]; exact h0, by rw [hk], Only.of_below hb, s.cnt, H.away (R := fun _ => False) (Only.of_below hb) (fun _ _ e => e)⟩
theorem AcRes.bad2 {w w' : World} {g : Nat} {F : Nat → Prop} {s : Sec.S} {a : ChS} {x : Apd.Cmd} {k : Int} {n : Nat} (hk : Sec.unwrapE s x = k) (h0 : k ≠ 0) (ho : Only (fun q => q = g) w w') (H : ChAt w' g F { s with cnt := n } a) : AcRes w g F s a x (.returned (.tuple #[cmdV 0 0 0 0 none 0 0 0 false, .iface 106 (.agg #[.int .i64 k])])) w' :=
  .inl ⟨by rw [hk]; exact h0, by rw [hk], ho, n, H⟩
theorem AcRes.no {w w' : World} {g : Nat} {F : Nat → Prop} {s : Sec.S} {a : ChS} {x : Apd.Cmd} (hw : Sec.unwrapE s x = 0) (hs : s.shut = false) (h1 : Sec.hb s.lvl 1 = false) {m c : Nat} (hm : x.d.length = m) {A : Option Addr}
    (ho : Own w' w.heap.size 5 1 A m c (bcells x.d)) (hch : ChAt' w' g F { s with cnt := s.cnt + 1, exp := true }) (hon : Only (fun q => q = g) w w') (hlt : ∀ q, F q → q < w.heap.size) :
    AcRes w g F s a x (.returned (.tuple #[cmdV x.cla x.ins x.p1 x.p2 A m c x.le x.long, .nilIface])) w' := by
  subst hm
  have e : Sec.unwrap s x = ({ s with cnt := s.cnt + 1, exp := true }, x) := by unfold Sec.unwrap; rw [if_neg (by rw [hs]; decide), if_neg (fun e => e hw), if_pos h1]
  unfold AcRes
  rw [e]
  exact .inr ⟨hw, A, c, F, rfl, ho, hch, hon, fun q hq => .inl hq, fun q hq e => by have := hlt q hq; have := (ho.lt q e).1; omega⟩
theorem AcRes.mac {w w' : World} {g : Nat} {F F' : Nat → Prop} {s : Sec.S} {a : ChS} {x : Apd.Cmd} (hw : Sec.unwrapE s x = 0) (hs : s.shut = false) (h1 : Sec.hb s.lvl 1 = true) {D M : List UInt8} (hD : Sec.unwrapD s x = D) (hM : x.d.drop (x.d.length - 8) = M) {m c : Nat} (hm : D.length = m) {A : Option Addr}
    (ho : Own w' w.heap.size 5 1 A m c (bcells D)) (hch : ChAt' w' g F' { s with cnt := s.cnt + 1, exp := true, chain := M }) (hon : Only (fun q => q = g) w w') (hF : ∀ q, F' q → F q ∨ w.heap.size ≤ q) (hd : ∀ q, F' q → ownAt A c ≠ some q) :
    AcRes w g F s a x (.returned (.tuple #[cmdV (x.cla - 4) x.ins x.p1 x.p2 A m c x.le x.long, .nilIface])) w' := by
  subst hD; subst hM; subst hm
  have e : Sec.unwrap s x = ({ s with cnt := s.cnt + 1, exp := true, chain := x.d.drop (x.d.length - 8) }, ⟨x.cla - 4, x.ins, x.p1, x.p2, Sec.unwrapD s x, x.le, x.long⟩) := by unfold Sec.unwrap; rw [if_neg (by rw [hs]; decide), if_neg (fun e => e hw), if_neg (by rw [h1]; decide)]
  unfold AcRes
  rw [e]
  exact .inr ⟨hw, A, c, F', rfl, ho, hch, hon, hF, hd⟩
/-- What is amiss, one after the other. -/
theorem uw_chk {s : Sec.S} {x : Apd.Cmd} (hs : s.shut = false) (h : Sec.chkC x ≠ 0) : Sec.unwrapE s x = Sec.chkC x := by
  unfold Sec.unwrapE; rw [if_neg (by rw [hs]; decide), if_pos h]
theorem uw_form {s : Sec.S} {x : Apd.Cmd} (hs : s.shut = false) (hc : Sec.chkC x = 0) (h : Apd.cok x.cla = false ∨ x.cla / 16 % 2 = 1 ∨ (x.cla / 4 % 2 = 1 ∧ Sec.hb s.lvl 1 = false)) : Sec.unwrapE s x = 4 := by
  unfold Sec.unwrapE; rw [if_neg (by rw [hs]; decide), if_neg (fun e => e hc), if_pos h]
theorem uw_no {s : Sec.S} {x : Apd.Cmd} (hs : s.shut = false) (hc : Sec.chkC x = 0) (hk : Apd.cok x.cla = true) (h4 : ¬ x.cla / 4 % 2 = 1) (h16 : ¬ x.cla / 16 % 2 = 1) (h1 : Sec.hb s.lvl 1 = false) : Sec.unwrapE s x = 0 := by
  unfold Sec.unwrapE; rw [if_neg (by rw [hs]; decide), if_neg (fun e => e hc), if_neg (by rintro (e | e | e); · rw [hk] at e; cases e
                                                                                          · exact h16 e
                                                                                          · exact h4 e.1), if_pos h1]
theorem uw_mac {s : Sec.S} {x : Apd.Cmd} (hs : s.shut = false) (hc : Sec.chkC x = 0) (hk : Apd.cok x.cla = true) (h16 : ¬ x.cla / 16 % 2 = 1) (h1 : Sec.hb s.lvl 1 = true) : Sec.unwrapE s x = if ¬ x.cla / 4 % 2 = 1 ∨ x.d.length < 8 then 5
  else if x.d.drop (x.d.length - 8) ≠ Sec.cmac s x.cla x.ins x.p1 x.p2 x.le (x.d.take (x.d.length - 8)) then 17
  else if Sec.hb s.lvl 2 = true ∧ Sec.show? { s with cnt := s.cnt + 1 } false (x.d.take (x.d.length - 8)) = none then 4
  else 0 := by
  unfold Sec.unwrapE; rw [if_neg (by rw [hs]; decide), if_neg (fun e => e hc), if_neg (by rintro (e | e | e); · rw [hk] at e; cases e
                                                                                          · exact h16 e
                                                                                          · rw [h1] at e; cases e.2), if_neg (by rw [h1]; decide)]

theorem byt_cut {w : World} {B k c b0 o0 : Nat} {b : List UInt8} (h : Byt w B (some ⟨b0, o0, none⟩) (k + 8) c b) : Byt w B (some ⟨b0, o0, none⟩) k c (b.take k) ∧ Byt w B (some ⟨b0, o0 + k, none⟩) 8 (c - k) (b.drop k) := by
  have hl := h.1
  have hc := h.2.1
  exact ⟨⟨by rw [List.length_take]; omega, by omega, h.2.2.btake k⟩, ⟨by rw [List.length_drop]; omega, by omega, h.2.2.bdrop k⟩⟩
theorem cby_sub {c : Int} (h : Apd.cok c = true) (h4 : c / 4 % 2 = 1) (h16 : ¬ c / 16 % 2 = 1) : Apd.cby (c % 4) false false (c / 128 == 1) = c - 4 ∧ Apd.cbe (c % 4) = 0 := by
  have hr := of_decide_eq_true h
  have hn : ¬ (c % 4 < 0 ∨ 4 ≤ c % 4) := by omega
  unfold Apd.cby Apd.cbe
  refine ⟨?_, if_neg hn⟩
  rw [if_neg hn]
  by_cases h8 : c / 128 = 1
  · rw [h8]; simp; omega
  · rw [beq_eq_false_iff_ne.2 h8]; simp; omega
theorem S_eq2 {s : Sec.S} {cnt : Nat} (hs : s.shut = false) : ({ s with cnt := cnt, exp := s.exp, shut := false } : Sec.S) = { s with cnt := cnt } := by
  obtain ⟨_, _, _, _, _, _, _, _, _⟩ := s
  simp only at hs
  subst hs
  rfl
theorem cls_sec {c : Int} (hk : Apd.cok c = true) (h4 : c / 4 % 2 = 1) (h16 : ¬ c / 16 % 2 = 1) : Apd.clsV c = infoV (c % 4) true false (c / 128 == 1) := by
  unfold Apd.clsV; rw [hk, h4, beq_eq_false_iff_ne.2 h16]; rfl

/-- .. the other way round. -/
theorem far_two2 {R : Nat → Prop} {w0 w : World} {L : List Ent} {O : List Osl} {A A' : Option Addr} {n c n' c' s s' : Nat} {t t' : TypeId} {cs cs' : List Value} (hm : Mem R w0 w L O) (i j : Nat) (hij : i < j) (hi : O[i]? = some ⟨t, s, A, n, c, cs⟩) (hj : O[j]? = some ⟨t', s', A', n', c', cs'⟩) (hn : 0 < n') {a : Addr} (ha : A' = some a) : ownAt A c ≠ some a.block := by
  obtain ⟨h1, h2⟩ := List.getElem?_eq_some_iff.1 hi
  obtain ⟨h3, h4⟩ := List.getElem?_eq_some_iff.1 hj
  have hp := List.pairwise_iff_getElem.1 hm.slO i j h1 h3 hij a.block
  rw [h2, h4] at hp
  have hle : n' ≤ c' := (hm.sl_ j hj).le
  intro e
  exact hp e (show ownAt A' c' = some a.block by unfold ownAt; rw [if_neg (by omega), ha]; rfl)
end Go.Proofs.YtibaibdgpnkdnaaGreatDoor
