/-
  The walk of the card's Receive.
-/
import Derived.Test.YtpacdjkikbdkeaaTzF
namespace Go.Proofs.Ytpacdjkikbdkeaa
set_option maxRecDepth 100000
set_option linter.unusedSimpArgs false
set_option linter.unusedVariables false
open Go.RowKit Go.Maps
set_option maxHeartbeats 8000000

theorem Mem.appender {w : World} {t : TypeId} {k : Nat} {b : Nat} {A : Option Addr} {n c : Nat} {cs : List Value} (h : Own w b t k A n c cs) : Mem (fun q => ownAt A c = some q) w w [] [⟨t, k, A, n, c, cs⟩] :=
  (Mem.nil (fun q => ownAt A c = some q) w).more (x := ⟨t, k, A, n, c, cs⟩) (O := []) (h.mono (Nat.zero_le _)) (fun q e => .inl e) (fun e he => by cases he) (fun y hy => by cases hy)
theorem card_header (w0 : World) (g : Nat) (F : Nat → Prop) (l : List Int) (s : Tz.S) (H : CardAt' w0 g F l s) (h0 : s.ph = 0) (b : UInt8) :
    Calls Try.prog 37 #[.pointer (some ⟨g, 0, none⟩), B8 b] w0 (PhRes w0 g F l (Tz.step l s b).1 (Tz.step l s b).2) := by
  obtain ⟨ph, got, cmd, kp, sw⟩ := s
  obtain rfl : ph = 0 := h0
  have hok : got.length < 5 := H.choose_spec.choose_spec.choose_spec.choose_spec.choose_spec.choose_spec.choose_spec.choose_spec.choose_spec.ok.hd rfl
  by_cases h4 : got.length < 4
  · have e : Tz.step l ⟨0, got, cmd, kp, sw⟩ b = (⟨0, got ++ [b], cmd, kp, sw⟩, []) := by
      unfold Tz.step
      rw [if_neg (by simp), if_pos rfl]
      rcases got with _ | ⟨a0, _ | ⟨a1, _ | ⟨a2, _ | ⟨a3, r⟩⟩⟩⟩
      · rfl
      · rfl
      · rfl
      · rfl
      · exact absurd h4 (by show ¬ r.length + 4 < 4; omega)
    rw [e]
    exact card_header_short w0 g F l got cmd kp sw H h4 b
  · obtain ⟨a0, a1, a2, a3, rfl⟩ : ∃ a0 a1 a2 a3, got = [a0, a1, a2, a3] := by
      rcases got with _ | ⟨a0, _ | ⟨a1, _ | ⟨a2, _ | ⟨a3, _ | ⟨a4, r⟩⟩⟩⟩⟩
      · exact absurd (by decide) h4
      · exact absurd (by show 1 < 4; omega) h4
      · exact absurd (by show 2 < 4; omega) h4
      · exact absurd (by show 3 < 4; omega) h4
      · exact ⟨a0, a1, a2, a3, rfl⟩
      · exact absurd hok (by show ¬ r.length + 5 < 5; omega)
    have e : Tz.step l ⟨0, [a0, a1, a2, a3], cmd, kp, sw⟩ b = Tz.head l ⟨0, [a0, a1, a2, a3], cmd, kp, sw⟩ a0.toNat a1.toNat a2.toNat a3.toNat b.toNat := by
      unfold Tz.step
      rw [if_neg (by simp), if_pos rfl]
    rw [e]
    exact card_header_whole w0 g F l a0 a1 a2 a3 cmd kp sw H b
theorem CardAt'.ok {w : World} {g : Nat} {F : Nat → Prop} {l : List Int} {s : Tz.S} (H : CardAt' w g F l s) : Tz.Ok s := H.choose_spec.choose_spec.choose_spec.choose_spec.choose_spec.choose_spec.choose_spec.choose_spec.choose_spec.ok
theorem CardAt'.away {w w' : World} {g : Nat} {F R : Nat → Prop} {l : List Int} {s : Tz.S} (H : CardAt' w g F l s) (ho : Only R w w') (hd : ∀ q, F q → ¬ R q) : CardAt' w' g F l s := by
  obtain ⟨gm, m, A, c, h, x, inc, Ad, cd, H⟩ := H
  exact ⟨gm, m, A, c, h, x, inc, Ad, cd, H.away ho hd⟩
theorem CardAt'.lt {w : World} {g : Nat} {F : Nat → Prop} {l : List Int} {s : Tz.S} (H : CardAt' w g F l s) (q : Nat) (hq : F q) : q < w.heap.size := H.choose_spec.choose_spec.choose_spec.choose_spec.choose_spec.choose_spec.choose_spec.choose_spec.choose_spec.lt q hq
theorem Tz.recv_stop (l : List Int) (s : Tz.S) (bs : List UInt8) (k : Nat) (h : (Tz.recv l s (bs.take k)).1.ph = 2) : Tz.recv l s bs = Tz.recv l s (bs.take k) := by
  have h1 := Tz.recv_append l s (bs.take k) (bs.drop k)
  rw [List.take_append_drop, Tz.recv_wait l _ h] at h1
  rw [h1]; simp
theorem CardAt'.fields {w : World} {g : Nat} {F : Nat → Prop} {l : List Int} {s : Tz.S} (H : CardAt' w g F l s) : ∃ gm cs, Blk w g 78 cs ∧ F g ∧ cs[0]? = some (.map (some gm)) ∧ cs[1]? = some (phV g s.ph) := by
  obtain ⟨gm, m, A, c, h, x, inc, Ad, cd, H⟩ := H
  exact ⟨gm, _, H.blk, H.fg, rfl, rfl⟩

/-- What a call of the card leaves: bytes of the caller's own. -/
def PhRes' (w : World) (g : Nat) (F : Nat → Prop) (l : List Int) (s' : Tz.S) (bs : List UInt8) (e : Ending) (w' : World) : Prop :=
  ∃ A c F', e = .returned (.slice A bs.length c) ∧ Own w' w.heap.size 5 1 A bs.length c (bcells bs) ∧ CardAt' w' g F' l s' ∧ Only F w w' ∧ (∀ q, F' q → F q ∨ w.heap.size ≤ q) ∧ ∀ q, F' q → ownAt A c ≠ some q
theorem PhRes'.fin {w w1 w' : World} {g : Nat} {F F' : Nat → Prop} {l : List Int} {s : Tz.S} {bs : List UInt8} {e : Ending} (H : CardAt' w1 g F' l s) (ho : Only F w w1) (hF : ∀ q, F' q → F q ∨ w.heap.size ≤ q) (h : ORes w1 bs e w') : PhRes' w g F l s bs e w' := by
  obtain ⟨A, c, he, hw, hb⟩ := h
  refine ⟨A, c, F', he, hw.mono ho.size, H.away (R := fun _ => False) (Only.of_below hb) (fun _ _ e => e), ho.trans (Only.of_below hb), hF, fun q hq e => ?_⟩
  have h1 := H.lt q hq
  have h2 := (hw.lt q e).1
  omega
theorem PhRes'.same {w w' : World} {g : Nat} {F : Nat → Prop} {l : List Int} {s : Tz.S} {bs : List UInt8} {e : Ending} (H : CardAt' w g F l s) (h : ORes w bs e w') : PhRes' w g F l s bs e w' := PhRes'.fin H (Only.refl _ _) (fun q e => .inl e) h
set_option maxRecDepth 100000 in
theorem card_Receive (w0 : World) (g : Nat) (F : Nat → Prop) (l : List Int) (s : Tz.S) (H : CardAt' w0 g F l s) (B : Option Addr) (n c : Nat) (bs : List UInt8) (hb : BytO w0 F B n c bs) (hn : n ≤ 3000000) :
    Calls Try.prog 10 #[.pointer (some ⟨g, 0, none⟩), .slice B n c] w0 (PhRes' w0 g F l (Tz.recv l s bs).1 (Tz.recv l s bs).2) := by
  have hnb := hb.1.1
  obtain ⟨gm, cs, hblk, hfg, hc0, hc1⟩ := H.fields
  have hmd : w0.cell? ⟨g, 0, none⟩ = some (.map (some gm)) := (hblk.cell 0).trans hc0
  have HB := Lib.hid hb
  have HH := Lib.hid H
  have hfn1 := fun (fn : Fn) (a b : Array Value) (w : World) => eql_func_nil (P := Try.prog) Try.underlying74 fn a b w
  have hfn2 := fun (w : World) => eql_nil_nil (P := Try.prog) Try.underlying74 w
  have hlen := Lib.hid hnb
  clear hb H hblk hc0 hc1 hnb
  go_enter Try.func10, Try.ntmps10
  go_wp2_with (first | (go_at_call 38; refine (card_made g gm _ hmd).mono ?_; rintro e w' ⟨rfl, rfl⟩))
  clear hmd
  go_loopg [5, 13] n (fun gg v i wr => ∃ (k : Nat) (A2 : Option Addr) (c2 : Nat) (Fk : Nat → Prop), k + gg = n ∧ i = .int .i64 k ∧ v = .slice A2 (Tz.recv l s (bs.take k)).2.length c2 ∧
    Own wr w0.heap.size 5 1 A2 (Tz.recv l s (bs.take k)).2.length c2 (bcells (Tz.recv l s (bs.take k)).2) ∧ CardAt' wr g Fk l (Tz.recv l s (bs.take k)).1 ∧ Only F w0 wr ∧ (∀ q, Fk q → F q ∨ w0.heap.size ≤ q) ∧ (∀ q, Fk q → ownAt A2 c2 ≠ some q))
  case atStart => exact ⟨0, none, 0, F, by omega, rfl, rfl, Own.none_ _ _ _ _ _, HH.out, Only.refl _ _, fun q e => .inl e, fun q _ e => by cases e⟩
  case round =>
    obtain ⟨k, A2, c2, Fk, hk, rfl, rfl, hown, hcard, hon, hFk, hdis⟩ := hrel
    have hok := HH.out.ok
    have hout := Tz.recv_len hok l (bs.take k)
    have htk : (bs.take k).length ≤ k := List.length_take_le _ _
    cases gk with
    | zero =>
      obtain rfl : k = n := by omega
      go_wp2_with fail
      go_ret
      have e : bs.take k = bs := List.take_of_length_le (by have := hlen.out; omega)
      rw [e] at hown hcard ⊢
      exact ⟨A2, c2, Fk, rfl, hown, hcard, hon, hFk, hdis⟩
    | succ gg =>
      have hkn : k < n := by omega
      have hbw := HB.out.1.only hon (HB.out.2)
      obtain ⟨b, o, rfl, hbb⟩ := hbw.at_ (by omega)
      have hcell := hbw.2.2.byte k (by have := hlen.out; omega)
      have htake : bs.take (k + 1) = bs.take k ++ [bs.getD k 0] := by
        have hlt : k < bs.length := by have := hlen.out; omega
        rw [List.take_succ_eq_append_getElem hlt]; simp [List.getD, List.getElem?_eq_getElem hlt]
      have HT : Hid (Tz.recv l s (bs.take (k + 1)) = ((Tz.step l (Tz.recv l s (bs.take k)).1 (bs.getD k 0)).1, (Tz.recv l s (bs.take k)).2 ++ (Tz.step l (Tz.recv l s (bs.take k)).1 (bs.getD k 0)).2)) := by show _ = _; rw [htake, Tz.recv_snoc]
      have hst := Tz.step_len hcard.ok l (bs.getD k 0)
      clear htake
      generalize bs.getD k 0 = x at *
      obtain ⟨gm1, cs1, hblk, hfg1, hc10, hc11⟩ := hcard.fields
      have hph := hcard.ok.ph
      by_cases e2 : (Tz.recv l s (bs.take k)).1.ph = 2
      · have hfin := Tz.recv_stop l s bs k e2
        have hc1w : wr.cell? ⟨g, 1, none⟩ = some .nilFunc := ((hblk.cell 1).trans hc11).trans (by rw [e2]; rfl)
        clear hblk hc11 e2
        go_wp2_with fail
        go_ret
        rw [hfin]
        exact ⟨A2, c2, Fk, rfl, hown, hcard, hon, hFk, hdis⟩
      · rcases (show (Tz.recv l s (bs.take k)).1.ph = 0 ∨ (Tz.recv l s (bs.take k)).1.ph = 1 by omega) with e0 | e1
        · have hc1w : wr.cell? ⟨g, 1, none⟩ = some (.func (.func 37) #[.pointer (some ⟨g, 0, none⟩)] #[]) := ((hblk.cell 1).trans hc11).trans (by rw [e0]; rfl)
          have E0 := Lib.hid e0
          clear hblk hc11 e2 e0
          go_wp2_with (first | (go_at_call 37; refine (card_header wr g Fk l _ hcard E0.out x).mono ?_; rintro e w3 ⟨A3, c3, F3, rfl, hp1, hp2, hp3, hp4⟩; have hownw := hown.only' hp3 (fun q e e2 => hdis q e2 e); have hm3 := Mem.appender hownw) | ((with_reducible show wpList _ _ _ (Oper.mk _ (Op.call { callee := Callee.builtin Builtin.append, args := #[Operand.tmp 22, Operand.tmp 28], argTypes := _ }) _ _ _ _ :: _) _ _); refine wpList_ap8 (by rfl) (.tmp 22) (.tmp 28) rfl _ _ _ _ rfl hm3 0 rfl _ _ _ _ (Tz.step l (Tz.recv l s (bs.take k)).1 x).2 rfl hp1.row rfl (by omega) ?_; intro A4 c4 w4 hm4 ho4 hd4; (try simp only [Act.put, List.setIfInBounds_toArray, List.set_cons_zero, List.set_cons_succ])))
          go_roundg gg
          case rel =>
            have hsz3 := hp3.size
            have hno : ∀ q, F3 q → ownAt A2 c2 ≠ some q := fun q hq e => by
              rcases hp4 q hq with h | h
              · exact hdis q h e
              · have := (hown.lt q e).2; omega
            refine ⟨k + 1, A4, c4, F3, by omega, by go_num, ?_, ?_, ?_, ?_, ?_, ?_⟩
            · rw [HT.out]; simp only [List.length_append]
            · rw [HT.out]
              have := (hm4.sl_ 0 rfl).base (b' := w0.heap.size) (fun q e => by
                rcases hd4 with h | ⟨q', h, h5⟩
                · exact (hownw.lt q (h ▸ e)).1
                · have e : ownAt A4 c4 = some q := e
                  rw [h] at e; injection e with e; have := hon.size; omega)
              simpa only [List.length_append] using this
            · rw [HT.out]; exact hp2.away ho4 (fun q hq e => hno q hq e)
            · exact (hon.more hp3 (fun q _ e => hFk q e)).more ho4 (fun q _ e => .inr (hownw.lt q e).1)
            · exact fun q hq => (hp4 q hq).elim (hFk q) (fun h => .inr (Nat.le_trans hon.size h))
            · intro q hq e
              rcases hd4 with h | ⟨q', h, h5⟩
              · exact hno q hq (h ▸ e)
              · rw [h] at e; injection e with e; have := hp2.lt q hq; omega
          case measure => omega
        · have hc1w : wr.cell? ⟨g, 1, none⟩ = some (.func (.func 58) #[.pointer (some ⟨g, 0, none⟩)] #[]) := ((hblk.cell 1).trans hc11).trans (by rw [e1]; rfl)
          have E0 := Lib.hid e1
          clear hblk hc11 e2 e1
          go_wp2_with (first | (go_at_call 58; refine (card_collect wr g Fk l _ hcard E0.out x).mono ?_; rintro e w3 ⟨A3, c3, F3, rfl, hp1, hp2, hp3, hp4⟩; have hownw := hown.only' hp3 (fun q e e2 => hdis q e2 e); have hm3 := Mem.appender hownw) | ((with_reducible show wpList _ _ _ (Oper.mk _ (Op.call { callee := Callee.builtin Builtin.append, args := #[Operand.tmp 22, Operand.tmp 28], argTypes := _ }) _ _ _ _ :: _) _ _); refine wpList_ap8 (by rfl) (.tmp 22) (.tmp 28) rfl _ _ _ _ rfl hm3 0 rfl _ _ _ _ (Tz.step l (Tz.recv l s (bs.take k)).1 x).2 rfl hp1.row rfl (by omega) ?_; intro A4 c4 w4 hm4 ho4 hd4; (try simp only [Act.put, List.setIfInBounds_toArray, List.set_cons_zero, List.set_cons_succ])))
          go_roundg gg
          case rel =>
            have hsz3 := hp3.size
            have hno : ∀ q, F3 q → ownAt A2 c2 ≠ some q := fun q hq e => by
              rcases hp4 q hq with h | h
              · exact hdis q h e
              · have := (hown.lt q e).2; omega
            refine ⟨k + 1, A4, c4, F3, by omega, by go_num, ?_, ?_, ?_, ?_, ?_, ?_⟩
            · rw [HT.out]; simp only [List.length_append]
            · rw [HT.out]
              have := (hm4.sl_ 0 rfl).base (b' := w0.heap.size) (fun q e => by
                rcases hd4 with h | ⟨q', h, h5⟩
                · exact (hownw.lt q (h ▸ e)).1
                · have e : ownAt A4 c4 = some q := e
                  rw [h] at e; injection e with e; have := hon.size; omega)
              simpa only [List.length_append] using this
            · rw [HT.out]; exact hp2.away ho4 (fun q hq e => hno q hq e)
            · exact (hon.more hp3 (fun q _ e => hFk q e)).more ho4 (fun q _ e => .inr (hownw.lt q e).1)
            · exact fun q hq => (hp4 q hq).elim (hFk q) (fun h => .inr (Nat.le_trans hon.size h))
            · intro q hq e
              rcases hd4 with h | ⟨q', h, h5⟩
              · exact hno q hq (h ▸ e)
              · rw [h] at e; injection e with e; have := hp2.lt q hq; omega
          case measure => omega
end Go.Proofs.Ytpacdjkikbdkeaa
