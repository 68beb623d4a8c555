/-
  The terminal's Receive, Send, Response, Failed, NewTerminal.
-/
import Derived.Test.YtpacdjkikbdkeaaZ0
import Derived.Test.YtpacdjkikbdkeaaTeB
namespace Go.Proofs.Ytpacdjkikbdkeaa
set_option maxRecDepth 100000
set_option linter.unusedSimpArgs false
set_option linter.unusedVariables false
open Go.RowKit
set_option maxHeartbeats 8000000

/-- What a call of the terminal leaves: bytes of the caller's own. -/
def TRes' (w : World) (g : Nat) (F : Nat → Prop) (t' : Te.T) (bs : List UInt8) (e : Ending) (w' : World) : Prop :=
  ∃ A c F', e = .returned (.slice A bs.length c) ∧ Own w' w.heap.size 5 1 A bs.length c (bcells bs) ∧ TermAt' w' g F' t' ∧ Only F w w' ∧ (∀ q, F' q → F q ∨ w.heap.size ≤ q) ∧ ∀ q, F' q → ownAt A c ≠ some q
theorem TermAt'.fields {w : World} {g : Nat} {F : Nat → Prop} {t : Te.T} (H : TermAt' w g F t) : ∃ cs, Blk w g 81 cs ∧ F g ∧ cs[8]? = some (.bool t.act) ∧ (t.act = true → cs[9]? = some (tphV g t.ph)) := by
  obtain ⟨x, ph, h, ins, rest, left, s1, A, c, db, rA, rn, rc, rsw, H⟩ := H
  exact ⟨_, H.blk, H.fg, rfl, fun e => by rw [← (H.act e).ph]; rfl⟩
set_option maxRecDepth 100000 in
theorem tzero_NewTerminal (w0 : World) :
    Calls Try.prog 23 #[] w0 fun e w' => ∃ g F, e = .returned (.pointer (some ⟨g, 0, none⟩)) ∧ TermAt' w' g F Te.T.zero ∧ Below w0.heap.size w0 w' ∧ ∀ q, F q → w0.heap.size ≤ q := by
  have hm : Mem (fun _ => False) w0 w0 [] [] := Mem.nil _ w0
  go_enter Try.func23, Try.ntmps23
  go_wp2_with (first | go_skip | ((with_reducible show wpList _ _ _ _ _ (World.alloc _ _)); refine wpList_up hm ?_; clear hm; intro n w hn hn2 hk hm hd hd2 ho; (try rw [← hn]); replace hn := Nat.le_of_eq hn.symm) | ((first | ((with_reducible show wpList _ _ _ (Oper.mk _ (Op.box _ _) _ _ _ _ :: _) _ _); (refine wpList_bx (by rfl) _ _ rfl _ (by simp only [Act.eval, Array.getD_eq_getD_getElem?, List.getElem?_toArray, List.getElem?_cons_succ, List.getElem?_cons_zero, Option.getD_some]; first | done | exact rfl) _ (by simp only [Value.cells]; first | done | exact rfl) hm ?_; clear hm; intro n w hn hz hm ho; (try simp only [List.cons_append, List.nil_append] at hm))) | ((with_reducible show wpList _ _ _ (Oper.mk _ (Op.load _ _) _ _ _ _ :: _) _ _); first | (refine wpList_ldS (by rfl) _ _ rfl _ _ rfl hm _ _ (by repeat (first | apply In.a | apply In.b)) (by decide +kernel) _ (by simp only [List.getElem?_toArray, List.getElem?_cons_succ, List.getElem?_cons_zero]; first | done | exact rfl) ?_) | (refine wpList_laS (by rfl) _ _ rfl _ _ rfl hm _ _ (by repeat (first | apply In.a | apply In.b)) (by kernel_rfl) _ (by rfl) (by kernel_rfl) (by simp) _ (by simp only [List.toList_toArray, List.drop_succ_cons, List.drop_zero, List.size_toArray, List.length_cons, List.length_nil, Nat.reduceAdd, List.take_succ_cons, List.take_zero]; first | done | exact rfl) ?_)) | ((with_reducible show wpList _ _ _ (Oper.mk _ (Op.store _ _ _) _ _ _ _ :: _) _ _); (refine wpList_stS (by rfl) _ _ _ rfl _ _ rfl _ (by simp only [Act.eval, Array.getD_eq_getD_getElem?, List.getElem?_toArray, List.getElem?_cons_succ, List.getElem?_cons_zero, Option.getD_some]; first | done | exact rfl) hm _ (by simp only [Value.cells]; first | done | exact rfl) _ _ _ _ (by repeat (first | apply Put.a | apply Put.b)) (by kernel_rfl) (by simp [Value.oneCell']) (by simp) (by simp only [List.set_cons_zero, List.set_cons_succ, spl, List.toList_toArray, List.size_toArray, List.length_cons, List.length_nil, Nat.reduceAdd, Nat.zero_add, List.take_succ_cons, List.take_zero, List.drop_succ_cons, List.drop_zero, List.drop_nil, List.cons_append, List.nil_append, List.append_nil]; first | done | exact rfl) ?_; clear hm; intro w hz hm ho)) | ((with_reducible show wpList _ _ _ (Oper.mk _ (Op.alloc _) _ _ _ _ :: _) _ _); (refine wpList_al (by rfl) _ rfl _ rfl _ (by simp only [Value.cells]; first | done | exact rfl) hm ?_; clear hm; intro n w hn hz hm ho; (try simp only [List.cons_append, List.nil_append] at hm)))); try simp only [Act.put, List.setIfInBounds_toArray, List.set_cons_zero, List.set_cons_succ]))
  go_ret
  have hg := (hm.own _ List.mem_cons_self).resolve_left id
  exact ⟨n, fun q => q = n, rfl, ⟨⟨0, 0, 0, 0, ⟨none, 0, 0, []⟩, 0, false⟩, .nilFunc, ⟨0, 0, 0, 0, 0⟩, false, false, 0, 0, none, 0, [], none, 0, 0, 0, { ok := Te.Ok.zero, blk := hm.at_ 0 rfl, fg := rfl, dat := Own.none_ _ _ _ _ _, fa := fun q e => (by cases e), act := fun e => (by cases e), xd := fun e => (by cases e), dn := fun e => (by cases e), lt := fun q e => (by subst e; exact (hm.at_ 0 rfl).lt) }⟩, hm.only.below (Nat.le_refl _) (fun _ _ e => e), fun q e => by subst e; exact hg⟩
set_option maxRecDepth 100000 in
theorem term_Receive (w0 : World) (g : Nat) (F : Nat → Prop) (t : Te.T) (H : TermAt' w0 g F t) (B : Option Addr) (n c : Nat) (bs : List UInt8) (hb : BytO w0 F B n c bs) (hn : n ≤ 1000000) (hdl : t.data.length ≤ 50000000) :
    Calls Try.prog 24 #[.pointer (some ⟨g, 0, none⟩), .slice B n c] w0 (TRes' w0 g F (Te.recv t bs).1 (Te.recv t bs).2) := by
  have hnb := hb.1.1
  have HB := Lib.hid hb
  have HH := Lib.hid H
  have hlen := Lib.hid hnb
  have hneg : (binOp .eql 51 (.pointer (some ⟨g, 0, none⟩)) (.pointer none)).run Try.prog w0 = .ok (.bool false) w0 := rfl
  clear hb H hnb hneg
  go_enter Try.func24, Try.ntmps24
  go_wp2_with fail
  go_loopg [5, 12] n (fun gg v i wr => ∃ (k : Nat) (A2 : Option Addr) (c2 : Nat) (Fk : Nat → Prop), k + gg = n ∧ i = .int .i64 k ∧ v = .slice A2 (Te.recv t (bs.take k)).2.length c2 ∧
    Own wr w0.heap.size 5 1 A2 (Te.recv t (bs.take k)).2.length c2 (bcells (Te.recv t (bs.take k)).2) ∧ TermAt' wr g Fk (Te.recv t (bs.take k)).1 ∧ Only F w0 wr ∧ (∀ q, Fk q → F q ∨ w0.heap.size ≤ q) ∧ (∀ q, Fk q → ownAt A2 c2 ≠ some q))
  case atStart => exact ⟨0, none, 0, F, by omega, rfl, rfl, Own.none_ _ _ _ _ _, HH.out, Only.refl _ _, fun q e => .inl e, fun q _ e => by cases e⟩
  case round =>
    obtain ⟨k, A2, c2, Fk, hk, rfl, rfl, hown, hterm, hon, hFk, hdis⟩ := hrel
    have hok := HH.out.ok
    have hout := Te.recv_len hok (bs.take k)
    have hdat := Te.recv_data t (bs.take k)
    have htk : (bs.take k).length ≤ k := List.length_take_le _ _
    cases gk with
    | zero =>
      obtain rfl : k = n := by omega
      go_wp2_with fail
      go_ret
      have e : bs.take k = bs := List.take_of_length_le (by have := hlen.out; omega)
      rw [e] at hown hterm ⊢
      exact ⟨A2, c2, Fk, rfl, hown, hterm, hon, hFk, hdis⟩
    | succ gg =>
      have hkn : k < n := by omega
      have hbw := HB.out.1.only hon (HB.out.2)
      obtain ⟨b, o, rfl, hbb⟩ := hbw.at_ (by omega)
      have hcell := hbw.2.2.byte k (by have := hlen.out; omega)
      have htake : bs.take (k + 1) = bs.take k ++ [bs.getD k 0] := by
        have hlt : k < bs.length := by have := hlen.out; omega
        rw [List.take_succ_eq_append_getElem hlt]; simp [List.getD, List.getElem?_eq_getElem hlt]
      have HT : Hid (Te.recv t (bs.take (k + 1)) = ((Te.step (Te.recv t (bs.take k)).1 (bs.getD k 0)).1, (Te.recv t (bs.take k)).2 ++ (Te.step (Te.recv t (bs.take k)).1 (bs.getD k 0)).2)) := by show _ = _; rw [htake, Te.recv_snoc]
      have hst := Te.step_len hterm.ok (bs.getD k 0)
      have hnf := hterm.ok.nf
      clear htake
      generalize bs.getD k 0 = x at *
      obtain ⟨cs1, hblk, hfg1, hc8, hc9⟩ := hterm.fields
      have hdk : (Te.recv t (bs.take k)).1.data.length ≤ 100000000 := by omega
      by_cases e2 : (Te.recv t (bs.take k)).1.act = false
      · have hfin := Te.recv_stop t bs k e2
        have hc8w : wr.cell? ⟨g, 8, none⟩ = some (.bool false) := ((hblk.cell 8).trans hc8).trans (by rw [e2])
        clear hblk hc8 hc9 e2 hnf
        go_wp2_with fail
        go_ret
        rw [hfin]
        exact ⟨A2, c2, Fk, rfl, hown, hterm, hon, hFk, hdis⟩
      · have e3 : (Te.recv t (bs.take k)).1.act = true := by simpa using e2
        have hc8w : wr.cell? ⟨g, 8, none⟩ = some (.bool true) := ((hblk.cell 8).trans hc8).trans (by rw [e3])
        have hc9w := (hblk.cell 9).trans (hc9 e3)
        have HACT := Lib.hid e3
        clear hblk hc8 hc9 e2 e3
        by_cases e4 : 0 < (Te.recv t (bs.take k)).1.need
        · have hp : (Te.recv t (bs.take k)).1.ph = 2 := by unfold Te.T.ph; rw [if_pos e4]
          rw [hp] at hc9w
          replace hc9w : wr.cell? ⟨g, 9, none⟩ = some (.func (.func 77) #[.pointer (some ⟨g, 0, none⟩)] #[]) := hc9w
          have E0 := Lib.hid e4
          clear hp e4 hnf
          go_wp2_with (first | (go_at_call 77; refine (term_receive wr g Fk _ hterm HACT.out E0.out hdk x).mono ?_; rintro e w3 ⟨A3, c3, F3, rfl, hp1, hp2, hp3, hp4⟩; have hownw := hown.only' hp3 (fun q e e2 => hdis q e2 e); have hm3 := Mem.appender hownw) | ((with_reducible show wpList _ _ _ (Oper.mk _ (Op.call { callee := Callee.builtin Builtin.append, args := #[Operand.tmp 21, Operand.tmp 27], argTypes := _ }) _ _ _ _ :: _) _ _); refine wpList_ap8 (by rfl) (.tmp 21) (.tmp 27) rfl _ _ _ _ rfl hm3 0 rfl _ _ _ _ (Te.step (Te.recv t (bs.take k)).1 x).2 rfl hp1.row rfl (by omega) ?_; intro A4 c4 w4 hm4 ho4 hd4; try simp only [Act.put, List.setIfInBounds_toArray, List.set_cons_zero, List.set_cons_succ]))
          go_roundg gg
          case rel =>
            have hsz3 := hp3.size
            have hno : ∀ q, F3 q → ownAt A2 c2 ≠ some q := fun q hq e => by
              rcases hp4 q hq with h | h
              · exact hdis q h e
              · have := (hown.lt q e).2; omega
            refine ⟨k + 1, A4, c4, F3, by omega, by go_num, ?_, ?_, ?_, ?_, ?_, ?_⟩
            · rw [HT.out]; simp only [List.length_append]
            · rw [HT.out]
              have := (hm4.sl_ 0 rfl).base (b' := w0.heap.size) (fun q e => by
                rcases hd4 with h | ⟨q', h, h5⟩
                · exact (hownw.lt q (h ▸ e)).1
                · have e : ownAt A4 c4 = some q := e
                  rw [h] at e; injection e with e; have := hon.size; omega)
              simpa only [List.length_append] using this
            · rw [HT.out]; exact hp2.away ho4 (fun q hq e => hno q hq e)
            · exact (hon.more hp3 (fun q _ e => hFk q e)).more ho4 (fun q _ e => .inr (hownw.lt q e).1)
            · exact fun q hq => (hp4 q hq).elim (hFk q) (fun h => .inr (Nat.le_trans hon.size h))
            · intro q hq e
              rcases hd4 with h | ⟨q', h, h5⟩
              · exact hno q hq (h ▸ e)
              · rw [h] at e; injection e with e; have := hp2.lt q hq; omega
          case measure => omega
        · by_cases e5 : (Te.recv t (bs.take k)).1.first ≠ 0
          · have hp : (Te.recv t (bs.take k)).1.ph = 1 := by unfold Te.T.ph; rw [if_neg e4, if_pos e5]
            rw [hp] at hc9w
            replace hc9w : wr.cell? ⟨g, 9, none⟩ = some (.func (.func 76) #[.pointer (some ⟨g, 0, none⟩)] #[]) := hc9w
            have E0 : Hid ((Te.recv t (bs.take k)).1.need = 0 ∧ (Te.recv t (bs.take k)).1.first ≠ 0) := ⟨by omega, e5⟩
            clear hp e4 e5 hnf
            go_wp2_with (first | (go_at_call 76; refine (term_second wr g Fk _ hterm HACT.out E0.out.1 E0.out.2 hdk x).mono ?_; rintro e w3 ⟨A3, c3, F3, rfl, hp1, hp2, hp3, hp4⟩; have hownw := hown.only' hp3 (fun q e e2 => hdis q e2 e); have hm3 := Mem.appender hownw) | ((with_reducible show wpList _ _ _ (Oper.mk _ (Op.call { callee := Callee.builtin Builtin.append, args := #[Operand.tmp 21, Operand.tmp 27], argTypes := _ }) _ _ _ _ :: _) _ _); refine wpList_ap8 (by rfl) (.tmp 21) (.tmp 27) rfl _ _ _ _ rfl hm3 0 rfl _ _ _ _ (Te.step (Te.recv t (bs.take k)).1 x).2 rfl hp1.row rfl (by omega) ?_; intro A4 c4 w4 hm4 ho4 hd4; try simp only [Act.put, List.setIfInBounds_toArray, List.set_cons_zero, List.set_cons_succ]))
            go_roundg gg
            case rel =>
              have hsz3 := hp3.size
              have hno : ∀ q, F3 q → ownAt A2 c2 ≠ some q := fun q hq e => by
                rcases hp4 q hq with h | h
                · exact hdis q h e
                · have := (hown.lt q e).2; omega
              refine ⟨k + 1, A4, c4, F3, by omega, by go_num, ?_, ?_, ?_, ?_, ?_, ?_⟩
              · rw [HT.out]; simp only [List.length_append]
              · rw [HT.out]
                have := (hm4.sl_ 0 rfl).base (b' := w0.heap.size) (fun q e => by
                  rcases hd4 with h | ⟨q', h, h5⟩
                  · exact (hownw.lt q (h ▸ e)).1
                  · have e : ownAt A4 c4 = some q := e
                    rw [h] at e; injection e with e; have := hon.size; omega)
                simpa only [List.length_append] using this
              · rw [HT.out]; exact hp2.away ho4 (fun q hq e => hno q hq e)
              · exact (hon.more hp3 (fun q _ e => hFk q e)).more ho4 (fun q _ e => .inr (hownw.lt q e).1)
              · exact fun q hq => (hp4 q hq).elim (hFk q) (fun h => .inr (Nat.le_trans hon.size h))
              · intro q hq e
                rcases hd4 with h | ⟨q', h, h5⟩
                · exact hno q hq (h ▸ e)
                · rw [h] at e; injection e with e; have := hp2.lt q hq; omega
            case measure => omega
          · have hp : (Te.recv t (bs.take k)).1.ph = 0 := by unfold Te.T.ph; rw [if_neg e4, if_neg e5]
            rw [hp] at hc9w
            replace hc9w : wr.cell? ⟨g, 9, none⟩ = some (.func (.func 72) #[.pointer (some ⟨g, 0, none⟩)] #[]) := hc9w
            have E0 : Hid ((Te.recv t (bs.take k)).1.need = 0 ∧ (Te.recv t (bs.take k)).1.first = 0) := ⟨by omega, by simpa using e5⟩
            clear hp e4 e5 hnf
            go_wp2_with (first | (go_at_call 72; refine (term_procedure wr g Fk _ hterm HACT.out E0.out.1 E0.out.2 x).mono ?_; rintro e w3 ⟨A3, c3, F3, rfl, hp1, hp2, hp3, hp4⟩; have hownw := hown.only' hp3 (fun q e e2 => hdis q e2 e); have hm3 := Mem.appender hownw) | ((with_reducible show wpList _ _ _ (Oper.mk _ (Op.call { callee := Callee.builtin Builtin.append, args := #[Operand.tmp 21, Operand.tmp 27], argTypes := _ }) _ _ _ _ :: _) _ _); refine wpList_ap8 (by rfl) (.tmp 21) (.tmp 27) rfl _ _ _ _ rfl hm3 0 rfl _ _ _ _ (Te.step (Te.recv t (bs.take k)).1 x).2 rfl hp1.row rfl (by omega) ?_; intro A4 c4 w4 hm4 ho4 hd4; try simp only [Act.put, List.setIfInBounds_toArray, List.set_cons_zero, List.set_cons_succ]))
            go_roundg gg
            case rel =>
              have hsz3 := hp3.size
              have hno : ∀ q, F3 q → ownAt A2 c2 ≠ some q := fun q hq e => by
                rcases hp4 q hq with h | h
                · exact hdis q h e
                · have := (hown.lt q e).2; omega
              refine ⟨k + 1, A4, c4, F3, by omega, by go_num, ?_, ?_, ?_, ?_, ?_, ?_⟩
              · rw [HT.out]; simp only [List.length_append]
              · rw [HT.out]
                have := (hm4.sl_ 0 rfl).base (b' := w0.heap.size) (fun q e => by
                  rcases hd4 with h | ⟨q', h, h5⟩
                  · exact (hownw.lt q (h ▸ e)).1
                  · have e : ownAt A4 c4 = some q := e
                    rw [h] at e; injection e with e; have := hon.size; omega)
                simpa only [List.length_append] using this
              · rw [HT.out]; exact hp2.away ho4 (fun q hq e => hno q hq e)
              · exact (hon.more hp3 (fun q _ e => hFk q e)).more ho4 (fun q _ e => .inr (hownw.lt q e).1)
              · exact fun q hq => (hp4 q hq).elim (hFk q) (fun h => .inr (Nat.le_trans hon.size h))
              · intro q hq e
                rcases hd4 with h | ⟨q', h, h5⟩
                · exact hno q hq (h ▸ e)
                · rw [h] at e; injection e with e; have := hp2.lt q hq; omega
            case measure => omega

/-- A response by value comes out, or none. -/
def RpRes (w : World) (t : Te.T) (e : Ending) (w' : World) : Prop :=
  ∃ A c, e = .returned (.tuple #[.agg #[.slice A (if t.done = true then t.data.length else 0) c, .int .i64 (if t.done = true then t.sw else 0)], .bool t.done]) ∧ Own w' w.heap.size 5 1 A (if t.done = true then t.data.length else 0) c (bcells (if t.done = true then t.data else [])) ∧ Below w.heap.size w w'
theorem Mem.quiet {w w' : World} {L : List Ent} {O : List Osl} {g : Nat} {t : TypeId} {cs : Array Value} (hm : Mem (fun q => q = g) w w' (⟨g, t, cs⟩ :: L) O) (hb : Blk w g t cs) : Below w.heap.size w w' := Only.same hm.only hb (hm.at_ 0 rfl)
theorem Te.failed_eq (t : Te.T) : (if t.bad = true then (28 : Int) else 0) = if t.bad then 28 else 0 := rfl
set_option maxRecDepth 100000 in
theorem term_Failed (w0 : World) (g : Nat) (F : Nat → Prop) (t : Te.T) (H : TermAt' w0 g F t) :
    Calls Try.prog 29 #[.pointer (some ⟨g, 0, none⟩)] w0 fun e w' => e = .returned (.int .i64 (if t.bad = true then 28 else 0)) ∧ w0 = w' := by
  obtain ⟨x, ph, h, ins, rest, left, s1, A, c, db, rA, rn, rc, rsw, H⟩ := H
  have hb := H.blk
  have c0 : w0.cell? ⟨g, 0, none⟩ = some (.bool true) := hb.cell 0
  have c23 : w0.cell? ⟨g, 23, none⟩ = some (.bool t.bad) := hb.cell 23
  clear hb H
  generalize t.bad = bd at *
  cases bd
  all_goals
    go_enter Try.func29, Try.ntmps29
    go_wp2_with fail
    go_ret
    exact ⟨rfl, rfl⟩
set_option maxRecDepth 100000 in
theorem term_Response (w0 : World) (g : Nat) (F : Nat → Prop) (t : Te.T) (H : TermAt' w0 g F t) (hdl : t.data.length ≤ 100000000) :
    Calls Try.prog 26 #[.pointer (some ⟨g, 0, none⟩)] w0 (RpRes w0 t) := by
  obtain ⟨x, ph, h, ins, rest, left, s1, A, c, db, rA, rn, rc, rsw, H⟩ := H
  have hblk := H.blk
  unfold RpRes
  cases hd : t.done with
  | true =>
    obtain ⟨⟨hr, hrF⟩, hrs⟩ := H.dn hd
    rw [hd] at hblk
    have hm : Mem (fun q => q = g) w0 w0 [⟨g, _, _⟩] [] := Mem.one hblk rfl
    have HK := Lib.hid hblk
    have HR := Lib.hid hr
    have hrl := hr.1
    rw [if_pos rfl, if_pos rfl, if_pos rfl]
    subst hrs
    obtain ⟨h0, h1, h2, h3, h4⟩ := h
    obtain ⟨x0, x1, x2, x3, ⟨xa, xn, xc, xb⟩, x5, x6⟩ := x
    simp only [tcells, SV.val] at hm HK
    have HRL := Lib.hid hrl
    have hrn : rn ≤ 100000000 := by omega
    clear hblk hr hrF H hd hrl
    go_enter Try.func26, Try.ntmps26
    go_wp2_with (first | go_skip | ((with_reducible show wpList _ _ _ _ _ (World.alloc _ _)); refine wpList_up hm ?_; clear hm; intro n w hn hn2 hk hm hd hd2 ho; (try rw [← hn]); replace hn := Nat.le_of_eq hn.symm) | ((first | ((with_reducible show wpList _ _ _ (Oper.mk _ (Op.box _ _) _ _ _ _ :: _) _ _); (refine wpList_bx (by rfl) _ _ rfl _ (by simp only [Act.eval, Array.getD_eq_getD_getElem?, List.getElem?_toArray, List.getElem?_cons_succ, List.getElem?_cons_zero, Option.getD_some]; first | done | exact rfl) _ (by simp only [Value.cells]; first | done | exact rfl) hm ?_; clear hm; intro n w hn hz hm ho; (try simp only [List.cons_append, List.nil_append] at hm))) | ((with_reducible show wpList _ _ _ (Oper.mk _ (Op.load _ _) _ _ _ _ :: _) _ _); first | (refine wpList_ldS (by rfl) _ _ rfl _ _ rfl hm _ _ (by repeat (first | apply In.a | apply In.b)) (by decide +kernel) _ (by simp only [List.getElem?_toArray, List.getElem?_cons_succ, List.getElem?_cons_zero]; first | done | exact rfl) ?_) | (refine wpList_laS (by rfl) _ _ rfl _ _ rfl hm _ _ (by repeat (first | apply In.a | apply In.b)) (by kernel_rfl) _ (by rfl) (by kernel_rfl) (by simp) _ (by simp only [List.toList_toArray, List.drop_succ_cons, List.drop_zero, List.size_toArray, List.length_cons, List.length_nil, Nat.reduceAdd, List.take_succ_cons, List.take_zero]; first | done | exact rfl) ?_)) | ((with_reducible show wpList _ _ _ (Oper.mk _ (Op.store _ _ _) _ _ _ _ :: _) _ _); (refine wpList_stS (by rfl) _ _ _ rfl _ _ rfl _ (by simp only [Act.eval, Array.getD_eq_getD_getElem?, List.getElem?_toArray, List.getElem?_cons_succ, List.getElem?_cons_zero, Option.getD_some]; first | done | exact rfl) hm _ (by simp only [Value.cells]; first | done | exact rfl) _ _ _ _ (by repeat (first | apply Put.a | apply Put.b)) (by kernel_rfl) (by simp [Value.oneCell']) (by simp) (by simp only [List.set_cons_zero, List.set_cons_succ, spl, List.toList_toArray, List.size_toArray, List.length_cons, List.length_nil, Nat.reduceAdd, Nat.zero_add, List.take_succ_cons, List.take_zero, List.drop_succ_cons, List.drop_zero, List.drop_nil, List.cons_append, List.nil_append, List.append_nil]; first | done | exact rfl) ?_; clear hm; intro w hz hm ho)) | ((with_reducible show wpList _ _ _ (Oper.mk _ (Op.alloc _) _ _ _ _ :: _) _ _); (refine wpList_al (by rfl) _ rfl _ rfl _ (by simp only [Value.cells]; first | done | exact rfl) hm ?_; clear hm; intro n w hn hz hm ho; (try simp only [List.cons_append, List.nil_append] at hm)))); try simp only [Act.put, List.setIfInBounds_toArray, List.set_cons_zero, List.set_cons_succ]))
    have hw9 := hm.drew.wo 1
    simp only [List.eraseIdx_cons_zero, List.eraseIdx_cons_succ] at hw9
    refine wp_region_noPanic ?_
    refine wp_region_held_drew (S := MemS _ _ _ _) (by kernel_rfl) (MemS.of hw9) (fun hHeld => ?_)
    refine wpAnyH_fresh (by repeat (first | apply Fresh.a | apply Fresh.b)) ?_
    clear hw9
    replace hm := hm.drew
    iterate 5 (first | (refine wpAnyH_take3 (b := 0) (by repeat (first | apply Seek.a | apply Seek.b | apply Seek.c)) (by simp only [List.getElem?_toArray, List.getElem?_cons_succ, List.getElem?_cons_zero]; first | done | exact rfl) ⟨?_, by kernel_rfl, by kernel_rfl, by kernel_rfl, fun _ _ _ h => h, Or.inr ⟨by rfl, rfl⟩, hHeld, ?_⟩) | (refine wpAnyH_take3 (b := 0) (by repeat (first | apply Seek.a | apply Seek.b | apply Seek.c)) (by simp only [List.getElem?_toArray, List.getElem?_cons_succ, List.getElem?_cons_zero]; first | done | exact rfl) ⟨?_, by kernel_rfl, by kernel_rfl, by kernel_rfl, fun _ _ _ h => h, Or.inl ⟨by rfl, ?_⟩, hHeld, ?_⟩; rotate_left 1; (first | (intro w9 h9; (with_reducible show (execOp _ (Oper.mk _ (Op.load _ _) _ _ _ _)).run _ _ = _); (first | (exact MemS.ldS h9 _ _ rfl _ _ rfl _ _ (by repeat (first | apply In.a | apply In.b)) (by decide +kernel) _ (by simp only [List.getElem?_toArray, List.getElem?_cons_succ, List.getElem?_cons_zero]; first | done | exact rfl)))) | focus (intro w9 hSw; go_simp; (try (with_reducible rfl)); done))); try simp only [Act.put, List.setIfInBounds_toArray, List.set_cons_zero, List.set_cons_succ])
    iterate 5 (first | (refine wpAnyH_take3 (b := 6) (by repeat (first | apply Seek.a | apply Seek.b | apply Seek.c)) (by simp only [List.getElem?_toArray, List.getElem?_cons_succ, List.getElem?_cons_zero]; first | done | exact rfl) ⟨?_, by kernel_rfl, by kernel_rfl, by kernel_rfl, fun _ _ _ h => h, Or.inr ⟨by rfl, rfl⟩, hHeld, ?_⟩) | (refine wpAnyH_take3 (b := 6) (by repeat (first | apply Seek.a | apply Seek.b | apply Seek.c)) (by simp only [List.getElem?_toArray, List.getElem?_cons_succ, List.getElem?_cons_zero]; first | done | exact rfl) ⟨?_, by kernel_rfl, by kernel_rfl, by kernel_rfl, fun _ _ _ h => h, Or.inl ⟨by rfl, ?_⟩, hHeld, ?_⟩; rotate_left 1; (first | (intro w9 h9; (with_reducible show (execOp _ (Oper.mk _ (Op.load _ _) _ _ _ _)).run _ _ = _); (first | (exact MemS.ldS h9 _ _ rfl _ _ rfl _ _ (by repeat (first | apply In.a | apply In.b)) (by decide +kernel) _ (by simp only [List.getElem?_toArray, List.getElem?_cons_succ, List.getElem?_cons_zero]; first | done | exact rfl)))) | focus (intro w9 hSw; go_simp; (try (with_reducible rfl)); done))); try simp only [Act.put, List.setIfInBounds_toArray, List.set_cons_zero, List.set_cons_succ])
    refine wpAnyH_ready (rs := [5]) (by kernel_rfl) (by simp) ?_
    refine AllReadyH.cons2 (by simp only [List.getElem?_toArray, List.getElem?_cons_succ, List.getElem?_cons_zero]; first | done | exact rfl) (fun K hK => ?_)
    rw [if_pos (by rfl)]
    go_simp
    refine (slices_Clone rA rn rc t.data _ (by exact (HR.out.below (Mem.quiet hm HK.out)).more hm.only.size) (by omega)).mono ?_
    rintro e w2 ⟨A2, c2, rfl, hown, hbl⟩
    replace hm := hm.got hbl hown
    clear hown
    go_simp
    refine hK.out _ _ (MemS.of ((hm.wo 1).less)) (fun hHeld => ?_)
    clear hK K
    try simp only [Act.put, List.setIfInBounds_toArray, List.set_cons_zero, List.set_cons_succ]
    iterate 1 (first | (refine wpAnyH_take3 (b := 11) (by repeat (first | apply Seek.a | apply Seek.b | apply Seek.c)) (by simp only [List.getElem?_toArray, List.getElem?_cons_succ, List.getElem?_cons_zero]; first | done | exact rfl) ⟨?_, by kernel_rfl, by kernel_rfl, by kernel_rfl, fun _ _ _ h => h, Or.inr ⟨by rfl, rfl⟩, hHeld, ?_⟩) | (refine wpAnyH_take3 (b := 11) (by repeat (first | apply Seek.a | apply Seek.b | apply Seek.c)) (by simp only [List.getElem?_toArray, List.getElem?_cons_succ, List.getElem?_cons_zero]; first | done | exact rfl) ⟨?_, by kernel_rfl, by kernel_rfl, by kernel_rfl, fun _ _ _ h => h, Or.inl ⟨by rfl, ?_⟩, hHeld, ?_⟩; rotate_left 1; (first | (intro w9 h9; (with_reducible show (execOp _ (Oper.mk _ (Op.load _ _) _ _ _ _)).run _ _ = _); (first | (exact MemS.ldS h9 _ _ rfl _ _ rfl _ _ (by repeat (first | apply In.a | apply In.b)) (by decide +kernel) _ (by simp only [List.getElem?_toArray, List.getElem?_cons_succ, List.getElem?_cons_zero]; first | done | exact rfl)))) | focus (intro w9 hSw; go_simp; (try (with_reducible rfl)); done))); try simp only [Act.put, List.setIfInBounds_toArray, List.set_cons_zero, List.set_cons_succ])
    refine wpAnyH_ready (rs := [12]) (by kernel_rfl) (by simp) ?_
    refine AllReadyH.cons2 (by simp only [List.getElem?_toArray, List.getElem?_cons_succ, List.getElem?_cons_zero]; first | done | exact rfl) (fun K hK => ?_)
    refine step_stS (by rfl) _ _ _ rfl _ _ rfl _ (by simp only [Act.eval, Array.getD_eq_getD_getElem?, List.getElem?_toArray, List.getElem?_cons_succ, List.getElem?_cons_zero, Option.getD_some]; first | done | exact rfl) hm _ (by simp only [Value.cells]; first | done | exact rfl) _ _ _ _ (by repeat (first | apply Put.a | apply Put.b)) (by kernel_rfl) (by simp [Value.oneCell']) (by simp) (by simp only [List.set_cons_zero, List.set_cons_succ, spl, List.toList_toArray, List.size_toArray, List.length_cons, List.length_nil, Nat.reduceAdd, Nat.zero_add, List.take_succ_cons, List.take_zero, List.drop_succ_cons, List.drop_zero, List.drop_nil, List.cons_append, List.nil_append, List.append_nil]; first | done | exact rfl) ?_
    clear hm; intro w hz hm ho
    refine hK.out _ _ (MemS.of ((hm.wo 1).less)) (fun hHeld => ?_)
    clear hK K
    try simp only [Act.put, List.setIfInBounds_toArray, List.set_cons_zero, List.set_cons_succ]
    iterate 1 (first | (refine wpAnyH_take3 (b := 13) (by repeat (first | apply Seek.a | apply Seek.b | apply Seek.c)) (by simp only [List.getElem?_toArray, List.getElem?_cons_succ, List.getElem?_cons_zero]; first | done | exact rfl) ⟨?_, by kernel_rfl, by kernel_rfl, by kernel_rfl, fun _ _ _ h => h, Or.inr ⟨by rfl, rfl⟩, hHeld, ?_⟩) | (refine wpAnyH_take3 (b := 13) (by repeat (first | apply Seek.a | apply Seek.b | apply Seek.c)) (by simp only [List.getElem?_toArray, List.getElem?_cons_succ, List.getElem?_cons_zero]; first | done | exact rfl) ⟨?_, by kernel_rfl, by kernel_rfl, by kernel_rfl, fun _ _ _ h => h, Or.inl ⟨by rfl, ?_⟩, hHeld, ?_⟩; rotate_left 1; (first | (intro w9 h9; (with_reducible show (execOp _ (Oper.mk _ (Op.load _ _) _ _ _ _)).run _ _ = _); (first | (exact MemS.ldS h9 _ _ rfl _ _ rfl _ _ (by repeat (first | apply In.a | apply In.b)) (by decide +kernel) _ (by simp only [List.getElem?_toArray, List.getElem?_cons_succ, List.getElem?_cons_zero]; first | done | exact rfl)))) | focus (intro w9 hSw; go_simp; (try (with_reducible rfl)); done))); try simp only [Act.put, List.setIfInBounds_toArray, List.set_cons_zero, List.set_cons_succ])
    refine wpAnyH_done (by kernel_rfl) ?_ _
    refine NoPanic.normal ?_
    go_wp2_with fail
    refine bodyPost_ret (results_row_tmp rfl _ _ _ _ _ (0, 0) _ rfl (by exact hm.at_ 1 rfl) Try.underlying42 rfl (by kernel_rfl)) rfl ?_
    have hrl := HRL.out
    subst hrl
    exact ⟨A2, c2, rfl, hm.fresh 0 rfl (fun q hq => ⟨_, List.mem_cons_self, hq.symm⟩), Mem.quiet hm HK.out⟩
  | false =>
    rw [hd] at hblk
    have hm : Mem (fun q => q = g) w0 w0 [⟨g, _, _⟩] [] := Mem.one hblk rfl
    have HK := Lib.hid hblk
    rw [if_neg (by simp), if_neg (by simp), if_neg (by simp)]
    obtain ⟨h0, h1, h2, h3, h4⟩ := h
    obtain ⟨x0, x1, x2, x3, ⟨xa, xn, xc, xb⟩, x5, x6⟩ := x
    simp only [tcells, SV.val] at hm HK
    clear hblk H hd
    go_enter Try.func26, Try.ntmps26
    go_wp2_with (first | go_skip | ((with_reducible show wpList _ _ _ _ _ (World.alloc _ _)); refine wpList_up hm ?_; clear hm; intro n w hn hn2 hk hm hd hd2 ho; (try rw [← hn]); replace hn := Nat.le_of_eq hn.symm) | ((first | ((with_reducible show wpList _ _ _ (Oper.mk _ (Op.box _ _) _ _ _ _ :: _) _ _); (refine wpList_bx (by rfl) _ _ rfl _ (by simp only [Act.eval, Array.getD_eq_getD_getElem?, List.getElem?_toArray, List.getElem?_cons_succ, List.getElem?_cons_zero, Option.getD_some]; first | done | exact rfl) _ (by simp only [Value.cells]; first | done | exact rfl) hm ?_; clear hm; intro n w hn hz hm ho; (try simp only [List.cons_append, List.nil_append] at hm))) | ((with_reducible show wpList _ _ _ (Oper.mk _ (Op.load _ _) _ _ _ _ :: _) _ _); first | (refine wpList_ldS (by rfl) _ _ rfl _ _ rfl hm _ _ (by repeat (first | apply In.a | apply In.b)) (by decide +kernel) _ (by simp only [List.getElem?_toArray, List.getElem?_cons_succ, List.getElem?_cons_zero]; first | done | exact rfl) ?_) | (refine wpList_laS (by rfl) _ _ rfl _ _ rfl hm _ _ (by repeat (first | apply In.a | apply In.b)) (by kernel_rfl) _ (by rfl) (by kernel_rfl) (by simp) _ (by simp only [List.toList_toArray, List.drop_succ_cons, List.drop_zero, List.size_toArray, List.length_cons, List.length_nil, Nat.reduceAdd, List.take_succ_cons, List.take_zero]; first | done | exact rfl) ?_)) | ((with_reducible show wpList _ _ _ (Oper.mk _ (Op.store _ _ _) _ _ _ _ :: _) _ _); (refine wpList_stS (by rfl) _ _ _ rfl _ _ rfl _ (by simp only [Act.eval, Array.getD_eq_getD_getElem?, List.getElem?_toArray, List.getElem?_cons_succ, List.getElem?_cons_zero, Option.getD_some]; first | done | exact rfl) hm _ (by simp only [Value.cells]; first | done | exact rfl) _ _ _ _ (by repeat (first | apply Put.a | apply Put.b)) (by kernel_rfl) (by simp [Value.oneCell']) (by simp) (by simp only [List.set_cons_zero, List.set_cons_succ, spl, List.toList_toArray, List.size_toArray, List.length_cons, List.length_nil, Nat.reduceAdd, Nat.zero_add, List.take_succ_cons, List.take_zero, List.drop_succ_cons, List.drop_zero, List.drop_nil, List.cons_append, List.nil_append, List.append_nil]; first | done | exact rfl) ?_; clear hm; intro w hz hm ho)) | ((with_reducible show wpList _ _ _ (Oper.mk _ (Op.alloc _) _ _ _ _ :: _) _ _); (refine wpList_al (by rfl) _ rfl _ rfl _ (by simp only [Value.cells]; first | done | exact rfl) hm ?_; clear hm; intro n w hn hz hm ho; (try simp only [List.cons_append, List.nil_append] at hm)))); try simp only [Act.put, List.setIfInBounds_toArray, List.set_cons_zero, List.set_cons_succ]))
    refine bodyPost_ret (results_row_tmp rfl _ _ _ _ _ (0, 0) _ rfl (by exact hm.at_ 1 rfl) Try.underlying42 rfl (by kernel_rfl)) rfl ?_
    exact ⟨none, 0, rfl, Own.none_ _ _ _ _ _, Mem.quiet hm HK.out⟩

theorem tz_and255 : ∀ x : Fin 257, bits .and .i64 (x.val : Int) 255 = (x.val : Int) % 256 := by decide +kernel
/-- What Send leaves. -/
def TSRes (w : World) (g : Nat) (F : Nat → Prop) (t' : Te.T) (bs : List UInt8) (er : Int) (e : Ending) (w' : World) : Prop :=
  ∃ A c F', e = .returned (.tuple #[.slice A bs.length c, .int .i64 er]) ∧ Own w' w.heap.size 5 1 A bs.length c (bcells bs) ∧ TermAt' w' g F' t' ∧ Only F w w' ∧ (∀ q, F' q → F q ∨ w.heap.size ≤ q) ∧ ∀ q, F' q → ownAt A c ≠ some q
set_option maxRecDepth 100000 in
theorem term_Send (w0 : World) (g : Nat) (F : Nat → Prop) (t : Te.T) (H : TermAt' w0 g F t) (cla ins p1 p2 : Int) (B : Option Addr) (dn dc : Nat) (d : List UInt8) (le : Int) (long : Bool) (hb : Byt w0 w0.heap.size B dn dc d) (hdn : dn ≤ 100000000) :
    Calls Try.prog 31 #[.pointer (some ⟨g, 0, none⟩), cmdV cla ins p1 p2 B dn dc le long] w0 (TSRes w0 g F (Te.send t ⟨cla, ins, p1, p2, d, le⟩ long).1 (Te.send t ⟨cla, ins, p1, p2, d, le⟩ long).2 (Te.serr t ⟨cla, ins, p1, p2, d, le⟩ long)) := by
  have HH := Lib.hid H
  have hok2 := H.ok.send ⟨cla, ins, p1, p2, d, le⟩ long
  have HB := Lib.hid hb
  have hl := hb.1
  obtain ⟨x, ph, h, hins, rest, left, s1, A, c, db, rA, rn, rc, rsw, H⟩ := H
  have hblk := H.blk
  have hfg := H.fg
  have HLT := Lib.hid H.lt
  have hm : Mem (fun q => q = g) w0 w0 [⟨g, _, _⟩] [] := Mem.one hblk rfl
  have HK := Lib.hid hblk
  obtain ⟨h0, h1, h2, h3, h4⟩ := h
  obtain ⟨x0, x1, x2, x3, ⟨xa, xn, xc, xb⟩, x5, x6⟩ := x
  simp only [tcells, SV.val] at hm HK
  have HCK : Hid (∀ u : World, Calls Try.prog 52 #[.agg #[I64 cla, I64 ins, I64 p1, I64 p2, .slice B dn dc, I64 le, .bool long]] u fun e w' => e = .returned (.int .i64 (Apd.chk cla ins p1 p2 d.length le long)) ∧ Below u.heap.size u w') := by
    show ∀ u, _; intro u; rw [hl]; exact apdu_Check cla ins p1 p2 B dn dc le long u
  show Calls Try.prog 31 #[.pointer (some ⟨g, 0, none⟩), .agg #[I64 cla, I64 ins, I64 p1, I64 p2, .slice B dn dc, I64 le, .bool long]] w0 _
  unfold TSRes
  clear hb H hblk
  by_cases e1 : Apd.chk cla ins p1 p2 d.length le long ≠ 0
  · have e : Te.serr t ⟨cla, ins, p1, p2, d, le⟩ long = Apd.chk cla ins p1 p2 d.length le long := if_pos e1
    have e2 : Te.send t ⟨cla, ins, p1, p2, d, le⟩ long = (t, []) := if_neg (by rw [e]; exact e1)
    rw [e, e2]
    have i1 : (Apd.chk cla ins p1 p2 d.length le long != 0) = true := by rw [bne_iff_ne]; exact e1
    clear e e1 e2 hok2
    generalize Apd.chk cla ins p1 p2 d.length le long = ck at *
    go_enter Try.func31, Try.ntmps31
    go_wp2_with (first | go_skip | ((with_reducible show wpList _ _ _ _ _ (World.alloc _ _)); refine wpList_up hm ?_; clear hm; intro n w hn hn2 hk hm hd hd2 ho; (try rw [← hn]); replace hn := Nat.le_of_eq hn.symm) | ((first | ((with_reducible show wpList _ _ _ (Oper.mk _ (Op.box _ _) _ _ _ _ :: _) _ _); (refine wpList_bx (by rfl) _ _ rfl _ (by simp only [Act.eval, Array.getD_eq_getD_getElem?, List.getElem?_toArray, List.getElem?_cons_succ, List.getElem?_cons_zero, Option.getD_some]; first | done | exact rfl) _ (by simp only [Value.cells]; first | done | exact rfl) hm ?_; clear hm; intro n w hn hz hm ho; (try simp only [List.cons_append, List.nil_append] at hm))) | ((with_reducible show wpList _ _ _ (Oper.mk _ (Op.load _ _) _ _ _ _ :: _) _ _); first | (refine wpList_ldS (by rfl) _ _ rfl _ _ rfl hm _ _ (by repeat (first | apply In.a | apply In.b)) (by decide +kernel) _ (by simp only [List.getElem?_toArray, List.getElem?_cons_succ, List.getElem?_cons_zero]; first | done | exact rfl) ?_) | (refine wpList_laS (by rfl) _ _ rfl _ _ rfl hm _ _ (by repeat (first | apply In.a | apply In.b)) (by kernel_rfl) _ (by rfl) (by kernel_rfl) (by simp) _ (by simp only [List.toList_toArray, List.drop_succ_cons, List.drop_zero, List.size_toArray, List.length_cons, List.length_nil, Nat.reduceAdd, List.take_succ_cons, List.take_zero]; first | done | exact rfl) ?_)) | ((with_reducible show wpList _ _ _ (Oper.mk _ (Op.store _ _ _) _ _ _ _ :: _) _ _); (refine wpList_stS (by rfl) _ _ _ rfl _ _ rfl _ (by simp only [Act.eval, Array.getD_eq_getD_getElem?, List.getElem?_toArray, List.getElem?_cons_succ, List.getElem?_cons_zero, Option.getD_some]; first | done | exact rfl) hm _ (by simp only [Value.cells]; first | done | exact rfl) _ _ _ _ (by repeat (first | apply Put.a | apply Put.b)) (by kernel_rfl) (by simp [Value.oneCell']) (by simp) (by simp only [List.set_cons_zero, List.set_cons_succ, spl, List.toList_toArray, List.size_toArray, List.length_cons, List.length_nil, Nat.reduceAdd, Nat.zero_add, List.take_succ_cons, List.take_zero, List.drop_succ_cons, List.drop_zero, List.drop_nil, List.cons_append, List.nil_append, List.append_nil]; first | done | exact rfl) ?_; clear hm; intro w hz hm ho)) | ((with_reducible show wpList _ _ _ (Oper.mk _ (Op.alloc _) _ _ _ _ :: _) _ _); (refine wpList_al (by rfl) _ rfl _ rfl _ (by simp only [Value.cells]; first | done | exact rfl) hm ?_; clear hm; intro n w hn hz hm ho; (try simp only [List.cons_append, List.nil_append] at hm)))); try simp only [Act.put, List.setIfInBounds_toArray, List.set_cons_zero, List.set_cons_succ]) | (go_at_call 52; refine (HCK.out _).mono ?_; rintro e w2 ⟨rfl, hbl⟩; replace hm := hm.below hbl))
    go_ret2
    exact ⟨none, 0, F, rfl, Own.none_ _ _ _ _ _, HH.out.below (Mem.quiet hm HK.out), Only.of_below (Mem.quiet hm HK.out), fun q e => .inl e, fun q _ e => by cases e⟩
  · have e0 : Apd.chk cla ins p1 p2 d.length le long = 0 := by simpa using e1
    have hs : Te.serr t ⟨cla, ins, p1, p2, d, le⟩ long = if long = true then 4 else if t.act = true then 14 else 0 := if_neg e1
    have E0 := Lib.hid e0
    rw [e0] at HCK
    clear e1 e0
    cases long with
    | true =>
      have e : Te.serr t ⟨cla, ins, p1, p2, d, le⟩ true = 4 := hs
      have e2 : Te.send t ⟨cla, ins, p1, p2, d, le⟩ true = (t, []) := if_neg (by rw [e]; decide)
      rw [e, e2]
      clear e e2 hok2 hs
      go_enter Try.func31, Try.ntmps31
      go_wp2_with (first | go_skip | ((with_reducible show wpList _ _ _ _ _ (World.alloc _ _)); refine wpList_up hm ?_; clear hm; intro n w hn hn2 hk hm hd hd2 ho; (try rw [← hn]); replace hn := Nat.le_of_eq hn.symm) | ((first | ((with_reducible show wpList _ _ _ (Oper.mk _ (Op.box _ _) _ _ _ _ :: _) _ _); (refine wpList_bx (by rfl) _ _ rfl _ (by simp only [Act.eval, Array.getD_eq_getD_getElem?, List.getElem?_toArray, List.getElem?_cons_succ, List.getElem?_cons_zero, Option.getD_some]; first | done | exact rfl) _ (by simp only [Value.cells]; first | done | exact rfl) hm ?_; clear hm; intro n w hn hz hm ho; (try simp only [List.cons_append, List.nil_append] at hm))) | ((with_reducible show wpList _ _ _ (Oper.mk _ (Op.load _ _) _ _ _ _ :: _) _ _); first | (refine wpList_ldS (by rfl) _ _ rfl _ _ rfl hm _ _ (by repeat (first | apply In.a | apply In.b)) (by decide +kernel) _ (by simp only [List.getElem?_toArray, List.getElem?_cons_succ, List.getElem?_cons_zero]; first | done | exact rfl) ?_) | (refine wpList_laS (by rfl) _ _ rfl _ _ rfl hm _ _ (by repeat (first | apply In.a | apply In.b)) (by kernel_rfl) _ (by rfl) (by kernel_rfl) (by simp) _ (by simp only [List.toList_toArray, List.drop_succ_cons, List.drop_zero, List.size_toArray, List.length_cons, List.length_nil, Nat.reduceAdd, List.take_succ_cons, List.take_zero]; first | done | exact rfl) ?_)) | ((with_reducible show wpList _ _ _ (Oper.mk _ (Op.store _ _ _) _ _ _ _ :: _) _ _); (refine wpList_stS (by rfl) _ _ _ rfl _ _ rfl _ (by simp only [Act.eval, Array.getD_eq_getD_getElem?, List.getElem?_toArray, List.getElem?_cons_succ, List.getElem?_cons_zero, Option.getD_some]; first | done | exact rfl) hm _ (by simp only [Value.cells]; first | done | exact rfl) _ _ _ _ (by repeat (first | apply Put.a | apply Put.b)) (by kernel_rfl) (by simp [Value.oneCell']) (by simp) (by simp only [List.set_cons_zero, List.set_cons_succ, spl, List.toList_toArray, List.size_toArray, List.length_cons, List.length_nil, Nat.reduceAdd, Nat.zero_add, List.take_succ_cons, List.take_zero, List.drop_succ_cons, List.drop_zero, List.drop_nil, List.cons_append, List.nil_append, List.append_nil]; first | done | exact rfl) ?_; clear hm; intro w hz hm ho)) | ((with_reducible show wpList _ _ _ (Oper.mk _ (Op.alloc _) _ _ _ _ :: _) _ _); (refine wpList_al (by rfl) _ rfl _ rfl _ (by simp only [Value.cells]; first | done | exact rfl) hm ?_; clear hm; intro n w hn hz hm ho; (try simp only [List.cons_append, List.nil_append] at hm)))); try simp only [Act.put, List.setIfInBounds_toArray, List.set_cons_zero, List.set_cons_succ]) | (go_at_call 52; refine (HCK.out _).mono ?_; rintro e w2 ⟨rfl, hbl⟩; replace hm := hm.below hbl))
      go_ret2
      exact ⟨none, 0, F, rfl, Own.none_ _ _ _ _ _, HH.out.below (Mem.quiet hm HK.out), Only.of_below (Mem.quiet hm HK.out), fun q e => .inl e, fun q _ e => by cases e⟩
    | false =>
      rw [if_neg (by simp)] at hs
      cases ha : t.act with
      | true =>
        have e : Te.serr t ⟨cla, ins, p1, p2, d, le⟩ false = 14 := by rw [hs, if_pos ha]
        have e2 : Te.send t ⟨cla, ins, p1, p2, d, le⟩ false = (t, []) := if_neg (by rw [e]; decide)
        rw [e, e2]
        rw [ha] at hm HK
        clear e e2 hok2 hs ha
        go_enter Try.func31, Try.ntmps31
        go_wp2_with (first | go_skip | ((with_reducible show wpList _ _ _ _ _ (World.alloc _ _)); refine wpList_up hm ?_; clear hm; intro n w hn hn2 hk hm hd hd2 ho; (try rw [← hn]); replace hn := Nat.le_of_eq hn.symm) | ((first | ((with_reducible show wpList _ _ _ (Oper.mk _ (Op.box _ _) _ _ _ _ :: _) _ _); (refine wpList_bx (by rfl) _ _ rfl _ (by simp only [Act.eval, Array.getD_eq_getD_getElem?, List.getElem?_toArray, List.getElem?_cons_succ, List.getElem?_cons_zero, Option.getD_some]; first | done | exact rfl) _ (by simp only [Value.cells]; first | done | exact rfl) hm ?_; clear hm; intro n w hn hz hm ho; (try simp only [List.cons_append, List.nil_append] at hm))) | ((with_reducible show wpList _ _ _ (Oper.mk _ (Op.load _ _) _ _ _ _ :: _) _ _); first | (refine wpList_ldS (by rfl) _ _ rfl _ _ rfl hm _ _ (by repeat (first | apply In.a | apply In.b)) (by decide +kernel) _ (by simp only [List.getElem?_toArray, List.getElem?_cons_succ, List.getElem?_cons_zero]; first | done | exact rfl) ?_) | (refine wpList_laS (by rfl) _ _ rfl _ _ rfl hm _ _ (by repeat (first | apply In.a | apply In.b)) (by kernel_rfl) _ (by rfl) (by kernel_rfl) (by simp) _ (by simp only [List.toList_toArray, List.drop_succ_cons, List.drop_zero, List.size_toArray, List.length_cons, List.length_nil, Nat.reduceAdd, List.take_succ_cons, List.take_zero]; first | done | exact rfl) ?_)) | ((with_reducible show wpList _ _ _ (Oper.mk _ (Op.store _ _ _) _ _ _ _ :: _) _ _); (refine wpList_stS (by rfl) _ _ _ rfl _ _ rfl _ (by simp only [Act.eval, Array.getD_eq_getD_getElem?, List.getElem?_toArray, List.getElem?_cons_succ, List.getElem?_cons_zero, Option.getD_some]; first | done | exact rfl) hm _ (by simp only [Value.cells]; first | done | exact rfl) _ _ _ _ (by repeat (first | apply Put.a | apply Put.b)) (by kernel_rfl) (by simp [Value.oneCell']) (by simp) (by simp only [List.set_cons_zero, List.set_cons_succ, spl, List.toList_toArray, List.size_toArray, List.length_cons, List.length_nil, Nat.reduceAdd, Nat.zero_add, List.take_succ_cons, List.take_zero, List.drop_succ_cons, List.drop_zero, List.drop_nil, List.cons_append, List.nil_append, List.append_nil]; first | done | exact rfl) ?_; clear hm; intro w hz hm ho)) | ((with_reducible show wpList _ _ _ (Oper.mk _ (Op.alloc _) _ _ _ _ :: _) _ _); (refine wpList_al (by rfl) _ rfl _ rfl _ (by simp only [Value.cells]; first | done | exact rfl) hm ?_; clear hm; intro n w hn hz hm ho; (try simp only [List.cons_append, List.nil_append] at hm)))); try simp only [Act.put, List.setIfInBounds_toArray, List.set_cons_zero, List.set_cons_succ]) | (go_at_call 52; refine (HCK.out _).mono ?_; rintro e w2 ⟨rfl, hbl⟩; replace hm := hm.below hbl))
        go_ret2
        exact ⟨none, 0, F, rfl, Own.none_ _ _ _ _ _, HH.out.below (Mem.quiet hm HK.out), Only.of_below (Mem.quiet hm HK.out), fun q e => .inl e, fun q _ e => by cases e⟩
      | false =>
        have e : Te.serr t ⟨cla, ins, p1, p2, d, le⟩ false = 0 := by rw [hs, if_neg (by rw [ha]; simp)]
        have e2 : Te.send t ⟨cla, ins, p1, p2, d, le⟩ false = ({ Te.T.zero with act := true, cmd := ⟨cla, ins, p1, p2, d, le⟩, ins := Tz.byte ins, p3 := Te.p3of ⟨cla, ins, p1, p2, d, le⟩ }, [Tz.byte cla, Tz.byte ins, Tz.byte p1, Tz.byte p2, Te.p3of ⟨cla, ins, p1, p2, d, le⟩]) := if_pos e
        rw [e, e2]
        rw [e2] at hok2
        rw [ha] at hm HK
        obtain ⟨a0, a1, a2, a3, a4, a5, a6, a7⟩ := Te.Apd_ok E0.out
        have HL := Lib.hid hl
        have hdn2 : dn ≤ 255 := by omega
        clear e e2 hs ha
        by_cases e4 : dn = 0
        · have i1 : (0 : Int) < 1 := by omega
          obtain ⟨ln, hln⟩ : ∃ ln : Nat, le = (ln : Int) := ⟨le.toNat, by omega⟩
          subst hln
          have hand := tz_and255 ⟨ln, by omega⟩
          simp only at hand
          subst e4
          have hd0 : d = [] := List.eq_nil_of_length_eq_zero hl
          have HP : Hid (Te.p3of ⟨cla, ins, p1, p2, d, (ln : Int)⟩ = Tz.byte ((ln : Int) % 256) ∧ ((Tz.byte ins).toNat : Int) = ins ∧ (ln : Int) % 256 = ((Te.p3of ⟨cla, ins, p1, p2, d, (ln : Int)⟩).toNat : Int)) := by
            have h1 : Te.p3of ⟨cla, ins, p1, p2, d, (ln : Int)⟩ = Tz.byte (ln : Int) := by unfold Te.p3of; rw [if_pos hd0]
            have h2 := Tz.toNat_byte ins
            have h3 := Tz.toNat_byte (ln : Int)
            exact ⟨by rw [h1]; unfold Tz.byte; rw [Int.emod_emod_of_dvd _ (by decide)], by omega, by rw [h1]; omega⟩
          clear a6 hl
          go_enter Try.func31, Try.ntmps31
          go_wp2_with (first | go_skip | ((with_reducible show wpList _ _ _ _ _ (World.alloc _ _)); refine wpList_up hm ?_; clear hm; intro n w hn hn2 hk hm hd hd2 ho; (try rw [← hn]); replace hn := Nat.le_of_eq hn.symm) | ((first | ((with_reducible show wpList _ _ _ (Oper.mk _ (Op.box _ _) _ _ _ _ :: _) _ _); (refine wpList_bx (by rfl) _ _ rfl _ (by simp only [Act.eval, Array.getD_eq_getD_getElem?, List.getElem?_toArray, List.getElem?_cons_succ, List.getElem?_cons_zero, Option.getD_some]; first | done | exact rfl) _ (by simp only [Value.cells]; first | done | exact rfl) hm ?_; clear hm; intro n w hn hz hm ho; (try simp only [List.cons_append, List.nil_append] at hm))) | ((with_reducible show wpList _ _ _ (Oper.mk _ (Op.load _ _) _ _ _ _ :: _) _ _); first | (refine wpList_ldS (by rfl) _ _ rfl _ _ rfl hm _ _ (by repeat (first | apply In.a | apply In.b)) (by decide +kernel) _ (by simp only [List.getElem?_toArray, List.getElem?_cons_succ, List.getElem?_cons_zero]; first | done | exact rfl) ?_) | (refine wpList_laS (by rfl) _ _ rfl _ _ rfl hm _ _ (by repeat (first | apply In.a | apply In.b)) (by kernel_rfl) _ (by rfl) (by kernel_rfl) (by simp) _ (by simp only [List.toList_toArray, List.drop_succ_cons, List.drop_zero, List.size_toArray, List.length_cons, List.length_nil, Nat.reduceAdd, List.take_succ_cons, List.take_zero]; first | done | exact rfl) ?_)) | ((with_reducible show wpList _ _ _ (Oper.mk _ (Op.store _ _ _) _ _ _ _ :: _) _ _); (refine wpList_stS (by rfl) _ _ _ rfl _ _ rfl _ (by simp only [Act.eval, Array.getD_eq_getD_getElem?, List.getElem?_toArray, List.getElem?_cons_succ, List.getElem?_cons_zero, Option.getD_some]; first | done | exact rfl) hm _ (by simp only [Value.cells]; first | done | exact rfl) _ _ _ _ (by repeat (first | apply Put.a | apply Put.b)) (by kernel_rfl) (by simp [Value.oneCell']) (by simp) (by simp only [List.set_cons_zero, List.set_cons_succ, spl, List.toList_toArray, List.size_toArray, List.length_cons, List.length_nil, Nat.reduceAdd, Nat.zero_add, List.take_succ_cons, List.take_zero, List.drop_succ_cons, List.drop_zero, List.drop_nil, List.cons_append, List.nil_append, List.append_nil]; first | done | exact rfl) ?_; clear hm; intro w hz hm ho)) | ((with_reducible show wpList _ _ _ (Oper.mk _ (Op.alloc _) _ _ _ _ :: _) _ _); (refine wpList_al (by rfl) _ rfl _ rfl _ (by simp only [Value.cells]; first | done | exact rfl) hm ?_; clear hm; intro n w hn hz hm ho; (try simp only [List.cons_append, List.nil_append] at hm)))); try simp only [Act.put, List.setIfInBounds_toArray, List.set_cons_zero, List.set_cons_succ]) | (go_at_call 52; refine (HCK.out _).mono ?_; rintro e w2 ⟨rfl, hbl⟩; replace hm := hm.below hbl) | (go_at_call 39; refine (slices_Clone B 0 dc d _ (by exact (HB.out.below (Mem.quiet hm HK.out)).more hm.only.size) (by omega)).mono ?_; rintro e w2 ⟨A2, c2, rfl, hown, hbl⟩; have HO := Lib.hid (hown.mono hm.only.size); replace hm := hm.got hbl hown; clear hown) | (go_at_call 53; refine (term_send _ g ⟨cla, ins, p1, p2, ⟨A2, 0, c2, d⟩, (ln : Int), false⟩ true .nilFunc ⟨0, 0, 0, 0, 0⟩ false false 0 0 (.slice none 0 0) false (.slice none 0 0) 0 false (by exact hm.at_ 0 rfl) ⟨cla, ins, p1, p2, ((ln : Int) % 256)⟩).mono ?_; rintro e w5 ⟨A5, c5, rfl, hown, ho2, hb2⟩; have HO5 := Lib.hid (And.intro (hown.mono hm.only.size) (And.intro (fun q (e : ownAt A5 c5 = some q) => (hown.lt q e).1) (And.intro hm.only.size (fun q (e : ownAt A2 c2 = some q) => hm.slt (List.mem_of_getElem? (i := 0) rfl) e)))); replace hm := hm.put 0 rfl ho2 hb2; clear hown hb2))
          go_ret2
          have hby : Byt w5 w5.heap.size A2 0 c2 d := (hm.sl_ 0 rfl).byt (Nat.le_refl _)
          have hfar := HO.out.far
          have hglt := HLT.out g hfg
          have hsub : ∀ q, ownAt A2 c2 = some q → w0.heap.size ≤ q ∧ q < w5.heap.size := fun q e => ⟨(HO.out.lt q e).1, hm.slt (List.mem_of_getElem? (i := 0) rfl) e⟩
          refine ⟨A5, c5, fun q => F q ∨ ownAt A2 c2 = some q, rfl, by rw [HP.out.1]; exact HO5.out.1, ⟨⟨cla, ins, p1, p2, ⟨A2, 0, c2, d⟩, (ln : Int), false⟩, tphV g 0, ⟨cla, ins, p1, p2, ((ln : Int) % 256)⟩, true, false, 0, 0, none, 0, [], none, 0, 0, 0, { ok := hok2, blk := hm.at_ 0 rfl, fg := .inl hfg, dat := Own.none_ _ _ _ _ _, fa := fun q e => (by cases e), act := fun _ => ⟨rfl, rfl, rfl, rfl, rfl, rfl, rfl, rfl, HP.out.2.1.symm, HP.out.2.2, rfl, rfl, rfl, fun h => absurd rfl h, rfl⟩, xd := fun _ => ⟨⟨hby, fun a e hn => .inr ?_⟩, fun a e hn => ⟨fun e2 => ?_, fun e2 => (by cases e2)⟩⟩, dn := fun e => (by cases e), lt := fun q hq => hq.elim (fun h => Nat.lt_of_lt_of_le (HLT.out q h) hm.only.size) (fun h => (hsub q h).2) }⟩, hm.only.mono (fun q _ e => e ▸ hfg), fun q hq => hq.imp id (fun h => (hsub q h).1), fun q hq e => ?_⟩
          · have hc := hby.2.1
            have e : A2 = some a := e
            have hn : 0 < 0 := hn
            unfold ownAt; rw [if_neg (by omega), e]; rfl
          · have := hfar hn a e; omega
          · obtain ⟨_, h5, h6, h7⟩ := HO5.out
            have h5 := h5 q e
            rcases hq with h | h
            · have := HLT.out q h; omega
            · have := h7 q h
              omega
        · have i1 : (0 : Int) < (dn : Int) := by omega
          have hand := tz_and255 ⟨dn, by omega⟩
          simp only at hand
          rw [show (dn : Int) % 256 = dn by omega] at hand
          have hd0 : ¬ d = [] := fun h => e4 (by rw [← hl, h]; rfl)
          have HP : Hid (Te.p3of ⟨cla, ins, p1, p2, d, le⟩ = Tz.byte (dn : Int) ∧ ((Tz.byte ins).toNat : Int) = ins ∧ (dn : Int) = ((Te.p3of ⟨cla, ins, p1, p2, d, le⟩).toNat : Int)) := by
            have h1 : Te.p3of ⟨cla, ins, p1, p2, d, le⟩ = Tz.byte (dn : Int) := by unfold Te.p3of; rw [if_neg hd0]; show Tz.byte (d.length : Int) = _; rw [hl]
            have h2 := Tz.toNat_byte ins
            have h3 := Tz.toNat_byte (dn : Int)
            exact ⟨h1, by omega, by rw [h1]; omega⟩
          clear a6 hl
          go_enter Try.func31, Try.ntmps31
          go_wp2_with (first | go_skip | ((with_reducible show wpList _ _ _ _ _ (World.alloc _ _)); refine wpList_up hm ?_; clear hm; intro n w hn hn2 hk hm hd hd2 ho; (try rw [← hn]); replace hn := Nat.le_of_eq hn.symm) | ((first | ((with_reducible show wpList _ _ _ (Oper.mk _ (Op.box _ _) _ _ _ _ :: _) _ _); (refine wpList_bx (by rfl) _ _ rfl _ (by simp only [Act.eval, Array.getD_eq_getD_getElem?, List.getElem?_toArray, List.getElem?_cons_succ, List.getElem?_cons_zero, Option.getD_some]; first | done | exact rfl) _ (by simp only [Value.cells]; first | done | exact rfl) hm ?_; clear hm; intro n w hn hz hm ho; (try simp only [List.cons_append, List.nil_append] at hm))) | ((with_reducible show wpList _ _ _ (Oper.mk _ (Op.load _ _) _ _ _ _ :: _) _ _); first | (refine wpList_ldS (by rfl) _ _ rfl _ _ rfl hm _ _ (by repeat (first | apply In.a | apply In.b)) (by decide +kernel) _ (by simp only [List.getElem?_toArray, List.getElem?_cons_succ, List.getElem?_cons_zero]; first | done | exact rfl) ?_) | (refine wpList_laS (by rfl) _ _ rfl _ _ rfl hm _ _ (by repeat (first | apply In.a | apply In.b)) (by kernel_rfl) _ (by rfl) (by kernel_rfl) (by simp) _ (by simp only [List.toList_toArray, List.drop_succ_cons, List.drop_zero, List.size_toArray, List.length_cons, List.length_nil, Nat.reduceAdd, List.take_succ_cons, List.take_zero]; first | done | exact rfl) ?_)) | ((with_reducible show wpList _ _ _ (Oper.mk _ (Op.store _ _ _) _ _ _ _ :: _) _ _); (refine wpList_stS (by rfl) _ _ _ rfl _ _ rfl _ (by simp only [Act.eval, Array.getD_eq_getD_getElem?, List.getElem?_toArray, List.getElem?_cons_succ, List.getElem?_cons_zero, Option.getD_some]; first | done | exact rfl) hm _ (by simp only [Value.cells]; first | done | exact rfl) _ _ _ _ (by repeat (first | apply Put.a | apply Put.b)) (by kernel_rfl) (by simp [Value.oneCell']) (by simp) (by simp only [List.set_cons_zero, List.set_cons_succ, spl, List.toList_toArray, List.size_toArray, List.length_cons, List.length_nil, Nat.reduceAdd, Nat.zero_add, List.take_succ_cons, List.take_zero, List.drop_succ_cons, List.drop_zero, List.drop_nil, List.cons_append, List.nil_append, List.append_nil]; first | done | exact rfl) ?_; clear hm; intro w hz hm ho)) | ((with_reducible show wpList _ _ _ (Oper.mk _ (Op.alloc _) _ _ _ _ :: _) _ _); (refine wpList_al (by rfl) _ rfl _ rfl _ (by simp only [Value.cells]; first | done | exact rfl) hm ?_; clear hm; intro n w hn hz hm ho; (try simp only [List.cons_append, List.nil_append] at hm)))); try simp only [Act.put, List.setIfInBounds_toArray, List.set_cons_zero, List.set_cons_succ]) | (go_at_call 52; refine (HCK.out _).mono ?_; rintro e w2 ⟨rfl, hbl⟩; replace hm := hm.below hbl) | (go_at_call 39; refine (slices_Clone B dn dc d _ (by exact (HB.out.below (Mem.quiet hm HK.out)).more hm.only.size) (by omega)).mono ?_; rintro e w2 ⟨A2, c2, rfl, hown, hbl⟩; have HO := Lib.hid (hown.mono hm.only.size); replace hm := hm.got hbl hown; clear hown) | (go_at_call 53; refine (term_send _ g ⟨cla, ins, p1, p2, ⟨A2, dn, c2, d⟩, le, false⟩ true .nilFunc ⟨0, 0, 0, 0, 0⟩ false false 0 0 (.slice none 0 0) false (.slice none 0 0) 0 false (by exact hm.at_ 0 rfl) ⟨cla, ins, p1, p2, (dn : Int)⟩).mono ?_; rintro e w5 ⟨A5, c5, rfl, hown, ho2, hb2⟩; have HO5 := Lib.hid (And.intro (hown.mono hm.only.size) (And.intro (fun q (e : ownAt A5 c5 = some q) => (hown.lt q e).1) (And.intro hm.only.size (fun q (e : ownAt A2 c2 = some q) => hm.slt (List.mem_of_getElem? (i := 0) rfl) e)))); replace hm := hm.put 0 rfl ho2 hb2; clear hown hb2))
          go_ret2
          have hby : Byt w5 w5.heap.size A2 dn c2 d := (hm.sl_ 0 rfl).byt (Nat.le_refl _)
          have hfar := HO.out.far
          have hglt := HLT.out g hfg
          have hsub : ∀ q, ownAt A2 c2 = some q → w0.heap.size ≤ q ∧ q < w5.heap.size := fun q e => ⟨(HO.out.lt q e).1, hm.slt (List.mem_of_getElem? (i := 0) rfl) e⟩
          refine ⟨A5, c5, fun q => F q ∨ ownAt A2 c2 = some q, rfl, by rw [HP.out.1]; exact HO5.out.1, ⟨⟨cla, ins, p1, p2, ⟨A2, dn, c2, d⟩, le, false⟩, tphV g 0, ⟨cla, ins, p1, p2, (dn : Int)⟩, true, false, 0, 0, none, 0, [], none, 0, 0, 0, { ok := hok2, blk := hm.at_ 0 rfl, fg := .inl hfg, dat := Own.none_ _ _ _ _ _, fa := fun q e => (by cases e), act := fun _ => ⟨rfl, rfl, rfl, rfl, rfl, rfl, rfl, rfl, HP.out.2.1.symm, HP.out.2.2, rfl, rfl, rfl, fun h => absurd rfl h, rfl⟩, xd := fun _ => ⟨⟨hby, fun a e hn => .inr ?_⟩, fun a e hn => ⟨fun e2 => ?_, fun e2 => (by cases e2)⟩⟩, dn := fun e => (by cases e), lt := fun q hq => hq.elim (fun h => Nat.lt_of_lt_of_le (HLT.out q h) hm.only.size) (fun h => (hsub q h).2) }⟩, hm.only.mono (fun q _ e => e ▸ hfg), fun q hq => hq.imp id (fun h => (hsub q h).1), fun q hq e => ?_⟩
          · have hc := hby.2.1
            have e : A2 = some a := e
            have hn : 0 < dn := hn
            unfold ownAt; rw [if_neg (by omega), e]; rfl
          · have := hfar hn a e; omega
          · obtain ⟨_, h5, h6, h7⟩ := HO5.out
            have h5 := h5 q e
            rcases hq with h | h
            · have := HLT.out q h; omega
            · have := h7 q h
              omega
end Go.Proofs.Ytpacdjkikbdkeaa
