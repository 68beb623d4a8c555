/-
  A command and its response between a terminal and a card, plainly.
-/
import Derived.Test.YtpacdjkikbdkeaaTz
import Derived.Test.YtpacdjkikbdkeaaTe
namespace Go.Proofs.Ytpacdjkikbdkeaa
set_option maxRecDepth 100000
set_option linter.unusedSimpArgs false
set_option linter.unusedVariables false
set_option maxHeartbeats 2000000

namespace Tz
theorem byte_inj {z : Int} (h0 : 0 ≤ z) (h1 : z ≤ 255) : ((byte z).toNat : Int) = z := by rw [toNat_byte]; omega
/-- Five bytes are a header. -/
theorem recv_five (l : List Int) (c : Cmd) (kp : List UInt8) (sw : Int) (b0 b1 b2 b3 b4 : UInt8) :
    recv l ⟨0, [], c, kp, sw⟩ [b0, b1, b2, b3, b4] = ((head l ⟨0, [], c, kp, sw⟩ b0.toNat b1.toNat b2.toNat b3.toNat b4.toNat).1, (head l ⟨0, [], c, kp, sw⟩ b0.toNat b1.toNat b2.toNat b3.toNat b4.toNat).2) := by
  have e : ∀ g, head l ⟨0, g, c, kp, sw⟩ b0.toNat b1.toNat b2.toNat b3.toNat b4.toNat = head l ⟨0, [], c, kp, sw⟩ b0.toNat b1.toNat b2.toNat b3.toNat b4.toNat := fun g => rfl
  simp [recv, step, e]
/-- The data of a command. -/
theorem recv_data (l : List Int) (c : Cmd) (kp : List UInt8) (sw : Int) (p : UInt8) : ∀ (e g : List UInt8), e ≠ [] → p.toNat = g.length + e.length → recv l ⟨1, p :: g, c, kp, sw⟩ e = (⟨2, [], { c with d := g ++ e }, kp, sw⟩, [])
  | [], _, h, _ => absurd rfl h
  | [b], g, _, h => by
    simp only [List.length_cons, List.length_nil] at h
    have : step l ⟨1, p :: g, c, kp, sw⟩ b = (⟨2, [], { c with d := g ++ [b] }, kp, sw⟩, []) := by
      unfold step
      rw [if_neg (by show ¬ (1 : Nat) = 2; decide), if_neg (by show ¬ (1 : Nat) = 0; decide), if_pos (by show (p :: g).length = p.toNat; simp; omega)]
      rfl
    simp only [recv, this, List.append_nil]
  | b :: b2 :: r, g, _, h => by
    simp only [List.length_cons] at h
    have : step l ⟨1, p :: g, c, kp, sw⟩ b = (⟨1, p :: (g ++ [b]), c, kp, sw⟩, []) := by
      unfold step
      rw [if_neg (by show ¬ (1 : Nat) = 2; decide), if_neg (by show ¬ (1 : Nat) = 0; decide), if_neg (by show ¬ (p :: g).length = p.toNat; simp; omega)]
      rfl
    have ih := recv_data l c kp sw p (b2 :: r) (g ++ [b]) (by simp) (by simp; omega)
    rw [recv]
    simp only [this, ih, List.append_assoc, List.singleton_append, List.append_nil]
end Tz
namespace Te
/-- Data of the response. -/
theorem recv_need : ∀ (e : List UInt8) (t : T), t.act = true → t.need = e.length → recv t e = ({ t with data := t.data ++ e, need := 0 }, [])
  | [], t, _, h => by
    obtain ⟨a, dn, bd, c, i, p, m, v, nd, f, D, sw⟩ := t
    have h : nd = 0 := h
    subst h
    simp [recv]
  | b :: r, t, ha, h => by
    simp only [List.length_cons] at h
    have : step t b = ({ t with data := t.data ++ [b], need := t.need - 1 }, []) := by
      unfold step
      rw [if_neg (by rw [ha]; decide), if_pos (by omega)]
    have ih := recv_need r { t with data := t.data ++ [b], need := t.need - 1 } ha (by show t.need - 1 = _; omega)
    rw [recv]
    simp only [this, ih, List.append_assoc, List.singleton_append, List.append_nil]
theorem step_wait (t : T) (hn : t.need = 0) (hf : t.first = 0) : step t 0x60 = (t, []) := by
  unfold step
  cases h : t.act with
  | false => simp
  | true => rw [if_neg (by decide), if_neg (by omega), if_neg (by rw [hf]; decide), if_pos rfl]
theorem step_first (t : T) (ha : t.act = true) (hn : t.need = 0) (hf : t.first = 0) (b : UInt8) (h6 : b ≠ 0x60) (h : b.toNat / 16 = 6 ∨ b.toNat / 16 = 9) : step t b = ({ t with first := b }, []) := by
  unfold step
  rw [if_neg (by rw [ha]; decide), if_neg (by omega), if_neg (by rw [hf]; decide), if_neg h6, if_pos h]
theorem step_ins (t : T) (ha : t.act = true) (hn : t.need = 0) (hf : t.first = 0) (h : ¬ (t.ins.toNat / 16 = 6 ∨ t.ins.toNat / 16 = 9)) : step t t.ins = ack t := by
  unfold step
  rw [if_neg (by rw [ha]; decide), if_neg (by omega), if_neg (by rw [hf]; decide), if_neg (fun e => h (by rw [e]; left; decide)), if_neg h, if_pos rfl]
theorem step_second (t : T) (ha : t.act = true) (hn : t.need = 0) (hf : t.first ≠ 0) (b : UInt8) : step t b = status t b := by
  unfold step
  rw [if_neg (by rw [ha]; decide), if_neg (by omega), if_pos hf]
/-- A status word that ends the command. -/
theorem recv_sw (t : T) (ha : t.act = true) (hn : t.need = 0) (hf : t.first = 0) (sw : Int) (hw : Apd.wrd sw = true) (h61 : ¬ sw / 256 = 0x61) :
    recv t (Tz.wd sw) = ({ T.zero with done := true, data := cut t, sw := sw }, []) := by
  have hw := of_decide_eq_true hw
  have e1 : ((Tz.byte (sw / 256)).toNat : Int) = sw / 256 := Tz.byte_inj (by omega) (by omega)
  have e2 := Tz.toNat_byte sw
  have n0 : Tz.byte (sw / 256) ≠ 0 := fun e => by rw [e] at e1; simp at e1; omega
  have n6 : Tz.byte (sw / 256) ≠ 0x60 := fun e => by rw [e] at e1; simp at e1; omega
  have n61 : Tz.byte (sw / 256) ≠ 0x61 := fun e => by rw [e] at e1; simp at e1; omega
  have h1 := step_first t ha hn hf (Tz.byte (sw / 256)) n6 (by omega)
  have h2 := step_second { t with first := Tz.byte (sw / 256) } ha hn n0 (Tz.byte sw)
  have h3 : status { t with first := Tz.byte (sw / 256) } (Tz.byte sw) = ({ T.zero with done := true, data := cut t, sw := sw }, []) := by
    unfold status
    rw [if_neg n61]
    have : 256 * ((Tz.byte (sw / 256)).toNat : Int) + ((Tz.byte sw).toNat : Int) = sw := by rw [e1, e2]; omega
    simp only [this]
    rfl
  simp only [Tz.wd, recv, h1, h2, h3, List.append_nil]
/-- A status word 61. -/
theorem recv_61 (t : T) (ha : t.act = true) (hn : t.need = 0) (hf : t.first = 0) (b : UInt8) :
    recv t [0x61, b] = ({ t with first := 0, ins := 0xC0, p3 := b, more := true, moved := false }, [Tz.byte (chan t.cmd.cla), 0xC0, 0, 0, b]) := by
  have h1 := step_first t ha hn hf 0x61 (by decide) (by left; decide)
  have h2 := step_second { t with first := 0x61 } ha hn (by show (0x61 : UInt8) ≠ 0; decide) b
  have h3 : status { t with first := 0x61 } b = ({ t with first := 0, ins := 0xC0, p3 := b, more := true, moved := false }, [Tz.byte (chan t.cmd.cla), 0xC0, 0, 0, b]) := by
    unfold status
    rw [if_pos rfl]
  simp only [recv, h1, h2, h3, List.nil_append, List.append_nil]
end Te

namespace Td
open Tz (Cmd S byte wd sec inc cnt left)
open Te (T)
/-- What is given: a command, the response's data and status word, whether the card waits. -/
structure G where
  c : Cmd
  rd : List UInt8
  sw : Int
  wait : Bool
def G.case2 (x : G) : Prop := x.c.d = [] ∧ 0 < x.c.le
instance (x : G) : Decidable x.case2 := by unfold G.case2; infer_instance
structure G.Ok (x : G) : Prop where
  chk : Apd.chk x.c.cla x.c.ins x.c.p1 x.c.p2 x.c.d.length x.c.le false = 0
  ins : ¬ x.c.ins = 192
  rl : x.rd.length ≤ 3000
  wrd : Apd.wrd x.sw = true
  n61 : ¬ x.sw / 256 = 0x61
  safe : ¬ (sec x.c.cla = true ∧ x.case2)
theorem G.Ok.good {x : G} (hx : x.Ok) : ¬ (65536 < x.rd.length ∨ Apd.wrd x.sw = false) := by
  rintro (h | h)
  · have := hx.rl
    omega
  · rw [hx.wrd] at h
    cases h
def G.ls (x : G) : List Int := if sec x.c.cla = true ∨ x.case2 then [] else [x.c.ins]
def G.want (x : G) : Cmd := if x.case2 then x.c else { x.c with le := 256 }
def G.exp (x : G) : List UInt8 := if sec x.c.cla = false ∧ x.c.le < (x.rd.length : Int) then x.rd.take x.c.le.toNat else x.rd
def G.ws (x : G) : List UInt8 := if x.wait = true then [0x60] else []
/-- The terminal, while it waits for a procedure byte. -/
def tm (c : Cmd) (i p : UInt8) (m v : Bool) (D : List UInt8) : T := ⟨true, false, false, c, i, p, m, v, 0, 0, D, 0⟩
def kb (n : Nat) : UInt8 := byte (if 256 ≤ n then 0 else (n : Int))
def gr (x : G) (n : Nat) : List UInt8 := [byte (Te.chan x.c.cla), 0xC0, 0, 0, kb n]
/-- Where the exchange stands in round k. -/
def Ph (x : G) (k : Nat) (s : S) (t : T) (out : List UInt8) (n : Nat) : Prop :=
  (k = 0 ∧ s = S.zero ∧ t = tm x.c (byte x.c.ins) (Te.p3of x.c) false false [] ∧ out = [byte x.c.cla, byte x.c.ins, byte x.c.p1, byte x.c.p2, Te.p3of x.c] ∧ n = 0) ∨
  (k = 1 ∧ x.c.d ≠ [] ∧ s = ⟨1, [Te.p3of x.c], { x.c with d := [], le := 256 }, [], 0⟩ ∧ t = tm x.c (byte x.c.ins) (Te.p3of x.c) false true [] ∧ out = x.c.d ∧ n = 0) ∨
  (256 * k + s.kept.length ≤ 512 + 3000 ∧ s.kept ≠ [] ∧ s = ⟨0, [], S.zero.cmd, s.kept, x.sw⟩ ∧ (∃ D, D ++ s.kept = x.rd ∧ t = tm x.c 0xC0 (kb s.kept.length) true false D) ∧ out = gr x s.kept.length ∧ n = 1) ∨
  (out = [] ∧ t = { T.zero with done := true, data := x.exp, sw := x.sw } ∧ n = 1)
theorem kb_cnt {n : Nat} (h : 0 < n) : cnt ((kb n).toNat : Int) = if 256 ≤ n then 256 else (n : Int) := by
  unfold kb
  split
  · rw [Tz.toNat_byte]; rfl
  · rw [Tz.byte_inj (by omega) (by omega)]
    unfold cnt
    rw [if_neg (by omega)]
theorem chan_r (cla : Int) : 0 ≤ Te.chan cla ∧ Te.chan cla ≤ 3 := by
  unfold Te.chan
  split <;> omega
theorem cut_exp (x : G) (i p : UInt8) (m v : Bool) : Te.cut (tm x.c i p m v x.rd) = x.exp := rfl
theorem exp_nil (x : G) (h : x.rd = []) : x.exp = [] := by
  unfold G.exp
  rw [h]
  split <;> simp
/-- The answer to GET RESPONSE, and what the terminal makes of it. -/
theorem get_resp (x : G) (hx : x.Ok) (k : Nat) (kp D : List UInt8) (hk : 256 * k + kp.length ≤ 512 + 3000) (hne : kp ≠ []) (hD : D ++ kp = x.rd) :
    ∃ s b, Tz.recv x.ls ⟨0, [], S.zero.cmd, kp, x.sw⟩ (gr x kp.length) = (s, b) ∧ s.ph ≠ 2 ∧ Ph x (k + 1) s (Te.recv (tm x.c 0xC0 (kb kp.length) true false D) b).1 (Te.recv (tm x.c 0xC0 (kb kp.length) true false D) b).2 1 := by
  have hpos : 0 < kp.length := List.length_pos_iff.2 hne
  have hcr := chan_r x.c.cla
  have hsw := of_decide_eq_true hx.wrd
  have hc := kb_cnt hpos
  have hcc : ((byte (Te.chan x.c.cla)).toNat : Int) = Te.chan x.c.cla := Tz.byte_inj (by omega) (by omega)
  have hcok : Apd.cok (Te.chan x.c.cla) = true := decide_eq_true (by omega)
  have hm : Tz.head x.ls ⟨0, [], S.zero.cmd, kp, x.sw⟩ (byte (Te.chan x.c.cla)).toNat (0xC0 : UInt8).toNat (0 : UInt8).toNat (0 : UInt8).toNat (kb kp.length).toNat = Tz.more ⟨0, [], S.zero.cmd, kp, x.sw⟩ 192 0 0 (kb kp.length).toNat := by
    rw [hcc]
    unfold Tz.head
    rw [if_neg (by omega), if_neg (by decide), if_pos ⟨hcok, by omega, rfl⟩]
    rfl
  have hins := Te.step_ins (tm x.c 0xC0 (kb kp.length) true false D) rfl rfl rfl (by show ¬ ((0xC0 : UInt8).toNat / 16 = 6 ∨ (0xC0 : UInt8).toNat / 16 = 9); decide)
  have hack : Te.ack (tm x.c 0xC0 (kb kp.length) true false D) = ({ tm x.c 0xC0 (kb kp.length) true true D with need := (cnt ((kb kp.length).toNat : Int)).toNat }, []) := by
    unfold Te.ack
    rw [if_neg (by show ¬ false = true; decide), if_neg (by rintro ⟨h, _⟩; exact absurd h (by show ¬ true = false; decide))]
    rfl
  rw [hack] at hins
  have hst : Te.step (tm x.c 0xC0 (kb kp.length) true false D) (byte 192) = ({ tm x.c 0xC0 (kb kp.length) true true D with need := (cnt ((kb kp.length).toNat : Int)).toNat }, []) := hins
  by_cases hbig : 256 < kp.length
  · -- more is left
    have hc2 : cnt ((kb kp.length).toNat : Int) = 256 := by rw [hc, if_pos (by omega)]
    have hmm : Tz.more ⟨0, [], S.zero.cmd, kp, x.sw⟩ 192 0 0 (kb kp.length).toNat = (⟨0, [], S.zero.cmd, kp.drop 256, x.sw⟩, byte 192 :: kp.take 256 ++ left 0x61 (kp.drop 256).length) := by
      unfold Tz.more
      rw [if_neg (by simp), if_neg (by show ¬ x.sw = 0; omega), hc2, if_neg (by show ¬ (kp.length : Int) < 256; omega), if_neg (by show ¬ kp.length = (256 : Int).toNat; omega)]
      rfl
    refine ⟨_, _, by rw [gr, Tz.recv_five, hm, hmm], by show (0 : Nat) ≠ 2; decide, ?_⟩
    have hb1 : byte 0x61 = 0x61 := by decide
    have hl2 : left 0x61 (kp.drop 256).length = [0x61, kb (kp.drop 256).length] := by unfold left kb; rw [hb1]
    have hrv : Te.recv (tm x.c 0xC0 (kb kp.length) true false D) (byte 192 :: kp.take 256 ++ left 0x61 (kp.drop 256).length) = (tm x.c 0xC0 (kb (kp.drop 256).length) true false (D ++ kp.take 256), gr x (kp.drop 256).length) := by
      rw [List.cons_append, Te.recv, hst, hc2, hl2, Te.recv_append]
      have h1 := Te.recv_need (kp.take 256) { tm x.c 0xC0 (kb kp.length) true true D with need := (256 : Int).toNat } rfl (by show (256 : Int).toNat = _; rw [List.length_take]; omega)
      simp only [h1]
      have h2 := Te.recv_61 { tm x.c 0xC0 (kb kp.length) true true D with data := D ++ kp.take 256 } rfl rfl rfl (kb (kp.drop 256).length)
      have h3 : ({ ({ tm x.c 0xC0 (kb kp.length) true true D with need := (256 : Int).toNat } : T) with data := (tm x.c 0xC0 (kb kp.length) true true D).data ++ kp.take 256, need := 0 } : T) = { tm x.c 0xC0 (kb kp.length) true true D with data := D ++ kp.take 256 } := rfl
      simp only [h3, h2, List.nil_append]
      rfl
    rw [hrv]
    refine .inr (.inr (.inl ⟨?_, ?_, rfl, ⟨D ++ kp.take 256, ?_, rfl⟩, rfl, rfl⟩))
    · show 256 * (k + 1) + (kp.drop 256).length ≤ _
      rw [List.length_drop]; omega
    · show kp.drop 256 ≠ []
      intro e
      have := congrArg List.length e
      rw [List.length_drop, List.length_nil] at this
      omega
    · show D ++ kp.take 256 ++ kp.drop 256 = x.rd
      rw [List.append_assoc, List.take_append_drop, hD]
  · have hc2 : cnt ((kb kp.length).toNat : Int) = (kp.length : Int) := by
      rw [hc]; split <;> omega
    have hmm : Tz.more ⟨0, [], S.zero.cmd, kp, x.sw⟩ 192 0 0 (kb kp.length).toNat = (⟨0, [], S.zero.cmd, [], 0⟩, byte 192 :: kp ++ wd x.sw) := by
      unfold Tz.more
      rw [if_neg (by simp), if_neg (by show ¬ x.sw = 0; omega), hc2, if_neg (by show ¬ (kp.length : Int) < (kp.length : Int); omega), if_pos (by show kp.length = (kp.length : Int).toNat; omega)]
    refine ⟨_, _, by rw [gr, Tz.recv_five, hm, hmm], by show (0 : Nat) ≠ 2; decide, ?_⟩
    have hrv : Te.recv (tm x.c 0xC0 (kb kp.length) true false D) (byte 192 :: kp ++ wd x.sw) = ({ T.zero with done := true, data := x.exp, sw := x.sw }, []) := by
      rw [List.cons_append, Te.recv, hst, hc2, Te.recv_append]
      have h1 := Te.recv_need kp { tm x.c 0xC0 (kb kp.length) true true D with need := (kp.length : Int).toNat } rfl (by show (kp.length : Int).toNat = _; omega)
      simp only [h1]
      have h3 : ({ ({ tm x.c 0xC0 (kb kp.length) true true D with need := (kp.length : Int).toNat } : T) with data := (tm x.c 0xC0 (kb kp.length) true true D).data ++ kp, need := 0 } : T) = tm x.c 0xC0 (kb kp.length) true true x.rd := by
        show ({ tm x.c 0xC0 (kb kp.length) true true D with data := D ++ kp } : T) = _
        rw [hD]; rfl
      have h2 := Te.recv_sw (tm x.c 0xC0 (kb kp.length) true true x.rd) rfl rfl rfl x.sw hx.wrd hx.n61
      rw [cut_exp] at h2
      simp only [h3, h2, List.nil_append]
    rw [hrv]
    exact .inr (.inr (.inr ⟨rfl, rfl, rfl⟩))
/-- The response to the command that waits, and what the terminal makes of it. -/
theorem replied (x : G) (hx : x.Ok) (k : Nat) (hk : k ≤ 1) (v : Bool) (hv : v = true → x.c.d ≠ []) (hv2 : x.c.d ≠ [] → v = true) :
    Ph x (k + 1) (Tz.reply x.ls ⟨2, [], x.want, [], 0⟩ x.rd x.sw).1 (Te.recv (tm x.c (byte x.c.ins) (Te.p3of x.c) false v []) (x.ws ++ (Tz.reply x.ls ⟨2, [], x.want, [], 0⟩ x.rd x.sw).2)).1
      (Te.recv (tm x.c (byte x.c.ins) (Te.p3of x.c) false v []) (x.ws ++ (Tz.reply x.ls ⟨2, [], x.want, [], 0⟩ x.rd x.sw).2)).2 1 := by
  obtain ⟨h1, h2, h3, h4, h5, h6, h7, h8⟩ := Te.Apd_ok hx.chk
  have hrl := hx.rl
  have hws : ∀ b, Te.recv (tm x.c (byte x.c.ins) (Te.p3of x.c) false v []) (x.ws ++ b) = Te.recv (tm x.c (byte x.c.ins) (Te.p3of x.c) false v []) b := fun b => by
    unfold G.ws
    split
    · rw [List.singleton_append, Te.recv, Te.step_wait _ rfl rfl]
      rfl
    · rfl
  rw [hws]
  by_cases e0 : x.rd = []
  · have hr : Tz.reply x.ls ⟨2, [], x.want, [], 0⟩ x.rd x.sw = (⟨0, [], S.zero.cmd, [], 0⟩, wd x.sw) := by
      unfold Tz.reply
      rw [if_neg (by show ¬ (2 : Nat) ≠ 2; decide), if_neg (hx.good), if_pos e0]
    rw [hr]
    have := Te.recv_sw (tm x.c (byte x.c.ins) (Te.p3of x.c) false v []) rfl rfl rfl x.sw hx.wrd hx.n61
    have hc : Te.cut (tm x.c (byte x.c.ins) (Te.p3of x.c) false v []) = x.exp := by rw [exp_nil x e0]; unfold Te.cut; split <;> simp [tm]
    rw [hc] at this
    simp only [this]
    exact .inr (.inr (.inr ⟨rfl, rfl, rfl⟩))
  have hwi : x.want.cla = x.c.cla ∧ x.want.ins = x.c.ins := by unfold G.want; split <;> exact ⟨rfl, rfl⟩
  by_cases e1 : inc x.ls x.want.cla x.want.ins = false ∧ (x.rd.length : Int) = x.want.le
  · have hr : Tz.reply x.ls ⟨2, [], x.want, [], 0⟩ x.rd x.sw = (⟨0, [], S.zero.cmd, [], 0⟩, byte x.c.ins :: x.rd ++ wd x.sw) := by
      unfold Tz.reply
      rw [if_neg (by show ¬ (2 : Nat) ≠ 2; decide), if_neg (hx.good), if_neg e0, if_pos e1]
      show (_, byte x.want.ins :: x.rd ++ wd x.sw) = _
      rw [hwi.2]
    -- the header was outgoing: case 2
    have hc2 : x.case2 := by
      by_cases h : x.case2
      · exact h
      · exfalso
        have := e1.1
        rw [hwi.1, hwi.2] at this
        unfold inc G.ls at this
        by_cases hs : sec x.c.cla = true
        · rw [hs, Bool.or_true] at this; cases this
        · rw [if_neg (fun e => e.elim hs h)] at this
          simp at this
    have hle : (x.rd.length : Int) = x.c.le := by have := e1.2; unfold G.want at this; rw [if_pos hc2] at this; exact this
    have hvf : v = false := by
      cases hvv : v with
      | false => rfl
      | true => exact absurd hc2.1 (hv hvv)
    subst hvf
    have hp : cnt ((Te.p3of x.c).toNat : Int) = x.c.le := by
      unfold Te.p3of
      rw [if_pos hc2.1, Tz.toNat_byte]
      have := hc2.2
      unfold cnt
      split <;> omega
    have hbi : ((byte x.c.ins).toNat : Int) = x.c.ins := Tz.byte_inj h2.1 h2.2
    have hst := Te.step_ins (tm x.c (byte x.c.ins) (Te.p3of x.c) false false []) rfl rfl rfl (by show ¬ ((byte x.c.ins).toNat / 16 = 6 ∨ (byte x.c.ins).toNat / 16 = 9); omega)
    have hst2 : Te.step (tm x.c (byte x.c.ins) (Te.p3of x.c) false false []) (byte x.c.ins) = ({ tm x.c (byte x.c.ins) (Te.p3of x.c) false true [] with need := x.rd.length }, []) := by
      refine hst.trans ?_
      unfold Te.ack
      rw [if_neg (by show ¬ false = true; decide), if_neg (by rintro ⟨_, h⟩; exact h hc2.1)]
      show (({ tm x.c (byte x.c.ins) (Te.p3of x.c) false true [] with need := (cnt ((Te.p3of x.c).toNat : Int)).toNat } : T), _) = _
      rw [hp, ← hle]
      rfl
    rw [hr]
    have hrv : Te.recv (tm x.c (byte x.c.ins) (Te.p3of x.c) false false []) (byte x.c.ins :: x.rd ++ wd x.sw) = ({ T.zero with done := true, data := x.exp, sw := x.sw }, []) := by
      rw [List.cons_append, Te.recv, hst2, Te.recv_append]
      have h1 := Te.recv_need x.rd { tm x.c (byte x.c.ins) (Te.p3of x.c) false true [] with need := x.rd.length } rfl rfl
      simp only [h1]
      have h3 : ({ ({ tm x.c (byte x.c.ins) (Te.p3of x.c) false true [] with need := x.rd.length } : T) with data := (tm x.c (byte x.c.ins) (Te.p3of x.c) false true []).data ++ x.rd, need := 0 } : T) = tm x.c (byte x.c.ins) (Te.p3of x.c) false true x.rd := rfl
      have h2 := Te.recv_sw (tm x.c (byte x.c.ins) (Te.p3of x.c) false true x.rd) rfl rfl rfl x.sw hx.wrd hx.n61
      rw [cut_exp] at h2
      simp only [h3, h2, List.nil_append]
    simp only [hrv]
    exact .inr (.inr (.inr ⟨rfl, rfl, rfl⟩))
  · have hr : Tz.reply x.ls ⟨2, [], x.want, [], 0⟩ x.rd x.sw = (⟨0, [], S.zero.cmd, x.rd, x.sw⟩, left 0x61 x.rd.length) := by
      unfold Tz.reply
      rw [if_neg (by show ¬ (2 : Nat) ≠ 2; decide), if_neg (hx.good), if_neg e0, if_neg e1]
    rw [hr]
    have hb1 : byte 0x61 = 0x61 := by decide
    have hl2 : left 0x61 x.rd.length = [0x61, kb x.rd.length] := by unfold left kb; rw [hb1]
    have h61 := Te.recv_61 (tm x.c (byte x.c.ins) (Te.p3of x.c) false v []) rfl rfl rfl (kb x.rd.length)
    simp only [hl2, h61]
    exact .inr (.inr (.inl ⟨by show 256 * (k + 1) + x.rd.length ≤ _; omega, e0, rfl, ⟨[], rfl, rfl⟩, rfl, rfl⟩))
/-- One round. -/
theorem round (x : G) (hx : x.Ok) (k : Nat) (s : S) (t : T) (out : List UInt8) (n : Nat) (h : Ph x k s t out n) (ho : out ≠ []) :
    k < 60 ∧ ∃ s1 b, Tz.recv x.ls s out = (s1, b) ∧
      (s1.ph = 2 → s1.cmd = x.want ∧ n = 0 ∧ Ph x (k + 1) (Tz.reply x.ls s1 x.rd x.sw).1 (Te.recv t (b ++ x.ws ++ (Tz.reply x.ls s1 x.rd x.sw).2)).1 (Te.recv t (b ++ x.ws ++ (Tz.reply x.ls s1 x.rd x.sw).2)).2 (n + 1)) ∧
      (s1.ph ≠ 2 → Ph x (k + 1) s1 (Te.recv t b).1 (Te.recv t b).2 n) := by
  obtain ⟨h1, h2, h3, h4, h5, h6, h7, h8⟩ := Te.Apd_ok hx.chk
  rcases h with ⟨rfl, rfl, rfl, rfl, rfl⟩ | ⟨rfl, hd, rfl, rfl, rfl, rfl⟩ | ⟨hk, hne, hs, ⟨D, hD, rfl⟩, rfl, rfl⟩ | ⟨rfl, _⟩
  · refine ⟨by omega, ?_⟩
    have f0 : ((byte x.c.cla).toNat : Int) = x.c.cla := Tz.byte_inj h1.1 h1.2
    have f1 : ((byte x.c.ins).toNat : Int) = x.c.ins := Tz.byte_inj h2.1 h2.2
    have f2 : ((byte x.c.p1).toNat : Int) = x.c.p1 := Tz.byte_inj h3.1 h3.2
    have f3 : ((byte x.c.p2).toNat : Int) = x.c.p2 := Tz.byte_inj h4.1 h4.2
    have hz : S.zero = ⟨0, [], S.zero.cmd, [], 0⟩ := rfl
    have hh : Tz.head x.ls ⟨0, [], S.zero.cmd, [], 0⟩ (byte x.c.cla).toNat (byte x.c.ins).toNat (byte x.c.p1).toNat (byte x.c.p2).toNat (Te.p3of x.c).toNat =
        if inc x.ls x.c.cla x.c.ins = true then (if ((Te.p3of x.c).toNat : Int) = 0 then (⟨2, [], ⟨x.c.cla, x.c.ins, x.c.p1, x.c.p2, [], 256⟩, [], 0⟩, []) else (⟨1, [byte (Te.p3of x.c).toNat], ⟨x.c.cla, x.c.ins, x.c.p1, x.c.p2, [], 256⟩, [], 0⟩, [byte x.c.ins]))
        else (⟨2, [], ⟨x.c.cla, x.c.ins, x.c.p1, x.c.p2, [], cnt (Te.p3of x.c).toNat⟩, [], 0⟩, []) := by
      rw [f0, f1, f2, f3]
      unfold Tz.head
      rw [if_neg h8, if_neg h7, if_neg (fun e => hx.ins e.2.2)]
    rw [hz, Tz.recv_five, hh]
    by_cases hc2 : x.case2
    · have hns : ¬ sec x.c.cla = true := fun e => hx.safe ⟨e, hc2⟩
      have hi : inc x.ls x.c.cla x.c.ins = false := by
        unfold inc G.ls
        rw [if_pos (.inr hc2)]
        simpa using hns
      have hp : cnt ((Te.p3of x.c).toNat : Int) = x.c.le := by
        unfold Te.p3of
        rw [if_pos hc2.1, Tz.toNat_byte]
        have := hc2.2
        unfold cnt
        split <;> omega
      have hw : (⟨x.c.cla, x.c.ins, x.c.p1, x.c.p2, [], cnt ((Te.p3of x.c).toNat : Int)⟩ : Cmd) = x.want := by
        unfold G.want
        rw [if_pos hc2, hp]
        obtain ⟨⟨a, b, c, d, e, f⟩, rd, sw, wt⟩ := x
        obtain ⟨e1, _⟩ := hc2
        have e1 : e = [] := e1
        subst e1
        rfl
      rw [hi, if_neg (by decide), hw]
      refine ⟨_, _, rfl, fun _ => ⟨rfl, rfl, ?_⟩, fun e => absurd rfl e⟩
      exact replied x hx 0 (by omega) false (fun e => by cases e) (fun e => absurd hc2.1 e)
    · have hi : inc x.ls x.c.cla x.c.ins = true := by
        unfold inc G.ls
        by_cases hs : sec x.c.cla = true
        · rw [hs, Bool.or_true]
        · rw [if_neg (fun e => e.elim hs hc2)]; simp
      rw [hi, if_pos rfl]
      have hwnt : x.want = { x.c with le := 256 } := if_neg hc2
      by_cases hd : x.c.d = []
      · -- case 1
        have hle : x.c.le = 0 := by
          have : ¬ 0 < x.c.le := fun e => hc2 ⟨hd, e⟩
          omega
        have hp : ((Te.p3of x.c).toNat : Int) = 0 := by unfold Te.p3of; rw [if_pos hd, hle]; rfl
        have hw : (⟨x.c.cla, x.c.ins, x.c.p1, x.c.p2, [], 256⟩ : Cmd) = x.want := by rw [hwnt, ← hd]
        rw [if_pos hp, hw]
        refine ⟨_, _, rfl, fun _ => ⟨rfl, rfl, ?_⟩, fun e => absurd rfl e⟩
        exact replied x hx 0 (by omega) false (fun e => by cases e) (fun e => absurd hd e)
      · have hdl : 0 < x.c.d.length := List.length_pos_iff.2 hd
        have hp : ((Te.p3of x.c).toNat : Int) = x.c.d.length := by unfold Te.p3of; rw [if_neg hd]; exact Tz.byte_inj (by omega) (by omega)
        rw [if_neg (by omega)]
        refine ⟨_, _, rfl, fun e => absurd e (by show ¬ (1 : Nat) = 2; decide), fun _ => ?_⟩
        have hst := Te.step_ins (tm x.c (byte x.c.ins) (Te.p3of x.c) false false []) rfl rfl rfl (by show ¬ ((byte x.c.ins).toNat / 16 = 6 ∨ (byte x.c.ins).toNat / 16 = 9); omega)
        have hst2 : Te.step (tm x.c (byte x.c.ins) (Te.p3of x.c) false false []) (byte x.c.ins) = (tm x.c (byte x.c.ins) (Te.p3of x.c) false true [], x.c.d) := by
          refine hst.trans ?_
          unfold Te.ack
          rw [if_neg (by show ¬ false = true; decide), if_pos ⟨rfl, hd⟩]
          rfl
        simp only [Te.recv, hst2, List.append_nil]
        refine .inr (.inl ⟨rfl, hd, ?_, rfl, rfl, rfl⟩)
        rw [Tz.byte_toNat]
  · refine ⟨by omega, ?_⟩
    have hdl : 0 < x.c.d.length := List.length_pos_iff.2 hd
    have hp : (Te.p3of x.c).toNat = x.c.d.length := by
      have : ((Te.p3of x.c).toNat : Int) = x.c.d.length := by unfold Te.p3of; rw [if_neg hd]; exact Tz.byte_inj (by omega) (by omega)
      omega
    have hr := Tz.recv_data x.ls { x.c with d := [], le := 256 } [] 0 (Te.p3of x.c) x.c.d [] hd (by simpa using hp)
    have hc2 : ¬ x.case2 := fun e => hd e.1
    have hw : ({ ({ x.c with d := [], le := 256 } : Cmd) with d := [] ++ x.c.d } : Cmd) = x.want := by unfold G.want; rw [if_neg hc2]; rfl
    rw [hw] at hr
    refine ⟨_, _, hr, fun _ => ⟨rfl, rfl, ?_⟩, fun e => absurd rfl e⟩
    exact replied x hx 1 (by omega) true (fun _ => hd) (fun _ => rfl)
  · refine ⟨by have : 0 < s.kept.length := List.length_pos_iff.2 hne; omega, ?_⟩
    obtain ⟨s1, b, h1, h2, h3⟩ := get_resp x hx k s.kept D hk hne hD
    rw [hs]
    refine ⟨s1, b, h1, fun e => absurd e h2, fun _ => h3⟩
  · exact absurd rfl ho
end Td
end Go.Proofs.Ytpacdjkikbdkeaa
