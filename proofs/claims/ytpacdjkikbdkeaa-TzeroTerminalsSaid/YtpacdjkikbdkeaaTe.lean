/-
  The protocol T=0, plainly: the terminal's side as a machine over bytes.
-/
import Derived.Test.YtpacdjkikbdkeaaTz
namespace Go.Proofs.Ytpacdjkikbdkeaa
set_option maxRecDepth 100000
set_option linter.unusedSimpArgs false
set_option linter.unusedVariables false
open Go.RowKit

namespace Te
structure T where
  act : Bool
  done : Bool
  bad : Bool
  cmd : Tz.Cmd
  ins : UInt8
  p3 : UInt8
  more : Bool
  moved : Bool
  need : Nat
  first : UInt8
  data : List UInt8
  sw : Int
def T.zero : T := ⟨false, false, false, ⟨0, 0, 0, 0, [], 0⟩, 0, 0, false, false, 0, 0, [], 0⟩
def failed : T := { T.zero with bad := true }
/-- The channel of a class byte. -/
def chan (cla : Int) : Int := if Apd.cok cla = true then cla % 4 else 0
/-- The data of the response that are handed out. -/
def cut (t : T) : List UInt8 := if Tz.sec t.cmd.cla = false ∧ t.cmd.le < (t.data.length : Int) then t.data.take t.cmd.le.toNat else t.data
def status (t : T) (b : UInt8) : T × List UInt8 :=
  if t.first = 0x61 then ({ t with first := 0, ins := 0xC0, p3 := b, more := true, moved := false }, [Tz.byte (chan t.cmd.cla), 0xC0, 0, 0, b])
  else ({ T.zero with done := true, data := cut t, sw := 256 * (t.first.toNat : Int) + (b.toNat : Int) }, [])
def ack (t : T) : T × List UInt8 :=
  if t.moved = true then (failed, [])
  else if t.more = false ∧ t.cmd.d ≠ [] then ({ t with moved := true }, t.cmd.d)
  else ({ t with moved := true, need := (Tz.cnt t.p3.toNat).toNat }, [])
def step (t : T) (b : UInt8) : T × List UInt8 :=
  if t.act = false then (t, [])
  else if 0 < t.need then ({ t with data := t.data ++ [b], need := t.need - 1 }, [])
  else if t.first ≠ 0 then status t b
  else if b = 0x60 then (t, [])
  else if b.toNat / 16 = 6 ∨ b.toNat / 16 = 9 then ({ t with first := b }, [])
  else if b = t.ins then ack t
  else (failed, [])
def recv (t : T) : List UInt8 → T × List UInt8
  | [] => (t, [])
  | b :: r => let x := step t b; let y := recv x.1 r; (y.1, x.2 ++ y.2)
/-- The error of a command that is to be sent. -/
def serr (t : T) (c : Tz.Cmd) (long : Bool) : Int :=
  if Apd.chk c.cla c.ins c.p1 c.p2 c.d.length c.le long ≠ 0 then Apd.chk c.cla c.ins c.p1 c.p2 c.d.length c.le long
  else if long = true then 4
  else if t.act = true then 14
  else 0
def p3of (c : Tz.Cmd) : UInt8 := Tz.byte (if c.d = [] then c.le else (c.d.length : Int))
def send (t : T) (c : Tz.Cmd) (long : Bool) : T × List UInt8 :=
  if serr t c long = 0 then ({ T.zero with act := true, cmd := c, ins := Tz.byte c.ins, p3 := p3of c }, [Tz.byte c.cla, Tz.byte c.ins, Tz.byte c.p1, Tz.byte c.p2, p3of c]) else (t, [])
/-- What always holds. -/
structure Ok (t : T) : Prop where
  nf : t.need = 0 ∨ t.first = 0
  nd : t.need ≤ 256
  c0 : 0 ≤ t.cmd.cla ∧ t.cmd.cla ≤ 255
  c1 : 0 ≤ t.cmd.ins ∧ t.cmd.ins ≤ 255
  c2 : 0 ≤ t.cmd.p1 ∧ t.cmd.p1 ≤ 255
  c3 : 0 ≤ t.cmd.p2 ∧ t.cmd.p2 ≤ 255
  le : 0 ≤ t.cmd.le ∧ t.cmd.le ≤ 256
  cd : t.cmd.d.length ≤ 255
  ad : t.act = true → t.done = false ∧ t.bad = false
  i6 : t.act = true → ¬ (t.ins.toNat / 16 = 6 ∨ t.ins.toNat / 16 = 9)
theorem Ok.zero : Ok T.zero := ⟨.inl rfl, by decide, by decide, by decide, by decide, by decide, by decide, by decide, fun h => (by cases h), fun h => (by cases h)⟩
theorem Ok.failed : Ok failed := ⟨.inl rfl, by decide, by decide, by decide, by decide, by decide, by decide, by decide, fun h => (by cases h), fun h => (by cases h)⟩
theorem Ok.status {t : T} (h : Ok t) (hn : t.need = 0) (b : UInt8) : Ok (status t b).1 := by
  unfold Te.status
  split
  · exact { h with nf := .inl hn, i6 := fun _ => by show ¬ ((192 : Nat) / 16 = 6 ∨ 192 / 16 = 9); omega, nd := h.nd, ad := h.ad, cd := h.cd }
  · exact { Ok.zero with ad := fun h => (by cases h), nf := .inl rfl, nd := Ok.zero.nd, cd := Ok.zero.cd, i6 := fun h => (by cases h) }
theorem Ok.ack {t : T} (h : Ok t) (hf : t.first = 0) : Ok (ack t).1 := by
  unfold Te.ack
  split
  · exact Ok.failed
  split
  · exact { h with nf := .inr hf, nd := h.nd, cd := h.cd, ad := h.ad, i6 := h.i6 }
  · have hp := t.p3.toNat_lt
    have := @Tz.cnt_le (t.p3.toNat : Int) (by omega) (by omega)
    exact { h with nf := .inr hf, nd := by show (Tz.cnt (t.p3.toNat : Int)).toNat ≤ 256; omega, cd := h.cd, ad := h.ad, i6 := h.i6 }
theorem Ok.step {t : T} (h : Ok t) (b : UInt8) : Ok (step t b).1 := by
  unfold Te.step
  split
  · exact h
  split
  · rename_i hn
    have hf : t.first = 0 := h.nf.resolve_left (by omega)
    have := h.nd
    exact { h with nf := .inr hf, nd := by show t.need - 1 ≤ 256; omega, cd := h.cd, ad := h.ad, i6 := h.i6 }
  split
  · rename_i hn hf
    exact h.status (by omega) b
  split
  · exact h
  split
  · rename_i hn _ _ _
    exact { h with nf := .inl (by show t.need = 0; omega), nd := h.nd, cd := h.cd, ad := h.ad, i6 := h.i6 }
  split
  · rename_i hf _ _ _
    exact h.ack (by simpa using hf)
  · exact Ok.failed
theorem Ok.recv {t : T} (h : Ok t) (bs : List UInt8) : Ok (recv t bs).1 := by
  induction bs generalizing t with
  | nil => exact h
  | cons b r ih => exact ih (h.step b)
theorem Apd_ok {cla ins p1 p2 : Int} {n : Nat} {le : Int} (h : Apd.chk cla ins p1 p2 n le false = 0) : (0 ≤ cla ∧ cla ≤ 255) ∧ (0 ≤ ins ∧ ins ≤ 255) ∧ (0 ≤ p1 ∧ p1 ≤ 255) ∧ (0 ≤ p2 ∧ p2 ≤ 255) ∧ n ≤ 255 ∧ (0 ≤ le ∧ le ≤ 256) ∧ ¬ (ins / 16 = 6 ∨ ins / 16 = 9) ∧ cla ≠ 255 := by
  unfold Apd.chk at h
  split at h
  · cases h
  rename_i h1
  split at h
  · cases h
  rename_i h2
  split at h
  · cases h
  rename_i h3
  split at h
  · cases h
  rename_i h4
  have h1 : Apd.byt cla = true ∧ Apd.byt ins = true ∧ Apd.byt p1 = true ∧ Apd.byt p2 = true := by simpa using h1
  obtain ⟨a, b, c, d⟩ := h1
  have a := of_decide_eq_true a
  have b := of_decide_eq_true b
  have c := of_decide_eq_true c
  have d := of_decide_eq_true d
  rw [Apd.maxD_f] at h3
  rw [Apd.maxL_f] at h4
  refine ⟨a, b, c, d, by omega, by omega, by omega, by omega⟩
theorem serr_zero {t : T} {c : Tz.Cmd} {long : Bool} (h : serr t c long = 0) : Apd.chk c.cla c.ins c.p1 c.p2 c.d.length c.le long = 0 ∧ long = false ∧ t.act = false := by
  unfold serr at h
  split at h
  · rename_i h1; exact absurd h h1
  rename_i h1
  split at h
  · cases h
  rename_i h2
  split at h
  · cases h
  rename_i h3
  exact ⟨by simpa using h1, by simpa using h2, by simpa using h3⟩
theorem Ok.send {t : T} (h : Ok t) (c : Tz.Cmd) (long : Bool) : Ok (send t c long).1 := by
  unfold Te.send
  split
  · rename_i he
    obtain ⟨h1, rfl, h3⟩ := serr_zero he
    obtain ⟨a, b, p1, p2, n, l, i, _⟩ := Apd_ok h1
    refine ⟨.inl rfl, Nat.zero_le _, a, b, p1, p2, l, n, fun _ => ⟨rfl, rfl⟩, fun _ => ?_⟩
    show ¬ ((Tz.byte c.ins).toNat / 16 = 6 ∨ (Tz.byte c.ins).toNat / 16 = 9)
    have := Tz.toNat_byte c.ins
    omega
  · exact h
theorem cut_len (t : T) : (cut t).length ≤ t.data.length := by
  unfold cut
  split
  · rw [List.length_take]; omega
  · exact Nat.le_refl _
theorem step_data (t : T) (b : UInt8) : (step t b).1.data.length ≤ t.data.length + 1 := by
  unfold step
  split
  · show t.data.length ≤ _; omega
  split
  · show (t.data ++ [b]).length ≤ _; simp
  split
  · unfold status
    split
    · show t.data.length ≤ _; omega
    · have := cut_len t
      show (cut t).length ≤ _
      omega
  split
  · show t.data.length ≤ _; omega
  split
  · show t.data.length ≤ _; omega
  split
  · unfold ack
    split
    · exact Nat.zero_le _
    split
    · show t.data.length ≤ _; omega
    · show t.data.length ≤ _; omega
  · exact Nat.zero_le _
theorem recv_data (t : T) (bs : List UInt8) : (recv t bs).1.data.length ≤ t.data.length + bs.length := by
  induction bs generalizing t with
  | nil => exact Nat.le_refl _
  | cons b r ih =>
    have h1 := step_data t b
    have h2 := ih (step t b).1
    show (recv (step t b).1 r).1.data.length ≤ _
    rw [List.length_cons]; omega
theorem step_len {t : T} (h : Ok t) (b : UInt8) : (step t b).2.length ≤ 255 := by
  unfold step
  split
  · exact Nat.zero_le _
  split
  · exact Nat.zero_le _
  split
  · unfold status
    split
    · show 5 ≤ 255; omega
    · exact Nat.zero_le _
  split
  · exact Nat.zero_le _
  split
  · exact Nat.zero_le _
  split
  · unfold ack
    split
    · exact Nat.zero_le _
    split
    · exact h.cd
    · exact Nat.zero_le _
  · exact Nat.zero_le _
theorem recv_len {t : T} (h : Ok t) (bs : List UInt8) : (recv t bs).2.length ≤ 255 * bs.length := by
  induction bs generalizing t with
  | nil => exact Nat.zero_le _
  | cons b r ih =>
    have h1 := step_len h b
    have h2 := ih (h.step b)
    simp only [recv, List.length_append, List.length_cons]
    omega
theorem recv_snoc (t : T) (a : List UInt8) (b : UInt8) : recv t (a ++ [b]) = ((step (recv t a).1 b).1, (recv t a).2 ++ (step (recv t a).1 b).2) := by
  induction a generalizing t with
  | nil => simp [recv]
  | cons x r ih => simp only [List.cons_append, recv]; rw [ih]; simp
theorem recv_append (t : T) (a b : List UInt8) : recv t (a ++ b) = ((recv (recv t a).1 b).1, (recv t a).2 ++ (recv (recv t a).1 b).2) := by
  induction a generalizing t with
  | nil => simp [recv]
  | cons x r ih => simp only [List.cons_append, recv]; rw [ih]; simp
theorem recv_idle (t : T) (h : t.act = false) (b : List UInt8) : recv t b = (t, []) := by
  induction b with
  | nil => rfl
  | cons x r ih => simp only [recv]; rw [show step t x = (t, []) from if_pos h, ih]; rfl
theorem recv_stop (t : T) (bs : List UInt8) (k : Nat) (h : (recv t (bs.take k)).1.act = false) : recv t bs = recv t (bs.take k) := by
  have h1 := recv_append t (bs.take k) (bs.drop k)
  rw [List.take_append_drop, recv_idle _ h] at h1
  rw [h1]; simp
end Te
end Go.Proofs.Ytpacdjkikbdkeaa
