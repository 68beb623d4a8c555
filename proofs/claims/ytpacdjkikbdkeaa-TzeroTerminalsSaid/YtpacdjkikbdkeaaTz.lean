/-
  The protocol T=0, plainly: the card's side as a machine over bytes.
-/
import Derived.Test.YtpacdjkikbdkeaaZ0
import Derived.Test.YtpacdjkikbdkeaaZ1
namespace Go.Proofs.Ytpacdjkikbdkeaa
set_option maxRecDepth 100000
set_option linter.unusedSimpArgs false
set_option linter.unusedVariables false
open Go.RowKit

namespace Tz
/-- A number's last byte. -/
def byte (z : Int) : UInt8 := UInt8.ofNat (z % 256).toNat
/-- A status word as bytes. -/
def wd (sw : Int) : List UInt8 := [byte (sw / 256), byte sw]
/-- The length that a byte denotes. -/
def cnt (n : Int) : Int := if n = 0 then 256 else n
/-- What the card has in mind. -/
structure Cmd where
  cla : Int
  ins : Int
  p1 : Int
  p2 : Int
  d : List UInt8
  le : Int
structure S where
  ph : Nat
  got : List UInt8
  cmd : Cmd
  kept : List UInt8
  sw : Int
def S.zero : S := ⟨0, [], ⟨0, 0, 0, 0, [], 0⟩, [], 0⟩
/-- Is a class byte one of secure messaging? -/
def sec (cla : Int) : Bool := Apd.cok cla && (cla / 4 % 2 == 1)
def inc (l : List Int) (cla ins : Int) : Bool := l.contains ins || sec cla
def left (first : Int) (n : Nat) : List UInt8 := [byte first, byte (if 256 ≤ n then 0 else (n : Int))]
/-- GET RESPONSE. -/
def more (s : S) (h1 h2 h3 h4 : Int) : S × List UInt8 :=
  if h2 ≠ 0 ∨ h3 ≠ 0 then (s, wd 0x6A86)
  else if s.sw = 0 then (s, wd 0x6985)
  else if (s.kept.length : Int) < cnt h4 then (s, left 0x6C s.kept.length)
  else if s.kept.length = (cnt h4).toNat then ({ s with kept := [], sw := 0 }, byte h1 :: s.kept ++ wd s.sw)
  else ({ s with kept := s.kept.drop (cnt h4).toNat }, byte h1 :: s.kept.take (cnt h4).toNat ++ left 0x61 (s.kept.drop (cnt h4).toNat).length)
/-- A whole header. -/
def head (l : List Int) (s : S) (h0 h1 h2 h3 h4 : Int) : S × List UInt8 :=
  if h0 = 255 then ({ s with got := [] }, wd 0x6E00)
  else if h1 / 16 = 6 ∨ h1 / 16 = 9 then ({ s with got := [] }, wd 0x6D00)
  else if Apd.cok h0 = true ∧ ¬ h0 / 128 = 1 ∧ h1 = 192 then more { s with got := [] } h1 h2 h3 h4
  else if inc l h0 h1 = true then
    (if h4 = 0 then (⟨2, [], ⟨h0, h1, h2, h3, [], 256⟩, [], 0⟩, []) else (⟨1, [byte h4], ⟨h0, h1, h2, h3, [], 256⟩, [], 0⟩, [byte h1]))
  else (⟨2, [], ⟨h0, h1, h2, h3, [], cnt h4⟩, [], 0⟩, [])
/-- One byte. -/
def step (l : List Int) (s : S) (b : UInt8) : S × List UInt8 :=
  if s.ph = 2 then (s, [])
  else if s.ph = 0 then
    (match s.got with
     | [a0, a1, a2, a3] => head l s a0.toNat a1.toNat a2.toNat a3.toNat b.toNat
     | _ => ({ s with got := s.got ++ [b] }, []))
  else if s.got.length = (s.got.getD 0 0).toNat then ({ s with ph := 2, got := [], cmd := { s.cmd with d := s.got.drop 1 ++ [b] } }, [])
  else ({ s with got := s.got ++ [b] }, [])
def recv (l : List Int) (s : S) : List UInt8 → S × List UInt8
  | [] => (s, [])
  | b :: r => let x := step l s b; let y := recv l x.1 r; (y.1, x.2 ++ y.2)
/-- The response to the command that waits. -/
def reply (l : List Int) (s : S) (d : List UInt8) (sw : Int) : S × List UInt8 :=
  if s.ph ≠ 2 then (s, [])
  else if 65536 < d.length ∨ Apd.wrd sw = false then ({ s with ph := 0, cmd := S.zero.cmd }, wd 0x6F00)
  else if d = [] then ({ s with ph := 0, cmd := S.zero.cmd }, wd sw)
  else if inc l s.cmd.cla s.cmd.ins = false ∧ (d.length : Int) = s.cmd.le then ({ s with ph := 0, cmd := S.zero.cmd }, byte s.cmd.ins :: d ++ wd sw)
  else ({ s with ph := 0, cmd := S.zero.cmd, kept := d, sw := sw }, left 0x61 d.length)
/-- What always holds. -/
structure Ok (s : S) : Prop where
  ph : s.ph ≤ 2
  hd : s.ph = 0 → s.got.length < 5
  dt : s.ph = 1 → 0 < s.got.length ∧ s.got.length ≤ (s.got.getD 0 0).toNat
  wt : s.ph = 2 → s.got = []
  sw : s.sw = 0 ∨ (0 < s.sw ∧ s.sw < 65536)
  kp : s.sw = 0 ↔ s.kept = []
  kl : s.kept.length ≤ 65536
  c0 : 0 ≤ s.cmd.cla ∧ s.cmd.cla ≤ 255
  c1 : 0 ≤ s.cmd.ins ∧ s.cmd.ins ≤ 255
  c2 : 0 ≤ s.cmd.p1 ∧ s.cmd.p1 ≤ 255
  c3 : 0 ≤ s.cmd.p2 ∧ s.cmd.p2 ≤ 255
  le : 0 ≤ s.cmd.le ∧ s.cmd.le ≤ 256
  cd : s.cmd.d.length ≤ 255
theorem toNat_byte (z : Int) : ((byte z).toNat : Int) = z % 256 := by
  unfold byte
  rw [UInt8.toNat_ofNat_of_lt' (by simp only [UInt8.size]; omega)]
  omega
theorem B8_byte (z : Int) : B8 (byte z) = .int .u8 (z % 256) := by rw [B8, toNat_byte]
theorem byte_toNat (b : UInt8) : byte (b.toNat : Int) = b := by
  have h := b.toNat_lt
  unfold byte
  rw [show ((b.toNat : Int) % 256).toNat = b.toNat by omega]
  simp
theorem Ok.zero : Ok S.zero := ⟨by decide, fun _ => by decide, fun h => (by cases h), fun h => (by cases h), .inl rfl, by simp [S.zero], by decide, by decide, by decide, by decide, by decide, by decide, by decide⟩
theorem cnt_le {h : Int} (h0 : 0 ≤ h) (h1 : h ≤ 255) : 0 < cnt h ∧ cnt h ≤ 256 := by unfold cnt; split <;> omega
theorem Ok.got0 {s : S} (h : Ok s) (h0 : s.ph = 0) : Ok { s with got := [] } :=
  { h with hd := fun _ => by show 0 < 5; omega, dt := fun e => by have e : s.ph = 1 := e; omega, wt := fun e => rfl }
theorem Ok.more {s : S} (h : Ok s) (h0 : s.ph = 0) (h1 h2 h3 h4 : Int) (hb : 0 ≤ h4 ∧ h4 ≤ 255) : Ok (more s h1 h2 h3 h4).1 := by
  have hc := cnt_le hb.1 hb.2
  have hn : ¬ s.ph = 1 ∧ ¬ s.ph = 2 := by omega
  unfold Tz.more
  split
  · exact h
  split
  · exact h
  split
  · exact h
  split
  · exact { h with sw := .inl rfl, kp := ⟨fun _ => rfl, fun _ => rfl⟩, kl := by show 0 ≤ _; omega, hd := h.hd, dt := h.dt, wt := h.wt, cd := h.cd }
  · rename_i h2 h3 h4'
    refine { h with kp := ⟨fun e => absurd e h2, fun e => ?_⟩, kl := ?_, hd := h.hd, dt := h.dt, wt := h.wt, cd := h.cd }
    · have e : s.kept.drop (cnt h4).toNat = [] := e
      have := congrArg List.length e
      rw [List.length_drop, List.length_nil] at this
      omega
    · show (s.kept.drop _).length ≤ _
      rw [List.length_drop]; have := h.kl; omega
theorem Ok.head {s : S} (h : Ok s) (h0 : s.ph = 0) (l : List Int) (a0 a1 a2 a3 a4 : UInt8) : Ok (head l s a0.toNat a1.toNat a2.toNat a3.toNat a4.toNat).1 := by
  have b0 := a0.toNat_lt
  have b1 := a1.toNat_lt
  have b2 := a2.toNat_lt
  have b3 := a3.toNat_lt
  have b4 := a4.toNat_lt
  have hc := @cnt_le (a4.toNat : Int) (by omega) (by omega)
  unfold Tz.head
  split
  · exact h.got0 h0
  split
  · exact h.got0 h0
  split
  · exact (h.got0 h0).more h0 _ _ _ _ (by omega)
  split
  · split
    · exact ⟨(by show 2 ≤ 2; omega), fun e => (by cases e), fun e => (by cases e), fun _ => rfl, .inl rfl, ⟨fun _ => rfl, fun _ => rfl⟩, by show 0 ≤ _; omega, by show 0 ≤ (a0.toNat : Int) ∧ (a0.toNat : Int) ≤ 255; omega, by show 0 ≤ (a1.toNat : Int) ∧ (a1.toNat : Int) ≤ 255; omega, by show 0 ≤ (a2.toNat : Int) ∧ (a2.toNat : Int) ≤ 255; omega, by show 0 ≤ (a3.toNat : Int) ∧ (a3.toNat : Int) ≤ 255; omega, by show (0 : Int) ≤ 256 ∧ (256 : Int) ≤ 256; omega, by show 0 ≤ _; omega⟩
    · rename_i h4
      refine ⟨(by show 1 ≤ 2; omega), fun e => (by cases e), fun _ => ⟨by show 0 < 1; omega, ?_⟩, fun e => (by cases e), .inl rfl, ⟨fun _ => rfl, fun _ => rfl⟩, by show 0 ≤ _; omega, by show 0 ≤ (a0.toNat : Int) ∧ (a0.toNat : Int) ≤ 255; omega, by show 0 ≤ (a1.toNat : Int) ∧ (a1.toNat : Int) ≤ 255; omega, by show 0 ≤ (a2.toNat : Int) ∧ (a2.toNat : Int) ≤ 255; omega, by show 0 ≤ (a3.toNat : Int) ∧ (a3.toNat : Int) ≤ 255; omega, by show (0 : Int) ≤ 256 ∧ (256 : Int) ≤ 256; omega, by show 0 ≤ _; omega⟩
      show 1 ≤ (byte (a4.toNat : Int)).toNat
      rw [byte_toNat]; omega
  · exact ⟨(by show 2 ≤ 2; omega), fun e => (by cases e), fun e => (by cases e), fun _ => rfl, .inl rfl, ⟨fun _ => rfl, fun _ => rfl⟩, by show 0 ≤ _; omega, by show 0 ≤ (a0.toNat : Int) ∧ (a0.toNat : Int) ≤ 255; omega, by show 0 ≤ (a1.toNat : Int) ∧ (a1.toNat : Int) ≤ 255; omega, by show 0 ≤ (a2.toNat : Int) ∧ (a2.toNat : Int) ≤ 255; omega, by show 0 ≤ (a3.toNat : Int) ∧ (a3.toNat : Int) ≤ 255; omega, by show (0 : Int) ≤ cnt _ ∧ cnt _ ≤ 256; omega, by show 0 ≤ _; omega⟩
theorem Ok.step {s : S} (h : Ok s) (l : List Int) (b : UInt8) : Ok (step l s b).1 := by
  unfold Tz.step
  split
  · exact h
  split
  · rename_i h2 h0
    split
    · exact h.head h0 l _ _ _ _ _
    · rename_i hne
      refine { h with hd := fun _ => ?_, dt := fun e => absurd h0 (by have e : s.ph = 1 := e; omega), wt := fun e => absurd e h2, cd := h.cd }
      show (s.got ++ [b]).length < 5
      have h5 := h.hd h0
      rw [List.length_append]
      show s.got.length + 1 < 5
      rcases Nat.lt_or_ge s.got.length 4 with h4 | h4
      · omega
      · exfalso
        match hg : s.got, h5, h4 with
        | [a0, a1, a2, a3], _, _ => exact hne _ _ _ _ hg
        | _ :: _ :: _ :: _ :: _ :: _, h5, _ => simp at h5; omega
        | [_, _, _], _, h4 => simp at h4
        | [_, _], _, h4 => simp at h4
        | [_], _, h4 => simp at h4
        | [], _, h4 => simp at h4
  · rename_i h2 h0
    have h1 : s.ph = 1 := by have := h.ph; omega
    obtain ⟨d0, d1⟩ := h.dt h1
    have hlt := (s.got.getD 0 0).toNat_lt
    split
    · rename_i he
      refine { h with ph := Nat.le_refl _, hd := fun e => (by cases e), dt := fun e => (by cases e), wt := fun _ => rfl, cd := ?_ }
      show (s.got.drop 1 ++ [b]).length ≤ 255
      rw [List.length_append, List.length_drop]
      show s.got.length - 1 + 1 ≤ 255
      omega
    · rename_i he
      refine { h with hd := fun e => absurd e h0, dt := fun _ => ?_, wt := fun e => absurd e h2, cd := h.cd }
      show 0 < (s.got ++ [b]).length ∧ (s.got ++ [b]).length ≤ ((s.got ++ [b]).getD 0 0).toNat
      have e1 : (s.got ++ [b]).getD 0 0 = s.got.getD 0 0 := by
        match hg : s.got, d0 with
        | x :: r, _ => simp
      rw [e1, List.length_append]
      show 0 < s.got.length + 1 ∧ s.got.length + 1 ≤ _
      omega
theorem Ok.recv {s : S} (h : Ok s) (l : List Int) (bs : List UInt8) : Ok (recv l s bs).1 := by
  induction bs generalizing s with
  | nil => exact h
  | cons b r ih => exact ih (h.step l b)
theorem Ok.reply {s : S} (h : Ok s) (l : List Int) (d : List UInt8) (sw : Int) : Ok (reply l s d sw).1 := by
  unfold Tz.reply
  split
  · exact h
  rename_i h2
  have h2 : s.ph = 2 := by omega
  have hg := h.wt h2
  have hk : Ok { s with ph := 0, cmd := S.zero.cmd } := { h with ph := Nat.zero_le _, hd := fun _ => by show s.got.length < 5; rw [hg]; decide, dt := fun e => (by cases e), wt := fun e => (by cases e), c0 := Ok.zero.c0, c1 := Ok.zero.c1, c2 := Ok.zero.c2, c3 := Ok.zero.c3, le := Ok.zero.le, cd := Ok.zero.cd }
  split
  · exact hk
  split
  · exact hk
  split
  · exact hk
  rename_i h3 h4 h5
  have h6 : ¬ 65536 < d.length := fun e => h3 (.inl e)
  have hw : Apd.wrd sw = true := by
    cases hw : Apd.wrd sw with
    | true => rfl
    | false => exact absurd (.inr hw) h3
  have hw2 : 0 < sw ∧ sw < 65536 := by
    have := of_decide_eq_true hw
    omega
  exact { hk with sw := .inr hw2, kp := ⟨fun e => absurd e (by show ¬ sw = 0; omega), fun e => absurd e h4⟩, kl := by show d.length ≤ _; omega, hd := hk.hd, dt := hk.dt, wt := hk.wt, cd := hk.cd }
/-- No byte makes more than 259 bytes. -/
theorem step_len {s : S} (h : Ok s) (l : List Int) (b : UInt8) : (step l s b).2.length ≤ 259 := by
  unfold step
  split
  · simp
  split
  · split
    · rename_i a0 a1 a2 a3 _
      unfold head
      split
      · simp [wd]
      split
      · simp [wd]
      split
      · have hc := @cnt_le (b.toNat : Int) (by omega) (by have := b.toNat_lt; omega)
        unfold more
        split
        · simp [wd]
        split
        · simp [wd]
        split
        · simp [left]
        split
        · rename_i he
          simp only [List.length_append, List.length_cons, wd, List.length_nil]
          have he : s.kept.length = (cnt (b.toNat : Int)).toNat := he
          show s.kept.length + 1 + _ ≤ _
          omega
        · simp only [List.length_append, List.length_cons, left, List.length_nil, List.length_take]
          omega
      split
      · split <;> simp
      · simp
    · simp
  · split <;> simp
theorem recv_len {s : S} (h : Ok s) (l : List Int) (bs : List UInt8) : (recv l s bs).2.length ≤ 259 * bs.length := by
  induction bs generalizing s with
  | nil => simp [recv]
  | cons b r ih =>
    have h1 := step_len h l b
    have h2 := ih (h.step l b)
    simp only [recv, List.length_append, List.length_cons]
    omega
theorem recv_snoc (l : List Int) (s : S) (a : List UInt8) (b : UInt8) : recv l s (a ++ [b]) = ((step l (recv l s a).1 b).1, (recv l s a).2 ++ (step l (recv l s a).1 b).2) := by
  induction a generalizing s with
  | nil => simp [recv]
  | cons x r ih => simp only [List.cons_append, recv]; rw [ih]; simp
theorem recv_append (l : List Int) (s : S) (a b : List UInt8) : recv l s (a ++ b) = ((recv l (recv l s a).1 b).1, (recv l s a).2 ++ (recv l (recv l s a).1 b).2) := by
  induction a generalizing s with
  | nil => simp [recv]
  | cons x r ih => simp only [List.cons_append, recv]; rw [ih]; simp
/-- Once a command waits, no byte counts. -/
theorem recv_wait (l : List Int) (s : S) (h : s.ph = 2) (b : List UInt8) : recv l s b = (s, []) := by
  induction b with
  | nil => rfl
  | cons x r ih => simp only [recv]; rw [show step l s x = (s, []) from if_pos h, ih]; rfl
end Tz
end Go.Proofs.Ytpacdjkikbdkeaa
