/-
  The memory of words that wear out, in plain mathematics. Nothing here names a program.
-/
namespace Go.Proofs.Ytdpfehdpglbidaa.Cel

structure Mem where
  words : List UInt32
  wear : List Int
  endurance : Int
  writes : Int
  cuts : Int
  off : Bool
  pending : Bool
  left : Int

def Mem.new (words : Nat) (endurance : Int) : Mem := ⟨List.replicate words 0, List.replicate words 0, endurance, 0, 0, false, false, 0⟩
/-- A word with one bit. -/
def bit (n : Nat) : UInt32 := UInt32.ofNat (2 ^ (n % 32))
def Mem.has (m : Mem) (a : Int) : Bool := decide (0 ≤ a ∧ a < m.words.length)
def Mem.access (m : Mem) (a : Int) : Int := if m.off then 7 else if m.has a then 0 else 2
/-- A write that takes place. -/
def Mem.put (m : Mem) (i : Nat) (v : UInt32) : Mem :=
  { m with writes := m.writes + 1, wear := m.wear.set i (m.wear.getD i 0 + 1), words := m.words.set i (if m.endurance < m.wear.getD i 0 + 1 then v ^^^ bit i else v) }
def Mem.down (m : Mem) : Mem := { m with off := true, pending := false, cuts := m.cuts + 1 }
def Mem.tick (m : Mem) : Mem := if m.pending then { m with left := m.left - 1 } else m
def Mem.write (m : Mem) (a : Int) (v : UInt32) : Mem × Int :=
  if m.access a ≠ 0 then (m, m.access a)
  else if m.pending = true ∧ m.left = 0 then (m.down, 7)
  else (m.tick.put a.toNat v, 0)
def Mem.read (m : Mem) (a : Int) : UInt32 × Int := if m.access a ≠ 0 then (0, m.access a) else (m.words.getD a.toNat 0, 0)
def Mem.wearOf (m : Mem) (a : Int) : Int := if m.has a then m.wear.getD a.toNat 0 else 0
theorem Mem.tick_no (m : Mem) (h : m.pending = false) : m.tick = m := by unfold Mem.tick; rw [if_neg (by rw [h]; decide)]
theorem Mem.tick_yes (m : Mem) (h : m.pending = true) : m.tick = { m with left := m.left - 1 } := by unfold Mem.tick; rw [if_pos h]
theorem Mem.put_yes (m : Mem) (i : Nat) (v : UInt32) (x : Int) (hx : m.wear.getD i 0 = x) (h : m.endurance < x + 1) :
    m.put i v = { m with writes := m.writes + 1, wear := m.wear.set i (x + 1), words := m.words.set i (v ^^^ bit i) } := by
  unfold Mem.put; rw [hx, if_pos h]
theorem Mem.put_no (m : Mem) (i : Nat) (v : UInt32) (x : Int) (hx : m.wear.getD i 0 = x) (h : ¬ m.endurance < x + 1) :
    m.put i v = { m with writes := m.writes + 1, wear := m.wear.set i (x + 1), words := m.words.set i v } := by
  unfold Mem.put; rw [hx, if_neg h]
theorem Mem.has_iff (m : Mem) (a : Int) : m.has a = true ↔ 0 ≤ a ∧ a < m.words.length := by simp [Mem.has]
theorem Mem.has_no (m : Mem) (a : Int) (h : ¬ (0 ≤ a ∧ a < m.words.length)) : m.has a = false := by
  unfold Mem.has; exact decide_eq_false h
theorem Mem.access_zero (m : Mem) (a : Int) : m.access a = 0 ↔ m.off = false ∧ m.has a = true := by
  unfold Mem.access
  cases m.off <;> cases m.has a <;> simp
def Mem.cut (m : Mem) (n : Int) : Mem × Int := if m.off then (m, 7) else if n < 0 then (m, 2) else ({ m with pending := true, left := n }, 0)
def Mem.restore (m : Mem) : Mem := { m with off := false, pending := false, left := 0 }
def Mem.flip (m : Mem) (a b : Int) : Mem × Int :=
  if m.has a ∧ 0 ≤ b ∧ b < 32 then ({ m with words := m.words.set a.toNat (m.words.getD a.toNat 0 ^^^ bit b.toNat) }, 0) else (m, 2)
/-- All of its numbers lie between 0 and K. -/
structure Fine (K : Int) (m : Mem) : Prop where
  writes : 0 ≤ m.writes ∧ m.writes ≤ K
  cuts : 0 ≤ m.cuts ∧ m.cuts ≤ K
  left : 0 ≤ m.left ∧ m.left ≤ 9223372036854775807
  wear : ∀ x ∈ m.wear, 0 ≤ x ∧ x ≤ K
theorem Fine.mono {K K' : Int} {m : Mem} (h : Fine K m) (hK : K ≤ K') : Fine K' m :=
  ⟨⟨h.writes.1, by have := h.writes.2; omega⟩, ⟨h.cuts.1, by have := h.cuts.2; omega⟩, h.left, fun x hx => ⟨(h.wear x hx).1, by have := (h.wear x hx).2; omega⟩⟩
theorem Fine.getD {K : Int} {m : Mem} (h : Fine K m) (hK : 0 ≤ K) (i : Nat) : 0 ≤ m.wear.getD i 0 ∧ m.wear.getD i 0 ≤ K := by
  rw [List.getD]
  cases hx : m.wear[i]? with
  | none => simp; exact hK
  | some x => exact h.wear x (List.mem_of_getElem? hx)
theorem fine_new (n : Nat) (en : Int) : Fine 0 (Mem.new n en) :=
  ⟨by simp [Mem.new], by simp [Mem.new], by simp [Mem.new], fun x hx => by simp [Mem.new] at hx; omega⟩
theorem Fine.down {K : Int} {m : Mem} (h : Fine K m) : Fine (K + 1) m.down :=
  ⟨⟨h.writes.1, by have := h.writes.2; simp only [Mem.down]; omega⟩, ⟨by have := h.cuts.1; simp only [Mem.down]; omega, by have := h.cuts.2; simp only [Mem.down]; omega⟩, h.left, fun x hx => ⟨(h.wear x hx).1, by have := (h.wear x hx).2; omega⟩⟩
theorem Fine.put {K : Int} {m : Mem} (h : Fine K m) (hK : 0 ≤ K) (i : Nat) (v : UInt32) : Fine (K + 1) (m.put i v) := by
  refine ⟨⟨by have := h.writes.1; simp only [Mem.put]; omega, by have := h.writes.2; simp only [Mem.put]; omega⟩, ⟨h.cuts.1, by have := h.cuts.2; simp only [Mem.put]; omega⟩, h.left, fun x hx => ?_⟩
  rcases List.mem_or_eq_of_mem_set hx with hx | rfl
  · exact ⟨(h.wear x hx).1, by have := (h.wear x hx).2; omega⟩
  · have := h.getD hK i; omega
theorem Fine.tick {K : Int} {m : Mem} (h : Fine K m) (hl : m.pending = true → m.left ≠ 0) : Fine K m.tick := by
  unfold Mem.tick
  split
  · rename_i hp
    have := hl hp
    exact ⟨h.writes, h.cuts, ⟨by have := h.left.1; simp only; omega, by have := h.left.2; simp only; omega⟩, h.wear⟩
  · exact h
theorem Fine.write {K : Int} {m : Mem} (h : Fine K m) (hK : 0 ≤ K) (a : Int) (v : UInt32) : Fine (K + 1) (m.write a v).1 := by
  unfold Mem.write
  split
  · exact h.mono (by omega)
  · split
    · exact h.down
    · rename_i hn; exact (h.tick fun hp hl => hn ⟨hp, hl⟩).put hK _ _
theorem Mem.write_no (m : Mem) (a : Int) (v : UInt32) (h : m.access a ≠ 0) : m.write a v = (m, m.access a) := by unfold Mem.write; rw [if_pos h]
theorem Mem.write_cut (m : Mem) (a : Int) (v : UInt32) (h : m.access a = 0) (hp : m.pending = true) (hl : m.left = 0) : m.write a v = (m.down, 7) := by
  unfold Mem.write; rw [if_neg (by rw [h]; simp), if_pos ⟨hp, hl⟩]
theorem Mem.write_yes (m : Mem) (a : Int) (v : UInt32) (h : m.access a = 0) (hp : ¬ (m.pending = true ∧ m.left = 0)) : m.write a v = (m.tick.put a.toNat v, 0) := by
  unfold Mem.write; rw [if_neg (by rw [h]; simp), if_neg hp]
end Go.Proofs.Ytdpfehdpglbidaa.Cel
