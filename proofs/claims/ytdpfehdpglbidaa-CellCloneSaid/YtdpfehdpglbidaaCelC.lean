/-
  The plain law of the statement CellCut. Nothing here names a program.
-/
import Derived.Test.YtdpfehdpglbidaaCel
namespace Go.Proofs.Ytdpfehdpglbidaa.Cel

/-- The memory after k writes, a cut planned after n. -/
structure CutSt (m : Mem) (n : Int) (k : Nat) : Prop where
  lenw : m.words.length = 8
  len : m.wear.length = 8
  en : m.endurance = 1000
  fine : Fine k m
  off : m.off = decide (n < (k : Int))
  on : (k : Int) ≤ n → m.pending = true ∧ m.left = n - k ∧ m.cuts = 0 ∧ m.writes = k
  out : n < (k : Int) → m.pending = false ∧ m.cuts = 1 ∧ m.writes = n

theorem CutSt.start (n : Int) (h0 : 0 ≤ n) (h1 : n ≤ 9223372036854775807) : ((Mem.new 8 1000).cut n).2 = 0 ∧ CutSt ((Mem.new 8 1000).cut n).1 n 0 := by
  have h : (Mem.new 8 1000).cut n = ({ Mem.new 8 1000 with pending := true, left := n }, 0) := by
    unfold Mem.cut; rw [if_neg (by simp [Mem.new]), if_neg (by omega)]
  rw [h]
  have hf := fine_new 8 1000
  refine ⟨rfl, rfl, rfl, rfl, ⟨hf.writes, hf.cuts, ⟨h0, h1⟩, hf.wear⟩, ?_, fun _ => ⟨rfl, ?_, rfl, rfl⟩, fun hn => absurd hn (by simp; omega)⟩
  · show false = _
    symm; apply decide_eq_false; simp; omega
  · show n = n - ((0 : Nat) : Int)
    simp

section
variable {m : Mem} {n : Int} {k a : Nat}
theorem CutSt.has (h : CutSt m n k) (ha : a < 8) : m.has (a : Int) = true := (m.has_iff _).2 ⟨by omega, by rw [h.lenw]; omega⟩

theorem CutSt.good (h : CutSt m n k) (ha : a < 8) (hk : (k : Int) < n) (hk30 : k ≤ 30) (v : UInt32) :
    (m.write a v).2 = 0 ∧ (m.write a v).1.words = m.words.set a v ∧ CutSt (m.write a v).1 n (k + 1) := by
  obtain ⟨hp, hl, hc, hw⟩ := h.on (by omega)
  have hacc : m.access (a : Int) = 0 := (m.access_zero _).2 ⟨by rw [h.off]; exact decide_eq_false (by omega), h.has ha⟩
  have hne : ¬ (m.pending = true ∧ m.left = 0) := fun hh => by have := hh.2; omega
  rw [m.write_yes a v hacc hne, m.tick_yes hp, Int.toNat_natCast]
  have hg := h.fine.getD (by omega) a
  rw [Mem.put_no { m with left := m.left - 1 } a v _ rfl (by show ¬ m.endurance < m.wear.getD a 0 + 1; rw [h.en]; omega)]
  have hf := ((h.fine.tick (fun _ => by omega)).put (by omega) a v)
  rw [m.tick_yes hp, Mem.put_no { m with left := m.left - 1 } a v _ rfl (by show ¬ m.endurance < m.wear.getD a 0 + 1; rw [h.en]; omega)] at hf
  refine ⟨rfl, rfl, ?_, ?_, h.en, by exact hf, ?_, fun _ => ⟨hp, ?_, hc, ?_⟩, fun hn => absurd hn (by omega)⟩
  · show (m.words.set a v).length = 8
    rw [List.length_set, h.lenw]
  · show (m.wear.set a _).length = 8
    rw [List.length_set, h.len]
  · show m.off = _
    rw [h.off, decide_eq_false (by omega), decide_eq_false (by omega)]
  · show m.left - 1 = _
    rw [hl]; omega
  · show m.writes + 1 = _
    rw [hw]; omega

theorem CutSt.bad (h : CutSt m n k) (ha : a < 8) (hk : n ≤ (k : Int)) (v : UInt32) :
    (m.write a v).2 = 7 ∧ (m.write a v).1.words = m.words ∧ CutSt (m.write a v).1 n (k + 1) := by
  by_cases hn : n < (k : Int)
  · have hoff : m.off = true := by rw [h.off]; exact decide_eq_true hn
    have hacc : m.access (a : Int) = 7 := by unfold Mem.access; rw [if_pos hoff]
    rw [m.write_no a v (by rw [hacc]; simp), hacc]
    refine ⟨rfl, rfl, h.lenw, h.len, h.en, h.fine.mono (by omega), ?_, fun hh => absurd hh (by omega), fun _ => h.out hn⟩
    rw [hoff]; symm; exact decide_eq_true (by omega)
  · obtain ⟨hp, hl, hc, hw⟩ := h.on (by omega)
    have hacc : m.access (a : Int) = 0 := (m.access_zero _).2 ⟨by rw [h.off]; exact decide_eq_false hn, h.has ha⟩
    rw [m.write_cut a v hacc hp (by rw [hl]; omega)]
    refine ⟨rfl, rfl, h.lenw, h.len, h.en, by exact h.fine.down, ?_, fun hh => absurd hh (by omega), fun _ => ⟨rfl, ?_, ?_⟩⟩
    · show true = _
      symm; exact decide_eq_true (by omega)
    · show m.cuts + 1 = 1
      rw [hc]; rfl
    · show m.writes = n
      rw [hw]; omega

theorem Fine.restore {K : Int} (h : Fine K m) : Fine K m.restore := ⟨h.writes, h.cuts, ⟨Int.le_refl _, by simp [Mem.restore]⟩, h.wear⟩
theorem CutSt.last (h : CutSt m n k) : (m.restore.write 0 1).2 = 0 := by
  rw [Mem.write_yes _ _ _ ((Mem.access_zero _ _).2 ⟨rfl, (Mem.has_iff _ _).2 ⟨by simp, by show _ < ((m.words.length : Nat) : Int); rw [h.lenw]; simp⟩⟩) (by simp [Mem.restore])]
end
end Go.Proofs.Ytdpfehdpglbidaa.Cel
