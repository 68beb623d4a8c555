/-
  A state by value that shows a memory, and the reference's functions on it, each said once.
-/
import Derived.Test.YtdpfehdpglbidaaCelH
import Derived.Test.YtdpfehdpglbidaaCelO
namespace Go.Proofs.Ytdpfehdpglbidaa
open Go.RowKit

/-- The value s shows the memory m; its slices lie in none of the blocks R. -/
def StAt (w : World) (R : Nat → Prop) (n : Nat) (m : Cel.Mem) (s : Value) : Prop :=
  ∃ A c A' c' z, s = stOf A n c A' c' m z ∧ m.plan z ∧ Wds w w.heap.size A n c m.words ∧ Ints w w.heap.size A' n c' m.wear ∧ Clear R A ∧ Clear R A'

section
variable {w w' : World} {R : Nat → Prop} {n : Nat} {m : Cel.Mem} {s : Value}
theorem Row.only {R : Nat → Prop} {A : Option Addr} {cs : List Value} (h : Row w w.heap.size A cs) (ho : Only R w w') (hR : Clear R A) : Row w' w'.heap.size A cs := fun hn => by
  obtain ⟨b, o, rfl, hb, hc⟩ := h hn
  have e := ho.block b hb (hR b rfl)
  exact ⟨b, o, rfl, Nat.lt_of_lt_of_le hb ho.size, fun j hj => by rw [← hc j hj]; unfold World.cell?; rw [e]⟩
theorem StAt.only (h : StAt w R n m s) (ho : Only R w w') : StAt w' R n m s := by
  obtain ⟨A, c, A', c', z, rfl, hz, hw, hi, k1, k2⟩ := h
  exact ⟨A, c, A', c', z, rfl, hz, ⟨hw.1, hw.2.1, hw.2.2.only ho k1⟩, ⟨hi.1, hi.2.1, hi.2.2.only ho k2⟩, k1, k2⟩
theorem StAt.below (h : StAt w R n m s) (hb : Below w.heap.size w w') : StAt w' R n m s := h.only (Only.of_below hb)
theorem StAt.sub {R' : Nat → Prop} (h : StAt w R n m s) (hn : 0 < n) (hR : ∀ k, k < w.heap.size → R' k → R k) : StAt w R' n m s := by
  obtain ⟨A, c, A', c', z, rfl, hz, hw, hi, k1, k2⟩ := h
  refine ⟨A, c, A', c', z, rfl, hz, hw, hi, fun b e hr => ?_, fun b e hr => ?_⟩
  · obtain ⟨b', o, rfl, hb, _⟩ := hw.2.2 (by rw [List.length_map, hw.1]; exact hn)
    obtain rfl : b' = b := by simpa using e
    exact k1 b' rfl (hR b' hb hr)
  · obtain ⟨b', o, rfl, hb, _⟩ := hi.2.2 (by rw [List.length_map, hi.1]; exact hn)
    obtain rfl : b' = b := by simpa using e
    exact k2 b' rfl (hR b' hb hr)

theorem law_ref09_Write {K : Int} (h : StAt w R n m s) (hR : ∀ k, R k → k < w.heap.size) (hn : n ≤ 65536) (hf : Cel.Fine K m) (hK : 0 ≤ K ∧ K ≤ 4611686018427387904) (a x : Int) (v : UInt32) (hx : x = (v.toNat : Int)) :
    Calls Try.prog 29 #[s, .int .i64 a, .int .u32 x] w fun e w' => ∃ s', e = .returned (.tuple #[s', .int .i64 (m.write a v).2]) ∧ StAt w' R n (m.write a v).1 s' ∧ Below w.heap.size w w' := by
  subst hx
  have h0 := h
  obtain ⟨A, c, A', c', z, rfl, hz, hw, hi, k1, k2⟩ := h
  by_cases ha : m.access a = 0
  · by_cases hp : m.pending = true ∧ m.left = 0
    · rw [m.write_cut a v ha hp.1 hp.2]
      refine (ref09_Write_cut w a _ hw.1 hz ha hp.1 hp.2 ⟨hf.cuts.1, by have := hf.cuts.2; omega⟩).mono ?_
      rintro e w1 ⟨rfl, hb⟩
      exact ⟨_, rfl, ⟨A, c, A', c', z, rfl, (fun ho => by cases ho), (hw.below hb).more hb.size, (hi.below hb).more hb.size, k1, k2⟩, hb⟩
    · rw [m.write_yes a v ha hp]
      obtain ⟨ho, hh⟩ := (m.access_zero a).1 ha
      obtain ⟨h0, h1⟩ := (m.has_iff a).1 hh
      rw [hw.1] at h1
      obtain ⟨i, rfl⟩ := Int.eq_ofNat_of_zero_le h0
      have hg := hf.getD hK.1 i
      have hz := hz ho
      have hin : i < n := by omega
      cases hq : m.pending with
      | false =>
        rw [m.tick_no hq]
        rw [hq] at hz
        refine (ref09_Write_on w i v _ z z hw hi hn hin ho (.inl ⟨by simpa using hz, by simpa using hz⟩) rfl ⟨hg.1, by omega⟩ ⟨hf.writes.1, by have := hf.writes.2; omega⟩).mono ?_
        rintro e w1 ⟨A2, c2, A3, c3, rfl, hw1, hi1, g1, g2, hb⟩
        exact ⟨_, rfl, ⟨A2, c2, A3, c3, z, rfl, fun _ => by show z = if m.pending = true then m.left else -1; rw [hq]; exact hz, hw1, hi1, g1.clear hR, g2.clear hR⟩, hb⟩
      | true =>
        rw [m.tick_yes hq]
        rw [hq, if_pos rfl] at hz
        have hl := hf.left
        have hl0 : m.left ≠ 0 := fun hl => hp ⟨hq, hl⟩
        refine (ref09_Write_on w i v _ z (m.left - 1) hw hi hn hin ho (.inr ⟨by omega, by omega, by omega⟩) rfl ⟨hg.1, by omega⟩ ⟨hf.writes.1, by have := hf.writes.2; omega⟩).mono ?_
        rintro e w1 ⟨A2, c2, A3, c3, rfl, hw1, hi1, g1, g2, hb⟩
        exact ⟨_, rfl, ⟨A2, c2, A3, c3, m.left - 1, rfl, fun _ => by show m.left - 1 = if m.pending = true then m.left - 1 else -1; rw [hq, if_pos rfl], hw1, hi1, g1.clear hR, g2.clear hR⟩, hb⟩
  · rw [m.write_no a v ha]
    refine (ref09_Write_no w a _ hw.1 ha).mono ?_
    rintro e w1 ⟨rfl, hb⟩
    exact ⟨_, rfl, h0.below hb, hb⟩

theorem law_ref09_Cut (h : StAt w R n m s) (a : Int) :
    Calls Try.prog 30 #[s, .int .i64 a] w fun e w' => ∃ s', e = .returned (.tuple #[s', .int .i64 (m.cut a).2]) ∧ StAt w' R n (m.cut a).1 s' ∧ Below w.heap.size w w' := by
  obtain ⟨A, c, A', c', z, rfl, hz, hw, hi, k1, k2⟩ := h
  refine (ref09_Cut w a hz).mono ?_
  rintro e w1 ⟨z', rfl, hz', hb⟩
  have e1 : (m.cut a).1.words = m.words := by unfold Cel.Mem.cut; (repeat' split) <;> rfl
  have e2 : (m.cut a).1.wear = m.wear := by unfold Cel.Mem.cut; (repeat' split) <;> rfl
  refine ⟨_, rfl, ⟨A, c, A', c', z', rfl, hz', ?_, ?_, k1, k2⟩, hb⟩
  · rw [e1]; exact (hw.below hb).more hb.size
  · rw [e2]; exact (hi.below hb).more hb.size

theorem law_ref09_Restore (h : StAt w R n m s) :
    Calls Try.prog 31 #[s] w fun e w' => ∃ s', e = .returned s' ∧ StAt w' R n m.restore s' ∧ Below w.heap.size w w' := by
  obtain ⟨A, c, A', c', z, rfl, hz, hw, hi, k1, k2⟩ := h
  refine (ref09_Restore w).mono ?_
  rintro e w1 ⟨rfl, hb⟩
  exact ⟨_, rfl, ⟨A, c, A', c', -1, rfl, fun _ => rfl, (hw.below hb).more hb.size, (hi.below hb).more hb.size, k1, k2⟩, hb⟩

theorem law_ref09_Read (h : StAt w R n m s) (a : Int) :
    Calls Try.prog 33 #[s, .int .i64 a] w fun e w' => e = .returned (.tuple #[W32 (m.read a).1, .int .i64 (m.read a).2]) ∧ Below w.heap.size w w' := by
  obtain ⟨A, c, A', c', z, rfl, hz, hw, hi, k1, k2⟩ := h
  exact ref09_Read w a hw
end
end Go.Proofs.Ytdpfehdpglbidaa
