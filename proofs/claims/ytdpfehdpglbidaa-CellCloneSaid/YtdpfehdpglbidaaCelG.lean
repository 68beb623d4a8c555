/-
  The walk of the reference's Write.
-/
import Derived.Test.YtdpfehdpglbidaaCelF
namespace Go.Proofs.Ytdpfehdpglbidaa
open Go.RowKit

section
variable {w : World} {A A' : Option Addr} {n c c' : Nat} {m : Cel.Mem} {z : Int}

set_option maxRecDepth 100000 in
set_option maxHeartbeats 1000000 in
/-- Where nothing is written. -/
theorem ref09_Write_no (w : World) (a x : Int) (hl : m.words.length = n) (h : m.access a ≠ 0) :
    Calls Try.prog 29 #[stOf A n c A' c' m z, .int .i64 a, .int .u32 x] w fun e w' => e = .returned (.tuple #[stOf A n c A' c' m z, .int .i64 (m.access a)]) ∧ Below w.heap.size w w' := by
  unfold stOf
  cases hm : m.off with
  | true =>
    have e : m.access a = 7 := by unfold Cel.Mem.access; rw [if_pos hm]
    clear h
    go_enter Try.func29, Try.ntmps29
    go_wp2_with fail
    refine bodyPost_ret (results_row_tmp rfl _ _ (w.heap.size + 1) 45 _ (0, 0) _ rfl (Blk.new' _ (by simp) rfl) Try.underlying45 rfl (by kernel_rfl)) rfl ⟨?_, ((Below.refl _ _).alloc (Nat.le_refl _) _).alloc (by simp) _⟩
    simp [e]
  | false =>
    have hno : ¬ (0 ≤ a ∧ a < n) := fun hh => h ((m.access_zero a).2 ⟨hm, (m.has_iff a).2 ⟨hh.1, by rw [hl]; exact hh.2⟩⟩)
    have e : m.access a = 2 := by unfold Cel.Mem.access; rw [if_neg (by rw [hm]; decide), m.has_no a (by rw [hl]; exact hno)]; rfl
    clear h
    by_cases h0 : a < 0
    · go_enter Try.func29, Try.ntmps29
      go_wp2_with fail
      refine bodyPost_ret (results_row_tmp rfl _ _ (w.heap.size + 1) 45 _ (0, 0) _ rfl (Blk.new' _ (by simp) rfl) Try.underlying45 rfl (by kernel_rfl)) rfl ⟨?_, ((Below.refl _ _).alloc (Nat.le_refl _) _).alloc (by simp) _⟩
      simp [e]
    · have h1 : (n : Int) ≤ a := by omega
      clear hno
      go_enter Try.func29, Try.ntmps29
      go_wp2_with fail
      refine bodyPost_ret (results_row_tmp rfl _ _ (w.heap.size + 1) 45 _ (0, 0) _ rfl (Blk.new' _ (by simp) rfl) Try.underlying45 rfl (by kernel_rfl)) rfl ⟨?_, ((Below.refl _ _).alloc (Nat.le_refl _) _).alloc (by simp) _⟩
      simp

set_option maxRecDepth 100000 in
set_option maxHeartbeats 1000000 in
/-- Where the power is cut. -/
theorem ref09_Write_cut (w : World) (a x : Int) (hl : m.words.length = n) (hz : m.plan z) (h : m.access a = 0) (hp : m.pending = true) (h0 : m.left = 0) (hc : 0 ≤ m.cuts ∧ m.cuts ≤ 4611686018427387904) :
    Calls Try.prog 29 #[stOf A n c A' c' m z, .int .i64 a, .int .u32 x] w fun e w' => e = .returned (.tuple #[stOf A n c A' c' m.down z, .int .i64 7]) ∧ Below w.heap.size w w' := by
  unfold stOf
  obtain ⟨hm, hh⟩ := (m.access_zero a).1 h
  obtain ⟨p0, p1⟩ := (m.has_iff a).1 hh
  rw [hl] at p1
  have hz0 : z = 0 := by have := hz hm; rw [hp, if_pos rfl] at this; omega
  subst hz0
  clear h hh hz
  have D0 : m.down.endurance = m.endurance := rfl
  have D1 : m.down.writes = m.writes := rfl
  have D2 : m.down.cuts = m.cuts + 1 := rfl
  have D3 : m.down.off = true := rfl
  obtain ⟨q0, q1⟩ := hc
  go_enter Try.func29, Try.ntmps29
  go_wp2_with fail
  refine bodyPost_ret (results_row_tmp rfl _ _ (w.heap.size + 1) 45 _ (0, 0) _ rfl (Blk.new' _ (by simp) rfl) Try.underlying45 rfl (by kernel_rfl)) rfl ⟨?_, ((Below.refl _ _).alloc (Nat.le_refl _) _).alloc (by simp) _⟩
  simp [D0, D1, D2, D3]
end
end Go.Proofs.Ytdpfehdpglbidaa
