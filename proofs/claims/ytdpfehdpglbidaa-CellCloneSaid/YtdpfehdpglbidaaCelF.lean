/-
  The walks of the reference's functions on a state.
-/
import Derived.Test.YtdpfehdpglbidaaCelR
import Derived.Test.YtdpfehdpglbidaaRes
namespace Go.Proofs.Ytdpfehdpglbidaa
open Go.RowKit

/-- A state by value that shows m; z is its planned cut. -/
def stOf (A : Option Addr) (n c : Nat) (A' : Option Addr) (c' : Nat) (m : Cel.Mem) (z : Int) : Value :=
  .agg #[.slice A n c, .slice A' n c', I64 m.endurance, I64 m.writes, I64 m.cuts, .bool (!m.off), I64 z]
/-- The number of the planned cut. -/
def Cel.Mem.plan (m : Cel.Mem) (z : Int) : Prop := m.off = false → z = if m.pending then m.left else -1

section
variable {w : World} {A A' : Option Addr} {n c c' : Nat} {m : Cel.Mem} {z : Int}

set_option maxRecDepth 100000 in
set_option maxHeartbeats 1000000 in
theorem ref09_Restore (w : World) : Calls Try.prog 31 #[stOf A n c A' c' m z] w fun e w' => e = .returned (stOf A n c A' c' m.restore (-1)) ∧ Below w.heap.size w w' := by
  unfold stOf
  go_enter Try.func31, Try.ntmps31
  go_wp2_with fail
  refine bodyPost_ret (v := stOf A n c A' c' m.restore (-1)) (results_cell_row rfl _ _ (w.heap.size + 1) 45 _ (0, 0) _ rfl (Blk.new' _ (by simp) rfl) Try.underlying45 rfl (by kernel_rfl)) rfl ⟨rfl, ((Below.refl _ _).alloc (Nat.le_refl _) _).alloc (by simp) _⟩

set_option maxRecDepth 100000 in
set_option maxHeartbeats 1000000 in
theorem ref09_Cut (w : World) (a : Int) (hz : m.plan z) : Calls Try.prog 30 #[stOf A n c A' c' m z, .int .i64 a] w fun e w' => ∃ z', e = .returned (.tuple #[stOf A n c A' c' (m.cut a).1 z', .int .i64 (m.cut a).2]) ∧ (m.cut a).1.plan z' ∧ Below w.heap.size w w' := by
  unfold stOf
  cases hm : m.off with
  | true =>
    go_enter Try.func30, Try.ntmps30
    go_wp2_with fail
    have e : m.cut a = (m, 7) := by unfold Cel.Mem.cut; rw [if_pos hm]
    rw [e]
    refine bodyPost_ret (results_row_tmp rfl _ _ (w.heap.size + 1) 45 _ (0, 0) _ rfl (Blk.new' _ (by simp) rfl) Try.underlying45 rfl (by kernel_rfl)) rfl ⟨z, ?_, hz, ((Below.refl _ _).alloc (Nat.le_refl _) _).alloc (by simp) _⟩
    simp [hm]
  | false =>
    by_cases ha : a < 0
    · go_enter Try.func30, Try.ntmps30
      go_wp2_with fail
      have e : m.cut a = (m, 2) := by unfold Cel.Mem.cut; rw [if_neg (by rw [hm]; decide), if_pos ha]
      rw [e]
      refine bodyPost_ret (results_row_tmp rfl _ _ (w.heap.size + 1) 45 _ (0, 0) _ rfl (Blk.new' _ (by simp) rfl) Try.underlying45 rfl (by kernel_rfl)) rfl ⟨z, ?_, hz, ((Below.refl _ _).alloc (Nat.le_refl _) _).alloc (by simp) _⟩
      simp [hm]
    · go_enter Try.func30, Try.ntmps30
      go_wp2_with fail
      have e : m.cut a = ({ m with pending := true, left := a }, 0) := by unfold Cel.Mem.cut; rw [if_neg (by rw [hm]; decide), if_neg (by omega)]
      rw [e]
      refine bodyPost_ret (results_row_tmp rfl _ _ (w.heap.size + 1) 45 _ (0, 0) _ rfl (Blk.new' _ (by simp) rfl) Try.underlying45 rfl (by kernel_rfl)) rfl ⟨a, ?_, fun _ => rfl, ((Below.refl _ _).alloc (Nat.le_refl _) _).alloc (by simp) _⟩
      simp [hm]

set_option maxRecDepth 100000 in
set_option maxHeartbeats 1000000 in
theorem ref09_Read (w : World) (a : Int) (hs : Wds w w.heap.size A n c m.words) : Calls Try.prog 33 #[stOf A n c A' c' m z, .int .i64 a] w fun e w' => e = .returned (.tuple #[W32 (m.read a).1, .int .i64 (m.read a).2]) ∧ Below w.heap.size w w' := by
  unfold stOf
  have hlen := Lib.hid hs.1
  cases hm : m.off with
  | true =>
    have HF := Lib.hid (show m.read a = (0, 7) by simp [Cel.Mem.read, Cel.Mem.access, hm])
    go_enter Try.func33, Try.ntmps33
    go_wp2_with fail
    go_ret2
    exact ⟨by rw [HF.out]; rfl, (Below.refl _ _).alloc (Nat.le_refl _) _⟩
  | false =>
    by_cases h0 : a < 0
    · have HF := Lib.hid (show m.read a = (0, 2) by simp [Cel.Mem.read, Cel.Mem.access, hm, m.has_no a (by omega)])
      go_enter Try.func33, Try.ntmps33
      go_wp2_with fail
      go_ret2
      exact ⟨by rw [HF.out]; rfl, (Below.refl _ _).alloc (Nat.le_refl _) _⟩
    by_cases h1 : (n : Int) ≤ a
    · have HF := Lib.hid (show m.read a = (0, 2) by simp [Cel.Mem.read, Cel.Mem.access, hm, m.has_no a (by rw [hlen.out]; omega)])
      go_enter Try.func33, Try.ntmps33
      go_wp2_with fail
      go_ret2
      exact ⟨by rw [HF.out]; rfl, (Below.refl _ _).alloc (Nat.le_refl _) _⟩
    obtain ⟨i, rfl⟩ := Int.eq_ofNat_of_zero_le (by omega : 0 ≤ a)
    have hi : i < n := by omega
    have HF := Lib.hid (show m.read i = (m.words.getD i 0, 0) by simp [Cel.Mem.read, Cel.Mem.access, hm, (m.has_iff i).2 ⟨by omega, by rw [hlen.out]; omega⟩])
    obtain ⟨b, o, rfl, hb, hc⟩ := (hs.below ((Below.refl _ _).alloc (Nat.le_refl _) (.cells #[.slice A n c, .slice A' n c', I64 m.endurance, I64 m.writes, I64 m.cuts, .bool true, I64 z] 45))).at_ hi
    have p0 : (0 : Int) ≤ (i : Int) := by omega
    have p1 : (i : Int) < (n : Int) := by omega
    generalize m.words.getD i 0 = v at *
    go_enter Try.func33, Try.ntmps33
    go_wp2_with fail
    go_ret2
    exact ⟨by rw [HF.out]; rfl, (Below.refl _ _).alloc (Nat.le_refl _) _⟩
end
end Go.Proofs.Ytdpfehdpglbidaa
