/-
  The walks of the memory's methods at a nil memory, and at one that New did not return; the statement CellNil.
-/
import Derived.Test.YtdpfehdpglbidaaCelW
namespace Go.Proofs.Ytdpfehdpglbidaa
open Go.RowKit

/-- No memory: nil, or a block without words. -/
def Nought (w : World) (p : Option Addr) : Prop := p = none ∨ ∃ g, p = some ⟨g, 0, none⟩ ∧ g < w.heap.size ∧ w.cell? ⟨g, 0, none⟩ = some (.slice none 0 0)
theorem Nought.below {w w' : World} {p : Option Addr} (h : Nought w p) (hb : Below w.heap.size w w') : Nought w' p := by
  rcases h with rfl | ⟨g, rfl, hg, hc⟩
  · exact .inl rfl
  · exact .inr ⟨g, rfl, Nat.lt_of_lt_of_le hg hb.size, (hb.cell (p := ⟨g, 0, none⟩) hg).trans hc⟩

section
variable {w : World} {p : Option Addr} (h : Nought w p)
include h

set_option maxHeartbeats 400000 in
theorem noCell_made : Calls Try.prog 27 #[.pointer p] w fun e w' => e = .returned (.bool false) ∧ w = w' := by
  rcases h with rfl | ⟨g, rfl, hg, hc⟩
  all_goals
    go_enter Try.func27, Try.ntmps27
    go_wp2_with fail
    go_ret
    exact ⟨rfl, rfl⟩

set_option maxHeartbeats 400000 in
theorem noCell_Words : Calls Try.prog 24 #[.pointer p] w fun e w' => e = .returned (.int .i64 0) ∧ w = w' := by
  have H := Lib.hid h
  go_enter Try.func24, Try.ntmps24
  go_wp2_with (first
    | (go_at_call 27; refine (noCell_made H.out).mono ?_; rintro e w1 ⟨rfl, rfl⟩))
  go_ret
  exact ⟨rfl, rfl⟩

set_option maxHeartbeats 400000 in
theorem noCell_has (a : Int) : Calls Try.prog 26 #[.pointer p, .int .i64 a] w fun e w' => e = .returned (.bool false) ∧ w = w' := by
  have H := Lib.hid h
  by_cases h0 : 0 ≤ a
  · go_enter Try.func26, Try.ntmps26
    go_wp2_with (go_at_call 24; refine (noCell_Words H.out).mono ?_; rintro e w1 ⟨rfl, rfl⟩)
    go_ret
    exact ⟨by simpa using h0, rfl⟩
  · go_enter Try.func26, Try.ntmps26
    go_wp2_with (go_at_call 24; refine (noCell_Words H.out).mono ?_; rintro e w1 ⟨rfl, rfl⟩)
    go_ret
    exact ⟨rfl, rfl⟩

set_option maxHeartbeats 400000 in
theorem noCell_access (a : Int) : Calls Try.prog 25 #[.pointer p, .int .i64 a] w fun e w' => e = .returned (.int .i64 31) ∧ w = w' := by
  have H := Lib.hid h
  go_enter Try.func25, Try.ntmps25
  go_wp2_with (first
    | (go_at_call 27; refine (noCell_made H.out).mono ?_; rintro e w1 ⟨rfl, rfl⟩))
  go_ret
  exact ⟨rfl, rfl⟩

set_option maxHeartbeats 400000 in
theorem noCell_Read (a : Int) : Calls Try.prog 10 #[.pointer p, .int .i64 a] w fun e w' => e = .returned (.tuple #[.int .u32 0, .int .i64 31]) ∧ w = w' := by
  have H := Lib.hid h
  go_enter Try.func10, Try.ntmps10
  go_wp2_with (first
    | (go_at_call 25; refine (noCell_access H.out a).mono ?_; rintro e w1 ⟨rfl, rfl⟩))
  go_ret2
  exact ⟨rfl, rfl⟩

set_option maxHeartbeats 400000 in
theorem noCell_Write (a : Int) (v : Int) : Calls Try.prog 9 #[.pointer p, .int .i64 a, .int .u32 v] w fun e w' => e = .returned (.int .i64 31) ∧ w = w' := by
  have H := Lib.hid h
  go_enter Try.func9, Try.ntmps9
  go_wp2_with (first
    | (go_at_call 25; refine (noCell_access H.out a).mono ?_; rintro e w1 ⟨rfl, rfl⟩))
  go_ret
  exact ⟨rfl, rfl⟩

set_option maxHeartbeats 400000 in
theorem noCell_Cut (a : Int) : Calls Try.prog 13 #[.pointer p, .int .i64 a] w fun e w' => e = .returned (.int .i64 31) ∧ w = w' := by
  have H := Lib.hid h
  go_enter Try.func13, Try.ntmps13
  go_wp2_with (first
    | (go_at_call 27; refine (noCell_made H.out).mono ?_; rintro e w1 ⟨rfl, rfl⟩))
  go_ret
  exact ⟨rfl, rfl⟩

set_option maxHeartbeats 400000 in
theorem noCell_Flip (a : Int) (b : Int) : Calls Try.prog 23 #[.pointer p, .int .i64 a, .int .i64 b] w fun e w' => e = .returned (.int .i64 31) ∧ w = w' := by
  have H := Lib.hid h
  go_enter Try.func23, Try.ntmps23
  go_wp2_with (first
    | (go_at_call 27; refine (noCell_made H.out).mono ?_; rintro e w1 ⟨rfl, rfl⟩))
  go_ret
  exact ⟨rfl, rfl⟩

set_option maxHeartbeats 400000 in
theorem noCell_Restore : Calls Try.prog 18 #[.pointer p] w fun e w' => e = .returned (.tuple #[]) ∧ w = w' := by
  have H := Lib.hid h
  go_enter Try.func18, Try.ntmps18
  go_wp2_with (first
    | (go_at_call 27; refine (noCell_made H.out).mono ?_; rintro e w1 ⟨rfl, rfl⟩))
  go_end0
  exact ⟨rfl, rfl⟩

set_option maxHeartbeats 400000 in
theorem noCell_Power : Calls Try.prog 15 #[.pointer p] w fun e w' => e = .returned (.bool false) ∧ w = w' := by
  have H := Lib.hid h
  go_enter Try.func15, Try.ntmps15
  go_wp2_with (first
    | (go_at_call 27; refine (noCell_made H.out).mono ?_; rintro e w1 ⟨rfl, rfl⟩))
  go_ret
  exact ⟨rfl, rfl⟩

set_option maxHeartbeats 400000 in
theorem noCell_Writes : Calls Try.prog 16 #[.pointer p] w fun e w' => e = .returned (.int .i64 0) ∧ w = w' := by
  have H := Lib.hid h
  go_enter Try.func16, Try.ntmps16
  go_wp2_with (first
    | (go_at_call 27; refine (noCell_made H.out).mono ?_; rintro e w1 ⟨rfl, rfl⟩))
  go_ret
  exact ⟨rfl, rfl⟩

set_option maxHeartbeats 400000 in
theorem noCell_Cuts : Calls Try.prog 17 #[.pointer p] w fun e w' => e = .returned (.int .i64 0) ∧ w = w' := by
  have H := Lib.hid h
  go_enter Try.func17, Try.ntmps17
  go_wp2_with (first
    | (go_at_call 27; refine (noCell_made H.out).mono ?_; rintro e w1 ⟨rfl, rfl⟩))
  go_ret
  exact ⟨rfl, rfl⟩

set_option maxHeartbeats 400000 in
theorem noCell_Wear (a : Int) : Calls Try.prog 11 #[.pointer p, .int .i64 a] w fun e w' => e = .returned (.int .i64 0) ∧ w = w' := by
  have H := Lib.hid h
  go_enter Try.func11, Try.ntmps11
  go_wp2_with (first
    | (go_at_call 26; refine (noCell_has H.out a).mono ?_; rintro e w1 ⟨rfl, rfl⟩))
  go_ret
  exact ⟨rfl, rfl⟩

set_option maxHeartbeats 400000 in
theorem noCell_Clone : Calls Try.prog 22 #[.pointer p] w fun e w' => e = .returned (.pointer none) ∧ w = w' := by
  have H := Lib.hid h
  go_enter Try.func22, Try.ntmps22
  go_wp2_with (first
    | (go_at_call 27; refine (noCell_made H.out).mono ?_; rintro e w1 ⟨rfl, rfl⟩))
  go_ret
  exact ⟨rfl, rfl⟩

set_option maxHeartbeats 400000 in
theorem noCell_Image : Calls Try.prog 14 #[.pointer p] w fun e w' => (∃ q, e = .returned (.slice q 0 0)) ∧ Below w.heap.size w w' := by
  have H := Lib.hid h
  obtain ⟨iu, hiu, hu0, hu1, hu2⟩ := info_parts i_u32
  have mu : ∀ u : World, (Instr.makeSlice 22 (.int .i64 0) (.int .i64 0)).run Try.prog u = .ok (.slice (some ⟨u.heap.size, 0, none⟩) 0 0) (u.alloc (.cells (madeCells #[.int .u32 0] 0) 30)) := fun u => by
    have h := run_make (P := Try.prog) u 22 30 iu (.int .u32 0) Try.underlying22 hiu hu0 .i64 .i64 0 0 (by omega) (Int.le_refl _) (by rw [hu2]; omega) (by omega)
    simpa [hu1, Value.cells] using h
  go_enter Try.func14, Try.ntmps14
  go_wp2_with (first
    | (go_at_call 24; refine (noCell_Words H.out).mono ?_; rintro e w1 ⟨rfl, rfl⟩)
    | (go_at_call 27; refine (noCell_made (H.out.below ((Below.refl _ _).alloc (Nat.le_refl _) _))).mono ?_; rintro e w1 ⟨rfl, rfl⟩))
  go_ret
  exact ⟨⟨_, rfl⟩, (Below.refl _ _).alloc (Nat.le_refl _) _⟩
end

set_option maxRecDepth 100000 in
set_option maxHeartbeats 2000000 in
theorem law_CellNil (w : World) (a v : Int) : Calls Try.prog 7 #[.int .i64 a, .int .u32 v] w fun e w' => e = .returned (.bool true) ∧ Below w.heap.size w w' := by
  go_enter Try.func7, Try.ntmps7
  go_wp2_with fail
  go_loopw [5, 6] (fun p i wr => ∃ (k : Nat) (q : Option Addr), k ≤ 2 ∧ p = .pointer q ∧ i = .int .i64 k ∧ Nought wr q ∧ Below w.heap.size w wr) (fun _ i _ => 2 - (intOf i).toNat)
  case atStart => exact ⟨0, none, by omega, rfl, rfl, .inl rfl, Below.refl _ _⟩
  case round =>
    obtain ⟨k, q, hk, rfl, rfl, hn, hb⟩ := hrel
    have H := Lib.hid hn
    by_cases hlt : k < 2
    · go_wp2_with (first
        | (go_at_call 10; refine (noCell_Read H.out a).mono ?_; rintro e w1 ⟨rfl, rfl⟩)
        | (go_at_call 9; refine (noCell_Write H.out a v).mono ?_; rintro e w1 ⟨rfl, rfl⟩)
        | (go_at_call 13; refine (noCell_Cut H.out a).mono ?_; rintro e w1 ⟨rfl, rfl⟩)
        | (go_at_call 23; refine (noCell_Flip H.out a 0).mono ?_; rintro e w1 ⟨rfl, rfl⟩)
        | (go_at_call 18; refine (noCell_Restore H.out).mono ?_; rintro e w1 ⟨rfl, rfl⟩)
        | (go_at_call 24; refine (noCell_Words H.out).mono ?_; rintro e w1 ⟨rfl, rfl⟩)
        | (go_at_call 15; refine (noCell_Power H.out).mono ?_; rintro e w1 ⟨rfl, rfl⟩)
        | (go_at_call 16; refine (noCell_Writes H.out).mono ?_; rintro e w1 ⟨rfl, rfl⟩)
        | (go_at_call 17; refine (noCell_Cuts H.out).mono ?_; rintro e w1 ⟨rfl, rfl⟩)
        | (go_at_call 11; refine (noCell_Wear H.out a).mono ?_; rintro e w1 ⟨rfl, rfl⟩)
        | (go_at_call 14; refine (noCell_Image H.out).mono ?_; rintro e w2 ⟨⟨q2, rfl⟩, hb2⟩)
        | (go_at_call 22; refine (noCell_Clone (hn.below hb2)).mono ?_; rintro e w1 ⟨rfl, rfl⟩))
      go_roundw
      case rel => exact ⟨k + 1, _, by omega, rfl, by go_num, .inr ⟨_, rfl, by simp, by simp⟩, (hb.trans (hb2.mono hb.size)).alloc (Nat.le_trans hb.size hb2.size) _⟩
      case measure => simp [intOf]; omega
    · obtain rfl : k = 2 := by omega
      go_wp2_with (go_at_call 12; refine (law09_awake _).mono ?_; rintro e w2 ⟨rfl, hb2⟩)
      go_ret
      exact ⟨rfl, hb.trans (hb2.mono hb.size)⟩
end Go.Proofs.Ytdpfehdpglbidaa
