/-
  The walks of the memory's methods Cut, Cuts, Restore, Flip and Image.
-/
import Derived.Test.YtdpfehdpglbidaaCelW
import Derived.Test.YtdpfehdpglbidaaWds
import Derived.Laws.CopyOwn
namespace Go.Proofs.Ytdpfehdpglbidaa
open Go.RowKit

section
variable {w : World} {g gw gv n cw cv : Nat} {m : Cel.Mem} (h : MemAt w g gw gv n cw cv m)
include h

set_option maxHeartbeats 400000 in
theorem cell_Cuts : Calls Try.prog 17 #[.pointer (some ⟨g, 0, none⟩)] w fun e w' => e = .returned (.int .i64 m.cuts) ∧ w = w' := by
  have H := Lib.hid h
  have c4 := h.c4
  go_enter Try.func17, Try.ntmps17
  go_wp2_with (go_at_call 27; refine (cell_made H.out).mono ?_; rintro e w1 ⟨rfl, rfl⟩)
  go_ret
  exact ⟨rfl, rfl⟩

set_option maxHeartbeats 400000 in
theorem cell_Restore : Calls Try.prog 18 #[.pointer (some ⟨g, 0, none⟩)] w fun e w' => e = .returned (.tuple #[]) ∧ MemAt w' g gw gv n cw cv m.restore ∧ Only (MemR g gw gv) w w' := by
  have H := Lib.hid h
  have c5 := h.c5
  have c6 := h.c6
  have c7 := h.c7
  have f5 := h.fbox 5
  have f6 := h.fbox 6
  have f7 := h.fbox 7
  go_enter Try.func18, Try.ntmps18
  go_wp2_with (go_at_call 27; refine (cell_made H.out).mono ?_; rintro e w1 ⟨rfl, rfl⟩)
  go_end0
  exact ⟨rfl, ((h.setOff false).setPending false).setLeft 0, (((Only.refl _ _).setCell (.inl rfl) _).setCell (.inl rfl) _).setCell (.inl rfl) _⟩

set_option maxHeartbeats 400000 in
theorem cell_Cut (a : Int) : Calls Try.prog 13 #[.pointer (some ⟨g, 0, none⟩), .int .i64 a] w fun e w' => e = .returned (.int .i64 (m.cut a).2) ∧ MemAt w' g gw gv n cw cv (m.cut a).1 ∧ Only (MemR g gw gv) w w' := by
  have H := Lib.hid h
  have c5 := h.c5
  have c6 := h.c6
  have c7 := h.c7
  have f6 := h.fbox 6
  have f7 := h.fbox 7
  cases hm : m.off with
  | true =>
    rw [hm] at c5
    have HF := Lib.hid (show m.cut a = (m, 7) by unfold Cel.Mem.cut; rw [if_pos hm])
    go_enter Try.func13, Try.ntmps13
    go_wp2_with (go_at_call 27; refine (cell_made H.out).mono ?_; rintro e w1 ⟨rfl, rfl⟩)
    go_ret
    rw [HF.out]
    exact ⟨rfl, h, Only.refl _ _⟩
  | false =>
    rw [hm] at c5
    by_cases ha : a < 0
    · have HF := Lib.hid (show m.cut a = (m, 2) by unfold Cel.Mem.cut; rw [if_neg (by rw [hm]; decide), if_pos ha])
      go_enter Try.func13, Try.ntmps13
      go_wp2_with (go_at_call 27; refine (cell_made H.out).mono ?_; rintro e w1 ⟨rfl, rfl⟩)
      go_ret
      rw [HF.out]
      exact ⟨rfl, h, Only.refl _ _⟩
    · have HF := Lib.hid (show m.cut a = ({ m with pending := true, left := a }, 0) by unfold Cel.Mem.cut; rw [if_neg (by rw [hm]; decide), if_neg ha])
      go_enter Try.func13, Try.ntmps13
      go_wp2_with (go_at_call 27; refine (cell_made H.out).mono ?_; rintro e w1 ⟨rfl, rfl⟩)
      go_ret
      rw [HF.out]
      exact ⟨rfl, (h.setPending true).setLeft a, ((Only.refl _ _).setCell (.inl rfl) _).setCell (.inl rfl) _⟩

set_option maxRecDepth 100000 in
set_option maxHeartbeats 1000000 in
theorem cell_Flip (a b : Int) : Calls Try.prog 23 #[.pointer (some ⟨g, 0, none⟩), .int .i64 a, .int .i64 b] w fun e w' => e = .returned (.int .i64 (m.flip a b).2) ∧ MemAt w' g gw gv n cw cv (m.flip a b).1 ∧ Only (MemR g gw gv) w w' := by
  have H := Lib.hid h
  have c0 := h.c0
  by_cases hc : m.has a = true ∧ 0 ≤ b ∧ b < 32
  · obtain ⟨ha, hb0, hb1⟩ := hc
    have HF := Lib.hid (show m.flip a b = ({ m with words := m.words.set a.toNat (m.words.getD a.toNat 0 ^^^ Cel.bit b.toNat) }, 0) by unfold Cel.Mem.flip; rw [if_pos ⟨ha, hb0, hb1⟩])
    have hb := (m.has_iff a).1 ha
    rw [h.len] at hb
    obtain ⟨i, rfl⟩ := Int.eq_ofNat_of_zero_le hb.1
    obtain ⟨j, rfl⟩ := Int.eq_ofNat_of_zero_le hb0
    have hi : i < n := by omega
    have ci := h.word hi
    have fi := h.fword hi
    have hbz := hb.2
    have j32 : j % 32 = j := by omega
    have hfl := flip_eq (m.words.getD i 0) j
    rw [j32] at hfl
    have HFL := Lib.hid hfl
    generalize hx : m.words.getD i 0 = x at *
    have Hx := Lib.hid hx
    clear j32 hfl hx
    go_enter Try.func23, Try.ntmps23
    go_wp2_with (first
      | (go_at_call 27; refine (cell_made H.out).mono ?_; rintro e w1 ⟨rfl, rfl⟩)
      | (go_at_call 26; refine (cell_has H.out _).mono ?_; rintro e w1 ⟨rfl, rfl⟩; rw [ha]))
    have p0 : (0 : Int) ≤ (i : Int) := by omega
    have p1 : (i : Int) < (n : Int) := by omega
    have q0 : (0 : Int) ≤ (j : Int) := by omega
    have q1 : (j : Int) ≤ 32 := by omega
    refine wp_region_quiet_tail 11 (by kernel_rfl) (by kernel_rfl) ?_
    simp only [List.take_succ_cons, List.take_zero]
    repeat (go_big_quiet_step (fail))
    refine wpQuiet_nil ?_
    rintro _ ⟨nq, rfl⟩
    simp only [List.drop_succ_cons, List.drop_zero]
    go_wp2_with fail
    go_ret
    rw [HF.out]
    refine ⟨rfl, ?_⟩
    rw [HFL.out, Int.toNat_natCast, Int.toNat_natCast, Hx.out]
    exact ⟨(h.drewN nq).setWord hi _, (Only.drewN (Only.refl _ _) nq).setCell (.inr (.inl rfl)) _⟩
  · have HF := Lib.hid (show m.flip a b = (m, 2) by unfold Cel.Mem.flip; rw [if_neg hc])
    cases ha : m.has a with
    | false =>
      go_enter Try.func23, Try.ntmps23
      go_wp2_with (first
        | (go_at_call 27; refine (cell_made H.out).mono ?_; rintro e w1 ⟨rfl, rfl⟩)
        | (go_at_call 26; refine (cell_has H.out _).mono ?_; rintro e w1 ⟨rfl, rfl⟩; rw [ha]))
      go_ret
      rw [HF.out]
      exact ⟨rfl, h, Only.refl _ _⟩
    | true =>
      have hb : b < 0 ∨ (¬ b < 0 ∧ 32 ≤ b) := by
        by_cases h1 : b < 0
        · exact .inl h1
        · exact .inr ⟨h1, Int.not_lt.1 fun h2 => hc ⟨ha, by omega, h2⟩⟩
      clear hc
      rcases hb with hb | ⟨hb, hb'⟩
      all_goals
        go_enter Try.func23, Try.ntmps23
        go_wp2_with (first
          | (go_at_call 27; refine (cell_made H.out).mono ?_; rintro e w1 ⟨rfl, rfl⟩)
          | (go_at_call 26; refine (cell_has H.out _).mono ?_; rintro e w1 ⟨rfl, rfl⟩; rw [ha]))
        go_ret
        rw [HF.out]
        exact ⟨rfl, h, Only.refl _ _⟩

set_option maxRecDepth 100000 in
set_option maxHeartbeats 1000000 in
theorem cell_Image : Calls Try.prog 14 #[.pointer (some ⟨g, 0, none⟩)] w fun e w' => ∃ gi, e = .returned (.slice (some ⟨gi, 0, none⟩) n n) ∧ w.heap.size ≤ gi ∧ Wds w' w'.heap.size (some ⟨gi, 0, none⟩) n n m.words ∧ Below w.heap.size w w' := by
  have H := Lib.hid h
  obtain ⟨iu, hiu, hu0, hu1, hu2⟩ := info_parts i_u32
  have hmx := h.small
  have c0 := (h.below ((Below.refl _ _).alloc (Nat.le_refl _) (.cells (madeCells #[.int .u32 0] n) 30))).c0
  have mu : ∀ u : World, (Instr.makeSlice 22 (.int .i64 (n : Int)) (.int .i64 (n : Int))).run Try.prog u = .ok (.slice (some ⟨u.heap.size, 0, none⟩) n n) (u.alloc (.cells (madeCells #[.int .u32 0] n) 30)) := fun u => by
    have h := run_make (P := Try.prog) u 22 30 iu (.int .u32 0) Try.underlying22 hiu hu0 .i64 .i64 (n : Int) (n : Int) (by omega) (Int.le_refl _) (by rw [hu2]; omega) (by omega)
    simpa [hu1, Value.cells] using h
  go_enter Try.func14, Try.ntmps14
  go_wp2_with (first
    | (go_at_call 24; refine (cell_Words H.out).mono ?_; rintro e w1 ⟨rfl, rfl⟩)
    | (go_at_call 27; refine (cell_made (H.out.below ((Below.refl _ _).alloc (Nat.le_refl _) _))).mono ?_; rintro e w1 ⟨rfl, rfl⟩)
    | ((with_reducible refine wpList_copy_splice rfl (.tmp 9) (.tmp 13) 22 22 rfl 30 Try.underlying22 (by kernel_rfl) (some ⟨w.heap.size, 0, none⟩) (some ⟨gw, 0, none⟩) n n n cw rfl rfl w.heap.size 0 (List.replicate n (.int .u32 0)) 30 ?_ (m.words.map W32) ?_ ?_ ?_ ?_ w.heap.size w ?_ ?_ ?_)))
  case refine_1 => rw [← madeCells_eq]; exact heap_alloc_new w _
  case refine_2 => rw [List.length_map, H.out.len]; simp
  case refine_3 =>
    intro hp j a hj
    have hr := (H.out.below ((Below.refl _ _).alloc (Nat.le_refl _) (.cells (madeCells #[.int .u32 0] n) 30))).words.row
    have hjv : (m.words.map W32)[j]? = some (W32 a) := by rw [List.getElem?_map, hj]; rfl
    have hjl : j < (m.words.map W32).length := (List.getElem?_eq_some_iff.1 hjv).1
    obtain ⟨b, o, e, _, hc⟩ := hr.at_ hjl
    obtain ⟨rfl, rfl⟩ : gw = b ∧ 0 = o := by simpa using e
    rw [Nat.zero_add] at hc
    rw [hc, ← List.getElem?_eq_getElem hjl, hjv]
  case refine_4 => rw [List.length_map, H.out.len]; simp
  case refine_5 => intro v hv; obtain ⟨x, _, rfl⟩ := List.mem_map.1 hv; rfl
  case refine_6 => exact (Below.refl _ _).alloc (Nat.le_refl _) _
  case refine_7 => exact Nat.le_refl _
  case refine_8 =>
    intro w2 hh hb
    go_wp2_with fail
    go_ret
    refine ⟨w.heap.size, rfl, Nat.le_refl _, ⟨H.out.len, Nat.le_refl _, ?_⟩, hb⟩
    have e : splice (List.replicate n (Value.int .u32 0)) 0 (m.words.map W32) = m.words.map W32 := by
      have hl : (m.words.map W32).length = n := by rw [List.length_map, H.out.len]
      simp [splice, H.out.len]
    have hB : Blk w2 w.heap.size 30 (m.words.map W32).toArray := by rw [← e]; exact hh.out
    simpa using hB.row
end
end Go.Proofs.Ytdpfehdpglbidaa
