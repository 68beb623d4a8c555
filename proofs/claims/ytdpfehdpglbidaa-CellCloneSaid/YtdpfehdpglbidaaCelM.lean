/-
  A memory in the heap, and the walks of its small methods.
-/
import Derived.Test.YtdpfehdpglbidaaRows
import Derived.Test.YtdpfehdpglbidaaOnly
import Derived.Test.YtdpfehdpglbidaaCel
namespace Go.Proofs.Ytdpfehdpglbidaa
open Go.RowKit

/-- The memory m lies in block g, its words in block gw, its wear in block gv. -/
structure MemAt (w : World) (g gw gv n cw cv : Nat) (m : Cel.Mem) : Prop where
  box : Blk w g 56 #[.slice (some ⟨gw, 0, none⟩) n cw, .slice (some ⟨gv, 0, none⟩) n cv, I64 m.endurance, I64 m.writes, I64 m.cuts, .bool m.off, .bool m.pending, I64 m.left]
  words : Own w 0 30 1 (some ⟨gw, 0, none⟩) n cw (m.words.map W32)
  wear : Own w 0 3 1 (some ⟨gv, 0, none⟩) n cv (m.wear.map I64)
  pos : 0 < n
  small : n ≤ 65536
  gw_ne : g ≠ gw
  gv_ne : g ≠ gv
  wv_ne : gw ≠ gv

section
variable {w w' : World} {g gw gv n cw cv : Nat} {m : Cel.Mem}
theorem MemAt.len (h : MemAt w g gw gv n cw cv m) : m.words.length = n := by have := h.words.len; simpa using this
theorem MemAt.lenw (h : MemAt w g gw gv n cw cv m) : m.wear.length = n := by have := h.wear.len; simpa using this
theorem MemAt.only {R : Nat → Prop} (h : MemAt w g gw gv n cw cv m) (ho : Only R w w') (h0 : ¬ R g) (h1 : ¬ R gw) (h2 : ¬ R gv) : MemAt w' g gw gv n cw cv m :=
  ⟨h.box.only ho h0, h.words.only ho (by intro q hq; simp at hq; subst hq; exact h1), h.wear.only ho (by intro q hq; simp at hq; subst hq; exact h2), h.pos, h.small, h.gw_ne, h.gv_ne, h.wv_ne⟩
theorem MemAt.below (h : MemAt w g gw gv n cw cv m) (hb : Below w.heap.size w w') : MemAt w' g gw gv n cw cv m :=
  h.only (R := fun _ => False) (Only.of_below hb) id id id
theorem MemAt.max (h : MemAt w g gw gv n cw cv m) : n ≤ 9223372036854775807 := by
  have := h.words.max; have := h.words.le; unfold maxLen at *; omega
end

section
variable {w : World} {g gw gv n cw cv : Nat} {m : Cel.Mem}
theorem MemAt.c0 (h : MemAt w g gw gv n cw cv m) : w.cell? ⟨g, 0, none⟩ = some (.slice (some ⟨gw, 0, none⟩) n cw) := h.box.cell 0
theorem MemAt.c1 (h : MemAt w g gw gv n cw cv m) : w.cell? ⟨g, 1, none⟩ = some (.slice (some ⟨gv, 0, none⟩) n cv) := h.box.cell 1
theorem MemAt.c2 (h : MemAt w g gw gv n cw cv m) : w.cell? ⟨g, 2, none⟩ = some (.int .i64 m.endurance) := h.box.cell 2
theorem MemAt.c3 (h : MemAt w g gw gv n cw cv m) : w.cell? ⟨g, 3, none⟩ = some (.int .i64 m.writes) := h.box.cell 3
theorem MemAt.c4 (h : MemAt w g gw gv n cw cv m) : w.cell? ⟨g, 4, none⟩ = some (.int .i64 m.cuts) := h.box.cell 4
theorem MemAt.c5 (h : MemAt w g gw gv n cw cv m) : w.cell? ⟨g, 5, none⟩ = some (.bool m.off) := h.box.cell 5
theorem MemAt.c6 (h : MemAt w g gw gv n cw cv m) : w.cell? ⟨g, 6, none⟩ = some (.bool m.pending) := h.box.cell 6
theorem MemAt.c7 (h : MemAt w g gw gv n cw cv m) : w.cell? ⟨g, 7, none⟩ = some (.int .i64 m.left) := h.box.cell 7
/-- A word's cell, and its wear's. -/
theorem MemAt.word (h : MemAt w g gw gv n cw cv m) {i : Nat} (hi : i < n) : w.cell? ⟨gw, i, none⟩ = some (.int .u32 ((m.words.getD i 0).toNat : Int)) := by
  obtain ⟨q, e, _, _, hc, _⟩ := h.words.elem hi
  obtain rfl : gw = q := by simpa using e
  have hl : i < m.words.length := by rw [h.len]; exact hi
  rw [hc]; simp [List.getD, List.getElem?_eq_getElem hl]
theorem MemAt.worn (h : MemAt w g gw gv n cw cv m) {i : Nat} (hi : i < n) : w.cell? ⟨gv, i, none⟩ = some (.int .i64 (m.wear.getD i 0)) := by
  obtain ⟨q, e, _, _, hc, _⟩ := h.wear.elem hi
  obtain rfl : gv = q := by simpa using e
  have hl : i < m.wear.length := by rw [h.lenw]; exact hi
  rw [hc]; simp [List.getD, List.getElem?_eq_getElem hl]
end

set_option maxHeartbeats 400000 in
theorem cell_made {w : World} {g gw gv n cw cv : Nat} {m : Cel.Mem} (h : MemAt w g gw gv n cw cv m) :
    Calls Try.prog 27 #[.pointer (some ⟨g, 0, none⟩)] w fun e w' => e = .returned (.bool true) ∧ w = w' := by
  have c0 := h.c0
  go_enter Try.func27, Try.ntmps27
  go_wp2_with fail
  go_ret
  exact ⟨rfl, rfl⟩

section
variable {w : World} {g gw gv n cw cv : Nat} {m : Cel.Mem} (h : MemAt w g gw gv n cw cv m)
include h

set_option maxHeartbeats 400000 in
theorem cell_Words : Calls Try.prog 24 #[.pointer (some ⟨g, 0, none⟩)] w fun e w' => e = .returned (.int .i64 (n : Int)) ∧ w = w' := by
  have c0 := h.c0
  go_enter Try.func24, Try.ntmps24
  go_wp2_with (go_at_call 27; refine (cell_made h).mono ?_; rintro e w1 ⟨rfl, rfl⟩)
  go_ret
  exact ⟨rfl, rfl⟩

set_option maxHeartbeats 400000 in
theorem cell_has (a : Int) : Calls Try.prog 26 #[.pointer (some ⟨g, 0, none⟩), .int .i64 a] w fun e w' => e = .returned (.bool (m.has a)) ∧ w = w' := by
  have hl := Lib.hid h.len
  have H := Lib.hid h
  by_cases h0 : 0 ≤ a
  · by_cases h1 : a < n
    · go_enter Try.func26, Try.ntmps26
      go_wp2_with (go_at_call 24; refine (cell_Words H.out).mono ?_; rintro e w1 ⟨rfl, rfl⟩)
      go_ret
      exact ⟨by rw [(m.has_iff a).2 ⟨h0, by rw [hl.out]; exact h1⟩]; rfl, rfl⟩
    · have hd : decide (a < (n : Int)) = false := by simpa using h1
      go_enter Try.func26, Try.ntmps26
      go_wp2_with (go_at_call 24; refine (cell_Words H.out).mono ?_; rintro e w1 ⟨rfl, rfl⟩)
      go_ret
      exact ⟨by rw [m.has_no a (by rw [hl.out]; omega)]; rfl, rfl⟩
  · go_enter Try.func26, Try.ntmps26
    go_wp2_with (go_at_call 24; refine (cell_Words H.out).mono ?_; rintro e w1 ⟨rfl, rfl⟩)
    go_ret
    exact ⟨by rw [m.has_no a (by omega)]; rfl, rfl⟩

set_option maxHeartbeats 400000 in
theorem cell_access (a : Int) : Calls Try.prog 25 #[.pointer (some ⟨g, 0, none⟩), .int .i64 a] w fun e w' => e = .returned (.int .i64 (m.access a)) ∧ w = w' := by
  have H := Lib.hid h
  have c5 := h.c5
  cases ho : m.off with
  | true =>
    rw [ho] at c5
    have HF := Lib.hid (show m.access a = 7 by simp [Cel.Mem.access, ho])
    clear ho
    go_enter Try.func25, Try.ntmps25
    go_wp2_with (go_at_call 27; refine (cell_made H.out).mono ?_; rintro e w1 ⟨rfl, rfl⟩)
    go_ret
    exact ⟨by rw [HF.out]; rfl, rfl⟩
  | false =>
    rw [ho] at c5
    cases hh : m.has a with
    | true =>
      have HF := Lib.hid (show m.access a = 0 by simp [Cel.Mem.access, ho, hh])
      clear ho
      go_enter Try.func25, Try.ntmps25
      go_wp2_with (first
        | (go_at_call 27; refine (cell_made H.out).mono ?_; rintro e w1 ⟨rfl, rfl⟩)
        | (go_at_call 26; refine (cell_has H.out a).mono ?_; rintro e w1 ⟨rfl, rfl⟩; rw [hh]))
      go_ret
      exact ⟨by rw [HF.out]; rfl, rfl⟩
    | false =>
      have HF := Lib.hid (show m.access a = 2 by simp [Cel.Mem.access, ho, hh])
      clear ho
      go_enter Try.func25, Try.ntmps25
      go_wp2_with (first
        | (go_at_call 27; refine (cell_made H.out).mono ?_; rintro e w1 ⟨rfl, rfl⟩)
        | (go_at_call 26; refine (cell_has H.out a).mono ?_; rintro e w1 ⟨rfl, rfl⟩; rw [hh]))
      go_ret
      exact ⟨by rw [HF.out]; rfl, rfl⟩

set_option maxHeartbeats 400000 in
theorem cell_Read (a : Int) : Calls Try.prog 10 #[.pointer (some ⟨g, 0, none⟩), .int .i64 a] w fun e w' => e = .returned (.tuple #[W32 (m.read a).1, .int .i64 (m.read a).2]) ∧ w = w' := by
  have H := Lib.hid h
  have c0 := h.c0
  cases ha : (m.access a != 0) with
  | true =>
    have HF := Lib.hid (show m.read a = (0, m.access a) by simp at ha; simp [Cel.Mem.read, ha])
    go_enter Try.func10, Try.ntmps10
    go_wp2_with (go_at_call 25; refine (cell_access H.out a).mono ?_; rintro e w1 ⟨rfl, rfl⟩)
    go_ret2
    exact ⟨by rw [HF.out]; rfl, rfl⟩
  | false =>
    have hz : m.access a = 0 := by simpa using ha
    have HF := Lib.hid (show m.read a = (m.words.getD a.toNat 0, 0) by simp [Cel.Mem.read, hz])
    have hb : 0 ≤ a ∧ a < n := by
      have := (m.has_iff a).1 ((m.access_zero a).1 hz).2
      rwa [h.len] at this
    obtain ⟨i, rfl⟩ := Int.eq_ofNat_of_zero_le hb.1
    have hi : i < n := by omega
    have ci := h.word hi
    clear hz
    have hbz := hb.2
    go_enter Try.func10, Try.ntmps10
    go_wp2_with (go_at_call 25; refine (cell_access H.out _).mono ?_; rintro e w1 ⟨rfl, rfl⟩)
    go_ret2
    exact ⟨by rw [HF.out]; rfl, rfl⟩

set_option maxHeartbeats 400000 in
theorem cell_Wear (a : Int) : Calls Try.prog 11 #[.pointer (some ⟨g, 0, none⟩), .int .i64 a] w fun e w' => e = .returned (.int .i64 (m.wearOf a)) ∧ w = w' := by
  have H := Lib.hid h
  have c1 := h.c1
  cases ha : m.has a with
  | false =>
    have HF := Lib.hid (show m.wearOf a = 0 by simp [Cel.Mem.wearOf, ha])
    go_enter Try.func11, Try.ntmps11
    go_wp2_with (go_at_call 26; refine (cell_has H.out a).mono ?_; rintro e w1 ⟨rfl, rfl⟩; rw [ha])
    go_ret
    exact ⟨by rw [HF.out]; rfl, rfl⟩
  | true =>
    have HF := Lib.hid (show m.wearOf a = m.wear.getD a.toNat 0 by simp [Cel.Mem.wearOf, ha])
    have hb : 0 ≤ a ∧ a < n := by
      have := (m.has_iff a).1 ha
      rwa [h.len] at this
    obtain ⟨i, rfl⟩ := Int.eq_ofNat_of_zero_le hb.1
    have hi : i < n := by omega
    have ci := h.worn hi
    have hbz := hb.2
    go_enter Try.func11, Try.ntmps11
    go_wp2_with (go_at_call 26; refine (cell_has H.out _).mono ?_; rintro e w1 ⟨rfl, rfl⟩; rw [ha])
    go_ret
    exact ⟨by rw [HF.out]; rfl, rfl⟩
end
end Go.Proofs.Ytdpfehdpglbidaa
