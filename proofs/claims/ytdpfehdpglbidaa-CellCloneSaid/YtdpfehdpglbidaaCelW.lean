/-
  The contracts of the memory's methods, each in one piece.
-/
import Derived.Test.YtdpfehdpglbidaaCelN
namespace Go.Proofs.Ytdpfehdpglbidaa
open Go.RowKit

section
variable {w : World} {g gw gv n cw cv : Nat} {m : Cel.Mem} (h : MemAt w g gw gv n cw cv m)
include h

theorem cell_Write (a x : Int) (v : UInt32) (hx : x = (v.toNat : Int)) {K : Int} (hf : Cel.Fine K m) (hK : 0 ≤ K ∧ K ≤ 4611686018427387904) : Calls Try.prog 9 #[.pointer (some ⟨g, 0, none⟩), .int .i64 a, .int .u32 x] w fun e w' =>
    e = .returned (.int .i64 (m.write a v).2) ∧ MemAt w' g gw gv n cw cv (m.write a v).1 ∧ Only (MemR g gw gv) w w' := by
  subst hx
  by_cases ha : m.access a = 0
  · by_cases hp : m.pending = true ∧ m.left = 0
    · rw [m.write_cut a v ha hp.1 hp.2]
      exact cell_Write_cut h a v ha hp.1 hp.2 (by have := hf.cuts.2; omega) hf.cuts.1
    · rw [m.write_yes a v ha hp]
      obtain ⟨ho, hh⟩ := (m.access_zero a).1 ha
      obtain ⟨h0, h1⟩ := (m.has_iff a).1 hh
      rw [h.len] at h1
      obtain ⟨i, rfl⟩ := Int.eq_ofNat_of_zero_le h0
      have hg := hf.getD hK.1 i
      exact cell_Write_yes h i v (by omega) ho (fun hq => ⟨fun hl => hp ⟨hq, hl⟩, by have := hf.left.1; omega, hf.left.2⟩) ⟨hf.writes.1, by have := hf.writes.2; omega⟩ ⟨hg.1, by omega⟩
  · rw [m.write_no a v ha]
    exact (cell_Write_no h a v ha).mono fun e w' ⟨he, hw⟩ => by subst hw; exact ⟨he, h, Only.refl _ _⟩

set_option maxHeartbeats 400000 in
theorem cell_Power : Calls Try.prog 15 #[.pointer (some ⟨g, 0, none⟩)] w fun e w' => e = .returned (.bool (!m.off)) ∧ w = w' := by
  have H := Lib.hid h
  have c5 := h.c5
  cases hm : m.off <;>
  · rw [hm] at c5
    go_enter Try.func15, Try.ntmps15
    go_wp2_with (go_at_call 27; refine (cell_made H.out).mono ?_; rintro e w1 ⟨rfl, rfl⟩)
    go_ret
    exact ⟨rfl, rfl⟩

set_option maxHeartbeats 400000 in
theorem cell_Writes : Calls Try.prog 16 #[.pointer (some ⟨g, 0, none⟩)] w fun e w' => e = .returned (.int .i64 m.writes) ∧ w = w' := by
  have H := Lib.hid h
  have c3 := h.c3
  go_enter Try.func16, Try.ntmps16
  go_wp2_with (go_at_call 27; refine (cell_made H.out).mono ?_; rintro e w1 ⟨rfl, rfl⟩)
  go_ret
  exact ⟨rfl, rfl⟩
end

/-- The memory of the chapter's example. -/
def Cel.ex1 : Cel.Mem := ((Cel.Mem.new 40 2).write 33 5).1
def Cel.ex2 : Cel.Mem := (Cel.ex1.write 33 5).1
def Cel.ex3 : Cel.Mem := (Cel.ex2.write 33 5).1

set_option maxRecDepth 100000 in
set_option maxHeartbeats 1000000 in
theorem law09_awake (w : World) :
    Calls Try.prog 12 #[] w fun e w' => e = .returned (.bool true) ∧ Below w.heap.size w w' := by
  go_enter Try.func12, Try.ntmps12
  go_wp2_with fail
  refine (cell_New 40 2 w (by omega) (by omega) (by omega)).mono ?_
  rintro e w1 ⟨g, gw, gv, rfl, hm, h1, h2, h3, hb⟩
  go_wp2_with fail
  go_loopw [3] (fun i wr => ∃ (k : Nat) (m : Cel.Mem), k ≤ 3 ∧ i = .int .i64 k ∧ m = (if k = 0 then Cel.Mem.new 40 2 else if k = 1 then Cel.ex1 else if k = 2 then Cel.ex2 else Cel.ex3) ∧ Cel.Fine k m ∧ MemAt wr g gw gv 40 40 40 m ∧ Only (MemR g gw gv) w1 wr) (fun i _ => 3 - (intOf i).toNat)
  case atStart => exact ⟨0, _, by omega, rfl, rfl, Cel.fine_new _ _, hm, Only.refl _ _⟩
  case round =>
    obtain ⟨k, m, hk, rfl, hmk, hf, hma, ho⟩ := hrel
    have HM := Lib.hid hmk
    clear hmk
    by_cases hlt : k < 3
    · have he : (m.write 33 5).2 = 0 := by
        rw [HM.out]; rcases (show k = 0 ∨ k = 1 ∨ k = 2 by omega) with rfl | rfl | rfl <;> decide
      have hn : (m.write 33 5).1 = (if k + 1 = 0 then Cel.Mem.new 40 2 else if k + 1 = 1 then Cel.ex1 else if k + 1 = 2 then Cel.ex2 else Cel.ex3) := by
        rw [HM.out]; rcases (show k = 0 ∨ k = 1 ∨ k = 2 by omega) with rfl | rfl | rfl <;> rfl
      have He := Lib.hid he
      have Hn := Lib.hid hn
      clear he hn
      go_wp2_with fail
      refine (cell_Write hma 33 5 5 rfl hf (by omega)).mono ?_
      rintro e w2 ⟨rfl, hm2, ho2⟩
      rw [He.out]
      have hf2 := hf.write (by omega) 33 5
      go_wp2_with fail
      go_roundw
      case rel => exact ⟨k + 1, _, by omega, by go_num, Hn.out, by exact hf2, hm2, ho.trans ho2⟩
      case measure => simp [intOf]; omega
    · obtain rfl : k = 3 := by omega
      have e1 : m.read 33 = (7, 0) := by rw [HM.out]; decide
      have e2 : m.wearOf 33 = 3 := by rw [HM.out]; decide
      have e3 : m.writes = 3 := by rw [HM.out]; decide
      have e4 : m.off = false := by rw [HM.out]; decide
      have E1 := Lib.hid e1
      have E2 := Lib.hid e2
      have E3 := Lib.hid e3
      have E4 := Lib.hid e4
      clear e1 e2 e3 e4
      go_wp2_with (first
        | (go_at_call 10; refine (cell_Read hma 33).mono ?_; rintro e w2 ⟨rfl, rfl⟩; rw [E1.out])
        | (go_at_call 11; refine (cell_Wear hma 33).mono ?_; rintro e w2 ⟨rfl, rfl⟩; rw [E2.out])
        | (go_at_call 16; refine (cell_Writes hma).mono ?_; rintro e w2 ⟨rfl, rfl⟩; rw [E3.out])
        | (go_at_call 15; refine (cell_Power hma).mono ?_; rintro e w2 ⟨rfl, rfl⟩; rw [E4.out]))
      go_ret
      exact ⟨rfl, hb.trans (ho.below (by exact hb.size) (fun q hq hr => by rcases hr with rfl | rfl | rfl <;> omega))⟩
end Go.Proofs.Ytdpfehdpglbidaa
