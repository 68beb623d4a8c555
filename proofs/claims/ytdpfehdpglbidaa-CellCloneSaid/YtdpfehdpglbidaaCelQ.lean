/-
  The walk of the law's seen.
-/
import Derived.Test.YtdpfehdpglbidaaCelP
namespace Go.Proofs.Ytdpfehdpglbidaa
open Go.RowKit

section
variable {w : World} {R : Nat → Prop} {g gw gv n cw cv : Nat} {m : Cel.Mem} {s : Value}

theorem Wds.cellO {w : World} {B b o n c : Nat} {ws : List UInt32} (h : Wds w B (some ⟨b, o, none⟩) n c ws) {k : Nat} (hk : k < n) : w.cell? ⟨b, o + k, none⟩ = some (.int .u32 ((ws.getD k 0).toNat : Int)) := by
  obtain ⟨b', o', e, _, hc⟩ := h.at_ hk
  obtain ⟨rfl, rfl⟩ : b = b' ∧ o = o' := by simpa using e
  exact hc
theorem Ints.cellO {w : World} {B b o n c : Nat} {xs : List Int} (h : Ints w B (some ⟨b, o, none⟩) n c xs) {k : Nat} (hk : k < n) : w.cell? ⟨b, o + k, none⟩ = some (.int .i64 (xs.getD k 0)) := by
  obtain ⟨b', o', e, _, hc⟩ := h.at_ hk
  obtain ⟨rfl, rfl⟩ : b = b' ∧ o = o' := by simpa using e
  exact hc

set_option maxRecDepth 100000 in
set_option maxHeartbeats 4000000 in
theorem law09_seen (hm : MemAt w g gw gv n cw cv m) (hs : StAt w R n m s) :
    Calls Try.prog 21 #[.pointer (some ⟨g, 0, none⟩), s] w fun e w' => e = .returned (.bool true) ∧ Below w.heap.size w w' := by
  have hpos := hm.pos
  have hsm := hm.small
  have HM := Lib.hid hm
  obtain ⟨A, c, A', c', z, rfl, _, hw, hi, _, _⟩ := hs
  have w1e := m.has_no (-1) (by omega)
  have w2e := m.has_no (n : Int) (by rw [hm.len]; omega)
  have e1 := Lib.hid (show m.wearOf (-1) = 0 by unfold Cel.Mem.wearOf; rw [w1e]; rfl)
  have e2 := Lib.hid (show m.wearOf (n : Int) = 0 by unfold Cel.Mem.wearOf; rw [w2e]; rfl)
  have e3 := Lib.hid (show ∀ k : Nat, k < n → m.wearOf (k : Int) = m.wear.getD k 0 from fun k hk => by
    unfold Cel.Mem.wearOf; rw [if_pos ((m.has_iff _).2 ⟨by omega, by rw [hm.len]; omega⟩)]; simp)
  obtain ⟨b, o, rfl, _, _⟩ := hw.at_ hpos
  obtain ⟨b', o', rfl, _, _⟩ := hi.at_ hpos
  have HW := Lib.hid hw
  have HI := Lib.hid hi
  clear hm hw hi w1e w2e
  unfold stOf
  go_enter Try.func21, Try.ntmps21
  go_wp2_with fail
  have hb0 := (Below.refl w.heap.size w).alloc (Nat.le_refl _) (.cells #[.slice (some ⟨b, o, none⟩) n c, .slice (some ⟨b', o', none⟩) n c', I64 m.endurance, I64 m.writes, I64 m.cuts, .bool (!m.off), I64 z] 45)
  have B0 := Blk.new w 45 #[.slice (some ⟨b, o, none⟩) n c, .slice (some ⟨b', o', none⟩) n c', I64 m.endurance, I64 m.writes, I64 m.cuts, .bool (!m.off), I64 z]
  refine (cell_Image (HM.out.below hb0)).mono ?_
  rintro e w1 ⟨gi, rfl, hgi, hl, hb1⟩
  have hM1 := ((HM.out.below hb0).below hb1)
  have B1 := B0.below hb1 B0.lt
  have HB1 := Lib.hid (hb0.trans (hb1.mono hb0.size))
  have HW1 := Lib.hid ((HW.out.below HB1.out).more HB1.out.size)
  have HI1 := Lib.hid ((HI.out.below HB1.out).more HB1.out.size)
  have HM1 := Lib.hid hM1
  have HL := Lib.hid hl
  have k0 := B1.cell 0
  have k3 := B1.cell 3
  have k4 := B1.cell 4
  have k5 := B1.cell 5
  have HB := Lib.hid B1
  clear B0 B1 hb0 hb1 hM1 hl HM HW HI
  go_wp2_with fail
  go_quiet (first
    | (go_at_call 24; exact Calls.quiet_of_same ((cell_Words (HM1.out.drewN _)).mono fun e w' h => ⟨h.1, h.2.symm⟩))
    | (go_at_call 15; exact Calls.quiet_of_same ((cell_Power (HM1.out.drewN _)).mono fun e w' h => ⟨h.1, h.2.symm⟩))
    | (go_at_call 16; exact Calls.quiet_of_same ((cell_Writes (HM1.out.drewN _)).mono fun e w' h => ⟨h.1, h.2.symm⟩))
    | (go_at_call 17; exact Calls.quiet_of_same ((cell_Cuts (HM1.out.drewN _)).mono fun e w' h => ⟨h.1, h.2.symm⟩)))
  have HM2 := Lib.hid (HM1.out.drewN nq)
  have HW2 := Lib.hid (show Wds (w1.drewN nq) w1.heap.size _ n c m.words from HW1.out)
  have HI2 := Lib.hid (show Ints (w1.drewN nq) w1.heap.size _ n c' m.wear from HI1.out)
  have HL2 := Lib.hid (show Wds (w1.drewN nq) w1.heap.size _ n n m.words from HL.out)
  have HB2 := Lib.hid (HB.out.drewN nq)
  have HE2 := Lib.hid (Below.drewN HB1.out nq)
  clear HM1 HW1 HI1 HL HB HB1 k0 k3 k4 k5
  generalize w1.drewN nq = w2 at *
  go_wp2_with fail
  go_loopw [6] (fun i wr => ∃ k d : Nat, k ≤ n ∧ i = .int .i64 k ∧ w2.drewN d = wr) (fun i _ => n - (intOf i).toNat)
  case atStart => exact ⟨0, 0, by omega, rfl, rfl⟩
  case round =>
    obtain ⟨k, d, hk, rfl, rfl⟩ := hrel
    by_cases hlt : k < n
    · have a0 := HW2.out.cellO hlt
      have a1 := HL2.out.cell hlt
      have a2 := HI2.out.cellO hlt
      have a3 := HB2.out.cell 0
      have a4 := HB2.out.cell 1
      have E3 := e3.out k hlt
      have i0 : (0 : Int) ≤ (k : Int) := by omega
      have i1 : (k : Int) < (n : Int) := by omega
      generalize m.words.getD k 0 = x at *
      generalize m.wear.getD k 0 = y at *
      have hWE : ∀ u : Nat, Calls Try.prog 11 #[.pointer (some ⟨g, 0, none⟩), .int .i64 (k : Int)] (w2.drewN u) fun e w' => e = .returned (.int .i64 y) ∧ w' = w2.drewN u := fun u =>
        (cell_Wear (HM2.out.drewN u) (k : Int)).mono fun e w' h => ⟨by rw [h.1, E3], h.2.symm⟩
      have HWE := Lib.hid hWE
      clear E3 hWE
      go_wp2_with fail
      go_quiet (first | (go_at_call 11; exact (HWE.out _).mono fun e w' h => ⟨h.1, _, h.2⟩))
      go_wp2_with fail
      go_roundw
      case rel => exact ⟨k + 1, _, by omega, by go_num, rfl⟩
      case measure => simp [intOf]; omega
    · obtain rfl : k = n := by omega
      have hWA : ∀ u : World, MemAt u g gw gv k cw cv m → Calls Try.prog 11 #[.pointer (some ⟨g, 0, none⟩), .int .i64 (-1)] u fun e w' => e = .returned (.int .i64 0) ∧ u = w' := fun u hu =>
        (cell_Wear hu (-1)).mono fun e w' h => ⟨by rw [h.1, e1.out], h.2⟩
      have hWB : ∀ u : World, MemAt u g gw gv k cw cv m → Calls Try.prog 11 #[.pointer (some ⟨g, 0, none⟩), .int .i64 (k : Int)] u fun e w' => e = .returned (.int .i64 0) ∧ u = w' := fun u hu =>
        (cell_Wear hu (k : Int)).mono fun e w' h => ⟨by rw [h.1, e2.out], h.2⟩
      have HWA := Lib.hid hWA
      have HWB := Lib.hid hWB
      clear hWA hWB
      go_wp2_with fail
      refine (HWA.out _ (HM2.out.drewN _)).mono ?_
      rintro e w4 ⟨rfl, rfl⟩
      go_wp2_with fail
      refine (HWB.out _ (HM2.out.drewN _)).mono ?_
      rintro e w5 ⟨rfl, rfl⟩
      go_wp2_with fail
      go_ret
      exact ⟨rfl, Below.drewN HE2.out _⟩
end
end Go.Proofs.Ytdpfehdpglbidaa
