/-
  The walk of the reference's Flip.
-/
import Derived.Test.YtdpfehdpglbidaaCelI
namespace Go.Proofs.Ytdpfehdpglbidaa
open Go.RowKit

theorem Below.undrewN {B : Nat} {a w : World} {k : Nat} (h : Below B (a.drewN k) w) : Below B a w := ⟨h.os, h.tape, h.output, h.size, h.block⟩

section
variable {w : World} {A A' : Option Addr} {n c c' : Nat} {m : Cel.Mem} {z : Int}

set_option maxRecDepth 100000 in
set_option maxHeartbeats 1000000 in
/-- Where nothing is turned. -/
theorem ref09_Flip_no (w : World) (a b : Int) (h : ¬ (0 ≤ a ∧ a < n ∧ 0 ≤ b ∧ b < 32)) :
    Calls Try.prog 32 #[stOf A n c A' c' m z, .int .i64 a, .int .i64 b] w fun e w' => e = .returned (.tuple #[stOf A n c A' c' m z, .int .i64 2]) ∧ Below w.heap.size w w' := by
  unfold stOf
  have hcase : a < 0 ∨ (0 ≤ a ∧ (n : Int) ≤ a) ∨ (0 ≤ a ∧ a < n ∧ b < 0) ∨ (0 ≤ a ∧ a < n ∧ 0 ≤ b ∧ 31 < b) := by omega
  clear h
  rcases hcase with h0 | ⟨h0, h1⟩ | ⟨h0, h1, h2⟩ | ⟨h0, h1, h2, h3⟩ <;>
  · go_enter Try.func32, Try.ntmps32
    go_wp2_with fail
    refine bodyPost_ret (results_row_tmp rfl _ _ (w.heap.size + 1) 45 _ (0, 0) _ rfl (Blk.new' _ (by simp) rfl) Try.underlying45 rfl (by kernel_rfl)) rfl ⟨?_, ((Below.refl _ _).alloc (Nat.le_refl _) _).alloc (by simp) _⟩
    simp

set_option maxRecDepth 100000 in
set_option maxHeartbeats 2000000 in
theorem ref09_Flip_yes (w : World) (i j : Nat) (x v : UInt32) (hs : Wds w w.heap.size A n c m.words) (hn : n ≤ 65536) (hin : i < n) (hj : j < 32) (hx : m.words.getD i 0 = x) (hv : x ^^^ Cel.bit j = v) :
    Calls Try.prog 32 #[stOf A n c A' c' m z, .int .i64 (i : Int), .int .i64 (j : Int)] w fun e w' => ∃ A2 c2, e = .returned (.tuple #[stOf A2 n c2 A' c' m z, .int .i64 0]) ∧ Wds w' w'.heap.size A2 n c2 (m.words.set i v) ∧ Fresh w.heap.size A2 ∧ Below w.heap.size w w' := by
  unfold stOf
  have HS := Lib.hid hs
  have p0 : (0 : Int) ≤ (i : Int) := by omega
  have p1 : (i : Int) < (n : Int) := by omega
  have p2 : (0 : Int) ≤ (j : Int) := by omega
  have p3 : (j : Int) ≤ 31 := by omega
  obtain ⟨b, o, rfl, hb, hc⟩ := hs.at_ hin
  rw [hx] at hc
  have hc2 : ∀ o1 o2 : Obj, ((w.alloc o1).alloc o2).cell? ⟨b, o + i, none⟩ = some (.int .u32 (x.toNat : Int)) := fun o1 o2 =>
    ((((Below.refl w.heap.size w).alloc (Nat.le_refl _) o1).alloc (by simp) o2).cell (p := ⟨b, o + i, none⟩) hb).trans hc
  clear hc
  have xr : bits BinOp.xor IntKind.u32 (x.toNat : Int) ((Cel.bit j).toNat : Int) = (v.toNat : Int) := by
    rw [u32_xor_nat _ _ x.toNat_lt (Cel.bit j).toNat_lt, ← UInt32.toNat_xor, hv]
  have HB := Lib.hid (fun u => ref09_bit j u hj)
  clear hs hx hv
  go_enter Try.func32, Try.ntmps32
  go_wp2_with fail
  refine wp_region_quiet_tail 11 (by kernel_rfl) (by kernel_rfl) ?_
  simp only [List.take_succ_cons, List.take_zero]
  repeat (go_big_quiet_step ((go_at_call 36; exact Calls.quiet_of_same ((HB.out _).mono fun e w' h => ⟨h.1, h.2.symm⟩))))
  refine wpQuiet_nil ?_
  rintro _ ⟨nq, rfl⟩
  simp only [List.drop_succ_cons, List.drop_zero]
  go_wp2_with fail
  refine (ref09_put _ n c i m.words v _ (HS.out.below (Below.drewN (((Below.refl _ _).alloc (Nat.le_refl _) _).alloc (by simp) _) _) |>.more (show w.heap.size ≤ _ by simp; omega)) hn hin).mono ?_
  rintro e w3 ⟨A4, c4, rfl, ho4, hb4⟩
  have ho4 := ho4.mono (base' := w.heap.size + 2) (by simp)
  obtain ⟨B1, B2, hbw⟩ := blk_of_two (Below.undrewN hb4)
  clear hb4
  have f0 := B1.frozen 0
  have k0 := B1.cell 0
  have hlt := B2.lt
  generalize hgs : w.heap.size = g at *
  have HG := Lib.hid hgs
  clear hgs hc2 hb
  have hF1 := Lib.hid (show Blk (w3.setCell ⟨g, 0, none⟩ (.slice A4 n c4)) g 45 #[.slice A4 n c4, .slice A' n c', I64 m.endurance, I64 m.writes, I64 m.cuts, .bool (!m.off), I64 z] from B1.set 0 (.slice A4 n c4))
  have hF2 := Lib.hid (Blk.far B2 (p := ⟨g, 0, none⟩) (by simp) (.slice A4 n c4))
  have hF3 := Lib.hid (Own.setCell ho4 (p := ⟨g, 0, none⟩) (far_own ho4 (g := g) (by omega) (by omega)) (.slice A4 n c4))
  have hF5 := Lib.hid (Below.setCell hbw (p := ⟨g, 0, none⟩) (Nat.le_refl _) (.slice A4 n c4))
  clear B1 B2 ho4 hbw
  go_wp2_with (first
    | ((with_reducible show wpList _ _ _ (Oper.mk _ (Op.load 45 (Operand.tmp 3)) _ _ _ _ :: _) _ _); refine wpList_load_row rfl 45 (.tmp 3) rfl g rfl 45 _ (0, 0) _ hF1.out Try.underlying45 rfl (by kernel_rfl) ?_)
    | ((with_reducible show wpList _ _ _ (Oper.mk _ (Op.store 45 (Operand.tmp 6) (Operand.tmp 39)) _ _ _ _ :: _) _ _); refine wpList_store_row rfl 45 (.tmp 6) (.tmp 39) rfl (g + 1) #[.slice A4 n c4, .slice A' n c', I64 m.endurance, I64 m.writes, I64 m.cuts, .bool (!m.off), I64 z] rfl rfl 45 _ hF2.out (by kernel_rfl) rfl (st_one _ _ _ _ _ _ _ _ _ _ _) ?_))
  have hR := (hF2.out).setRow #[.slice A4 n c4, .slice A' n c', I64 m.endurance, I64 m.writes, I64 m.cuts, .bool (!m.off), I64 z]
  have hO3 := Own.setRow hF3.out (far_own hF3.out (g := g + 1) (by omega) (by omega)) #[.slice A4 n c4, .slice A' n c', I64 m.endurance, I64 m.writes, I64 m.cuts, .bool (!m.off), I64 z]
  have hB := Below.setRow hF5.out (g := g + 1) (by omega) #[.slice A4 n c4, .slice A' n c', I64 m.endurance, I64 m.writes, I64 m.cuts, .bool (!m.off), I64 z]
  refine bodyPost_ret (results_row_tmp rfl _ _ (g + 1) 45 _ (0, 0) _ rfl hR Try.underlying45 rfl (by kernel_rfl)) rfl ⟨A4, c4, ?_, ?_, ?_, ?_⟩
  · simp
  · exact ⟨by rw [List.length_set]; exact HS.out.1, hF3.out.le, hO3.row⟩
  · rw [HG.out]; exact (hF3.out.fresh (by omega)).mono (by omega)
  · rw [HG.out]; exact hB

theorem law_ref09_Flip {R : Nat → Prop} {s : Value} (h : StAt w R n m s) (hR : ∀ k, R k → k < w.heap.size) (hn : n ≤ 65536) (a b : Int) :
    Calls Try.prog 32 #[s, .int .i64 a, .int .i64 b] w fun e w' => ∃ s', e = .returned (.tuple #[s', .int .i64 (m.flip a b).2]) ∧ StAt w' R n (m.flip a b).1 s' ∧ Below w.heap.size w w' := by
  have h0 := h
  obtain ⟨A, c, A', c', z, rfl, hz, hw, hi, k1, k2⟩ := h
  by_cases hc : m.has a ∧ 0 ≤ b ∧ b < 32
  · have e : m.flip a b = ({ m with words := m.words.set a.toNat (m.words.getD a.toNat 0 ^^^ Cel.bit b.toNat) }, 0) := by unfold Cel.Mem.flip; rw [if_pos hc]
    rw [e]
    obtain ⟨ha, hb0, hb1⟩ := hc
    have hb := (m.has_iff a).1 ha
    rw [hw.1] at hb
    obtain ⟨i, rfl⟩ := Int.eq_ofNat_of_zero_le hb.1
    obtain ⟨j, rfl⟩ := Int.eq_ofNat_of_zero_le hb0
    refine (ref09_Flip_yes w i j _ _ hw hn (by omega) (by omega) rfl rfl).mono ?_
    rintro e w1 ⟨A2, c2, rfl, hw1, g1, hb⟩
    exact ⟨_, rfl, ⟨A2, c2, A', c', z, rfl, hz, hw1, (hi.below hb).more hb.size, g1.clear hR, k2⟩, hb⟩
  · have e : m.flip a b = (m, 2) := by unfold Cel.Mem.flip; rw [if_neg hc]
    rw [e]
    refine (ref09_Flip_no w a b ?_).mono ?_
    · intro h; exact hc ⟨(m.has_iff a).2 ⟨h.1, by rw [hw.1]; exact h.2.1⟩, h.2.2⟩
    · rintro e w1 ⟨rfl, hb⟩
      exact ⟨_, rfl, h0.below hb, hb⟩
end
end Go.Proofs.Ytdpfehdpglbidaa
