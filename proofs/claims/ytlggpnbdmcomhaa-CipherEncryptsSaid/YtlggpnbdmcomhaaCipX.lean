/-
  The example of the cipher's chapter holds.
-/
import Derived.Test.YtlggpnbdmcomhaaCipC
import Derived.Test.YtlggpnbdmcomhaaOctW
namespace Go.Proofs.Ytlggpnbdmcomhaa
open Go.RowKit

set_option maxRecDepth 100000 in
set_option maxHeartbeats 2000000 in
theorem law19_example (w : World) :
    Calls Try.prog 7 #[] w fun e w' => e = .returned (.bool true) ∧ Below w.heap.size w w' := by
  have m15 : ∀ u : World, (Instr.makeSlice 22 (.int .i64 15) (.int .i64 15)).run Try.prog u = .ok (.slice (some ⟨u.heap.size, 0, none⟩) 15 15) (u.alloc (.cells (zc 15) 5)) := fun _ => by kernel_rfl
  have m16 : ∀ u : World, (Instr.makeSlice 22 (.int .i64 16) (.int .i64 16)).run Try.prog u = .ok (.slice (some ⟨u.heap.size, 0, none⟩) 16 16) (u.alloc (.cells (zc 16) 5)) := fun _ => by kernel_rfl
  have m8 : ∀ u : World, (Instr.makeSlice 22 (.int .i64 8) (.int .i64 8)).run Try.prog u = .ok (.slice (some ⟨u.heap.size, 0, none⟩) 8 8) (u.alloc (.cells (zc 8) 5)) := fun _ => by kernel_rfl
  have m7 : ∀ u : World, (Instr.makeSlice 22 (.int .i64 7) (.int .i64 7)).run Try.prog u = .ok (.slice (some ⟨u.heap.size, 0, none⟩) 7 7) (u.alloc (.cells (zc 7) 5)) := fun _ => by kernel_rfl
  go_enter Try.func7, Try.ntmps7
  have hr16 : (Cip.res (zs 16) (zs 8) false).length = 8 := by rw [Cip.res_ok _ _ _ (zs_length 16) (zs_length 8)]; rfl
  have HR := Lib.hid hr16
  clear hr16
  go_upto_region 1 with fail
  go_cut [1, 2] (fun _ e wx => e = .int .i64 19 ∧ Below w.heap.size w wx)
  case first =>
    go_region_with (first
      | (go_at_call 8; refine (cipher_Encrypt _ _ _ _ _ _ (zs 15) (zs 8) _ (by first | exact byt_zc ((Blk.new' _ rfl rfl).alloc _).drew (by simp; omega) | exact byt_zc (Blk.new' _ (by simp) rfl).drew (by simp)) (by first | exact byt_zc ((Blk.new' _ rfl rfl).alloc _).drew (by simp; omega) | exact byt_zc (Blk.new' _ (by simp) rfl).drew (by simp))).mono ?_; rintro e w1 ⟨A2, d, rfl, hown, hbel⟩))
    all_goals
      go_wp2_with fail
      go_meet
      exact ⟨by rw [Cip.err_key _ _ (by rw [zs_length]; decide)], (((Below.refl _ _).alloc (Nat.le_refl _) _).alloc (by simp) _).drew.trans (hbel.mono (by simp; omega))⟩
  case rest =>
  obtain ⟨rfl, hb1⟩ := hcut
  go_upto_region 2 with fail
  go_cut [3, 4] (fun _ e wx => e = .int .i64 1 ∧ Below w.heap.size w wx)
  case first =>
    go_region_with (first
      | (go_at_call 8; refine (cipher_Encrypt _ _ _ _ _ _ (zs 16) (zs 7) _ (by first | exact byt_zc ((Blk.new' _ rfl rfl).alloc _).drew (by simp; omega) | exact byt_zc (Blk.new' _ (by simp) rfl).drew (by simp)) (by first | exact byt_zc ((Blk.new' _ rfl rfl).alloc _).drew (by simp; omega) | exact byt_zc (Blk.new' _ (by simp) rfl).drew (by simp))).mono ?_; rintro e w1 ⟨A2, d, rfl, hown, hbel⟩))
    all_goals
      go_wp2_with fail
      go_meet
      exact ⟨by rw [Cip.err_block _ _ (zs_length 16) (by rw [zs_length]; decide)], ((hb1.alloc hb1.size _).alloc (by simp; have := hb1.size; omega) _).drew.trans (hbel.mono (by simp; have := hb1.size; omega))⟩
  case rest =>
  obtain ⟨rfl, hb2⟩ := hcut
  go_upto_region 3 with fail
  go_cut [5, 6] (fun v e wx => e = .int .i64 0 ∧ (∃ A d, v = .slice A 8 d ∧ Byt wx wx.heap.size A 8 d (Cip.res (zs 16) (zs 8) false)) ∧ Below w.heap.size w wx)
  case first =>
    go_region_with (first
      | (go_at_call 8; refine (cipher_Encrypt _ _ _ _ _ _ (zs 16) (zs 8) _ (by first | exact byt_zc ((Blk.new' _ rfl rfl).alloc _).drew (by simp; omega) | exact byt_zc (Blk.new' _ (by simp) rfl).drew (by simp)) (by first | exact byt_zc ((Blk.new' _ rfl rfl).alloc _).drew (by simp; omega) | exact byt_zc (Blk.new' _ (by simp) rfl).drew (by simp))).mono ?_; rintro e w1 ⟨A2, d, rfl, hown, hbel⟩))
    all_goals
      rw [HR.out] at hown
      go_wp2_with fail
      go_meet
      exact ⟨by rw [Cip.err_ok _ _ (zs_length 16) (zs_length 8)], ⟨A2, d, by rw [HR.out], hown.byt (Nat.le_refl _)⟩, ((hb2.alloc hb2.size _).alloc (by simp; have := hb2.size; omega) _).drew.trans (hbel.mono (by simp; have := hb2.size; omega))⟩
  case rest =>
  obtain ⟨rfl, ⟨A, d, rfl, hy⟩, hb3⟩ := hcut
  go_upto_region 4 with fail
  go_cut [7, 8] (fun v e wx => e = .int .i64 0 ∧ (∃ A d, v = .slice A 8 d ∧ Byt wx wx.heap.size A 8 d (Cip.res (zs 16) (zs 8) false)) ∧ Byt wx wx.heap.size A 8 d (Cip.res (zs 16) (zs 8) false) ∧ Below w.heap.size w wx)
  case first =>
    go_region_with (first
      | (go_at_call 10; refine (ref19_Encrypt _ _ _ _ _ _ (zs 16) (zs 8) _ (by first | exact byt_zc ((Blk.new' _ rfl rfl).alloc _).drew (by simp; omega) | exact byt_zc (Blk.new' _ (by simp) rfl).drew (by simp)) (by first | exact byt_zc ((Blk.new' _ rfl rfl).alloc _).drew (by simp; omega) | exact byt_zc (Blk.new' _ (by simp) rfl).drew (by simp))).mono ?_; rintro e w1 ⟨A2, d, rfl, hown, hbel⟩))
    all_goals
      rw [HR.out] at hown
      go_wp2_with fail
      go_meet
      exact ⟨by rw [Cip.err_ok _ _ (zs_length 16) (zs_length 8)], ⟨_, _, by rw [HR.out], hown.byt (Nat.le_refl _)⟩, (hy.below ((((Below.refl _ _).alloc (Nat.le_refl _) _).alloc (by simp) _).drew.trans (hbel.mono (by simp; omega)))).more (by have := hbel.size; simp at this; omega), ((hb3.alloc hb3.size _).alloc (by simp; have := hb3.size; omega) _).drew.trans (hbel.mono (by simp; have := hb3.size; omega))⟩
  case rest =>
  obtain ⟨rfl, ⟨A2, d2, rfl, hy2⟩, hy1, hb4⟩ := hcut
  have hsame := Oct.same_refl (Cip.res (zs 16) (zs 8) false)
  go_wp2_with (go_at_call 9; refine (ref01_Same _ _ 8 8 _ _ _ _ _ hy1 hy2 (by omega) (by omega)).mono ?_; rintro e w1 ⟨rfl, k1, rfl⟩)
  go_ret
  exact ⟨by simp, Below.drewN hb4 _⟩
end Go.Proofs.Ytlggpnbdmcomhaa
