/-
  The walks of the cipher's larger functions.
-/
import Derived.Test.YtbmblalbnegglaaCipW
namespace Go.Proofs.Ytbmblalbnegglaa
open Go.RowKit

theorem karr_get (key : List UInt8) (i : Nat) (hi : i < 16) : (karr key 16)[i]? = some (W32 (Cip.rk key i)) := by
  simp [karr, hi]

set_option maxRecDepth 100000 in
set_option maxHeartbeats 1000000 in
theorem cipher_run (l r : UInt32) (ks : List UInt32) (hk : ks.length = 16) (w : World) :
    Calls Try.prog 52 #[.agg #[W32 l, W32 r], .agg (ks.map W32).toArray] w fun e w' =>
      e = .returned (.agg #[W32 (Cip.steps (l, r) ks).2, W32 (Cip.steps (l, r) ks).1]) ∧ Below w.heap.size w w' := by
  have Hk := Lib.hid hk
  clear hk
  go_enter Try.func52, Try.ntmps52
  go_wp2_with fail
  go_loopw [6] (fun i wr => ∃ k : Nat, k ≤ 16 ∧ i = .int .i64 k ∧ Blk wr w.heap.size 56 #[W32 (Cip.steps (l, r) (ks.take k)).1, W32 (Cip.steps (l, r) (ks.take k)).2] ∧
      Blk wr (w.heap.size + 1) 53 (ks.map W32).toArray ∧ Blk wr (w.heap.size + 2) 56 #[W32 0, W32 0] ∧ Below w.heap.size w wr) (fun i _ => 16 - (intOf i).toNat)
  case atStart =>
    refine ⟨0, by omega, rfl, ((Blk.new' _ rfl rfl).alloc _).alloc _, (Blk.new' _ (by simp) rfl).alloc _, Blk.new' _ (by simp) rfl, (((Below.refl _ _).alloc (Nat.le_refl _) _).alloc (by simp) _).alloc (by simp; omega) _⟩
  case round =>
    obtain ⟨k, hk16, rfl, hb0, hb1, hb2, hbel⟩ := hrel
    by_cases hlt : k < 16
    · have hkl : k < ks.length := by rw [Hk.out]; exact hlt
      have e1 : ks.take (k + 1) = ks.take k ++ [ks[k]] := by rw [List.take_succ_eq_append_getElem hkl]
      have c1 : wr.cell? ⟨w.heap.size + 1, k, none⟩ = some (W32 ks[k]) := by rw [hb1.cell]; simp [List.getElem?_map, List.getElem?_eq_getElem hkl]
      have E1 := Lib.hid e1
      have hb1' := Lib.hid hb1
      clear e1 hb1
      generalize ks[k] = kk at *
      generalize hst : Cip.steps (l, r) (ks.take k) = st at *
      have Hst := Lib.hid hst
      clear hst
      obtain ⟨a, b⟩ := st
      have a0 : wr.cell? ⟨w.heap.size, 0, none⟩ = some (W32 a) := hb0.cell 0
      have a1 : wr.cell? ⟨w.heap.size, 1, none⟩ = some (W32 b) := hb0.cell 1
      go_wp2_with fail
      have i0 : (0 : Int) ≤ (k : Int) := by omega
      have i1 : (k : Int) < 16 := by omega
      have hf0 := hb0.frozen 0
      have hf1 := hb0.frozen 1
      refine wp_region_quiet_tail 12 (by kernel_rfl) (by kernel_rfl) ?_
      simp only [List.take_succ_cons, List.take_zero]
      repeat (go_big_quiet_step ((go_at_call 54; exact Calls.quiet_of_same (cipher_f b kk _))))
      refine wpQuiet_nil ?_
      rintro _ ⟨nq, rfl⟩
      simp only [List.drop_succ_cons, List.drop_zero]
      go_wp2_with fail
      go_roundw
      case rel =>
        have hx : bits BinOp.xor IntKind.u32 (a.toNat : Int) ((Cip.mixF b kk).toNat : Int) = ((a ^^^ Cip.mixF b kk).toNat : Int) := by
          rw [u32_xor_nat _ _ a.toNat_lt (Cip.mixF b kk).toNat_lt, UInt32.toNat_xor]
        have hs : Cip.steps (l, r) (ks.take (k + 1)) = (b, a ^^^ Cip.mixF b kk) := by
          rw [E1.out, Cip.steps, List.foldl_append]
          show Cip.step (Cip.steps (l, r) (ks.take k)) kk = _
          rw [Hst.out]; rfl
        rw [hx]
        refine ⟨k + 1, by omega, by go_num, ?_, ?_, ((hb2.drewN nq).far (by simp) _).far (by simp) _, ((Below.drewN hbel nq).setCell (by simp) _).setCell (by simp) _⟩
        · rw [hs]
          exact ((hb0.drewN nq).set 0 _).set 1 _
        · exact ((hb1'.out.drewN nq).far (by simp) _).far (by simp) _
      case measure => simp [intOf]; omega
    · obtain rfl : k = 16 := by omega
      have e16 : ks.take 16 = ks := by rw [List.take_of_length_le (by rw [Hk.out]; omega)]
      rw [e16] at hb0
      have a0 : wr.cell? ⟨w.heap.size, 0, none⟩ = some (W32 (Cip.steps (l, r) ks).1) := hb0.cell 0
      have a1 : wr.cell? ⟨w.heap.size, 1, none⟩ = some (W32 (Cip.steps (l, r) ks).2) := hb0.cell 1
      have f0 := hb2.frozen 0
      have f1 := hb2.frozen 1
      have d0 : wr.cell? ⟨w.heap.size + 2, 0, none⟩ = some (W32 0) := hb2.cell 0
      have d1 : wr.cell? ⟨w.heap.size + 2, 1, none⟩ = some (W32 0) := hb2.cell 1
      go_wp2_with fail
      refine bodyPost_ret (v := .agg #[W32 (Cip.steps (l, r) ks).2, W32 (Cip.steps (l, r) ks).1]) (results_cell_row rfl _ _ (w.heap.size + 2) 56 #[W32 (Cip.steps (l, r) ks).2, W32 (Cip.steps (l, r) ks).1] (0, 0) _ rfl ((hb2.set 0 _).set 1 _) Try.underlying56 rfl (by kernel_rfl)) rfl ⟨rfl, (hbel.setCell (by dsimp only; omega) _).setCell (by dsimp only; omega) _⟩
end Go.Proofs.Ytbmblalbnegglaa
