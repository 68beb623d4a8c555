/-
  The walk of cell.New.
-/
import Derived.Test.YtdpfehdpglbidaaCelS
namespace Go.Proofs.Ytdpfehdpglbidaa
open Go.RowKit

theorem i_u32 : (Try.prog.info? 30).map (fun i => (i.zero, i.size, i.bytes)) = some (some (.int .u32 0), 1, 4) := by kernel_rfl
theorem i_int : (Try.prog.info? 3).map (fun i => (i.zero, i.size, i.bytes)) = some (some (.int .i64 0), 1, 8) := by kernel_rfl

set_option maxRecDepth 100000 in
set_option maxHeartbeats 1000000 in
theorem cell_New (n : Nat) (en : Int) (w : World) (h1 : 1 ≤ n) (h2 : n ≤ 65536) (h3 : 1 ≤ en) :
    Calls Try.prog 8 #[.agg #[.int .i64 (n : Int), .int .i64 en]] w fun e w' => ∃ g gw gv, e = .returned (.tuple #[.pointer (some ⟨g, 0, none⟩), .int .i64 0]) ∧
      MemAt w' g gw gv n n n (Cel.Mem.new n en) ∧ w.heap.size ≤ g ∧ w.heap.size ≤ gw ∧ w.heap.size ≤ gv ∧ Below w.heap.size w w' := by
  obtain ⟨iu, hiu, hu0, hu1, hu2⟩ := info_parts i_u32
  obtain ⟨ii, hii, hi0, hi1, hi2⟩ := info_parts i_int
  have mu : ∀ u : World, (Instr.makeSlice 22 (.int .i64 (n : Int)) (.int .i64 (n : Int))).run Try.prog u = .ok (.slice (some ⟨u.heap.size, 0, none⟩) n n) (u.alloc (.cells (madeCells #[.int .u32 0] n) 30)) := fun u => by
    have h := run_make (P := Try.prog) u 22 30 iu (.int .u32 0) Try.underlying22 hiu hu0 .i64 .i64 (n : Int) (n : Int) (by omega) (Int.le_refl _) (by rw [hu2]; omega) (by omega)
    simpa [hu1, Value.cells] using h
  have mi : ∀ u : World, (Instr.makeSlice 43 (.int .i64 (n : Int)) (.int .i64 (n : Int))).run Try.prog u = .ok (.slice (some ⟨u.heap.size, 0, none⟩) n n) (u.alloc (.cells (madeCells #[.int .i64 0] n) 3)) := fun u => by
    have h := run_make (P := Try.prog) u 43 3 ii (.int .i64 0) Try.underlying43 hii hi0 .i64 .i64 (n : Int) (n : Int) (by omega) (Int.le_refl _) (by rw [hi2]; omega) (by omega)
    simpa [hi1, Value.cells] using h
  have p1 : (1 : Int) ≤ (n : Int) := by omega
  have p2 : (n : Int) ≤ 65536 := by omega
  go_enter Try.func8, Try.ntmps8
  go_wp2_with fail
  go_region
  all_goals go_wp2_with fail
  · go_ret2
    refine ⟨w.heap.size + 3, w.heap.size + 1, w.heap.size + 2, rfl, ?_, by omega, by omega, by omega, ((((((Below.refl _ _).alloc (Nat.le_refl _) _).alloc (by simp) _).alloc (by simp; omega) _).alloc (by simp; omega) _)).drew⟩
    have hb1 := Blk.new' (g := w.heap.size + 1) (w.alloc (Obj.cells #[Value.int IntKind.i64 n, Value.int IntKind.i64 en] 28)) (t := 30) (cs := madeCells #[.int .u32 0] n) (by simp) rfl
    have hb2 := Blk.new' (g := w.heap.size + 2) ((w.alloc (Obj.cells #[Value.int IntKind.i64 n, Value.int IntKind.i64 en] 28)).alloc (Obj.cells (madeCells #[.int .u32 0] n) 30)) (t := 3) (cs := madeCells #[.int .i64 0] n) (by simp) rfl
    exact MemAt.drew ⟨Blk.new' _ (by simp) rfl, by
        rw [show (Cel.Mem.new n en).words.map W32 = List.replicate n (.int .u32 0) by simp [Cel.Mem.new, W32]]
        exact (Own.made hb1 (Nat.zero_le _) (by unfold maxLen; omega)).alloc _ |>.alloc _, by
        rw [show (Cel.Mem.new n en).wear.map I64 = List.replicate n (.int .i64 0) by simp [Cel.Mem.new, I64]]
        exact (Own.made hb2 (Nat.zero_le _) (by unfold maxLen; omega)).alloc _, by omega, h2, by omega, by omega, by omega⟩
  · go_ret2
    refine ⟨w.heap.size + 3, w.heap.size + 2, w.heap.size + 1, rfl, ?_, by omega, by omega, by omega, ((((((Below.refl _ _).alloc (Nat.le_refl _) _).alloc (by simp) _).alloc (by simp; omega) _).alloc (by simp; omega) _)).drew⟩
    have hb1 := Blk.new' (g := w.heap.size + 1) (w.alloc (Obj.cells #[Value.int IntKind.i64 n, Value.int IntKind.i64 en] 28)) (t := 3) (cs := madeCells #[.int .i64 0] n) (by simp) rfl
    have hb2 := Blk.new' (g := w.heap.size + 2) ((w.alloc (Obj.cells #[Value.int IntKind.i64 n, Value.int IntKind.i64 en] 28)).alloc (Obj.cells (madeCells #[.int .i64 0] n) 3)) (t := 30) (cs := madeCells #[.int .u32 0] n) (by simp) rfl
    exact MemAt.drew ⟨Blk.new' _ (by simp) rfl, by
        rw [show (Cel.Mem.new n en).words.map W32 = List.replicate n (.int .u32 0) by simp [Cel.Mem.new, W32]]
        exact (Own.made hb2 (Nat.zero_le _) (by unfold maxLen; omega)).alloc _, by
        rw [show (Cel.Mem.new n en).wear.map I64 = List.replicate n (.int .i64 0) by simp [Cel.Mem.new, I64]]
        exact (Own.made hb1 (Nat.zero_le _) (by unfold maxLen; omega)).alloc _ |>.alloc _, by omega, h2, by omega, by omega, by omega⟩
end Go.Proofs.Ytdpfehdpglbidaa
