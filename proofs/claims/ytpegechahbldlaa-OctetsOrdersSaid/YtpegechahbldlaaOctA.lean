/-
  The walks of the library of strings of bytes: digits.
-/
import Derived.Test.YtpegechahbldlaaRows
import Derived.Test.YtpegechahbldlaaOctP
import Derived.Test.YtpegechahbldlaaOctW
import Derived.Test.YtpegechahbldlaaByn
import Derived.Lib.OthersKept
import Derived.Laws.RangeAny
import Derived.Laws.BitsAllLaws
import Derived.Deep.LoopGhost
import Derived.Outline
namespace Go.Proofs.Ytpegechahbldlaa
open Go.RowKit

theorem o_u8 : (Try.prog.info? 5).map (fun i => (i.zero, i.size, i.bytes)) = some (some (.int .u8 0), 1, 1) := by kernel_rfl
theorem digit_index (k : Nat) (hk : k < 16) (u : World) : (Instr.index 9 (.string ⟨#[48, 49, 50, 51, 52, 53, 54, 55, 56, 57, 97, 98, 99, 100, 101, 102]⟩) (.int .u8 (k : Int))).run Try.prog u = .ok (.int .u8 ((Oct.dg k).toNat : Int)) u := by
  match k, hk with
  | 0, _ => exact (by kernel_rfl : (Instr.index 9 (.string ⟨#[48, 49, 50, 51, 52, 53, 54, 55, 56, 57, 97, 98, 99, 100, 101, 102]⟩) (.int .u8 ((0 : Nat) : Int))).run Try.prog u = .ok (.int .u8 ((Oct.dg 0).toNat : Int)) u)
  | 1, _ => exact (by kernel_rfl : (Instr.index 9 (.string ⟨#[48, 49, 50, 51, 52, 53, 54, 55, 56, 57, 97, 98, 99, 100, 101, 102]⟩) (.int .u8 ((1 : Nat) : Int))).run Try.prog u = .ok (.int .u8 ((Oct.dg 1).toNat : Int)) u)
  | 2, _ => exact (by kernel_rfl : (Instr.index 9 (.string ⟨#[48, 49, 50, 51, 52, 53, 54, 55, 56, 57, 97, 98, 99, 100, 101, 102]⟩) (.int .u8 ((2 : Nat) : Int))).run Try.prog u = .ok (.int .u8 ((Oct.dg 2).toNat : Int)) u)
  | 3, _ => exact (by kernel_rfl : (Instr.index 9 (.string ⟨#[48, 49, 50, 51, 52, 53, 54, 55, 56, 57, 97, 98, 99, 100, 101, 102]⟩) (.int .u8 ((3 : Nat) : Int))).run Try.prog u = .ok (.int .u8 ((Oct.dg 3).toNat : Int)) u)
  | 4, _ => exact (by kernel_rfl : (Instr.index 9 (.string ⟨#[48, 49, 50, 51, 52, 53, 54, 55, 56, 57, 97, 98, 99, 100, 101, 102]⟩) (.int .u8 ((4 : Nat) : Int))).run Try.prog u = .ok (.int .u8 ((Oct.dg 4).toNat : Int)) u)
  | 5, _ => exact (by kernel_rfl : (Instr.index 9 (.string ⟨#[48, 49, 50, 51, 52, 53, 54, 55, 56, 57, 97, 98, 99, 100, 101, 102]⟩) (.int .u8 ((5 : Nat) : Int))).run Try.prog u = .ok (.int .u8 ((Oct.dg 5).toNat : Int)) u)
  | 6, _ => exact (by kernel_rfl : (Instr.index 9 (.string ⟨#[48, 49, 50, 51, 52, 53, 54, 55, 56, 57, 97, 98, 99, 100, 101, 102]⟩) (.int .u8 ((6 : Nat) : Int))).run Try.prog u = .ok (.int .u8 ((Oct.dg 6).toNat : Int)) u)
  | 7, _ => exact (by kernel_rfl : (Instr.index 9 (.string ⟨#[48, 49, 50, 51, 52, 53, 54, 55, 56, 57, 97, 98, 99, 100, 101, 102]⟩) (.int .u8 ((7 : Nat) : Int))).run Try.prog u = .ok (.int .u8 ((Oct.dg 7).toNat : Int)) u)
  | 8, _ => exact (by kernel_rfl : (Instr.index 9 (.string ⟨#[48, 49, 50, 51, 52, 53, 54, 55, 56, 57, 97, 98, 99, 100, 101, 102]⟩) (.int .u8 ((8 : Nat) : Int))).run Try.prog u = .ok (.int .u8 ((Oct.dg 8).toNat : Int)) u)
  | 9, _ => exact (by kernel_rfl : (Instr.index 9 (.string ⟨#[48, 49, 50, 51, 52, 53, 54, 55, 56, 57, 97, 98, 99, 100, 101, 102]⟩) (.int .u8 ((9 : Nat) : Int))).run Try.prog u = .ok (.int .u8 ((Oct.dg 9).toNat : Int)) u)
  | 10, _ => exact (by kernel_rfl : (Instr.index 9 (.string ⟨#[48, 49, 50, 51, 52, 53, 54, 55, 56, 57, 97, 98, 99, 100, 101, 102]⟩) (.int .u8 ((10 : Nat) : Int))).run Try.prog u = .ok (.int .u8 ((Oct.dg 10).toNat : Int)) u)
  | 11, _ => exact (by kernel_rfl : (Instr.index 9 (.string ⟨#[48, 49, 50, 51, 52, 53, 54, 55, 56, 57, 97, 98, 99, 100, 101, 102]⟩) (.int .u8 ((11 : Nat) : Int))).run Try.prog u = .ok (.int .u8 ((Oct.dg 11).toNat : Int)) u)
  | 12, _ => exact (by kernel_rfl : (Instr.index 9 (.string ⟨#[48, 49, 50, 51, 52, 53, 54, 55, 56, 57, 97, 98, 99, 100, 101, 102]⟩) (.int .u8 ((12 : Nat) : Int))).run Try.prog u = .ok (.int .u8 ((Oct.dg 12).toNat : Int)) u)
  | 13, _ => exact (by kernel_rfl : (Instr.index 9 (.string ⟨#[48, 49, 50, 51, 52, 53, 54, 55, 56, 57, 97, 98, 99, 100, 101, 102]⟩) (.int .u8 ((13 : Nat) : Int))).run Try.prog u = .ok (.int .u8 ((Oct.dg 13).toNat : Int)) u)
  | 14, _ => exact (by kernel_rfl : (Instr.index 9 (.string ⟨#[48, 49, 50, 51, 52, 53, 54, 55, 56, 57, 97, 98, 99, 100, 101, 102]⟩) (.int .u8 ((14 : Nat) : Int))).run Try.prog u = .ok (.int .u8 ((Oct.dg 14).toNat : Int)) u)
  | 15, _ => exact (by kernel_rfl : (Instr.index 9 (.string ⟨#[48, 49, 50, 51, 52, 53, 54, 55, 56, 57, 97, 98, 99, 100, 101, 102]⟩) (.int .u8 ((15 : Nat) : Int))).run Try.prog u = .ok (.int .u8 ((Oct.dg 15).toNat : Int)) u)
  | n + 16, h => omega

set_option maxHeartbeats 1000000 in
theorem octets_Hex (A : Option Addr) (n c : Nat) (bs : List UInt8) (w : World) (h : Byt w w.heap.size A n c bs) (hn : n ≤ 1000000) :
    Calls Try.prog 13 #[.slice A n c] w fun e w' => e = .returned (.string ⟨(Oct.hexS bs).toArray⟩) ∧ Below w.heap.size w w' := by
  obtain ⟨ti, hti, hz0, hz1, hz2⟩ := info_parts o_u8
  have hl := Lib.hid h.1
  have hr := h.2.2
  have mk : ∀ u : World, (Instr.makeSlice 22 (.int .i64 0) (.int .i64 (2 * (n : Int)))).run Try.prog u = .ok (.slice (some ⟨u.heap.size, 0, none⟩) 0 (2 * n)) (u.alloc (.cells (madeCells #[.int .u8 0] (2 * n)) 5)) :=
    made0_u8 22 5 ti Try.underlying22 hti hz0 hz1 hz2 (2 * n) (by omega)
  clear h
  go_enter Try.func13, Try.ntmps13
  go_wp2_with fail
  go_loopg [3, 12] n (fun g v i wr => ∃ (k : Nat) (A2 : Option Addr) (c2 : Nat), k + g = n ∧ i = .int .i64 k ∧ v = .slice A2 (2 * k) c2 ∧ Own wr w.heap.size 5 1 A2 (2 * k) c2 (bcells (Oct.hexS (bs.take k))) ∧ Below w.heap.size w wr)
  case atStart => exact ⟨0, _, _, by omega, rfl, rfl, Own.made0 (Blk.new' _ rfl rfl) (Nat.le_refl _) (by unfold maxLen; omega), (Below.refl _ _).alloc (Nat.le_refl _) _⟩
  case round =>
    obtain ⟨k, A2, c2, hk, rfl, rfl, hown, hbw⟩ := hrel
    cases gk with
    | zero =>
      obtain rfl : k = n := by omega
      have e1 : bs.take k = bs := List.take_of_length_le (by rw [hl.out]; omega)
      rw [e1] at hown
      have hcv := byt_string (P := Try.prog) 22 5 Try.underlying22 Try.underlying5 (hown.byt (Nat.le_refl _)) 9 Try.underlying9
      go_wp2_with fail
      go_ret
      exact ⟨rfl, hbw⟩
    | succ g =>
      have hlt : (k : Int) < (n : Int) := by omega
      have p0 : (0 : Int) ≤ (k : Int) := by omega
      obtain ⟨b, o, rfl, hb, -⟩ := hr.at_ (j := k) (by rw [length_bcells, hl.out]; omega)
      have c1 := (hr.below hbw).byte k (by rw [hl.out]; omega)
      have ht := Lib.hid (Oct.hexS_take bs k (by rw [hl.out]; omega))
      have hx := (bs.getD k 0).toNat_lt
      generalize (bs.getD k 0).toNat = x at *
      have d1 : ∀ u : World, (Instr.index 9 (.string ⟨#[48, 49, 50, 51, 52, 53, 54, 55, 56, 57, 97, 98, 99, 100, 101, 102]⟩) (.int .u8 ((x : Int) / 16))).run Try.prog u = .ok (.int .u8 ((Oct.dg (x / 16)).toNat : Int)) u := fun u => digit_index (x / 16) (by omega) u
      have d2 : ∀ u : World, (Instr.index 9 (.string ⟨#[48, 49, 50, 51, 52, 53, 54, 55, 56, 57, 97, 98, 99, 100, 101, 102]⟩) (.int .u8 ((x : Int) % 16))).run Try.prog u = .ok (.int .u8 ((Oct.dg (x % 16)).toNat : Int)) u := fun u => digit_index (x % 16) (by omega) u
      have m1 : bits BinOp.and IntKind.u8 (x : Int) 15 = (x : Int) % 16 := by
        rw [show (15 : Int) = ((15 : Nat) : Int) from rfl, u8_and_nat _ _ hx (by omega), nat_mask4]; omega
      generalize Oct.dg (x / 16) = y1 at *
      generalize Oct.dg (x % 16) = y2 at *
      go_wp2_with fail
      go_region_held3 (fun _ => True) (trivial)
        ((refine step_append _ rfl (.tmp 16) (.tmp 23) 22 rfl w.heap.size 5 ti _ 1 1 Try.underlying22 hti hz0 hz1 hz2 rfl (by omega) A2 (2 * k) c2 (bcells (Oct.hexS (bs.take k))) rfl (hown.alloc _).drew (wr.heap.size + 1) (some ⟨wr.heap.size, 0, none⟩) 2 2 (bcells [y1, y2]) rfl (Row.new wr rfl).drew (by simp) (bcells_one _) (by unfold maxLen; omega) (by omega) (by simp; have := hbw.size; omega) ?_; intro A3 c3 w4 hown4 hg4 hat4))
      all_goals
        clear m1 d1 d2
        go_wp2_with fail
        go_roundg g
        case measure => omega
        case rel =>
          refine ⟨k + 1, A3, c3, by omega, by go_num, rfl, ?_, (hown.alloc _).drew.grown hg4 (hbw.alloc hbw.size _).drew (by simp; have := hbw.size; omega)⟩
          rw [ht.out, bcells_append]
          exact hown4
end Go.Proofs.Ytpegechahbldlaa
