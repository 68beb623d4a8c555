/-
  The walks of the library of strings of bytes: digits.
-/
import Derived.Test.YtapfiapjefnjjaaRows
import Derived.Test.YtapfiapjefnjjaaOctP
import Derived.Test.YtapfiapjefnjjaaOctW
import Derived.Test.YtapfiapjefnjjaaByn
import Derived.Lib.OthersKept
import Derived.Laws.RangeAny
import Derived.Laws.BitsAllLaws
import Derived.Deep.LoopGhost
import Derived.Outline
namespace Go.Proofs.Ytapfiapjefnjjaa
open Go.RowKit

theorem o_u8 : (Try.prog.info? 5).map (fun i => (i.zero, i.size, i.bytes)) = some (some (.int .u8 0), 1, 1) := by kernel_rfl
theorem digit_index (k : Nat) (hk : k < 16) (u : World) : (Instr.index 9 (.string ⟨#[48, 49, 50, 51, 52, 53, 54, 55, 56, 57, 97, 98, 99, 100, 101, 102]⟩) (.int .u8 (k : Int))).run Try.prog u = .ok (.int .u8 ((Oct.dg k).toNat : Int)) u := by
  match k, hk with
  | 0, _ => exact (by kernel_rfl : (Instr.index 9 (.string ⟨#[48, 49, 50, 51, 52, 53, 54, 55, 56, 57, 97, 98, 99, 100, 101, 102]⟩) (.int .u8 ((0 : Nat) : Int))).run Try.prog u = .ok (.int .u8 ((Oct.dg 0).toNat : Int)) u)
  | 1, _ => exact (by kernel_rfl : (Instr.index 9 (.string ⟨#[48, 49, 50, 51, 52, 53, 54, 55, 56, 57, 97, 98, 99, 100, 101, 102]⟩) (.int .u8 ((1 : Nat) : Int))).run Try.prog u = .ok (.int .u8 ((Oct.dg 1).toNat : Int)) u)
  | 2, _ => exact (by kernel_rfl : (Instr.index 9 (.string ⟨#[48, 49, 50, 51, 52, 53, 54, 55, 56, 57, 97, 98, 99, 100, 101, 102]⟩) (.int .u8 ((2 : Nat) : Int))).run Try.prog u = .ok (.int .u8 ((Oct.dg 2).toNat : Int)) u)
  | 3, _ => exact (by kernel_rfl : (Instr.index 9 (.string ⟨#[48, 49, 50, 51, 52, 53, 54, 55, 56, 57, 97, 98, 99, 100, 101, 102]⟩) (.int .u8 ((3 : Nat) : Int))).run Try.prog u = .ok (.int .u8 ((Oct.dg 3).toNat : Int)) u)
  | 4, _ => exact (by kernel_rfl : (Instr.index 9 (.string ⟨#[48, 49, 50, 51, 52, 53, 54, 55, 56, 57, 97, 98, 99, 100, 101, 102]⟩) (.int .u8 ((4 : Nat) : Int))).run Try.prog u = .ok (.int .u8 ((Oct.dg 4).toNat : Int)) u)
  | 5, _ => exact (by kernel_rfl : (Instr.index 9 (.string ⟨#[48, 49, 50, 51, 52, 53, 54, 55, 56, 57, 97, 98, 99, 100, 101, 102]⟩) (.int .u8 ((5 : Nat) : Int))).run Try.prog u = .ok (.int .u8 ((Oct.dg 5).toNat : Int)) u)
  | 6, _ => exact (by kernel_rfl : (Instr.index 9 (.string ⟨#[48, 49, 50, 51, 52, 53, 54, 55, 56, 57, 97, 98, 99, 100, 101, 102]⟩) (.int .u8 ((6 : Nat) : Int))).run Try.prog u = .ok (.int .u8 ((Oct.dg 6).toNat : Int)) u)
  | 7, _ => exact (by kernel_rfl : (Instr.index 9 (.string ⟨#[48, 49, 50, 51, 52, 53, 54, 55, 56, 57, 97, 98, 99, 100, 101, 102]⟩) (.int .u8 ((7 : Nat) : Int))).run Try.prog u = .ok (.int .u8 ((Oct.dg 7).toNat : Int)) u)
  | 8, _ => exact (by kernel_rfl : (Instr.index 9 (.string ⟨#[48, 49, 50, 51, 52, 53, 54, 55, 56, 57, 97, 98, 99, 100, 101, 102]⟩) (.int .u8 ((8 : Nat) : Int))).run Try.prog u = .ok (.int .u8 ((Oct.dg 8).toNat : Int)) u)
  | 9, _ => exact (by kernel_rfl : (Instr.index 9 (.string ⟨#[48, 49, 50, 51, 52, 53, 54, 55, 56, 57, 97, 98, 99, 100, 101, 102]⟩) (.int .u8 ((9 : Nat) : Int))).run Try.prog u = .ok (.int .u8 ((Oct.dg 9).toNat : Int)) u)
  | 10, _ => exact (by kernel_rfl : (Instr.index 9 (.string ⟨#[48, 49, 50, 51, 52, 53, 54, 55, 56, 57, 97, 98, 99, 100, 101, 102]⟩) (.int .u8 ((10 : Nat) : Int))).run Try.prog u = .ok (.int .u8 ((Oct.dg 10).toNat : Int)) u)
  | 11, _ => exact (by kernel_rfl : (Instr.index 9 (.string ⟨#[48, 49, 50, 51, 52, 53, 54, 55, 56, 57, 97, 98, 99, 100, 101, 102]⟩) (.int .u8 ((11 : Nat) : Int))).run Try.prog u = .ok (.int .u8 ((Oct.dg 11).toNat : Int)) u)
  | 12, _ => exact (by kernel_rfl : (Instr.index 9 (.string ⟨#[48, 49, 50, 51, 52, 53, 54, 55, 56, 57, 97, 98, 99, 100, 101, 102]⟩) (.int .u8 ((12 : Nat) : Int))).run Try.prog u = .ok (.int .u8 ((Oct.dg 12).toNat : Int)) u)
  | 13, _ => exact (by kernel_rfl : (Instr.index 9 (.string ⟨#[48, 49, 50, 51, 52, 53, 54, 55, 56, 57, 97, 98, 99, 100, 101, 102]⟩) (.int .u8 ((13 : Nat) : Int))).run Try.prog u = .ok (.int .u8 ((Oct.dg 13).toNat : Int)) u)
  | 14, _ => exact (by kernel_rfl : (Instr.index 9 (.string ⟨#[48, 49, 50, 51, 52, 53, 54, 55, 56, 57, 97, 98, 99, 100, 101, 102]⟩) (.int .u8 ((14 : Nat) : Int))).run Try.prog u = .ok (.int .u8 ((Oct.dg 14).toNat : Int)) u)
  | 15, _ => exact (by kernel_rfl : (Instr.index 9 (.string ⟨#[48, 49, 50, 51, 52, 53, 54, 55, 56, 57, 97, 98, 99, 100, 101, 102]⟩) (.int .u8 ((15 : Nat) : Int))).run Try.prog u = .ok (.int .u8 ((Oct.dg 15).toNat : Int)) u)
  | n + 16, h => omega

end Go.Proofs.Ytapfiapjefnjjaa
