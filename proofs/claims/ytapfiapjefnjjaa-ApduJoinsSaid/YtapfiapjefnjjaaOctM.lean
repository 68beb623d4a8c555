/-
  The walks of the reference of strings of bytes: Hex, Split.
-/
import Derived.Test.YtapfiapjefnjjaaOctK
namespace Go.Proofs.Ytapfiapjefnjjaa
open Go.RowKit

theorem digit_slice (k : Nat) (hk : k < 16) (u : World) : (Instr.slice 9 (.string ⟨#[48, 49, 50, 51, 52, 53, 54, 55, 56, 57, 97, 98, 99, 100, 101, 102]⟩) (some (.int .u8 (k : Int))) (some (.int .u8 ((k : Int) + 1))) none).run Try.prog u = .ok (.string ⟨#[Oct.dg k]⟩) u := by
  match k, hk with
  | 0, _ => exact (by kernel_rfl : (Instr.slice 9 (.string ⟨#[48, 49, 50, 51, 52, 53, 54, 55, 56, 57, 97, 98, 99, 100, 101, 102]⟩) (some (.int .u8 ((0 : Nat) : Int))) (some (.int .u8 (((0 : Nat) : Int) + 1))) none).run Try.prog u = .ok (.string ⟨#[Oct.dg 0]⟩) u)
  | 1, _ => exact (by kernel_rfl : (Instr.slice 9 (.string ⟨#[48, 49, 50, 51, 52, 53, 54, 55, 56, 57, 97, 98, 99, 100, 101, 102]⟩) (some (.int .u8 ((1 : Nat) : Int))) (some (.int .u8 (((1 : Nat) : Int) + 1))) none).run Try.prog u = .ok (.string ⟨#[Oct.dg 1]⟩) u)
  | 2, _ => exact (by kernel_rfl : (Instr.slice 9 (.string ⟨#[48, 49, 50, 51, 52, 53, 54, 55, 56, 57, 97, 98, 99, 100, 101, 102]⟩) (some (.int .u8 ((2 : Nat) : Int))) (some (.int .u8 (((2 : Nat) : Int) + 1))) none).run Try.prog u = .ok (.string ⟨#[Oct.dg 2]⟩) u)
  | 3, _ => exact (by kernel_rfl : (Instr.slice 9 (.string ⟨#[48, 49, 50, 51, 52, 53, 54, 55, 56, 57, 97, 98, 99, 100, 101, 102]⟩) (some (.int .u8 ((3 : Nat) : Int))) (some (.int .u8 (((3 : Nat) : Int) + 1))) none).run Try.prog u = .ok (.string ⟨#[Oct.dg 3]⟩) u)
  | 4, _ => exact (by kernel_rfl : (Instr.slice 9 (.string ⟨#[48, 49, 50, 51, 52, 53, 54, 55, 56, 57, 97, 98, 99, 100, 101, 102]⟩) (some (.int .u8 ((4 : Nat) : Int))) (some (.int .u8 (((4 : Nat) : Int) + 1))) none).run Try.prog u = .ok (.string ⟨#[Oct.dg 4]⟩) u)
  | 5, _ => exact (by kernel_rfl : (Instr.slice 9 (.string ⟨#[48, 49, 50, 51, 52, 53, 54, 55, 56, 57, 97, 98, 99, 100, 101, 102]⟩) (some (.int .u8 ((5 : Nat) : Int))) (some (.int .u8 (((5 : Nat) : Int) + 1))) none).run Try.prog u = .ok (.string ⟨#[Oct.dg 5]⟩) u)
  | 6, _ => exact (by kernel_rfl : (Instr.slice 9 (.string ⟨#[48, 49, 50, 51, 52, 53, 54, 55, 56, 57, 97, 98, 99, 100, 101, 102]⟩) (some (.int .u8 ((6 : Nat) : Int))) (some (.int .u8 (((6 : Nat) : Int) + 1))) none).run Try.prog u = .ok (.string ⟨#[Oct.dg 6]⟩) u)
  | 7, _ => exact (by kernel_rfl : (Instr.slice 9 (.string ⟨#[48, 49, 50, 51, 52, 53, 54, 55, 56, 57, 97, 98, 99, 100, 101, 102]⟩) (some (.int .u8 ((7 : Nat) : Int))) (some (.int .u8 (((7 : Nat) : Int) + 1))) none).run Try.prog u = .ok (.string ⟨#[Oct.dg 7]⟩) u)
  | 8, _ => exact (by kernel_rfl : (Instr.slice 9 (.string ⟨#[48, 49, 50, 51, 52, 53, 54, 55, 56, 57, 97, 98, 99, 100, 101, 102]⟩) (some (.int .u8 ((8 : Nat) : Int))) (some (.int .u8 (((8 : Nat) : Int) + 1))) none).run Try.prog u = .ok (.string ⟨#[Oct.dg 8]⟩) u)
  | 9, _ => exact (by kernel_rfl : (Instr.slice 9 (.string ⟨#[48, 49, 50, 51, 52, 53, 54, 55, 56, 57, 97, 98, 99, 100, 101, 102]⟩) (some (.int .u8 ((9 : Nat) : Int))) (some (.int .u8 (((9 : Nat) : Int) + 1))) none).run Try.prog u = .ok (.string ⟨#[Oct.dg 9]⟩) u)
  | 10, _ => exact (by kernel_rfl : (Instr.slice 9 (.string ⟨#[48, 49, 50, 51, 52, 53, 54, 55, 56, 57, 97, 98, 99, 100, 101, 102]⟩) (some (.int .u8 ((10 : Nat) : Int))) (some (.int .u8 (((10 : Nat) : Int) + 1))) none).run Try.prog u = .ok (.string ⟨#[Oct.dg 10]⟩) u)
  | 11, _ => exact (by kernel_rfl : (Instr.slice 9 (.string ⟨#[48, 49, 50, 51, 52, 53, 54, 55, 56, 57, 97, 98, 99, 100, 101, 102]⟩) (some (.int .u8 ((11 : Nat) : Int))) (some (.int .u8 (((11 : Nat) : Int) + 1))) none).run Try.prog u = .ok (.string ⟨#[Oct.dg 11]⟩) u)
  | 12, _ => exact (by kernel_rfl : (Instr.slice 9 (.string ⟨#[48, 49, 50, 51, 52, 53, 54, 55, 56, 57, 97, 98, 99, 100, 101, 102]⟩) (some (.int .u8 ((12 : Nat) : Int))) (some (.int .u8 (((12 : Nat) : Int) + 1))) none).run Try.prog u = .ok (.string ⟨#[Oct.dg 12]⟩) u)
  | 13, _ => exact (by kernel_rfl : (Instr.slice 9 (.string ⟨#[48, 49, 50, 51, 52, 53, 54, 55, 56, 57, 97, 98, 99, 100, 101, 102]⟩) (some (.int .u8 ((13 : Nat) : Int))) (some (.int .u8 (((13 : Nat) : Int) + 1))) none).run Try.prog u = .ok (.string ⟨#[Oct.dg 13]⟩) u)
  | 14, _ => exact (by kernel_rfl : (Instr.slice 9 (.string ⟨#[48, 49, 50, 51, 52, 53, 54, 55, 56, 57, 97, 98, 99, 100, 101, 102]⟩) (some (.int .u8 ((14 : Nat) : Int))) (some (.int .u8 (((14 : Nat) : Int) + 1))) none).run Try.prog u = .ok (.string ⟨#[Oct.dg 14]⟩) u)
  | 15, _ => exact (by kernel_rfl : (Instr.slice 9 (.string ⟨#[48, 49, 50, 51, 52, 53, 54, 55, 56, 57, 97, 98, 99, 100, 101, 102]⟩) (some (.int .u8 ((15 : Nat) : Int))) (some (.int .u8 (((15 : Nat) : Int) + 1))) none).run Try.prog u = .ok (.string ⟨#[Oct.dg 15]⟩) u)
  | n + 16, h => omega

set_option maxRecDepth 100000 in
set_option maxHeartbeats 4000000 in
theorem ref01_Hex (A : Option Addr) (n c : Nat) (bs : List UInt8) (w : World) (h : Byt w w.heap.size A n c bs) (hn : n ≤ 1000000) :
    Calls Try.prog 39 #[.slice A n c] w fun e w' => e = .returned (.string ⟨(Oct.hexS bs).toArray⟩) ∧ ∃ k, w' = w.drewN k := by
  have hl := Lib.hid h.1
  have hr := h.2.2
  clear h
  go_enter Try.func39, Try.ntmps39
  go_wp2_with fail
  go_loopg [4, 5] n (fun g v i wr => ∃ k : Nat, k + g = n ∧ i = .int .i64 k ∧ v = .string ⟨(Oct.hexS (bs.take k)).toArray⟩ ∧ ∃ d, wr = w.drewN d)
  case atStart => exact ⟨0, by omega, rfl, rfl, 0, rfl⟩
  case round =>
    obtain ⟨k, hk, rfl, rfl, d, rfl⟩ := hrel
    cases gk with
    | zero =>
      obtain rfl : k = n := by omega
      rw [List.take_of_length_le (by rw [hl.out]; omega)]
      go_wp2_with fail
      go_ret
      exact ⟨rfl, _, rfl⟩
    | succ g =>
      have hlt : (k : Int) < (n : Int) := by omega
      have p0 : (0 : Int) ≤ (k : Int) := by omega
      obtain ⟨b, o, rfl, hb, -⟩ := hr.at_ (j := k) (by rw [length_bcells, hl.out]; omega)
      have c1 := hr.byte k (by rw [hl.out]; omega)
      have ht := Lib.hid (Oct.hexS_take bs k (by rw [hl.out]; omega))
      have hlen : (Oct.hexS (bs.take k)).length ≤ 2 * n := by rw [Oct.hexS_length, List.length_take]; omega
      have hx := (bs.getD k 0).toNat_lt
      generalize (bs.getD k 0).toNat = x at *
      have d1 : ∀ u : World, (Instr.slice 9 (.string ⟨#[48, 49, 50, 51, 52, 53, 54, 55, 56, 57, 97, 98, 99, 100, 101, 102]⟩) (some (.int .u8 ((x : Int) / 16))) (some (.int .u8 ((x : Int) / 16 + 1))) none).run Try.prog u = .ok (.string ⟨#[Oct.dg (x / 16)]⟩) u := fun u => digit_slice (x / 16) (by omega) u
      have d2 : ∀ u : World, (Instr.slice 9 (.string ⟨#[48, 49, 50, 51, 52, 53, 54, 55, 56, 57, 97, 98, 99, 100, 101, 102]⟩) (some (.int .u8 ((x : Int) % 16))) (some (.int .u8 ((x : Int) % 16 + 1))) none).run Try.prog u = .ok (.string ⟨#[Oct.dg (x % 16)]⟩) u := fun u => digit_slice (x % 16) (by omega) u
      generalize Oct.dg (x / 16) = y1 at *
      generalize Oct.dg (x % 16) = y2 at *
      generalize Oct.hexS (bs.take k) = L at *
      go_wp2_with fail
      go_quiet (fail)
      go_wp2_with fail
      go_roundg g
      case measure => omega
      case rel =>
        refine ⟨k + 1, by omega, by go_num, ?_, _, by first | rfl | (simp only [World.drewN_drewN]; rfl)⟩
        rw [ht.out]
        first
          | (simp; done)
          | (apply congrArg Value.string; apply ByteArray.ext; simp)
end Go.Proofs.Ytapfiapjefnjjaa
