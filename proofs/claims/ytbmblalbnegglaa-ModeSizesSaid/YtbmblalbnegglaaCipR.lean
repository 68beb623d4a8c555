/-
  The walk of the cipher's reference, and of the four exported functions.
-/
import Derived.Test.YtbmblalbnegglaaCipT
namespace Go.Proofs.Ytbmblalbnegglaa
open Go.RowKit

set_option maxHeartbeats 400000 in
theorem refrun_key (A A' : Option Addr) (n n' c c' : Nat) (back : Bool) (w : World) (hn : n ≠ 16) :
    Calls Try.prog 43 #[.slice A n c, .slice A' n' c', .bool back] w fun e w' => e = .returned (.tuple #[.slice none 0 0, .int .i64 19]) ∧ w' = w := by
  have h0 : ((n : Int) != 16) = true := by simp; omega
  go_enter Try.func43, Try.ntmps43
  go_wp2_with fail
  go_ret2
  exact ⟨rfl, rfl⟩

set_option maxHeartbeats 400000 in
theorem refrun_block (A A' : Option Addr) (n' c c' : Nat) (back : Bool) (w : World) (hn : n' ≠ 8) :
    Calls Try.prog 43 #[.slice A 16 c, .slice A' n' c', .bool back] w fun e w' => e = .returned (.tuple #[.slice none 0 0, .int .i64 1]) ∧ w' = w := by
  have h0 : ((n' : Int) != 8) = true := by simp; omega
  go_enter Try.func43, Try.ntmps43
  go_wp2_with fail
  go_ret2
  exact ⟨rfl, rfl⟩

set_option maxRecDepth 100000 in
set_option maxHeartbeats 1000000 in
theorem refrun_ok (kb ko bb bo c c' : Nat) (back : Bool) (key block : List UInt8) (w : World) (hk : Byt w w.heap.size (some ⟨kb, ko, none⟩) 16 c key) (hb : Byt w w.heap.size (some ⟨bb, bo, none⟩) 8 c' block) :
    Calls Try.prog 43 #[.slice (some ⟨kb, ko, none⟩) 16 c, .slice (some ⟨bb, bo, none⟩) 8 c', .bool back] w fun e w' => ∃ A d, e = .returned (.tuple #[.slice A 8 d, .int .i64 0]) ∧
      Own w' w.heap.size 5 1 A 8 d (bcells (Cip.crypt key block back)) ∧ Below w.heap.size w w' := by
  have hks := Lib.hid hk.1
  have hbs := Lib.hid hb.1
  have hc := hk.2.1
  have hc' := hb.2.1
  have hb' := hb.2.2
  have hk' := hk.2.2
  clear hk hb
  go_enter Try.func43, Try.ntmps43
  go_wp2_with fail
  have j0 : (4 : Int) ≤ (c' : Int) := by omega
  have j1 : ¬ c' = 4 := by omega
  go_quiet ((first
    | (go_at_call_of 48 (Value.slice (some ⟨bb, bo, none⟩) 4 c'); refine Calls.quiet_of (ref19_number bb bo 4 c' (block.take 4) w.heap.size _ (by omega) (by simp [hbs.out]) (by exact hb'.btake 4)))
    | (go_at_call 48; refine Calls.quiet_of (ref19_number bb (bo + 4) 4 (c' - 4) (block.drop 4) w.heap.size _ (by omega) (by simp [hbs.out]) (by exact hb'.bdrop 4)))))
  clear j0 j1
  rw [Cip.num_take]
  go_wp2_with fail
  go_loopw [8, 9, 10] (fun l r i wr => ∃ k : Nat, k ≤ 16 ∧ i = .int .i64 k ∧ (∃ a b : UInt32, Cip.steps (Cip.num block, Cip.num (block.drop 4)) ((Cip.keys key back).take k) = (a, b) ∧ l = W32 a ∧ r = W32 b) ∧ ∃ d, wr = w.drewN d) (fun _ _ i _ => 16 - (intOf i).toNat)
  case atStart => exact ⟨0, by omega, rfl, ⟨_, _, rfl, rfl, rfl⟩, _, rfl⟩
  case round =>
    obtain ⟨k, hk16, rfl, ⟨a, b, hst, rfl, rfl⟩, d, rfl⟩ := hrel
    have Hst := Lib.hid hst
    clear hst
    by_cases hlt : k < 16
    · have hnx := Cip.steps_succ (Cip.num block, Cip.num (block.drop 4)) (Cip.keys key back) k (by rw [Cip.length_keys]; exact hlt)
      rw [Hst.out, Cip.keys_get] at hnx
      have Hnx := Lib.hid hnx
      clear hnx
      cases back with
      | true =>
        go_wp2_with (first
          | (go_at_call 50; refine (ref19_round kb ko c key (15 - (k : Int)) (15 - k) (by omega) (by omega) w.heap.size _ hks.out hc (by exact hk')).mono ?_; rintro e w1 ⟨rfl, k1, rfl⟩)
          | (go_at_call 49; refine (ref19_mix _ _ _).mono ?_; rintro e w1 ⟨rfl, rfl⟩))
        go_roundw
        case rel =>
          have hx : bits BinOp.xor IntKind.u32 (a.toNat : Int) ((Cip.mixF b (Cip.rk key (15 - k))).toNat : Int) = ((a ^^^ Cip.mixF b (Cip.rk key (15 - k))).toNat : Int) := by
            rw [u32_xor_nat _ _ a.toNat_lt (Cip.mixF _ _).toNat_lt, UInt32.toNat_xor]
          rw [hx]
          exact ⟨k + 1, by omega, by go_num, ⟨b, a ^^^ Cip.mixF b (Cip.rk key (15 - k)), by rw [Hnx.out]; rfl, rfl, rfl⟩, _, rfl⟩
        case measure => simp [intOf]; omega
      | false =>
        go_wp2_with (first
          | (go_at_call 50; refine (ref19_round kb ko c key (k : Int) k rfl (by omega) w.heap.size _ hks.out hc (by exact hk')).mono ?_; rintro e w1 ⟨rfl, k1, rfl⟩)
          | (go_at_call 49; refine (ref19_mix _ _ _).mono ?_; rintro e w1 ⟨rfl, rfl⟩))
        go_roundw
        case rel =>
          have hx : bits BinOp.xor IntKind.u32 (a.toNat : Int) ((Cip.mixF b (Cip.rk key (k))).toNat : Int) = ((a ^^^ Cip.mixF b (Cip.rk key (k))).toNat : Int) := by
            rw [u32_xor_nat _ _ a.toNat_lt (Cip.mixF _ _).toNat_lt, UInt32.toNat_xor]
          rw [hx]
          exact ⟨k + 1, by omega, by go_num, ⟨b, a ^^^ Cip.mixF b (Cip.rk key (k)), by rw [Hnx.out]; rfl, rfl, rfl⟩, _, rfl⟩
        case measure => simp [intOf]; omega
    · obtain rfl : k = 16 := by omega
      go_wp2_with fail
      go_ret2
      have e1 : (Cip.keys key back).take 16 = Cip.keys key back := List.take_of_length_le (by rw [Cip.length_keys]; omega)
      have e2 : Cip.crypt key block back = Cip.out (a, b) := by
        have h1 : Cip.crypt key block back = Cip.out (Cip.steps (Cip.num block, Cip.num (block.drop 4)) (Cip.keys key back)) := rfl
        rw [h1, ← Hst.out, e1]
      refine ⟨_, _, rfl, ?_, ?_⟩
      · rw [e2]
        have e3 : #[Value.int .u8 ((b.toNat : Int) / 16777216 % 256), .int .u8 ((b.toNat : Int) / 65536 % 256), .int .u8 ((b.toNat : Int) / 256 % 256), .int .u8 ((b.toNat : Int) % 256), Value.int .u8 ((a.toNat : Int) / 16777216 % 256), .int .u8 ((a.toNat : Int) / 65536 % 256), .int .u8 ((a.toNat : Int) / 256 % 256), .int .u8 ((a.toNat : Int) % 256)].toList.take (8 * 1) = bcells (Cip.out (a, b)) := by
          have h1 := cells4 a
          have h2 := cells4 b
          show _ = bcells (Cip.bytes4 b ++ Cip.bytes4 a)
          rw [bcells_append, ← h1, ← h2]; rfl
        rw [← e3]
        exact Own.blk (n := 8) (c := 8) (Blk.new' _ rfl rfl) (by simp) (by omega) (by unfold maxLen; omega) (by simp) (by simp)
      · exact (Below.drewN (Below.refl _ _) d).alloc (by simp) _
end Go.Proofs.Ytbmblalbnegglaa
