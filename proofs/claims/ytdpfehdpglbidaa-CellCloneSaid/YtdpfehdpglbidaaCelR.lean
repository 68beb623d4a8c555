/-
  The walks of the reference's small functions on lists: put, more, bit; and of the copy of a slice of ints.
-/
import Derived.Test.YtdpfehdpglbidaaCelX
import Derived.Test.YtdpfehdpglbidaaInts
namespace Go.Proofs.Ytdpfehdpglbidaa
open Go.RowKit

set_option maxHeartbeats 1000000 in
theorem ref09_put (A : Option Addr) (n c i : Nat) (ws : List UInt32) (v : UInt32) (w : World) (h : Wds w w.heap.size A n c ws) (hn : n ≤ 65536) (hi : i < n) :
    Calls Try.prog 37 #[.slice A n c, .int .i64 (i : Int), .int .u32 (v.toNat : Int)] w fun e w' => ∃ A2 c2, e = .returned (.slice A2 n c2) ∧ Own w' w.heap.size 30 1 A2 n c2 ((ws.set i v).map W32) ∧ Below w.heap.size w w' := by
  obtain ⟨iu, hiu, hu0, hu1, hu2⟩ := info_parts i_u32
  have hbel := Below.refl w.heap.size w
  have hnone : Own w w.heap.size 30 1 none 0 0 [] := Own.none_ _ _ _ _ _
  have hil : i < ws.length := by rw [h.1]; exact hi
  have hxi : (ws.map W32)[i]? = some (W32 (ws.getD i 0)) := by
    rw [List.getElem?_map, List.getElem?_eq_getElem hil]; simp [List.getD, List.getElem?_eq_getElem hil]
  go_enter Try.func37, Try.ntmps37
  go_wp2_with (at_builtin; refine wpList_append _ rfl (.tmp 8) (.tmp 9) 22 rfl w.heap.size 30 iu _ 1 4 Try.underlying22 hiu hu0 hu1 hu2 rfl (by omega) none 0 0 _ rfl hnone w.heap.size A n c (ws.map W32) rfl h.2.2 (by rw [List.length_map, h.1]; omega) (by intro u hu; obtain ⟨x, _, rfl⟩ := List.mem_map.1 hu; rfl) (by unfold maxLen; omega) (by omega) (Nat.le_refl _) ?_; intro A3 c3 w4 hown4 hg4 hat4; rw [Nat.zero_add, List.nil_append] at hown4; have hb4 := hnone.grown hg4 hbel (Nat.le_refl _); obtain ⟨q, rfl, hq0, hq1, hcell, hfz, hset⟩ := hown4.elem hi; have p0 : (0 : Int) ≤ (i : Int) := (by omega); have p1 : (i : Int) < (n : Int) := (by omega); have hc1 : w4.cell? ⟨q, i, none⟩ = some (W32 (ws.getD i 0)) := hcell.trans hxi; clear hcell)
  go_ret
  have ho := hset (W32 v)
  rw [← List.map_set] at ho
  exact ⟨_, _, rfl, ho, hb4.setCell (by exact hq0) _⟩

set_option maxHeartbeats 1000000 in
theorem ref09_more (A : Option Addr) (n c i : Nat) (xs : List Int) (x : Int) (w : World) (h : Ints w w.heap.size A n c xs) (hn : n ≤ 65536) (hi : i < n) (hx : xs.getD i 0 = x) (hb : 0 ≤ x ∧ x ≤ 4611686018427387904) :
    Calls Try.prog 35 #[.slice A n c, .int .i64 (i : Int)] w fun e w' => ∃ A2 c2, e = .returned (.slice A2 n c2) ∧ Own w' w.heap.size 3 1 A2 n c2 ((xs.set i (x + 1)).map I64) ∧ Below w.heap.size w w' := by
  obtain ⟨iu, hiu, hu0, hu1, hu2⟩ := info_parts i_int
  have hbel := Below.refl w.heap.size w
  have hnone : Own w w.heap.size 3 1 none 0 0 [] := Own.none_ _ _ _ _ _
  have hil : i < xs.length := by rw [h.1]; exact hi
  have hxi : (xs.map I64)[i]? = some (.int .i64 x) := by
    rw [List.getElem?_map, List.getElem?_eq_getElem hil, ← hx]; simp [List.getD, List.getElem?_eq_getElem hil]
  clear hx
  go_enter Try.func35, Try.ntmps35
  go_wp2_with (at_builtin; refine wpList_append _ rfl (.tmp 6) (.tmp 7) 43 rfl w.heap.size 3 iu _ 1 8 Try.underlying43 hiu hu0 hu1 hu2 rfl (by omega) none 0 0 _ rfl hnone w.heap.size A n c (xs.map I64) rfl h.2.2 (by rw [List.length_map, h.1]; omega) (by intro u hu; obtain ⟨x, _, rfl⟩ := List.mem_map.1 hu; rfl) (by unfold maxLen; omega) (by omega) (Nat.le_refl _) ?_; intro A3 c3 w4 hown4 hg4 hat4; rw [Nat.zero_add, List.nil_append] at hown4; have hb4 := hnone.grown hg4 hbel (Nat.le_refl _); obtain ⟨q, rfl, hq0, hq1, hcell, hfz, hset⟩ := hown4.elem hi; have p0 : (0 : Int) ≤ (i : Int) := (by omega); have p1 : (i : Int) < (n : Int) := (by omega); have hc1 : w4.cell? ⟨q, i, none⟩ = some (.int .i64 x) := hcell.trans hxi; clear hcell)
  go_ret
  have ho := hset (I64 (x + 1))
  rw [← List.map_set] at ho
  exact ⟨_, _, rfl, ho, hb4.setCell (by exact hq0) _⟩

theorem bit_next (k : Nat) (hk : k < 31) : (2 : Int) * ((Cel.bit k).toNat : Int) % 4294967296 = ((Cel.bit (k + 1)).toNat : Int) := by
  rw [bit_eq, bit_eq, Nat.mod_eq_of_lt (by omega), Nat.mod_eq_of_lt (by omega), Int.pow_succ]
  have h : (2 : Int) ^ k ≤ 2 ^ 30 := by exact_mod_cast Nat.pow_le_pow_right (show 0 < 2 by omega) (show k ≤ 30 by omega)
  have h0 : (0 : Int) ≤ 2 ^ k := Int.le_of_lt (Int.pow_pos (by omega))
  omega

set_option maxHeartbeats 1000000 in
theorem ref09_bit (n : Nat) (w : World) (hn : n < 32) : Calls Try.prog 36 #[.int .i64 (n : Int)] w fun e w' => e = .returned (W32 (Cel.bit n)) ∧ w = w' := by
  have hb := Lib.hid bit_next
  go_enter Try.func36, Try.ntmps36
  go_wp2_with fail
  go_loopw [3, 4] (fun x i wr => ∃ k : Nat, k ≤ n ∧ i = .int .i64 k ∧ x = .int .u32 ((Cel.bit k).toNat : Int) ∧ w = wr) (fun _ i _ => n - (intOf i).toNat)
  case atStart => exact ⟨0, by omega, rfl, rfl, rfl⟩
  case round =>
    obtain ⟨k, hk, rfl, rfl, rfl⟩ := hrel
    by_cases hlt : k < n
    · go_wp2_with fail
      go_roundw
      have e := hb.out k (by omega)
      case rel => exact ⟨k + 1, by omega, by go_num, congrArg (Value.int .u32) e, by first | rfl | trivial⟩
      case measure => simp [intOf]; omega
    · obtain rfl : k = n := by omega
      go_wp2_with fail
      go_ret
      exact ⟨rfl, rfl⟩

set_option maxHeartbeats 1000000 in
theorem slices_Clone (g n c : Nat) (xs : List Int) (w : World) (h : Ints w w.heap.size (some ⟨g, 0, none⟩) n c xs) (hn : n ≤ 65536) :
    Calls Try.prog 34 #[.slice (some ⟨g, 0, none⟩) n c] w fun e w' => ∃ A2 c2, e = .returned (.slice A2 n c2) ∧ Own w' w.heap.size 3 1 A2 n c2 (xs.map I64) ∧ Below w.heap.size w w' := by
  obtain ⟨iu, hiu, hu0, hu1, hu2⟩ := info_parts i_int
  have hu : ∀ u : World, (binOp .eql 43 (.slice (some ⟨g, 0, none⟩) n c) (.slice none 0 0)).run Try.prog u = .ok (.bool false) u := fun u => by
    have := Lib.run_eql_slice_nil u 43 3 (some ⟨g, 0, none⟩) n c 0 0 Try.underlying43
    exact this
  go_enter Try.func34, Try.ntmps34
  have hb1 := (Below.refl w.heap.size w).alloc (Nat.le_refl _) (.cells #[] 3)
  have hown : Own (w.alloc (.cells #[] 3)) w.heap.size 3 1 (some ⟨w.heap.size, 0, none⟩) 0 0 [] := Own.none_ _ _ _ _ _
  go_wp2_with (at_builtin; refine wpList_append _ rfl (.tmp 5) (.tmp 6) 43 rfl w.heap.size 3 iu _ 1 8 Try.underlying43 hiu hu0 hu1 hu2 rfl (by omega) (some ⟨w.heap.size, 0, none⟩) 0 0 _ rfl hown w.heap.size (some ⟨g, 0, none⟩) n c (xs.map I64) rfl (h.2.2.alloc (Nat.le_refl _) _) (by rw [List.length_map, h.1]; omega) (by intro u hu; obtain ⟨x, _, rfl⟩ := List.mem_map.1 hu; rfl) (by unfold maxLen; omega) (by omega) (by simp) ?_; intro A3 c3 w4 hown4 hg4 hat4; rw [Nat.zero_add, List.nil_append] at hown4)
  go_ret
  exact ⟨_, _, rfl, hown4, hown.grown hg4 hb1 (by simp)⟩
end Go.Proofs.Ytdpfehdpglbidaa
