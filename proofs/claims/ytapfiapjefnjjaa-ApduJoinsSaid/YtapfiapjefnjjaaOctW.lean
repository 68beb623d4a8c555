/-
  The walks of the reference's order on strings of bytes.
-/
import Derived.Test.YtapfiapjefnjjaaRows
import Derived.Test.YtapfiapjefnjjaaMem
import Derived.Test.YtapfiapjefnjjaaOct
namespace Go.Proofs.Ytapfiapjefnjjaa
open Go.RowKit

set_option maxHeartbeats 1000000 in
theorem ref01_Compare (A A' : Option Addr) (n n' c c' : Nat) (xs ys : List UInt8) (w : World) (hx : Byt w w.heap.size A n c xs) (hy : Byt w w.heap.size A' n' c' ys) (hn : n ≤ 9223372036854775807) (hn' : n' ≤ 9223372036854775807) :
    Calls Try.prog 44 #[.slice A n c, .slice A' n' c'] w fun e w' => e = .returned (.int .i64 (Oct.cmp xs ys)) ∧ ∃ k, w' = w.drewN k := by
  have lx := Lib.hid hx.1
  have ly := Lib.hid hy.1
  have rx := hx.2.2
  have ry := hy.2.2
  clear hx hy
  go_enter Try.func44, Try.ntmps44
  go_wp2_with fail
  go_loopw [5] (fun i wr => ∃ k : Nat, k ≤ n ∧ k ≤ n' ∧ i = .int .i64 k ∧ Hid (Oct.cmp xs ys = Oct.cmp (xs.drop k) (ys.drop k)) ∧ ∃ d, wr = w.drewN d) (fun i _ => n - (intOf i).toNat)
  case atStart => exact ⟨0, by omega, by omega, rfl, rfl, 0, rfl⟩
  case round =>
    obtain ⟨k, hk, hk', rfl, he, d, rfl⟩ := hrel
    by_cases h1 : k < n
    · by_cases h2 : k < n'
      · obtain ⟨b, o, rfl, hb, -⟩ := rx.at_ (j := k) (by rw [length_bcells, lx.out]; exact h1)
        obtain ⟨b', o', rfl, hb', -⟩ := ry.at_ (j := k) (by rw [length_bcells, ly.out]; exact h2)
        have c1 := rx.byte k (by rw [lx.out]; exact h1)
        have c2 := ry.byte k (by rw [ly.out]; exact h2)
        have hst := Lib.hid (Oct.cmp_step xs ys k (by rw [lx.out]; exact h1) (by rw [ly.out]; exact h2))
        generalize (xs.getD k 0).toNat = x at *
        generalize (ys.getD k 0).toNat = y at *
        have i0 : (0 : Int) ≤ (k : Int) := by omega
        have i1 : (k : Int) < (n : Int) := by omega
        have i2 : (k : Int) < (n' : Int) := by omega
        rcases (show x < y ∨ (y < x ∧ ¬ x < y) ∨ (¬ y < x ∧ ¬ x < y) by omega) with h | ⟨h, h'⟩ | ⟨h, h'⟩
        · have hd : decide (x < y) = true := by simpa using h
          go_wp2_with fail
          go_quiet (fail)
          go_wp2_with fail
          go_ret
          exact ⟨ret_int (by rw [he.out, hst.out, if_pos h]), _, by first | rfl | (simp only [World.drewN_drewN]; rfl)⟩
        · have hd : decide (x < y) = false := by simpa using h'
          have hd' : decide (y < x) = true := by simpa using h
          go_wp2_with fail
          go_quiet (fail)
          go_wp2_with fail
          go_quiet (fail)
          go_wp2_with fail
          go_ret
          exact ⟨ret_int (by rw [he.out, hst.out, if_neg h', if_pos h]), _, by first | rfl | (simp only [World.drewN_drewN]; rfl)⟩
        · have hd : decide (x < y) = false := by simpa using h'
          have hd' : decide (y < x) = false := by simpa using h
          go_wp2_with fail
          go_quiet (fail)
          go_wp2_with fail
          go_quiet (fail)
          go_wp2_with fail
          go_roundw
          case rel => exact ⟨k + 1, by omega, by omega, by go_num, by rw [he.out, hst.out, if_neg h', if_neg h]; rfl, _, by first | rfl | (simp only [World.drewN_drewN]; rfl)⟩
          case measure => simp [intOf]; omega
      · obtain rfl : k = n' := by omega
        have hst := Lib.hid (Oct.cmp_end xs ys k (by rw [lx.out]; exact hk) (by rw [ly.out]; exact hk') (.inr ly.out.symm))
        go_wp2_with fail
        go_ret
        exact ⟨ret_int (by rw [he.out, hst.out, lx.out, ly.out, if_neg (by omega), if_pos h1]), _, by first | rfl | (simp only [World.drewN_drewN]; rfl)⟩
    · obtain rfl : k = n := by omega
      have hst := Lib.hid (Oct.cmp_end xs ys k (by rw [lx.out]; exact hk) (by rw [ly.out]; exact hk') (.inl lx.out.symm))
      by_cases h2 : k < n'
      · go_wp2_with fail
        go_ret
        exact ⟨ret_int (by rw [he.out, hst.out, lx.out, ly.out, if_pos h2]), _, by first | rfl | (simp only [World.drewN_drewN]; rfl)⟩
      · go_wp2_with fail
        go_ret
        exact ⟨ret_int (by rw [he.out, hst.out, lx.out, ly.out, if_neg h2, if_neg (by omega)]), _, by first | rfl | (simp only [World.drewN_drewN]; rfl)⟩

set_option maxHeartbeats 400000 in
theorem ref01_Same (A A' : Option Addr) (n n' c c' : Nat) (xs ys : List UInt8) (w : World) (hx : Byt w w.heap.size A n c xs) (hy : Byt w w.heap.size A' n' c' ys) (hn : n ≤ 9223372036854775807) (hn' : n' ≤ 9223372036854775807) :
    Calls Try.prog 18 #[.slice A n c, .slice A' n' c'] w fun e w' => e = .returned (.bool (Oct.same xs ys)) ∧ ∃ k, w' = w.drewN k := by
  have hs := Lib.hid (Oct.same_cmp xs ys)
  go_enter Try.func18, Try.ntmps18
  go_wp2_with (go_at_call 44; refine (ref01_Compare A A' n n' c c' xs ys w hx hy hn hn').mono ?_; rintro e w1 ⟨rfl, k1, rfl⟩)
  go_ret
  exact ⟨by rw [← hs.out]; rfl, _, rfl⟩
end Go.Proofs.Ytapfiapjefnjjaa
