/-
  The walk of the reference's Join.
-/
import Derived.Test.YtpegechahbldlaaRows
import Derived.Test.YtpegechahbldlaaByts
namespace Go.Proofs.Ytpegechahbldlaa
open Go.RowKit

theorem r01_u8 : (Try.prog.info? 5).map (fun i => (i.zero, i.size, i.bytes)) = some (some (.int .u8 0), 1, 1) := by kernel_rfl

set_option maxHeartbeats 1000000 in
theorem ref01_Join (A : Option Addr) (n c : Nat) (vs : List SV) (w : World) (h : Byts w w.heap.size A vs) (hn : vs.length = n) (hm : n ≤ 9223372036854775807) (ht : (joined vs).length ≤ 1099511627776) :
    Calls Try.prog 21 #[.slice A n c] w fun e w' => ∃ A2 c2, e = .returned (.slice A2 (joined vs).length c2) ∧ Own w' w.heap.size 5 1 A2 (joined vs).length c2 (bcells (joined vs)) ∧ Below w.heap.size w w' := by
  obtain ⟨i0, hi0, hz0, hz1, hz2⟩ := info_parts r01_u8
  have hl := Lib.hid hn
  clear hn
  go_enter Try.func21, Try.ntmps21
  go_wp2_with fail
  go_loopw [3, 4] (fun v i wr => ∃ (k : Nat) (A2 : Option Addr) (m c2 : Nat), k ≤ n ∧ i = .int .i64 k ∧ v = .slice A2 m c2 ∧ m = (joined (vs.take k)).length ∧ Own wr w.heap.size 5 1 A2 m c2 (bcells (joined (vs.take k))) ∧ Below w.heap.size w wr) (fun _ i _ => n - (intOf i).toNat)
  case atStart => exact ⟨0, none, 0, 0, by omega, rfl, rfl, rfl, Own.none_ _ _ _ _ _, Below.refl _ _⟩
  case round =>
    obtain ⟨k, A2, m, c2, hk, rfl, rfl, hm2, hown, hbw⟩ := hrel
    by_cases hlt : k < n
    · have hkv : k < vs.length := by rw [hl.out]; exact hlt
      obtain ⟨b, o, rfl, hc, hy⟩ := (h.below hbw).at_ hkv
      have jt := Lib.hid (joined_take vs k hkv)
      have j1 := joined_le vs (k + 1)
      rw [jt.out, List.length_append] at j1
      have hM := Lib.hid hm2
      clear hm2
      generalize vs[k] = x at *
      have p0 : (0 : Int) ≤ (k : Int) := by omega
      have p1 : (k : Int) < (n : Int) := by omega
      have j2 : x.bs.length = x.n := hy.1
      have j3 : m + x.n ≤ 1099511627776 := by rw [hM.out, ← j2]; omega
      clear j1
      have J2 := Lib.hid j2
      clear j2
      go_wp2_with (at_builtin; refine wpList_append _ rfl (.tmp 11) (.tmp 15) 22 rfl w.heap.size 5 i0 _ 1 1 Try.underlying22 hi0 hz0 hz1 hz2 rfl (by omega) A2 m c2 _ rfl hown w.heap.size x.a x.n x.c (bcells x.bs) rfl hy.2.2 (by rw [length_bcells, J2.out]; omega) (bcells_one _) (by unfold maxLen; omega) (by omega) hbw.size ?_; intro A3 c3 w4 hown4 hg4 hat4)
      go_roundw
      case rel => exact ⟨k + 1, A3, _, c3, by omega, by go_num, rfl, by rw [jt.out, List.length_append, hM.out, J2.out], by rw [jt.out, bcells_append]; exact hown4, hown.grown hg4 hbw hbw.size⟩
      case measure => simp [intOf]; omega
    · obtain rfl : k = n := by omega
      have e1 : vs.take k = vs := List.take_of_length_le (by rw [hl.out]; omega)
      rw [e1] at hm2 hown
      subst hm2
      go_wp2_with fail
      go_ret
      exact ⟨A2, c2, rfl, hown, hbw⟩
end Go.Proofs.Ytpegechahbldlaa
