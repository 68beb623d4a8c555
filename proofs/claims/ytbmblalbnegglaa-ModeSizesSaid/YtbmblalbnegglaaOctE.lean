/-
  The walks of the library of strings of bytes: Pad, Split.
-/
import Derived.Test.YtbmblalbnegglaaOctD
import Derived.Test.YtbmblalbnegglaaApz
namespace Go.Proofs.Ytbmblalbnegglaa
open Go.RowKit

theorem pad_no (bs : List UInt8) (n : Int) (h : n < 1 ∨ 65536 < n) : Oct.padB bs n = [] ∧ Oct.padE n = 1 := by
  have e : Oct.padOk n = false := by unfold Oct.padOk; simp; omega
  unfold Oct.padB Oct.padE; rw [e]; exact ⟨rfl, rfl⟩
theorem pad_yes (bs : List UInt8) (m : Nat) (h1 : 1 ≤ m) (h2 : m ≤ 65536) : Oct.padB bs (m : Int) = Oct.pad bs m ∧ Oct.padE (m : Int) = 0 := by
  have e : Oct.padOk (m : Int) = true := by unfold Oct.padOk; simp; omega
  unfold Oct.padB Oct.padE; rw [e]; exact ⟨by simp, rfl⟩

set_option maxHeartbeats 4000000 in
theorem octets_Pad (A : Option Addr) (n c : Nat) (bs : List UInt8) (p : Int) (w : World) (h : Byt w w.heap.size A n c bs) (hn : n ≤ 1000000000) :
    Calls Try.prog 46 #[.slice A n c, .int .i64 p] w (BRes 5 w (Oct.padB bs p) (Oct.padE p)) := by
  obtain ⟨ti, hti, hz0, hz1, hz2⟩ := info_parts o_u8
  by_cases hp1 : p < 1
  · have e := Lib.hid (pad_no bs p (.inl hp1))
    have t1 : decide (p < 1) = true := by simpa using hp1
    clear hp1 h
    go_enter Try.func46, Try.ntmps46
    go_wp2_with fail
    go_ret2
    rw [e.out.1, e.out.2]
    exact BRes.nil _ (Below.refl _ _)
  by_cases hp2 : 65536 < p
  · have e := Lib.hid (pad_no bs p (.inr hp2))
    have t1 : decide (p < 1) = false := by simpa using hp1
    have t2 : decide (65536 < p) = true := by simpa using hp2
    clear hp1 hp2 h
    go_enter Try.func46, Try.ntmps46
    go_wp2_with fail
    go_ret2
    rw [e.out.1, e.out.2]
    exact BRes.nil _ (Below.refl _ _)
  obtain ⟨m, rfl⟩ := Int.eq_ofNat_of_zero_le (show 0 ≤ p by omega)
  have t1 : decide ((m : Int) < 1) = false := by simpa using hp1
  have t2 : decide ((65536 : Int) < (m : Int)) = false := by simpa using hp2
  have hm1 : 1 ≤ m := by omega
  have hm2 : m ≤ 65536 := by omega
  have e := Lib.hid (pad_yes bs m hm1 hm2)
  have hl := Lib.hid h.1
  have hbyts : Byts ((w.alloc (.cells #[.int .u8 128] 5)).alloc (.cells #[.slice A n c, .slice (some ⟨w.heap.size, 0, none⟩) 1 1] 22)) (w.heap.size + 2) (some ⟨w.heap.size + 1, 0, none⟩) [⟨A, n, c, bs⟩, ⟨some ⟨w.heap.size, 0, none⟩, 1, 1, [0x80]⟩] := by
    refine ⟨?_, fun v hv => ?_⟩
    · have := Row.new (w.alloc (.cells #[.int .u8 128] 5)) (t := 22) (cs := #[.slice A n c, .slice (some ⟨w.heap.size, 0, none⟩) 1 1]) rfl
      simpa [SV.val] using this
    · simp only [List.mem_cons, List.not_mem_nil, or_false] at hv
      rcases hv with rfl | rfl
      · exact ((h.below ((Below.refl _ _).alloc (Nat.le_refl _) _)).below ((Below.refl _ _).alloc (by simp) _)).more (by omega)
      · exact byt_blk ((Blk.new' _ rfl rfl).alloc _) (by omega) rfl
  have hj : joined [⟨A, n, c, bs⟩, ⟨some ⟨w.heap.size, 0, none⟩, 1, 1, [0x80]⟩] = bs ++ [0x80] := by simp [joined]
  have HB := Lib.hid hbyts
  have HJ := Lib.hid hj
  clear hp1 hp2 hbyts hj h
  go_enter Try.func46, Try.ntmps46
  go_wp2_with fail
  refine (octets_Join (some ⟨w.heap.size + 1, 0, none⟩) 2 2 _ _ (HB.out.more (by simp)) rfl (by omega) (by rw [HJ.out, List.length_append, hl.out]; simp; omega)).mono ?_
  rintro e1 w1 ⟨A2, c2, rfl, hown, hb1⟩
  rw [HJ.out] at hown ⊢
  have hlj : (bs ++ [(0x80 : UInt8)]).length = n + 1 := by rw [List.length_append, hl.out]; rfl
  rw [hlj] at hown ⊢
  have hc2 := hown.le
  have hb01 : Below w.heap.size w w1 := (((Below.refl w.heap.size w).alloc (Nat.le_refl _) _).alloc (by simp) _).trans (hb1.mono (by simp; omega))
  have hown1 : Own w1 w.heap.size 5 1 A2 (n + 1) c2 (bcells (bs ++ [0x80])) := hown.mono (by simp; omega)
  have hmlt := Nat.mod_lt (n + 1) (show 0 < m by omega)
  have hmi : ((n : Int) + 1) % (m : Int) = (((n + 1) % m : Nat) : Int) := by simp
  clear hown hlj hb1
  generalize hrr : (n + 1) % m = r at *
  have HRR := Lib.hid hrr
  clear hrr
  by_cases hr : r = 0
  · have hpad : Oct.pad bs m = bs ++ [0x80] := by
      unfold Oct.pad Oct.padN; rw [hl.out, HRR.out, if_pos hr]; simp
    have HP := Lib.hid hpad
    subst hr
    clear hpad
    go_wp2_with fail
    go_ret2
    rw [e.out.1, e.out.2, HP.out]
    exact BRes.mk (by rw [List.length_append, hl.out]; rfl) hown1 hb01
  · have hpad : Oct.pad bs m = bs ++ [0x80] ++ zs (m - r) := by
      unfold Oct.pad Oct.padN; rw [hl.out, HRR.out, if_neg hr]; rfl
    have HP := Lib.hid hpad
    have t3 : ((r : Int) != 0) = true := by rw [bne_iff_ne]; omega
    have i0 : (0 : Int) ≤ (r : Int) := by omega
    have i1 : (r : Int) < (m : Int) := by omega
    have i2 : (m : Int) ≤ 65536 := by omega
    clear hpad hr
    go_wp2_with (at_builtin; refine wpList_appendz _ rfl (.tmp 24) (.tmp 27) 22 3 rfl w.heap.size 5 ti Try.underlying22 Try.underlying3 hti hz0 hz1 hz2 A2 (n + 1) c2 _ rfl hown1 (by omega) ((m : Int) - (r : Int)) (m - r) (by omega) rfl (by omega) (by omega) hb01.size ?_; intro A3 c3 w4 hown4 hg4)
    go_ret2
    rw [e.out.1, e.out.2, HP.out]
    refine BRes.mk (by rw [List.length_append, List.length_append, hl.out, zs_length]; rfl) ?_ (hown1.grown hg4 hb01 hb01.size)
    rw [bcells_append]
    exact hown4
end Go.Proofs.Ytbmblalbnegglaa
