/-
  The walks of the reference of the modes: xor, the chains.
-/
import Derived.Test.YtbmblalbnegglaaModH
import Derived.Test.YtbmblalbnegglaaOctJ
namespace Go.Proofs.Ytbmblalbnegglaa
open Go.RowKit

theorem byt_kept {w w' : World} {base n c : Nat} {A : Option Addr} {bs : List UInt8} {row : Option Nat} (h : Own w base 5 1 A n c (bcells bs)) (hg : w.grownBy w' row) (hr : ∀ g, row = some g → g < base) : Byt w' w'.heap.size A n c bs :=
  (h.kept hg (by
    rcases Nat.eq_zero_or_pos c with h0 | h0
    · exact .inl h0
    · refine .inr fun g hgA hrow => ?_
      obtain ⟨g1, cur, rfl, hb, _⟩ := h.2.2.2 h0
      simp at hgA
      have := hr g hrow
      omega)).byt (Nat.le_refl _)

set_option maxHeartbeats 2000000 in
theorem ref20_xor (A A' : Option Addr) (c c' : Nat) (a b : List UInt8) (w : World) (h : Byt w w.heap.size A 8 c a) (h' : Byt w w.heap.size A' 8 c' b) :
    Calls Try.prog 31 #[.slice A 8 c, .slice A' 8 c'] w fun e w' => ∃ A2 c2, e = .returned (.slice A2 8 c2) ∧ Own w' w.heap.size 5 1 A2 8 c2 (bcells (Oct.xor a b)) ∧ Below w.heap.size w w' := by
  obtain ⟨ti, hti, hz0, hz1, hz2⟩ := info_parts o_u8
  have hla := Lib.hid h.1
  have hlb := Lib.hid h'.1
  have hra := h.2.2
  have hrb := h'.2.2
  have hlx : (Oct.xor a b).length = 8 := by rw [← h.1]; simp [Oct.xor]
  have HLX := Lib.hid hlx
  clear hlx h h'
  go_enter Try.func31, Try.ntmps31
  go_wp2_with fail
  go_loopg [5, 6] 8 (fun g v i wr => ∃ (k : Nat) (A2 : Option Addr) (c2 : Nat), k + g = 8 ∧ i = .int .i64 k ∧ v = .slice A2 k c2 ∧ Own wr w.heap.size 5 1 A2 k c2 (bcells ((Oct.xor a b).take k)) ∧ Below w.heap.size w wr)
  case atStart => exact ⟨0, none, 0, by omega, rfl, rfl, Own.none_ _ _ _ _ _, Below.refl _ _⟩
  case round =>
    obtain ⟨k, A2, c2, hk, rfl, rfl, hown, hbw⟩ := hrel
    cases gk with
    | zero =>
      obtain rfl : k = 8 := by omega
      rw [List.take_of_length_le (by rw [HLX.out]; omega)] at hown
      go_wp2_with fail
      go_ret
      exact ⟨A2, c2, rfl, hown, hbw⟩
    | succ g =>
      have hlt : (k : Int) < 8 := by omega
      have p0 : (0 : Int) ≤ (k : Int) := by omega
      obtain ⟨b1, o1, rfl, hb1, -⟩ := hra.at_ (j := k) (by rw [length_bcells, hla.out]; omega)
      obtain ⟨b2, o2, rfl, hb2, -⟩ := hrb.at_ (j := k) (by rw [length_bcells, hlb.out]; omega)
      have c1 := (hra.below hbw).byte k (by rw [hla.out]; omega)
      have c2' := (hrb.below hbw).byte k (by rw [hlb.out]; omega)
      have hst := Lib.hid (take_get (Oct.xor a b) k (by rw [HLX.out]; omega))
      have hxg := oxor_get a b k (by rw [hla.out]; omega)
      have hxx : Hid (bits BinOp.xor IntKind.u8 ((a.getD k 0).toNat : Int) ((b.getD k 0).toNat : Int) = (((Oct.xor a b).getD k 0).toNat : Int)) := by
        show _ = _
        rw [u8_xor_nat _ _ (a.getD k 0).toNat_lt (b.getD k 0).toNat_lt, hxg, UInt8.toNat_xor]
      clear hxg
      generalize (a.getD k 0).toNat = x at *
      generalize (b.getD k 0).toNat = y at *
      generalize (Oct.xor a b).getD k 0 = z at *
      have hxx2 := hxx.out
      go_wp2_with fail
      have hkeep : ∀ u : World, Below w.heap.size wr u → u.cell? ⟨b1, o1 + k, none⟩ = some (.int .u8 (x : Int)) ∧ u.cell? ⟨b2, o2 + k, none⟩ = some (.int .u8 (y : Int)) := fun u hu =>
        ⟨(hu.cell (p := ⟨b1, o1 + k, none⟩) hb1).trans c1, (hu.cell (p := ⟨b2, o2 + k, none⟩) hb2).trans c2'⟩
      have HKP := Lib.hid hkeep
      clear hkeep
      go_region_held3 (fun u => u.cell? ⟨b1, o1 + k, none⟩ = some (.int .u8 (x : Int)) ∧ u.cell? ⟨b2, o2 + k, none⟩ = some (.int .u8 (y : Int)))
        (first
          | exact ⟨c1, c2'⟩
          | exact HKP.out _ ((Below.refl _ _).alloc hbw.size _)
          | exact HKP.out _ ((Below.refl _ _).alloc hbw.size _).drew
          | exact HKP.out _ ((hown.alloc _).drew.grown hg4 ((Below.refl _ _).alloc hbw.size _).drew (by simp; have := hbw.size; omega)))
        ((refine step_append _ rfl (.tmp 11) (.tmp 21) 22 rfl w.heap.size 5 ti _ 1 1 Try.underlying22 hti hz0 hz1 hz2 rfl (by omega) A2 k c2 (bcells ((Oct.xor a b).take k)) rfl (hown.alloc _).drew (wr.heap.size + 1) (some ⟨wr.heap.size, 0, none⟩) 1 1 (bcells [z]) rfl (Row.new wr rfl).drew (by simp) (bcells_one _) (by unfold maxLen; omega) (by omega) (by simp; have := hbw.size; omega) ?_; intro A3 c3 w4 hown4 hg4 hat4))
      all_goals
        clear hxx2
        go_wp2_with fail
        go_roundg g
        case measure => omega
        case rel =>
          refine ⟨k + 1, A3, c3, by omega, by go_num, rfl, ?_, (hown.alloc _).drew.grown hg4 (hbw.alloc hbw.size _).drew (by simp; have := hbw.size; omega)⟩
          rw [hst.out, bcells_append]
          exact hown4

theorem ref20_Z (w : World) : Calls Try.prog 41 #[] w fun e w' => e = .returned (.slice (some ⟨w.heap.size, 0, none⟩) 8 8) ∧ Byt w' w'.heap.size (some ⟨w.heap.size, 0, none⟩) 8 8 Mod.z8 ∧ Below w.heap.size w w' := by
  have m8 : ∀ u : World, (Instr.makeSlice 22 (.int .i64 8) (.int .i64 8)).run Try.prog u = .ok (.slice (some ⟨u.heap.size, 0, none⟩) 8 8) (u.alloc (.cells (zc 8) 5)) := fun _ => by kernel_rfl
  go_enter Try.func41, Try.ntmps41
  go_wp2_with fail
  go_ret
  exact ⟨rfl, byt_zc (Blk.new' _ rfl rfl) (by simp), (Below.refl _ _).alloc (Nat.le_refl _) _⟩

theorem refenc_bad (A A' A'' : Option Addr) (n n' n'' c c' c'' : Nat) (w : World) (h : ¬ (n = 16 ∧ n' = 8 ∧ n'' % 8 = 0)) :
    Calls Try.prog 14 #[.slice A n c, .slice A' n' c', .slice A'' n'' c''] w (BRes 5 w [] 1) := by
  by_cases h1 : n = 16
  · subst h1
    by_cases h2 : n' = 8
    · subst h2
      have h3 : ((n'' : Int) % 8 != 0) = true := by rw [bne_iff_ne]; omega
      go_enter Try.func14, Try.ntmps14
      go_wp2_with fail
      go_ret2
      exact BRes.nil _ (Below.refl _ _)
    · have h3 : ((n' : Int) != 8) = true := by rw [bne_iff_ne]; omega
      go_enter Try.func14, Try.ntmps14
      go_wp2_with fail
      go_ret2
      exact BRes.nil _ (Below.refl _ _)
  · have h3 : ((n : Int) != 16) = true := by rw [bne_iff_ne]; omega
    go_enter Try.func14, Try.ntmps14
    go_wp2_with fail
    go_ret2
    exact BRes.nil _ (Below.refl _ _)
theorem refdec_bad (A A' A'' : Option Addr) (n n' n'' c c' c'' : Nat) (w : World) (h : ¬ (n = 16 ∧ n' = 8 ∧ n'' % 8 = 0)) :
    Calls Try.prog 20 #[.slice A n c, .slice A' n' c', .slice A'' n'' c''] w (BRes 5 w [] 1) := by
  by_cases h1 : n = 16
  · subst h1
    by_cases h2 : n' = 8
    · subst h2
      have h3 : ((n'' : Int) % 8 != 0) = true := by rw [bne_iff_ne]; omega
      go_enter Try.func20, Try.ntmps20
      go_wp2_with fail
      go_ret2
      exact BRes.nil _ (Below.refl _ _)
    · have h3 : ((n' : Int) != 8) = true := by rw [bne_iff_ne]; omega
      go_enter Try.func20, Try.ntmps20
      go_wp2_with fail
      go_ret2
      exact BRes.nil _ (Below.refl _ _)
  · have h3 : ((n : Int) != 16) = true := by rw [bne_iff_ne]; omega
    go_enter Try.func20, Try.ntmps20
    go_wp2_with fail
    go_ret2
    exact BRes.nil _ (Below.refl _ _)
end Go.Proofs.Ytbmblalbnegglaa
