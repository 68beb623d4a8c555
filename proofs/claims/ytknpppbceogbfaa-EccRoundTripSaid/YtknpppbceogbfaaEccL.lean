/-
  The example of the code's chapter, and the statements EccEncodes, EccDecodes.
-/
import Derived.Test.YtknpppbceogbfaaEccU
namespace Go.Proofs.Ytknpppbceogbfaa
open Go.RowKit

theorem x_enc : encW 1 = 15 ∧ encE 1 = 0 := by decide +kernel
theorem x_dec : Ecc.decode 11 = (1, 1) ∧ Ecc.decode 9 = (0, 2) := by decide +kernel
theorem x_words : wordsN 4 = 2 := by decide +kernel
theorem x_pack : pack [0, 0, 1] = [15] := by decide +kernel

set_option maxRecDepth 100000 in
set_option maxHeartbeats 2000000 in
theorem law10_example (w : World) :
    Calls Try.prog 11 #[] w fun e w' => e = .returned (.bool true) ∧ Below w.heap.size w w' := by
  go_enter Try.func11, Try.ntmps11
  go_wp2_with fail
  refine (ecc_Encode 1 _).mono ?_
  rintro e w1 ⟨rfl, hb1⟩
  rw [x_enc.1, x_enc.2]
  go_wp2_with fail
  refine (ecc_Decode 11 _ (by omega)).mono ?_
  rintro e w2 ⟨rfl, hb2⟩
  rw [x_dec.1]
  go_wp2_with fail
  refine (ecc_Decode 9 _ (by omega)).mono ?_
  rintro e w3 ⟨rfl, hb3⟩
  rw [x_dec.2]
  have hb := hb1.trans ((hb2.trans (hb3.mono hb2.size)).mono hb1.size)
  clear hb1 hb2 hb3
  go_wp2_with fail
  refine (ecc_Pack (some ⟨w3.heap.size, 0, none⟩) 3 3 [0, 0, 1] _ (byt_blk (Blk.new' _ rfl rfl) (by simp) rfl) (by omega)).mono ?_
  rintro e w4 ⟨A2, m, c2, rfl, hm, hown, hb4⟩
  rw [x_pack] at hown
  obtain rfl : m = 1 := by omega
  obtain ⟨g, rfl, hg, hg2, hcell, -⟩ := hown.elem (i := 0) (by omega)
  have hcell : w4.cell? ⟨g, 0, none⟩ = some (.int .u32 15) := hcell
  have hbb : Below w.heap.size w w4 := (hb.alloc hb.size _).trans (hb4.mono (by simp; have := hb.size; omega))
  clear hown hb hb4 hm
  go_wp2_with fail
  refine (ecc_Words 4 _ (by omega)).mono ?_
  rintro e w5 ⟨rfl, rfl⟩
  rw [x_words]
  go_wp2_with fail
  go_ret
  exact ⟨rfl, hbb⟩

set_option maxHeartbeats 1000000 in
theorem law_EccEncodes (d : Int) (w : World) :
    Calls Try.prog 3 #[.int .i64 d] w fun e w' => e = .returned (.bool true) ∧ Below w.heap.size w w' := by
  go_enter Try.func3, Try.ntmps3
  go_wp2_with fail
  refine (ecc_Encode d _).mono ?_
  rintro e w1 ⟨rfl, hb1⟩
  go_wp2_with fail
  refine (ref10_Encode d _).mono ?_
  rintro e w2 ⟨rfl, rfl⟩
  generalize encW d = a at *
  generalize encE d = b at *
  go_wp2_with fail
  refine (law10_example _).mono ?_
  rintro e w3 ⟨rfl, hb3⟩
  go_wp2_with fail
  go_ret
  exact ⟨rfl, hb1.trans (hb3.mono hb1.size)⟩

set_option maxHeartbeats 1000000 in
theorem law_EccDecodes (x : Int) (w : World) (h0 : 0 ≤ x) (h1 : x ≤ 4294967295) :
    Calls Try.prog 4 #[.int .u32 x] w fun e w' => e = .returned (.bool true) ∧ Below w.heap.size w w' := by
  obtain ⟨n, rfl⟩ := Int.eq_ofNat_of_zero_le h0
  clear h0
  have hn : n < 4294967296 := by omega
  clear h1
  go_enter Try.func4, Try.ntmps4
  go_wp2_with fail
  refine (ecc_Decode n _ hn).mono ?_
  rintro e w1 ⟨rfl, hb1⟩
  go_wp2_with fail
  refine (ref10_Decode n _ hn).mono ?_
  rintro e w2 ⟨rfl, rfl⟩
  generalize Ecc.decode n = a at *
  obtain ⟨a, b⟩ := a
  go_wp2_with fail
  refine (law10_example _).mono ?_
  rintro e w3 ⟨rfl, hb3⟩
  go_wp2_with fail
  go_ret
  exact ⟨rfl, hb1.trans (hb3.mono hb1.size)⟩
end Go.Proofs.Ytknpppbceogbfaa
