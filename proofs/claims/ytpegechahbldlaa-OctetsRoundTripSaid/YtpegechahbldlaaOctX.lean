/-
  The example of the chapter on strings of bytes holds.
-/
import Derived.Test.YtpegechahbldlaaOctN
namespace Go.Proofs.Ytpegechahbldlaa
open Go.RowKit

theorem ex_parse1 (w : World) : Calls Try.prog 11 #[.string ⟨#[48, 65, 102, 70]⟩] w (BRes 5 w [10, 255] 0) := by
  have h := octets_Parse ⟨#[48, 65, 102, 70]⟩ w (by decide)
  have e1 : Oct.prB (ByteArray.mk #[48, 65, 102, 70]).data.toList = [10, 255] := by decide +kernel
  have e2 : Oct.prE (ByteArray.mk #[48, 65, 102, 70]).data.toList = 0 := by decide +kernel
  rw [e1, e2] at h
  exact h
theorem ex_parse2 (w : World) : Calls Try.prog 11 #[.string ⟨#[48, 103]⟩] w (BRes 5 w [] 4) := by
  have h := octets_Parse ⟨#[48, 103]⟩ w (by decide)
  have e1 : Oct.prB (ByteArray.mk #[48, 103]).data.toList = [] := by decide +kernel
  have e2 : Oct.prE (ByteArray.mk #[48, 103]).data.toList = 4 := by decide +kernel
  rw [e1, e2] at h
  exact h
theorem ex_pad (A : Option Addr) (w : World) (h : Byt w w.heap.size A 2 2 [1, 2]) : Calls Try.prog 16 #[.slice A 2 2, .int .i64 4] w (BRes 5 w [1, 2, 128, 0] 0) := by
  have h := octets_Pad A 2 2 [1, 2] 4 w h (by omega)
  have e1 : Oct.padB [1, 2] 4 = [1, 2, 128, 0] := by decide +kernel
  have e2 : Oct.padE 4 = 0 := by decide +kernel
  rw [e1, e2] at h
  exact h
theorem ex_unpad1 (A : Option Addr) (w : World) (h : Byt w w.heap.size A 3 3 [0, 128, 0]) : Calls Try.prog 18 #[.slice A 3 3] w (BRes 5 w [0] 0) := by
  have h := octets_Unpad A 3 3 [0, 128, 0] w h (by omega)
  have e1 : Oct.unpB [0, 128, 0] = [0] := by decide +kernel
  have e2 : Oct.unpE [0, 128, 0] = 0 := by decide +kernel
  rw [e1, e2] at h
  exact h
theorem ex_unpad2 (A : Option Addr) (w : World) (h : Byt w w.heap.size A 2 2 [0, 0]) : Calls Try.prog 18 #[.slice A 2 2] w (BRes 5 w [] 4) := by
  have h := octets_Unpad A 2 2 [0, 0] w h (by omega)
  have e1 : Oct.unpB [0, 0] = [] := by decide +kernel
  have e2 : Oct.unpE [0, 0] = 4 := by decide +kernel
  rw [e1, e2] at h
  exact h
theorem ex_put1 (w : World) : Calls Try.prog 31 #[.int .i64 258, .int .i64 3] w (BRes 5 w [0, 1, 2] 0) := by
  have h := octets_Put 258 3 w (by omega)
  have e1 : Oct.ptB 258 3 = [0, 1, 2] := by decide +kernel
  have e2 : Oct.ptE 258 3 = 0 := by decide +kernel
  rw [e1, e2] at h
  exact h
theorem ex_put2 (w : World) : Calls Try.prog 31 #[.int .i64 256, .int .i64 1] w (BRes 5 w [] 2) := by
  have h := octets_Put 256 1 w (by omega)
  have e1 : Oct.ptB 256 1 = [] := by decide +kernel
  have e2 : Oct.ptE 256 1 = 2 := by decide +kernel
  rw [e1, e2] at h
  exact h
theorem ex_split (A : Option Addr) (w : World) (h : Byt w w.heap.size A 3 3 [1, 2, 3]) : Calls Try.prog 22 #[.slice A 3 3, .int .i64 2] w (SRes 5 22 w [[1, 2], [3]] 0) := by
  have h := octets_Split A 3 3 [1, 2, 3] 2 w h (by omega)
  have e1 : Oct.spB [1, 2, 3] 2 = [[1, 2], [3]] := by decide +kernel
  have e2 : Oct.spE 2 = 0 := by decide +kernel
  rw [e1, e2] at h
  exact h
theorem ex_hex : Oct.hexS [10, 255] = [48, 97, 102, 102] ∧ Oct.hexS [1, 2, 128, 0] = [48, 49, 48, 50, 56, 48, 48, 48] ∧ Oct.hexS [0] = [48, 48] ∧ Oct.hexS [0, 1, 2] = [48, 48, 48, 49, 48, 50] ∧ Oct.hexS [3] = [48, 51] := by decide +kernel

set_option maxRecDepth 100000 in
set_option maxHeartbeats 4000000 in
theorem law01_example (w : World) :
    Calls Try.prog 10 #[] w fun e w' => e = .returned (.bool true) ∧ Below w.heap.size w w' := by
  go_enter Try.func10, Try.ntmps10
  go_wp2_with fail
  refine (ex_parse1 _).mono ?_
  rintro e w1 ⟨A1, c1, rfl, o1, b1⟩
  go_wp2_with fail
  refine (ex_parse2 _).mono ?_
  rintro e w2 ⟨A2, c2, rfl, -, b2⟩
  have o1 := o1.below b2
  have b := b1.trans (b2.mono b1.size)
  clear b1 b2
  go_wp2_with fail
  refine (ex_pad _ _ (byt_blk (Blk.new' _ rfl rfl) (by simp) rfl)).mono ?_
  rintro e w3 ⟨A3, c3, rfl, o3, b3⟩
  have o1 := (o1.alloc _).below b3
  have o3 := o3.mono (base' := w.heap.size) (by have := b.size; simp; omega)
  have b := (b.alloc b.size _).trans (b3.mono (by have := b.size; simp; omega))
  clear b3
  go_wp2_with fail
  refine (ex_unpad1 _ _ (byt_blk (Blk.new' _ rfl rfl) (by simp) rfl)).mono ?_
  rintro e w4 ⟨A4, c4, rfl, o4, b4⟩
  have o1 := (o1.alloc _).below b4
  have o3 := (o3.alloc _).below b4
  have o4 := o4.mono (base' := w.heap.size) (by have := b.size; simp; omega)
  have b := (b.alloc b.size _).trans (b4.mono (by have := b.size; simp; omega))
  clear b4
  go_wp2_with fail
  refine (ex_unpad2 _ _ (byt_blk (Blk.new' _ rfl rfl) (by simp) rfl)).mono ?_
  rintro e w5 ⟨A5, c5, rfl, -, b5⟩
  have o1 := (o1.alloc _).below b5
  have o3 := (o3.alloc _).below b5
  have o4 := (o4.alloc _).below b5
  have b := (b.alloc b.size _).trans (b5.mono (by have := b.size; simp; omega))
  clear b5
  go_wp2_with fail
  refine (ex_put1 _).mono ?_
  rintro e w6 ⟨A6, c6, rfl, o6, b6⟩
  have o1 := o1.below b6
  have o3 := o3.below b6
  have o4 := o4.below b6
  have o6 := o6.mono (base' := w.heap.size) b.size
  have b := b.trans (b6.mono b.size)
  clear b6
  go_wp2_with fail
  refine (ex_put2 _).mono ?_
  rintro e w7 ⟨A7, c7, rfl, -, b7⟩
  have o1 := o1.below b7
  have o3 := o3.below b7
  have o4 := o4.below b7
  have o6 := o6.below b7
  have b := b.trans (b7.mono b.size)
  clear b7
  go_wp2_with fail
  refine (ex_split _ _ (byt_blk (Blk.new' _ rfl rfl) (by simp) rfl)).mono ?_
  rintro e w8 ⟨A8, c8, vs, rfl, hvs, o8, hall, b8⟩
  have o1 := ((o1.alloc _).below b8).byt (Nat.le_refl _)
  have o3 := ((o3.alloc _).below b8).byt (Nat.le_refl _)
  have o4 := ((o4.alloc _).below b8).byt (Nat.le_refl _)
  have o6 := ((o6.alloc _).below b8).byt (Nat.le_refl _)
  have b := (b.alloc b.size _).trans (b8.mono (by have := b.size; simp; omega))
  obtain ⟨v0, v1, rfl⟩ : ∃ v0 v1, vs = [v0, v1] := by
    match vs, hvs with
    | [v0, v1], _ => exact ⟨v0, v1, rfl⟩
  have hv1 : v1.bs = [3] := by simp at hvs; exact hvs.2
  have y1 := (hall v1 (by simp)).byt (Nat.le_refl _)
  rw [hv1] at y1
  have hn1 : v1.n = 1 := by rw [← y1.1]; rfl
  obtain ⟨g, hg, -, -, hcell, -⟩ := o8.elem (i := 1) (by simp)
  subst hg
  have hcell2 : w8.cell? ⟨g, 1, none⟩ = some (.slice v1.a 1 v1.c) := by rw [hcell]; simp [SV.val, hn1]
  rw [hn1] at y1
  clear hcell hv1 hn1 hvs hall o8 b8
  have hx := Lib.hid ex_hex
  go_wp2_with fail
  refine (octets_Hex _ _ _ _ _ o1 (by simp)).mono ?_
  rintro e w9 ⟨rfl, b9⟩
  rw [hx.out.1]
  have o3 := (o3.below b9).more b9.size
  have o4 := (o4.below b9).more b9.size
  have o6 := (o6.below b9).more b9.size
  have y1 := (y1.below b9).more b9.size
  have hcell3 : w9.cell? ⟨g, 1, none⟩ = some (.slice v1.a 1 v1.c) := cell_later b9 hcell2
  have b := b.trans (b9.mono b.size)
  clear b9 hcell2
  go_wp2_with fail
  refine (octets_Hex _ _ _ _ _ o3 (by simp)).mono ?_
  rintro e w10 ⟨rfl, b10⟩
  rw [hx.out.2.1]
  have o4 := (o4.below b10).more b10.size
  have o6 := (o6.below b10).more b10.size
  have y1 := (y1.below b10).more b10.size
  have hcell4 : w10.cell? ⟨g, 1, none⟩ = some (.slice v1.a 1 v1.c) := cell_later b10 hcell3
  have b := b.trans (b10.mono b.size)
  clear b10 hcell3
  go_wp2_with fail
  refine (octets_Hex _ _ _ _ _ o4 (by simp)).mono ?_
  rintro e w11 ⟨rfl, b11⟩
  rw [hx.out.2.2.1]
  have o6 := (o6.below b11).more b11.size
  have y1 := (y1.below b11).more b11.size
  have hcell5 : w11.cell? ⟨g, 1, none⟩ = some (.slice v1.a 1 v1.c) := cell_later b11 hcell4
  have b := b.trans (b11.mono b.size)
  clear b11 hcell4
  go_wp2_with fail
  refine (octets_Hex _ _ _ _ _ o6 (by simp)).mono ?_
  rintro e w12 ⟨rfl, b12⟩
  rw [hx.out.2.2.2.1]
  have y1 := (y1.below b12).more b12.size
  have hcell6 : w12.cell? ⟨g, 1, none⟩ = some (.slice v1.a 1 v1.c) := cell_later b12 hcell5
  have b := b.trans (b12.mono b.size)
  clear b12 hcell5
  go_wp2_with fail
  refine (octets_Hex _ _ _ _ _ y1 (by simp)).mono ?_
  rintro e w13 ⟨rfl, b13⟩
  rw [hx.out.2.2.2.2]
  have b := b.trans (b13.mono b.size)
  clear b13
  go_wp2_with fail
  go_ret
  exact ⟨rfl, b⟩
end Go.Proofs.Ytpegechahbldlaa
