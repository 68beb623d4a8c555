/-
  The walks of the reference of the modes: the chains.
-/
import Derived.Test.YtbmblalbnegglaaModR
namespace Go.Proofs.Ytbmblalbnegglaa
open Go.RowKit

set_option maxHeartbeats 2000000 in
theorem refenc_good (Ak Av Ad : Option Addr) (m ck cv cd : Nat) (key iv d : List UInt8) (w : World)
    (hk : Byt w w.heap.size Ak 16 ck key) (hv : Byt w w.heap.size Av 8 cv iv) (hd : Byt w w.heap.size Ad (8 * m) cd d) (hn : 8 * m ≤ 1000000) :
    Calls Try.prog 14 #[.slice Ak 16 ck, .slice Av 8 cv, .slice Ad (8 * m) cd] w (BRes 5 w (Mod.eSt key iv d m).1 0) := by
  obtain ⟨ti, hti, hz0, hz1, hz2⟩ := info_parts o_u8
  obtain ⟨n, hnm⟩ : ∃ n, n = 8 * m := ⟨_, rfl⟩
  rw [← hnm] at hd hn ⊢
  have h3 : ((n : Int) % 8 != 0) = false := by rw [bne_eq_false_iff_eq]; omega
  have HNM := Lib.hid hnm
  have HV := Lib.hid hv
  have HD := Lib.hid hd
  have HK := Lib.hid hk
  have hdc := hd.2.1
  clear hnm hk hv hd
  go_enter Try.func14, Try.ntmps14
  go_wp2_with fail
  go_loopg [1, 8, 9] m (fun g y v i wr => ∃ (k a : Nat) (A1 A2 : Option Addr) (c1 c2 : Nat), k + g = m ∧ Hid (a = 8 * k) ∧ i = .int .i64 (a : Int) ∧ y = .slice A1 8 c1 ∧ Byt wr wr.heap.size A1 8 c1 (Mod.eSt key iv d k).2 ∧
    v = .slice A2 a c2 ∧ Own wr w.heap.size 5 1 A2 a c2 (bcells (Mod.eSt key iv d k).1) ∧ Below w.heap.size w wr)
  case atStart => exact ⟨0, 0, Av, none, cv, 0, by omega, Lib.hid rfl, rfl, rfl, HV.out, rfl, Own.none_ _ _ _ _ _, Below.refl _ _⟩
  case round =>
    obtain ⟨k, a, A1, A2, c1, c2, hkg, hak, rfl, rfl, hy, rfl, hown, hbw⟩ := hrel
    cases gk with
    | zero =>
      obtain rfl : k = m := by omega
      have hn : a = n := by rw [hak.out, HNM.out]
      subst hn
      have hl : (Mod.eSt key iv d k).1.length = a := by rw [Mod.eSt_length, HNM.out]
      have HL := Lib.hid hl
      clear hl
      go_wp2_with fail
      go_ret2
      exact BRes.mk HL.out hown hbw
    | succ g =>
      have hlt : (a : Int) < (n : Int) := by have := hak.out; have := HNM.out; omega
      have hle : (a : Int) + 8 ≤ (n : Int) := by have := hak.out; have := HNM.out; omega
      have p0 : (0 : Int) ≤ (a : Int) := by omega
      obtain ⟨b1, o1, rfl, hb1⟩ := HD.out.at_ (by omega)
      have hca : ¬ cd = a := by omega
      have hc8 : (a : Int) + 8 ≤ (cd : Int) := by omega
      have hx : Byt wr wr.heap.size (some ⟨b1, o1 + a, none⟩) 8 (cd - a) (Mod.blk d k) := by
        have h1 := ((HD.out.below hbw).more hbw.size).drop a (by omega)
        have h2 := h1.take 8 (cd - a) (by omega) (by omega)
        rw [hak.out] at h2 ⊢
        exact h2
      have hxl : (Oct.xor (Mod.blk d k) (Mod.eSt key iv d k).2).length = 8 := by rw [Mod.xor_length]; exact hx.1
      have hE : ∀ (u : World) (A' : Option Addr) (c' : Nat), Below wr.heap.size wr u → Byt u u.heap.size A' 8 c' (Oct.xor (Mod.blk d k) (Mod.eSt key iv d k).2) → Calls Try.prog 26 #[.slice Ak 16 ck, .slice A' 8 c'] u fun e u' => ∃ A3 c3, e = .returned (.tuple #[.slice A3 8 c3, .int .i64 0]) ∧ Own u' u.heap.size 5 1 A3 8 c3 (bcells (Cip.crypt key (Oct.xor (Mod.blk d k) (Mod.eSt key iv d k).2) false)) ∧ Below u.heap.size u u' := fun u A' c' hb hy => by
        have hb2 := hbw.trans (hb.mono hbw.size)
        have hr := Cip.res_ok key _ false HK.out.1 hxl
        have he := Cip.err_ok key _ HK.out.1 hxl
        refine (ref19_Encrypt Ak A' 16 8 ck c' key _ u ((HK.out.below hb2).more hb2.size) hy).mono ?_
        rintro e u' ⟨A3, c3, rfl, ho, hb3⟩
        rw [hr, Mod.crypt_length] at ho ⊢
        rw [he]
        exact ⟨A3, c3, rfl, ho, hb3⟩
      have hes := Lib.hid (Mod.eSt_succ key iv d k)
      have HE := Lib.hid hE
      have HX := Lib.hid hx
      have HY := Lib.hid hy
      clear hx hy hE hxl
      generalize Cip.crypt key (Oct.xor (Mod.blk d k) (Mod.eSt key iv d k).2) false = o at *
      go_wp2_with (first
        | (go_at_call 31; refine (ref20_xor _ A1 _ c1 _ _ _ HX.out HY.out).mono ?_; rintro e w2 ⟨A3, c3, rfl, ho3, hb3⟩)
        | (go_at_call 26; refine (HE.out _ A3 c3 hb3 (ho3.byt (Nat.le_refl _))).mono ?_; rintro e w3 ⟨A4, c4, rfl, ho4, hb4⟩; have hB := hb3.trans (hb4.mono hb3.size); have hB0 := hbw.trans (hB.mono hbw.size); have ho4' := ho4.mono hb3.size; have hout := hown.below hB)
        | (at_builtin; refine wpList_append _ rfl (.tmp 42) (.tmp 43) 22 rfl w.heap.size 5 ti _ 1 1 Try.underlying22 hti hz0 hz1 hz2 rfl (by omega) A2 a c2 (bcells (Mod.eSt key iv d k).1) rfl hout w3.heap.size A4 8 c4 (bcells o) rfl ho4.row (by have := ho4.len; omega) (bcells_one _) (by unfold maxLen; omega) (by omega) (by have := hB0.size; omega) ?_; intro A5 c5 w5 hown5 hg5 hat5))
      go_roundg g
      case measure => omega
      case rel =>
        refine ⟨k + 1, a + 8, A4, A5, c4, c5, by omega, Lib.hid (by rw [hak.out]; omega), by go_num, rfl, ?_, rfl, ?_, hout.grown hg5 hB0 (by have := hB0.size; omega)⟩
        · rw [hes.out]
          exact byt_kept ho4' hg5 fun q hq => (hown.lt q hq).2
        · rw [hes.out, bcells_append]
          exact hown5

set_option maxHeartbeats 2000000 in
theorem refdec_good (Ak Av Ad : Option Addr) (m ck cv cd : Nat) (key iv d : List UInt8) (w : World)
    (hk : Byt w w.heap.size Ak 16 ck key) (hv : Byt w w.heap.size Av 8 cv iv) (hd : Byt w w.heap.size Ad (8 * m) cd d) (hn : 8 * m ≤ 1000000) :
    Calls Try.prog 20 #[.slice Ak 16 ck, .slice Av 8 cv, .slice Ad (8 * m) cd] w (BRes 5 w (Mod.dSt key iv d m).1 0) := by
  obtain ⟨ti, hti, hz0, hz1, hz2⟩ := info_parts o_u8
  obtain ⟨n, hnm⟩ : ∃ n, n = 8 * m := ⟨_, rfl⟩
  rw [← hnm] at hd hn ⊢
  have h3 : ((n : Int) % 8 != 0) = false := by rw [bne_eq_false_iff_eq]; omega
  have HNM := Lib.hid hnm
  have HV := Lib.hid hv
  have HD := Lib.hid hd
  have HK := Lib.hid hk
  have hdc := hd.2.1
  clear hnm hk hv hd
  go_enter Try.func20, Try.ntmps20
  go_wp2_with fail
  go_loopg [1, 8, 9] m (fun g y v i wr => ∃ (k a : Nat) (A1 A2 : Option Addr) (c1 c2 : Nat), k + g = m ∧ Hid (a = 8 * k) ∧ i = .int .i64 (a : Int) ∧ y = .slice A1 8 c1 ∧ Byt wr w.heap.size A1 8 c1 (Mod.dSt key iv d k).2 ∧
    v = .slice A2 a c2 ∧ Own wr w.heap.size 5 1 A2 a c2 (bcells (Mod.dSt key iv d k).1) ∧ Below w.heap.size w wr)
  case atStart => exact ⟨0, 0, Av, none, cv, 0, by omega, Lib.hid rfl, rfl, rfl, HV.out, rfl, Own.none_ _ _ _ _ _, Below.refl _ _⟩
  case round =>
    obtain ⟨k, a, A1, A2, c1, c2, hkg, hak, rfl, rfl, hy, rfl, hown, hbw⟩ := hrel
    cases gk with
    | zero =>
      obtain rfl : k = m := by omega
      have hn : a = n := by rw [hak.out, HNM.out]
      subst hn
      have hl : (Mod.dSt key iv d k).1.length = a := by rw [Mod.dSt_length, HNM.out]
      have HL := Lib.hid hl
      clear hl
      go_wp2_with fail
      go_ret2
      exact BRes.mk HL.out hown hbw
    | succ g =>
      have hlt : (a : Int) < (n : Int) := by have := hak.out; have := HNM.out; omega
      have hle : (a : Int) + 8 ≤ (n : Int) := by have := hak.out; have := HNM.out; omega
      have p0 : (0 : Int) ≤ (a : Int) := by omega
      obtain ⟨b1, o1, rfl, hb1⟩ := HD.out.at_ (by omega)
      have hca : ¬ cd = a := by omega
      have hc8 : (a : Int) + 8 ≤ (cd : Int) := by omega
      have hx : Byt wr w.heap.size (some ⟨b1, o1 + a, none⟩) 8 (cd - a) (Mod.blk d k) := by
        have h1 := (HD.out.below hbw).drop a (by omega)
        have h2 := h1.take 8 (cd - a) (by omega) (by omega)
        rw [hak.out] at h2 ⊢
        exact h2
      have hE : Calls Try.prog 40 #[.slice Ak 16 ck, .slice (some ⟨b1, o1 + a, none⟩) 8 (cd - a)] wr fun e u' => ∃ A3 c3, e = .returned (.tuple #[.slice A3 8 c3, .int .i64 0]) ∧ Own u' wr.heap.size 5 1 A3 8 c3 (bcells (Cip.crypt key (Mod.blk d k) true)) ∧ Below wr.heap.size wr u' := by
        have hr := Cip.res_ok key _ true HK.out.1 hx.1
        have he := Cip.err_ok key _ HK.out.1 hx.1
        refine (ref19_Decrypt Ak _ 16 8 ck _ key _ wr ((HK.out.below hbw).more hbw.size) (hx.more hbw.size)).mono ?_
        rintro e u' ⟨A3, c3, rfl, ho, hb3⟩
        rw [hr, Mod.crypt_length] at ho ⊢
        rw [he]
        exact ⟨A3, c3, rfl, ho, hb3⟩
      have hes := Lib.hid (Mod.dSt_succ key iv d k)
      have HE := Lib.hid hE
      have HX := Lib.hid hx
      have HY := Lib.hid hy
      clear hx hy hE
      generalize Cip.crypt key (Mod.blk d k) true = o at *
      go_wp2_with (first
        | (go_at_call 40; refine HE.out.mono ?_; rintro e w3 ⟨A4, c4, rfl, ho4, hb4⟩; have hB0 := hbw.trans (hb4.mono hbw.size))
        | (go_at_call 31; refine (ref20_xor A4 A1 c4 c1 _ _ _ (ho4.byt (Nat.le_refl _)) ((HY.out.below (hb4.mono hbw.size)).more hB0.size)).mono ?_; rintro e w2 ⟨A3, c3, rfl, ho3, hb3⟩; have hB := hb4.trans (hb3.mono hb4.size); have hB1 := hbw.trans (hB.mono hbw.size); have hout := hown.below hB)
        | (at_builtin; refine wpList_append _ rfl (.tmp 44) (.tmp 47) 22 rfl w.heap.size 5 ti _ 1 1 Try.underlying22 hti hz0 hz1 hz2 rfl (by omega) A2 a c2 (bcells (Mod.dSt key iv d k).1) rfl hout w2.heap.size A3 8 c3 (bcells (Oct.xor o (Mod.dSt key iv d k).2)) rfl ho3.row (by have := ho3.len; omega) (bcells_one _) (by unfold maxLen; omega) (by omega) (by have := hB1.size; omega) ?_; intro A5 c5 w5 hown5 hg5 hat5))
      have hB5 := hout.grown hg5 hB1 (by have := hB1.size; omega)
      have hB6 := hout.grown hg5 (hB.mono hbw.size) (by have := hB1.size; omega)
      go_roundg g
      case measure => omega
      case rel =>
        refine ⟨k + 1, a + 8, _, A5, _, c5, by omega, Lib.hid (by rw [hak.out]; omega), by go_num, rfl, ?_, rfl, ?_, hB5⟩
        · rw [hes.out]
          exact HX.out.below hB6
        · rw [hes.out, bcells_append]
          exact hown5
theorem ref20_EncryptCBC (A A' A'' : Option Addr) (n n' n'' c c' c'' : Nat) (key iv d : List UInt8) (w : World) (hk : Byt w w.heap.size A n c key) (hv : Byt w w.heap.size A' n' c' iv) (hd : Byt w w.heap.size A'' n'' c'' d) (hn : n'' ≤ 1000000) :
    Calls Try.prog 14 #[.slice A n c, .slice A' n' c', .slice A'' n'' c''] w (BRes 5 w (Mod.cbB key iv d false) (Mod.cbE key iv d)) := by
  rcases cb_cases key iv d false with ⟨h1, h2, m, h3, h4, h5⟩ | ⟨h1, h4, h5⟩
  · rw [h4, h5]
    obtain rfl : n = 16 := by rw [← hk.1, h1]
    obtain rfl : n' = 8 := by rw [← hv.1, h2]
    obtain rfl : n'' = 8 * m := by rw [← hd.1, h3]
    exact refenc_good A A' A'' m c c' c'' key iv d w hk hv hd hn
  · rw [h4, h5]
    exact refenc_bad _ _ _ _ _ _ _ _ _ _ (by rw [← hk.1, ← hv.1, ← hd.1]; exact h1)
theorem ref20_DecryptCBC (A A' A'' : Option Addr) (n n' n'' c c' c'' : Nat) (key iv d : List UInt8) (w : World) (hk : Byt w w.heap.size A n c key) (hv : Byt w w.heap.size A' n' c' iv) (hd : Byt w w.heap.size A'' n'' c'' d) (hn : n'' ≤ 1000000) :
    Calls Try.prog 20 #[.slice A n c, .slice A' n' c', .slice A'' n'' c''] w (BRes 5 w (Mod.cbB key iv d true) (Mod.cbE key iv d)) := by
  rcases cb_cases key iv d true with ⟨h1, h2, m, h3, h4, h5⟩ | ⟨h1, h4, h5⟩
  · rw [h4, h5]
    obtain rfl : n = 16 := by rw [← hk.1, h1]
    obtain rfl : n' = 8 := by rw [← hv.1, h2]
    obtain rfl : n'' = 8 * m := by rw [← hd.1, h3]
    exact refdec_good A A' A'' m c c' c'' key iv d w hk hv hd hn
  · rw [h4, h5]
    exact refdec_bad _ _ _ _ _ _ _ _ _ _ (by rw [← hk.1, ← hv.1, ← hd.1]; exact h1)
end Go.Proofs.Ytbmblalbnegglaa
