/-
  The statements of the modes, walked: decryption inverts encryption.
-/
import Derived.Test.YtbmblalbnegglaaModO
namespace Go.Proofs.Ytbmblalbnegglaa
open Go.RowKit

theorem back_plain (key iv d : List UInt8) (h : key.length = 16 ∧ iv.length = 8 ∧ d.length % 8 = 0) :
    Mod.cbE key iv d = 0 ∧ (Mod.cbB key iv d false).length = d.length ∧ (Mod.cbB key iv d true).length = d.length ∧
    Mod.cbE key iv (Mod.cbB key iv d false) = 0 ∧ Mod.cbB key iv (Mod.cbB key iv d false) true = d ∧
    Mod.cbE key iv (Mod.cbB key iv d true) = 0 ∧ Mod.cbB key iv (Mod.cbB key iv d true) false = d := by
  have hok := (Mod.ok_iff key iv d).2 h
  have l1 := Mod.cbB_length key iv d false hok
  have l2 := Mod.cbB_length key iv d true hok
  have e1 := Mod.cb_ok key iv d false h.1 h.2.1 h.2.2
  have e2 := Mod.cb_ok key iv d true h.1 h.2.1 h.2.2
  have e3 := Mod.cb_ok key iv (Mod.cbB key iv d false) true h.1 h.2.1 (by rw [l1]; exact h.2.2)
  have e4 := Mod.cb_ok key iv (Mod.cbB key iv d true) false h.1 h.2.1 (by rw [l2]; exact h.2.2)
  refine ⟨e1.1, l1, l2, e3.1, ?_, e4.1, ?_⟩
  · rw [e3.2, l1, e1.2]
    exact Mod.dec_enc key iv d (d.length / 8) (by omega)
  · rw [e4.2, l2, e2.2]
    exact Mod.enc_dec key iv d (d.length / 8) (by omega) h.2.1

set_option maxHeartbeats 4000000 in
theorem law_ModeBack (A A' A'' : Option Addr) (n c n' c' n'' c'' : Nat) (key iv d : List UInt8) (w : World) (hk : Byt w w.heap.size A n c key) (hv : Byt w w.heap.size A' n' c' iv) (hd : Byt w w.heap.size A'' n'' c'' d) :
    Calls Try.prog 8 #[.slice A n c, .slice A' n' c', .slice A'' n'' c''] w fun e w' => e = .returned (.bool true) ∧ Below w.heap.size w w' := by
  have HF := Lib.hid (few_three A A' A'' n c n' c' n'' c'' key iv d w hk hv hd)
  have hu := (Below.refl w.heap.size w).alloc (Nat.le_refl _) (.cells #[.slice A n c, .slice A' n' c', .slice A'' n'' c''] 22)
  have hsz : w.heap.size ≤ (w.alloc (.cells #[.slice A n c, .slice A' n' c', .slice A'' n'' c''] 22)).heap.size := hu.size
  by_cases hb : n ≤ 1000 ∧ n' ≤ 1000 ∧ n'' ≤ 1000
  · have hff : (decide (n ≤ 1000) && (decide (n' ≤ 1000) && decide (n'' ≤ 1000))) = true := by simp [hb.1, hb.2.1, hb.2.2]
    by_cases hok : key.length = 16 ∧ iv.length = 8 ∧ d.length % 8 = 0
    · obtain ⟨p1, p2, p3, p4, p5, p6, p7⟩ := back_plain key iv d hok
      have hdl := hd.1
      have h1 : ∀ (u : World), Below w.heap.size w u → Calls Try.prog 13 #[.slice A n c, .slice A' n' c', .slice A'' n'' c''] u fun e u' => ∃ A2 c2, e = .returned (.tuple #[.slice A2 n'' c2, .int .i64 0]) ∧ Byt u' u'.heap.size A2 n'' c2 (Mod.cbB key iv d false) ∧ Below u.heap.size u u' := fun u hbu => by
        refine (mode_EncryptCBC A A' A'' n n' n'' c c' c'' key iv d u ((hk.below hbu).more hbu.size) ((hv.below hbu).more hbu.size) ((hd.below hbu).more hbu.size) (by omega)).mono ?_
        rintro e u' ⟨A2, c2, rfl, ho, hb2⟩
        have hby := ho.byt (Nat.le_refl _)
        rw [p2, hdl] at hby ⊢
        rw [p1]
        exact ⟨A2, c2, rfl, hby, hb2⟩
      have h2 : ∀ (u : World), Below w.heap.size w u → Calls Try.prog 19 #[.slice A n c, .slice A' n' c', .slice A'' n'' c''] u fun e u' => ∃ A2 c2, e = .returned (.tuple #[.slice A2 n'' c2, .int .i64 0]) ∧ Byt u' u'.heap.size A2 n'' c2 (Mod.cbB key iv d true) ∧ Below u.heap.size u u' := fun u hbu => by
        refine (mode_DecryptCBC A A' A'' n n' n'' c c' c'' key iv d u ((hk.below hbu).more hbu.size) ((hv.below hbu).more hbu.size) ((hd.below hbu).more hbu.size) (by omega)).mono ?_
        rintro e u' ⟨A2, c2, rfl, ho, hb2⟩
        have hby := ho.byt (Nat.le_refl _)
        rw [p3, hdl] at hby ⊢
        rw [p1]
        exact ⟨A2, c2, rfl, hby, hb2⟩
      have h3 : ∀ (u : World) (A4 : Option Addr) (c4 : Nat), Below w.heap.size w u → Byt u u.heap.size A4 n'' c4 (Mod.cbB key iv d false) → Calls Try.prog 19 #[.slice A n c, .slice A' n' c', .slice A4 n'' c4] u fun e u' => ∃ A2 c2, e = .returned (.tuple #[.slice A2 n'' c2, .int .i64 0]) ∧ Byt u' u'.heap.size A2 n'' c2 d ∧ Below u.heap.size u u' := fun u A4 c4 hbu h4 => by
        refine (mode_DecryptCBC A A' A4 n n' n'' c c' c4 key iv _ u ((hk.below hbu).more hbu.size) ((hv.below hbu).more hbu.size) h4 (by omega)).mono ?_
        rintro e u' ⟨A2, c2, rfl, ho, hb2⟩
        have hby := ho.byt (Nat.le_refl _)
        rw [p5, hdl] at hby ⊢
        rw [p4]
        exact ⟨A2, c2, rfl, hby, hb2⟩
      have h4 : ∀ (u : World) (A4 : Option Addr) (c4 : Nat), Below w.heap.size w u → Byt u u.heap.size A4 n'' c4 (Mod.cbB key iv d true) → Calls Try.prog 13 #[.slice A n c, .slice A' n' c', .slice A4 n'' c4] u fun e u' => ∃ A2 c2, e = .returned (.tuple #[.slice A2 n'' c2, .int .i64 0]) ∧ Byt u' u'.heap.size A2 n'' c2 d ∧ Below u.heap.size u u' := fun u A4 c4 hbu h4 => by
        refine (mode_EncryptCBC A A' A4 n n' n'' c c' c4 key iv _ u ((hk.below hbu).more hbu.size) ((hv.below hbu).more hbu.size) h4 (by omega)).mono ?_
        rintro e u' ⟨A2, c2, rfl, ho, hb2⟩
        have hby := ho.byt (Nat.le_refl _)
        rw [p7, hdl] at hby ⊢
        rw [p6]
        exact ⟨A2, c2, rfl, hby, hb2⟩
      have H1 := Lib.hid h1
      have H2 := Lib.hid h2
      have H3 := Lib.hid h3
      have H4 := Lib.hid h4
      have HD := Lib.hid hd
      clear h1 h2 h3 h4 hk hv hd p1 p2 p3 p4 p5 p6 p7 hok hdl
      generalize Mod.cbB key iv d false = eb at *
      generalize Mod.cbB key iv d true = db at *
      go_enter Try.func8, Try.ntmps8
      go_wp2_with (go_at_call 11; refine HF.out.mono ?_; rintro e w1 ⟨rfl, rfl⟩; rw [hff])
      refine (H1.out _ hu).mono ?_
      rintro e w2 ⟨A2, c2, rfl, hy2, hb2⟩
      have hB2 := hu.trans (hb2.mono hsz)
      go_wp2_with fail
      refine (H2.out _ hB2).mono ?_
      rintro e w3 ⟨A3, c3, rfl, hy3, hb3⟩
      have hB3 := hB2.trans (hb3.mono hB2.size)
      go_wp2_with fail
      refine (H3.out _ A2 c2 hB3 ((hy2.below hb3).more hb3.size)).mono ?_
      rintro e w4 ⟨A4, c4, rfl, hy4, hb4⟩
      have hB4 := hB3.trans (hb4.mono hB3.size)
      go_wp2_with fail
      refine (H4.out _ A3 c3 hB4 ((hy3.below hb4).more hb4.size)).mono ?_
      rintro e w5 ⟨A5, c5, rfl, hy5, hb5⟩
      have hB5 := hB4.trans (hb5.mono hB4.size)
      have hs1 := byt_string (P := Try.prog) 22 5 Try.underlying22 Try.underlying5 (HD.out.below hB5) 9 Try.underlying9
      have hs4 := byt_string (P := Try.prog) 22 5 Try.underlying22 Try.underlying5 (hy4.below hb5) 9 Try.underlying9
      have hs5 := byt_string (P := Try.prog) 22 5 Try.underlying22 Try.underlying5 hy5 9 Try.underlying9
      go_wp2_with (go_at_call 12; refine (law20_works _).mono ?_; rintro e w6 ⟨rfl, hb6⟩)
      go_ret
      exact ⟨rfl, hB5.trans (hb6.mono hB5.size)⟩
    · have p1 := Mod.cb_bad key iv d false hok
      have p2 := Mod.cb_bad key iv d true hok
      have h1 : ∀ (u : World), Below w.heap.size w u → Calls Try.prog 13 #[.slice A n c, .slice A' n' c', .slice A'' n'' c''] u fun e u' => ∃ A2 c2, e = .returned (.tuple #[.slice A2 0 c2, .int .i64 1]) ∧ Below u.heap.size u u' := fun u hbu => by
        refine (mode_EncryptCBC A A' A'' n n' n'' c c' c'' key iv d u ((hk.below hbu).more hbu.size) ((hv.below hbu).more hbu.size) ((hd.below hbu).more hbu.size) (by omega)).mono ?_
        rintro e u' ⟨A2, c2, rfl, ho, hb2⟩
        rw [p1.1, p1.2]
        exact ⟨A2, c2, rfl, hb2⟩
      have h2 : ∀ (u : World), Below w.heap.size w u → Calls Try.prog 19 #[.slice A n c, .slice A' n' c', .slice A'' n'' c''] u fun e u' => ∃ A2 c2, e = .returned (.tuple #[.slice A2 0 c2, .int .i64 1]) ∧ Below u.heap.size u u' := fun u hbu => by
        refine (mode_DecryptCBC A A' A'' n n' n'' c c' c'' key iv d u ((hk.below hbu).more hbu.size) ((hv.below hbu).more hbu.size) ((hd.below hbu).more hbu.size) (by omega)).mono ?_
        rintro e u' ⟨A2, c2, rfl, ho, hb2⟩
        rw [p2.1, p2.2]
        exact ⟨A2, c2, rfl, hb2⟩
      have H1 := Lib.hid h1
      have H2 := Lib.hid h2
      clear h1 h2 hk hv hd p1 p2 hok
      go_enter Try.func8, Try.ntmps8
      go_wp2_with (first
        | (go_at_call 11; refine HF.out.mono ?_; rintro e w1 ⟨rfl, rfl⟩; rw [hff])
        | (go_at_call 13; refine (H1.out _ hu).mono ?_; rintro e w2 ⟨A2, c2, rfl, hb2⟩; have hB2 := hu.trans (hb2.mono hsz))
        | (go_at_call 19; refine (H2.out _ hB2).mono ?_; rintro e w3 ⟨A3, c3, rfl, hb3⟩; have hB3 := hB2.trans (hb3.mono hB2.size))
        | (go_at_call 12; refine (law20_works _).mono ?_; rintro e w4 ⟨rfl, hb4⟩))
      go_ret
      exact ⟨rfl, hB3.trans (hb4.mono hB3.size)⟩
  · have hff : (decide (n ≤ 1000) && (decide (n' ≤ 1000) && decide (n'' ≤ 1000))) = false := by
      by_cases h1 : n ≤ 1000 <;> by_cases h2 : n' ≤ 1000 <;> by_cases h3 : n'' ≤ 1000 <;> simp [h1, h2, h3]
      exact absurd ⟨h1, h2, h3⟩ hb
    clear hk hv hd hb
    go_enter Try.func8, Try.ntmps8
    go_wp2_with (first
      | (go_at_call 11; refine HF.out.mono ?_; rintro e w1 ⟨rfl, rfl⟩; rw [hff])
      | (go_at_call 12; refine (law20_works _).mono ?_; rintro e w4 ⟨rfl, hb4⟩))
    go_ret
    exact ⟨rfl, hu.trans (hb4.mono hsz)⟩
end Go.Proofs.Ytbmblalbnegglaa
