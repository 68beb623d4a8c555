/-
  The statements of the modes, walked: the sizes.
-/
import Derived.Test.YtbmblalbnegglaaModO
namespace Go.Proofs.Ytbmblalbnegglaa
open Go.RowKit

set_option maxHeartbeats 4000000 in
theorem law_ModeSizes (A A' A'' : Option Addr) (n c n' c' n'' c'' : Nat) (key iv d : List UInt8) (w : World) (hk : Byt w w.heap.size A n c key) (hv : Byt w w.heap.size A' n' c' iv) (hd : Byt w w.heap.size A'' n'' c'' d) :
    Calls Try.prog 10 #[.slice A n c, .slice A' n' c', .slice A'' n'' c''] w fun e w' => e = .returned (.bool true) ∧ Below w.heap.size w w' := by
  have HF := Lib.hid (few_three A A' A'' n c n' c' n'' c'' key iv d w hk hv hd)
  have hu := (Below.refl w.heap.size w).alloc (Nat.le_refl _) (.cells #[.slice A n c, .slice A' n' c', .slice A'' n'' c''] 22)
  have hsz : w.heap.size ≤ (w.alloc (.cells #[.slice A n c, .slice A' n' c', .slice A'' n'' c''] 22)).heap.size := hu.size
  by_cases hb : n ≤ 1000 ∧ n' ≤ 1000 ∧ n'' ≤ 1000
  case neg =>
    have hff : (decide (n ≤ 1000) && (decide (n' ≤ 1000) && decide (n'' ≤ 1000))) = false := by
      by_cases h1 : n ≤ 1000 <;> by_cases h2 : n' ≤ 1000 <;> by_cases h3 : n'' ≤ 1000 <;> simp [h1, h2, h3]
      exact absurd ⟨h1, h2, h3⟩ hb
    clear hk hv hd hb
    go_enter Try.func10, Try.ntmps10
    go_wp2_with (first
      | (go_at_call 11; refine HF.out.mono ?_; rintro e w1 ⟨rfl, rfl⟩; rw [hff])
      | (go_at_call 12; refine (law20_works _).mono ?_; rintro e w4 ⟨rfl, hb4⟩))
    go_ret
    exact ⟨rfl, hu.trans (hb4.mono hsz)⟩
  have hff : (decide (n ≤ 1000) && (decide (n' ≤ 1000) && decide (n'' ≤ 1000))) = true := by simp [hb.1, hb.2.1, hb.2.2]
  by_cases h16 : n = 16
  case neg =>
    have t3 : ((n : Int) != 16) = true := by rw [bne_iff_ne]; omega
    clear hk hv hd hb
    go_enter Try.func10, Try.ntmps10
    go_wp2_with (first
      | (go_at_call 11; refine HF.out.mono ?_; rintro e w1 ⟨rfl, rfl⟩; rw [hff])
      | (go_at_call 12; refine (law20_works _).mono ?_; rintro e w4 ⟨rfl, hb4⟩))
    go_ret
    exact ⟨rfl, hu.trans (hb4.mono hsz)⟩
  subst h16
  by_cases h8 : n' = 8
  case neg =>
    have t3 : ((n' : Int) != 8) = true := by rw [bne_iff_ne]; omega
    clear hk hv hd hb
    go_enter Try.func10, Try.ntmps10
    go_wp2_with (first
      | (go_at_call 11; refine HF.out.mono ?_; rintro e w1 ⟨rfl, rfl⟩; rw [hff])
      | (go_at_call 12; refine (law20_works _).mono ?_; rintro e w4 ⟨rfl, hb4⟩))
    go_ret
    exact ⟨rfl, hu.trans (hb4.mono hsz)⟩
  subst h8
  have hk1 := hk.1
  have hv1 := hv.1
  have hm0 : Mod.mcE key iv = 0 := by unfold Mod.mcE; rw [if_pos ⟨hk1, hv1⟩]
  obtain ⟨e1, e2⟩ := Mod.mc_cb key iv d
  obtain ⟨e3, e4, e5⟩ := e2 hm0
  have hml := Mod.mcB_length key iv d ⟨hk1, hv1⟩
  have hpl := Oct.pad_length d 8
  have hpn := Oct.padN_lt d.length 8 (by omega)
  have hd1 := hd.1
  obtain ⟨q, hq⟩ : ∃ q, (Oct.pad d 8).length = q + 8 := ⟨(Oct.pad d 8).length - 8, by omega⟩
  have hbl : (Mod.cbB key iv (Oct.pad d 8) false).length = q + 8 := by rw [e4, hq]
  rw [hq, Nat.add_sub_cancel] at e3
  have hqb : q + 8 ≤ 100000 := by omega
  have hdr : Mod.drE key = 0 := by unfold Mod.drE; rw [if_pos hk1]
  have hd16 : (Mod.drB key d).length = 16 := by
    unfold Mod.drB; rw [if_pos hk1, List.length_append, Mod.mcB_length _ _ _ ⟨hk1, rfl⟩, Mod.mcB_length _ _ _ ⟨hk1, rfl⟩]
  have hc3 : (Mod.ckB key).length = 3 := by unfold Mod.ckB; rw [if_pos hk1, List.length_take, Mod.crypt_length]; rfl
  have h1 : ∀ (u : World), Below w.heap.size w u → Calls Try.prog 25 #[.slice A'' n'' c'', .int .i64 8] u fun e u' => ∃ A2 c2, e = .returned (.tuple #[.slice A2 (q + 8) c2, .int .i64 0]) ∧ Byt u' u'.heap.size A2 (q + 8) c2 (Oct.pad d 8) ∧ Below u.heap.size u u' := fun u hbu => by
    refine (ref_pad8 ((hd.below hbu).more hbu.size) (by omega)).mono ?_
    rintro e u' ⟨A2, c2, rfl, ho, hb2⟩
    have hby := ho.byt (Nat.le_refl _)
    rw [hq] at hby ⊢
    exact ⟨A2, c2, rfl, hby, hb2⟩
  have h2 : ∀ (u : World) (A9 : Option Addr) (c9 : Nat), Below w.heap.size w u → Byt u u.heap.size A9 (q + 8) c9 (Oct.pad d 8) → Calls Try.prog 13 #[.slice A 16 c, .slice A' 8 c', .slice A9 (q + 8) c9] u fun e u' => ∃ b o c2, e = .returned (.tuple #[.slice (some ⟨b, o, none⟩) (q + 8) c2, .int .i64 0]) ∧ Byt u' u'.heap.size (some ⟨b, o, none⟩) (q + 8) c2 (Mod.cbB key iv (Oct.pad d 8) false) ∧ Below u.heap.size u u' := fun u A9 c9 hbu h9 => by
    refine (mode_EncryptCBC A A' A9 16 8 (q + 8) c c' c9 key iv _ u ((hk.below hbu).more hbu.size) ((hv.below hbu).more hbu.size) h9 (by omega)).mono ?_
    rintro e u' ⟨A2, c2, rfl, ho, hb2⟩
    have hby := ho.byt (Nat.le_refl _)
    rw [hbl] at hby ⊢
    rw [e1, hm0]
    obtain ⟨b, o, rfl, _⟩ := hby.at_ (by omega)
    exact ⟨b, o, c2, rfl, hby, hb2⟩
  have h3 : ∀ (u : World), Below w.heap.size w u → Calls Try.prog 15 #[.slice A 16 c, .slice A' 8 c', .slice A'' n'' c''] u fun e u' => ∃ A2 c2, e = .returned (.tuple #[.slice A2 8 c2, .int .i64 0]) ∧ Byt u' u'.heap.size A2 8 c2 (Mod.mcB key iv d) ∧ Below u.heap.size u u' := fun u hbu => by
    refine (mode_MAC A A' A'' 16 8 n'' c c' c'' key iv d u ((hk.below hbu).more hbu.size) ((hv.below hbu).more hbu.size) ((hd.below hbu).more hbu.size) (by omega)).mono ?_
    rintro e u' ⟨A2, c2, rfl, ho, hb2⟩
    have hby := ho.byt (Nat.le_refl _)
    rw [hml] at hby ⊢
    rw [hm0]
    exact ⟨A2, c2, rfl, hby, hb2⟩
  have h4 : ∀ (u : World), Below w.heap.size w u → Calls Try.prog 21 #[.slice A 16 c, .slice A'' n'' c''] u fun e u' => ∃ A2 c2, e = .returned (.tuple #[.slice A2 16 c2, .int .i64 0]) ∧ Below u.heap.size u u' := fun u hbu => by
    refine (mode_Derive A A'' 16 n'' c c'' key d u ((hk.below hbu).more hbu.size) ((hd.below hbu).more hbu.size) (by omega)).mono ?_
    rintro e u' ⟨A2, c2, rfl, ho, hb2⟩
    rw [hd16, hdr]
    exact ⟨A2, c2, rfl, hb2⟩
  have h5 : ∀ (u : World), Below w.heap.size w u → Calls Try.prog 23 #[.slice A 16 c] u fun e u' => ∃ A2 c2, e = .returned (.tuple #[.slice A2 3 c2, .int .i64 0]) ∧ Below u.heap.size u u' := fun u hbu => by
    refine (mode_Check A 16 c key u ((hk.below hbu).more hbu.size)).mono ?_
    rintro e u' ⟨A2, c2, rfl, ho, hb2⟩
    rw [hc3, hdr]
    exact ⟨A2, c2, rfl, hb2⟩
  have h6 : ∀ (u : World), Below w.heap.size w u → Calls Try.prog 17 #[.slice A'' n'' c''] u fun e u' => ∃ A2 c2, e = .returned (.slice A2 16 c2) ∧ Below u.heap.size u u' := fun u hbu => by
    refine (mode_Hash A'' n'' c'' d u ((hd.below hbu).more hbu.size) (by omega)).mono ?_
    rintro e u' ⟨A2, c2, rfl, ho, hb2⟩
    have hl : (Mod.hash d).length = 16 := Mod.hK_length _ _
    rw [hl]
    exact ⟨A2, c2, rfl, hb2⟩
  have H1 := Lib.hid h1
  have H2 := Lib.hid h2
  have H3 := Lib.hid h3
  have H4 := Lib.hid h4
  have H5 := Lib.hid h5
  have H6 := Lib.hid h6
  have E3 := Lib.hid e3
  clear h1 h2 h3 h4 h5 h6 hk hv hd hk1 hv1 hm0 e1 e2 e3 e4 e5 hml hpl hpn hd1 hq hbl hdr hd16 hc3 hb
  generalize Mod.cbB key iv (Oct.pad d 8) false = eb at *
  generalize Mod.mcB key iv d = mb at *
  generalize Oct.pad d 8 = pd at *
  go_enter Try.func10, Try.ntmps10
  go_wp2_with (first
    | (go_at_call 11; refine HF.out.mono ?_; rintro e w1 ⟨rfl, rfl⟩; rw [hff])
    | (go_at_call 25; refine (H1.out _ hu).mono ?_; rintro e w2 ⟨A2, c2, rfl, hy2, hb2⟩; have hB2 := hu.trans (hb2.mono hsz))
    | (go_at_call 13; refine (H2.out _ A2 c2 hB2 hy2).mono ?_; rintro e w3 ⟨b3, o3, c3, rfl, hy3, hb3⟩; have hB3 := hB2.trans (hb3.mono hB2.size))
    | (go_at_call 15; refine (H3.out _ hB3).mono ?_; rintro e w4 ⟨A4, c4, rfl, hy4, hb4⟩; have hB4 := hB3.trans (hb4.mono hB3.size))
    | (go_at_call 21; refine (H4.out _ hB4).mono ?_; rintro e w5 ⟨A5, c5, rfl, hb5⟩; have hB5 := hB4.trans (hb5.mono hB4.size))
    | (go_at_call 23; refine (H5.out _ hB5).mono ?_; rintro e w6 ⟨A6, c6, rfl, hb6⟩; have hB6 := hB5.trans (hb6.mono hB5.size)))
  have hcc := hy3.2.1
  have q1 : ¬ c3 = q := by omega
  have hy3q : Byt w6 w3.heap.size (some ⟨b3, o3 + q, none⟩) 8 (c3 - q) mb := by
    have h1 := ((hy3.below hb4).below (hb5.mono hb4.size)).below (hb6.mono (Nat.le_trans hb4.size hb5.size))
    have h2 := h1.drop q (by omega)
    rw [Nat.add_sub_cancel_left, ← E3.out] at h2
    exact h2
  have hy4q : Byt w6 w4.heap.size A4 8 c4 mb := (hy4.below hb5).below (hb6.mono hb5.size)
  have hs3 := fun k : Nat => byt_string (P := Try.prog) 22 5 Try.underlying22 Try.underlying5 (Byt.below (w' := w6.drewN k) hy3q (Below.drewN (Below.refl _ _) k)) 9 Try.underlying9
  have hs4 := fun k : Nat => byt_string (P := Try.prog) 22 5 Try.underlying22 Try.underlying5 (Byt.below (w' := w6.drewN k) hy4q (Below.drewN (Below.refl _ _) k)) 9 Try.underlying9
  have hi1 : IntKind.i64.wrap ((q : Int) + 8 - 8) = (q : Int) := by
    rw [show (q : Int) + 8 - 8 = (q : Int) by omega]; exact IntWalk.i64_in _ (by omega)
  refine wp_region_quiet_tail 49 (by kernel_rfl) (by kernel_rfl) ?_
  simp only [List.take_succ_cons, List.take_zero]
  repeat (go_big_quiet_step (fail))
  refine wpQuiet_nil ?_
  rintro _ ⟨nq, rfl⟩
  simp only [List.drop_succ_cons, List.drop_zero]
  have hud : Below w.heap.size w (w6.drewN nq) := Below.drewN hB6 nq
  go_wp2_with (first
    | (go_at_call 17; refine (H6.out _ hud).mono ?_; rintro e w7 ⟨A7, c7, rfl, hb7⟩; have hB7 := hud.trans (hb7.mono hud.size))
    | (go_at_call 12; refine (law20_works _).mono ?_; rintro e w8 ⟨rfl, hb8⟩))
  go_ret
  exact ⟨rfl, hB7.trans (hb8.mono hB7.size)⟩
end Go.Proofs.Ytbmblalbnegglaa
