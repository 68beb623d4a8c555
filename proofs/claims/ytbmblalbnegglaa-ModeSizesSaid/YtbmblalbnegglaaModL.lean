/-
  The statements of the modes, walked: encryption, decryption, the MAC.
-/
import Derived.Test.YtbmblalbnegglaaModK
namespace Go.Proofs.Ytbmblalbnegglaa
open Go.RowKit

theorem few_three (A A' A'' : Option Addr) (n c n' c' n'' c'' : Nat) (key iv d : List UInt8) (w : World) (hk : Byt w w.heap.size A n c key) (hv : Byt w w.heap.size A' n' c' iv) (hd : Byt w w.heap.size A'' n'' c'' d) :
    Calls Try.prog 11 #[.slice (some ⟨w.heap.size, 0, none⟩) 3 3] (w.alloc (.cells #[.slice A n c, .slice A' n' c', .slice A'' n'' c''] 22)) fun e w' =>
      e = .returned (.bool (decide (n ≤ 1000) && (decide (n' ≤ 1000) && decide (n'' ≤ 1000)))) ∧ w.alloc (.cells #[.slice A n c, .slice A' n' c', .slice A'' n'' c''] 22) = w' := by
  have hu := (Below.refl w.heap.size w).alloc (Nat.le_refl _) (.cells #[.slice A n c, .slice A' n' c', .slice A'' n'' c''] 22)
  have hby : Byts (w.alloc (.cells #[.slice A n c, .slice A' n' c', .slice A'' n'' c''] 22)) (w.alloc (.cells #[.slice A n c, .slice A' n' c', .slice A'' n'' c''] 22)).heap.size (some ⟨w.heap.size, 0, none⟩) [⟨A, n, c, key⟩, ⟨A', n', c', iv⟩, ⟨A'', n'', c'', d⟩] := by
    refine ⟨(Blk.new w 22 _).row, fun v hm => ?_⟩
    rcases List.mem_cons.1 hm with rfl | hm
    · exact (hk.below hu).more hu.size
    rcases List.mem_cons.1 hm with rfl | hm
    · exact (hv.below hu).more hu.size
    · obtain rfl := List.mem_singleton.1 hm
      exact (hd.below hu).more hu.size
  refine (law20_few _ 3 3 _ _ hby rfl (by omega)).mono ?_
  rintro e w' ⟨rfl, h⟩
  exact ⟨by simp [fewB], h⟩

set_option maxHeartbeats 2000000 in
theorem law_ModeEncrypts (A A' A'' : Option Addr) (n c n' c' n'' c'' : Nat) (key iv d : List UInt8) (w : World) (hk : Byt w w.heap.size A n c key) (hv : Byt w w.heap.size A' n' c' iv) (hd : Byt w w.heap.size A'' n'' c'' d) :
    Calls Try.prog 3 #[.slice A n c, .slice A' n' c', .slice A'' n'' c''] w fun e w' => e = .returned (.bool true) ∧ Below w.heap.size w w' := by
  have hF := few_three A A' A'' n c n' c' n'' c'' key iv d w hk hv hd
  have HF := Lib.hid hF
  have hu := (Below.refl w.heap.size w).alloc (Nat.le_refl _) (.cells #[.slice A n c, .slice A' n' c', .slice A'' n'' c''] 22)
  have hsz : w.heap.size ≤ (w.alloc (.cells #[.slice A n c, .slice A' n' c', .slice A'' n'' c''] 22)).heap.size := hu.size
  clear hF
  by_cases hb : n ≤ 1000 ∧ n' ≤ 1000 ∧ n'' ≤ 1000
  · have hff : (decide (n ≤ 1000) && (decide (n' ≤ 1000) && decide (n'' ≤ 1000))) = true := by simp [hb.1, hb.2.1, hb.2.2]
    have hfin : ∀ (u : World), Below w.heap.size w u → Calls Try.prog 13 #[.slice A n c, .slice A' n' c', .slice A'' n'' c''] u (BRes 5 u (Mod.cbB key iv d false) (Mod.cbE key iv d)) := fun u hbu =>
      mode_EncryptCBC A A' A'' n n' n'' c c' c'' key iv d u ((hk.below hbu).more hbu.size) ((hv.below hbu).more hbu.size) ((hd.below hbu).more hbu.size) (by omega)
    have hfir : ∀ (u : World), Below w.heap.size w u → Calls Try.prog 14 #[.slice A n c, .slice A' n' c', .slice A'' n'' c''] u (BRes 5 u (Mod.cbB key iv d false) (Mod.cbE key iv d)) := fun u hbu =>
      ref20_EncryptCBC A A' A'' n n' n'' c c' c'' key iv d u ((hk.below hbu).more hbu.size) ((hv.below hbu).more hbu.size) ((hd.below hbu).more hbu.size) (by omega)
    have H1 := Lib.hid hfin
    have H2 := Lib.hid hfir
    clear hfin hfir hk hv hd
    generalize Mod.cbB key iv d false = bs at *
    generalize Mod.cbE key iv d = er at *
    go_enter Try.func3, Try.ntmps3
    go_wp2_with (first
      | (go_at_call 11; refine HF.out.mono ?_; rintro e w1 ⟨rfl, rfl⟩; rw [hff])
      | (go_at_call 13; refine (H1.out _ hu).mono ?_; rintro e w2 ⟨A2, c2, rfl, ho2, hb2⟩; have hB2 := hu.trans (hb2.mono hsz))
      | (go_at_call 14; refine (H2.out _ hB2).mono ?_; rintro e w3 ⟨A3, c3, rfl, ho3, hb3⟩; have hB3 := hB2.trans (hb3.mono hB2.size); have hs2 := byt_string (P := Try.prog) 22 5 Try.underlying22 Try.underlying5 ((ho2.byt (Nat.le_refl _)).below hb3) 9 Try.underlying9; have hs3 := byt_string (P := Try.prog) 22 5 Try.underlying22 Try.underlying5 (ho3.byt (Nat.le_refl _)) 9 Try.underlying9)
      | (go_at_call 12; refine (law20_works _).mono ?_; rintro e w4 ⟨rfl, hb4⟩))
    go_ret
    exact ⟨rfl, hB3.trans (hb4.mono hB3.size)⟩
  · have hff : (decide (n ≤ 1000) && (decide (n' ≤ 1000) && decide (n'' ≤ 1000))) = false := by
      by_cases h1 : n ≤ 1000 <;> by_cases h2 : n' ≤ 1000 <;> by_cases h3 : n'' ≤ 1000 <;> simp [h1, h2, h3]
      exact absurd ⟨h1, h2, h3⟩ hb
    clear hk hv hd hb
    go_enter Try.func3, Try.ntmps3
    go_wp2_with (first
      | (go_at_call 11; refine HF.out.mono ?_; rintro e w1 ⟨rfl, rfl⟩; rw [hff])
      | (go_at_call 12; refine (law20_works _).mono ?_; rintro e w4 ⟨rfl, hb4⟩))
    go_ret
    exact ⟨rfl, hu.trans (hb4.mono hsz)⟩

set_option maxHeartbeats 2000000 in
theorem law_ModeDecrypts (A A' A'' : Option Addr) (n c n' c' n'' c'' : Nat) (key iv d : List UInt8) (w : World) (hk : Byt w w.heap.size A n c key) (hv : Byt w w.heap.size A' n' c' iv) (hd : Byt w w.heap.size A'' n'' c'' d) :
    Calls Try.prog 7 #[.slice A n c, .slice A' n' c', .slice A'' n'' c''] w fun e w' => e = .returned (.bool true) ∧ Below w.heap.size w w' := by
  have hF := few_three A A' A'' n c n' c' n'' c'' key iv d w hk hv hd
  have HF := Lib.hid hF
  have hu := (Below.refl w.heap.size w).alloc (Nat.le_refl _) (.cells #[.slice A n c, .slice A' n' c', .slice A'' n'' c''] 22)
  have hsz : w.heap.size ≤ (w.alloc (.cells #[.slice A n c, .slice A' n' c', .slice A'' n'' c''] 22)).heap.size := hu.size
  clear hF
  by_cases hb : n ≤ 1000 ∧ n' ≤ 1000 ∧ n'' ≤ 1000
  · have hff : (decide (n ≤ 1000) && (decide (n' ≤ 1000) && decide (n'' ≤ 1000))) = true := by simp [hb.1, hb.2.1, hb.2.2]
    have hfin : ∀ (u : World), Below w.heap.size w u → Calls Try.prog 19 #[.slice A n c, .slice A' n' c', .slice A'' n'' c''] u (BRes 5 u (Mod.cbB key iv d true) (Mod.cbE key iv d)) := fun u hbu =>
      mode_DecryptCBC A A' A'' n n' n'' c c' c'' key iv d u ((hk.below hbu).more hbu.size) ((hv.below hbu).more hbu.size) ((hd.below hbu).more hbu.size) (by omega)
    have hfir : ∀ (u : World), Below w.heap.size w u → Calls Try.prog 20 #[.slice A n c, .slice A' n' c', .slice A'' n'' c''] u (BRes 5 u (Mod.cbB key iv d true) (Mod.cbE key iv d)) := fun u hbu =>
      ref20_DecryptCBC A A' A'' n n' n'' c c' c'' key iv d u ((hk.below hbu).more hbu.size) ((hv.below hbu).more hbu.size) ((hd.below hbu).more hbu.size) (by omega)
    have H1 := Lib.hid hfin
    have H2 := Lib.hid hfir
    clear hfin hfir hk hv hd
    generalize Mod.cbB key iv d true = bs at *
    generalize Mod.cbE key iv d = er at *
    go_enter Try.func7, Try.ntmps7
    go_wp2_with (first
      | (go_at_call 11; refine HF.out.mono ?_; rintro e w1 ⟨rfl, rfl⟩; rw [hff])
      | (go_at_call 19; refine (H1.out _ hu).mono ?_; rintro e w2 ⟨A2, c2, rfl, ho2, hb2⟩; have hB2 := hu.trans (hb2.mono hsz))
      | (go_at_call 20; refine (H2.out _ hB2).mono ?_; rintro e w3 ⟨A3, c3, rfl, ho3, hb3⟩; have hB3 := hB2.trans (hb3.mono hB2.size); have hs2 := byt_string (P := Try.prog) 22 5 Try.underlying22 Try.underlying5 ((ho2.byt (Nat.le_refl _)).below hb3) 9 Try.underlying9; have hs3 := byt_string (P := Try.prog) 22 5 Try.underlying22 Try.underlying5 (ho3.byt (Nat.le_refl _)) 9 Try.underlying9)
      | (go_at_call 12; refine (law20_works _).mono ?_; rintro e w4 ⟨rfl, hb4⟩))
    go_ret
    exact ⟨rfl, hB3.trans (hb4.mono hB3.size)⟩
  · have hff : (decide (n ≤ 1000) && (decide (n' ≤ 1000) && decide (n'' ≤ 1000))) = false := by
      by_cases h1 : n ≤ 1000 <;> by_cases h2 : n' ≤ 1000 <;> by_cases h3 : n'' ≤ 1000 <;> simp [h1, h2, h3]
      exact absurd ⟨h1, h2, h3⟩ hb
    clear hk hv hd hb
    go_enter Try.func7, Try.ntmps7
    go_wp2_with (first
      | (go_at_call 11; refine HF.out.mono ?_; rintro e w1 ⟨rfl, rfl⟩; rw [hff])
      | (go_at_call 12; refine (law20_works _).mono ?_; rintro e w4 ⟨rfl, hb4⟩))
    go_ret
    exact ⟨rfl, hu.trans (hb4.mono hsz)⟩

set_option maxHeartbeats 2000000 in
theorem law_ModeMacs (A A' A'' : Option Addr) (n c n' c' n'' c'' : Nat) (key iv d : List UInt8) (w : World) (hk : Byt w w.heap.size A n c key) (hv : Byt w w.heap.size A' n' c' iv) (hd : Byt w w.heap.size A'' n'' c'' d) :
    Calls Try.prog 4 #[.slice A n c, .slice A' n' c', .slice A'' n'' c''] w fun e w' => e = .returned (.bool true) ∧ Below w.heap.size w w' := by
  have hF := few_three A A' A'' n c n' c' n'' c'' key iv d w hk hv hd
  have HF := Lib.hid hF
  have hu := (Below.refl w.heap.size w).alloc (Nat.le_refl _) (.cells #[.slice A n c, .slice A' n' c', .slice A'' n'' c''] 22)
  have hsz : w.heap.size ≤ (w.alloc (.cells #[.slice A n c, .slice A' n' c', .slice A'' n'' c''] 22)).heap.size := hu.size
  clear hF
  by_cases hb : n ≤ 1000 ∧ n' ≤ 1000 ∧ n'' ≤ 1000
  · have hff : (decide (n ≤ 1000) && (decide (n' ≤ 1000) && decide (n'' ≤ 1000))) = true := by simp [hb.1, hb.2.1, hb.2.2]
    have hfin : ∀ (u : World), Below w.heap.size w u → Calls Try.prog 15 #[.slice A n c, .slice A' n' c', .slice A'' n'' c''] u (BRes 5 u (Mod.mcB key iv d) (Mod.mcE key iv)) := fun u hbu =>
      mode_MAC A A' A'' n n' n'' c c' c'' key iv d u ((hk.below hbu).more hbu.size) ((hv.below hbu).more hbu.size) ((hd.below hbu).more hbu.size) (by omega)
    have hfir : ∀ (u : World), Below w.heap.size w u → Calls Try.prog 16 #[.slice A n c, .slice A' n' c', .slice A'' n'' c''] u (BByt u (Mod.mcB key iv d) (Mod.mcE key iv)) := fun u hbu =>
      ref20_MAC A A' A'' n n' n'' c c' c'' key iv d u ((hk.below hbu).more hbu.size) ((hv.below hbu).more hbu.size) ((hd.below hbu).more hbu.size) (by omega)
    have H1 := Lib.hid hfin
    have H2 := Lib.hid hfir
    clear hfin hfir hk hv hd
    generalize Mod.mcB key iv d = bs at *
    generalize Mod.mcE key iv = er at *
    go_enter Try.func4, Try.ntmps4
    go_wp2_with (first
      | (go_at_call 11; refine HF.out.mono ?_; rintro e w1 ⟨rfl, rfl⟩; rw [hff])
      | (go_at_call 15; refine (H1.out _ hu).mono ?_; rintro e w2 ⟨A2, c2, rfl, ho2, hb2⟩; have hB2 := hu.trans (hb2.mono hsz))
      | (go_at_call 16; refine (H2.out _ hB2).mono ?_; rintro e w3 ⟨A3, c3, rfl, ho3, hb3⟩; have hB3 := hB2.trans (hb3.mono hB2.size); have hs2 := byt_string (P := Try.prog) 22 5 Try.underlying22 Try.underlying5 ((ho2.byt (Nat.le_refl _)).below hb3) 9 Try.underlying9; have hs3 := byt_string (P := Try.prog) 22 5 Try.underlying22 Try.underlying5 (ho3) 9 Try.underlying9)
      | (go_at_call 12; refine (law20_works _).mono ?_; rintro e w4 ⟨rfl, hb4⟩))
    go_ret
    exact ⟨rfl, hB3.trans (hb4.mono hB3.size)⟩
  · have hff : (decide (n ≤ 1000) && (decide (n' ≤ 1000) && decide (n'' ≤ 1000))) = false := by
      by_cases h1 : n ≤ 1000 <;> by_cases h2 : n' ≤ 1000 <;> by_cases h3 : n'' ≤ 1000 <;> simp [h1, h2, h3]
      exact absurd ⟨h1, h2, h3⟩ hb
    clear hk hv hd hb
    go_enter Try.func4, Try.ntmps4
    go_wp2_with (first
      | (go_at_call 11; refine HF.out.mono ?_; rintro e w1 ⟨rfl, rfl⟩; rw [hff])
      | (go_at_call 12; refine (law20_works _).mono ?_; rintro e w4 ⟨rfl, hb4⟩))
    go_ret
    exact ⟨rfl, hu.trans (hb4.mono hsz)⟩
end Go.Proofs.Ytbmblalbnegglaa
