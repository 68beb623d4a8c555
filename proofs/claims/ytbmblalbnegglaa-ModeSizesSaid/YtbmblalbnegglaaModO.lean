/-
  The statements of the modes, walked: the derived keys, the hash value.
-/
import Derived.Test.YtbmblalbnegglaaModL
namespace Go.Proofs.Ytbmblalbnegglaa
open Go.RowKit

theorem few_two (A A' : Option Addr) (n c n' c' : Nat) (key iv : List UInt8) (w : World) (hk : Byt w w.heap.size A n c key) (hv : Byt w w.heap.size A' n' c' iv) :
    Calls Try.prog 11 #[.slice (some ⟨w.heap.size, 0, none⟩) 2 2] (w.alloc (.cells #[.slice A n c, .slice A' n' c'] 22)) fun e w' =>
      e = .returned (.bool (decide (n ≤ 1000) && decide (n' ≤ 1000))) ∧ w.alloc (.cells #[.slice A n c, .slice A' n' c'] 22) = w' := by
  have hu := (Below.refl w.heap.size w).alloc (Nat.le_refl _) (.cells #[.slice A n c, .slice A' n' c'] 22)
  have hby : Byts (w.alloc (.cells #[.slice A n c, .slice A' n' c'] 22)) (w.alloc (.cells #[.slice A n c, .slice A' n' c'] 22)).heap.size (some ⟨w.heap.size, 0, none⟩) [⟨A, n, c, key⟩, ⟨A', n', c', iv⟩] := by
    refine ⟨(Blk.new w 22 _).row, fun v hm => ?_⟩
    rcases List.mem_cons.1 hm with rfl | hm
    · exact (hk.below hu).more hu.size
    · obtain rfl := List.mem_singleton.1 hm
      exact (hv.below hu).more hu.size
  refine (law20_few _ 2 2 _ _ hby rfl (by omega)).mono ?_
  rintro e w' ⟨rfl, h⟩
  exact ⟨by simp [fewB], h⟩
theorem few_one (A : Option Addr) (n c : Nat) (key : List UInt8) (w : World) (hk : Byt w w.heap.size A n c key) :
    Calls Try.prog 11 #[.slice (some ⟨w.heap.size, 0, none⟩) 1 1] (w.alloc (.cells #[.slice A n c] 22)) fun e w' =>
      e = .returned (.bool (decide (n ≤ 1000))) ∧ w.alloc (.cells #[.slice A n c] 22) = w' := by
  have hu := (Below.refl w.heap.size w).alloc (Nat.le_refl _) (.cells #[.slice A n c] 22)
  have hby : Byts (w.alloc (.cells #[.slice A n c] 22)) (w.alloc (.cells #[.slice A n c] 22)).heap.size (some ⟨w.heap.size, 0, none⟩) [⟨A, n, c, key⟩] := by
    refine ⟨(Blk.new w 22 _).row, fun v hm => ?_⟩
    obtain rfl := List.mem_singleton.1 hm
    exact (hk.below hu).more hu.size
  refine (law20_few _ 1 1 _ _ hby rfl (by omega)).mono ?_
  rintro e w' ⟨rfl, h⟩
  exact ⟨by simp [fewB], h⟩

set_option maxHeartbeats 2000000 in
theorem law_ModeDerives (A A' : Option Addr) (n c n' c' : Nat) (key iv : List UInt8) (w : World) (hk : Byt w w.heap.size A n c key) (hv : Byt w w.heap.size A' n' c' iv) :
    Calls Try.prog 9 #[.slice A n c, .slice A' n' c'] w fun e w' => e = .returned (.bool true) ∧ Below w.heap.size w w' := by
  have HF := Lib.hid (few_two A A' n c n' c' key iv w hk hv)
  have hu := (Below.refl w.heap.size w).alloc (Nat.le_refl _) (.cells #[.slice A n c, .slice A' n' c'] 22)
  have hsz : w.heap.size ≤ (w.alloc (.cells #[.slice A n c, .slice A' n' c'] 22)).heap.size := hu.size
  by_cases hb : n ≤ 1000 ∧ n' ≤ 1000
  · have hff : (decide (n ≤ 1000) && decide (n' ≤ 1000)) = true := by simp [hb.1, hb.2]
    have hfin : ∀ (u : World), Below w.heap.size w u → Calls Try.prog 21 #[.slice A n c, .slice A' n' c'] u (BRes 5 u (Mod.drB key iv) (Mod.drE key)) := fun u hbu =>
      mode_Derive A A' n n' c c' key iv u ((hk.below hbu).more hbu.size) ((hv.below hbu).more hbu.size) (by omega)
    have hfir : ∀ (u : World), Below w.heap.size w u → Calls Try.prog 22 #[.slice A n c, .slice A' n' c'] u (BRes 5 u (Mod.drB key iv) (Mod.drE key)) := fun u hbu =>
      ref20_Derive A A' n n' c c' key iv u ((hk.below hbu).more hbu.size) ((hv.below hbu).more hbu.size) (by omega)
    have hfik : ∀ (u : World), Below w.heap.size w u → Calls Try.prog 23 #[.slice A n c] u (BRes 5 u (Mod.ckB key) (Mod.drE key)) := fun u hbu =>
      mode_Check A n c key u ((hk.below hbu).more hbu.size)
    have hfic : ∀ (u : World), Below w.heap.size w u → Calls Try.prog 24 #[.slice A n c] u (BByt u (Mod.ckB key) (Mod.drE key)) := fun u hbu =>
      ref20_Check A n c key u ((hk.below hbu).more hbu.size)
    have H1 := Lib.hid hfin
    have H2 := Lib.hid hfir
    have H3 := Lib.hid hfik
    have H4 := Lib.hid hfic
    clear hfin hfir hfik hfic hk hv
    generalize Mod.drB key iv = bs at *
    generalize Mod.ckB key = cs at *
    generalize Mod.drE key = er at *
    go_enter Try.func9, Try.ntmps9
    go_wp2_with (first
      | (go_at_call 11; refine HF.out.mono ?_; rintro e w1 ⟨rfl, rfl⟩; rw [hff])
      | (go_at_call 21; refine (H1.out _ hu).mono ?_; rintro e w2 ⟨A2, c2, rfl, ho2, hb2⟩; have hB2 := hu.trans (hb2.mono hsz))
      | (go_at_call 22; refine (H2.out _ hB2).mono ?_; rintro e w3 ⟨A3, c3, rfl, ho3, hb3⟩; have hB3 := hB2.trans (hb3.mono hB2.size))
      | (go_at_call 23; refine (H3.out _ hB3).mono ?_; rintro e w5 ⟨A5, c5, rfl, ho5, hb5⟩; have hB5 := hB3.trans (hb5.mono hB3.size))
      | (go_at_call 24; refine (H4.out _ hB5).mono ?_; rintro e w6 ⟨A6, c6, rfl, ho6, hb6⟩; have hB6 := hB5.trans (hb6.mono hB5.size); have hs2 := byt_string (P := Try.prog) 22 5 Try.underlying22 Try.underlying5 ((((ho2.below hb3).below (hb5.mono (Nat.le_refl _))).below (hb6.mono (Nat.le_refl _))).byt (Nat.le_refl _)) 9 Try.underlying9; have hs3 := byt_string (P := Try.prog) 22 5 Try.underlying22 Try.underlying5 (((ho3.below hb5).below hb6).byt (Nat.le_refl _)) 9 Try.underlying9; have hs5 := byt_string (P := Try.prog) 22 5 Try.underlying22 Try.underlying5 ((ho5.below hb6).byt (Nat.le_refl _)) 9 Try.underlying9; have hs6 := byt_string (P := Try.prog) 22 5 Try.underlying22 Try.underlying5 ho6 9 Try.underlying9)
      | (go_at_call 12; refine (law20_works _).mono ?_; rintro e w4 ⟨rfl, hb4⟩))
    go_ret
    exact ⟨rfl, hB6.trans (hb4.mono hB6.size)⟩
  · have hff : (decide (n ≤ 1000) && decide (n' ≤ 1000)) = false := by
      by_cases h1 : n ≤ 1000 <;> by_cases h2 : n' ≤ 1000 <;> simp [h1, h2]
      exact absurd ⟨h1, h2⟩ hb
    clear hk hv hb
    go_enter Try.func9, Try.ntmps9
    go_wp2_with (first
      | (go_at_call 11; refine HF.out.mono ?_; rintro e w1 ⟨rfl, rfl⟩; rw [hff])
      | (go_at_call 12; refine (law20_works _).mono ?_; rintro e w4 ⟨rfl, hb4⟩))
    go_ret
    exact ⟨rfl, hu.trans (hb4.mono hsz)⟩

set_option maxHeartbeats 2000000 in
theorem law_ModeHashes (A : Option Addr) (n c : Nat) (d : List UInt8) (w : World) (hd : Byt w w.heap.size A n c d) :
    Calls Try.prog 5 #[.slice A n c] w fun e w' => e = .returned (.bool true) ∧ Below w.heap.size w w' := by
  have HF := Lib.hid (few_one A n c d w hd)
  have hu := (Below.refl w.heap.size w).alloc (Nat.le_refl _) (.cells #[.slice A n c] 22)
  have hsz : w.heap.size ≤ (w.alloc (.cells #[.slice A n c] 22)).heap.size := hu.size
  by_cases hb : n ≤ 1000
  · have hff : decide (n ≤ 1000) = true := decide_eq_true hb
    have hfin : ∀ (u : World), Below w.heap.size w u → Calls Try.prog 17 #[.slice A n c] u (BOne 5 u (Mod.hash d)) := fun u hbu =>
      mode_Hash A n c d u ((hd.below hbu).more hbu.size) (by omega)
    have hfir : ∀ (u : World), Below w.heap.size w u → Calls Try.prog 18 #[.slice A n c] u (BOne 5 u (Mod.hash d)) := fun u hbu =>
      ref20_Hash A n c d u ((hd.below hbu).more hbu.size) (by omega)
    have H1 := Lib.hid hfin
    have H2 := Lib.hid hfir
    clear hfin hfir hd
    generalize Mod.hash d = bs at *
    go_enter Try.func5, Try.ntmps5
    go_wp2_with (first
      | (go_at_call 11; refine HF.out.mono ?_; rintro e w1 ⟨rfl, rfl⟩; rw [hff]))
    have hud : Below w.heap.size w (w.alloc (.cells #[.slice A n c] 22)).drew := hu.drew
    go_region_with (first
      | (go_at_call 17; refine (H1.out _ hud).mono ?_; rintro e w2 ⟨A2, c2, rfl, ho2, hb2⟩; have hB2 := hud.trans (hb2.mono hsz); have hs2 := byt_string (P := Try.prog) 22 5 Try.underlying22 Try.underlying5 (ho2.byt (Nat.le_refl _)) 9 Try.underlying9)
      | (go_at_call 18; refine (H2.out _ hB2).mono ?_; rintro e w3 ⟨A3, c3, rfl, ho3, hb3⟩; have hB3 := hB2.trans (hb3.mono hB2.size); have hs22 := byt_string (P := Try.prog) 22 5 Try.underlying22 Try.underlying5 ((ho2.byt (Nat.le_refl _)).below hb3) 9 Try.underlying9; have hs3 := byt_string (P := Try.prog) 22 5 Try.underlying22 Try.underlying5 (ho3.byt (Nat.le_refl _)) 9 Try.underlying9)
      | (go_at_call 12; refine (law20_works _).mono ?_; rintro e w4 ⟨rfl, hb4⟩))
    all_goals
      go_wp2_with fail
      go_ret
      exact ⟨rfl, hB3.trans (hb4.mono hB3.size)⟩
  · have hff : decide (n ≤ 1000) = false := decide_eq_false hb
    clear hd hb
    go_enter Try.func5, Try.ntmps5
    go_wp2_with (first
      | (go_at_call 11; refine HF.out.mono ?_; rintro e w1 ⟨rfl, rfl⟩; rw [hff])
      | (go_at_call 12; refine (law20_works _).mono ?_; rintro e w4 ⟨rfl, hb4⟩))
    go_ret
    exact ⟨rfl, hu.trans (hb4.mono hsz)⟩
end Go.Proofs.Ytbmblalbnegglaa
