/-
  The walks of the reference of the modes: the derived key, the check value, the hash value.
-/
import Derived.Test.YtbmblalbnegglaaModT
namespace Go.Proofs.Ytbmblalbnegglaa
open Go.RowKit

theorem ref20_Check (A : Option Addr) (n c : Nat) (key : List UInt8) (w : World) (hk : Byt w w.heap.size A n c key) :
    Calls Try.prog 24 #[.slice A n c] w (BByt w (Mod.ckB key) (Mod.drE key)) := by
  by_cases h : key.length = 16
  · obtain rfl : n = 16 := by rw [← hk.1, h]
    have e1 : Mod.ckB key = (Cip.crypt key Mod.z8 false).take 3 ∧ Mod.drE key = 0 := by unfold Mod.ckB Mod.drE; rw [if_pos h, if_pos h]; exact ⟨rfl, rfl⟩
    rw [e1.1, e1.2]
    have hr : Cip.res key Mod.z8 false = Cip.crypt key Mod.z8 false := Cip.res_ok _ _ _ h rfl
    have he : Cip.err key Mod.z8 = 0 := Cip.err_ok _ _ h rfl
    have hE : ∀ (u : World) (A2 : Option Addr) (c2 : Nat), Below w.heap.size w u → Byt u u.heap.size A2 8 c2 Mod.z8 →
        Calls Try.prog 26 #[.slice A 16 c, .slice A2 8 c2] u fun e u' => ∃ b o c3, e = .returned (.tuple #[.slice (some ⟨b, o, none⟩) 8 c3, .int .i64 0]) ∧ Byt u' u'.heap.size (some ⟨b, o, none⟩) 8 c3 (Cip.crypt key Mod.z8 false) ∧ Below u.heap.size u u' := fun u A2 c2 hb h2 => by
      refine (ref19_Encrypt A A2 16 8 c c2 key _ u ((hk.below hb).more hb.size) h2).mono ?_
      rintro e u' ⟨A3, c3, rfl, ho, hb3⟩
      have hby := ho.byt (Nat.le_refl _)
      rw [hr, Mod.crypt_length] at hby ⊢
      rw [he]
      obtain ⟨b, o, rfl, _⟩ := hby.at_ (by omega)
      exact ⟨b, o, c3, rfl, hby, hb3⟩
    have HE := Lib.hid hE
    have hl : ((Cip.crypt key Mod.z8 false).take 3).length = 3 := by rw [List.length_take, Mod.crypt_length]; rfl
    have HL := Lib.hid hl
    clear hk e1 hr hE hl h he
    generalize Cip.crypt key Mod.z8 false = y at *
    go_enter Try.func24, Try.ntmps24
    go_wp2_with (first
      | (go_at_call 41; refine (ref20_Z _).mono ?_; rintro e w1 ⟨rfl, hz, hb1⟩)
      | (go_at_call 26; refine (HE.out _ _ 8 hb1 hz).mono ?_; rintro e w2 ⟨b, o, c3, rfl, hy, hb3⟩; have hcc := hy.2.1; have q1 : (3 : Int) ≤ (c3 : Int) := by omega))
    go_ret2
    exact BByt.mk HL.out (hy.take 3 c3 (by omega) (by omega)) (hb1.trans (hb3.mono hb1.size))
  · have e1 : Mod.ckB key = [] ∧ Mod.drE key = 1 := by unfold Mod.ckB Mod.drE; rw [if_neg h, if_neg h]; exact ⟨rfl, rfl⟩
    rw [e1.1, e1.2]
    have hr : Cip.res key Mod.z8 false = [] := Cip.res_key _ _ _ h
    have he : Cip.err key Mod.z8 = 19 := Cip.err_key _ _ h
    have hE : ∀ (u : World) (A2 : Option Addr) (c2 : Nat), Below w.heap.size w u → Byt u u.heap.size A2 8 c2 Mod.z8 →
        Calls Try.prog 26 #[.slice A n c, .slice A2 8 c2] u fun e u' => ∃ A3 c3, e = .returned (.tuple #[.slice A3 0 c3, .int .i64 19]) ∧ Below u.heap.size u u' := fun u A2 c2 hb h2 => by
      refine (ref19_Encrypt A A2 n 8 c c2 key _ u ((hk.below hb).more hb.size) h2).mono ?_
      rintro e u' ⟨A3, c3, rfl, ho, hb3⟩
      rw [hr, he]
      exact ⟨A3, c3, rfl, hb3⟩
    have HE := Lib.hid hE
    clear hk e1 hr hE h he
    go_enter Try.func24, Try.ntmps24
    go_wp2_with (first
      | (go_at_call 41; refine (ref20_Z _).mono ?_; rintro e w1 ⟨rfl, hz, hb1⟩)
      | (go_at_call 26; refine (HE.out _ _ 8 hb1 hz).mono ?_; rintro e w2 ⟨A3, c3, rfl, hb3⟩))
    go_ret2
    exact BByt.nil (hb1.trans (hb3.mono hb1.size))

theorem refderive_ok (A Al : Option Addr) (nl c cl : Nat) (key label : List UInt8) (w : World) (hk : Byt w w.heap.size A 16 c key) (hl : Byt w w.heap.size Al nl cl label) (hn : nl ≤ 10000) :
    Calls Try.prog 22 #[.slice A 16 c, .slice Al nl cl] w (BRes 5 w (Mod.drB key label) 0) := by
  obtain ⟨ti, hti, hz0, hz1, hz2⟩ := info_parts o_u8
  have h16 := hk.1
  have e0 : Mod.mcE key Mod.z8 = 0 := by unfold Mod.mcE; rw [if_pos ⟨h16, rfl⟩]
  have hM : ∀ (u : World) (x : UInt8) (A1 A2 : Option Addr) (c1 c2 : Nat), Below w.heap.size w u → Byt u u.heap.size A1 8 c1 Mod.z8 → Byt u u.heap.size A2 (nl + 1) c2 (x :: label) →
      Calls Try.prog 16 #[.slice A 16 c, .slice A1 8 c1, .slice A2 (nl + 1) c2] u fun e u' => ∃ A3 c3, e = .returned (.tuple #[.slice A3 8 c3, .int .i64 0]) ∧ Byt u' u'.heap.size A3 8 c3 (Mod.mcB key Mod.z8 (x :: label)) ∧ Below u.heap.size u u' := fun u x A1 A2 c1 c2 hb hz h2 => by
    refine (ref20_MAC A A1 A2 16 8 (nl + 1) c c1 c2 key Mod.z8 _ u ((hk.below hb).more hb.size) hz h2 (by omega)).mono ?_
    rintro e u' ⟨A3, c3, rfl, ho, hb3⟩
    rw [e0, Mod.mcB_length _ _ _ ⟨h16, rfl⟩] at *
    exact ⟨A3, c3, rfl, ho, hb3⟩
  have hlen : (Mod.drB key label).length = 16 := by
    unfold Mod.drB; rw [if_pos h16, List.length_append, Mod.mcB_length _ _ _ ⟨h16, rfl⟩, Mod.mcB_length _ _ _ ⟨h16, rfl⟩]
  have hdr : Mod.mcB key Mod.z8 (1 :: label) ++ Mod.mcB key Mod.z8 (2 :: label) = Mod.drB key label := by unfold Mod.drB; rw [if_pos h16]
  have HM := Lib.hid hM
  have HL := Lib.hid hl
  have HLEN := Lib.hid hlen
  have HDR := Lib.hid hdr
  clear hk hl hM e0 h16 hlen hdr
  go_enter Try.func22, Try.ntmps22
  go_wp2_with (first
    | (go_at_call 41; refine (ref20_Z _).mono ?_; rintro e w1 ⟨rfl, hz1', hb1⟩)
    | (go_at_call 42; refine (ref20_behind 1 Al nl cl label _ ((HL.out.below hb1).more hb1.size) (by omega)).mono ?_; rintro e w2 ⟨A2, c2, rfl, hy2, hb2⟩; have hB2 := hb1.trans (hb2.mono hb1.size))
    | (go_at_call 16; refine (HM.out _ 1 _ A2 8 c2 hB2 ((hz1'.below hb2).more hb2.size) hy2).mono ?_; rintro e w3 ⟨A3, c3, rfl, hy3, hb3⟩; have hB3 := hB2.trans (hb3.mono hB2.size)))
  have hB4 := hB3.trans (hb1.mono hB3.size)
  go_wp2_with (first
    | (go_at_call 42; refine (ref20_behind 2 Al nl cl label _ ((HL.out.below hB4).more hB4.size) (by omega)).mono ?_; rintro e w5 ⟨A5, c5, rfl, hy5, hb5⟩; have hB5 := hB4.trans (hb5.mono hB4.size))
    | (go_at_call 16; refine (HM.out _ 2 _ A5 8 c5 hB5 ((hz1'.below hb5).more hb5.size) hy5).mono ?_; rintro e w6 ⟨A6, c6, rfl, hy6, hb6⟩; have hB6 := hB5.trans (hb6.mono hB5.size); have hy3' := ((hy3.below hb1).below (hb5.mono hb1.size)).below (hb6.mono (Nat.le_trans hb1.size hb5.size)))
    | (at_builtin; refine wpList_append _ rfl (.tmp 30) (.tmp 31) 22 rfl w6.heap.size 5 ti _ 1 1 Try.underlying22 hti hz0 hz1 hz2 rfl (by omega) none 0 0 (bcells []) rfl (Own.none_ _ _ _ _ _) w3.heap.size A3 8 c3 (bcells (Mod.mcB key Mod.z8 (1 :: label))) rfl hy3'.2.2 (by rw [length_bcells, hy3'.1]) (bcells_one _) (by unfold maxLen; omega) (by omega) (by omega) ?_; intro A7 c7 w7 hown7 hg7 hat7; have hb7 := (Own.none_ w6 w6.heap.size 5 1 none).grown hg7 (Below.refl _ _) (Nat.le_refl _); replace hown7 : Own w7 w6.heap.size 5 1 A7 8 c7 (bcells (Mod.mcB key Mod.z8 (1 :: label))) := hown7)
    | (at_builtin; refine wpList_append _ rfl (.tmp 33) (.tmp 34) 22 rfl w6.heap.size 5 ti _ 1 1 Try.underlying22 hti hz0 hz1 hz2 rfl (by omega) A7 8 c7 (bcells (Mod.mcB key Mod.z8 (1 :: label))) rfl hown7 w6.heap.size A6 8 c6 (bcells (Mod.mcB key Mod.z8 (2 :: label))) rfl (hy6.below hb7).2.2 (by rw [length_bcells, hy6.1]) (bcells_one _) (by unfold maxLen; omega) (by omega) (by have := hb7.size; omega) ?_; intro A8 c8 w8 hown8 hg8 hat8))
  go_ret2
  rw [← bcells_append, HDR.out] at hown8
  exact BRes.mk HLEN.out (hown8.mono hB6.size) (hB6.trans ((hown7.grown hg8 hb7 (by have := hb7.size; omega)).mono hB6.size))

theorem refderive_bad (A Al : Option Addr) (n nl c cl : Nat) (key label : List UInt8) (w : World) (h16 : ¬ key.length = 16) (hk : Byt w w.heap.size A n c key) (hl : Byt w w.heap.size Al nl cl label) (hn : nl ≤ 10000) :
    Calls Try.prog 22 #[.slice A n c, .slice Al nl cl] w (BRes 5 w [] 1) := by
  have e0 : Mod.mcE key Mod.z8 = 1 := by unfold Mod.mcE; rw [if_neg (fun h => h16 h.1)]
  have hM : ∀ (u : World) (x : UInt8) (A1 A2 : Option Addr) (c1 c2 : Nat), Below w.heap.size w u → Byt u u.heap.size A1 8 c1 Mod.z8 → Byt u u.heap.size A2 (nl + 1) c2 (x :: label) →
      Calls Try.prog 16 #[.slice A n c, .slice A1 8 c1, .slice A2 (nl + 1) c2] u fun e u' => ∃ A3 n3 c3, e = .returned (.tuple #[.slice A3 n3 c3, .int .i64 1]) ∧ Below u.heap.size u u' := fun u x A1 A2 c1 c2 hb hz h2 => by
    refine (ref20_MAC A A1 A2 n 8 (nl + 1) c c1 c2 key Mod.z8 _ u ((hk.below hb).more hb.size) hz h2 (by omega)).mono ?_
    rintro e u' ⟨A3, c3, rfl, ho, hb3⟩
    rw [e0] at *
    exact ⟨A3, _, c3, rfl, hb3⟩
  have HM := Lib.hid hM
  have HL := Lib.hid hl
  clear hk hl hM e0 h16
  go_enter Try.func22, Try.ntmps22
  go_wp2_with (first
    | (go_at_call 41; refine (ref20_Z _).mono ?_; rintro e w1 ⟨rfl, hz1', hb1⟩)
    | (go_at_call 42; refine (ref20_behind 1 Al nl cl label _ ((HL.out.below hb1).more hb1.size) (by omega)).mono ?_; rintro e w2 ⟨A2, c2, rfl, hy2, hb2⟩; have hB2 := hb1.trans (hb2.mono hb1.size))
    | (go_at_call 16; refine (HM.out _ 1 _ A2 8 c2 hB2 ((hz1'.below hb2).more hb2.size) hy2).mono ?_; rintro e w3 ⟨A3, n3, c3, rfl, hb3⟩; have hB3 := hB2.trans (hb3.mono hB2.size)))
  go_ret2
  exact BRes.nil _ hB3
theorem ref20_Derive (A Al : Option Addr) (n nl c cl : Nat) (key label : List UInt8) (w : World) (hk : Byt w w.heap.size A n c key) (hl : Byt w w.heap.size Al nl cl label) (hn : nl ≤ 10000) :
    Calls Try.prog 22 #[.slice A n c, .slice Al nl cl] w (BRes 5 w (Mod.drB key label) (Mod.drE key)) := by
  by_cases h : key.length = 16
  · obtain rfl : n = 16 := by rw [← hk.1, h]
    have e : Mod.drE key = 0 := by unfold Mod.drE; rw [if_pos h]
    rw [e]
    exact refderive_ok A Al nl c cl key label w hk hl hn
  · have e : Mod.drE key = 1 ∧ Mod.drB key label = [] := by unfold Mod.drE Mod.drB; rw [if_neg h, if_neg h]; exact ⟨rfl, rfl⟩
    rw [e.1, e.2]
    exact refderive_bad A Al n nl c cl key label w h hk hl hn
end Go.Proofs.Ytbmblalbnegglaa
