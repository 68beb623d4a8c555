/-
  The walks of the modes: the MAC, the derived key, the check value.
-/
import Derived.Test.YtbmblalbnegglaaModC
namespace Go.Proofs.Ytbmblalbnegglaa
open Go.RowKit

set_option maxHeartbeats 1000000 in
theorem mode_MAC (A A' A'' : Option Addr) (n n' n'' c c' c'' : Nat) (key iv d : List UInt8) (w : World) (hk : Byt w w.heap.size A n c key) (hv : Byt w w.heap.size A' n' c' iv) (hd : Byt w w.heap.size A'' n'' c'' d) (hn : n'' ≤ 100000) :
    Calls Try.prog 15 #[.slice A n c, .slice A' n' c', .slice A'' n'' c''] w (BRes 5 w (Mod.mcB key iv d) (Mod.mcE key iv)) := by
  obtain ⟨e1, e2⟩ := Mod.mc_cb key iv d
  have hpl := Oct.pad_length d 8
  have hpn := Oct.padN_lt d.length 8 (by omega)
  have hP : Calls Try.prog 32 #[.slice A'' n'' c''] w (BOne 5 w (Oct.pad d 8)) := mode_pad A'' n'' c'' d w hd (by omega)
  have HP := Lib.hid hP
  have hE : ∀ (u : World) (A2 : Option Addr) (c2 : Nat), Below w.heap.size w u → Byt u u.heap.size A2 (Oct.pad d 8).length c2 (Oct.pad d 8) →
      Calls Try.prog 13 #[.slice A n c, .slice A' n' c', .slice A2 (Oct.pad d 8).length c2] u (BRes 5 u (Mod.cbB key iv (Oct.pad d 8) false) (Mod.mcE key iv)) := fun u A2 c2 hb h2 => by
    rw [← e1]
    exact mode_EncryptCBC A A' A2 n n' _ c c' c2 key iv _ u ((hk.below hb).more hb.size) ((hv.below hb).more hb.size) h2 (by rw [hpl]; have := hd.1; omega)
  have hd1 := hd.1
  clear hP hk hv hd e1
  by_cases hok : key.length = 16 ∧ iv.length = 8
  · have hm0 : Mod.mcE key iv = 0 := by unfold Mod.mcE; rw [if_pos hok]
    obtain ⟨e3, e4, e5⟩ := e2 hm0
    have hml := Mod.mcB_length key iv d hok
    obtain ⟨q, hq⟩ : ∃ q, (Oct.pad d 8).length = q + 8 := ⟨(Oct.pad d 8).length - 8, by omega⟩
    have hbl : (Mod.cbB key iv (Oct.pad d 8) false).length = q + 8 := by rw [e4, hq]
    rw [hq, Nat.add_sub_cancel] at e3
    rw [hm0] at hE ⊢
    generalize Mod.cbB key iv (Oct.pad d 8) false = bb at *
    generalize Mod.mcB key iv d = mb at *
    have hE' : ∀ (u : World) (A2 : Option Addr) (c2 : Nat), Below w.heap.size w u → Byt u u.heap.size A2 (Oct.pad d 8).length c2 (Oct.pad d 8) →
      Calls Try.prog 13 #[.slice A n c, .slice A' n' c', .slice A2 (Oct.pad d 8).length c2] u fun e u' => ∃ b o c3, e = .returned (.tuple #[.slice (some ⟨b, o, none⟩) (q + 8) c3, .int .i64 0]) ∧ Byt u' u'.heap.size (some ⟨b, o, none⟩) (q + 8) c3 bb ∧ Below u.heap.size u u' := fun u A2 c2 hb h2 => by
      refine (hE u A2 c2 hb h2).mono ?_
      rintro e u' ⟨A3, c3, rfl, ho, hb3⟩
      have hby := ho.byt (Nat.le_refl _)
      rw [hbl] at hby ⊢
      obtain ⟨b, o, rfl, _⟩ := hby.at_ (by omega)
      exact ⟨b, o, c3, rfl, hby, hb3⟩
    have HE := Lib.hid hE'
    have hq2 : q + 8 ≤ 1000000 := by omega
    have E3 := Lib.hid e3
    have HML := Lib.hid hml
    clear hE hE' e2 e4 e5 hm0 e3 hml hbl hq hpl hpn hd1
    generalize Oct.pad d 8 = pd at *
    go_enter Try.func15, Try.ntmps15
    go_wp2_with (go_at_call 32; refine HP.out.mono ?_; rintro e w1 ⟨A2, c2, rfl, ho2, hb2⟩)
    go_wp2_with ((go_at_call 13; refine (HE.out _ A2 c2 hb2 (ho2.byt (Nat.le_refl _))).mono ?_; rintro e w2 ⟨b, o, c3, rfl, hy, hb3⟩; have hcc := hy.2.1; have q1 : ¬ c3 = q := by omega))
    have hy8 : Byt w2 w2.heap.size (some ⟨b, o + q, none⟩) 8 (c3 - q) mb := by
      have h1 := hy.drop q (by omega)
      rw [Nat.add_sub_cancel_left, ← E3.out] at h1
      exact h1
    go_wp2_with (go_at_call 33; refine (slices_Clone _ 8 (c3 - q) mb _ hy8 (by omega)).mono ?_; rintro e w3 ⟨A4, c4, rfl, ho4, hb4⟩)
    go_ret2
    exact BRes.mk HML.out (ho4.mono (by have := hb2.size; have := hb3.size; omega)) (hb2.trans ((hb3.trans (hb4.mono hb3.size)).mono hb2.size))
  · have hm0 : Mod.mcE key iv = 1 := by unfold Mod.mcE; rw [if_neg hok]
    have hm1 : Mod.mcB key iv d = [] := by unfold Mod.mcB; rw [if_neg hok]
    rw [hm0] at hE ⊢
    rw [hm1]
    have HE := Lib.hid hE
    clear hE e2 hm0 hm1 hpl hpn hd1
    generalize Oct.pad d 8 = pd at *
    go_enter Try.func15, Try.ntmps15
    go_wp2_with (first
      | (go_at_call 32; refine HP.out.mono ?_; rintro e w1 ⟨A2, c2, rfl, ho2, hb2⟩)
      | (go_at_call 13; refine (HE.out _ A2 c2 hb2 (ho2.byt (Nat.le_refl _))).mono ?_; rintro e w2 ⟨A3, c3, rfl, ho3, hb3⟩))
    go_ret2
    exact BRes.nil _ (hb2.trans (hb3.mono hb2.size))
end Go.Proofs.Ytbmblalbnegglaa
