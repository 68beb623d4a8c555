/-
  The walks of the reference of the modes: the MAC, the derived key, the check value.
-/
import Derived.Test.YtbmblalbnegglaaModS
namespace Go.Proofs.Ytbmblalbnegglaa
open Go.RowKit

/-- What a call leaves that hands back bytes, wherever they lie, and an error. -/
def BByt (w : World) (bs : List UInt8) (er : Int) (e : Ending) (w' : World) : Prop :=
  ∃ A c, e = .returned (.tuple #[.slice A bs.length c, .int .i64 er]) ∧ Byt w' w'.heap.size A bs.length c bs ∧ Below w.heap.size w w'
theorem BByt.nil {w w' : World} {er : Int} (h : Below w.heap.size w w') : BByt w [] er (.returned (.tuple #[.slice none 0 0, .int .i64 er])) w' := ⟨none, 0, rfl, Byt.empty, h⟩
theorem BByt.mk {w w' : World} {A : Option Addr} {n c : Nat} {bs : List UInt8} {er : Int} (hn : bs.length = n) (h : Byt w' w'.heap.size A n c bs) (hb : Below w.heap.size w w') : BByt w bs er (.returned (.tuple #[.slice A n c, .int .i64 er])) w' := by
  subst hn; exact ⟨A, c, rfl, h, hb⟩

theorem ref_pad8 {A : Option Addr} {n c : Nat} {bs : List UInt8} {w : World} (h : Byt w w.heap.size A n c bs) (hn : n ≤ 1000000000) :
    Calls Try.prog 25 #[.slice A n c, .int .i64 8] w (BRes 5 w (Oct.pad bs 8) 0) := by
  have hp := pad_yes bs 8 (by omega) (by omega)
  have := ref01_Pad A n c bs ((8 : Nat) : Int) w h hn
  rw [hp.1, hp.2] at this
  exact this
theorem ref_put8 (m : Nat) (w : World) (hm : m ≤ 1000000) :
    Calls Try.prog 37 #[.int .i64 (m : Int), .int .i64 8] w fun e w' => ∃ A c, e = .returned (.tuple #[.slice A 8 c, .int .i64 0]) ∧ Own w' w.heap.size 5 1 A 8 c (bcells (Oct.putB m 8)) ∧ Below w.heap.size w w' := by
  have h8 := pt_ok m 8 (by omega) (by omega) (Nat.lt_of_le_of_lt hm (by decide))
  refine (ref01_Put (m : Int) ((8 : Nat) : Int) w (by omega)).mono ?_
  rintro e w' ⟨A, c, rfl, ho, hb⟩
  rw [h8.1, h8.2, Oct.putB_length] at *
  exact ⟨A, c, rfl, ho, hb⟩

set_option maxHeartbeats 1000000 in
theorem ref20_MAC (A A' A'' : Option Addr) (n n' n'' c c' c'' : Nat) (key iv d : List UInt8) (w : World) (hk : Byt w w.heap.size A n c key) (hv : Byt w w.heap.size A' n' c' iv) (hd : Byt w w.heap.size A'' n'' c'' d) (hn : n'' ≤ 100000) :
    Calls Try.prog 16 #[.slice A n c, .slice A' n' c', .slice A'' n'' c''] w (BByt w (Mod.mcB key iv d) (Mod.mcE key iv)) := by
  obtain ⟨e1, e2⟩ := Mod.mc_cb key iv d
  have hpl := Oct.pad_length d 8
  have hpn := Oct.padN_lt d.length 8 (by omega)
  have hP : Calls Try.prog 25 #[.slice A'' n'' c'', .int .i64 8] w (BRes 5 w (Oct.pad d 8) 0) := ref_pad8 hd (by omega)
  have HP := Lib.hid hP
  have hE : ∀ (u : World) (A2 : Option Addr) (c2 : Nat), Below w.heap.size w u → Byt u u.heap.size A2 (Oct.pad d 8).length c2 (Oct.pad d 8) →
      Calls Try.prog 14 #[.slice A n c, .slice A' n' c', .slice A2 (Oct.pad d 8).length c2] u (BRes 5 u (Mod.cbB key iv (Oct.pad d 8) false) (Mod.mcE key iv)) := fun u A2 c2 hb h2 => by
    rw [← e1]
    exact ref20_EncryptCBC A A' A2 n n' _ c c' c2 key iv _ u ((hk.below hb).more hb.size) ((hv.below hb).more hb.size) h2 (by rw [hpl]; have := hd.1; omega)
  have hd1 := hd.1
  clear hP hk hv hd e1
  by_cases hok : key.length = 16 ∧ iv.length = 8
  · have hm0 : Mod.mcE key iv = 0 := by unfold Mod.mcE; rw [if_pos hok]
    obtain ⟨e3, e4, e5⟩ := e2 hm0
    have hml := Mod.mcB_length key iv d hok
    obtain ⟨q, hq⟩ : ∃ q, (Oct.pad d 8).length = q + 8 := ⟨(Oct.pad d 8).length - 8, by omega⟩
    have hbl : (Mod.cbB key iv (Oct.pad d 8) false).length = q + 8 := by rw [e4, hq]
    rw [hq, Nat.add_sub_cancel] at e3
    rw [hm0] at hE ⊢
    generalize Mod.cbB key iv (Oct.pad d 8) false = bb at *
    generalize Mod.mcB key iv d = mb at *
    have hE' : ∀ (u : World) (A2 : Option Addr) (c2 : Nat), Below w.heap.size w u → Byt u u.heap.size A2 (Oct.pad d 8).length c2 (Oct.pad d 8) →
      Calls Try.prog 14 #[.slice A n c, .slice A' n' c', .slice A2 (Oct.pad d 8).length c2] u fun e u' => ∃ b o c3, e = .returned (.tuple #[.slice (some ⟨b, o, none⟩) (q + 8) c3, .int .i64 0]) ∧ Byt u' u'.heap.size (some ⟨b, o, none⟩) (q + 8) c3 bb ∧ Below u.heap.size u u' := fun u A2 c2 hb h2 => by
      refine (hE u A2 c2 hb h2).mono ?_
      rintro e u' ⟨A3, c3, rfl, ho, hb3⟩
      have hby := ho.byt (Nat.le_refl _)
      rw [hbl] at hby ⊢
      obtain ⟨b, o, rfl, _⟩ := hby.at_ (by omega)
      exact ⟨b, o, c3, rfl, hby, hb3⟩
    have HE := Lib.hid hE'
    have hq2 : q + 8 ≤ 1000000 := by omega
    have E3 := Lib.hid e3
    have HML := Lib.hid hml
    clear hE hE' e2 e4 e5 hm0 e3 hml hbl hq hpl hpn hd1
    generalize Oct.pad d 8 = pd at *
    go_enter Try.func16, Try.ntmps16
    go_wp2_with (first
      | (go_at_call 25; refine HP.out.mono ?_; rintro e w1 ⟨A2, c2, rfl, ho2, hb2⟩)
      | (go_at_call 14; refine (HE.out _ A2 c2 hb2 (ho2.byt (Nat.le_refl _))).mono ?_; rintro e w2 ⟨b, o, c3, rfl, hy, hb3⟩; have hcc := hy.2.1; have q1 : ¬ c3 = q := by omega))
    have hy8 : Byt w2 w2.heap.size (some ⟨b, o + q, none⟩) 8 (c3 - q) mb := by
      have h1 := hy.drop q (by omega)
      rw [Nat.add_sub_cancel_left, ← E3.out] at h1
      exact h1
    go_ret2
    exact BByt.mk HML.out hy8 (hb2.trans (hb3.mono hb2.size))
  · have hm0 : Mod.mcE key iv = 1 := by unfold Mod.mcE; rw [if_neg hok]
    have hm1 : Mod.mcB key iv d = [] := by unfold Mod.mcB; rw [if_neg hok]
    rw [hm0] at hE ⊢
    rw [hm1]
    have HE := Lib.hid hE
    clear hE e2 hm0 hm1 hpl hpn hd1
    generalize Oct.pad d 8 = pd at *
    go_enter Try.func16, Try.ntmps16
    go_wp2_with (first
      | (go_at_call 25; refine HP.out.mono ?_; rintro e w1 ⟨A2, c2, rfl, ho2, hb2⟩)
      | (go_at_call 14; refine (HE.out _ A2 c2 hb2 (ho2.byt (Nat.le_refl _))).mono ?_; rintro e w2 ⟨A3, c3, rfl, ho3, hb3⟩))
    go_ret2
    exact BByt.nil (hb2.trans (hb3.mono hb2.size))

set_option maxHeartbeats 1000000 in
theorem ref20_behind (x : UInt8) (A : Option Addr) (n c : Nat) (l : List UInt8) (w : World) (h : Byt w w.heap.size A n c l) (hn : n ≤ 1000000) :
    Calls Try.prog 42 #[.int .u8 (x.toNat : Int), .slice A n c] w fun e w' => ∃ A2 c2, e = .returned (.slice A2 (n + 1) c2) ∧ Byt w' w'.heap.size A2 (n + 1) c2 (x :: l) ∧ Below w.heap.size w w' := by
  obtain ⟨ti, hti, hz0, hz1, hz2⟩ := info_parts o_u8
  have H := Lib.hid h
  clear h
  go_enter Try.func42, Try.ntmps42
  have hB := Lib.hid ((Below.refl w.heap.size w).alloc (Nat.le_refl _) (.cells #[B8 x] 5))
  have hO : Own (w.alloc (.cells #[B8 x] 5)) w.heap.size 5 1 (some ⟨w.heap.size, 0, none⟩) 1 1 (bcells [x]) :=
    Own.blk (s := 1) (n := 1) (c := 1) (Blk.new w 5 #[B8 x]) (Nat.le_refl _) (Nat.le_refl _) (by decide) (by simp) (by simp)
  have HO := Lib.hid hO
  clear hO
  go_wp2_with (at_builtin; refine wpList_append _ rfl (.tmp 6) (.tmp 7) 22 rfl w.heap.size 5 ti _ 1 1 Try.underlying22 hti hz0 hz1 hz2 rfl (by omega) (some ⟨w.heap.size, 0, none⟩) 1 1 (bcells [x]) rfl HO.out w.heap.size A n c (bcells l) rfl (H.out.2.2.below hB.out) (by rw [length_bcells, H.out.1]; omega) (bcells_one _) (by unfold maxLen; omega) (by omega) (by simp) ?_; intro A5 c5 w5 hown5 hg5 hat5)
  go_ret
  rw [Nat.add_comm 1 n] at hown5
  exact ⟨A5, c5, by rw [Nat.add_comm 1 n]; rfl, (show Own w5 w.heap.size 5 1 A5 (n + 1) c5 (bcells (x :: l)) from hown5).byt (Nat.le_refl _), HO.out.grown hg5 hB.out (by simp)⟩
end Go.Proofs.Ytbmblalbnegglaa
