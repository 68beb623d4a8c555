/-
  The walks of the modes' statements: what all of them share.
-/
import Derived.Test.YtbmblalbnegglaaModV
namespace Go.Proofs.Ytbmblalbnegglaa
open Go.RowKit

def fewB (vs : List SV) : Bool := vs.all fun v => decide (v.n ≤ 1000)

theorem law20_few (A : Option Addr) (n c : Nat) (vs : List SV) (w : World) (h : Byts w w.heap.size A vs) (hn : vs.length = n) (hm : n ≤ 1000000) :
    Calls Try.prog 11 #[.slice A n c] w fun e w' => e = .returned (.bool (fewB vs)) ∧ w = w' := by
  have HN := Lib.hid hn
  clear hn
  go_enter Try.func11, Try.ntmps11
  go_wp2_with fail
  go_loopg [3] n (fun g i wr => ∃ k : Nat, k + g = n ∧ i = .int .i64 (k : Int) ∧ Hid (∀ j (hj : j < vs.length), j < k → vs[j].n ≤ 1000) ∧ w = wr)
  case atStart => exact ⟨0, by omega, rfl, Lib.hid (fun j _ hj => by omega), rfl⟩
  case round =>
    obtain ⟨k, hk, rfl, hall, rfl⟩ := hrel
    cases gk with
    | zero =>
      obtain rfl : k = n := by omega
      have e : fewB vs = true := by
        unfold fewB
        rw [List.all_eq_true]
        intro v hv
        obtain ⟨j, hj, rfl⟩ := List.getElem_of_mem hv
        exact decide_eq_true (hall.out j hj (by rw [← HN.out]; exact hj))
      have E := Lib.hid e
      clear e
      go_wp2_with fail
      go_ret
      exact ⟨by rw [E.out]; rfl, rfl⟩
    | succ g =>
      have hkl : k < vs.length := by rw [HN.out]; omega
      have hlt : (k : Int) < (n : Int) := by omega
      have p0 : (0 : Int) ≤ (k : Int) := by omega
      obtain ⟨b, o, rfl, hcell, hx⟩ := h.at_ hkl
      by_cases hb : vs[k].n ≤ 1000
      · have t1 : decide ((1000 : Int) < (vs[k].n : Int)) = false := decide_eq_false (by omega)
        have HB := Lib.hid hb
        clear hb
        generalize vs[k].a = Ax at hcell
        generalize vs[k].c = cx at hcell
        go_wp2_with fail
        go_roundg g
        case measure => omega
        case rel =>
          refine ⟨k + 1, by omega, by go_num, Lib.hid (fun j hj hj2 => ?_), rfl⟩
          by_cases e : j = k
          · subst e; exact HB.out
          · exact hall.out j hj (by omega)
      · have t1 : decide ((1000 : Int) < (vs[k].n : Int)) = true := decide_eq_true (by omega)
        have e : fewB vs = false := by
          unfold fewB
          rw [List.all_eq_false]
          exact ⟨vs[k], List.getElem_mem hkl, by simpa using hb⟩
        have E := Lib.hid e
        clear hb e
        generalize vs[k].a = Ax at hcell
        generalize vs[k].c = cx at hcell
        go_wp2_with fail
        go_ret
        exact ⟨by rw [E.out]; rfl, rfl⟩

theorem works_mac : Mod.mcB (zs 16) (zs 8) [1, 2] = Cip.crypt (zs 16) [1, 2, 128, 0, 0, 0, 0, 0] false := by
  have hp : Oct.pad [1, 2] 8 = [1, 2, 128, 0, 0, 0, 0, 0] := by decide
  unfold Mod.mcB
  rw [if_pos ⟨zs_length 16, zs_length 8⟩, hp]
  show (Mod.eSt (zs 16) (zs 8) [1, 2, 128, 0, 0, 0, 0, 0] (0 + 1)).2 = _
  rw [Mod.eSt_succ, Mod.eSt_nil]
  have hx : Oct.xor (Mod.blk [1, 2, 128, 0, 0, 0, 0, 0] 0) (zs 8) = [1, 2, 128, 0, 0, 0, 0, 0] := by decide
  show Cip.crypt (zs 16) (Oct.xor (Mod.blk [1, 2, 128, 0, 0, 0, 0, 0] 0) (zs 8)) false = _
  rw [hx]
theorem works_enc : Mod.cbB (zs 16) (zs 8) [] false = [] ∧ Mod.cbE (zs 16) (zs 8) [] = 0 := by
  have := Mod.cb_ok (zs 16) (zs 8) [] false (zs_length 16) (zs_length 8) rfl
  exact ⟨by rw [this.2]; rfl, this.1⟩

set_option maxHeartbeats 2000000 in
theorem law20_works (w : World) : Calls Try.prog 12 #[] w fun e w' => e = .returned (.bool true) ∧ Below w.heap.size w w' := by
  have m16 : ∀ u : World, (Instr.makeSlice 22 (.int .i64 16) (.int .i64 16)).run Try.prog u = .ok (.slice (some ⟨u.heap.size, 0, none⟩) 16 16) (u.alloc (.cells (zc 16) 5)) := fun _ => by kernel_rfl
  have m8 : ∀ u : World, (Instr.makeSlice 22 (.int .i64 8) (.int .i64 8)).run Try.prog u = .ok (.slice (some ⟨u.heap.size, 0, none⟩) 8 8) (u.alloc (.cells (zc 8) 5)) := fun _ => by kernel_rfl
  have hE : ∀ (u : World) (A1 A2 : Option Addr) (c1 c2 : Nat), Byt u u.heap.size A1 16 c1 (zs 16) → Byt u u.heap.size A2 8 c2 (zs 8) →
      Calls Try.prog 13 #[.slice A1 16 c1, .slice A2 8 c2, .slice none 0 0] u fun e u' => ∃ A3 c3, e = .returned (.tuple #[.slice A3 0 c3, .int .i64 0]) ∧ Below u.heap.size u u' := fun u A1 A2 c1 c2 h1 h2 => by
    refine (mode_EncryptCBC A1 A2 none 16 8 0 c1 c2 0 (zs 16) (zs 8) [] u h1 h2 Byt.empty (by omega)).mono ?_
    rintro e u' ⟨A3, c3, rfl, ho, hb⟩
    rw [works_enc.1, works_enc.2]
    exact ⟨A3, c3, rfl, hb⟩
  have hM : ∀ (u : World) (A1 A2 A3 : Option Addr) (c1 c2 c3 : Nat), Byt u u.heap.size A1 16 c1 (zs 16) → Byt u u.heap.size A2 8 c2 (zs 8) → Byt u u.heap.size A3 2 c3 [1, 2] →
      Calls Try.prog 15 #[.slice A1 16 c1, .slice A2 8 c2, .slice A3 2 c3] u fun e u' => ∃ A3 c3, e = .returned (.tuple #[.slice A3 8 c3, .int .i64 0]) ∧ Byt u' u'.heap.size A3 8 c3 (Mod.mcB (zs 16) (zs 8) [1, 2]) ∧ Below u.heap.size u u' := fun u A1 A2 A3 c1 c2 c3 h1 h2 h3 => by
    refine (mode_MAC A1 A2 A3 16 8 2 c1 c2 c3 (zs 16) (zs 8) [1, 2] u h1 h2 h3 (by omega)).mono ?_
    rintro e u' ⟨A3, c3, rfl, ho, hb⟩
    have e0 : Mod.mcE (zs 16) (zs 8) = 0 := by unfold Mod.mcE; rw [if_pos ⟨zs_length 16, zs_length 8⟩]
    have hl := Mod.mcB_length (zs 16) (zs 8) [1, 2] ⟨zs_length 16, zs_length 8⟩
    have hby := ho.byt (Nat.le_refl _)
    rw [hl] at hby ⊢
    rw [e0]
    exact ⟨A3, c3, rfl, hby, hb⟩
  have hC : ∀ (u : World) (A1 A2 : Option Addr) (c1 c2 : Nat), Byt u u.heap.size A1 16 c1 (zs 16) → Byt u u.heap.size A2 8 c2 [1, 2, 128, 0, 0, 0, 0, 0] →
      Calls Try.prog 26 #[.slice A1 16 c1, .slice A2 8 c2] u fun e u' => ∃ A3 c3, e = .returned (.tuple #[.slice A3 8 c3, .int .i64 0]) ∧ Byt u' u'.heap.size A3 8 c3 (Mod.mcB (zs 16) (zs 8) [1, 2]) ∧ Below u.heap.size u u' := fun u A1 A2 c1 c2 h1 h2 => by
    have hr := Cip.res_ok (zs 16) [1, 2, 128, 0, 0, 0, 0, 0] false (zs_length 16) rfl
    have he := Cip.err_ok (zs 16) [1, 2, 128, 0, 0, 0, 0, 0] (zs_length 16) rfl
    refine (ref19_Encrypt A1 A2 16 8 c1 c2 _ _ u h1 h2).mono ?_
    rintro e u' ⟨A3, c3, rfl, ho, hb3⟩
    have hby := ho.byt (Nat.le_refl _)
    rw [hr, Mod.crypt_length] at hby ⊢
    rw [works_mac, he]
    exact ⟨A3, c3, rfl, hby, hb3⟩
  have hH : ∀ u : World, Calls Try.prog 17 #[.slice none 0 0] u fun e u' => ∃ A3 c3, e = .returned (.slice A3 16 c3) ∧ Below u.heap.size u u' := fun u => by
    refine (mode_Hash none 0 0 [] u Byt.empty (by omega)).mono ?_
    rintro e u' ⟨A3, c3, rfl, ho, hb⟩
    have hl : (Mod.hash []).length = 16 := Mod.hK_length _ _
    rw [hl]
    exact ⟨A3, c3, rfl, hb⟩
  have HE := Lib.hid hE
  have HM := Lib.hid hM
  have HC := Lib.hid hC
  have HH := Lib.hid hH
  clear hE hM hC hH
  generalize Mod.mcB (zs 16) (zs 8) [1, 2] = mb at *
  go_enter Try.func12, Try.ntmps12
  go_upto_region 1 with fail
  go_cut [1, 2] (fun a b wx => ∃ i j, a = .slice (some ⟨i, 0, none⟩) 16 16 ∧ b = .slice (some ⟨j, 0, none⟩) 8 8 ∧ Byt wx wx.heap.size (some ⟨i, 0, none⟩) 16 16 (zs 16) ∧ Byt wx wx.heap.size (some ⟨j, 0, none⟩) 8 8 (zs 8) ∧ Below w.heap.size w wx)
  case first =>
    go_region
    all_goals
      go_wp2_with fail
      go_meet
      first
        | exact ⟨_, _, rfl, rfl, byt_zc ((Blk.new' _ rfl rfl).alloc _).drew (by simp <;> omega), byt_zc (Blk.new' _ (by simp) rfl).drew (by simp), (((Below.refl _ _).alloc (Nat.le_refl _) _).alloc (by simp) _).drew⟩
        | exact ⟨_, _, rfl, rfl, byt_zc (Blk.new' _ (by simp) rfl).drew (by simp), byt_zc ((Blk.new' _ rfl rfl).alloc _).drew (by simp <;> omega), (((Below.refl _ _).alloc (Nat.le_refl _) _).alloc (by simp) _).drew⟩
  case rest =>
  obtain ⟨i, j, rfl, rfl, hi, hj, hb0⟩ := hcut
  go_wp2_with (first
    | (go_at_call 13; refine (HE.out _ _ _ 16 8 hi hj).mono ?_; rintro e w1 ⟨A1, c1, rfl, hb1⟩; have hB1 := hb0.trans (hb1.mono hb0.size); have hi1 := (hi.below hb1).more hb1.size; have hj1 := (hj.below hb1).more hb1.size)
    | (go_at_call 15; refine (HM.out _ _ _ (some ⟨w1.heap.size, 0, none⟩) 16 8 2 ((hi1.below ((Below.refl _ _).alloc (Nat.le_refl _) _)).more (by simp)) ((hj1.below ((Below.refl _ _).alloc (Nat.le_refl _) _)).more (by simp)) (byt_blk (bs := [1, 2]) (Blk.new' _ rfl rfl) (by simp) rfl)).mono ?_; rintro e w2 ⟨A2, c2, rfl, hy2, hb2⟩; have hB2 := (hB1.alloc hB1.size _).trans (hb2.mono (by simp; have := hB1.size; omega)); have hi2 := (hi1.below (((Below.refl _ _).alloc (Nat.le_refl _) _).trans (hb2.mono (by simp)))).more (show w1.heap.size ≤ w2.heap.size by have := hb2.size; simp at this; omega))
    | (go_at_call 26; refine (HC.out _ _ (some ⟨w2.heap.size, 0, none⟩) 16 8 ((hi2.below ((Below.refl _ _).alloc (Nat.le_refl _) _)).more (by simp)) (byt_blk (bs := [1, 2, 128, 0, 0, 0, 0, 0]) (Blk.new' _ rfl rfl) (by simp) rfl)).mono ?_; rintro e w3 ⟨A3, c3, rfl, hy3, hb3⟩; have hB3 := (hB2.alloc hB2.size _).trans (hb3.mono (by simp; have := hB2.size; omega)); have hs2 := byt_string (P := Try.prog) 22 5 Try.underlying22 Try.underlying5 (hy2.below (((Below.refl _ _).alloc (Nat.le_refl _) _).trans (hb3.mono (by simp)))) 9 Try.underlying9; have hs3 := byt_string (P := Try.prog) 22 5 Try.underlying22 Try.underlying5 hy3 9 Try.underlying9)
    | (go_at_call 17; refine (HH.out _).mono ?_; rintro e w4 ⟨A4, c4, rfl, hb4⟩))
  go_ret
  exact ⟨rfl, hB3.trans (hb4.mono hB3.size)⟩
end Go.Proofs.Ytbmblalbnegglaa
