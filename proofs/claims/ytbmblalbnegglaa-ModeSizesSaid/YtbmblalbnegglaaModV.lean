/-
  The walks of the reference of the modes: the hash value.
-/
import Derived.Test.YtbmblalbnegglaaModU
namespace Go.Proofs.Ytbmblalbnegglaa
open Go.RowKit

theorem inv_byte2 (b : UInt8) : (255 - (b.toNat : Int)) = ((255 - b).toNat : Int) := by
  have hb := b.toNat_lt
  have h2 : (255 - b).toNat = 255 - b.toNat := by
    rw [UInt8.toNat_sub_of_le _ _ (by rw [UInt8.le_iff_toNat_le]; exact Nat.le_of_lt_succ hb)]; rfl
  rw [h2]
  omega
theorem inv_take (x : List UInt8) (j : Nat) (h : j < x.length) : (Mod.inv x).take (j + 1) = (Mod.inv x).take j ++ [255 - x.getD j 0] := by
  have hl : j < (Mod.inv x).length := by simp [Mod.inv]; exact h
  rw [List.take_succ_eq_append_getElem hl]
  simp [Mod.inv, List.getD, List.getElem?_eq_getElem h]

set_option maxHeartbeats 4000000 in
theorem ref20_Hash (A : Option Addr) (n c : Nat) (d : List UInt8) (w : World) (hd : Byt w w.heap.size A n c d) (hn : n ≤ 10000) :
    Calls Try.prog 18 #[.slice A n c] w (BOne 5 w (Mod.hash d)) := by
  obtain ⟨ti, hti, hz0, hz1, hz2⟩ := info_parts o_u8
  have hpl := Oct.pad_length d 8
  have hpn := Oct.padN_lt d.length 8 (by omega)
  have hbm := Mod.hbl_length d
  have hd1 := hd.1
  obtain ⟨m, hm⟩ : ∃ m, (Mod.hbl d).length = 8 * m := ⟨(Mod.hbl d).length / 8, by omega⟩
  have hh : Mod.hash d = Mod.hK (Mod.hbl d) m := by unfold Mod.hash; rw [hm]; congr 1; omega
  have hbd : Oct.pad d 8 ++ Oct.putB n 8 = Mod.hbl d := by unfold Mod.hbl; rw [hd1]
  have hmx : 8 * m = (Oct.pad d 8).length + 8 := by rw [← hm, ← hbd, List.length_append, Oct.putB_length]
  have hmb : m ≤ 10000 := by omega
  rw [hh]
  have hP : Calls Try.prog 25 #[.slice A n c, .int .i64 8] w (BRes 5 w (Oct.pad d 8) 0) := ref_pad8 hd (by omega)
  have HP := Lib.hid hP
  have hpb : (Oct.pad d 8).length ≤ 100000 := by omega
  have HBD := Lib.hid hbd
  have HBM := Lib.hid hm
  have HMX := Lib.hid hmx
  clear hP hd hpl hpn hbm hd1 hh hbd hm hmx
  generalize Mod.hbl d = hb at *
  generalize Oct.pad d 8 = pd at *
  have m16 : ∀ u : World, (Instr.makeSlice 22 (.int .i64 16) (.int .i64 16)).run Try.prog u = .ok (.slice (some ⟨u.heap.size, 0, none⟩) 16 16) (u.alloc (.cells (zc 16) 5)) := fun _ => by kernel_rfl
  go_enter Try.func18, Try.ntmps18
  go_wp2_with (first
    | (go_at_call 25; refine HP.out.mono ?_; rintro e w1 ⟨A1, c1, rfl, ho1, hb1⟩)
    | (go_at_call 37; refine (ref_put8 n _ (by omega)).mono ?_; rintro e w2 ⟨A2, c2, rfl, ho2, hb2⟩; have hB2 := hb1.trans (hb2.mono hb1.size); have ho1' := ho1.below hb2)
    | (at_builtin; refine wpList_append _ rfl (.tmp 28) (.tmp 29) 22 rfl w.heap.size 5 ti _ 1 1 Try.underlying22 hti hz0 hz1 hz2 rfl (by omega) A1 pd.length c1 (bcells pd) rfl ho1' w2.heap.size A2 8 c2 (bcells (Oct.putB n 8)) rfl ho2.row (by have := ho2.len; omega) (bcells_one _) (by unfold maxLen; omega) (by omega) (by have := hB2.size; omega) ?_; intro A3 c3 w3 hown3 hg3 hat3; have hB3 := ho1'.grown hg3 hB2 (by have := hB2.size; omega)))
  rw [← bcells_append, HBD.out] at hown3
  have hY := Lib.hid (hown3.byt (Nat.le_refl _))
  have hyc := hown3.le
  clear hg3 hat3 hown3 ho1' ho2 ho1 hb1 hb2 hB2 HP
  generalize pd.length = pl at *
  go_loopg [7, 8] m (fun g h i wr => ∃ (k a : Nat) (Ah : Option Addr) (ch : Nat), k + g = m ∧ Hid (a = 8 * k) ∧ i = .int .i64 (a : Int) ∧ h = .slice Ah 16 ch ∧ Own wr w3.heap.size 5 1 Ah 16 ch (bcells (Mod.hK hb k)) ∧ Below w3.heap.size w3 wr)
  case atStart =>
    exact ⟨0, 0, some ⟨w3.heap.size, 0, none⟩, 16, by omega, Lib.hid rfl, rfl, rfl, Own.blk (s := 1) (n := 16) (c := 16) (Blk.new w3 5 (zc 16)) (Nat.le_refl _) (Nat.le_refl _) (by decide) (by decide) (by decide), (Below.refl _ _).alloc (Nat.le_refl _) _⟩
  case round =>
    obtain ⟨k, a, Ah, ch, hkg, hak, rfl, rfl, hown, hbw⟩ := hrel
    cases gk with
    | zero =>
      obtain rfl : k = m := by omega
      have hl := Mod.hK_length hb k
      have hn : a = pl + 8 := by rw [hak.out, HMX.out]
      subst hn
      go_wp2_with fail
      go_ret
      exact ⟨Ah, ch, by rw [hl]; rfl, by rw [hl]; exact hown.mono hB3.size, hB3.trans (hbw.mono hB3.size)⟩
    | succ g =>
      have hlt : (a : Int) < (pl : Int) + 8 := by have := hak.out; have := HMX.out; omega
      have hle : (a : Int) + 8 ≤ (pl : Int) + 8 := by have := hak.out; have := HMX.out; omega
      have p0 : (0 : Int) ≤ (a : Int) := by omega
      obtain ⟨b1, o1, rfl, hb1⟩ := hY.out.at_ (by omega)
      have hca : ¬ c3 = a := by omega
      have hc8 : (a : Int) + 8 ≤ (c3 : Int) := by omega
      have hx : Byt wr w3.heap.size (some ⟨b1, o1 + a, none⟩) 8 (c3 - a) (Mod.blk hb k) := by
        have h1 := (hY.out.below hbw).drop a (by omega)
        have h2 := h1.take 8 (c3 - a) (by omega) (by omega)
        rw [hak.out] at h2 ⊢
        exact h2
      have hst : Hid (Mod.hStep (Mod.hK hb k) (Mod.blk hb k) = Mod.hK hb (k + 1)) := (Mod.hK_succ hb k).symm
      have HH16 : Hid ((Mod.hK hb k).length = 16) := Mod.hK_length hb k
      generalize Mod.blk hb k = x at *
      generalize Mod.hK hb k = h at *
      have HX8 := Lib.hid hx.1
      have HX := Lib.hid hx
      clear hx
      obtain ⟨wo, hwo⟩ : ∃ wo : World, wo = wr := ⟨wr, rfl⟩
      subst hwo
      go_wp2_with fail
      rw [Nat.add_sub_cancel_left]
      go_loopg [10, 11] 8 (fun gg v i wv => ∃ (j : Nat) (A5 : Option Addr) (c5 : Nat), j + gg = 8 ∧ i = .int .i64 (j : Int) ∧ v = .slice A5 j c5 ∧ Own wv wo.heap.size 5 1 A5 j c5 (bcells ((Mod.inv x).take j)) ∧ Below wo.heap.size wo wv)
      case atStart => exact ⟨0, none, 0, by omega, rfl, rfl, Own.none_ _ _ _ _ _, Below.refl _ _⟩
      case round =>
        obtain ⟨j, A5, c5, hj, rfl, rfl, hoi, hbv⟩ := hrel
        cases gk with
        | zero =>
          obtain rfl : j = 8 := by omega
          have hinv : (Mod.inv x).take 8 = Mod.inv x := List.take_of_length_le (by simp [Mod.inv, HX8.out])
          rw [hinv] at hoi
          clear hinv
          obtain ⟨bh, oh, rfl, -⟩ := (hown.byt (Nat.le_refl _)).at_ (by omega)
          have hch := hown.le
          have hcc8 : ¬ ch = 8 := by omega
          have hcc8' : (8 : Int) ≤ (ch : Int) := by omega
          have hH : Byt wr wr.heap.size (some ⟨bh, oh, none⟩) 16 ch h := (hown.below hbv).byt (Nat.le_refl _)
          have hH1 := hH.take 8 ch (by omega) (by omega)
          have hH2 := hH.drop 8 (by omega)
          have hXx : Byt wr wr.heap.size (some ⟨b1, o1 + a, none⟩) 8 (c3 - a) x := ((HX.out.more hbw.size).below hbv).more hbv.size
          have hIx : Byt wr wr.heap.size A5 8 c5 (Mod.inv x) := hoi.byt (Nat.le_refl _)
          have hE : ∀ (u : World) (A' : Option Addr) (c' : Nat) (y : List UInt8), Below wr.heap.size wr u → Byt u u.heap.size A' 8 c' y → Calls Try.prog 26 #[.slice (some ⟨bh, oh, none⟩) 16 ch, .slice A' 8 c'] u fun e u' => ∃ A3 c3, e = .returned (.tuple #[.slice A3 8 c3, .int .i64 0]) ∧ Own u' u.heap.size 5 1 A3 8 c3 (bcells (Cip.crypt h y false)) ∧ Below u.heap.size u u' := fun u A' c' y hb hy => by
            have hr : Cip.res h y false = Cip.crypt h y false := Cip.res_ok _ _ _ HH16.out hy.1
            have he : Cip.err h y = 0 := Cip.err_ok _ _ HH16.out hy.1
            refine (ref19_Encrypt _ A' 16 8 ch c' h y u ((hH.below hb).more hb.size) hy).mono ?_
            rintro e u' ⟨A3, c3, rfl, ho, hb3⟩
            rw [hr, Mod.crypt_length] at ho ⊢
            rw [he]
            exact ⟨A3, c3, rfl, ho, hb3⟩
          have HE := Lib.hid hE
          have HH1 := Lib.hid hH1
          have HH2 := Lib.hid hH2
          have HXx := Lib.hid hXx
          have HIx := Lib.hid hIx
          clear hE hH hH1 hH2 hXx hIx
          go_wp2_with (first
            | (go_at_call_of 26 (Value.slice (some ⟨b1, o1 + a, none⟩) 8 (c3 - a)); refine (HE.out _ _ _ x (Below.refl _ _) HXx.out).mono ?_; rintro e w6 ⟨A6, c6, rfl, ho6, hb6⟩)
            | (go_at_call_of 26 (Value.slice A5 8 c5); refine (HE.out _ _ _ (Mod.inv x) hb6 ((HIx.out.below hb6).more hb6.size)).mono ?_; rintro e w7 ⟨A7, c7, rfl, ho7, hb7⟩; have hB7 := hb6.trans (hb7.mono hb6.size))
            | (go_at_call_of 31 (Value.slice A6 8 c6); refine (ref20_xor A6 _ c6 _ _ _ _ ((ho6.below hb7).byt (Nat.le_refl _)) ((HH1.out.below hB7).more hB7.size)).mono ?_; rintro e w8 ⟨A8, c8, rfl, ho8, hb8⟩; have hB8 := hB7.trans (hb8.mono hB7.size))
            | (at_builtin; refine wpList_append _ rfl (.tmp 67) (.tmp 71) 22 rfl w8.heap.size 5 ti _ 1 1 Try.underlying22 hti hz0 hz1 hz2 rfl (by omega) none 0 0 (bcells []) rfl (Own.none_ _ _ _ _ _) w8.heap.size A8 8 c8 (bcells (Oct.xor (Cip.crypt h x false) (h.take 8))) rfl ho8.row (by have := ho8.len; omega) (bcells_one _) (by unfold maxLen; omega) (by omega) (by omega) ?_; intro A9 c9 w9 hown9 hg9 hat9; have hb9 := (Own.none_ w8 w8.heap.size 5 1 none).grown hg9 (Below.refl _ _) (Nat.le_refl _); replace hown9 : Own w9 w8.heap.size 5 1 A9 8 c9 (bcells (Oct.xor (Cip.crypt h x false) (h.take 8))) := hown9; have hB9 := hB8.trans (hb9.mono hB8.size))
            | (go_at_call_of 31 (Value.slice A7 8 c7); refine (ref20_xor A7 _ c7 _ _ _ _ (((ho7.below hb8).below hb9).byt (Nat.le_refl _)) ((HH2.out.below hB9).more hB9.size)).mono ?_; rintro e w10 ⟨A10, c10, rfl, ho10, hb10⟩; have hB10 := hB9.trans (hb10.mono hB9.size))
            | (at_builtin; refine wpList_append _ rfl (.tmp 73) (.tmp 77) 22 rfl w8.heap.size 5 ti _ 1 1 Try.underlying22 hti hz0 hz1 hz2 rfl (by omega) A9 8 c9 (bcells (Oct.xor (Cip.crypt h x false) (h.take 8))) rfl (hown9.below hb10) w10.heap.size A10 8 c10 (bcells (Oct.xor (Cip.crypt h (Mod.inv x) false) (h.drop 8))) rfl ho10.row (by have := ho10.len; omega) (bcells_one _) (by unfold maxLen; omega) (by omega) (by have := hb9.size; have := hb10.size; omega) ?_; intro A11 c11 w11 hown11 hg11 hat11))
          have hres : Oct.xor (Cip.crypt h x false) (h.take 8) ++ Oct.xor (Cip.crypt h (Mod.inv x) false) (h.drop 8) = Mod.hK hb (k + 1) := hst.out
          have hO9 := hown9.below hb10
          have hB11 := hO9.grown hg11 (hb9.trans (hb10.mono hb9.size)) (by have := hb9.size; have := hb10.size; omega)
          rw [← bcells_append, hres] at hown11
          have hOO := hown11.mono (show w3.heap.size ≤ w8.heap.size by have := hbw.size; have := hbv.size; have := hB8.size; omega)
          have hBB : Below w3.heap.size w3 w11 := hbw.trans ((hbv.trans ((hB8.trans (hB11.mono hB8.size)).mono hbv.size)).mono hbw.size)
          go_roundg g
          case measure => omega
          case rel => exact ⟨k + 1, a + 8, A11, c11, by omega, Lib.hid (by rw [hak.out]; omega), by go_num, rfl, hOO, hBB⟩
        | succ gg =>
          have hjl : (j : Int) < 8 := by omega
          have hj0 : (0 : Int) ≤ (j : Int) := by omega
          have hjx : j < x.length := by rw [HX8.out]; omega
          have cj := ((HX.out.below (hbv.mono hbw.size)).2.2).byte j hjx
          have hnx := Lib.hid (inv_take x j hjx)
          have hby := inv_byte2 (x.getD j 0)
          have hl1 := (x.getD j 0).toNat_lt
          generalize x.getD j 0 = y at *
          have hw0 : (0 : Int) ≤ 255 - (y.toNat : Int) := by omega
          have hw1 : 255 - (y.toNat : Int) ≤ 255 := by omega
          generalize 255 - y = z at *
          go_wp2_with (at_builtin; refine wpList_append _ rfl (.tmp 47) (.tmp 53) 22 rfl wo.heap.size 5 ti _ 1 1 Try.underlying22 hti hz0 hz1 hz2 rfl (by omega) A5 j c5 (bcells ((Mod.inv x).take j)) rfl (hoi.alloc _) (wr.heap.size + 1) (some ⟨wr.heap.size, 0, none⟩) 1 1 (bcells [z]) rfl (Row.new wr rfl) (by simp) (bcells_one _) (by unfold maxLen; omega) (by omega) (by simp; have := hbv.size; omega) ?_; intro A8 c8 w8 hown8 hg8 hat8)
          go_roundg gg
          case measure => omega
          case rel =>
            refine ⟨j + 1, A8, c8, by omega, by go_num, rfl, ?_, (hoi.alloc _).grown hg8 (hbv.alloc hbv.size _) (by simp; have := hbv.size; omega)⟩
            rw [hnx.out, bcells_append]
            exact hown8
end Go.Proofs.Ytbmblalbnegglaa
