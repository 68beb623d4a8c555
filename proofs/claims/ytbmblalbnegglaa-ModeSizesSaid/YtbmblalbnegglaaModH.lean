/-
  The walks of the modes: the hash value.
-/
import Derived.Test.YtbmblalbnegglaaModD
namespace Go.Proofs.Ytbmblalbnegglaa
open Go.RowKit

theorem put_eight (m : Nat) (w : World) (hm : m ≤ 1000000) :
    Calls Try.prog 34 #[.int .i64 (m : Int), .int .i64 8] w fun e w' => ∃ A c, e = .returned (.tuple #[.slice A 8 c, .int .i64 0]) ∧ Own w' w.heap.size 5 1 A 8 c (bcells (Oct.putB m 8)) ∧ Below w.heap.size w w' := by
  have h8 := pt_ok m 8 (by omega) (by omega) (Nat.lt_of_le_of_lt hm (by decide))
  refine (octets_Put (m : Int) ((8 : Nat) : Int) w (by omega)).mono ?_
  rintro e w' ⟨A, c, rfl, ho, hb⟩
  rw [h8.1, h8.2, Oct.putB_length] at *
  exact ⟨A, c, rfl, ho, hb⟩

theorem join_pair {u : World} {i2 n1 c1 n2 c2 : Nat} {t : TypeId} {A1 A2 : Option Addr} {b1 b2 : List UInt8} (h2 : Blk u i2 t #[.slice A1 n1 c1, .slice A2 n2 c2]) (h1 : Byt u u.heap.size A1 n1 c1 b1) (hl : Byt u u.heap.size A2 n2 c2 b2) (hn : n1 ≤ 1000000) (hn2 : n2 ≤ 1000000) :
    Calls Try.prog 36 #[.slice (some ⟨i2, 0, none⟩) 2 2] u fun e u' => ∃ A3 c3, e = .returned (.slice A3 (n1 + n2) c3) ∧ Own u' u.heap.size 5 1 A3 (n1 + n2) c3 (bcells (b1 ++ b2)) ∧ Below u.heap.size u u' := by
  have e : joined [⟨A1, n1, c1, b1⟩, ⟨A2, n2, c2, b2⟩] = b1 ++ b2 := by simp [joined]
  have hj : (b1 ++ b2).length = n1 + n2 := by rw [List.length_append, h1.1, hl.1]
  have hby : Byts u u.heap.size (some ⟨i2, 0, none⟩) [⟨A1, n1, c1, b1⟩, ⟨A2, n2, c2, b2⟩] := by
    refine ⟨h2.row, fun v hv => ?_⟩
    rcases List.mem_cons.1 hv with rfl | hv
    · exact h1
    · obtain rfl := List.mem_singleton.1 hv
      exact hl
  refine (octets_Join (some ⟨i2, 0, none⟩) 2 2 _ u hby rfl (by omega) (by rw [e, hj]; omega)).mono ?_
  rintro e' u' ⟨A2, c2, rfl, ho, hb⟩
  rw [e, hj] at ho ⊢
  exact ⟨A2, c2, rfl, ho, hb⟩

theorem split_eight {u : World} {A : Option Addr} {n c m : Nat} {bs : List UInt8} (h : Byt u u.heap.size A n c bs) (hn : n ≤ 1000000) (hm : bs.length = 8 * m) :
    Calls Try.prog 35 #[.slice A n c, .int .i64 8] u fun e u' => ∃ A2 c2 vs, e = .returned (.tuple #[.slice A2 m c2, .int .i64 0]) ∧ vs.map SV.bs = (List.range m).map (fun i => Mod.blk bs i) ∧ Byts u' u'.heap.size A2 vs ∧ Below u.heap.size u u' := by
  have e1 : Oct.spB bs ((8 : Nat) : Int) = (List.range m).map (fun i => Mod.blk bs i) ∧ Oct.spE ((8 : Nat) : Int) = 0 := by
    unfold Oct.spB Oct.spE
    exact ⟨by rw [if_neg (by omega)]; exact Mod.split_blk bs m hm, by rw [if_neg (by omega)]⟩
  refine (octets_Split A n c bs ((8 : Nat) : Int) u h (by omega)).mono ?_
  rintro e u' ⟨A2, c2, vs, rfl, hv, ho, hall, hb⟩
  have hl : ((List.range m).map (fun i => Mod.blk bs i)).length = m := by simp
  rw [e1.1] at hv ho ⊢
  rw [e1.2]
  rw [hl] at ho ⊢
  exact ⟨A2, c2, vs, rfl, hv, ⟨ho.row, fun v hvm => (hall v hvm).byt (Nat.le_refl _)⟩, hb⟩

theorem inv_get (x : List UInt8) (j : Nat) (h : j < x.length) : (bcells ((Mod.inv x).take j ++ x.drop j))[j]? = some (.int .u8 ((x.getD j 0).toNat : Int)) := by
  rw [bcells_get, List.getElem?_append_right (by simp [Mod.inv]; exact Nat.min_le_left _ _), List.getElem?_drop]
  simp [Mod.inv, Nat.min_eq_left (Nat.le_of_lt h), List.getD, List.getElem?_eq_getElem h, B8]
theorem inv_set (x : List UInt8) (j : Nat) (h : j < x.length) : (bcells ((Mod.inv x).take j ++ x.drop j)).set j (B8 (255 - x.getD j 0)) = bcells ((Mod.inv x).take (j + 1) ++ x.drop (j + 1)) := by
  have hl : j < (Mod.inv x).length := by simp [Mod.inv]; exact h
  unfold bcells
  rw [← List.map_set]
  congr 1
  rw [List.set_append_right _ _ (by simp [Mod.inv]; exact Nat.min_le_left _ _), List.length_take, Nat.min_eq_left (Nat.le_of_lt hl), Nat.sub_self, List.drop_eq_getElem_cons h, List.set_cons_zero, List.take_succ_eq_append_getElem hl, List.append_assoc]
  congr 1
  simp [Mod.inv, List.getD, List.getElem?_eq_getElem h]
theorem byte_all {p : Nat → Prop} [DecidablePred p] (h : (List.range 256).all (fun n => decide (p n)) = true) (n : Nat) (hn : n < 256) : p n := by
  rw [List.all_eq_true] at h
  exact of_decide_eq_true (h n (List.mem_range.2 hn))
theorem inv_byte (b : UInt8) : bits BinOp.xor IntKind.u8 IntKind.u8.max (b.toNat : Int) = ((255 - b).toNat : Int) := by
  have h : ∀ n : Nat, n < 256 → 255 ^^^ n = 255 - n := fun n hn => byte_all (p := fun n => 255 ^^^ n = 255 - n) (by kernel_rfl) n hn
  have hb := b.toNat_lt
  have h1 := u8_xor_nat 255 b.toNat (by omega) (by omega)
  rw [h _ (by omega)] at h1
  have h2 : (255 - b).toNat = 255 - b.toNat := by
    rw [UInt8.toNat_sub_of_le _ _ (by rw [UInt8.le_iff_toNat_le]; exact Nat.le_of_lt_succ hb)]; rfl
  rw [h2]
  exact h1

set_option maxHeartbeats 4000000 in
theorem mode_Hash (A : Option Addr) (n c : Nat) (d : List UInt8) (w : World) (hd : Byt w w.heap.size A n c d) (hn : n ≤ 10000) :
    Calls Try.prog 17 #[.slice A n c] w (BOne 5 w (Mod.hash d)) := by
  have hpl := Oct.pad_length d 8
  have hpn := Oct.padN_lt d.length 8 (by omega)
  have hbm := Mod.hbl_length d
  have hd1 := hd.1
  obtain ⟨m, hm⟩ : ∃ m, (Mod.hbl d).length = 8 * m := ⟨(Mod.hbl d).length / 8, by omega⟩
  have hh : Mod.hash d = Mod.hK (Mod.hbl d) m := by unfold Mod.hash; rw [hm]; congr 1; omega
  have hbd : Oct.pad d 8 ++ Oct.putB n 8 = Mod.hbl d := by unfold Mod.hbl; rw [hd1]
  have hmx : 8 * m = (Oct.pad d 8).length + 8 := by rw [← hm, ← hbd, List.length_append, Oct.putB_length]
  have hmb : m ≤ 10000 := by omega
  rw [hh]
  have hP : ∀ u : World, Below w.heap.size w u → Calls Try.prog 32 #[.slice A n c] u (BOne 5 u (Oct.pad d 8)) := fun u hb => mode_pad A n c d u ((hd.below hb).more hb.size) (by omega)
  have HP := Lib.hid hP
  have hpb : (Oct.pad d 8).length ≤ 100000 := by omega
  have HBD := Lib.hid hbd
  have HBM := Lib.hid hm
  have HMX := Lib.hid hmx
  clear hP hd hpl hpn hbm hd1 hh hbd hm hmx
  generalize Mod.hbl d = hb at *
  generalize Oct.pad d 8 = pd at *
  have m16 : ∀ u : World, (Instr.makeSlice 22 (.int .i64 16) (.int .i64 16)).run Try.prog u = .ok (.slice (some ⟨u.heap.size, 0, none⟩) 16 16) (u.alloc (.cells (zc 16) 5)) := fun _ => by kernel_rfl
  go_enter Try.func17, Try.ntmps17
  go_wp2_with (first
    | (go_at_call 34; refine (put_eight n _ (by omega)).mono ?_; rintro e w1 ⟨A1, c1, rfl, ho1, hb1⟩; have hB1 := ((Below.refl w.heap.size w).alloc (Nat.le_refl _) _).trans (hb1.mono (by simp)))
    | (go_at_call 32; refine (HP.out _ hB1).mono ?_; rintro e w2 ⟨A2, c2, rfl, ho2, hb2⟩; have hB2 := hB1.trans (hb2.mono hB1.size))
    | (go_at_call 36; refine (join_pair (Blk.new' _ rfl rfl) ((ho2.alloc _).byt (Nat.le_refl _)) (((ho1.below hb2).alloc _).byt (Nat.le_refl _)) (by omega) (by omega)).mono ?_; rintro e w3 ⟨A3, c3, rfl, ho3, hb3⟩; have hB3 := (hB2.alloc hB2.size _).trans (hb3.mono (by simp; have := hB2.size; omega)))
    | (go_at_call 35; refine (split_eight (m := m) (ho3.byt (Nat.le_refl _)) (by omega) (by rw [HBD.out, HBM.out])).mono ?_; rintro e w4 ⟨A4, c4, vs, rfl, hvs, hby, hb4⟩; have hB4 := hB3.trans (hb4.mono hB3.size)))
  rw [HBD.out] at hvs
  have hvl : vs.length = m := by have := congrArg List.length hvs; simpa using this
  have HVL := Lib.hid hvl
  have HVS := Lib.hid hvs
  have hz : Own w4 w.heap.size 5 1 (some ⟨w.heap.size, 0, none⟩) 16 16 (bcells (Mod.hK hb 0)) := by
    have h1 : Blk w4 w.heap.size 5 (zc 16) := ((((Blk.new w 5 (zc 16)).below hb1 (by simp)).below hb2 (by have := hb1.size; simp at this; omega)).alloc _).below hb3 (by have := hb1.size; have := hb2.size; simp at *; omega) |>.below hb4 (by have := hB3.size; have := hb1.size; have := hb2.size; have := hb3.size; simp at *; omega)
    have h2 := Own.blk (s := 1) (n := 16) (c := 16) h1 (Nat.le_refl _) (Nat.le_refl _) (by decide) (by decide) (by decide)
    exact h2
  clear hvl hvs hb1 hb2 hb3 hb4 ho1 ho2 ho3 hB1 hB2 hB3 HP
  go_loopg [3, 30] m (fun g h i wr => ∃ (k : Nat) (Ah : Option Addr) (ch : Nat), k + g = m ∧ i = .int .i64 (k : Int) ∧ h = .slice Ah 16 ch ∧ Own wr w.heap.size 5 1 Ah 16 ch (bcells (Mod.hK hb k)) ∧ Below w4.heap.size w4 wr)
  case atStart => exact ⟨0, some ⟨w.heap.size, 0, none⟩, 16, by omega, rfl, rfl, hz, Below.refl _ _⟩
  case round =>
    obtain ⟨k, Ah, ch, hk, rfl, rfl, hown, hbw⟩ := hrel
    cases gk with
    | zero =>
      obtain rfl : k = m := by omega
      have hl := Mod.hK_length hb k
      go_wp2_with fail
      go_ret
      exact ⟨Ah, ch, by rw [hl]; rfl, by rw [hl]; exact hown, hB4.trans (hbw.mono hB4.size)⟩
    | succ g =>
      have hkl : k < vs.length := by rw [HVL.out]; omega
      have hlt : (k : Int) < (m : Int) := by omega
      have p0 : (0 : Int) ≤ (k : Int) := by omega
      obtain ⟨bb, oo, rfl, hcell, hx⟩ := (hby.below hbw).at_ hkl
      have hxb : vs[k].bs = Mod.blk hb k := by
        have := congrArg (fun l => l[k]?) HVS.out
        simpa [List.getElem?_eq_getElem hkl, show k < m by omega] using this
      have hx8 : (Mod.blk hb k).length = 8 := Mod.blk_length hb k (by have := HBM.out; omega)
      have hxn : vs[k].n = 8 := by rw [← hx.1, hxb, hx8]
      rw [hxb, hxn] at hx
      rw [hxn] at hcell
      have hst : Hid (Mod.hStep (Mod.hK hb k) (Mod.blk hb k) = Mod.hK hb (k + 1)) := (Mod.hK_succ hb k).symm
      have HH16 : Hid ((Mod.hK hb k).length = 16) := Mod.hK_length hb k
      clear hxb hxn
      generalize vs[k].a = Ax at *
      generalize vs[k].c = cx at *
      generalize Mod.blk hb k = x at *
      generalize Mod.hK hb k = h at *
      have HX8 := Lib.hid hx8
      clear hx8
      go_wp2_with (go_at_call 33; refine (slices_Clone Ax 8 cx x _ (hx.more hbw.size) (by omega)).mono ?_; rintro e w5 ⟨Ai, ci, rfl, ho5, hb5⟩)
      obtain ⟨bh, oh, rfl, -⟩ := (hown.byt (Nat.le_refl _)).at_ (by omega)
      obtain ⟨wo, hwo⟩ : ∃ wo : World, wo = wr := ⟨wr, rfl⟩
      subst hwo
      go_loopg [38] 8 (fun gg i wv => ∃ (j : Nat), j + gg = 8 ∧ i = .int .i64 (j : Int) ∧ Own wv wo.heap.size 5 1 Ai 8 ci (bcells ((Mod.inv x).take j ++ x.drop j)) ∧ Below wo.heap.size wo wv)
      case atStart => exact ⟨0, by omega, rfl, ho5, hb5⟩
      case round =>
        obtain ⟨j, hj, rfl, hoi, hbv⟩ := hrel
        cases gk with
        | zero =>
          obtain rfl : j = 8 := by omega
          have hinv : (Mod.inv x).take 8 ++ x.drop 8 = Mod.inv x := by
            rw [List.take_of_length_le (by simp [Mod.inv, HX8.out]), List.drop_eq_nil_of_le (by rw [HX8.out]; omega), List.append_nil]
          rw [hinv] at hoi
          have hch := hown.le
          have hc8 : ¬ ch = 8 := by omega
          have hc8' : (8 : Int) ≤ (ch : Int) := by omega
          have hH : Byt wr wr.heap.size (some ⟨bh, oh, none⟩) 16 ch h := (hown.below hbv).byt (Nat.le_refl _)
          have hH1 := hH.take 8 ch (by omega) (by omega)
          have hH2 := hH.drop 8 (by omega)
          have hXx : Byt wr wr.heap.size Ax 8 cx x := ((hx.more hbw.size).below hbv).more hbv.size
          have hIx : Byt wr wr.heap.size Ai 8 ci (Mod.inv x) := hoi.byt (Nat.le_refl _)
          have hE : ∀ (u : World) (A' : Option Addr) (c' : Nat) (y : List UInt8), Below wr.heap.size wr u → Byt u u.heap.size A' 8 c' y → Calls Try.prog 29 #[.slice (some ⟨bh, oh, none⟩) 16 ch, .slice A' 8 c'] u fun e u' => ∃ A3 c3, e = .returned (.slice A3 8 c3) ∧ Own u' u.heap.size 5 1 A3 8 c3 (bcells (Cip.crypt h y false)) ∧ Below u.heap.size u u' := fun u A' c' y hb hy => by
            have hr : Cip.res h y false = Cip.crypt h y false := Cip.res_ok _ _ _ HH16.out hy.1
            refine (mode_encrypt _ A' 16 8 ch c' h y u ((hH.below hb).more hb.size) hy).mono ?_
            rintro e u' ⟨A3, c3, rfl, ho, hb3⟩
            rw [hr, Mod.crypt_length] at ho ⊢
            exact ⟨A3, c3, rfl, ho, hb3⟩
          have hX : ∀ (u : World) (A1 A2 : Option Addr) (c1 c2 : Nat) (a b : List UInt8), Byt u u.heap.size A1 8 c1 a → Byt u u.heap.size A2 8 c2 b → Calls Try.prog 30 #[.slice A1 8 c1, .slice A2 8 c2] u fun e u' => ∃ A3 c3, e = .returned (.slice A3 8 c3) ∧ Own u' u.heap.size 5 1 A3 8 c3 (bcells (Oct.xor a b)) ∧ Below u.heap.size u u' := fun u A1 A2 c1 c2 a b ha hb => by
            have hxx : xrB a b = Oct.xor a b := by unfold xrB; rw [ha.1, hb.1, if_pos rfl]
            have hxl : (Oct.xor a b).length = 8 := by rw [Mod.xor_length]; exact ha.1
            refine (mode_xor A1 A2 8 8 c1 c2 a b u ha hb (by omega)).mono ?_
            rintro e u' ⟨A3, c3, rfl, ho, hb3⟩
            rw [hxx, hxl] at ho ⊢
            exact ⟨A3, c3, rfl, ho, hb3⟩
          have HE := Lib.hid hE
          have HX := Lib.hid hX
          have HH1 := Lib.hid hH1
          have HH2 := Lib.hid hH2
          have HXx := Lib.hid hXx
          have HIx := Lib.hid hIx
          clear hinv hE hX hH hH1 hH2 hXx hIx hcell hlt p0
          go_wp2_with fail
          go_region_with (first
            | (go_at_call_of 29 (Value.slice Ax 8 cx); refine (HE.out _ Ax cx x (Below.refl _ _).drew (HXx.out.below (Below.refl _ _).drew)).mono ?_; rintro e w6 ⟨A6, c6, rfl, ho6, hb6⟩; have hB6 : Below wr.heap.size wr w6 := (Below.refl _ _).drew.trans (hb6.mono (by simp)))
            | (go_at_call_of 30 (Value.slice A6 8 c6); refine (HX.out _ A6 _ c6 _ _ _ (ho6.byt (Nat.le_refl _)) ((HH1.out.below hB6).more hB6.size)).mono ?_; rintro e w7 ⟨A7, c7, rfl, ho7, hb7⟩; have hB7 : Below wr.heap.size wr w7 := hB6.trans (hb7.mono hB6.size))
            | (go_at_call_of 29 (Value.slice Ai 8 ci); refine (HE.out _ Ai ci _ hB7 ((HIx.out.below hB7).more hB7.size)).mono ?_; rintro e w8 ⟨A8, c8, rfl, ho8, hb8⟩; have hB8 : Below wr.heap.size wr w8 := hB7.trans (hb8.mono hB7.size))
            | (go_at_call_of 30 (Value.slice A8 8 c8); refine (HX.out _ A8 _ c8 _ _ _ (ho8.byt (Nat.le_refl _)) ((HH2.out.below hB8).more hB8.size)).mono ?_; rintro e w9 ⟨A9, c9, rfl, ho9, hb9⟩; have hB9 : Below wr.heap.size wr w9 := hB8.trans (hb9.mono hB8.size))
            | (go_at_call 36; refine (join_pair (t := 22) (Blk.new' _ rfl rfl) ((((ho7.below hb8).below hb9).alloc _).byt (Nat.le_refl _)) ((ho9.alloc _).byt (Nat.le_refl _)) (by omega) (by omega)).mono ?_; rintro e w10 ⟨A10, c10, rfl, ho10, hb10⟩; have hB10 : Below wr.heap.size wr w10 := (hB9.alloc hB9.size _).trans (hb10.mono (by simp; have := hB9.size; omega))))
          all_goals
            have hres : Oct.xor (Cip.crypt h x false) (h.take 8) ++ Oct.xor (Cip.crypt h (Mod.inv x) false) (h.drop 8) = Mod.hK hb (k + 1) := hst.out
            rw [hres] at ho10
            have hB := hbv.trans (hB10.mono hbv.size)
            have hsz : w.heap.size ≤ (w9.alloc (.cells #[.slice A7 8 c7, .slice A9 8 c9] 22)).heap.size := by
              simp; have := hB9.size; have := hbv.size; have := hbw.size; have := hB4.size; omega
            have hO := ho10.mono hsz
            clear hres ho10 hb10 ho9 ho8 ho7 ho6 hb6 hb7 hb8 hb9 hB6 hB7 hB8 hB9 hsz HE HX HH1 HH2
            go_wp2_with fail
            go_roundg g
            case measure => omega
            case rel => exact ⟨k + 1, A10, c10, by omega, by go_num, rfl, hO, hbw.trans (hB.mono hbw.size)⟩
        | succ gg =>
          have hjl : (j : Int) < 8 := by omega
          have hj0 : (0 : Int) ≤ (j : Int) := by omega
          obtain ⟨gi, rfl, hgi, hgl, hci, hfi, hsi⟩ := hoi.elem (i := j) (by omega)
          have hjx : j < x.length := by rw [HX8.out]; omega
          rw [inv_get x j hjx] at hci
          have hset := Lib.hid (inv_set x j hjx)
          have hby8 := inv_byte (x.getD j 0)
          have hsg : IntKind.u8.signed = false := rfl
          generalize x.getD j 0 = y at *
          go_wp2_with fail
          go_roundg gg
          case measure => omega
          case rel =>
            refine ⟨j + 1, by omega, by go_num, ?_, hbv.setCell hgi _⟩
            rw [← hset.out]
            exact hsi _
end Go.Proofs.Ytbmblalbnegglaa
