/-
  The texts that the claims of this seat lean on, part 3.
-/
import Derived.Test.YtibaibdgpnkdnaaDoorZ1
import Derived.Laws.CopyOwn
import Derived.Test.YtibaibdgpnkdnaaDoorRows
import Derived.Test.YtibaibdgpnkdnaaDoorZ0
import Derived.WalkKit
import Derived.Laws.Cover3
import Derived.Laws.ByValue

section
namespace Go.Proofs.YtibaibdgpnkdnaaDoor
set_option maxRecDepth 100000
set_option linter.unusedSimpArgs false
set_option linter.unusedVariables false
open Go.RowKit

theorem chain_bad (A A' A'' : Option Addr) (n n' n'' c c' c'' : Nat) (f : Value) (w : World) (h : ¬ (n = 16 ∧ n' = 8 ∧ n'' % 8 = 0)) :
    Calls Tryd.prog 52 #[.slice A n c, .slice A' n' c', .slice A'' n'' c'', f] w (BRes 5 w [] 1) := by
  by_cases h1 : n = 16
  · subst h1
    by_cases h2 : n' = 8
    · subst h2
      have h3 : ((n'' : Int) % 8 != 0) = true := by rw [bne_iff_ne]; omega
      go_enter Tryd.func52, Tryd.ntmps52
      go_wp2_with fail
      go_ret2
      exact BRes.nil _ (Below.refl _ _)
    · have h3 : ((n' : Int) != 8) = true := by rw [bne_iff_ne]; omega
      go_enter Tryd.func52, Tryd.ntmps52
      go_wp2_with fail
      go_ret2
      exact BRes.nil _ (Below.refl _ _)
  · have h3 : ((n : Int) != 16) = true := by rw [bne_iff_ne]; omega
    go_enter Tryd.func52, Tryd.ntmps52
    go_wp2_with fail
    go_ret2
    exact BRes.nil _ (Below.refl _ _)

set_option maxHeartbeats 2000000 in
theorem chain_good (fid : Nat) (p : Addr) (st : List UInt8 → List UInt8 → List UInt8 × List UInt8) (Ak Av Ad : Option Addr) (m ck cv cd : Nat) (iv d : List UInt8) (w : World)
    (hv : Byt w w.heap.size Av 8 cv iv) (hd : Byt w w.heap.size Ad (8 * m) cd d) (hn : 8 * m ≤ 1000000)
    (hcf : ∀ (args : Array Value) (u : World), (callFunc fid args).run Tryd.prog u = .ok (.enter fid args) u)
    (hst : ∀ (u : World) (A A' : Option Addr) (c c' : Nat) (x y : List UInt8), Below w.heap.size w u → Byt u u.heap.size A 8 c x → Byt u u.heap.size A' 8 c' y →
      Calls Tryd.prog fid #[.slice A 8 c, .slice A' 8 c', .pointer (some p)] u (CRes u A (st x y).1 (st x y).2)) :
    Calls Tryd.prog 52 #[.slice Ak 16 ck, .slice Av 8 cv, .slice Ad (8 * m) cd, .func (.func fid) #[] #[.pointer (some p)]] w (BRes 5 w (cSt st iv d m).1 0) := by
  obtain ⟨ti, hti, hz0, hz1, hz2⟩ := info_parts o_u8
  obtain ⟨n, hnm⟩ : ∃ n, n = 8 * m := ⟨_, rfl⟩
  rw [← hnm] at hd hn ⊢
  have h3 : ((n : Int) % 8 != 0) = false := by rw [bne_eq_false_iff_eq]; omega
  have mk : ∀ u : World, (Instr.makeSlice 22 (.int .i64 (n : Int)) (.int .i64 (n : Int))).run Tryd.prog u = .ok (.slice (some ⟨u.heap.size, 0, none⟩) n n) (u.alloc (.cells (madeCells #[.int .u8 0] n) 5)) :=
    made_u8 22 5 ti Tryd.underlying22 hti hz0 hz1 hz2 n (by omega)
  have HNM := Lib.hid hnm
  have HV := Lib.hid hv
  have HD := Lib.hid hd
  have hdc := hd.2.1
  clear hnm hv hd
  go_enter Tryd.func52, Tryd.ntmps52
  go_wp2_with (go_at_call 36; refine (slices_Clone Av 8 cv iv _ ((HV.out.below ((Below.refl _ _).alloc (Nat.le_refl _) _)).more (by simp)) (by omega)).mono ?_; rintro e w1 ⟨A1, c1, rfl, ho1, hb1⟩)
  go_loopg [11, 12] m (fun g y i wr => ∃ (k a : Nat) (A1 : Option Addr) (c1 : Nat), k + g = m ∧ Hid (a = 8 * k) ∧ i = .int .i64 (a : Int) ∧ y = .slice A1 8 c1 ∧ Byt wr wr.heap.size A1 8 c1 (cSt st iv d k).2 ∧ A1.map (·.block) ≠ some w.heap.size ∧
    Hid ((cSt st iv d k).1.length = a) ∧ Blk wr w.heap.size 5 (cOut st iv d n k).toArray ∧ Below w.heap.size w wr)
  case atStart =>
    refine ⟨0, 0, A1, c1, by omega, Lib.hid rfl, rfl, rfl, ho1.byt (Nat.le_refl _), own_far ho1 (by have := ho1.le; omega) _ (by simp), Lib.hid rfl, ?_, ((Below.refl _ _).alloc (Nat.le_refl _) _).trans (hb1.mono (by simp))⟩
    rw [cOut_zero, ← madeCells_eq]
    exact (Blk.new w 5 (madeCells #[.int .u8 0] n)).below hb1 (by simp)
  case round =>
    obtain ⟨k, a, A1, c1, hkg, hak, rfl, rfl, hy, hfar, hlen, hblk, hbw⟩ := hrel
    cases gk with
    | zero =>
      obtain rfl : k = m := by omega
      have hn : a = n := by rw [hak.out, HNM.out]
      subst hn
      go_wp2_with fail
      go_ret2
      have e1 : cOut st iv d a k = bcells (cSt st iv d k).1 := by rw [HNM.out]; exact cOut_end st iv d k
      rw [e1] at hblk
      exact BRes.mk hlen.out (by
        have h := Own.blk (s := 1) (n := a) (c := a) hblk (Nat.le_refl _) (Nat.le_refl _) (by unfold maxLen; omega) (by simp [hlen.out]) (by simp [hlen.out])
        rw [List.take_of_length_le (by simp [hlen.out])] at h
        exact h) hbw
    | succ g =>
      have hlt : (a : Int) < (n : Int) := by have := hak.out; have := HNM.out; omega
      have hle : (a : Int) + 8 ≤ (n : Int) := by have := hak.out; have := HNM.out; omega
      have p0 : (0 : Int) ≤ (a : Int) := by omega
      obtain ⟨b1, o1, rfl, hb1⟩ := HD.out.at_ (by omega)
      have hca : ¬ cd = a := by omega
      have hna : ¬ n = a := by omega
      have hc8 : (a : Int) + 8 ≤ (cd : Int) := by omega
      have hx : Byt wr wr.heap.size (some ⟨b1, o1 + a, none⟩) 8 (cd - a) (Mod.blk d k) := by
        have h1 := ((HD.out.below hbw).more hbw.size).drop a (by omega)
        have h2 := h1.take 8 (cd - a) (by omega) (by omega)
        rw [hak.out] at h2 ⊢
        exact h2
      obtain ⟨o, ho⟩ : ∃ o, (st (Mod.blk d k) (cSt st iv d k).2).1 = o := ⟨_, rfl⟩
      obtain ⟨nx, hnx⟩ : ∃ nx, (st (Mod.blk d k) (cSt st iv d k).2).2 = nx := ⟨_, rfl⟩
      have hs := hst wr _ _ _ _ _ _ hbw hx hy
      rw [ho, hnx] at hs
      have HS := Lib.hid hs
      have HO := Lib.hid ho
      have HN := Lib.hid hnx
      clear hx hy hs ho hnx
      go_wp2_with (first
        | (refine HS.out.mono ?_; rintro e w2 ⟨A2, c2, A3, c3, rfl, hb2, hb3, hbel, hfr⟩; obtain ⟨b2, o2, rfl, hb2l⟩ := hb2.at_ (by omega))
        | ((with_reducible show wpList _ _ _ (Oper.mk _ (Op.call { callee := Callee.builtin Builtin.copy, args := _, argTypes := _ }) _ _ _ _ :: _) _ _); (refine wpList_copy_own rfl (.tmp 53) (.tmp 54) 22 22 rfl 5 Tryd.underlying22 (by kernel_rfl) w.heap.size a (n - a) (n - a) ⟨b2, o2, none⟩ 8 c2 rfl rfl (cOut st iv d n k).toArray 5 ?_ (bcells o) ?_ ?_ ?_ ?_ ?_)))
      · exact hblk.below hbel hblk.lt
      · rw [length_bcells, hb2.1]; exact (Nat.min_eq_left (by omega)).symm
      · intro j v hj
        have hjl : j < (bcells o).length := (List.getElem?_eq_some_iff.1 hj).1
        obtain ⟨b, oo, e, _, hc⟩ := hb2.2.2 (by omega)
        obtain ⟨rfl, rfl⟩ : b2 = b ∧ o2 = oo := by simpa using e
        rw [add_eq, hc j hjl, hj]
      · simp only [List.size_toArray, cOut, length_bcells, List.length_append, hlen.out, hb2.1, zs_length]; have := hak.out; omega
      · exact bcells_one o
      · go_wp2_with fail
        go_roundg g
        case measure => omega
        case rel =>
          have hb := hbw.trans (hbel.mono hbw.size)
          refine ⟨k + 1, a + 8, A3, c3, by omega, Lib.hid (by rw [hak.out]; omega), by go_num, rfl, ?_, hfr _ hblk.lt (by simp; omega), Lib.hid (by rw [cSt_succ, HO.out, List.length_append, hlen.out, hb2.1]), ?_, Below.setRow hb (Nat.le_refl _) _⟩
          · rw [cSt_succ, HN.out]
            refine ⟨hb3.1, hb3.2.1, ?_⟩
            rw [size_setRow]
            intro h0
            obtain ⟨b, oo, e, hbl, hc⟩ := hb3.2.2 h0
            refine ⟨b, oo, e, hbl, fun j hj => ?_⟩
            rw [cell_setRow_other _ _ _ _ (fun hh => hfr _ hblk.lt (by simp; omega) (by rw [e]; simp at hh; simp [hh]))]
            exact hc j hj
          · have e := cOut_next st iv d n k o (by rw [hlen.out, hak.out]) (by have := hak.out; omega) HO.out hb2.1
            rw [← hak.out, length_bcells] at e
            rw [e]
            exact (hblk.below hbel hblk.lt).setRow _

theorem cf_enc : ∀ (args : Array Value) (u : World), (callFunc 53 args).run Tryd.prog u = .ok (.enter 53 args) u := fun _ _ => by kernel_rfl
theorem cf_dec : ∀ (args : Array Value) (u : World), (callFunc 65 args).run Tryd.prog u = .ok (.enter 65 args) u := fun _ _ => by kernel_rfl

/-- Encryption and decryption together: the errors and the bytes. -/
theorem cb_cases (key iv d : List UInt8) (back : Bool) : (key.length = 16 ∧ iv.length = 8 ∧ ∃ m, d.length = 8 * m ∧ Mod.cbE key iv d = 0 ∧ Mod.cbB key iv d back = if back then (Mod.dSt key iv d m).1 else (Mod.eSt key iv d m).1) ∨
    (¬ (key.length = 16 ∧ iv.length = 8 ∧ d.length % 8 = 0) ∧ Mod.cbE key iv d = 1 ∧ Mod.cbB key iv d back = []) := by
  by_cases h : key.length = 16 ∧ iv.length = 8 ∧ d.length % 8 = 0
  · obtain ⟨h1, h2, h3⟩ := h
    have := Mod.cb_ok key iv d back h1 h2 h3
    exact .inl ⟨h1, h2, d.length / 8, by omega, this.1, this.2⟩
  · exact .inr ⟨h, (Mod.cb_bad key iv d back h).1, (Mod.cb_bad key iv d back h).2⟩

set_option maxHeartbeats 1000000 in
theorem mode_EncryptCBC (A A' A'' : Option Addr) (n n' n'' c c' c'' : Nat) (key iv d : List UInt8) (w : World) (hk : Byt w w.heap.size A n c key) (hv : Byt w w.heap.size A' n' c' iv) (hd : Byt w w.heap.size A'' n'' c'' d) (hn : n'' ≤ 1000000) :
    Calls Tryd.prog 45 #[.slice A n c, .slice A' n' c', .slice A'' n'' c''] w (BRes 5 w (Mod.cbB key iv d false) (Mod.cbE key iv d)) := by
  have hmf : ∀ (fn : Fn) (first cap : Array Value) (w : World), (Instr.makeFunc fn first cap).run Tryd.prog w = .ok (.func fn first cap) w := fun _ _ _ _ => rfl
  have hu := (Below.refl w.heap.size w).alloc (Nat.le_refl _) (.cells #[.slice A n c] 22)
  have hsz : w.heap.size ≤ (w.alloc (.cells #[.slice A n c] 22)).heap.size := hu.size
  have h0 : (w.alloc (.cells #[.slice A n c] 22)).cell? ⟨w.heap.size, 0, none⟩ = some (.slice A n c) := by simp
  have hC : Calls Tryd.prog 52 #[.slice A n c, .slice A' n' c', .slice A'' n'' c'', .func (.func 53) #[] #[.pointer (some ⟨w.heap.size, 0, none⟩)]] (w.alloc (.cells #[.slice A n c] 22)) (BRes 5 (w.alloc (.cells #[.slice A n c] 22)) (Mod.cbB key iv d false) (Mod.cbE key iv d)) := by
    rcases cb_cases key iv d false with ⟨h1, h2, m, h3, h4, h5⟩ | ⟨h1, h4, h5⟩
    · rw [h4, h5]
      obtain rfl : n = 16 := by rw [← hk.1, h1]
      obtain rfl : n' = 8 := by rw [← hv.1, h2]
      obtain rfl : n'' = 8 * m := by rw [← hd.1, h3]
      refine chain_good _ ⟨w.heap.size, 0, none⟩ (stE key) A A' A'' m c c' c'' iv d _ ((hv.below hu).more hsz) ((hd.below hu).more hsz) hn cf_enc ?_
      intro u B B' b b' x y hb hx hy
      exact enc_step A B B' c b b' key x y w.heap.size u ((hk.below (hu.trans (hb.mono hsz))).more (by have := hb.size; omega)) ((hb.cell (p := ⟨w.heap.size, 0, none⟩) (by simp)).trans h0) (by have := hb.size; simp at this; omega) hx hy
    · rw [h4, h5]
      exact chain_bad _ _ _ _ _ _ _ _ _ _ _ (by rw [← hk.1, ← hv.1, ← hd.1]; exact h1)
  have HC := Lib.hid hC
  clear hC hk hv hd
  go_enter Tryd.func45, Tryd.ntmps45
  go_wp2_with (go_at_call 52; refine HC.out.mono ?_; rintro e w1 ⟨A2, d2, rfl, hown, hbel⟩)
  go_ret2
  exact ⟨A2, d2, rfl, hown.mono hsz, hu.trans (hbel.mono hsz)⟩

set_option maxHeartbeats 1000000 in
theorem mode_DecryptCBC (A A' A'' : Option Addr) (n n' n'' c c' c'' : Nat) (key iv d : List UInt8) (w : World) (hk : Byt w w.heap.size A n c key) (hv : Byt w w.heap.size A' n' c' iv) (hd : Byt w w.heap.size A'' n'' c'' d) (hn : n'' ≤ 1000000) :
    Calls Tryd.prog 57 #[.slice A n c, .slice A' n' c', .slice A'' n'' c''] w (BRes 5 w (Mod.cbB key iv d true) (Mod.cbE key iv d)) := by
  have hmf : ∀ (fn : Fn) (first cap : Array Value) (w : World), (Instr.makeFunc fn first cap).run Tryd.prog w = .ok (.func fn first cap) w := fun _ _ _ _ => rfl
  have hu := (Below.refl w.heap.size w).alloc (Nat.le_refl _) (.cells #[.slice A n c] 22)
  have hsz : w.heap.size ≤ (w.alloc (.cells #[.slice A n c] 22)).heap.size := hu.size
  have h0 : (w.alloc (.cells #[.slice A n c] 22)).cell? ⟨w.heap.size, 0, none⟩ = some (.slice A n c) := by simp
  have hC : Calls Tryd.prog 52 #[.slice A n c, .slice A' n' c', .slice A'' n'' c'', .func (.func 65) #[] #[.pointer (some ⟨w.heap.size, 0, none⟩)]] (w.alloc (.cells #[.slice A n c] 22)) (BRes 5 (w.alloc (.cells #[.slice A n c] 22)) (Mod.cbB key iv d true) (Mod.cbE key iv d)) := by
    rcases cb_cases key iv d true with ⟨h1, h2, m, h3, h4, h5⟩ | ⟨h1, h4, h5⟩
    · rw [h4, h5]
      obtain rfl : n = 16 := by rw [← hk.1, h1]
      obtain rfl : n' = 8 := by rw [← hv.1, h2]
      obtain rfl : n'' = 8 * m := by rw [← hd.1, h3]
      refine chain_good _ ⟨w.heap.size, 0, none⟩ (stD key) A A' A'' m c c' c'' iv d _ ((hv.below hu).more hsz) ((hd.below hu).more hsz) hn cf_dec ?_
      intro u B B' b b' x y hb hx hy
      exact dec_step A B B' c b b' key x y w.heap.size u ((hk.below (hu.trans (hb.mono hsz))).more (by have := hb.size; omega)) ((hb.cell (p := ⟨w.heap.size, 0, none⟩) (by simp)).trans h0) hx hy
    · rw [h4, h5]
      exact chain_bad _ _ _ _ _ _ _ _ _ _ _ (by rw [← hk.1, ← hv.1, ← hd.1]; exact h1)
  have HC := Lib.hid hC
  clear hC hk hv hd
  go_enter Tryd.func57, Tryd.ntmps57
  go_wp2_with (go_at_call 52; refine HC.out.mono ?_; rintro e w1 ⟨A2, d2, rfl, hown, hbel⟩)
  go_ret2
  exact ⟨A2, d2, rfl, hown.mono hsz, hu.trans (hbel.mono hsz)⟩
end Go.Proofs.YtibaibdgpnkdnaaDoor
end

section
namespace Go.Proofs.YtibaibdgpnkdnaaDoor
set_option maxRecDepth 100000
set_option linter.unusedSimpArgs false
set_option linter.unusedVariables false
open Go.RowKit

set_option maxHeartbeats 1000000 in
theorem mode_MAC (A A' A'' : Option Addr) (n n' n'' c c' c'' : Nat) (key iv d : List UInt8) (w : World) (hk : Byt w w.heap.size A n c key) (hv : Byt w w.heap.size A' n' c' iv) (hd : Byt w w.heap.size A'' n'' c'' d) (hn : n'' ≤ 100000) :
    Calls Tryd.prog 48 #[.slice A n c, .slice A' n' c', .slice A'' n'' c''] w (BRes 5 w (Mod.mcB key iv d) (Mod.mcE key iv)) := by
  obtain ⟨e1, e2⟩ := Mod.mc_cb key iv d
  have hpl := Oct.pad_length d 8
  have hpn := Oct.padN_lt d.length 8 (by omega)
  have hP : Calls Tryd.prog 56 #[.slice A'' n'' c''] w (BOne 5 w (Oct.pad d 8)) := mode_pad A'' n'' c'' d w hd (by omega)
  have HP := Lib.hid hP
  have hE : ∀ (u : World) (A2 : Option Addr) (c2 : Nat), Below w.heap.size w u → Byt u u.heap.size A2 (Oct.pad d 8).length c2 (Oct.pad d 8) →
      Calls Tryd.prog 45 #[.slice A n c, .slice A' n' c', .slice A2 (Oct.pad d 8).length c2] u (BRes 5 u (Mod.cbB key iv (Oct.pad d 8) false) (Mod.mcE key iv)) := fun u A2 c2 hb h2 => by
    rw [← e1]
    exact mode_EncryptCBC A A' A2 n n' _ c c' c2 key iv _ u ((hk.below hb).more hb.size) ((hv.below hb).more hb.size) h2 (by rw [hpl]; have := hd.1; omega)
  have hd1 := hd.1
  clear hP hk hv hd e1
  by_cases hok : key.length = 16 ∧ iv.length = 8
  · have hm0 : Mod.mcE key iv = 0 := by unfold Mod.mcE; rw [if_pos hok]
    obtain ⟨e3, e4, e5⟩ := e2 hm0
    have hml := Mod.mcB_length key iv d hok
    obtain ⟨q, hq⟩ : ∃ q, (Oct.pad d 8).length = q + 8 := ⟨(Oct.pad d 8).length - 8, by omega⟩
    have hbl : (Mod.cbB key iv (Oct.pad d 8) false).length = q + 8 := by rw [e4, hq]
    rw [hq, Nat.add_sub_cancel] at e3
    rw [hm0] at hE ⊢
    generalize Mod.cbB key iv (Oct.pad d 8) false = bb at *
    generalize Mod.mcB key iv d = mb at *
    have hE' : ∀ (u : World) (A2 : Option Addr) (c2 : Nat), Below w.heap.size w u → Byt u u.heap.size A2 (Oct.pad d 8).length c2 (Oct.pad d 8) →
      Calls Tryd.prog 45 #[.slice A n c, .slice A' n' c', .slice A2 (Oct.pad d 8).length c2] u fun e u' => ∃ b o c3, e = .returned (.tuple #[.slice (some ⟨b, o, none⟩) (q + 8) c3, .int .i64 0]) ∧ Byt u' u'.heap.size (some ⟨b, o, none⟩) (q + 8) c3 bb ∧ Below u.heap.size u u' := fun u A2 c2 hb h2 => by
      refine (hE u A2 c2 hb h2).mono ?_
      rintro e u' ⟨A3, c3, rfl, ho, hb3⟩
      have hby := ho.byt (Nat.le_refl _)
      rw [hbl] at hby ⊢
      obtain ⟨b, o, rfl, _⟩ := hby.at_ (by omega)
      exact ⟨b, o, c3, rfl, hby, hb3⟩
    have HE := Lib.hid hE'
    have hq2 : q + 8 ≤ 1000000 := by omega
    have E3 := Lib.hid e3
    have HML := Lib.hid hml
    clear hE hE' e2 e4 e5 hm0 e3 hml hbl hq hpl hpn hd1
    generalize Oct.pad d 8 = pd at *
    go_enter Tryd.func48, Tryd.ntmps48
    go_wp2_with (go_at_call 56; refine HP.out.mono ?_; rintro e w1 ⟨A2, c2, rfl, ho2, hb2⟩)
    go_wp2_with ((go_at_call 45; refine (HE.out _ A2 c2 hb2 (ho2.byt (Nat.le_refl _))).mono ?_; rintro e w2 ⟨b, o, c3, rfl, hy, hb3⟩; have hcc := hy.2.1; have q1 : ¬ c3 = q := by omega))
    have hy8 : Byt w2 w2.heap.size (some ⟨b, o + q, none⟩) 8 (c3 - q) mb := by
      have h1 := hy.drop q (by omega)
      rw [Nat.add_sub_cancel_left, ← E3.out] at h1
      exact h1
    go_wp2_with (go_at_call 36; refine (slices_Clone _ 8 (c3 - q) mb _ hy8 (by omega)).mono ?_; rintro e w3 ⟨A4, c4, rfl, ho4, hb4⟩)
    go_ret2
    exact BRes.mk HML.out (ho4.mono (by have := hb2.size; have := hb3.size; omega)) (hb2.trans ((hb3.trans (hb4.mono hb3.size)).mono hb2.size))
  · have hm0 : Mod.mcE key iv = 1 := by unfold Mod.mcE; rw [if_neg hok]
    have hm1 : Mod.mcB key iv d = [] := by unfold Mod.mcB; rw [if_neg hok]
    rw [hm0] at hE ⊢
    rw [hm1]
    have HE := Lib.hid hE
    clear hE e2 hm0 hm1 hpl hpn hd1
    generalize Oct.pad d 8 = pd at *
    go_enter Tryd.func48, Tryd.ntmps48
    go_wp2_with (first
      | (go_at_call 56; refine HP.out.mono ?_; rintro e w1 ⟨A2, c2, rfl, ho2, hb2⟩)
      | (go_at_call 45; refine (HE.out _ A2 c2 hb2 (ho2.byt (Nat.le_refl _))).mono ?_; rintro e w2 ⟨A3, c3, rfl, ho3, hb3⟩))
    go_ret2
    exact BRes.nil _ (hb2.trans (hb3.mono hb2.size))
end Go.Proofs.YtibaibdgpnkdnaaDoor
end

section
namespace Go.Proofs.YtibaibdgpnkdnaaDoor
set_option maxRecDepth 100000
set_option linter.unusedSimpArgs false
set_option linter.unusedVariables false
open Go.RowKit
set_option maxHeartbeats 4000000

theorem Only.same {w w' : World} {g : Nat} {t : TypeId} {cs : Array Value} (ho : Only (fun q => q = g) w w') (h : Blk w g t cs) (h' : Blk w' g t cs) : Below w.heap.size w w' :=
  ⟨ho.os, ho.tape, ho.output, ho.size, fun k hk => by
    by_cases e : k = g
    · subst e; unfold Blk at h h'; rw [h, h']
    · exact ho.block k hk e⟩
theorem Mem.low {w0 w : World} {L : List Ent} {O : List Osl} (hm : Mem (fun _ => False) w0 w L O) : Below w0.heap.size w0 w := hm.only.below (Nat.le_refl _) (fun _ _ e => e)
theorem Byt.low {w0 w : World} {L : List Ent} {O : List Osl} {A : Option Addr} {n c : Nat} {bs : List UInt8} (h : Byt w0 w0.heap.size A n c bs) (hm : Mem (fun _ => False) w0 w L O) : Byt w w.heap.size A n c bs := (h.below hm.low).more hm.only.size
theorem Byt.only {w w' : World} {A : Option Addr} {n c : Nat} {bs : List UInt8} {R : Nat → Prop} (h : Byt w w.heap.size A n c bs) (ho : Only R w w') (hg : ∀ a, A = some a → 0 < n → ¬ R a.block) : Byt w' w'.heap.size A n c bs := by
  refine ⟨h.1, h.2.1, fun hn => ?_⟩
  obtain ⟨b, o, e, hb, hc⟩ := h.2.2 hn
  refine ⟨b, o, e, Nat.lt_of_lt_of_le hb ho.size, fun j hj => ?_⟩
  rw [← hc j hj]
  have h0 : 0 < n := by rw [length_bcells, h.1] at hn; exact hn
  have := ho.block b hb (hg _ e h0)
  unfold World.cell?
  rw [this]
theorem Mem.fresh {R : Nat → Prop} {s w : World} {L : List Ent} {O : List Osl} {x : Osl} (hm : Mem R s w L O) (k : Nat) (hk : O[k]? = some x) (hR : ∀ q, R q → ∃ e ∈ L, e.g = q) : Own w s.heap.size x.t x.s x.A x.n x.c x.cs := by
  have hmem := List.mem_of_getElem? hk
  have h := hm.sl _ hmem
  refine ⟨h.1, h.2.1, h.2.2.1, fun hc => ?_⟩
  obtain ⟨g, cur, e, hb, r⟩ := h.2.2.2 hc
  have hq : ownAt x.A x.c = some g := by unfold ownAt; rw [if_neg (by omega), e]; rfl
  refine ⟨g, cur, e, ?_, r⟩
  rcases hm.slR _ hmem g hq with h1 | h1
  · obtain ⟨e2, he, h2⟩ := hR g h1
    exact absurd (h2 ▸ hq) (hm.slL _ hmem e2 he)
  · exact h1
theorem Mem.own_ {w0 w : World} {L : List Ent} {O : List Osl} {x : Osl} (hm : Mem (fun _ => False) w0 w L O) (k : Nat) (hk : O[k]? = some x) : Own w w0.heap.size x.t x.s x.A x.n x.c x.cs := hm.fresh k hk (fun q hq => hq.elim)
theorem Mem.quiet {w w' : World} {L : List Ent} {O : List Osl} {g : Nat} {t : TypeId} {cs : Array Value} (hm : Mem (fun q => q = g) w w' (⟨g, t, cs⟩ :: L) O) (hb : Blk w g t cs) : Below w.heap.size w w' := Only.same hm.only hb (hm.at_ 0 rfl)
/-- A call that hands back bytes of its own. -/
def ORes (w : World) (bs : List UInt8) (e : Ending) (w' : World) : Prop :=
  ∃ A c, e = .returned (.slice A bs.length c) ∧ Own w' w.heap.size 5 1 A bs.length c (bcells bs) ∧ Below w.heap.size w w'
theorem ORes.len {w : World} {bs : List UInt8} {e : Ending} {w' : World} (h : ORes w bs e w') {n : Nat} (hn : bs.length = n) : ∃ A c, e = .returned (.slice A n c) ∧ Own w' w.heap.size 5 1 A n c (bcells bs) ∧ Below w.heap.size w w' := by
  subst hn; exact h
theorem ORes.mk {R : Nat → Prop} {L : List Ent} {O : List Osl} {w0 w : World} {bs X : List UInt8} {A : Option Addr} {n c : Nat} (hm : Mem R w0 w L O) (k : Nat) (hk : O[k]? = some ⟨5, 1, A, n, c, bcells X⟩) (hX : X = bs) (hn : bs.length = n) (hR : ∀ q, ¬ R q) : ORes w0 bs (.returned (.slice A n c)) w := by
  subst hX
  subst hn
  exact ⟨A, c, rfl, hm.fresh k hk (fun q hq => absurd hq (hR q)), hm.only.below (Nat.le_refl _) (fun _ _ => hR _)⟩
theorem Byt.sup {w : World} {A : Option Addr} {n c : Nat} {bs : List UInt8} (h : Byt w w.heap.size A n c bs) : Sup w (blks #[.slice A n c]) (fun u => Byt u u.heap.size A n c bs) := by
  have hin : 0 < n → ∀ a, A = some a → blks #[.slice A n c] a.block := fun hn a e => ⟨A, n, c, a, by simp, hn, e, rfl⟩
  refine ⟨h, fun q hq => ?_, fun R w' ho hd => h.only ho fun a e hn => hd _ (hin hn a e)⟩
  obtain ⟨A', n', c', a, hm, hn, e, rfl⟩ := hq
  simp at hm
  obtain ⟨rfl, rfl, rfl⟩ := hm
  obtain ⟨b, o, e2, hb⟩ := h.at_ hn
  rw [e] at e2; injection e2 with e2; subst e2
  exact hb
theorem ORes.nil {w w' : World} (h : Below w.heap.size w w') : ORes w [] (.returned (.slice none 0 0)) w' := ⟨none, 0, rfl, Own.none_ _ _ _ _ _, h⟩
/-- A slice that a call has made, with the whole of its block. -/
theorem Mem.gotB {R : Nat → Prop} {s w w' : World} {L : List Ent} {O : List Osl} {q : Nat} {t : TypeId} {cs : Array Value} (hm : Mem R s w L O) (hb : Below w.heap.size w w') (hq : w.heap.size ≤ q) (hB : Blk w' q t cs) : Mem R s w' (⟨q, t, cs⟩ :: L) O :=
  (hm.below hb).cons hB (.inr (Nat.le_trans hm.only.size hq)) (fun e he e2 => by have := hm.lt he; omega) (fun x hx e => by have := hm.slt hx e; omega)
theorem Own.whole {w : World} {base : Nat} {t : TypeId} {A : Option Addr} {n c : Nat} {x : UInt8} {xs : List UInt8} (h : Own w base t 1 A n c (bcells (x :: xs))) :
    ∃ q tl, A = some ⟨q, 0, none⟩ ∧ base ≤ q ∧ Blk w q t (B8 x :: (bcells xs ++ tl)).toArray := by
  have hn := h.len
  have hle := h.le
  have hn1 : (bcells (x :: xs)).length = xs.length + 1 := by simp
  obtain ⟨q, cur, e, hb, hh, _, ht⟩ := h.2.2.2 (by omega)
  refine ⟨q, cur.toList.drop (n * 1), e, hb, ?_⟩
  have : cur = (B8 x :: (bcells xs ++ cur.toList.drop (n * 1))).toArray := by
    apply Array.toList_inj.1
    show cur.toList = bcells (x :: xs) ++ cur.toList.drop (n * 1)
    rw [← ht, List.take_append_drop]
  unfold Blk
  rw [hh, ← this]
theorem Blk.byt {w : World} {q : Nat} {t : TypeId} {n c : Nat} {x : UInt8} {xs : List UInt8} {tl : List Value} (h : Blk w q t (B8 x :: (bcells xs ++ tl)).toArray) (hn : xs.length + 1 = n) (hc : n ≤ c) : Byt w w.heap.size (some ⟨q, 0, none⟩) n c (x :: xs) := by
  refine ⟨by simpa using hn, hc, ?_⟩
  have hr := h.row.take n
  rwa [show ((B8 x :: (bcells xs ++ tl)).toArray.toList).take n = bcells (x :: xs) by
    show (bcells (x :: xs) ++ tl).take n = _
    rw [List.take_left' (by simpa using hn)]] at hr
theorem ORes.of {w0 w : World} {bs : List UInt8} {A : Option Addr} {n c : Nat} (hn : bs.length = n) (ho : Own w w0.heap.size 5 1 A n c (bcells bs)) (hb : Below w0.heap.size w0 w) : ORes w0 bs (.returned (.slice A n c)) w := by subst hn; exact ⟨A, c, rfl, ho, hb⟩
/-- The one block that might have turned has not. -/
theorem Mem.still {w w' : World} {L : List Ent} {O : List Osl} {g : Nat} {t : TypeId} {cs : Array Value} (hm : Mem (fun q => q = g) w w' L O) (k : Nat) (hk : L[k]? = some ⟨g, t, cs⟩) (hb : Blk w g t cs) : Below w.heap.size w w' := Only.same hm.only hb (hm.at_ k hk)
theorem Mem.freshG {w w' : World} {L : List Ent} {O : List Osl} {g : Nat} {t : TypeId} {cs : Array Value} {x : Osl} (hm : Mem (fun q => q = g) w w' L O) (k j : Nat) (hk : L[k]? = some ⟨g, t, cs⟩) (hj : O[j]? = some x) : Own w' w.heap.size x.t x.s x.A x.n x.c x.cs :=
  hm.fresh j hj (fun q hq => ⟨_, List.mem_of_getElem? hk, hq.symm⟩)
end Go.Proofs.YtibaibdgpnkdnaaDoor
end

section
namespace Go.Proofs.YtibaibdgpnkdnaaDoor
set_option maxRecDepth 100000
set_option linter.unusedSimpArgs false
set_option linter.unusedVariables false
open Go.RowKit

theorem r01_u8 : (Tryd.prog.info? 5).map (fun i => (i.zero, i.size, i.bytes)) = some (some (.int .u8 0), 1, 1) := by kernel_rfl

end Go.Proofs.YtibaibdgpnkdnaaDoor
end

section
namespace Go.Proofs.YtibaibdgpnkdnaaDoor
set_option maxRecDepth 100000
set_option linter.unusedSimpArgs false
set_option linter.unusedVariables false
open Go.RowKit

theorem byts_two {u : World} {i1 i2 nl cl : Nat} {t : TypeId} {Al : Option Addr} {x : UInt8} {l : List UInt8} (h1 : Blk u i1 5 #[B8 x]) (h2 : Blk u i2 t #[.slice (some ⟨i1, 0, none⟩) 1 1, .slice Al nl cl]) (hl : Byt u u.heap.size Al nl cl l) :
    Byts u u.heap.size (some ⟨i2, 0, none⟩) [⟨some ⟨i1, 0, none⟩, 1, 1, [x]⟩, ⟨Al, nl, cl, l⟩] := by
  refine ⟨h2.row, fun v hv => ?_⟩
  rcases List.mem_cons.1 hv with rfl | hv
  · exact byt_blk (bs := [x]) h1 h1.lt rfl
  · obtain rfl := List.mem_singleton.1 hv
    exact hl
theorem join_two {u : World} {i1 i2 nl cl : Nat} {t : TypeId} {Al : Option Addr} {x : UInt8} {l : List UInt8} (h2 : Blk u i2 t #[.slice (some ⟨i1, 0, none⟩) 1 1, .slice Al nl cl]) (h1 : Blk u i1 5 #[B8 x]) (hl : Byt u u.heap.size Al nl cl l) (hn : nl ≤ 1000000) :
    Calls Tryd.prog 32 #[.slice (some ⟨i2, 0, none⟩) 2 2] u fun e u' => ∃ A2 c2, e = .returned (.slice A2 (nl + 1) c2) ∧ Own u' u.heap.size 5 1 A2 (nl + 1) c2 (bcells (x :: l)) ∧ Below u.heap.size u u' := by
  have e : joined [⟨some ⟨i1, 0, none⟩, 1, 1, [x]⟩, ⟨Al, nl, cl, l⟩] = x :: l := by simp [joined]
  have hj : (x :: l).length = nl + 1 := by rw [List.length_cons, hl.1]
  refine (octets_Join (some ⟨i2, 0, none⟩) 2 2 _ u (byts_two h1 h2 hl) rfl (by omega) (by rw [e, hj]; omega)).mono ?_
  rintro e' u' ⟨A2, c2, rfl, ho, hb⟩
  rw [e, hj] at ho ⊢
  exact ⟨A2, c2, rfl, ho, hb⟩

/-- The derived key after k rounds. -/
def drK (key label : List UInt8) : Nat → List UInt8
  | 0 => []
  | k + 1 => drK key label k ++ Mod.mcB key Mod.z8 (UInt8.ofNat (k + 1) :: label)
theorem drK_two (key label : List UInt8) (h : key.length = 16) : drK key label 2 = Mod.drB key label := by
  unfold Mod.drB; rw [if_pos h]; rfl
theorem drK_length (key label : List UInt8) (h : key.length = 16) (k : Nat) : (drK key label k).length = 8 * k := by
  induction k with
  | zero => rfl
  | succ k ih => show (drK key label k ++ _).length = _; rw [List.length_append, ih, Mod.mcB_length _ _ _ ⟨h, rfl⟩]; omega

end Go.Proofs.YtibaibdgpnkdnaaDoor
end

section
namespace Go.Proofs.YtibaibdgpnkdnaaDoor
set_option maxRecDepth 100000
set_option linter.unusedSimpArgs false
set_option linter.unusedVariables false
open Go.RowKit

/-- A slice of ints: n of them, capacity c. -/
def Ints (w : World) (B : Nat) (A : Option Addr) (n c : Nat) (xs : List Int) : Prop := xs.length = n ∧ n ≤ c ∧ Row w B A (xs.map I64)
section
variable {w w' : World} {B B' : Nat} {A : Option Addr} {n c : Nat} {xs : List Int}
theorem Ints.below (h : Ints w B A n c xs) (hb : Below B w w') : Ints w' B A n c xs := ⟨h.1, h.2.1, h.2.2.below hb⟩
theorem Ints.more (h : Ints w B A n c xs) (hB : B ≤ B') : Ints w B' A n c xs := ⟨h.1, h.2.1, h.2.2.more hB⟩
theorem Ints.at_ (h : Ints w B A n c xs) {k : Nat} (hk : k < n) : ∃ b o, A = some ⟨b, o, none⟩ ∧ b < B ∧ w.cell? ⟨b, o + k, none⟩ = some (.int .i64 (xs.getD k 0)) := by
  have hl : k < xs.length := by rw [h.1]; exact hk
  obtain ⟨b, o, e, hb, hc⟩ := h.2.2.at_ (j := k) (by simpa using hl)
  exact ⟨b, o, e, hb, by rw [hc]; simp [List.getD, List.getElem?_eq_getElem hl]⟩
end
theorem ints_of_row {w : World} {a : Option Addr} {len cap : Nat} {zs : List Int}
    (h : (a = none ∧ len = 0 ∧ cap = 0 ∧ zs = []) ∨ ∃ x, a = some x ∧ len ≤ cap ∧ cap ≤ maxLen ∧ zs.length = cap ∧ (∀ i, i < zs.length → w.cell? (x.add i) = some (.int .i64 (zs.getD i 0))) ∧ ∀ n ∈ zs, (Lit.int .i64 n).wf = true) :
    ∃ xs, Ints w w.heap.size a len cap xs ∧ cap ≤ maxLen ∧ ∀ n ∈ xs, (Lit.int .i64 n).wf = true := by
  rcases h with ⟨rfl, rfl, rfl, rfl⟩ | ⟨x, rfl, hl, hm, hz, hc, hw⟩
  · exact ⟨[], ⟨rfl, Nat.le_refl _, Row.nil _ _ _⟩, Nat.zero_le _, fun n hn => by cases hn⟩
  · refine ⟨zs.take len, ⟨by simp; omega, hl, fun hn => ?_⟩, hm, fun n hn => hw n (List.mem_of_mem_take hn)⟩
    have hn' : 0 < len := by simp at hn; omega
    have hc0 := hc 0 (by omega)
    have hx0 : x.add 0 = x := by unfold Addr.add; simp
    rw [hx0] at hc0
    obtain ⟨b, o, s⟩ := x
    have hs : s = none := by
      cases s with
      | none => rfl
      | some q => simp only [World.cell?] at hc0; split at hc0 <;> simp at hc0
    subst hs
    refine ⟨b, o, rfl, World.block_lt_of_cell? w _ hc0, fun j hj => ?_⟩
    rw [List.length_map, List.length_take] at hj
    have hj' : j < zs.length := by omega
    have h1 := hc j hj'
    rw [add_eq] at h1
    rw [h1, List.getElem?_map, List.getElem?_take, if_pos (by omega), List.getElem?_eq_getElem hj']
    simp only [List.getD, List.getElem?_eq_getElem hj', Option.getD_some, Option.map_some, I64]
end Go.Proofs.YtibaibdgpnkdnaaDoor
end

section
namespace Go.Proofs.YtibaibdgpnkdnaaDoor
set_option maxRecDepth 100000
set_option linter.unusedSimpArgs false
set_option linter.unusedVariables false
open Go.RowKit Go.ChangeShapes Go.WideShapes Go.Deep

theorem ints_of_trod {H : Type} {enc : TypeId × Value → H} {w : World} {base : Nat} {spare : Nat → Bool} {held : Bool} {A : Option Addr} {n c : Nat} {d : DataW H} {p : List MemPlace}
    (h : DataW.Trod enc Tryd.prog w base spare held 100 (.slice A n c) d p) : ∃ xs : List Int, (Ints w w.heap.size A n c xs ∧ ∀ z ∈ xs, (Lit.int .i64 z).wf = true) ∧ c ≤ maxLen := by
  obtain ⟨fuel, hf⟩ := h
  rcases flat_slice (k := 1) (ts := [3]) Tryd.underlying100 (by kernel_rfl) hf with hcs | ⟨a, len, cap, hcs, hl, hm, hr⟩
  · simp [Value.cells] at hcs
    obtain ⟨rfl, rfl, rfl⟩ := hcs
    exact ⟨[], ⟨⟨rfl, Nat.le_refl _, Row.nil _ _ _⟩, fun z hz => (by cases hz)⟩, Nat.zero_le _⟩
  · simp [Value.cells] at hcs
    obtain ⟨rfl, rfl, rfl⟩ := hcs
    have hC : Tryd.prog.cellsOf 3 = 1 := by kernel_rfl
    rw [hC] at hr
    obtain ⟨l, h1, h2, h3⟩ := recs_of (cells := fun z : Int => [I64 z]) (s := 1) (n := n) (w := w) (a := a) (G := fun z => (Lit.int .i64 z).wf = true) (fun x => ⟨_, rfl⟩) (fun i hi => by
      obtain ⟨v0, c0, t0⟩ := hr i hi 0 _ rfl
      obtain ⟨z, rfl, hz⟩ := t0.int Tryd.underlying3
      refine ⟨z, fun j v hv => ?_, by simpa [Lit.wf, IntKind.min, IntKind.max, IntKind.signed, IntKind.bits] using hz⟩
      match j, hv with
      | 0, hv => injection hv with hv; subst hv; exact c0
      | j + 1, hv => simp at hv)
    refine ⟨l, ⟨⟨h1, hl, fun hn => ?_⟩, h3⟩, hm⟩
    obtain ⟨b, o, e, hb, hc⟩ := h2 (by simpa using hn)
    refine ⟨b, o, e, hb, fun j hj => ?_⟩
    have hjl : j < l.length := by simpa using hj
    have := hc j _ (List.getElem?_eq_getElem hjl) 0 _ rfl
    rw [show j * 1 + 0 = j by omega] at this
    rw [this, List.getElem?_map, List.getElem?_eq_getElem hjl]
    rfl
end Go.Proofs.YtibaibdgpnkdnaaDoor
end

section
namespace Go.Proofs.YtibaibdgpnkdnaaDoor
set_option maxRecDepth 100000
set_option linter.unusedSimpArgs false
set_option linter.unusedVariables false
open Go.RowKit

section
variable {P : Program}
theorem equalIn_func_nil (d : Nat) {t : TypeId} {ps rs : Array TypeId} {vr : Bool} (h : P.underlying t = some (.func ps rs vr)) (fn : Fn) (a b : Array Value) (w : World) : (Op.equalIn (d + 1) t (.func fn a b) .nilFunc).run P w = .ok false w := by
  simp [Op.equalIn, run_underlying h]
theorem equalIn_nil_nil (d : Nat) {t : TypeId} {ps rs : Array TypeId} {vr : Bool} (h : P.underlying t = some (.func ps rs vr)) (w : World) : (Op.equalIn (d + 1) t .nilFunc .nilFunc).run P w = .ok true w := by
  simp [Op.equalIn, run_underlying h]
theorem equal_func_nil {t : TypeId} {ps rs : Array TypeId} {vr : Bool} (h : P.underlying t = some (.func ps rs vr)) (fn : Fn) (a b : Array Value) (w : World) : (Op.equal t (.func fn a b) .nilFunc).run P w = .ok false w := equalIn_func_nil 9999 h fn a b w
theorem equal_nil_nil {t : TypeId} {ps rs : Array TypeId} {vr : Bool} (h : P.underlying t = some (.func ps rs vr)) (w : World) : (Op.equal t .nilFunc .nilFunc).run P w = .ok true w := equalIn_nil_nil 9999 h w
theorem eql_func_nil {t : TypeId} {ps rs : Array TypeId} {vr : Bool} (h : P.underlying t = some (.func ps rs vr)) (fn : Fn) (a b : Array Value) (w : World) : (binOp .eql t (.func fn a b) .nilFunc).run P w = .ok (.bool false) w := by
  simp only [binOp]
  simp [equal_func_nil h]
theorem neq_func_nil {t : TypeId} {ps rs : Array TypeId} {vr : Bool} (h : P.underlying t = some (.func ps rs vr)) (fn : Fn) (a b : Array Value) (w : World) : (binOp .neq t (.func fn a b) .nilFunc).run P w = .ok (.bool true) w := by
  simp only [binOp]
  simp [equal_func_nil h]
theorem eql_nil_nil {t : TypeId} {ps rs : Array TypeId} {vr : Bool} (h : P.underlying t = some (.func ps rs vr)) (w : World) : (binOp .eql t .nilFunc .nilFunc).run P w = .ok (.bool true) w := by
  simp only [binOp]
  simp [equal_nil_nil h]
theorem neq_nil_nil {t : TypeId} {ps rs : Array TypeId} {vr : Bool} (h : P.underlying t = some (.func ps rs vr)) (w : World) : (binOp .neq t .nilFunc .nilFunc).run P w = .ok (.bool false) w := by
  simp only [binOp]
  simp [equal_nil_nil h]
theorem neq_map_nil {t k e : TypeId} (h : P.underlying t = some (.map k e)) (m : Option Nat) (w : World) : (binOp .neq t (.map m) (.map none)).run P w = .ok (.bool (!m.isNone)) w := Go.run_neq_map_nil w t k e m h
theorem make_func (fn : Fn) (a b : Array Value) (w : World) : (Instr.makeFunc fn a b).run P w = .ok (.func fn a b) w := rfl
end
end Go.Proofs.YtibaibdgpnkdnaaDoor
end
