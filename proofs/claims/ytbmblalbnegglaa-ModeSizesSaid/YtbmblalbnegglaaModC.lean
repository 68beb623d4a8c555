/-
  The walk of the modes: the chain.
-/
import Derived.Test.YtbmblalbnegglaaModW
import Derived.Laws.CopyOwn
namespace Go.Proofs.Ytbmblalbnegglaa
open Go.RowKit

theorem chain_bad (A A' A'' : Option Addr) (n n' n'' c c' c'' : Nat) (f : Value) (w : World) (h : ¬ (n = 16 ∧ n' = 8 ∧ n'' % 8 = 0)) :
    Calls Try.prog 27 #[.slice A n c, .slice A' n' c', .slice A'' n'' c'', f] w (BRes 5 w [] 1) := by
  by_cases h1 : n = 16
  · subst h1
    by_cases h2 : n' = 8
    · subst h2
      have h3 : ((n'' : Int) % 8 != 0) = true := by rw [bne_iff_ne]; omega
      go_enter Try.func27, Try.ntmps27
      go_wp2_with fail
      go_ret2
      exact BRes.nil _ (Below.refl _ _)
    · have h3 : ((n' : Int) != 8) = true := by rw [bne_iff_ne]; omega
      go_enter Try.func27, Try.ntmps27
      go_wp2_with fail
      go_ret2
      exact BRes.nil _ (Below.refl _ _)
  · have h3 : ((n : Int) != 16) = true := by rw [bne_iff_ne]; omega
    go_enter Try.func27, Try.ntmps27
    go_wp2_with fail
    go_ret2
    exact BRes.nil _ (Below.refl _ _)

set_option maxHeartbeats 2000000 in
theorem chain_good (fid : Nat) (p : Addr) (st : List UInt8 → List UInt8 → List UInt8 × List UInt8) (Ak Av Ad : Option Addr) (m ck cv cd : Nat) (iv d : List UInt8) (w : World)
    (hv : Byt w w.heap.size Av 8 cv iv) (hd : Byt w w.heap.size Ad (8 * m) cd d) (hn : 8 * m ≤ 1000000)
    (hcf : ∀ (args : Array Value) (u : World), (callFunc fid args).run Try.prog u = .ok (.enter fid args) u)
    (hst : ∀ (u : World) (A A' : Option Addr) (c c' : Nat) (x y : List UInt8), Below w.heap.size w u → Byt u u.heap.size A 8 c x → Byt u u.heap.size A' 8 c' y →
      Calls Try.prog fid #[.slice A 8 c, .slice A' 8 c', .pointer (some p)] u (CRes u A (st x y).1 (st x y).2)) :
    Calls Try.prog 27 #[.slice Ak 16 ck, .slice Av 8 cv, .slice Ad (8 * m) cd, .func (.func fid) #[] #[.pointer (some p)]] w (BRes 5 w (cSt st iv d m).1 0) := by
  obtain ⟨ti, hti, hz0, hz1, hz2⟩ := info_parts o_u8
  obtain ⟨n, hnm⟩ : ∃ n, n = 8 * m := ⟨_, rfl⟩
  rw [← hnm] at hd hn ⊢
  have h3 : ((n : Int) % 8 != 0) = false := by rw [bne_eq_false_iff_eq]; omega
  have mk : ∀ u : World, (Instr.makeSlice 22 (.int .i64 (n : Int)) (.int .i64 (n : Int))).run Try.prog u = .ok (.slice (some ⟨u.heap.size, 0, none⟩) n n) (u.alloc (.cells (madeCells #[.int .u8 0] n) 5)) :=
    made_u8 22 5 ti Try.underlying22 hti hz0 hz1 hz2 n (by omega)
  have HNM := Lib.hid hnm
  have HV := Lib.hid hv
  have HD := Lib.hid hd
  have hdc := hd.2.1
  clear hnm hv hd
  go_enter Try.func27, Try.ntmps27
  go_wp2_with (go_at_call 33; refine (slices_Clone Av 8 cv iv _ ((HV.out.below ((Below.refl _ _).alloc (Nat.le_refl _) _)).more (by simp)) (by omega)).mono ?_; rintro e w1 ⟨A1, c1, rfl, ho1, hb1⟩)
  go_loopg [11, 12] m (fun g y i wr => ∃ (k a : Nat) (A1 : Option Addr) (c1 : Nat), k + g = m ∧ Hid (a = 8 * k) ∧ i = .int .i64 (a : Int) ∧ y = .slice A1 8 c1 ∧ Byt wr wr.heap.size A1 8 c1 (cSt st iv d k).2 ∧ A1.map (·.block) ≠ some w.heap.size ∧
    Hid ((cSt st iv d k).1.length = a) ∧ Blk wr w.heap.size 5 (cOut st iv d n k).toArray ∧ Below w.heap.size w wr)
  case atStart =>
    refine ⟨0, 0, A1, c1, by omega, Lib.hid rfl, rfl, rfl, ho1.byt (Nat.le_refl _), own_far ho1 (by have := ho1.le; omega) _ (by simp), Lib.hid rfl, ?_, ((Below.refl _ _).alloc (Nat.le_refl _) _).trans (hb1.mono (by simp))⟩
    rw [cOut_zero, ← madeCells_eq]
    exact (Blk.new w 5 (madeCells #[.int .u8 0] n)).below hb1 (by simp)
  case round =>
    obtain ⟨k, a, A1, c1, hkg, hak, rfl, rfl, hy, hfar, hlen, hblk, hbw⟩ := hrel
    cases gk with
    | zero =>
      obtain rfl : k = m := by omega
      have hn : a = n := by rw [hak.out, HNM.out]
      subst hn
      go_wp2_with fail
      go_ret2
      have e1 : cOut st iv d a k = bcells (cSt st iv d k).1 := by rw [HNM.out]; exact cOut_end st iv d k
      rw [e1] at hblk
      exact BRes.mk hlen.out (by
        have h := Own.blk (s := 1) (n := a) (c := a) hblk (Nat.le_refl _) (Nat.le_refl _) (by unfold maxLen; omega) (by simp [hlen.out]) (by simp [hlen.out])
        rw [List.take_of_length_le (by simp [hlen.out])] at h
        exact h) hbw
    | succ g =>
      have hlt : (a : Int) < (n : Int) := by have := hak.out; have := HNM.out; omega
      have hle : (a : Int) + 8 ≤ (n : Int) := by have := hak.out; have := HNM.out; omega
      have p0 : (0 : Int) ≤ (a : Int) := by omega
      obtain ⟨b1, o1, rfl, hb1⟩ := HD.out.at_ (by omega)
      have hca : ¬ cd = a := by omega
      have hna : ¬ n = a := by omega
      have hc8 : (a : Int) + 8 ≤ (cd : Int) := by omega
      have hx : Byt wr wr.heap.size (some ⟨b1, o1 + a, none⟩) 8 (cd - a) (Mod.blk d k) := by
        have h1 := ((HD.out.below hbw).more hbw.size).drop a (by omega)
        have h2 := h1.take 8 (cd - a) (by omega) (by omega)
        rw [hak.out] at h2 ⊢
        exact h2
      obtain ⟨o, ho⟩ : ∃ o, (st (Mod.blk d k) (cSt st iv d k).2).1 = o := ⟨_, rfl⟩
      obtain ⟨nx, hnx⟩ : ∃ nx, (st (Mod.blk d k) (cSt st iv d k).2).2 = nx := ⟨_, rfl⟩
      have hs := hst wr _ _ _ _ _ _ hbw hx hy
      rw [ho, hnx] at hs
      have HS := Lib.hid hs
      have HO := Lib.hid ho
      have HN := Lib.hid hnx
      clear hx hy hs ho hnx
      go_wp2_with (first
        | (refine HS.out.mono ?_; rintro e w2 ⟨A2, c2, A3, c3, rfl, hb2, hb3, hbel, hfr⟩; obtain ⟨b2, o2, rfl, hb2l⟩ := hb2.at_ (by omega))
        | ((with_reducible show wpList _ _ _ (Oper.mk _ (Op.call { callee := Callee.builtin Builtin.copy, args := _, argTypes := _ }) _ _ _ _ :: _) _ _); (refine wpList_copy_own rfl (.tmp 53) (.tmp 54) 22 22 rfl 5 Try.underlying22 (by kernel_rfl) w.heap.size a (n - a) (n - a) ⟨b2, o2, none⟩ 8 c2 rfl rfl (cOut st iv d n k).toArray 5 ?_ (bcells o) ?_ ?_ ?_ ?_ ?_)))
      · exact hblk.below hbel hblk.lt
      · rw [length_bcells, hb2.1]; exact (Nat.min_eq_left (by omega)).symm
      · intro j v hj
        have hjl : j < (bcells o).length := (List.getElem?_eq_some_iff.1 hj).1
        obtain ⟨b, oo, e, _, hc⟩ := hb2.2.2 (by omega)
        obtain ⟨rfl, rfl⟩ : b2 = b ∧ o2 = oo := by simpa using e
        rw [add_eq, hc j hjl, hj]
      · simp only [List.size_toArray, cOut, length_bcells, List.length_append, hlen.out, hb2.1, zs_length]; have := hak.out; omega
      · exact bcells_one o
      · go_wp2_with fail
        go_roundg g
        case measure => omega
        case rel =>
          have hb := hbw.trans (hbel.mono hbw.size)
          refine ⟨k + 1, a + 8, A3, c3, by omega, Lib.hid (by rw [hak.out]; omega), by go_num, rfl, ?_, hfr _ hblk.lt (by simp; omega), Lib.hid (by rw [cSt_succ, HO.out, List.length_append, hlen.out, hb2.1]), ?_, Below.setRow hb (Nat.le_refl _) _⟩
          · rw [cSt_succ, HN.out]
            refine ⟨hb3.1, hb3.2.1, ?_⟩
            rw [size_setRow]
            intro h0
            obtain ⟨b, oo, e, hbl, hc⟩ := hb3.2.2 h0
            refine ⟨b, oo, e, hbl, fun j hj => ?_⟩
            rw [cell_setRow_other _ _ _ _ (fun hh => hfr _ hblk.lt (by simp; omega) (by rw [e]; simp at hh; simp [hh]))]
            exact hc j hj
          · have e := cOut_next st iv d n k o (by rw [hlen.out, hak.out]) (by have := hak.out; omega) HO.out hb2.1
            rw [← hak.out, length_bcells] at e
            rw [e]
            exact (hblk.below hbel hblk.lt).setRow _

theorem cf_enc : ∀ (args : Array Value) (u : World), (callFunc 28 args).run Try.prog u = .ok (.enter 28 args) u := fun _ _ => by kernel_rfl
theorem cf_dec : ∀ (args : Array Value) (u : World), (callFunc 38 args).run Try.prog u = .ok (.enter 38 args) u := fun _ _ => by kernel_rfl

/-- Encryption and decryption together: the errors and the bytes. -/
theorem cb_cases (key iv d : List UInt8) (back : Bool) : (key.length = 16 ∧ iv.length = 8 ∧ ∃ m, d.length = 8 * m ∧ Mod.cbE key iv d = 0 ∧ Mod.cbB key iv d back = if back then (Mod.dSt key iv d m).1 else (Mod.eSt key iv d m).1) ∨
    (¬ (key.length = 16 ∧ iv.length = 8 ∧ d.length % 8 = 0) ∧ Mod.cbE key iv d = 1 ∧ Mod.cbB key iv d back = []) := by
  by_cases h : key.length = 16 ∧ iv.length = 8 ∧ d.length % 8 = 0
  · obtain ⟨h1, h2, h3⟩ := h
    have := Mod.cb_ok key iv d back h1 h2 h3
    exact .inl ⟨h1, h2, d.length / 8, by omega, this.1, this.2⟩
  · exact .inr ⟨h, (Mod.cb_bad key iv d back h).1, (Mod.cb_bad key iv d back h).2⟩

set_option maxHeartbeats 1000000 in
theorem mode_EncryptCBC (A A' A'' : Option Addr) (n n' n'' c c' c'' : Nat) (key iv d : List UInt8) (w : World) (hk : Byt w w.heap.size A n c key) (hv : Byt w w.heap.size A' n' c' iv) (hd : Byt w w.heap.size A'' n'' c'' d) (hn : n'' ≤ 1000000) :
    Calls Try.prog 13 #[.slice A n c, .slice A' n' c', .slice A'' n'' c''] w (BRes 5 w (Mod.cbB key iv d false) (Mod.cbE key iv d)) := by
  have hmf : ∀ (fn : Fn) (first cap : Array Value) (w : World), (Instr.makeFunc fn first cap).run Try.prog w = .ok (.func fn first cap) w := fun _ _ _ _ => rfl
  have hu := (Below.refl w.heap.size w).alloc (Nat.le_refl _) (.cells #[.slice A n c] 22)
  have hsz : w.heap.size ≤ (w.alloc (.cells #[.slice A n c] 22)).heap.size := hu.size
  have h0 : (w.alloc (.cells #[.slice A n c] 22)).cell? ⟨w.heap.size, 0, none⟩ = some (.slice A n c) := by simp
  have hC : Calls Try.prog 27 #[.slice A n c, .slice A' n' c', .slice A'' n'' c'', .func (.func 28) #[] #[.pointer (some ⟨w.heap.size, 0, none⟩)]] (w.alloc (.cells #[.slice A n c] 22)) (BRes 5 (w.alloc (.cells #[.slice A n c] 22)) (Mod.cbB key iv d false) (Mod.cbE key iv d)) := by
    rcases cb_cases key iv d false with ⟨h1, h2, m, h3, h4, h5⟩ | ⟨h1, h4, h5⟩
    · rw [h4, h5]
      obtain rfl : n = 16 := by rw [← hk.1, h1]
      obtain rfl : n' = 8 := by rw [← hv.1, h2]
      obtain rfl : n'' = 8 * m := by rw [← hd.1, h3]
      refine chain_good _ ⟨w.heap.size, 0, none⟩ (stE key) A A' A'' m c c' c'' iv d _ ((hv.below hu).more hsz) ((hd.below hu).more hsz) hn cf_enc ?_
      intro u B B' b b' x y hb hx hy
      exact enc_step A B B' c b b' key x y w.heap.size u ((hk.below (hu.trans (hb.mono hsz))).more (by have := hb.size; omega)) ((hb.cell (p := ⟨w.heap.size, 0, none⟩) (by simp)).trans h0) (by have := hb.size; simp at this; omega) hx hy
    · rw [h4, h5]
      exact chain_bad _ _ _ _ _ _ _ _ _ _ _ (by rw [← hk.1, ← hv.1, ← hd.1]; exact h1)
  have HC := Lib.hid hC
  clear hC hk hv hd
  go_enter Try.func13, Try.ntmps13
  go_wp2_with (go_at_call 27; refine HC.out.mono ?_; rintro e w1 ⟨A2, d2, rfl, hown, hbel⟩)
  go_ret2
  exact ⟨A2, d2, rfl, hown.mono hsz, hu.trans (hbel.mono hsz)⟩

set_option maxHeartbeats 1000000 in
theorem mode_DecryptCBC (A A' A'' : Option Addr) (n n' n'' c c' c'' : Nat) (key iv d : List UInt8) (w : World) (hk : Byt w w.heap.size A n c key) (hv : Byt w w.heap.size A' n' c' iv) (hd : Byt w w.heap.size A'' n'' c'' d) (hn : n'' ≤ 1000000) :
    Calls Try.prog 19 #[.slice A n c, .slice A' n' c', .slice A'' n'' c''] w (BRes 5 w (Mod.cbB key iv d true) (Mod.cbE key iv d)) := by
  have hmf : ∀ (fn : Fn) (first cap : Array Value) (w : World), (Instr.makeFunc fn first cap).run Try.prog w = .ok (.func fn first cap) w := fun _ _ _ _ => rfl
  have hu := (Below.refl w.heap.size w).alloc (Nat.le_refl _) (.cells #[.slice A n c] 22)
  have hsz : w.heap.size ≤ (w.alloc (.cells #[.slice A n c] 22)).heap.size := hu.size
  have h0 : (w.alloc (.cells #[.slice A n c] 22)).cell? ⟨w.heap.size, 0, none⟩ = some (.slice A n c) := by simp
  have hC : Calls Try.prog 27 #[.slice A n c, .slice A' n' c', .slice A'' n'' c'', .func (.func 38) #[] #[.pointer (some ⟨w.heap.size, 0, none⟩)]] (w.alloc (.cells #[.slice A n c] 22)) (BRes 5 (w.alloc (.cells #[.slice A n c] 22)) (Mod.cbB key iv d true) (Mod.cbE key iv d)) := by
    rcases cb_cases key iv d true with ⟨h1, h2, m, h3, h4, h5⟩ | ⟨h1, h4, h5⟩
    · rw [h4, h5]
      obtain rfl : n = 16 := by rw [← hk.1, h1]
      obtain rfl : n' = 8 := by rw [← hv.1, h2]
      obtain rfl : n'' = 8 * m := by rw [← hd.1, h3]
      refine chain_good _ ⟨w.heap.size, 0, none⟩ (stD key) A A' A'' m c c' c'' iv d _ ((hv.below hu).more hsz) ((hd.below hu).more hsz) hn cf_dec ?_
      intro u B B' b b' x y hb hx hy
      exact dec_step A B B' c b b' key x y w.heap.size u ((hk.below (hu.trans (hb.mono hsz))).more (by have := hb.size; omega)) ((hb.cell (p := ⟨w.heap.size, 0, none⟩) (by simp)).trans h0) hx hy
    · rw [h4, h5]
      exact chain_bad _ _ _ _ _ _ _ _ _ _ _ (by rw [← hk.1, ← hv.1, ← hd.1]; exact h1)
  have HC := Lib.hid hC
  clear hC hk hv hd
  go_enter Try.func19, Try.ntmps19
  go_wp2_with (go_at_call 27; refine HC.out.mono ?_; rintro e w1 ⟨A2, d2, rfl, hown, hbel⟩)
  go_ret2
  exact ⟨A2, d2, rfl, hown.mono hsz, hu.trans (hbel.mono hsz)⟩
end Go.Proofs.Ytbmblalbnegglaa
