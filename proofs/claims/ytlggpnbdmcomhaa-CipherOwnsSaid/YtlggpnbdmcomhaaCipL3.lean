/-
  The walk of the statement CipherOwns.
-/
import Derived.Test.YtlggpnbdmcomhaaCipX
import Derived.Test.YtlggpnbdmcomhaaJoinW
namespace Go.Proofs.Ytlggpnbdmcomhaa
open Go.RowKit

theorem b8_succ (x : UInt8) : ((x.toNat : Int) + 1) % 256 = ((x + 1).toNat : Int) := by
  have := x.toNat_lt
  rw [UInt8.toNat_add]
  show _ = (((x.toNat + 1) % 256 : Nat) : Int)
  omega

set_option maxRecDepth 100000 in
set_option maxHeartbeats 2000000 in
theorem law_CipherOwns (A A1 : Option Addr) (n n1 c c1 : Nat) (key b : List UInt8) (w : World) (hk : Byt w w.heap.size A n c key) (hb : Byt w w.heap.size A1 n1 c1 b) :
    Calls Try.prog 6 #[.slice A n c, .slice A1 n1 c1] w fun e w' => e = .returned (.bool true) ∧ Below w.heap.size w w' := by
  by_cases h0 : 100 < n
  · go_enter Try.func6, Try.ntmps6
    go_wp2_with (go_at_call 7; refine (law19_example _).mono ?_; rintro e w1 ⟨rfl, hb1⟩)
    go_ret
    exact ⟨rfl, hb1⟩
  by_cases h1 : 100 < n1
  · go_enter Try.func6, Try.ntmps6
    go_wp2_with (go_at_call 7; refine (law19_example _).mono ?_; rintro e w1 ⟨rfl, hb1⟩)
    go_ret
    exact ⟨rfl, hb1⟩
  have ek : joined [⟨A, n, c, key⟩] = key := by simp [joined]
  have eb : joined [⟨A1, n1, c1, b⟩] = b := by simp [joined]
  have lk := Lib.hid hk.1
  have lb := Lib.hid hb.1
  have Ek := Lib.hid ek
  have Eb := Lib.hid eb
  clear ek eb
  go_enter Try.func6, Try.ntmps6
  go_wp2_with fail
  refine (ref01_Join _ 1 1 [⟨A, n, c, key⟩] _ (by exact (Byts.one hk).more (by simp)) rfl (by omega) (by rw [Ek.out, lk.out]; omega)).mono ?_
  rintro e w1 ⟨K, kc, rfl, o1, b1⟩
  rw [Ek.out, lk.out] at o1
  rw [Ek.out, lk.out]
  have b1' : Below w.heap.size w w1 := ((Below.refl _ _).alloc (Nat.le_refl _) _).trans (b1.mono (by simp))
  have yk := o1.byt (Nat.le_refl _)
  go_wp2_with fail
  refine (ref01_Join _ 1 1 [⟨A1, n1, c1, b⟩] _ (by exact (Byts.one ((hb.below b1').more b1'.size)).more (by simp)) rfl (by omega) (by rw [Eb.out, lb.out]; omega)).mono ?_
  rintro e w2 ⟨L, lc, rfl, o2, b2⟩
  rw [Eb.out, lb.out] at o2
  rw [Eb.out, lb.out]
  have b2w : Below w1.heap.size w1 w2 := ((Below.refl _ _).alloc (Nat.le_refl _) _).trans (b2.mono (by simp))
  have b2' : Below w.heap.size w w2 := b1'.trans (b2w.mono b1'.size)
  have yk2 := (yk.below b2w).more b2w.size
  have yb2 := o2.byt (Nat.le_refl _)
  have zk := (hk.below b2').more b2'.size
  have zb := (hb.below b2').more b2'.size
  clear o1 o2 b1 b2 b2w yk b1' hk hb
  go_wp2_with fail
  refine (cipher_Encrypt K L n n1 kc lc key b w2 yk2 yb2).mono ?_
  rintro e w3 ⟨X, xd, rfl, o3, b3⟩
  have l3 := Cip.res_length key b false
  generalize Cip.res key b false = xs at *
  generalize hm : xs.length = m at *
  have Hm := Lib.hid hm
  clear hm
  go_wp2_with fail
  go_loopw [9] (fun i wr => ∃ (k : Nat) (bs : List UInt8), k ≤ m ∧ i = .int .i64 k ∧ Own wr w2.heap.size 5 1 X m xd (bcells bs) ∧ Below w2.heap.size w2 wr) (fun i _ => m - (intOf i).toNat)
  case atStart => exact ⟨0, xs, by omega, rfl, o3, b3⟩
  case round =>
    obtain ⟨k, bs, hk, rfl, o4, b4⟩ := hrel
    by_cases hlt : k < m
    · obtain ⟨g, rfl, hg, hgl, hc, hf, hset⟩ := o4.elem hlt
      have hkl : k < bs.length := by have := o4.len; simp at this; omega
      have hc' : wr.cell? ⟨g, k, none⟩ = some (.int .u8 (bs[k].toNat : Int)) := by rw [hc, bcells_get, List.getElem?_eq_getElem hkl]; rfl
      have p0 : (0 : Int) ≤ (k : Int) := by omega
      have p1 : (k : Int) < (m : Int) := by omega
      have hx := Lib.hid (b8_succ bs[k])
      have hs := hset (B8 (bs[k] + 1))
      rw [show (bcells bs).set k (B8 (bs[k] + 1)) = bcells (bs.set k (bs[k] + 1)) by simp [bcells, List.map_set]] at hs
      have HS := Lib.hid hs
      clear hs hset hc
      generalize bs[k] = x at *
      go_wp2_with fail
      go_roundw
      case rel => rw [hx.out]; exact ⟨k + 1, _, by omega, by go_num, HS.out, b4.setCell hg _⟩
      case measure => simp [intOf]; omega
    · obtain rfl : k = m := by omega
      have yk3 := (yk2.below b4).more b4.size
      have yb3 := (yb2.below b4).more b4.size
      have zk3 := (zk.below b4).more b4.size
      have zb3 := (zb.below b4).more b4.size
      have b4' : Below w.heap.size w wr := b2'.trans (b4.mono b2'.size)
      clear b4 o4 o3 b3 yk2 yb2 zk zb
      clear b2'
      obtain ⟨wo, rfl⟩ : ∃ wo : World, wo = wr := ⟨_, rfl⟩
      go_wp2_with fail
      refine (cipher_Decrypt K L n n1 kc lc key b wo yk3 yb3).mono ?_
      rintro e w5 ⟨Y, yd, rfl, o5, b5⟩
      have l5 := Cip.res_length key b true
      generalize Cip.res key b true = ys at *
      generalize hm5 : ys.length = m at *
      have Hm5 := Lib.hid hm5
      clear hm5
      go_wp2_with fail
      go_loopw [12] (fun i wx => ∃ (k : Nat) (bs : List UInt8), k ≤ m ∧ i = .int .i64 k ∧ Own wx wo.heap.size 5 1 Y m yd (bcells bs) ∧ Below wo.heap.size wo wx) (fun i _ => m - (intOf i).toNat)
      case atStart => exact ⟨0, ys, by omega, rfl, o5, b5⟩
      case round =>
        obtain ⟨k, bs, hk, rfl, o4, b4⟩ := hrel
        by_cases hlt : k < m
        · obtain ⟨g, rfl, hg, hgl, hc, hf, hset⟩ := o4.elem hlt
          have hkl : k < bs.length := by have := o4.len; simp at this; omega
          have hc' : wr.cell? ⟨g, k, none⟩ = some (.int .u8 (bs[k].toNat : Int)) := by rw [hc, bcells_get, List.getElem?_eq_getElem hkl]; rfl
          have p0 : (0 : Int) ≤ (k : Int) := by omega
          have p1 : (k : Int) < (m : Int) := by omega
          have hx := Lib.hid (b8_succ bs[k])
          have hs := hset (B8 (bs[k] + 1))
          rw [show (bcells bs).set k (B8 (bs[k] + 1)) = bcells (bs.set k (bs[k] + 1)) by simp [bcells, List.map_set]] at hs
          have HS := Lib.hid hs
          clear hs hset hc
          generalize bs[k] = x at *
          go_wp2_with fail
          go_roundw
          case rel => rw [hx.out]; exact ⟨k + 1, _, by omega, by go_num, HS.out, b4.setCell hg _⟩
          case measure => simp [intOf]; omega
        · obtain rfl : k = m := by omega
          have yk6 := (yk3.below b4).more b4.size
          have yb6 := (yb3.below b4).more b4.size
          have zk6 := (zk3.below b4).more b4.size
          have zb6 := (zb3.below b4).more b4.size
          have b6 : Below w.heap.size w wr := b4'.trans (b4.mono b4'.size)
          have s1 := Lib.hid (Oct.same_refl key)
          have s2 := Lib.hid (Oct.same_refl b)
          clear b4 o4 o5 b5 yk3 yb3 zk3 zb3 b4'
          go_wp2_with fail
          refine (ref01_Same K A n n kc c key key wr yk6 zk6 (by omega) (by omega)).mono ?_
          rintro e w7 ⟨rfl, k7, rfl⟩
          rw [s1.out]
          go_wp2_with fail
          refine (ref01_Same L A1 n1 n1 lc c1 b b _ (by exact yb6) (by exact zb6) (by omega) (by omega)).mono ?_
          rintro e w8 ⟨rfl, k8, rfl⟩
          rw [s2.out]
          go_wp2_with (go_at_call 7; refine (law19_example _).mono ?_; rintro e w9 ⟨rfl, b9⟩)
          go_ret
          exact ⟨by simp, (Below.drewN b6 _).trans (b9.mono b6.size)⟩
end Go.Proofs.Ytlggpnbdmcomhaa
