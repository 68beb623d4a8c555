/-
  The walk of the statement OctetsRoundTrip.
-/
import Derived.Test.YtpegechahbldlaaOctQ
namespace Go.Proofs.Ytpegechahbldlaa
open Go.RowKit

theorem pr_hex (bs : List UInt8) : Oct.prB (ByteArray.mk (Oct.hexS bs).toArray).data.toList = bs ∧ Oct.prE (ByteArray.mk (Oct.hexS bs).toArray).data.toList = 0 := by
  have e : (ByteArray.mk (Oct.hexS bs).toArray).data.toList = Oct.hexS bs := by simp
  rw [e]
  unfold Oct.prB Oct.prE
  rw [Oct.hexS_ok, Oct.prs_hexS]
  exact ⟨rfl, rfl⟩
theorem trip_pad (bs : List UInt8) (m : Nat) : Oct.unpB (Oct.pad bs m) = bs ∧ Oct.unpE (Oct.pad bs m) = 0 := unp_some _ _ (Oct.unp_pad bs m)
theorem trip_put (n width : Int) (h : Oct.ptE n width = 0) : 0 ≤ n ∧ 1 ≤ width ∧ width ≤ 8 ∧ Oct.ptB n width = Oct.putB n.toNat width.toNat ∧ n.toNat < 256 ^ width.toNat := by
  unfold Oct.ptE at h
  split at h
  · cases h
  · split at h
    · cases h
    · rename_i h1 h2
      refine ⟨by omega, by omega, by omega, by unfold Oct.ptB Oct.ptE; rw [if_neg h1, if_neg h2]; rfl, ?_⟩
      have h3 : n < (256 : Int) ^ width.toNat := by omega
      have h4 : ((n.toNat : Nat) : Int) < ((256 ^ width.toNat : Nat) : Int) := by
        rw [Int.toNat_of_nonneg (by omega)]; simpa using h3
      omega
theorem trip_get (n width : Int) (hn : n ≤ 9223372036854775807) (h : Oct.ptE n width = 0) : (Oct.gtN (Oct.ptB n width) : Int) = n ∧ Oct.gtE (Oct.ptB n width) = 0 ∧ ((Oct.ptB n width).length : Int) = width := by
  obtain ⟨h0, h1, h8, e, hlt⟩ := trip_put n width h
  have hnum := Oct.num_putB n.toNat width.toNat hlt
  have hlen := Oct.putB_length n.toNat width.toNat
  rw [e]
  have hg := gt_ok (Oct.putB n.toNat width.toNat) (by rw [hlen]; omega) (by rw [hnum]; omega)
  exact ⟨by rw [hg.1, hnum]; omega, hg.2, by rw [hlen]; omega⟩
theorem joined_split (vs : List SV) (bs : List UInt8) (m : Nat) (hm : 1 ≤ m) (h : vs.map SV.bs = Oct.split bs m) : joined vs = bs := by
  have e : joined vs = (vs.map SV.bs).flatten := by unfold joined; rw [List.flatMap_def]
  rw [e, h]
  exact Oct.split_flat m hm _ bs (Nat.le_refl _)

set_option maxRecDepth 100000 in
set_option maxHeartbeats 4000000 in
theorem law_OctetsRoundTrip (A : Option Addr) (n c : Nat) (bs : List UInt8) (p q : Int) (w : World) (h : Byt w w.heap.size A n c bs) (hp : p ≤ 9223372036854775807) :
    Calls Try.prog 9 #[.slice A n c, .int .i64 p, .int .i64 q] w fun e w' => e = .returned (.bool true) ∧ Below w.heap.size w w' := by
  by_cases h1 : n ≤ 2000
  · have t1 : decide ((2000 : Int) < (n : Int)) = false := by simp; omega
    have hlb := Lib.hid h.1
    have hph := Lib.hid (pr_hex bs)
    go_enter Try.func9, Try.ntmps9
    go_wp2_with fail
    refine (octets_Hex A n c bs _ h (by omega)).mono ?_
    rintro e w1 ⟨rfl, b1⟩
    have h := (h.below b1).more b1.size
    go_wp2_with fail
    refine (octets_Parse ⟨(Oct.hexS bs).toArray⟩ _ (by show (Oct.hexS bs).toArray.size ≤ _; rw [List.size_toArray, Oct.hexS_length, hlb.out]; omega)).mono ?_
    rw [hph.out.1, hph.out.2]
    rintro e w2 ⟨A2, c2, rfl, o2, b2⟩
    rw [hlb.out] at o2 ⊢
    have h := (h.below b2).more b2.size
    have y2 := o2.byt (Nat.le_refl _)
    have bb := b1.trans (b2.mono b1.size)
    clear b1 b2 o2
    go_wp2_with fail
    refine (ref01_SameT A2 A n n c2 c bs _ y2 h (by omega)).mono ?_
    rintro e w3 ⟨rfl, k3, rfl⟩
    have h : Byt (w2.drewN k3) (w2.drewN k3).heap.size A n c bs := h
    have bb := Below.drewN bb k3
    generalize w2.drewN k3 = w3 at *
    clear y2
    by_cases hin : 1 ≤ p ∧ p ≤ 2000
    · obtain ⟨m, rfl⟩ := Int.eq_ofNat_of_zero_le (show 0 ≤ p by omega)
      have hm1 : 1 ≤ m := by omega
      have hm2 : m ≤ 2000 := by omega
      have u1 : decide ((1 : Int) ≤ (m : Int)) = true := by simp; omega
      have u2 : decide ((m : Int) ≤ 2000) = true := by simp; omega
      have hpy := Lib.hid (pad_yes bs m hm1 (by omega))
      have htp := Lib.hid (trip_pad bs m)
      have hpl := Oct.pad_length bs m
      have hpn := Oct.padN_lt bs.length m hm1
      have hpm := Oct.pad_mod bs m hm1
      rw [hlb.out] at hpl hpn
      have hs1 : Oct.spB bs (m : Int) = Oct.split bs m ∧ Oct.spE (m : Int) = 0 := by
        unfold Oct.spB Oct.spE; rw [if_neg (by omega), if_neg (by omega)]; exact ⟨by simp, rfl⟩
      have HS1 := Lib.hid hs1
      have hsll : (Oct.split bs m).length ≤ n := by rw [← hlb.out]; exact Oct.split_length_le m hm1 _ _ (Nat.le_refl _)
      have hjs : ∀ vs : List SV, vs.map SV.bs = Oct.split bs m → joined vs = bs := fun vs hv => joined_split vs bs m hm1 hv
      have HJS := Lib.hid hjs
      have m1 : ((((Oct.pad bs m).length : Nat) : Int) % (m : Int) != 0) = false := by
        rw [bne_eq_false_iff_eq, show (((Oct.pad bs m).length : Nat) : Int) % (m : Int) = (((Oct.pad bs m).length % m : Nat) : Int) by simp, hpm]; rfl
      have m2 : ((Oct.pad bs m).length : Int) ≤ (n : Int) + (m : Int) := by omega
      have m3 : (Oct.pad bs m).length ≤ 5000 := by omega
      clear hin hs1 hjs hpm hpl hpn
      go_wp2_with fail
      refine (octets_Pad A n c bs (m : Int) _ h (by omega)).mono ?_
      rw [hpy.out.1, hpy.out.2]
      rintro e w4 ⟨A4, c4, rfl, o4, b4⟩
      have h := (h.below b4).more b4.size
      have y4 := o4.byt (Nat.le_refl _)
      have bb := bb.trans (b4.mono bb.size)
      clear b4 o4
      generalize hPP : Oct.pad bs m = P at *
      have HPP := Lib.hid hPP
      clear hPP
      go_wp2_with fail
      refine (octets_Unpad A4 P.length c4 P _ y4 (by omega)).mono ?_
      rw [htp.out.1, htp.out.2]
      rintro e w5 ⟨A5, c5, rfl, o5, b5⟩
      rw [hlb.out] at o5 ⊢
      have h := (h.below b5).more b5.size
      have o5 := o5.mono (base' := w.heap.size) bb.size
      have bb := bb.trans (b5.mono bb.size)
      clear b5 y4
      go_wp2_with fail
      refine (octets_Split A n c bs (m : Int) _ h (by omega)).mono ?_
      rw [HS1.out.1, HS1.out.2]
      rintro e w6 ⟨A6, c6, vs, rfl, hvs, o6, hall, b6⟩
      have h := (h.below b6).more b6.size
      have y5 := (o5.below b6).byt (Nat.le_refl _)
      have bb := bb.trans (b6.mono bb.size)
      have hj := Lib.hid (HJS.out vs hvs)
      have hvl : Hid (vs.length = (Oct.split bs m).length) := by show _ = _; rw [← hvs, List.length_map]
      have hby : Byts w6 w6.heap.size A6 vs := ⟨o6.row, fun v hv => (hall v hv).byt (Nat.le_refl _)⟩
      clear b6 o5 o6 hall hvs
      generalize (Oct.split bs m).length = sl at *
      go_wp2_with fail
      refine (ref01_SameT A5 A n n c5 c bs _ y5 h (by omega)).mono ?_
      rintro e w7 ⟨rfl, k7, rfl⟩
      go_wp2_with fail
      refine (octets_Join A6 sl c6 vs _ (by exact hby) hvl.out (by omega) (by rw [hj.out, hlb.out]; omega)).mono ?_
      rintro e w8 ⟨A8, c8, rfl, o8, b8⟩
      rw [hj.out, hlb.out] at o8 ⊢
      have h : Byt (w6.drewN k7) (w6.drewN k7).heap.size A n c bs := h
      have h := (h.below b8).more b8.size
      have y8 := o8.byt (Nat.le_refl _)
      have bb := (Below.drewN bb k7).trans (b8.mono bb.size)
      clear b8 o8 hby y5
      go_wp2_with fail
      refine (ref01_SameT A8 A n n c8 c bs _ y8 h (by omega)).mono ?_
      rintro e w9 ⟨rfl, k9, rfl⟩
      have bb := Below.drewN bb k9
      generalize w8.drewN k9 = w9 at *
      go_wp2_with fail
      clear m1 m2 u1 u2 hpy HS1
      generalize (m : Int) = p at *
      refine (octets_Put p q _ hp).mono ?_
      rintro e w7 ⟨A7, c7, rfl, o7, b7⟩
      have y7 := o7.byt (Nat.le_refl _)
      have bb := bb.trans (b7.mono bb.size)
      clear b7 o7
      by_cases hE : Oct.ptE p q = 0
      · have hg := Lib.hid (trip_get p q hp hE)
        rw [hE]
        generalize Oct.ptB p q = P at *
        go_wp2_with fail
        refine (octets_Get A7 _ c7 P _ y7).mono ?_
        rw [hg.out.1, hg.out.2.1]
        rintro e w8 ⟨rfl, rfl⟩
        have hl8 : ((P.length : Int) == q) = true := by rw [hg.out.2.2]; simp
        go_wp2_with (go_at_call 10; refine (law01_example _).mono ?_; rintro e w6 ⟨rfl, b6⟩)
        go_ret
        exact ⟨rfl, bb.trans (b6.mono bb.size)⟩
      · have hne : (Oct.ptE p q != 0) = true := by rw [bne_iff_ne]; exact hE
        generalize Oct.ptE p q = E at *
        generalize Oct.ptB p q = P at *
        clear hE
        go_wp2_with (go_at_call 10; refine (law01_example _).mono ?_; rintro e w6 ⟨rfl, b6⟩)
        go_ret
        exact ⟨rfl, bb.trans (b6.mono bb.size)⟩
    · have hcase : decide ((1 : Int) ≤ p) = false ∨ (decide ((1 : Int) ≤ p) = true ∧ decide (p ≤ 2000) = false) := by
        simp only [decide_eq_true_eq, decide_eq_false_iff_not]; omega
      clear hin
      rcases hcase with u1 | ⟨u1, u2⟩
      all_goals
        go_wp2_with fail
        refine (octets_Put p q _ hp).mono ?_
        rintro e w7 ⟨A7, c7, rfl, o7, b7⟩
        have y7 := o7.byt (Nat.le_refl _)
        have bb := bb.trans (b7.mono bb.size)
        clear b7 o7
        by_cases hE : Oct.ptE p q = 0
        · have hg := Lib.hid (trip_get p q hp hE)
          rw [hE]
          generalize Oct.ptB p q = P at *
          go_wp2_with fail
          refine (octets_Get A7 _ c7 P _ y7).mono ?_
          rw [hg.out.1, hg.out.2.1]
          rintro e w8 ⟨rfl, rfl⟩
          have hl8 : ((P.length : Int) == q) = true := by rw [hg.out.2.2]; simp
          go_wp2_with (go_at_call 10; refine (law01_example _).mono ?_; rintro e w6 ⟨rfl, b6⟩)
          go_ret
          exact ⟨rfl, bb.trans (b6.mono bb.size)⟩
        · have hne : (Oct.ptE p q != 0) = true := by rw [bne_iff_ne]; exact hE
          generalize Oct.ptE p q = E at *
          generalize Oct.ptB p q = P at *
          clear hE
          go_wp2_with (go_at_call 10; refine (law01_example _).mono ?_; rintro e w6 ⟨rfl, b6⟩)
          go_ret
          exact ⟨rfl, bb.trans (b6.mono bb.size)⟩
  · have t1 : decide ((2000 : Int) < (n : Int)) = true := by simp; omega
    go_enter Try.func9, Try.ntmps9
    go_wp2_with (go_at_call 10; refine (law01_example _).mono ?_; rintro e w6 ⟨rfl, b6⟩)
    go_ret
    exact ⟨rfl, b6⟩
end Go.Proofs.Ytpegechahbldlaa
