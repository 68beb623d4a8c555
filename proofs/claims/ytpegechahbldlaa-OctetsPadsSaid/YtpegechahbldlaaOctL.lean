/-
  The walks of the statements OctetsHex, OctetsXor, OctetsPads, OctetsNumbers, OctetsOrders.
-/
import Derived.Test.YtpegechahbldlaaOctX
namespace Go.Proofs.Ytpegechahbldlaa
open Go.RowKit

/-- Two strings of the same bytes are the same. -/
theorem ref01_SameT (A A' : Option Addr) (n n' c c' : Nat) (bs : List UInt8) (w : World) (hx : Byt w w.heap.size A n c bs) (hy : Byt w w.heap.size A' n' c' bs) (hn : n ≤ 9223372036854775807) :
    Calls Try.prog 15 #[.slice A n c, .slice A' n' c'] w fun e w' => e = .returned (.bool true) ∧ ∃ k, w' = w.drewN k := by
  have h := ref01_Same A A' n n' c c' bs bs w hx hy hn (by have h1 := hx.1; have h2 := hy.1; omega)
  rw [Oct.same_refl] at h
  exact h

set_option maxHeartbeats 2000000 in
theorem law_OctetsHex (A : Option Addr) (n c : Nat) (bs : List UInt8) (s : ByteArray) (w : World) (h : Byt w w.heap.size A n c bs) :
    Calls Try.prog 3 #[.slice A n c, .string s] w fun e w' => e = .returned (.bool true) ∧ Below w.heap.size w w' := by
  by_cases h1 : n ≤ 2000
  · by_cases h2 : s.size ≤ 2000
    · have t1 : decide ((2000 : Int) < (n : Int)) = false := by simp; omega
      have t2 : decide ((2000 : Int) < (s.size : Int)) = false := by simp; omega
      go_enter Try.func3, Try.ntmps3
      go_wp2_with fail
      refine (octets_Parse s _ (by omega)).mono ?_
      rintro e w1 ⟨A1, c1, rfl, o1, b1⟩
      go_wp2_with fail
      refine (ref01_Parse s _ (by omega)).mono ?_
      rintro e w2 ⟨A2, c2, rfl, o2, b2⟩
      have hml : (Oct.prB s.data.toList).length ≤ 9223372036854775807 := by have h1 := o1.max; have h2 := o1.le; unfold maxLen at h1; omega
      generalize Oct.prB s.data.toList = P at *
      generalize Oct.prE s.data.toList = E at *
      have o1 := o1.below b2
      have b := b1.trans (b2.mono b1.size)
      have h := (h.below b).more b.size
      have o2 := o2.mono (base' := w.heap.size) b1.size
      clear b1 b2
      go_wp2_with fail
      refine (octets_Hex A n c bs _ h (by omega)).mono ?_
      rintro e w3 ⟨rfl, b3⟩
      have o1 := o1.below b3
      have o2 := o2.below b3
      have b := b.trans (b3.mono b.size)
      have h := (h.below b3).more b3.size
      clear b3
      go_wp2_with fail
      refine (ref01_Hex A n c bs _ h (by omega)).mono ?_
      rintro e w4 ⟨rfl, k4, rfl⟩
      have y1 := o1.byt (Nat.le_refl _)
      have y2 := o2.byt (Nat.le_refl _)
      clear o1 o2
      go_wp2_with fail
      refine (ref01_SameT A1 A2 _ _ c1 c2 P _ (by exact y1) (by exact y2) hml).mono ?_
      rintro e w5 ⟨rfl, k5, rfl⟩
      go_wp2_with (go_at_call 10; refine (law01_example _).mono ?_; rintro e w6 ⟨rfl, b6⟩)
      go_ret
      exact ⟨rfl, (Below.drewN b _).trans (b6.mono b.size)⟩
    · have t1 : decide ((2000 : Int) < (n : Int)) = false := by simp; omega
      have t2 : decide ((2000 : Int) < (s.size : Int)) = true := by simp; omega
      go_enter Try.func3, Try.ntmps3
      go_wp2_with (go_at_call 10; refine (law01_example _).mono ?_; rintro e w6 ⟨rfl, b6⟩)
      go_ret
      exact ⟨rfl, b6⟩
  · have t1 : decide ((2000 : Int) < (n : Int)) = true := by simp; omega
    go_enter Try.func3, Try.ntmps3
    go_wp2_with (go_at_call 10; refine (law01_example _).mono ?_; rintro e w6 ⟨rfl, b6⟩)
    go_ret
    exact ⟨rfl, b6⟩

set_option maxHeartbeats 2000000 in
theorem law_OctetsXor (A A' : Option Addr) (n c n' c' : Nat) (a b : List UInt8) (w : World) (ha : Byt w w.heap.size A n c a) (hb : Byt w w.heap.size A' n' c' b) :
    Calls Try.prog 6 #[.slice A n c, .slice A' n' c'] w fun e w' => e = .returned (.bool true) ∧ Below w.heap.size w w' := by
  by_cases h1 : n ≤ 5000
  · by_cases h2 : n' ≤ 5000
    · have t1 : decide ((5000 : Int) < (n : Int)) = false := by simp; omega
      have t2 : decide ((5000 : Int) < (n' : Int)) = false := by simp; omega
      go_enter Try.func6, Try.ntmps6
      go_wp2_with fail
      refine (octets_Xor A A' n n' c c' a b _ ha hb (by omega)).mono ?_
      rintro e w1 ⟨A1, c1, rfl, o1, b1⟩
      have ha := (ha.below b1).more b1.size
      have hb := (hb.below b1).more b1.size
      go_wp2_with fail
      refine (ref01_Xor A A' n n' c c' a b _ ha hb (by omega)).mono ?_
      rintro e w2 ⟨A2, c2, rfl, o2, b2⟩
      have hml : (xrB a b).length ≤ 9223372036854775807 := by have h1 := o1.max; have h2 := o1.le; unfold maxLen at h1; omega
      have ha := (ha.below b2).more b2.size
      have hb := (hb.below b2).more b2.size
      have y1 := (o1.below b2).byt (Nat.le_refl _)
      have y2 := o2.byt (Nat.le_refl _)
      have bb := b1.trans (b2.mono b1.size)
      have hxl : Hid ((xrB a b).length ≤ 5000) := by
        show _ ≤ _
        unfold xrB; split
        · simp only [Oct.xor, List.length_map, List.length_range]; rw [ha.1]; exact h1
        · simp
      clear o1 o2 b1 b2
      go_wp2_with fail
      refine (ref01_SameT A1 A2 _ _ c1 c2 _ _ y1 y2 hml).mono ?_
      rintro e w3 ⟨rfl, k3, rfl⟩
      by_cases hl : a.length = b.length
      · have e0 : xrE a b = 0 := by unfold xrE; rw [if_pos hl]
        have e1 : xrB (xrB a b) b = a ∧ xrE (xrB a b) b = 0 := by
          have hx : (xrB a b).length = b.length := by unfold xrB; rw [if_pos hl]; simp [Oct.xor, hl]
          have hx2 : xrB a b = Oct.xor a b := by unfold xrB; rw [if_pos hl]
          constructor
          · show (if (xrB a b).length = b.length then Oct.xor (xrB a b) b else []) = a
            rw [if_pos hx, hx2]; exact Oct.xor_back a b
          · unfold xrE; rw [if_pos hx]
        have E1 := Lib.hid e1
        rw [e0]
        clear e1 e0
        generalize hq : xrB a b = X at *
        have HQ := Lib.hid hq
        clear hq
        go_wp2_with fail
        refine (octets_Xor A1 A' X.length n' c1 c' X b _ (by exact y1) (by exact hb) (by have := hxl.out; omega)).mono ?_
        rw [E1.out.1, E1.out.2]
        rintro e w4 ⟨A4, c4, rfl, o4, b4⟩
        have hla : Hid (a.length = n) := ha.1
        rw [hla.out] at o4 ⊢
        have y4 := o4.byt (Nat.le_refl _)
        have ha : Byt (w2.drewN k3) (w2.drewN k3).heap.size A n c a := ha
        have ha := (ha.below b4).more b4.size
        have bb := (Below.drewN bb k3).trans (b4.mono bb.size)
        clear b4 o4
        go_wp2_with fail
        refine (ref01_SameT A4 A n n c4 c a _ y4 (by exact ha) (by omega)).mono ?_
        rintro e w5 ⟨rfl, k5, rfl⟩
        go_wp2_with (go_at_call 10; refine (law01_example _).mono ?_; rintro e w6 ⟨rfl, b6⟩)
        go_ret
        exact ⟨rfl, (Below.drewN bb _).trans (b6.mono bb.size)⟩
      · have e0 : xrE a b = 1 := by unfold xrE; rw [if_neg hl]
        rw [e0]
        clear e0
        go_wp2_with (go_at_call 10; refine (law01_example _).mono ?_; rintro e w6 ⟨rfl, b6⟩)
        go_ret
        exact ⟨rfl, (Below.drewN bb _).trans (b6.mono bb.size)⟩
    · have t1 : decide ((5000 : Int) < (n : Int)) = false := by simp; omega
      have t2 : decide ((5000 : Int) < (n' : Int)) = true := by simp; omega
      go_enter Try.func6, Try.ntmps6
      go_wp2_with (go_at_call 10; refine (law01_example _).mono ?_; rintro e w6 ⟨rfl, b6⟩)
      go_ret
      exact ⟨rfl, b6⟩
  · have t1 : decide ((5000 : Int) < (n : Int)) = true := by simp; omega
    go_enter Try.func6, Try.ntmps6
    go_wp2_with (go_at_call 10; refine (law01_example _).mono ?_; rintro e w6 ⟨rfl, b6⟩)
    go_ret
    exact ⟨rfl, b6⟩

set_option maxHeartbeats 2000000 in
theorem law_OctetsPads (A : Option Addr) (n c : Nat) (bs : List UInt8) (p : Int) (w : World) (h : Byt w w.heap.size A n c bs) :
    Calls Try.prog 4 #[.slice A n c, .int .i64 p] w fun e w' => e = .returned (.bool true) ∧ Below w.heap.size w w' := by
  by_cases h1 : n ≤ 2000
  · have t1 : decide ((2000 : Int) < (n : Int)) = false := by simp; omega
    have hcase : (decide ((2000 : Int) < p) = true ∧ decide (p ≤ 65536) = true) ∨ (decide ((2000 : Int) < p) = true ∧ decide (p ≤ 65536) = false) ∨ decide ((2000 : Int) < p) = false := by
      by_cases h2 : 2000 < p
      · by_cases h3 : p ≤ 65536
        · exact .inl ⟨by simpa using h2, by simpa using h3⟩
        · exact .inr (.inl ⟨by simpa using h2, by simpa using h3⟩)
      · exact .inr (.inr (by simpa using h2))
    rcases hcase with ⟨t2, t3⟩ | ht
    · go_enter Try.func4, Try.ntmps4
      go_wp2_with (go_at_call 10; refine (law01_example _).mono ?_; rintro e w6 ⟨rfl, b6⟩)
      go_ret
      exact ⟨rfl, b6⟩
    rcases ht with ⟨t2, t3⟩ | t2
    all_goals
      go_enter Try.func4, Try.ntmps4
      go_wp2_with fail
      refine (octets_Pad A n c bs p _ h (by omega)).mono ?_
      rintro e w1 ⟨A1, c1, rfl, o1, b1⟩
      have h := (h.below b1).more b1.size
      go_wp2_with fail
      refine (ref01_Pad A n c bs p _ h (by omega)).mono ?_
      rintro e w2 ⟨A2, c2, rfl, o2, b2⟩
      have h := (h.below b2).more b2.size
      have hml : (Oct.padB bs p).length ≤ 9223372036854775807 := by have h1 := o1.max; have h2 := o1.le; unfold maxLen at h1; omega
      generalize Oct.padB bs p = P at *
      generalize Oct.padE p = E at *
      have o1 := o1.below b2
      have bb := b1.trans (b2.mono b1.size)
      have o2 := o2.mono (base' := w.heap.size) b1.size
      clear b1 b2
      go_wp2_with fail
      refine (octets_Unpad A n c bs _ h (by omega)).mono ?_
      rintro e w3 ⟨A3, c3, rfl, o3, b3⟩
      have h := (h.below b3).more b3.size
      have o1 := o1.below b3
      have o2 := o2.below b3
      have o3 := o3.mono (base' := w.heap.size) bb.size
      have bb := bb.trans (b3.mono bb.size)
      clear b3
      go_wp2_with fail
      refine (ref01_Unpad A n c bs _ h (by omega)).mono ?_
      rintro e w4 ⟨A4, c4, rfl, o4, b4⟩
      have hml2 : (Oct.unpB bs).length ≤ 9223372036854775807 := by have h1 := o3.max; have h2 := o3.le; unfold maxLen at h1; omega
      generalize Oct.unpB bs = U at *
      generalize Oct.unpE bs = E2 at *
      have y1 := (o1.below b4).byt (Nat.le_refl _)
      have y2 := (o2.below b4).byt (Nat.le_refl _)
      have y3 := (o3.below b4).byt (Nat.le_refl _)
      have y4 := o4.byt (Nat.le_refl _)
      have bb := bb.trans (b4.mono bb.size)
      clear b4 o1 o2 o3 o4
      go_wp2_with fail
      refine (ref01_SameT A1 A2 _ _ c1 c2 P _ y1 y2 hml).mono ?_
      rintro e w5 ⟨rfl, k5, rfl⟩
      go_wp2_with fail
      refine (ref01_SameT A3 A4 _ _ c3 c4 U _ (by exact y3) (by exact y4) hml2).mono ?_
      rintro e w6 ⟨rfl, k6, rfl⟩
      go_wp2_with (go_at_call 10; refine (law01_example _).mono ?_; rintro e w6 ⟨rfl, b6⟩)
      go_ret
      exact ⟨rfl, (Below.drewN bb _).trans (b6.mono bb.size)⟩
  · have t1 : decide ((2000 : Int) < (n : Int)) = true := by simp; omega
    go_enter Try.func4, Try.ntmps4
    go_wp2_with (go_at_call 10; refine (law01_example _).mono ?_; rintro e w6 ⟨rfl, b6⟩)
    go_ret
    exact ⟨rfl, b6⟩

set_option maxHeartbeats 2000000 in
theorem law_OctetsNumbers (A : Option Addr) (n c : Nat) (bs : List UInt8) (p q : Int) (w : World) (h : Byt w w.heap.size A n c bs) (hp : p ≤ 9223372036854775807) :
    Calls Try.prog 8 #[.int .i64 p, .int .i64 q, .slice A n c] w fun e w' => e = .returned (.bool true) ∧ Below w.heap.size w w' := by
  by_cases h1 : n ≤ 5000
  · have t1 : decide ((5000 : Int) < (n : Int)) = false := by simp; omega
    go_enter Try.func8, Try.ntmps8
    go_wp2_with fail
    refine (octets_Put p q _ hp).mono ?_
    rintro e w1 ⟨A1, c1, rfl, o1, b1⟩
    go_wp2_with fail
    refine (ref01_Put p q _ hp).mono ?_
    rintro e w2 ⟨A2, c2, rfl, o2, b2⟩
    have hml : (Oct.ptB p q).length ≤ 9223372036854775807 := by have h1 := o1.max; have h2 := o1.le; unfold maxLen at h1; omega
    generalize Oct.ptB p q = P at *
    generalize Oct.ptE p q = E at *
    have y1 := (o1.below b2).byt (Nat.le_refl _)
    have y2 := o2.byt (Nat.le_refl _)
    have bb := b1.trans (b2.mono b1.size)
    have h := (h.below bb).more bb.size
    clear b1 b2 o1 o2
    go_wp2_with fail
    refine (octets_Get A n c bs _ h).mono ?_
    rintro e w3 ⟨rfl, rfl⟩
    go_wp2_with fail
    refine (ref01_Get A n c bs _ h).mono ?_
    rintro e w3 ⟨rfl, rfl⟩
    generalize Oct.gtN bs = N at *
    generalize Oct.gtE bs = E2 at *
    go_wp2_with fail
    refine (ref01_SameT A1 A2 _ _ c1 c2 P _ y1 y2 hml).mono ?_
    rintro e w5 ⟨rfl, k5, rfl⟩
    go_wp2_with (go_at_call 10; refine (law01_example _).mono ?_; rintro e w6 ⟨rfl, b6⟩)
    go_ret
    exact ⟨rfl, (Below.drewN bb _).trans (b6.mono bb.size)⟩
  · have t1 : decide ((5000 : Int) < (n : Int)) = true := by simp; omega
    go_enter Try.func8, Try.ntmps8
    go_wp2_with (go_at_call 10; refine (law01_example _).mono ?_; rintro e w6 ⟨rfl, b6⟩)
    go_ret
    exact ⟨rfl, b6⟩
end Go.Proofs.Ytpegechahbldlaa
