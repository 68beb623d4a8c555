/-
  The walk of the statement OctetsPieces.
-/
import Derived.Test.YtpegechahbldlaaOctR
import Derived.Test.YtpegechahbldlaaJoinW
namespace Go.Proofs.Ytpegechahbldlaa
open Go.RowKit

theorem piece_le (l : List (List UInt8)) (x : List UInt8) (h : x ∈ l) : x.length ≤ l.flatten.length := by
  induction l with
  | nil => cases h
  | cons y l ih =>
    rw [List.flatten_cons, List.length_append]
    rcases List.mem_cons.1 h with rfl | h
    · omega
    · have := ih h; omega
theorem sp_le (J : List UInt8) (p : Int) : (Oct.spB J p).length ≤ J.length ∧ ∀ x ∈ Oct.spB J p, x.length ≤ J.length := by
  unfold Oct.spB
  split
  · exact ⟨Nat.zero_le _, fun x hx => (by cases hx)⟩
  · have hm : 1 ≤ p.toNat := by omega
    refine ⟨Oct.split_length_le _ hm _ _ (Nat.le_refl _), fun x hx => ?_⟩
    have := piece_le _ x hx
    rwa [Oct.split_flat _ hm _ J (Nat.le_refl _)] at this

set_option maxRecDepth 100000 in
set_option maxHeartbeats 4000000 in
theorem law_OctetsPieces (A : Option Addr) (n c : Nat) (vs : List SV) (p : Int) (w : World) (h : Byts w w.heap.size A vs) (hn : vs.length = n) (hcap : n ≤ 9223372036854775807) (hv : ∀ v ∈ vs, v.c ≤ 140737488351232) :
    Calls Try.prog 5 #[.slice A n c, .int .i64 p] w fun e w' => e = .returned (.bool true) ∧ Below w.heap.size w w' := by
  have hl := Lib.hid hn
  clear hn
  go_enter Try.func5, Try.ntmps5
  go_wp2_with fail
  go_loopg [5, 6] 41 (fun g all i wr => ∃ k s : Nat, k + g = 41 ∧ k ≤ n ∧ i = .int .i64 k ∧ all = .int .i64 s ∧ Hid (s = (joined (vs.take k)).length) ∧ s ≤ 5000 ∧ w = wr)
  case atStart => exact ⟨0, 0, by omega, by omega, rfl, rfl, rfl, by omega, rfl⟩
  case round =>
    obtain ⟨k, s, hk, hkn, rfl, rfl, hs, hs5, rfl⟩ := hrel
    by_cases hend : k = n ∨ k = 41
    · have hcase : (k = n ∧ n ≤ 40) ∨ (k = 41 ∧ k < n) ∨ (k = 41 ∧ n = 41) := by omega
      clear hend
      rcases hcase with ⟨rfl, h40⟩ | ⟨rfl, hkn2⟩ | ⟨rfl, rfl⟩
      · have e1 : vs.take k = vs := List.take_of_length_le (by rw [hl.out]; omega)
        rw [e1] at hs
        have hj : Hid ((joined vs).length ≤ 5000) := by show _ ≤ _; rw [← hs.out]; exact hs5
        have hge : ¬ (k : Int) < (k : Int) := by omega
        have t1 : decide ((40 : Int) < (k : Int)) = false := by simp; omega
        clear e1
        go_wp2_with fail
        refine (octets_Join A k c vs _ h hl.out hcap (by have := hj.out; omega)).mono ?_
        rintro e w1 ⟨A1, c1, rfl, o1, b1⟩
        have h := (h.below b1).more b1.size
        go_wp2_with fail
        refine (ref01_Join A k c vs _ h hl.out hcap (by have := hj.out; omega)).mono ?_
        rintro e w2 ⟨A2, c2, rfl, o2, b2⟩
        have h := (h.below b2).more b2.size
        have y1 := (o1.below b2).byt (Nat.le_refl _)
        have y2 := o2.byt (Nat.le_refl _)
        have bb := b1.trans (b2.mono b1.size)
        clear b1 b2 o1 o2
        generalize hJJ : joined vs = J at *
        have HJ := Lib.hid hJJ
        clear hJJ
        go_wp2_with fail
        refine (ref01_SameT A1 A2 _ _ c1 c2 J _ y1 y2 (by have := hj.out; omega)).mono ?_
        rintro e w3 ⟨rfl, k3, rfl⟩
        have h : Byts (w2.drewN k3) (w2.drewN k3).heap.size A vs := h
        have y1 : Byt (w2.drewN k3) (w2.drewN k3).heap.size A1 J.length c1 J := y1
        have bb := Below.drewN bb k3
        clear y2
        generalize w2.drewN k3 = w3 at *
        go_wp2_with fail
        refine (octets_Split A1 J.length c1 J p _ y1 (by have := hj.out; omega)).mono ?_
        rintro e w4 ⟨A4, c4, vs4, rfl, hv4, o4, hall4, b4⟩
        have h := (h.below b4).more b4.size
        have o4 := o4.mono (base' := w.heap.size) bb.size
        have bb := bb.trans (b4.mono bb.size)
        clear b4 y1
        go_wp2_with fail
        refine (ref01_Join A k c vs _ h hl.out hcap (by rw [HJ.out]; have := hj.out; omega)).mono ?_
        rintro e w5 ⟨A5, c5, rfl, o5, b5⟩
        rw [HJ.out] at o5 ⊢
        have h := (h.below b5).more b5.size
        have y5 := o5.byt (Nat.le_refl _)
        have o4 := o4.below b5
        have hall4 := fun v hv => (hall4 v hv).below b5
        have bb := bb.trans (b5.mono bb.size)
        clear b5 o5
        go_wp2_with fail
        refine (ref01_Split A5 J.length c5 J p _ y5 (by have := hj.out; omega)).mono ?_
        rintro e w6 ⟨A6, c6, vs6, rfl, hv6, y6, b6⟩
        have o4 := o4.below b6
        have hall4 := fun v hv => (hall4 v hv).below b6
        have bb := bb.trans (b6.mono bb.size)
        have y4 : Byts w6 w6.heap.size A4 vs4 := ⟨o4.row, fun v hv => (hall4 v hv).byt (Nat.le_refl _)⟩
        have hsl := sp_le J p
        have hll : vs4.length = (Oct.spB J p).length := by rw [← hv4, List.length_map]
        have hsz : ∀ v ∈ vs4, v.n ≤ 1000000000 := fun v hv => by
          have h1 := (y4.2 v hv).1
          have h2 := hsl.2 v.bs (by rw [← hv4]; exact List.mem_map.2 ⟨v, hv, rfl⟩)
          have := hj.out
          omega
        have hln : (Oct.spB J p).length ≤ 1000000000 := by have := hj.out; omega
        have HLL := Lib.hid hll
        have HEE : Hid (vs4.map SV.bs = vs6.map SV.bs) := by show _ = _; rw [hv4, hv6]
        have HSZ := Lib.hid hsz
        clear b6 o4 hall4 hsl hll hsz y5 hv4 hv6
        generalize (Oct.spB J p).length = sl at *
        generalize Oct.spE p = ee at *
        go_wp2_with fail
        refine (ref01_SameLists A4 A6 sl c4 c6 vs4 vs6 _ y4 y6 HLL.out hln HEE.out HSZ.out).mono ?_
        rintro e w7 ⟨rfl, k7, rfl⟩
        go_wp2_with (go_at_call 10; refine (law01_example _).mono ?_; rintro e w8 ⟨rfl, b8⟩)
        go_ret
        exact ⟨rfl, (Below.drewN bb _).trans (b8.mono bb.size)⟩
      · have i1 : (41 : Int) < (n : Int) := by omega
        have t1 : decide ((40 : Int) < (n : Int)) = true := by simp; omega
        go_wp2_with (go_at_call 10; refine (law01_example _).mono ?_; rintro e w8 ⟨rfl, b8⟩)
        go_ret
        exact ⟨rfl, b8⟩
      · go_wp2_with (go_at_call 10; refine (law01_example _).mono ?_; rintro e w8 ⟨rfl, b8⟩)
        go_ret
        exact ⟨rfl, b8⟩
    · obtain ⟨g, rfl⟩ : ∃ g, gk = g + 1 := ⟨gk - 1, by omega⟩
      have hkv : k < vs.length := by rw [hl.out]; omega
      obtain ⟨b1, o1, rfl, c1, y1⟩ := h.at_ hkv
      have jt := Lib.hid (joined_take vs k hkv)
      have hvc := hv vs[k] (List.getElem_mem hkv)
      generalize vs[k] = x at *
      have i0 : (0 : Int) ≤ (k : Int) := by omega
      have i1 : (k : Int) < (n : Int) := by omega
      have i2 : (k : Int) < 41 := by omega
      have hxl := Lib.hid y1.1
      have hxc := y1.2.1
      clear hend
      by_cases hbig : s + x.n ≤ 5000
      · go_wp2_with fail
        go_roundg g
        case measure => omega
        case rel => exact ⟨k + 1, s + x.n, by omega, by omega, by go_num, by go_num, by show _ = _; rw [jt.out, List.length_append, hxl.out]; exact congrArg (· + x.n) hs.out, hbig, rfl⟩
      · have i3 : ¬ (s : Int) + (x.n : Int) ≤ 5000 := by omega
        go_wp2_with (go_at_call 10; refine (law01_example _).mono ?_; rintro e w8 ⟨rfl, b8⟩)
        go_ret
        exact ⟨rfl, b8⟩
end Go.Proofs.Ytpegechahbldlaa
