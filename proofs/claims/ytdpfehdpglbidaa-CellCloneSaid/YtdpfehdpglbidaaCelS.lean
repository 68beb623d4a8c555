/-
  The walks of the memory's methods that write.
-/
import Derived.Test.YtdpfehdpglbidaaCelM
namespace Go.Proofs.Ytdpfehdpglbidaa
open Go.RowKit

/-- The memory's three blocks. -/
def MemR (g gw gv : Nat) (k : Nat) : Prop := k = g ∨ k = gw ∨ k = gv

section
variable {w : World} {g gw gv n cw cv : Nat} {m : Cel.Mem}
theorem MemAt.field (h : MemAt w g gw gv n cw cv m) (j : Nat) (u : Value) (m' : Cel.Mem) (hw : m'.words = m.words) (hv : m'.wear = m.wear)
    (hb : (#[.slice (some ⟨gw, 0, none⟩) n cw, .slice (some ⟨gv, 0, none⟩) n cv, I64 m.endurance, I64 m.writes, I64 m.cuts, .bool m.off, .bool m.pending, I64 m.left] : Array Value).setIfInBounds j u =
      #[.slice (some ⟨gw, 0, none⟩) n cw, .slice (some ⟨gv, 0, none⟩) n cv, I64 m'.endurance, I64 m'.writes, I64 m'.cuts, .bool m'.off, .bool m'.pending, I64 m'.left]) :
    MemAt (w.setCell ⟨g, j, none⟩ u) g gw gv n cw cv m' :=
  ⟨by rw [← hb]; exact h.box.set j u, by rw [hw]; exact h.words.setCell (by intro q hq; simp at hq; subst hq; exact h.gw_ne.symm) u,
    by rw [hv]; exact h.wear.setCell (by intro q hq; simp at hq; subst hq; exact h.gv_ne.symm) u, h.pos, h.small, h.gw_ne, h.gv_ne, h.wv_ne⟩
theorem MemAt.setWrites (h : MemAt w g gw gv n cw cv m) (x : Int) : MemAt (w.setCell ⟨g, 3, none⟩ (I64 x)) g gw gv n cw cv { m with writes := x } := h.field 3 _ _ rfl rfl rfl
theorem MemAt.setCuts (h : MemAt w g gw gv n cw cv m) (x : Int) : MemAt (w.setCell ⟨g, 4, none⟩ (I64 x)) g gw gv n cw cv { m with cuts := x } := h.field 4 _ _ rfl rfl rfl
theorem MemAt.setOff (h : MemAt w g gw gv n cw cv m) (x : Bool) : MemAt (w.setCell ⟨g, 5, none⟩ (.bool x)) g gw gv n cw cv { m with off := x } := h.field 5 _ _ rfl rfl rfl
theorem MemAt.setPending (h : MemAt w g gw gv n cw cv m) (x : Bool) : MemAt (w.setCell ⟨g, 6, none⟩ (.bool x)) g gw gv n cw cv { m with pending := x } := h.field 6 _ _ rfl rfl rfl
theorem MemAt.setLeft (h : MemAt w g gw gv n cw cv m) (x : Int) : MemAt (w.setCell ⟨g, 7, none⟩ (I64 x)) g gw gv n cw cv { m with left := x } := h.field 7 _ _ rfl rfl rfl
theorem MemAt.setWord (h : MemAt w g gw gv n cw cv m) {i : Nat} (hi : i < n) (v : UInt32) : MemAt (w.setCell ⟨gw, i, none⟩ (W32 v)) g gw gv n cw cv { m with words := m.words.set i v } := by
  obtain ⟨q, e, _, _, _, _, hs⟩ := h.words.elem hi
  obtain rfl : gw = q := by simpa using e
  refine ⟨h.box.far h.gw_ne _, ?_, h.wear.setCell (by intro q hq; simp at hq; subst hq; exact h.wv_ne.symm) _, h.pos, h.small, h.gw_ne, h.gv_ne, h.wv_ne⟩
  have := hs (W32 v)
  rwa [show (m.words.map W32).set i (W32 v) = (m.words.set i v).map W32 by rw [List.map_set]] at this
theorem MemAt.setWear (h : MemAt w g gw gv n cw cv m) {i : Nat} (hi : i < n) (x : Int) : MemAt (w.setCell ⟨gv, i, none⟩ (I64 x)) g gw gv n cw cv { m with wear := m.wear.set i x } := by
  obtain ⟨q, e, _, _, _, _, hs⟩ := h.wear.elem hi
  obtain rfl : gv = q := by simpa using e
  refine ⟨h.box.far h.gv_ne _, h.words.setCell (by intro q hq; simp at hq; subst hq; exact h.wv_ne) _, ?_, h.pos, h.small, h.gw_ne, h.gv_ne, h.wv_ne⟩
  have := hs (I64 x)
  rwa [show (m.wear.map I64).set i (I64 x) = (m.wear.set i x).map I64 by rw [List.map_set]] at this
theorem MemAt.drewN (h : MemAt w g gw gv n cw cv m) (k : Nat) : MemAt (w.drewN k) g gw gv n cw cv m := ⟨h.box, h.words, h.wear, h.pos, h.small, h.gw_ne, h.gv_ne, h.wv_ne⟩
theorem MemAt.drew (h : MemAt w g gw gv n cw cv m) : MemAt w.drew g gw gv n cw cv m := ⟨h.box, h.words, h.wear, h.pos, h.small, h.gw_ne, h.gv_ne, h.wv_ne⟩
theorem MemAt.fbox (h : MemAt w g gw gv n cw cv m) (j : Nat) : w.frozen? ⟨g, j, none⟩ = false := h.box.frozen j
theorem MemAt.fword (h : MemAt w g gw gv n cw cv m) {i : Nat} (hi : i < n) : w.frozen? ⟨gw, i, none⟩ = false := by
  obtain ⟨q, e, _, _, _, hf, _⟩ := h.words.elem hi
  obtain rfl : gw = q := by simpa using e
  exact hf
theorem MemAt.fwear (h : MemAt w g gw gv n cw cv m) {i : Nat} (hi : i < n) : w.frozen? ⟨gv, i, none⟩ = false := by
  obtain ⟨q, e, _, _, _, hf, _⟩ := h.wear.elem hi
  obtain rfl : gv = q := by simpa using e
  exact hf
end

theorem bit_eq (i : Nat) : ((Cel.bit i).toNat : Int) = (2 : Int) ^ (i % 32) := by
  unfold Cel.bit
  rw [UInt32.toNat_ofNat_of_lt' (Nat.lt_of_lt_of_le (Nat.pow_lt_pow_right (by omega) (Nat.mod_lt i (by omega : 0 < 32))) (by decide))]
  simp

theorem flip_eq (v : UInt32) (i : Nat) : bits BinOp.xor IntKind.u32 (v.toNat : Int) ((2 : Int) ^ (i % 32) % 4294967296) = ((v ^^^ Cel.bit i).toNat : Int) := by
  have h := Cel.bit i |>.toNat_lt
  have e : (2 : Int) ^ (i % 32) % 4294967296 = ((Cel.bit i).toNat : Int) := by
    rw [← bit_eq]; omega
  rw [e, u32_xor_nat _ _ v.toNat_lt h, UInt32.toNat_xor]

section
variable {w : World} {g gw gv n cw cv : Nat} {m : Cel.Mem} (h : MemAt w g gw gv n cw cv m)
include h

set_option maxHeartbeats 400000 in
theorem cell_Write_no (a : Int) (v : UInt32) (ha : m.access a ≠ 0) : Calls Try.prog 9 #[.pointer (some ⟨g, 0, none⟩), .int .i64 a, .int .u32 (v.toNat : Int)] w fun e w' => e = .returned (.int .i64 (m.access a)) ∧ w = w' := by
  have H := Lib.hid h
  have hb : (m.access a != 0) = true := by simpa using ha
  go_enter Try.func9, Try.ntmps9
  go_wp2_with (go_at_call 25; refine (cell_access H.out a).mono ?_; rintro e w1 ⟨rfl, rfl⟩)
  go_ret
  exact ⟨rfl, rfl⟩

set_option maxHeartbeats 400000 in
theorem cell_Write_cut (a : Int) (v : UInt32) (ha : m.access a = 0) (hp : m.pending = true) (hl : m.left = 0) (hc : m.cuts + 1 ≤ 9223372036854775807) (hc' : 0 ≤ m.cuts) : Calls Try.prog 9 #[.pointer (some ⟨g, 0, none⟩), .int .i64 a, .int .u32 (v.toNat : Int)] w fun e w' =>
    e = .returned (.int .i64 7) ∧ MemAt w' g gw gv n cw cv m.down ∧ Only (MemR g gw gv) w w' := by
  have H := Lib.hid h
  have hb : (m.access a != 0) = false := by simpa using ha
  have c4 := h.c4
  have c5 := h.c5
  have c6 := h.c6
  have c7 := h.c7
  have f4 := h.fbox 4
  have f5 := h.fbox 5
  have f6 := h.fbox 6
  rw [hp] at c6
  rw [hl] at c7
  clear ha hp hl
  go_enter Try.func9, Try.ntmps9
  go_wp2_with (go_at_call 25; refine (cell_access H.out a).mono ?_; rintro e w1 ⟨rfl, rfl⟩)
  go_ret
  exact ⟨rfl, ((h.setOff true).setPending false).setCuts (m.cuts + 1), (((Only.refl _ _).setCell (.inl rfl) _).setCell (.inl rfl) _).setCell (.inl rfl) _⟩

set_option maxRecDepth 100000 in
set_option maxHeartbeats 1000000 in
theorem cell_Write_yes (i : Nat) (v : UInt32) (hi : i < n) (ho : m.off = false) (hp : m.pending = true → m.left ≠ 0 ∧ -9223372036854775807 ≤ m.left ∧ m.left ≤ 9223372036854775807) (hw : 0 ≤ m.writes ∧ m.writes + 1 ≤ 9223372036854775807) (hv : 0 ≤ m.wear.getD i 0 ∧ m.wear.getD i 0 + 1 ≤ 9223372036854775807) :
    Calls Try.prog 9 #[.pointer (some ⟨g, 0, none⟩), .int .i64 (i : Int), .int .u32 (v.toNat : Int)] w fun e w' =>
    e = .returned (.int .i64 0) ∧ MemAt w' g gw gv n cw cv (m.tick.put i v) ∧ Only (MemR g gw gv) w w' := by
  have H := Lib.hid h
  have ha : m.access (i : Int) = 0 := (m.access_zero _).2 ⟨ho, (m.has_iff _).2 ⟨by omega, by rw [h.len]; omega⟩⟩
  have hb : (m.access (i : Int) != 0) = false := by simpa using ha
  have c0 := h.c0
  have c1 := h.c1
  have c2 := h.c2
  have c3 := h.c3
  have c6 := h.c6
  have c7 := h.c7
  have cw' := h.word hi
  have cv' := h.worn hi
  have f3 := h.fbox 3
  have f7 := h.fbox 7
  have fw := h.fword hi
  have fv := h.fwear hi
  have n1 := h.gw_ne
  have n2 := h.gv_ne
  have n3 := h.wv_ne
  have hm := h.max
  have w1 := hw.1
  have w2 := hw.2
  have v1 := hv.1
  have v2 := hv.2
  have p0 : (0 : Int) ≤ (i : Int) := by omega
  have p1 : (i : Int) < (n : Int) := by omega
  clear ha ho hw hv
  cases hpend : m.pending with
  | false =>
    rw [hpend] at c6
    have HP := Lib.hid hpend
    clear hpend hp
    by_cases hx : m.endurance < m.wear.getD i 0 + 1
    · have hd : decide (m.endurance < m.wear.getD i 0 + 1) = true := by simpa using hx
      generalize hwe : m.wear.getD i 0 = we at *
      have Hwe := Lib.hid hwe
      clear hwe
      have e1 := Lib.hid (show m.tick.put i v = { { { m with writes := m.writes + 1 } with wear := m.wear.set i (we + 1) } with words := m.words.set i (v ^^^ Cel.bit i) } by rw [m.tick_no HP.out, Cel.Mem.put_yes m i v we Hwe.out hx])
      go_enter Try.func9, Try.ntmps9
      go_wp2_with (go_at_call 25; refine (cell_access H.out _).mono ?_; rintro e w1 ⟨rfl, rfl⟩)
      go_quiet (fail)
      go_wp2_with fail
      go_ret
      rw [e1.out]
      rw [flip_eq]
      exact ⟨rfl, (((h.setWrites _).setWear hi _).setWord hi _).drewN nq, ((((Only.refl _ _).setCell (.inl rfl) _).setCell (.inr (.inr rfl)) _).setCell (.inr (.inl rfl)) _).drewN nq⟩
    · have hd : decide (m.endurance < m.wear.getD i 0 + 1) = false := by simpa using hx
      generalize hwe : m.wear.getD i 0 = we at *
      have Hwe := Lib.hid hwe
      clear hwe
      have e1 := Lib.hid (show m.tick.put i v = { { { m with writes := m.writes + 1 } with wear := m.wear.set i (we + 1) } with words := m.words.set i v } by rw [m.tick_no HP.out, Cel.Mem.put_no m i v we Hwe.out hx])
      go_enter Try.func9, Try.ntmps9
      go_wp2_with (go_at_call 25; refine (cell_access H.out _).mono ?_; rintro e w1 ⟨rfl, rfl⟩)
      go_quiet (fail)
      go_wp2_with fail
      go_ret
      rw [e1.out]
      exact ⟨rfl, (((h.setWrites _).setWear hi _).setWord hi _).drewN nq, ((((Only.refl _ _).setCell (.inl rfl) _).setCell (.inr (.inr rfl)) _).setCell (.inr (.inl rfl)) _).drewN nq⟩
  | true =>
    rw [hpend] at c6
    have HP := Lib.hid hpend
    obtain ⟨l0, l1, l2⟩ := hp hpend
    have hl : (m.left == 0) = false := by simpa using l0
    clear hpend hp
    by_cases hx : m.endurance < m.wear.getD i 0 + 1
    · have hd : decide (m.endurance < m.wear.getD i 0 + 1) = true := by simpa using hx
      generalize hwe : m.wear.getD i 0 = we at *
      have Hwe := Lib.hid hwe
      clear hwe
      have e1 := Lib.hid (show m.tick.put i v = { { { { m with left := m.left - 1 } with writes := m.writes + 1 } with wear := m.wear.set i (we + 1) } with words := m.words.set i (v ^^^ Cel.bit i) } by rw [m.tick_yes HP.out, Cel.Mem.put_yes { m with left := m.left - 1 } i v we Hwe.out hx])
      go_enter Try.func9, Try.ntmps9
      go_wp2_with (go_at_call 25; refine (cell_access H.out _).mono ?_; rintro e w1 ⟨rfl, rfl⟩)
      go_quiet (fail)
      go_wp2_with fail
      go_ret
      rw [e1.out]
      rw [flip_eq]
      exact ⟨rfl, ((((h.setLeft (m.left - 1)).setWrites _).setWear hi _).setWord hi _).drewN nq, (((((Only.refl _ _).setCell (.inl rfl) _).setCell (.inl rfl) _).setCell (.inr (.inr rfl)) _).setCell (.inr (.inl rfl)) _).drewN nq⟩
    · have hd : decide (m.endurance < m.wear.getD i 0 + 1) = false := by simpa using hx
      generalize hwe : m.wear.getD i 0 = we at *
      have Hwe := Lib.hid hwe
      clear hwe
      have e1 := Lib.hid (show m.tick.put i v = { { { { m with left := m.left - 1 } with writes := m.writes + 1 } with wear := m.wear.set i (we + 1) } with words := m.words.set i v } by rw [m.tick_yes HP.out, Cel.Mem.put_no { m with left := m.left - 1 } i v we Hwe.out hx])
      go_enter Try.func9, Try.ntmps9
      go_wp2_with (go_at_call 25; refine (cell_access H.out _).mono ?_; rintro e w1 ⟨rfl, rfl⟩)
      go_quiet (fail)
      go_wp2_with fail
      go_ret
      rw [e1.out]
      exact ⟨rfl, ((((h.setLeft (m.left - 1)).setWrites _).setWear hi _).setWord hi _).drewN nq, (((((Only.refl _ _).setCell (.inl rfl) _).setCell (.inl rfl) _).setCell (.inr (.inr rfl)) _).setCell (.inr (.inl rfl)) _).drewN nq⟩
end
end Go.Proofs.Ytdpfehdpglbidaa
