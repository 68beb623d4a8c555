/-
  Pages whose power was cut, or may be: contracts.
-/
import Derived.Test.YtnlhammgcemchaaPgAO
namespace Go.Proofs.Ytnlhammgcemchaa
set_option maxRecDepth 100000
set_option linter.unusedSimpArgs false
set_option linter.unusedVariables false
open Go.RowKit
set_option maxHeartbeats 8000000

theorem Pg.Can.restore {B : Nat} {fr : Pg.Fs} {m : Cel.Mem} {st : List (List UInt8)} (h : Pg.Can B fr m st) : Pg.Can B fr m.restore st :=
  { disk := h.disk, fine := ⟨h.fine.writes, h.fine.cuts, ⟨by show (0 : Int) ≤ 0; omega, by show (0 : Int) ≤ _; omega⟩, h.fine.wear⟩, endu := h.endu, big := h.big, small := h.small, wl := h.wl, low := h.low }
theorem Pg.Can.cut {B : Nat} {fr : Pg.Fs} {m : Cel.Mem} {st : List (List UInt8)} (h : Pg.Can B fr m st) {z : Int} (hz : z ≤ 9223372036854775807) : Pg.Can B fr (m.cut z).1 st := by
  unfold Cel.Mem.cut
  split
  · exact h
  · split
    · exact h
    · exact { disk := h.disk, fine := ⟨h.fine.writes, h.fine.cuts, ⟨by show (0 : Int) ≤ z; omega, hz⟩, h.fine.wear⟩, endu := h.endu, big := h.big, small := h.small, wl := h.wl, low := h.low }
theorem Pg.Live.cut {B : Nat} {fr : Pg.Fs} {p : Pg.P} {st : List (List UInt8)} (h : Pg.Live B fr p st) {z : Int} (h0 : 0 ≤ z) (hz : z ≤ 9223372036854775807) : (p.m.cut z).2 = 0 ∧ Pg.Live B fr (p.wm (p.m.cut z).1) st := by
  have e : p.m.cut z = ({ p.m with pending := true, left := z }, 0) := by
    unfold Cel.Mem.cut
    rw [if_neg (by rw [h.off]; decide), if_neg (by omega)]
  rw [e]
  exact ⟨rfl, { inv := ⟨h.inv.disk, h.inv.cnt, h.inv.fms, h.inv.cur, h.inv.fnd, h.inv.fmem, h.inv.turn⟩, off := h.off, cuts := h.cuts, fine := ⟨h.fine.writes, h.fine.cuts, ⟨h0, hz⟩, h.fine.wear⟩, endu := h.endu, fixed := h.fixed, version := h.version, big := h.big, small := h.small, wl := h.wl, low := h.low }⟩
theorem Pg.Dead.alive {B : Nat} {fr : Pg.Fs} {p : Pg.P} {st : List (List UInt8)} (h : Pg.Dead B fr p st) : p.alive = false := by unfold Pg.P.alive; rw [h.off]; rfl
theorem Pg.Dead.len {B : Nat} {fr : Pg.Fs} {p : Pg.P} {st : List (List UInt8)} (h : Pg.Dead B fr p st) : st.length = p.count := h.disk.len.trans h.cnt.symm
/-- Power again, but not since Open. -/
theorem Pg.Dead.after {B : Nat} {fr : Pg.Fs} {p : Pg.P} {st : List (List UInt8)} (h : Pg.Dead B fr p st) : (p.wm p.m.restore).alive = false := by
  unfold Pg.P.alive
  have e : ((p.wm p.m.restore).m.cuts == (p.wm p.m.restore).cuts) = false := by
    rw [beq_eq_false_iff_ne]
    show p.m.cuts ≠ p.cuts
    rw [h.cuts]; omega
  rw [e, Bool.and_false]
theorem Cel.Mem.cut_on {m : Cel.Mem} (ho : m.off = false) (z : Int) : (m.cut z).1.off = false := by
  unfold Cel.Mem.cut
  split
  · exact ho
  · split <;> exact ho
theorem Cel.Mem.cut_restore (m : Cel.Mem) (z : Int) : (m.cut z).1.restore = m.restore := by
  unfold Cel.Mem.cut
  split
  · rfl
  · split <;> rfl
theorem Pg.access_dead {p : Pg.P} (h : p.alive = false) (i : Int) : p.access i = 7 := by unfold Pg.P.access; rw [if_pos h]
/-- What a write has done. -/
def WrD (B : Nat) (p : Pg.P) (st : List (List UInt8)) (i : Int) (b : List UInt8) (er : Int) : Prop :=
  ∃ fr, (er = (Pg.rwrite st i b).2 ∧ Pg.Live B fr p (Pg.rwrite st i b).1) ∨ (er = 7 ∧ Pg.Dead B fr p st)
section
variable {w : World} {g B : Nat} {G : Nat → Prop} {s : PgS} {p : Pg.P} {fr : Pg.Fs} {st : List (List UInt8)}
theorem live_WriteD (H : PAt w g G s p) (L : Pg.Live B fr p st) (hB : B ≤ 900000000) (i : Int) (B0 : Option Addr) (n cb : Nat) (b : List UInt8) (hb : Byt w w.heap.size B0 n cb b ∧ ∀ a, B0 = some a → 0 < n → ¬ G a.block) :
    Calls Try.prog 14 #[.pointer (some ⟨g, 0, none⟩), .int .i64 i, .slice B0 n cb] w fun e w' => ∃ p' G' s' er, e = .returned (.int .i64 er) ∧ PAt w' g G' s' p' ∧ WrD (B + 1200) p' st i b er ∧ (∀ q, G' q → G q ∨ w.heap.size ≤ q) ∧ Only G w w' ∧ s'.gm = s.gm := by
  have h := live_Write H L hB i B0 n cb b hb
  refine h.mono ?_
  rintro e w' ⟨he, G', s', h1, h2, h3, h4⟩
  simp only [PgS.mm, Prod.mk.injEq] at h4
  rcases L.writes hB i b with ⟨p', fr', e1, h5, _⟩ | ⟨p', fr', e1, _, h5, _⟩
  · rw [e1] at he h1
    exact ⟨p', G', s', _, he, h1, ⟨fr', .inl ⟨rfl, h5⟩⟩, h2, h3, h4.1⟩
  · rw [e1] at he h1
    exact ⟨p', G', s', _, he, h1, ⟨fr', .inr ⟨rfl, h5⟩⟩, h2, h3, h4.1⟩
theorem page_Read_no (H : PAt w g G s p) (hd : p.alive = false) (i : Int) :
    Calls Try.prog 17 #[.pointer (some ⟨g, 0, none⟩), .int .i64 i] w fun e w' => e = .returned (.tuple #[.slice none 0 0, .int .i64 7]) ∧ Below w.heap.size w w' := by
  have HM := Lib.hid (fun (u : World) (h : PAt u g G s p) => page_made h)
  have HA := Lib.hid (fun (u : World) (h : PAt u g G s p) => page_access h i)
  have HH := Lib.hid H
  rw [Pg.access_dead hd] at HA
  clear H hd
  go_enter Try.func17, Try.ntmps17
  go_wp2_with fail
  go_at_call 37
  refine (HM.out _ HH.out).mono ?_
  rintro e w1 ⟨rfl, hb1⟩
  go_wp2_with fail
  go_at_call 38
  refine (HA.out _ (HH.out.below hb1)).mono ?_
  rintro e w2 ⟨rfl, hb2⟩
  go_wp2_with fail
  go_ret2
  exact ⟨rfl, hb1.trans (hb2.mono hb1.size)⟩
theorem page_Write_no (H : PAt w g G s p) (hd : p.alive = false) (i : Int) (B0 : Option Addr) (cb : Nat) :
    Calls Try.prog 14 #[.pointer (some ⟨g, 0, none⟩), .int .i64 i, .slice B0 48 cb] w fun e w' => e = .returned (.int .i64 7) ∧ Below w.heap.size w w' := by
  have HM := Lib.hid (fun (u : World) (h : PAt u g G s p) => page_made h)
  have HA := Lib.hid (fun (u : World) (h : PAt u g G s p) => page_access h i)
  have HH := Lib.hid H
  rw [Pg.access_dead hd] at HA
  clear H hd
  go_enter Try.func14, Try.ntmps14
  go_wp2_with fail
  go_at_call 37
  refine (HM.out _ HH.out).mono ?_
  rintro e w1 ⟨rfl, hb1⟩
  go_wp2_with fail
  go_at_call 38
  refine (HA.out _ (HH.out.below hb1)).mono ?_
  rintro e w2 ⟨rfl, hb2⟩
  go_wp2_with fail
  go_ret
  exact ⟨rfl, hb1.trans (hb2.mono hb1.size)⟩
/-- Open of the memory of pages, whatever became of them. -/
theorem page_OpenP (H : PAt w g G s p) (hon : p.m.off = false) (hc : Pg.Can B fr p.m st) (hB : B ≤ 1000000000) :
    Calls Try.prog 12 #[.pointer (some ⟨s.gm, 0, none⟩)] w fun e w' => Below w.heap.size w w' ∧ ∃ g' G' s' p', e = .returned (.tuple #[.pointer (some ⟨g', 0, none⟩), .int .i64 0]) ∧ Pg.Live B fr p' st ∧ PAt w' g' G' s' p' ∧ s'.gm = s.gm ∧ ∀ q, G' q → G q ∨ w.heap.size ≤ q := by
  refine (page_Open_can H.mem hon hc hB).mono ?_
  rintro e w' ⟨hb, g', G', s', p', he, hL, _, _, hp, e1, e2, e3, e4, e5, e6, hG⟩
  refine ⟨hb, g', G', s', p', he, hL, hp, e1, fun q hq => ?_⟩
  rcases hG q hq with h6 | h6 | h6 | h6
  · exact .inl (H.memR (.inl h6))
  · exact .inl (H.memR (.inr (.inl h6)))
  · exact .inl (H.memR (.inr (.inr h6)))
  · exact .inr h6
theorem page_Restore (H : PAt w g G s p) : Calls Try.prog 29 #[.pointer (some ⟨s.gm, 0, none⟩)] w fun e w' => e = .returned (.tuple #[]) ∧ PAt w' g G s (p.wm p.m.restore) ∧ Only G w w' :=
  (cell_Restore H.mem).mono fun e w' ⟨he, h1, h2⟩ => ⟨he, H.memd h2 h1, h2.mono fun q _ hq => H.memR hq⟩
theorem page_Cut (H : PAt w g G s p) (z : Int) : Calls Try.prog 28 #[.pointer (some ⟨s.gm, 0, none⟩), .int .i64 z] w fun e w' => e = .returned (.int .i64 (p.m.cut z).2) ∧ PAt w' g G s (p.wm (p.m.cut z).1) ∧ Only G w w' :=
  (cell_Cut H.mem z).mono fun e w' ⟨he, h1, h2⟩ => ⟨he, H.memd h2 h1, h2.mono fun q _ hq => H.memR hq⟩
theorem page_OpenOff (H : PAt w g G s p) (hoff : p.m.off = true) : Calls Try.prog 12 #[.pointer (some ⟨s.gm, 0, none⟩)] w fun e w' => e = .returned (.tuple #[.pointer none, .int .i64 7]) ∧ Below w.heap.size w w' :=
  page_Open_off H.mem hoff H.mem.pos
end
end Go.Proofs.Ytnlhammgcemchaa
