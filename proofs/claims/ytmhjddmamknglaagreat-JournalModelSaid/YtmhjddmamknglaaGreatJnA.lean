/-
  The journal: contracts of its pages, the power sure or not.
-/
import Derived.Test.YtmhjddmamknglaaGreatZ0
import Derived.Test.YtmhjddmamknglaaGreatJo
namespace Go.Proofs.YtmhjddmamknglaaGreat
set_option maxRecDepth 100000
set_option linter.unusedSimpArgs false
set_option linter.unusedVariables false
open Go.RowKit
set_option maxHeartbeats 8000000

def Pg.P.wm (p : Pg.P) (m : Cel.Mem) : Pg.P := { p with m := m }
theorem Pg.Can.restore {B : Nat} {fr : Pg.Fs} {m : Cel.Mem} {st : List (List UInt8)} (h : Pg.Can B fr m st) : Pg.Can B fr m.restore st :=
  { disk := h.disk, fine := ⟨h.fine.writes, h.fine.cuts, ⟨by show (0 : Int) ≤ 0; omega, by show (0 : Int) ≤ _; omega⟩, h.fine.wear⟩, endu := h.endu, big := h.big, small := h.small, wl := h.wl, low := h.low }
theorem Pg.Live.cut {B : Nat} {fr : Pg.Fs} {p : Pg.P} {st : List (List UInt8)} (h : Pg.Live B fr p st) {z : Int} (h0 : 0 ≤ z) (hz : z ≤ 9223372036854775807) : (p.m.cut z).2 = 0 ∧ Pg.Live B fr (p.wm (p.m.cut z).1) st := by
  have e : p.m.cut z = ({ p.m with pending := true, left := z }, 0) := by
    unfold Cel.Mem.cut
    rw [if_neg (by rw [h.off]; decide), if_neg (by omega)]
  rw [e]
  exact ⟨rfl, { inv := ⟨h.inv.disk, h.inv.cnt, h.inv.fms, h.inv.cur, h.inv.fnd, h.inv.fmem, h.inv.turn⟩, off := h.off, cuts := h.cuts, fine := ⟨h.fine.writes, h.fine.cuts, ⟨h0, hz⟩, h.fine.wear⟩, endu := h.endu, fixed := h.fixed, version := h.version, big := h.big, small := h.small, wl := h.wl, low := h.low }⟩
theorem Pg.Can.cut {B : Nat} {fr : Pg.Fs} {m : Cel.Mem} {st : List (List UInt8)} (h : Pg.Can B fr m st) {z : Int} (hz : z ≤ 9223372036854775807) : Pg.Can B fr (m.cut z).1 st := by
  unfold Cel.Mem.cut
  split
  · exact h
  · split
    · exact h
    · exact { disk := h.disk, fine := ⟨h.fine.writes, h.fine.cuts, ⟨by show (0 : Int) ≤ z; omega, hz⟩, h.fine.wear⟩, endu := h.endu, big := h.big, small := h.small, wl := h.wl, low := h.low }
theorem Pg.Dead.alive {B : Nat} {fr : Pg.Fs} {p : Pg.P} {st : List (List UInt8)} (h : Pg.Dead B fr p st) : p.alive = false := by unfold Pg.P.alive; rw [h.off]; rfl
theorem Pg.Dead.len {B : Nat} {fr : Pg.Fs} {p : Pg.P} {st : List (List UInt8)} (h : Pg.Dead B fr p st) : st.length = p.count := h.disk.len.trans h.cnt.symm
theorem Cel.Mem.cut_on {m : Cel.Mem} (ho : m.off = false) (z : Int) : (m.cut z).1.off = false := by
  unfold Cel.Mem.cut
  split
  · exact ho
  · split <;> exact ho
/-- Pages that live; q: the power is sure. -/
structure PL (q : Prop) (B : Nat) (p : Pg.P) (st : List (List UInt8)) : Prop where
  live : ∃ fr, Pg.Live B fr p st
  calm : q → p.m.pending = false
/-- Pages whose power was cut. -/
structure PD (q : Prop) (B : Nat) (p : Pg.P) (st : List (List UInt8)) : Prop where
  not : ¬ q
  dead : ∃ fr, Pg.Dead B fr p st
/-- A write, or a chain of them, that went well, or met the end of the power. -/
def PW (q : Prop) (B : Nat) (p : Pg.P) (st st' : List (List UInt8)) (er : Int) : Prop := (er = 0 ∧ PL q B p st') ∨ (er = 7 ∧ PD q B p st)
section
variable {q : Prop} {B B' : Nat} {p : Pg.P} {st st' : List (List UInt8)}
theorem PL.mono (h : PL q B p st) (hB : B ≤ B') : PL q B' p st := ⟨h.live.imp fun _ h => h.mono hB, h.calm⟩
theorem PD.mono (h : PD q B p st) (hB : B ≤ B') : PD q B' p st :=
  ⟨h.not, h.dead.imp fun _ h => { h with disk := h.disk.mono hB, fine := h.fine.mono (by omega), low := by have := h.low; omega }⟩
theorem PW.mono {er : Int} (h : PW q B p st st' er) (hB : B ≤ B') : PW q B' p st st' er := h.imp (fun h => ⟨h.1, h.2.mono hB⟩) (fun h => ⟨h.1, h.2.mono hB⟩)
theorem PL.len (h : PL q B p st) : st.length = p.count := by obtain ⟨fr, h⟩ := h.live; exact h.len
theorem PL.alive (h : PL q B p st) : p.alive = true := by obtain ⟨fr, h⟩ := h.live; exact h.alive
theorem PD.alive (h : PD q B p st) : p.alive = false := by obtain ⟨fr, h⟩ := h.dead; exact h.alive
theorem PD.off (h : PD q B p st) : p.m.off = true := by obtain ⟨fr, h⟩ := h.dead; exact h.off
theorem PL.off (h : PL q B p st) : p.m.off = false := by obtain ⟨fr, h⟩ := h.live; exact h.off
theorem PL.can (h : PL q B p st) : ∃ fr, Pg.Can B fr p.m st := by obtain ⟨fr, h⟩ := h.live; exact ⟨fr, h.can⟩
theorem PD.can (h : PD q B p st) : ∃ fr, Pg.Can B fr p.m st := by obtain ⟨fr, h⟩ := h.dead; exact ⟨fr, h.can⟩
theorem PL.more (h : PL q B p st) {c : Nat} (hc : c ≤ 1000) : PL q (B + 1000) (p.more c) st := ⟨h.live.imp fun _ h => h.more hc, h.calm⟩
theorem PL.pos (h : PL q B p st) : 10 ≤ st.length ∧ st.length ≤ 2730 := by
  obtain ⟨fr, h⟩ := h.live
  have h1 := h.count_pos
  have h2 := h.len
  omega
theorem PL.st_len (h : PL q B p st) {i : Nat} (hi : i < st.length) : (st.getD i []).length = 48 := by
  obtain ⟨fr, h⟩ := h.live
  exact h.st_len (by rw [← h.len]; exact hi)
theorem PL.okJ (h : PL q B p st) (hb : 32 < st.length) : Jn.Ok st :=
  ⟨hb, fun x hx => by
    obtain ⟨i, hi, rfl⟩ := List.mem_iff_getElem.1 hx
    have := h.st_len hi
    rwa [Jn.getD_eq hi] at this⟩
end
section
variable {w : World} {g B : Nat} {G : Nat → Prop} {s : PgS} {p : Pg.P} {st : List (List UInt8)} {q : Prop}
/-- What a write, or a chain of writes, has done to pages. -/
def JpR (w : World) (g B : Nat) (G : Nat → Prop) (s : PgS) (q : Prop) (R : Pg.P → Int → Prop) (e : Ending) (w' : World) : Prop :=
  ∃ p' G' s' er, e = .returned (.int .i64 er) ∧ PAt w' g G' s' p' ∧ R p' er ∧ (∀ q, G' q → G q ∨ w.heap.size ≤ q) ∧ Only G w w' ∧ s'.gm = s.gm
theorem jp_Write (H : PAt w g G s p) (L : PL q B p st) (hB : B ≤ 900000000) (i : Nat) (hi : i < st.length) (B0 : Option Addr) (cb : Nat) (b : List UInt8) (hb : Byt w w.heap.size B0 48 cb b ∧ ∀ a, B0 = some a → ¬ G a.block) :
    Calls Tryz.prog 51 #[.pointer (some ⟨g, 0, none⟩), .int .i64 (i : Int), .slice B0 48 cb] w (JpR w g B G s q fun p' er => PW q (B + 1200) p' st (st.set i b) er) := by
  obtain ⟨fr, hL⟩ := L.live
  have h48 : b.length = 48 := hb.1.1
  have e1 : Pg.rwrite st i b = (st.set i b, 0) := by
    unfold Pg.rwrite
    rw [if_neg (by omega), if_neg (by omega)]; rfl
  refine (live_Write H hL hB i B0 48 cb b ⟨hb.1, fun a e _ => hb.2 a e⟩).mono ?_
  rintro e w' ⟨he, G', s', h1, h2, h3, h4⟩
  simp only [PgS.mm, Prod.mk.injEq] at h4
  rcases hL.writes hB i b with ⟨p', fr', e2, h5, _, _, _, hpd, _⟩ | ⟨p', fr', e2, hpd, h5, _⟩
  · rw [e2, e1] at he h1
    rw [e1] at h5
    exact ⟨p', G', s', _, he, h1, .inl ⟨rfl, ⟨⟨fr', h5⟩, fun hq => hpd (L.calm hq)⟩⟩, h2, h3, h4.1⟩
  · rw [e2] at he h1
    exact ⟨p', G', s', _, he, h1, .inr ⟨rfl, ⟨fun hq => (by rw [L.calm hq] at hpd; cases hpd), ⟨fr', h5⟩⟩⟩, h2, h3, h4.1⟩
theorem jp_Read (H : PAt w g G s p) (L : PL q B p st) (hB : B ≤ 900000000) (i : Nat) (hi : i < st.length) :
    Calls Tryz.prog 44 #[.pointer (some ⟨g, 0, none⟩), .int .i64 (i : Int)] w fun e w' =>
      ∃ A m c, e = .returned (.tuple #[.slice A 48 m, .int .i64 0]) ∧ Own w' w.heap.size 5 1 A 48 m (bcells (st.getD i [])) ∧ c ≤ 20 ∧ PL q (B + 1000) (p.more c) st ∧ PAt w' g G s (p.more c) ∧ Only G w w' := by
  obtain ⟨fr, hL⟩ := L.live
  have e1 : Pg.rread st i = (st.getD i [], 0) := by
    unfold Pg.rread
    rw [if_neg (by omega), Int.toNat_natCast]
  refine (live_Read H hL hB i).mono ?_
  rw [e1]
  rintro e w' ⟨A, k, m, c, he, hk, ho, hc, _, hp, hon⟩
  have h48 := L.st_len hi
  obtain rfl : k = 48 := hk.trans h48
  exact ⟨A, m, c, he, ho, hc, L.more (by omega), hp, hon⟩
theorem jp_Count (H : PAt w g G s p) (L : PL q B p st) : Calls Tryz.prog 8 #[.pointer (some ⟨g, 0, none⟩)] w fun e w' => e = .returned (.int .i64 (st.length : Int)) ∧ Below w.heap.size w w' := by
  rw [L.len]; exact page_Count H
theorem jp_Alive (H : PAt w g G s p) (L : PL q B p st) : Calls Tryz.prog 27 #[.pointer (some ⟨g, 0, none⟩)] w fun e w' => e = .returned (.bool true) ∧ Below w.heap.size w w' := by
  have := page_Alive H
  rwa [L.alive] at this
theorem page_OpenP {fr : Pg.Fs} (H : PAt w g G s p) (hon : p.m.off = false) (hc : Pg.Can B fr p.m st) (hB : B ≤ 1000000000) :
    Calls Tryz.prog 15 #[.pointer (some ⟨s.gm, 0, none⟩)] w fun e w' => Below w.heap.size w w' ∧ ∃ g' G' s' p', e = .returned (.tuple #[.pointer (some ⟨g', 0, none⟩), .int .i64 0]) ∧ Pg.Live B fr p' st ∧ p'.m = p.m ∧ PAt w' g' G' s' p' ∧ s'.gm = s.gm ∧ ∀ q, G' q → G q ∨ w.heap.size ≤ q := by
  refine (page_Open_can H.mem hon hc hB).mono ?_
  rintro e w' ⟨hb, g', G', s', p', he, hL, hpm, _, hp, e1, e2, e3, e4, e5, e6, hG⟩
  refine ⟨hb, g', G', s', p', he, hL, hpm, hp, e1, fun q hq => ?_⟩
  rcases hG q hq with h6 | h6 | h6 | h6
  · exact .inl (H.memR (.inl h6))
  · exact .inl (H.memR (.inr (.inl h6)))
  · exact .inl (H.memR (.inr (.inr h6)))
  · exact .inr h6
theorem page_Restore (H : PAt w g G s p) : Calls Tryz.prog 14 #[.pointer (some ⟨s.gm, 0, none⟩)] w fun e w' => e = .returned (.tuple #[]) ∧ PAt w' g G s (p.wm p.m.restore) ∧ Only G w w' :=
  (cell_Restore H.mem).mono fun e w' ⟨he, h1, h2⟩ => ⟨he, H.memd h2 h1, h2.mono fun q _ hq => H.memR hq⟩
theorem page_Cut (H : PAt w g G s p) (z : Int) : Calls Tryz.prog 11 #[.pointer (some ⟨s.gm, 0, none⟩), .int .i64 z] w fun e w' => e = .returned (.int .i64 (p.m.cut z).2) ∧ PAt w' g G s (p.wm (p.m.cut z).1) ∧ Only G w w' :=
  (cell_Cut H.mem z).mono fun e w' ⟨he, h1, h2⟩ => ⟨he, H.memd h2 h1, h2.mono fun q _ hq => H.memR hq⟩
end
/-! The journal's small methods. -/
section
variable {w : World} {g gj B : Nat} {G : Nat → Prop} {s : PgS} {p : Pg.P} {st : List (List UInt8)} {q : Prop}
theorem jn_made (hj : Blk w gj 68 #[.pointer (some ⟨g, 0, none⟩)]) : Calls Tryz.prog 26 #[.pointer (some ⟨gj, 0, none⟩)] w fun e w' => e = .returned (.bool true) ∧ Below w.heap.size w w' := by
  have hm : Mem (fun q => q = gj) w w [⟨gj, _, _⟩] [] := Mem.one hj rfl
  have HK := Lib.hid hj
  clear hj
  go_enter Tryz.func26, Tryz.ntmps26
  go_wp2_with (first | go_skip | ((with_reducible show wpList _ _ _ _ _ (World.alloc _ _)); refine wpList_up hm ?_; clear hm; intro n w hn hn2 hk hm hd hd2 ho; (try rw [← hn]); replace hn := Nat.le_of_eq hn.symm) | ((first | ((with_reducible show wpList _ _ _ (Oper.mk _ (Op.box _ _) _ _ _ _ :: _) _ _); (refine bxA hm ?_; clear hm; intro n w hn hz hm ho; (try simp only [List.cons_append, List.nil_append] at hm))) | ((with_reducible show wpList _ _ _ (Oper.mk _ (Op.load _ _) _ _ _ _ :: _) _ _); first | (refine ldA hm ?_) | (refine laA hm ?_)) | ((with_reducible show wpList _ _ _ (Oper.mk _ (Op.store _ _ _) _ _ _ _ :: _) _ _); (refine stA hm ?_; clear hm; intro w hz hm ho)) | ((with_reducible show wpList _ _ _ (Oper.mk _ (Op.alloc _) _ _ _ _ :: _) _ _); (refine alA hm ?_; clear hm; intro n w hn hz hm ho; (try simp only [List.cons_append, List.nil_append] at hm)))); try simp only [Act.put, sxQ]))
  go_ret
  exact ⟨rfl, hm.still 0 rfl HK.out⟩
theorem jn_Size (hj : Blk w gj 68 #[.pointer (some ⟨g, 0, none⟩)]) (H : PAt w g G s p) (L : PL q B p st) : Calls Tryz.prog 47 #[.pointer (some ⟨gj, 0, none⟩)] w fun e w' => e = .returned (.int .i64 (48 * ((st.length - 32 : Nat) : Int))) ∧ Below w.heap.size w w' := by
  have hm : Mem (fun q => q = gj) w w [⟨gj, _, _⟩] [] := Mem.one hj rfl
  have HK := Lib.hid hj
  have HH := Lib.hid H
  have HL := Lib.hid L
  have hp := L.pos
  have u1 : IntKind.i64.wrap ((st.length : Int) - 32) = (st.length : Int) - 32 := IntWalk.i64_in _ (by omega)
  have u2 : max 0 ((st.length : Int) - 32) = ((st.length - 32 : Nat) : Int) := by omega
  have u3 : IntKind.i64.wrap (((st.length - 32 : Nat) : Int) * 48) = 48 * ((st.length - 32 : Nat) : Int) := by rw [IntWalk.i64_in _ (by omega)]; omega
  clear hj H L hp
  go_enter Tryz.func47, Tryz.ntmps47
  go_wp2_with (first | go_skip | ((with_reducible show wpList _ _ _ _ _ (World.alloc _ _)); refine wpList_up hm ?_; clear hm; intro n w hn hn2 hk hm hd hd2 ho; (try rw [← hn]); replace hn := Nat.le_of_eq hn.symm) | ((first | ((with_reducible show wpList _ _ _ (Oper.mk _ (Op.box _ _) _ _ _ _ :: _) _ _); (refine bxA hm ?_; clear hm; intro n w hn hz hm ho; (try simp only [List.cons_append, List.nil_append] at hm))) | ((with_reducible show wpList _ _ _ (Oper.mk _ (Op.load _ _) _ _ _ _ :: _) _ _); first | (refine ldA hm ?_) | (refine laA hm ?_)) | ((with_reducible show wpList _ _ _ (Oper.mk _ (Op.store _ _ _) _ _ _ _ :: _) _ _); (refine stA hm ?_; clear hm; intro w hz hm ho)) | ((with_reducible show wpList _ _ _ (Oper.mk _ (Op.alloc _) _ _ _ _ :: _) _ _); (refine alA hm ?_; clear hm; intro n w hn hz hm ho; (try simp only [List.cons_append, List.nil_append] at hm)))); try simp only [Act.put, sxQ]))
  go_at_call 26
  refine (jn_made (hm.at_ 0 rfl)).mono ?_
  rintro e w2 ⟨rfl, hb2⟩
  replace hm := hm.below hb2
  clear hb2
  go_wp2_with (first | go_skip | ((with_reducible show wpList _ _ _ _ _ (World.alloc _ _)); refine wpList_up hm ?_; clear hm; intro n w hn hn2 hk hm hd hd2 ho; (try rw [← hn]); replace hn := Nat.le_of_eq hn.symm) | ((first | ((with_reducible show wpList _ _ _ (Oper.mk _ (Op.box _ _) _ _ _ _ :: _) _ _); (refine bxA hm ?_; clear hm; intro n w hn hz hm ho; (try simp only [List.cons_append, List.nil_append] at hm))) | ((with_reducible show wpList _ _ _ (Oper.mk _ (Op.load _ _) _ _ _ _ :: _) _ _); first | (refine ldA hm ?_) | (refine laA hm ?_)) | ((with_reducible show wpList _ _ _ (Oper.mk _ (Op.store _ _ _) _ _ _ _ :: _) _ _); (refine stA hm ?_; clear hm; intro w hz hm ho)) | ((with_reducible show wpList _ _ _ (Oper.mk _ (Op.alloc _) _ _ _ _ :: _) _ _); (refine alA hm ?_; clear hm; intro n w hn hz hm ho; (try simp only [List.cons_append, List.nil_append] at hm)))); try simp only [Act.put, sxQ]))
  go_at_call 8
  refine (jp_Count (HH.out.below (hm.still 0 rfl HK.out)) HL.out).mono ?_
  rintro e w3 ⟨rfl, hb3⟩
  replace hm := hm.below hb3
  clear hb3
  go_wp2_with (first | go_skip | ((with_reducible show wpList _ _ _ _ _ (World.alloc _ _)); refine wpList_up hm ?_; clear hm; intro n w hn hn2 hk hm hd hd2 ho; (try rw [← hn]); replace hn := Nat.le_of_eq hn.symm) | ((first | ((with_reducible show wpList _ _ _ (Oper.mk _ (Op.box _ _) _ _ _ _ :: _) _ _); (refine bxA hm ?_; clear hm; intro n w hn hz hm ho; (try simp only [List.cons_append, List.nil_append] at hm))) | ((with_reducible show wpList _ _ _ (Oper.mk _ (Op.load _ _) _ _ _ _ :: _) _ _); first | (refine ldA hm ?_) | (refine laA hm ?_)) | ((with_reducible show wpList _ _ _ (Oper.mk _ (Op.store _ _ _) _ _ _ _ :: _) _ _); (refine stA hm ?_; clear hm; intro w hz hm ho)) | ((with_reducible show wpList _ _ _ (Oper.mk _ (Op.alloc _) _ _ _ _ :: _) _ _); (refine alA hm ?_; clear hm; intro n w hn hz hm ho; (try simp only [List.cons_append, List.nil_append] at hm)))); try simp only [Act.put, sxQ]))
  go_ret
  exact ⟨rfl, hm.still 0 rfl HK.out⟩
theorem jn_Alive (hj : Blk w gj 68 #[.pointer (some ⟨g, 0, none⟩)]) (H : PAt w g G s p) : Calls Tryz.prog 13 #[.pointer (some ⟨gj, 0, none⟩)] w fun e w' => e = .returned (.bool p.alive) ∧ Below w.heap.size w w' := by
  have hm : Mem (fun q => q = gj) w w [⟨gj, _, _⟩] [] := Mem.one hj rfl
  have HK := Lib.hid hj
  have HH := Lib.hid H
  have HA := Lib.hid (fun (u : World) (h : PAt u g G s p) => page_Alive h)
  generalize p.alive = al at *
  clear hj H
  go_enter Tryz.func13, Tryz.ntmps13
  go_wp2_with (first | go_skip | ((with_reducible show wpList _ _ _ _ _ (World.alloc _ _)); refine wpList_up hm ?_; clear hm; intro n w hn hn2 hk hm hd hd2 ho; (try rw [← hn]); replace hn := Nat.le_of_eq hn.symm) | ((first | ((with_reducible show wpList _ _ _ (Oper.mk _ (Op.box _ _) _ _ _ _ :: _) _ _); (refine bxA hm ?_; clear hm; intro n w hn hz hm ho; (try simp only [List.cons_append, List.nil_append] at hm))) | ((with_reducible show wpList _ _ _ (Oper.mk _ (Op.load _ _) _ _ _ _ :: _) _ _); first | (refine ldA hm ?_) | (refine laA hm ?_)) | ((with_reducible show wpList _ _ _ (Oper.mk _ (Op.store _ _ _) _ _ _ _ :: _) _ _); (refine stA hm ?_; clear hm; intro w hz hm ho)) | ((with_reducible show wpList _ _ _ (Oper.mk _ (Op.alloc _) _ _ _ _ :: _) _ _); (refine alA hm ?_; clear hm; intro n w hn hz hm ho; (try simp only [List.cons_append, List.nil_append] at hm)))); try simp only [Act.put, sxQ]))
  go_at_call 26
  refine (jn_made (hm.at_ 0 rfl)).mono ?_
  rintro e w2 ⟨rfl, hb2⟩
  replace hm := hm.below hb2
  clear hb2
  go_wp2_with (first | go_skip | ((with_reducible show wpList _ _ _ _ _ (World.alloc _ _)); refine wpList_up hm ?_; clear hm; intro n w hn hn2 hk hm hd hd2 ho; (try rw [← hn]); replace hn := Nat.le_of_eq hn.symm) | ((first | ((with_reducible show wpList _ _ _ (Oper.mk _ (Op.box _ _) _ _ _ _ :: _) _ _); (refine bxA hm ?_; clear hm; intro n w hn hz hm ho; (try simp only [List.cons_append, List.nil_append] at hm))) | ((with_reducible show wpList _ _ _ (Oper.mk _ (Op.load _ _) _ _ _ _ :: _) _ _); first | (refine ldA hm ?_) | (refine laA hm ?_)) | ((with_reducible show wpList _ _ _ (Oper.mk _ (Op.store _ _ _) _ _ _ _ :: _) _ _); (refine stA hm ?_; clear hm; intro w hz hm ho)) | ((with_reducible show wpList _ _ _ (Oper.mk _ (Op.alloc _) _ _ _ _ :: _) _ _); (refine alA hm ?_; clear hm; intro n w hn hz hm ho; (try simp only [List.cons_append, List.nil_append] at hm)))); try simp only [Act.put, sxQ]))
  go_at_call 27
  refine (HA.out _ (HH.out.below (hm.still 0 rfl HK.out))).mono ?_
  rintro e w3 ⟨rfl, hb3⟩
  replace hm := hm.below hb3
  clear hb3
  go_wp2_with (first | go_skip | ((with_reducible show wpList _ _ _ _ _ (World.alloc _ _)); refine wpList_up hm ?_; clear hm; intro n w hn hn2 hk hm hd hd2 ho; (try rw [← hn]); replace hn := Nat.le_of_eq hn.symm) | ((first | ((with_reducible show wpList _ _ _ (Oper.mk _ (Op.box _ _) _ _ _ _ :: _) _ _); (refine bxA hm ?_; clear hm; intro n w hn hz hm ho; (try simp only [List.cons_append, List.nil_append] at hm))) | ((with_reducible show wpList _ _ _ (Oper.mk _ (Op.load _ _) _ _ _ _ :: _) _ _); first | (refine ldA hm ?_) | (refine laA hm ?_)) | ((with_reducible show wpList _ _ _ (Oper.mk _ (Op.store _ _ _) _ _ _ _ :: _) _ _); (refine stA hm ?_; clear hm; intro w hz hm ho)) | ((with_reducible show wpList _ _ _ (Oper.mk _ (Op.alloc _) _ _ _ _ :: _) _ _); (refine alA hm ?_; clear hm; intro n w hn hz hm ho; (try simp only [List.cons_append, List.nil_append] at hm)))); try simp only [Act.put, sxQ]))
  go_ret
  exact ⟨rfl, hm.still 0 rfl HK.out⟩
end
end Go.Proofs.YtmhjddmamknglaaGreat
