/-
  The journal: JournalAgain.
-/
import Derived.Test.YtmhjddmamknglaaZ0
import Derived.Test.YtmhjddmamknglaaJpF
namespace Go.Proofs.Ytmhjddmamknglaa
set_option maxRecDepth 100000
set_option linter.unusedSimpArgs false
set_option linter.unusedVariables false
open Go.RowKit
set_option maxHeartbeats 8000000

theorem Jn.Good.meant {st : Jn.St} {S : List UInt8} (h : Jn.Good st S) : Jn.Meant st S := h.imp id Jn.Clean.means
theorem AplR.can {q : Prop} {B B' : Nat} {st : List (List UInt8)} {S : List UInt8} {l : List JC} {p' : Pg.P} {er : Int} (h : AplR q B B' st S l p' er) (hS : Jn.Good st S) (hB : B ≤ B') : ∃ st' S', (∃ fr, Pg.Can B' fr p'.m st') ∧ Jn.Meant st' S' ∧ st'.length = st.length := by
  rcases h with ⟨_, _, h⟩ | ⟨_, _, _, h⟩ | ⟨_, _, ⟨_, st', h1, h2, h3⟩ | ⟨_, st', h1, h2, h3⟩⟩
  · exact ⟨st, S, (h.mono hB).can, hS.meant, rfl⟩
  · exact ⟨st, S, (h.mono hB).can, hS.meant, rfl⟩
  · exact ⟨st', _, h1.can, h2.meant, h3⟩
  · rcases h2 with h2 | h2
    · exact ⟨st', _, h1.can, h2, h3⟩
    · exact ⟨st', _, h1.can, h2, h3⟩
theorem AplR.sure {B B' : Nat} {st : List (List UInt8)} {S : List UInt8} {l : List JC} {p' : Pg.P} {er : Int} (h : AplR True B B' st S l p' er) (hS : Jn.Good st S) (hB : B ≤ B') : ∃ st' S', PL True B' p' st' ∧ Jn.Good st' S' ∧ st'.length = st.length := by
  rcases h with ⟨_, _, h⟩ | ⟨_, _, _, h⟩ | ⟨_, _, ⟨_, st', h1, h2, h3⟩ | ⟨_, st', h1, h2, h3⟩⟩
  · exact ⟨st, S, h.mono hB, hS, rfl⟩
  · exact ⟨st, S, h.mono hB, hS, rfl⟩
  · exact ⟨st', _, h1, h2, h3⟩
  · exact absurd trivial h1.not
theorem PL.cut {q : Prop} {B : Nat} {p : Pg.P} {st : List (List UInt8)} (L : PL q B p st) {z : Int} (h0 : 0 ≤ z) (hz : z ≤ 9223372036854775807) : PL False B (p.wm (p.m.cut z).1) st := by
  obtain ⟨fr, h⟩ := L.live
  exact ⟨⟨fr, (h.cut h0 hz).2⟩, fun h => h.elim⟩
section
variable {w : World} {g gj : Nat} {G : Nat → Prop} {s : PgS} {p : Pg.P}
theorem Spc.memG (h : Spc w g gj G s p) (q : Nat) (hq : MemR s.gm s.gw s.gv q) : spG G gj q := .inl (h.pat.memR hq)
theorem Spc.oldG (h : Spc w g gj G s p) (q : Nat) (hq : q = gj ∨ q = g) : spG G gj q := hq.elim .inr (fun e => .inl (h.pat.hg q (by simp [e])))
theorem Spc.apart (h : Spc w g gj G s p) (q : Nat) (hq : MemR s.gm s.gw s.gv q) : ¬ (q = gj ∨ q = g) := by
  rintro (rfl | rfl)
  · exact h.ne (h.pat.memR hq)
  · have := h.pat.ne
    rw [List.nodup_cons] at this
    exact this.1 (by rcases hq with h | h | h <;> simp [h])
/-- Of a space that is let go: the journal, and what its size needs. -/
structure Old (u : World) (g gj : Nat) (s : PgS) (p : Pg.P) : Prop where
  jat : JAt u gj g
  blk : Blk u g 70 (pcs s p)
theorem Spc.old (h : Spc w g gj G s p) : Sup w (fun q => q = gj ∨ q = g) (fun u => Old u g gj s p) :=
  ⟨⟨h.jat, h.pat.blk⟩, fun q hq => h.sup.lt q (h.oldG q hq), fun R w' ho hd => ⟨Blk.only h.jat ho (hd gj (.inl rfl)), h.pat.blk.only ho (hd g (.inr rfl))⟩⟩
end
theorem chs_scene {w0 : World} {A : Option Addr} {n c : Nat} {l : List JC} (h : Chs w0 w0.heap.size A n c l) : Hid ((∀ u, Below w0.heap.size w0 u → Chs u u.heap.size A n c l) ∧ ∀ q, chsG A n l q → q < w0.heap.size) :=
  Lib.hid ⟨fun _ hu => (h.below hu).more hu.size, (Chs.sup h).lt⟩
theorem short_weight {l : List JC} (h : JC.shortB l = true) : JC.weight l ≤ 1520 ∧ l.length ≤ 40 := by
  unfold JC.shortB at h
  rw [Bool.and_eq_true, decide_eq_true_eq, decide_eq_true_eq] at h
  have : JC.weight l = 8 * l.length + JC.total l := by
    clear h
    induction l with
    | nil => rfl
    | cons y l ih => simp only [JC.weight, JC.total, List.map_cons, List.sum_cons, List.length_cons] at ih ⊢; omega
  omega
/-- What is known of changes that came in. -/
structure ChB0 (w0 : World) (A : Option Addr) (n c : Nat) (l : List JC) : Prop where
  chs : Chs w0 w0.heap.size A n c l
  off : ∀ y ∈ l, -9223372036854775808 ≤ y.off ∧ y.off ≤ 9223372036854775807
  cap : ∀ y ∈ l, y.c ≤ maxLen
  len : c ≤ maxLen
theorem ChB0.yo {w0 : World} {A : Option Addr} {n c : Nat} {l : List JC} (h : ChB0 w0 A n c l) : ∀ y ∈ l, (-9223372036854775808 ≤ y.off ∧ y.off ≤ 9223372036854775807) ∧ y.n ≤ 9223372036854775807 := fun y hy =>
  ⟨h.off y hy, Nat.le_trans (h.chs.ok y hy).2.1 (h.cap y hy)⟩
theorem ChB0.n47 {w0 : World} {A : Option Addr} {n c : Nat} {l : List JC} (h : ChB0 w0 A n c l) : n ≤ 9223372036854775807 := Nat.le_trans h.chs.cap h.len
theorem cut_z (cut : Int) (h : 0 ≤ cut ∧ cut ≤ 65535) : 0 ≤ wrap64 (cut.tmod 3000) ∧ wrap64 (cut.tmod 3000) ≤ 9223372036854775807 := by
  rw [Int.tmod_eq_emod_of_nonneg h.1, IntWalk.wrap64_in _ (by omega)]; omega
theorem rread_all {q : Prop} {B : Nat} {p : Pg.P} {st : List (List UInt8)} {S : List UInt8} (L : PL q B p st) (h85 : st.length = 85) (hS : Jn.Good st S) : Jn.rread (Jn.flat st) 0 2544 = (S, 0) ∧ S.length = 2544 := by
  have hl : (Jn.flat st).length = 2544 := by rw [Jn.flat_len L.all48, h85]
  have e : Jn.flat st = S := good_flat hS
  rw [e] at hl ⊢
  refine ⟨?_, hl⟩
  unfold Jn.rread
  rw [if_neg (by rw [hl]; omega)]
  show ((S.drop 0).take 2544, 0) = _
  rw [List.drop_zero, List.take_of_length_le (by omega)]
theorem sp_Size85 {w : World} {g gj B : Nat} {G : Nat → Prop} {s : PgS} {p : Pg.P} {st : List (List UInt8)} {q : Prop} (H : Spc w g gj G s p) (L : PL q B p st) (h85 : st.length = 85) : Calls Try.prog 13 #[.pointer (some ⟨gj, 0, none⟩)] w fun e w' => e = .returned (.int .i64 2544) ∧ Below w.heap.size w w' :=
  (sp_Size H L).mono fun e w' ⟨h1, h2⟩ => ⟨by rw [h1, h85]; rfl, h2⟩
theorem sp_ReadAll {w : World} {g gj B : Nat} {G : Nat → Prop} {s : PgS} {p : Pg.P} {st : List (List UInt8)} {S : List UInt8} {q : Prop} (H : Spc w g gj G s p) (L : PL q B p st) (hB : B + 200000000 ≤ 900000000) (h85 : st.length = 85) (hS : Jn.Good st S) :
    Calls Try.prog 12 #[.pointer (some ⟨gj, 0, none⟩), .int .i64 0, .int .i64 2544] w fun e w' =>
      ∃ A m c, e = .returned (.tuple #[.slice A 2544 m, .int .i64 0]) ∧ Own w' w.heap.size 5 1 A 2544 m (bcells S) ∧ Spc w' g gj G s (p.more c) ∧ PL q (B + 200000000) (p.more c) st ∧ Only (spG G gj) w w' := by
  obtain ⟨e1, e2⟩ := rread_all L h85 hS
  refine (sp_Read H L 0 2544 hB).mono ?_
  rw [e1]
  rintro e w' ⟨A, k, m, c, he, hk, h⟩
  obtain rfl : k = 2544 := hk.trans e2
  exact ⟨A, m, c, he, h⟩
theorem law_JournalAgain (A0 : Option Addr) (n0 c0 : Nat) (l0 : List JC) (A1 : Option Addr) (n1 c1 : Nat) (l1 : List JC) (cut : Int) (w0 : World) (hcut : 0 ≤ cut ∧ cut ≤ 65535) (h0 : ChB0 w0 A0 n0 c0 l0) (h1 : ChB0 w0 A1 n1 c1 l1) :
    Calls Try.prog 3 #[.slice A0 n0 c0, .slice A1 n1 c1, .int .u16 cut] w0 fun e w' => e = .returned (.bool true) ∧ Below w0.heap.size w0 w' := by
  have HC := Lib.hid (Scn.start w0)
  have hm := HC.out.rebase
  have CH0 := chs_scene h0.chs
  have CH1 := chs_scene h1.chs
  have HY0 := Lib.hid h0.yo
  have HY1 := Lib.hid h1.yo
  have HN := Lib.hid (And.intro h0.n47 h1.n47)
  have HCT := Lib.hid hcut
  clear h0 h1 hcut
  go_enter Try.func3, Try.ntmps3
  go_wp2_with (first | go_skip | ((with_reducible show wpList _ _ _ _ _ (World.alloc _ _)); refine wpList_up hm ?_; clear hm; intro n w hn hn2 hk hm hd hd2 ho; (try rw [← hn]); replace hn := Nat.le_of_eq hn.symm) | ((first | ((with_reducible show wpList _ _ _ (Oper.mk _ (Op.box _ _) _ _ _ _ :: _) _ _); (refine bxA hm ?_; clear hm; intro n w hn hz hm ho; (try simp only [List.cons_append, List.nil_append] at hm))) | ((with_reducible show wpList _ _ _ (Oper.mk _ (Op.load _ _) _ _ _ _ :: _) _ _); first | (refine ldA hm ?_) | (refine laA hm ?_)) | ((with_reducible show wpList _ _ _ (Oper.mk _ (Op.store _ _ _) _ _ _ _ :: _) _ _); (refine stA hm ?_; clear hm; intro w hz hm ho)) | ((with_reducible show wpList _ _ _ (Oper.mk _ (Op.alloc _) _ _ _ _ :: _) _ _); (refine alA hm ?_; clear hm; intro n w hn hz hm ho; (try simp only [List.cons_append, List.nil_append] at hm)))); try simp only [Act.put, sxQ]))
  go_at_call 6
  refine (law12_short (CH0.out.1 _ (HC.out.resync hm).low) HN.out.1).mono ?_
  rintro e w1 ⟨rfl, hb1⟩
  have hc2 := (HC.out.resync hm).below hb1
  clear hb1
  clear HC hm
  simp only [List.nil_append, List.cons_append, List.set_cons_zero, List.set_cons_succ] at hc2
  have HC := Lib.hid hc2
  clear hc2
  have hm := HC.out.rebase
  cases hs0 : JC.shortB l0 with
  | false =>
    go_wp2_with (first | go_skip | ((with_reducible show wpList _ _ _ _ _ (World.alloc _ _)); refine wpList_up hm ?_; clear hm; intro n w hn hn2 hk hm hd hd2 ho; (try rw [← hn]); replace hn := Nat.le_of_eq hn.symm) | ((first | ((with_reducible show wpList _ _ _ (Oper.mk _ (Op.box _ _) _ _ _ _ :: _) _ _); (refine bxA hm ?_; clear hm; intro n w hn hz hm ho; (try simp only [List.cons_append, List.nil_append] at hm))) | ((with_reducible show wpList _ _ _ (Oper.mk _ (Op.load _ _) _ _ _ _ :: _) _ _); first | (refine ldA hm ?_) | (refine laA hm ?_)) | ((with_reducible show wpList _ _ _ (Oper.mk _ (Op.store _ _ _) _ _ _ _ :: _) _ _); (refine stA hm ?_; clear hm; intro w hz hm ho)) | ((with_reducible show wpList _ _ _ (Oper.mk _ (Op.alloc _) _ _ _ _ :: _) _ _); (refine alA hm ?_; clear hm; intro n w hn hz hm ho; (try simp only [List.cons_append, List.nil_append] at hm)))); try simp only [Act.put, sxQ]))
    go_ret
    exact ⟨rfl, (HC.out.resync hm).low⟩
  | true =>
    have HW0 := Lib.hid (short_weight hs0)
    clear hs0
    go_wp2_with (first | go_skip | ((with_reducible show wpList _ _ _ _ _ (World.alloc _ _)); refine wpList_up hm ?_; clear hm; intro n w hn hn2 hk hm hd hd2 ho; (try rw [← hn]); replace hn := Nat.le_of_eq hn.symm) | ((first | ((with_reducible show wpList _ _ _ (Oper.mk _ (Op.box _ _) _ _ _ _ :: _) _ _); (refine bxA hm ?_; clear hm; intro n w hn hz hm ho; (try simp only [List.cons_append, List.nil_append] at hm))) | ((with_reducible show wpList _ _ _ (Oper.mk _ (Op.load _ _) _ _ _ _ :: _) _ _); first | (refine ldA hm ?_) | (refine laA hm ?_)) | ((with_reducible show wpList _ _ _ (Oper.mk _ (Op.store _ _ _) _ _ _ _ :: _) _ _); (refine stA hm ?_; clear hm; intro w hz hm ho)) | ((with_reducible show wpList _ _ _ (Oper.mk _ (Op.alloc _) _ _ _ _ :: _) _ _); (refine alA hm ?_; clear hm; intro n w hn hz hm ho; (try simp only [List.cons_append, List.nil_append] at hm)))); try simp only [Act.put, sxQ]))
    go_at_call 6
    refine (law12_short (CH1.out.1 _ (HC.out.resync hm).low) HN.out.2).mono ?_
    rintro e w2 ⟨rfl, hb2⟩
    have hc2 := (HC.out.resync hm).below hb2
    clear hb2
    clear HC hm
    simp only [List.nil_append, List.cons_append, List.set_cons_zero, List.set_cons_succ] at hc2
    have HC := Lib.hid hc2
    clear hc2
    have hm := HC.out.rebase
    cases hs1 : JC.shortB l1 with
    | false =>
      go_wp2_with (first | go_skip | ((with_reducible show wpList _ _ _ _ _ (World.alloc _ _)); refine wpList_up hm ?_; clear hm; intro n w hn hn2 hk hm hd hd2 ho; (try rw [← hn]); replace hn := Nat.le_of_eq hn.symm) | ((first | ((with_reducible show wpList _ _ _ (Oper.mk _ (Op.box _ _) _ _ _ _ :: _) _ _); (refine bxA hm ?_; clear hm; intro n w hn hz hm ho; (try simp only [List.cons_append, List.nil_append] at hm))) | ((with_reducible show wpList _ _ _ (Oper.mk _ (Op.load _ _) _ _ _ _ :: _) _ _); first | (refine ldA hm ?_) | (refine laA hm ?_)) | ((with_reducible show wpList _ _ _ (Oper.mk _ (Op.store _ _ _) _ _ _ _ :: _) _ _); (refine stA hm ?_; clear hm; intro w hz hm ho)) | ((with_reducible show wpList _ _ _ (Oper.mk _ (Op.alloc _) _ _ _ _ :: _) _ _); (refine alA hm ?_; clear hm; intro n w hn hz hm ho; (try simp only [List.cons_append, List.nil_append] at hm)))); try simp only [Act.put, sxQ]))
      go_ret
      exact ⟨rfl, (HC.out.resync hm).low⟩
    | true =>
      have HW1 := Lib.hid (short_weight hs1)
      clear hs1
      go_wp2_with (first | go_skip | ((with_reducible show wpList _ _ _ _ _ (World.alloc _ _)); refine wpList_up hm ?_; clear hm; intro n w hn hn2 hk hm hd hd2 ho; (try rw [← hn]); replace hn := Nat.le_of_eq hn.symm) | ((first | ((with_reducible show wpList _ _ _ (Oper.mk _ (Op.box _ _) _ _ _ _ :: _) _ _); (refine bxA hm ?_; clear hm; intro n w hn hz hm ho; (try simp only [List.cons_append, List.nil_append] at hm))) | ((with_reducible show wpList _ _ _ (Oper.mk _ (Op.load _ _) _ _ _ _ :: _) _ _); first | (refine ldA hm ?_) | (refine laA hm ?_)) | ((with_reducible show wpList _ _ _ (Oper.mk _ (Op.store _ _ _) _ _ _ _ :: _) _ _); (refine stA hm ?_; clear hm; intro w hz hm ho)) | ((with_reducible show wpList _ _ _ (Oper.mk _ (Op.alloc _) _ _ _ _ :: _) _ _); (refine alA hm ?_; clear hm; intro n w hn hz hm ho; (try simp only [List.cons_append, List.nil_append] at hm)))); try simp only [Act.put, sxQ]))
      go_at_call 7
      refine (law12_begin 2048 (by decide) (by decide) _).mono ?_
      rintro e w3 ⟨hb3, g, gj, G, s, p, st, rfl, hsp, hG, hL, hS, hlen⟩
      have hc2 := (HC.out.resync hm).born hb3 hsp.sup hG
      have HL := Lib.hid hL
      have HS := Lib.hid hS
      have HLEN := Lib.hid (show st.length = 85 from hlen)
      clear hb3 hsp hG hL hS hlen
      clear HC hm
      simp only [List.nil_append, List.cons_append, List.set_cons_zero, List.set_cons_succ] at hc2
      have HC := Lib.hid hc2
      clear hc2
      have hm := HC.out.rebase
      go_wp2_with (first | go_skip | ((with_reducible show wpList _ _ _ _ _ (World.alloc _ _)); refine wpList_up hm ?_; clear hm; intro n w hn hn2 hk hm hd hd2 ho; (try rw [← hn]); replace hn := Nat.le_of_eq hn.symm) | ((first | ((with_reducible show wpList _ _ _ (Oper.mk _ (Op.box _ _) _ _ _ _ :: _) _ _); (refine bxA hm ?_; clear hm; intro n w hn hz hm ho; (try simp only [List.cons_append, List.nil_append] at hm))) | ((with_reducible show wpList _ _ _ (Oper.mk _ (Op.load _ _) _ _ _ _ :: _) _ _); first | (refine ldA hm ?_) | (refine laA hm ?_)) | ((with_reducible show wpList _ _ _ (Oper.mk _ (Op.store _ _ _) _ _ _ _ :: _) _ _); (refine stA hm ?_; clear hm; intro w hz hm ho)) | ((with_reducible show wpList _ _ _ (Oper.mk _ (Op.alloc _) _ _ _ _ :: _) _ _); (refine alA hm ?_; clear hm; intro n w hn hz hm ho; (try simp only [List.cons_append, List.nil_append] at hm)))); try simp only [Act.put, sxQ]))
      obtain ⟨b7, h9⟩ := hm.nm 0 rfl
      dsimp only at h9
      subst h9
      go_at_call 8
      refine (sp_Apply ((HC.out.resync hm).obj 0 rfl) HL.out (by omega) _ HS.out A0 n0 c0 l0 (CH0.out.1 _ (HC.out.resync hm).low) (fun q hq hg => by have h1 := CH0.out.2 q hq; have h2 := (HC.out.resync hm).lo 0 rfl q hg; omega) HY0.out (by have := HW0.out; omega) HN.out.1).mono ?_
      rintro e w4 ⟨p4, G4, s4, er4, rfl, hsp4, hR4, hG4, ho4, hgm4⟩
      have hc2 := (HC.out.resync hm).turn 0 rfl ho4 hG4 hsp4.sup
      obtain ⟨st4, S4, hL4, hS4, hl4⟩ := hR4.sure HS.out (by omega)
      have HL4 := Lib.hid hL4
      have HS4 := Lib.hid hS4
      have HLE4 := Lib.hid (hl4.trans HLEN.out)
      rw [← hgm4] at *
      clear hR4 hsp4 hG4 ho4 hL4 hS4 hl4 hgm4
      clear HC hm
      simp only [List.nil_append, List.cons_append, List.set_cons_zero, List.set_cons_succ] at hc2
      have HC := Lib.hid hc2
      clear hc2
      have hm := HC.out.rebase
      go_wp2_with (first | go_skip | ((with_reducible show wpList _ _ _ _ _ (World.alloc _ _)); refine wpList_up hm ?_; clear hm; intro n w hn hn2 hk hm hd hd2 ho; (try rw [← hn]); replace hn := Nat.le_of_eq hn.symm) | ((first | ((with_reducible show wpList _ _ _ (Oper.mk _ (Op.box _ _) _ _ _ _ :: _) _ _); (refine bxA hm ?_; clear hm; intro n w hn hz hm ho; (try simp only [List.cons_append, List.nil_append] at hm))) | ((with_reducible show wpList _ _ _ (Oper.mk _ (Op.load _ _) _ _ _ _ :: _) _ _); first | (refine ldA hm ?_) | (refine laA hm ?_)) | ((with_reducible show wpList _ _ _ (Oper.mk _ (Op.store _ _ _) _ _ _ _ :: _) _ _); (refine stA hm ?_; clear hm; intro w hz hm ho)) | ((with_reducible show wpList _ _ _ (Oper.mk _ (Op.alloc _) _ _ _ _ :: _) _ _); (refine alA hm ?_; clear hm; intro n w hn hz hm ho; (try simp only [List.cons_append, List.nil_append] at hm)))); try simp only [Act.put, sxQ]))
      obtain ⟨z, hz⟩ : ∃ z, z = wrap64 (cut.tmod 3000) := ⟨_, rfl⟩
      have HZ := Lib.hid (show 0 ≤ z ∧ z ≤ 9223372036854775807 by rw [hz]; exact cut_z cut HCT.out)
      rw [← hz]
      clear hz
      go_at_call 9
      refine (sp_Cut ((HC.out.resync hm).obj 0 rfl) z).mono ?_
      rintro e w5 ⟨rfl, hsp5, ho5⟩
      have hc2 := (HC.out.resync hm).turn 0 rfl ho5 (fun q h => .inl h) hsp5.sup
      have HL5 := Lib.hid (HL4.out.cut HZ.out.1 HZ.out.2)
      clear hsp5 ho5
      generalize p4.wm (p4.m.cut z).1 = p5 at *
      generalize (p4.m.cut z).2 = ez at *
      clear HC hm
      simp only [List.nil_append, List.cons_append, List.set_cons_zero, List.set_cons_succ] at hc2
      have HC := Lib.hid hc2
      clear hc2
      have hm := HC.out.rebase
      go_wp2_with (first | go_skip | ((with_reducible show wpList _ _ _ _ _ (World.alloc _ _)); refine wpList_up hm ?_; clear hm; intro n w hn hn2 hk hm hd hd2 ho; (try rw [← hn]); replace hn := Nat.le_of_eq hn.symm) | ((first | ((with_reducible show wpList _ _ _ (Oper.mk _ (Op.box _ _) _ _ _ _ :: _) _ _); (refine bxA hm ?_; clear hm; intro n w hn hz hm ho; (try simp only [List.cons_append, List.nil_append] at hm))) | ((with_reducible show wpList _ _ _ (Oper.mk _ (Op.load _ _) _ _ _ _ :: _) _ _); first | (refine ldA hm ?_) | (refine laA hm ?_)) | ((with_reducible show wpList _ _ _ (Oper.mk _ (Op.store _ _ _) _ _ _ _ :: _) _ _); (refine stA hm ?_; clear hm; intro w hz hm ho)) | ((with_reducible show wpList _ _ _ (Oper.mk _ (Op.alloc _) _ _ _ _ :: _) _ _); (refine alA hm ?_; clear hm; intro n w hn hz hm ho; (try simp only [List.cons_append, List.nil_append] at hm)))); try simp only [Act.put, sxQ]))
      go_at_call 8
      refine (sp_Apply ((HC.out.resync hm).obj 0 rfl) HL5.out (by omega) _ HS4.out A1 n1 c1 l1 (CH1.out.1 _ (HC.out.resync hm).low) (fun q hq hg => by have h1 := CH1.out.2 q hq; have h2 := (HC.out.resync hm).lo 0 rfl q hg; omega) HY1.out (by have := HW1.out; omega) HN.out.2).mono ?_
      rintro e w6 ⟨p6, G6, s6, er6, rfl, hsp6, hR6, hG6, ho6, hgm6⟩
      have hc2 := (HC.out.resync hm).turn 0 rfl ho6 hG6 hsp6.sup
      obtain ⟨st6, S6, hc6, hme6, hl6⟩ := hR6.can HS4.out (by omega)
      have HC6 := Lib.hid hc6
      have HM6 := Lib.hid (And.intro hme6 (hl6.trans HLE4.out))
      rw [← hgm6] at *
      clear hR6 hsp6 hG6 ho6 hc6 hme6 hl6 hgm6
      clear HC hm
      simp only [List.nil_append, List.cons_append, List.set_cons_zero, List.set_cons_succ] at hc2
      have HC := Lib.hid hc2
      clear hc2
      have hm := HC.out.rebase
      go_wp2_with (first | go_skip | ((with_reducible show wpList _ _ _ _ _ (World.alloc _ _)); refine wpList_up hm ?_; clear hm; intro n w hn hn2 hk hm hd hd2 ho; (try rw [← hn]); replace hn := Nat.le_of_eq hn.symm) | ((first | ((with_reducible show wpList _ _ _ (Oper.mk _ (Op.box _ _) _ _ _ _ :: _) _ _); (refine bxA hm ?_; clear hm; intro n w hn hz hm ho; (try simp only [List.cons_append, List.nil_append] at hm))) | ((with_reducible show wpList _ _ _ (Oper.mk _ (Op.load _ _) _ _ _ _ :: _) _ _); first | (refine ldA hm ?_) | (refine laA hm ?_)) | ((with_reducible show wpList _ _ _ (Oper.mk _ (Op.store _ _ _) _ _ _ _ :: _) _ _); (refine stA hm ?_; clear hm; intro w hz hm ho)) | ((with_reducible show wpList _ _ _ (Oper.mk _ (Op.alloc _) _ _ _ _ :: _) _ _); (refine alA hm ?_; clear hm; intro n w hn hz hm ho; (try simp only [List.cons_append, List.nil_append] at hm)))); try simp only [Act.put, sxQ]))
      go_at_call 10
      refine (sp_Restore ((HC.out.resync hm).obj 0 rfl)).mono ?_
      rintro e w7 ⟨rfl, hsp7, ho7⟩
      have hc7 := (HC.out.resync hm).turn 0 rfl ho7 (fun q h => .inl h) hsp7.sup
      have hc2 := hc7.turn 0 rfl (Only.refl _ w7) (fun q h => .inl (hsp7.memG q h)) hsp7.pat.mem.sup
      have HC7 : Hid (∃ fr, Pg.Can 33000000 fr p6.m.restore st6) := Lib.hid (HC6.out.imp fun _ h => h.restore)
      have HON : Hid (p6.m.restore.off = false ∧ p6.m.restore.pending = false) := Lib.hid ⟨rfl, rfl⟩
      have hpm : (p6.wm p6.m.restore).m = p6.m.restore := rfl
      rw [hpm] at hc2
      clear hc7 hsp7 ho7 hpm
      generalize p6.m.restore = M at *
      clear HC hm
      simp only [List.nil_append, List.cons_append, List.set_cons_zero, List.set_cons_succ] at hc2
      have HC := Lib.hid hc2
      clear hc2
      have hm := HC.out.rebase
      go_wp2_with (first | go_skip | ((with_reducible show wpList _ _ _ _ _ (World.alloc _ _)); refine wpList_up hm ?_; clear hm; intro n w hn hn2 hk hm hd hd2 ho; (try rw [← hn]); replace hn := Nat.le_of_eq hn.symm) | ((first | ((with_reducible show wpList _ _ _ (Oper.mk _ (Op.box _ _) _ _ _ _ :: _) _ _); (refine bxA hm ?_; clear hm; intro n w hn hz hm ho; (try simp only [List.cons_append, List.nil_append] at hm))) | ((with_reducible show wpList _ _ _ (Oper.mk _ (Op.load _ _) _ _ _ _ :: _) _ _); first | (refine ldA hm ?_) | (refine laA hm ?_)) | ((with_reducible show wpList _ _ _ (Oper.mk _ (Op.store _ _ _) _ _ _ _ :: _) _ _); (refine stA hm ?_; clear hm; intro w hz hm ho)) | ((with_reducible show wpList _ _ _ (Oper.mk _ (Op.alloc _) _ _ _ _ :: _) _ _); (refine alA hm ?_; clear hm; intro n w hn hz hm ho; (try simp only [List.cons_append, List.nil_append] at hm)))); try simp only [Act.put, sxQ]))
      go_at_call 11
      refine (law12_open ((HC.out.resync hm).obj 0 rfl) HON.out.1 HON.out.2 HC7.out (by omega) S6 HM6.out.1).mono ?_
      rintro e w8 ⟨g8, gj8, G8, s8, p8, st8, rfl, hsp8, hgm8, hG8, ho8, hL8, hS8, hl8⟩
      have hc2 := (HC.out.resync hm).turn 0 rfl ho8 hG8 hsp8.sup
      have HL8 := Lib.hid hL8
      have HS8 := Lib.hid (And.intro hS8 (hl8.trans HM6.out.2))
      rw [← hgm8] at *
      clear hsp8 hG8 ho8 hL8 hS8 hl8 hgm8
      clear HC hm
      simp only [List.nil_append, List.cons_append, List.set_cons_zero, List.set_cons_succ] at hc2
      have HC := Lib.hid hc2
      clear hc2
      have hm := HC.out.rebase
      go_wp2_with (first | go_skip | ((with_reducible show wpList _ _ _ _ _ (World.alloc _ _)); refine wpList_up hm ?_; clear hm; intro n w hn hn2 hk hm hd hd2 ho; (try rw [← hn]); replace hn := Nat.le_of_eq hn.symm) | ((first | ((with_reducible show wpList _ _ _ (Oper.mk _ (Op.box _ _) _ _ _ _ :: _) _ _); (refine bxA hm ?_; clear hm; intro n w hn hz hm ho; (try simp only [List.cons_append, List.nil_append] at hm))) | ((with_reducible show wpList _ _ _ (Oper.mk _ (Op.load _ _) _ _ _ _ :: _) _ _); first | (refine ldA hm ?_) | (refine laA hm ?_)) | ((with_reducible show wpList _ _ _ (Oper.mk _ (Op.store _ _ _) _ _ _ _ :: _) _ _); (refine stA hm ?_; clear hm; intro w hz hm ho)) | ((with_reducible show wpList _ _ _ (Oper.mk _ (Op.alloc _) _ _ _ _ :: _) _ _); (refine alA hm ?_; clear hm; intro n w hn hz hm ho; (try simp only [List.cons_append, List.nil_append] at hm)))); try simp only [Act.put, sxQ]))
      refine wp_region_noPanic ?_
      refine wp_region_held_drew (S := KnS _ _) (by kernel_rfl) (KnS.of hm.drew (Rngs.nil _)) (fun hHeld => ?_)
      refine wpAnyH_fresh (by repeat (first | apply Fresh.a | apply Fresh.b)) ?_
      replace hm := hm.drew
      iterate 4 (first | (refine takeN 0 hHeld ?_) | (refine takeY 0 ?_ hHeld ?_ ?_; rotate_left 1; (first | (intro w9 h9; (with_reducible show (execOp _ (Oper.mk _ (Op.load _ _) _ _ _ _)).run _ _ = _); first | exact h9.ldA | exact h9.lcA | exact h9.laA | exact h9.lrA) | focus (intro w9 hSw; go_simp; (try (with_reducible rfl)); done))); try simp only [Act.put, sxQ])
      refine wpAnyH_ready (rs := [4]) (by kernel_rfl) (by simp) ?_
      refine AllReadyH.cons2 (by simp only [sxN]; first | done | exact rfl) (fun K hK => ?_)
      rw [if_pos (by rfl)]
      go_simp
      refine (sp_Size85 ((HC.out.resync hm).obj 0 rfl) HL8.out HS8.out.2).mono ?_
      rintro e w9 ⟨rfl, hb9⟩
      have hc2 := (HC.out.resync hm).below hb9
      clear hb9
      clear HC hm
      simp only [List.nil_append, List.cons_append, List.set_cons_zero, List.set_cons_succ] at hc2
      have HC := Lib.hid hc2
      clear hc2
      have hm := HC.out.rebase
      go_simp
      refine hK.out _ _ (KnS.of hm (Rngs.nil _)) (fun hHeld => ?_)
      clear hK K
      try simp only [Act.put, sxQ]
      refine wpAnyH_ready (rs := [5]) (by kernel_rfl) (by simp) ?_
      refine AllReadyH.cons2 (by simp only [sxN]; first | done | exact rfl) (fun K hK => ?_)
      rw [if_pos (by rfl)]
      go_simp
      refine (sp_ReadAll ((HC.out.resync hm).obj 0 rfl) HL8.out (by omega) HS8.out.2 HS8.out.1).mono ?_
      rintro e w10 ⟨A10, m10, c10, rfl, ho10, hsp10, hL10, hon10⟩
      have hc2 := (HC.out.resync hm).turned 0 rfl hon10 (fun q h => .inl h) hsp10.sup ho10 (fun q hq e => by have := ((HC.out.resync hm).lt 0 rfl) q hq; have := (ho10.lt _ e).1; omega)
      have HL10 := Lib.hid hL10
      clear ho10 hsp10 hL10 hon10
      clear HC hm
      simp only [List.nil_append, List.cons_append, List.set_cons_zero, List.set_cons_succ] at hc2
      have HC := Lib.hid hc2
      clear hc2
      have hm := HC.out.rebase
      go_simp
      refine hK.out _ _ (KnS.of hm (Rngs.nil _)) (fun hHeld => ?_)
      clear hK K
      try simp only [Act.put, sxQ]
      iterate 5 (first | (refine takeN 6 hHeld ?_) | (refine takeY 6 ?_ hHeld ?_ ?_; rotate_left 1; (first | (intro w9 h9; (with_reducible show (execOp _ (Oper.mk _ (Op.load _ _) _ _ _ _)).run _ _ = _); first | exact h9.ldA | exact h9.lcA | exact h9.laA | exact h9.lrA) | focus (intro w9 hSw; go_simp; (try (with_reducible rfl)); done))); try simp only [Act.put, sxQ])
      refine wpAnyH_done (by kernel_rfl) ?_ _
      refine NoPanic.normal ?_
      go_wp2_with (first | go_skip | ((with_reducible show wpList _ _ _ _ _ (World.alloc _ _)); refine wpList_up hm ?_; clear hm; intro n w hn hn2 hk hm hd hd2 ho; (try rw [← hn]); replace hn := Nat.le_of_eq hn.symm) | ((first | ((with_reducible show wpList _ _ _ (Oper.mk _ (Op.box _ _) _ _ _ _ :: _) _ _); (refine bxA hm ?_; clear hm; intro n w hn hz hm ho; (try simp only [List.cons_append, List.nil_append] at hm))) | ((with_reducible show wpList _ _ _ (Oper.mk _ (Op.load _ _) _ _ _ _ :: _) _ _); first | (refine ldA hm ?_) | (refine laA hm ?_)) | ((with_reducible show wpList _ _ _ (Oper.mk _ (Op.store _ _ _) _ _ _ _ :: _) _ _); (refine stA hm ?_; clear hm; intro w hz hm ho)) | ((with_reducible show wpList _ _ _ (Oper.mk _ (Op.alloc _) _ _ _ _ :: _) _ _); (refine alA hm ?_; clear hm; intro n w hn hz hm ho; (try simp only [List.cons_append, List.nil_append] at hm)))); try simp only [Act.put, sxQ]))
      have hs10 := HC.out.resync hm
      have hsp10 : Spc _ g8 gj8 G8 s8 (p8.more c10) := hs10.obj 0 rfl
      have hc2 := hs10.shed 0 rfl (hsp10.memG) hsp10.pat.mem.sup (hsp10.oldG) hsp10.old hsp10.apart
      have HCN : Hid (∃ fr, Pg.Can 245000000 fr (p8.more c10).m st8) := Lib.hid HL10.out.can
      have HON8 : Hid ((p8.more c10).m.off = false ∧ (p8.more c10).m.pending = false) := Lib.hid ⟨HL10.out.off, HL10.out.calm trivial⟩
      have HCO : Hid ((p8.more c10).count = 85) := Lib.hid (HL10.out.len.symm.trans HS8.out.2)
      clear hs10 hsp10
      generalize p8.more c10 = p10 at *
      clear HC hm
      simp only [List.nil_append, List.cons_append, List.set_cons_zero, List.set_cons_succ] at hc2
      have HC := Lib.hid hc2
      clear hc2
      have hm := HC.out.rebase
      go_at_call 11
      refine (law12_open ((HC.out.resync hm).obj 0 rfl) HON8.out.1 HON8.out.2 HCN.out (by omega) S6 HS8.out.1.meant).mono ?_
      rintro e w11 ⟨g11, gj11, G11, s11, p11, st11, rfl, hsp11, hgm11, hG11, ho11, hL11, hS11, hl11⟩
      have hc2 := (HC.out.resync hm).turn 0 rfl ho11 hG11 hsp11.sup
      have HL11 := Lib.hid hL11
      have HS11 := Lib.hid (And.intro hS11 (hl11.trans HS8.out.2))
      clear hsp11 hG11 ho11 hL11 hS11 hl11
      clear HC hm
      simp only [List.nil_append, List.cons_append, List.set_cons_zero, List.set_cons_succ] at hc2
      have HC := Lib.hid hc2
      clear hc2
      have hm := HC.out.rebase
      go_wp2_with (first | go_skip | ((with_reducible show wpList _ _ _ _ _ (World.alloc _ _)); refine wpList_up hm ?_; clear hm; intro n w hn hn2 hk hm hd hd2 ho; (try rw [← hn]); replace hn := Nat.le_of_eq hn.symm) | ((first | ((with_reducible show wpList _ _ _ (Oper.mk _ (Op.box _ _) _ _ _ _ :: _) _ _); (refine bxA hm ?_; clear hm; intro n w hn hz hm ho; (try simp only [List.cons_append, List.nil_append] at hm))) | ((with_reducible show wpList _ _ _ (Oper.mk _ (Op.load _ _) _ _ _ _ :: _) _ _); first | (refine ldA hm ?_) | (refine laA hm ?_)) | ((with_reducible show wpList _ _ _ (Oper.mk _ (Op.store _ _ _) _ _ _ _ :: _) _ _); (refine stA hm ?_; clear hm; intro w hz hm ho)) | ((with_reducible show wpList _ _ _ (Oper.mk _ (Op.alloc _) _ _ _ _ :: _) _ _); (refine alA hm ?_; clear hm; intro n w hn hz hm ho; (try simp only [List.cons_append, List.nil_append] at hm)))); try simp only [Act.put, sxQ]))
      refine wp_region_noPanic ?_
      refine wp_region_held_drew (S := KnS _ _) (by kernel_rfl) (KnS.of hm.drew (Rngs.nil _)) (fun hHeld => ?_)
      refine wpAnyH_fresh (by repeat (first | apply Fresh.a | apply Fresh.b)) ?_
      replace hm := hm.drew
      iterate 4 (first | (refine takeN 0 hHeld ?_) | (refine takeY 0 ?_ hHeld ?_ ?_; rotate_left 1; (first | (intro w9 h9; (with_reducible show (execOp _ (Oper.mk _ (Op.load _ _) _ _ _ _)).run _ _ = _); first | exact h9.ldA | exact h9.lcA | exact h9.laA | exact h9.lrA) | focus (intro w9 hSw; go_simp; (try (with_reducible rfl)); done))); try simp only [Act.put, sxQ])
      refine wpAnyH_ready (rs := [4]) (by kernel_rfl) (by simp) ?_
      refine AllReadyH.cons2 (by simp only [sxN]; first | done | exact rfl) (fun K hK => ?_)
      rw [if_pos (by rfl)]
      go_simp
      refine (sp_Size85 ((HC.out.resync hm).obj 0 rfl) HL11.out HS11.out.2).mono ?_
      rintro e w12 ⟨rfl, hb12⟩
      have hc2 := (HC.out.resync hm).below hb12
      clear hb12
      clear HC hm
      simp only [List.nil_append, List.cons_append, List.set_cons_zero, List.set_cons_succ] at hc2
      have HC := Lib.hid hc2
      clear hc2
      have hm := HC.out.rebase
      go_simp
      refine hK.out _ _ (KnS.of hm (Rngs.nil _)) (fun hHeld => ?_)
      clear hK K
      try simp only [Act.put, sxQ]
      refine wpAnyH_ready (rs := [5]) (by kernel_rfl) (by simp) ?_
      refine AllReadyH.cons2 (by simp only [sxN]; first | done | exact rfl) (fun K hK => ?_)
      rw [if_pos (by rfl)]
      go_simp
      refine (sp_ReadAll ((HC.out.resync hm).obj 0 rfl) HL11.out (by omega) HS11.out.2 HS11.out.1).mono ?_
      rintro e w13 ⟨A13, m13, c13, rfl, ho13, hsp13, hL13, hon13⟩
      have hc2 := (HC.out.resync hm).turned 0 rfl hon13 (fun q h => .inl h) hsp13.sup ho13 (fun q hq e => by have := ((HC.out.resync hm).lt 0 rfl) q hq; have := (ho13.lt _ e).1; omega)
      clear ho13 hsp13 hL13 hon13
      clear HC hm
      simp only [List.nil_append, List.cons_append, List.set_cons_zero, List.set_cons_succ] at hc2
      have HC := Lib.hid hc2
      clear hc2
      have hm := HC.out.rebase
      go_simp
      refine hK.out _ _ (KnS.of hm (Rngs.nil _)) (fun hHeld => ?_)
      clear hK K
      try simp only [Act.put, sxQ]
      iterate 5 (first | (refine takeN 6 hHeld ?_) | (refine takeY 6 ?_ hHeld ?_ ?_; rotate_left 1; (first | (intro w9 h9; (with_reducible show (execOp _ (Oper.mk _ (Op.load _ _) _ _ _ _)).run _ _ = _); first | exact h9.ldA | exact h9.lcA | exact h9.laA | exact h9.lrA) | focus (intro w9 hSw; go_simp; (try (with_reducible rfl)); done))); try simp only [Act.put, sxQ])
      refine wpAnyH_done (by kernel_rfl) ?_ _
      refine NoPanic.normal ?_
      have HSB : Hid (∀ u : World, Old u g8 gj8 s8 p10 → Calls Try.prog 13 #[.pointer (some ⟨gj8, 0, none⟩)] u fun e w' => e = .returned (.int .i64 2544) ∧ Below u.heap.size u w') := Lib.hid fun u h => (jn_SizeB h.jat h.blk (by rw [HCO.out]; omega)).mono fun e w' ⟨h1, h2⟩ => ⟨by rw [h1, HCO.out]; rfl, h2⟩
      go_wp2_with (first | go_skip | ((with_reducible show wpList _ _ _ _ _ (World.alloc _ _)); refine wpList_up hm ?_; clear hm; intro n w hn hn2 hk hm hd hd2 ho; (try rw [← hn]); replace hn := Nat.le_of_eq hn.symm) | ((first | ((with_reducible show wpList _ _ _ (Oper.mk _ (Op.box _ _) _ _ _ _ :: _) _ _); (refine bxA hm ?_; clear hm; intro n w hn hz hm ho; (try simp only [List.cons_append, List.nil_append] at hm))) | ((with_reducible show wpList _ _ _ (Oper.mk _ (Op.load _ _) _ _ _ _ :: _) _ _); first | (refine ldA hm ?_) | (refine laA hm ?_)) | ((with_reducible show wpList _ _ _ (Oper.mk _ (Op.store _ _ _) _ _ _ _ :: _) _ _); (refine stA hm ?_; clear hm; intro w hz hm ho)) | ((with_reducible show wpList _ _ _ (Oper.mk _ (Op.alloc _) _ _ _ _ :: _) _ _); (refine alA hm ?_; clear hm; intro n w hn hz hm ho; (try simp only [List.cons_append, List.nil_append] at hm)))); try simp only [Act.put, sxQ]))
      go_at_call 13
      refine (HSB.out _ ((HC.out.resync hm).val 0 rfl)).mono ?_
      rintro e w14 ⟨rfl, hb14⟩
      have hc2 := (HC.out.resync hm).below hb14
      clear hb14
      clear HC hm
      simp only [List.nil_append, List.cons_append, List.set_cons_zero, List.set_cons_succ] at hc2
      have HC := Lib.hid hc2
      clear hc2
      have hm := HC.out.rebase
      go_wp2_with (first | go_skip | ((with_reducible show wpList _ _ _ _ _ (World.alloc _ _)); refine wpList_up hm ?_; clear hm; intro n w hn hn2 hk hm hd hd2 ho; (try rw [← hn]); replace hn := Nat.le_of_eq hn.symm) | ((first | ((with_reducible show wpList _ _ _ (Oper.mk _ (Op.box _ _) _ _ _ _ :: _) _ _); (refine bxA hm ?_; clear hm; intro n w hn hz hm ho; (try simp only [List.cons_append, List.nil_append] at hm))) | ((with_reducible show wpList _ _ _ (Oper.mk _ (Op.load _ _) _ _ _ _ :: _) _ _); first | (refine ldA hm ?_) | (refine laA hm ?_)) | ((with_reducible show wpList _ _ _ (Oper.mk _ (Op.store _ _ _) _ _ _ _ :: _) _ _); (refine stA hm ?_; clear hm; intro w hz hm ho)) | ((with_reducible show wpList _ _ _ (Oper.mk _ (Op.alloc _) _ _ _ _ :: _) _ _); (refine alA hm ?_; clear hm; intro n w hn hz hm ho; (try simp only [List.cons_append, List.nil_append] at hm)))); try simp only [Act.put, sxQ]))
      go_at_call 14
      refine (ref01_Same A10 A13 2544 2544 m10 m13 S6 S6 _ ((HC.out.resync hm).byt 0 rfl) ((HC.out.resync hm).byt 1 rfl) (by omega) (by omega)).mono ?_
      rintro e w15 ⟨rfl, kd, rfl⟩
      rw [Oct.same_refl]
      replace hm := hm.drewN kd
      go_wp2_with (first | go_skip | ((with_reducible show wpList _ _ _ _ _ (World.alloc _ _)); refine wpList_up hm ?_; clear hm; intro n w hn hn2 hk hm hd hd2 ho; (try rw [← hn]); replace hn := Nat.le_of_eq hn.symm) | ((first | ((with_reducible show wpList _ _ _ (Oper.mk _ (Op.box _ _) _ _ _ _ :: _) _ _); (refine bxA hm ?_; clear hm; intro n w hn hz hm ho; (try simp only [List.cons_append, List.nil_append] at hm))) | ((with_reducible show wpList _ _ _ (Oper.mk _ (Op.load _ _) _ _ _ _ :: _) _ _); first | (refine ldA hm ?_) | (refine laA hm ?_)) | ((with_reducible show wpList _ _ _ (Oper.mk _ (Op.store _ _ _) _ _ _ _ :: _) _ _); (refine stA hm ?_; clear hm; intro w hz hm ho)) | ((with_reducible show wpList _ _ _ (Oper.mk _ (Op.alloc _) _ _ _ _ :: _) _ _); (refine alA hm ?_; clear hm; intro n w hn hz hm ho; (try simp only [List.cons_append, List.nil_append] at hm)))); try simp only [Act.put, sxQ]))
      go_at_call 15
      refine (law12_awake _).mono ?_
      rintro e w16 ⟨rfl, hb16⟩
      have hlow := (HC.out.resync hm).low
      clear hm HC
      go_wp2_with fail
      go_ret
      exact ⟨rfl, hlow.trans (hb16.mono hlow.size)⟩
end Go.Proofs.Ytmhjddmamknglaa
