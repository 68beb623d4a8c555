/-
  The journal: JournalAgain.
-/
import Derived.Test.YtmhjddmamknglaaGreatJpF
namespace Go.Proofs.YtmhjddmamknglaaGreat
set_option maxRecDepth 100000
set_option linter.unusedSimpArgs false
set_option linter.unusedVariables false
open Go.RowKit
set_option maxHeartbeats 8000000

theorem Jn.Good.meant {st : Jn.St} {S : List UInt8} (h : Jn.Good st S) : Jn.Meant st S := h.imp id Jn.Clean.means
theorem AplR.can {q : Prop} {B B' : Nat} {st : List (List UInt8)} {S : List UInt8} {l : List JC} {p' : Pg.P} {er : Int} (h : AplR q B B' st S l p' er) (hS : Jn.Good st S) (hB : B ≤ B') : ∃ st' S', (∃ fr, Pg.Can B' fr p'.m st') ∧ Jn.Meant st' S' ∧ st'.length = st.length := by
  rcases h with ⟨_, _, h⟩ | ⟨_, _, _, h⟩ | ⟨_, _, ⟨_, st', h1, h2, h3⟩ | ⟨_, st', h1, h2, h3⟩⟩
  · exact ⟨st, S, (h.mono hB).can, hS.meant, rfl⟩
  · exact ⟨st, S, (h.mono hB).can, hS.meant, rfl⟩
  · exact ⟨st', _, h1.can, h2.meant, h3⟩
  · rcases h2 with h2 | h2
    · exact ⟨st', _, h1.can, h2, h3⟩
    · exact ⟨st', _, h1.can, h2, h3⟩
theorem AplR.sure {B B' : Nat} {st : List (List UInt8)} {S : List UInt8} {l : List JC} {p' : Pg.P} {er : Int} (h : AplR True B B' st S l p' er) (hS : Jn.Good st S) (hB : B ≤ B') : ∃ st' S', PL True B' p' st' ∧ Jn.Good st' S' ∧ st'.length = st.length := by
  rcases h with ⟨_, _, h⟩ | ⟨_, _, _, h⟩ | ⟨_, _, ⟨_, st', h1, h2, h3⟩ | ⟨_, st', h1, h2, h3⟩⟩
  · exact ⟨st, S, h.mono hB, hS, rfl⟩
  · exact ⟨st, S, h.mono hB, hS, rfl⟩
  · exact ⟨st', _, h1, h2, h3⟩
  · exact absurd trivial h1.not
theorem PL.cut {q : Prop} {B : Nat} {p : Pg.P} {st : List (List UInt8)} (L : PL q B p st) {z : Int} (h0 : 0 ≤ z) (hz : z ≤ 9223372036854775807) : PL False B (p.wm (p.m.cut z).1) st := by
  obtain ⟨fr, h⟩ := L.live
  exact ⟨⟨fr, (h.cut h0 hz).2⟩, fun h => h.elim⟩
section
variable {w : World} {g gj : Nat} {G : Nat → Prop} {s : PgS} {p : Pg.P}
theorem Spc.memG (h : Spc w g gj G s p) (q : Nat) (hq : MemR s.gm s.gw s.gv q) : spG G gj q := .inl (h.pat.memR hq)
theorem Spc.oldG (h : Spc w g gj G s p) (q : Nat) (hq : q = gj ∨ q = g) : spG G gj q := hq.elim .inr (fun e => .inl (h.pat.hg q (by simp [e])))
theorem Spc.apart (h : Spc w g gj G s p) (q : Nat) (hq : MemR s.gm s.gw s.gv q) : ¬ (q = gj ∨ q = g) := by
  rintro (rfl | rfl)
  · exact h.ne (h.pat.memR hq)
  · have := h.pat.ne
    rw [List.nodup_cons] at this
    exact this.1 (by rcases hq with h | h | h <;> simp [h])
/-- Of a space that is let go: the journal, and what its size needs. -/
structure Old (u : World) (g gj : Nat) (s : PgS) (p : Pg.P) : Prop where
  jat : JAt u gj g
  blk : Blk u g 66 (pcs s p)
theorem Spc.old (h : Spc w g gj G s p) : Sup w (fun q => q = gj ∨ q = g) (fun u => Old u g gj s p) :=
  ⟨⟨h.jat, h.pat.blk⟩, fun q hq => h.sup.lt q (h.oldG q hq), fun R w' ho hd => ⟨Blk.only h.jat ho (hd gj (.inl rfl)), h.pat.blk.only ho (hd g (.inr rfl))⟩⟩
end
theorem chs_scene {w0 : World} {A : Option Addr} {n c : Nat} {l : List JC} (h : Chs w0 w0.heap.size A n c l) : Hid ((∀ u, Below w0.heap.size w0 u → Chs u u.heap.size A n c l) ∧ ∀ q, chsG A n l q → q < w0.heap.size) :=
  Lib.hid ⟨fun _ hu => (h.below hu).more hu.size, (Chs.sup h).lt⟩
theorem short_weight {l : List JC} (h : JC.shortB l = true) : JC.weight l ≤ 1520 ∧ l.length ≤ 40 := by
  unfold JC.shortB at h
  rw [Bool.and_eq_true, decide_eq_true_eq, decide_eq_true_eq] at h
  have : JC.weight l = 8 * l.length + JC.total l := by
    clear h
    induction l with
    | nil => rfl
    | cons y l ih => simp only [JC.weight, JC.total, List.map_cons, List.sum_cons, List.length_cons] at ih ⊢; omega
  omega
/-- What is known of changes that came in. -/
structure ChB0 (w0 : World) (A : Option Addr) (n c : Nat) (l : List JC) : Prop where
  chs : Chs w0 w0.heap.size A n c l
  off : ∀ y ∈ l, -9223372036854775808 ≤ y.off ∧ y.off ≤ 9223372036854775807
  cap : ∀ y ∈ l, y.c ≤ maxLen
  len : c ≤ maxLen
theorem ChB0.yo {w0 : World} {A : Option Addr} {n c : Nat} {l : List JC} (h : ChB0 w0 A n c l) : ∀ y ∈ l, (-9223372036854775808 ≤ y.off ∧ y.off ≤ 9223372036854775807) ∧ y.n ≤ 9223372036854775807 := fun y hy =>
  ⟨h.off y hy, Nat.le_trans (h.chs.ok y hy).2.1 (h.cap y hy)⟩
theorem ChB0.n47 {w0 : World} {A : Option Addr} {n c : Nat} {l : List JC} (h : ChB0 w0 A n c l) : n ≤ 9223372036854775807 := Nat.le_trans h.chs.cap h.len
theorem cut_z (cut : Int) (h : 0 ≤ cut ∧ cut ≤ 65535) : 0 ≤ wrap64 (cut.tmod 3000) ∧ wrap64 (cut.tmod 3000) ≤ 9223372036854775807 := by
  rw [Int.tmod_eq_emod_of_nonneg h.1, IntWalk.wrap64_in _ (by omega)]; omega
theorem rread_all {q : Prop} {B : Nat} {p : Pg.P} {st : List (List UInt8)} {S : List UInt8} (L : PL q B p st) (h85 : st.length = 85) (hS : Jn.Good st S) : Jn.rread (Jn.flat st) 0 2544 = (S, 0) ∧ S.length = 2544 := by
  have hl : (Jn.flat st).length = 2544 := by rw [Jn.flat_len L.all48, h85]
  have e : Jn.flat st = S := good_flat hS
  rw [e] at hl ⊢
  refine ⟨?_, hl⟩
  unfold Jn.rread
  rw [if_neg (by rw [hl]; omega)]
  show ((S.drop 0).take 2544, 0) = _
  rw [List.drop_zero, List.take_of_length_le (by omega)]
theorem sp_Size85 {w : World} {g gj B : Nat} {G : Nat → Prop} {s : PgS} {p : Pg.P} {st : List (List UInt8)} {q : Prop} (H : Spc w g gj G s p) (L : PL q B p st) (h85 : st.length = 85) : Calls Tryz.prog 47 #[.pointer (some ⟨gj, 0, none⟩)] w fun e w' => e = .returned (.int .i64 2544) ∧ Below w.heap.size w w' :=
  (sp_Size H L).mono fun e w' ⟨h1, h2⟩ => ⟨by rw [h1, h85]; rfl, h2⟩
theorem sp_ReadAll {w : World} {g gj B : Nat} {G : Nat → Prop} {s : PgS} {p : Pg.P} {st : List (List UInt8)} {S : List UInt8} {q : Prop} (H : Spc w g gj G s p) (L : PL q B p st) (hB : B + 200000000 ≤ 900000000) (h85 : st.length = 85) (hS : Jn.Good st S) :
    Calls Tryz.prog 20 #[.pointer (some ⟨gj, 0, none⟩), .int .i64 0, .int .i64 2544] w fun e w' =>
      ∃ A m c, e = .returned (.tuple #[.slice A 2544 m, .int .i64 0]) ∧ Own w' w.heap.size 5 1 A 2544 m (bcells S) ∧ Spc w' g gj G s (p.more c) ∧ PL q (B + 200000000) (p.more c) st ∧ Only (spG G gj) w w' := by
  obtain ⟨e1, e2⟩ := rread_all L h85 hS
  refine (sp_Read H L 0 2544 hB).mono ?_
  rw [e1]
  rintro e w' ⟨A, k, m, c, he, hk, h⟩
  obtain rfl : k = 2544 := hk.trans e2
  exact ⟨A, m, c, he, h⟩
end Go.Proofs.YtmhjddmamknglaaGreat
