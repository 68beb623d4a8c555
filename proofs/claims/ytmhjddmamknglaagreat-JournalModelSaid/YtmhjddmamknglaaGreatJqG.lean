/-
  The journal: what the laws with the reference share.
-/
import Derived.Test.YtmhjddmamknglaaGreatJqC
namespace Go.Proofs.YtmhjddmamknglaaGreat
set_option maxRecDepth 100000
set_option linter.unusedSimpArgs false
set_option linter.unusedVariables false
open Go.RowKit
set_option maxHeartbeats 8000000

theorem AplR.out {B B' : Nat} {st : List (List UInt8)} {S : List UInt8} {l : List JC} {p' : Pg.P} {er : Int} (h : AplR False B B' st S l p' er) (hS : Jn.Good st S) (hl : S.length = 48 * (st.length - 32)) (hB : B ≤ B') :
    ∃ (on : Bool) (st' : List (List UInt8)) (S' : List UInt8), p'.m.off = !on ∧ p'.alive = on ∧ (on = true → er = (Jn.rapply S l).2) ∧ (on = false → er = 7) ∧ (∃ fr, Pg.Can B' fr p'.m st') ∧ Jn.Meant st' S' ∧ (on = true → S' = (Jn.rapply S l).1) ∧ (on = false → S' = S ∨ S' = (Jn.rapply S l).1) ∧ st'.length = st.length := by
  unfold AplR at h
  rw [← hl] at h
  unfold Jn.rapply
  rcases h with ⟨h1, h2, h3⟩ | ⟨h1, h2, h3, h4⟩ | ⟨h1, h2, ⟨h3, st', h4, h5, h6⟩ | ⟨h3, st', h4, h5, h6⟩⟩
  · rw [if_pos h1]
    exact ⟨true, st, S, h3.off, h3.alive, fun _ => h2, fun e => (by cases e), (h3.mono hB).can, hS.meant, fun _ => rfl, fun e => (by cases e), rfl⟩
  · rw [if_neg (by rw [h1]; decide), if_pos h2]
    exact ⟨true, st, S, h4.off, h4.alive, fun _ => h3, fun e => (by cases e), (h4.mono hB).can, hS.meant, fun _ => rfl, fun e => (by cases e), rfl⟩
  · rw [if_neg (by rw [h1]; decide), if_neg (by omega)]
    exact ⟨true, st', _, h4.off, h4.alive, fun _ => h3, fun e => (by cases e), h4.can, h5.meant, fun _ => rfl, fun e => (by cases e), h6⟩
  · rw [if_neg (by rw [h1]; decide), if_neg (by omega)]
    rcases h5 with h5 | h5
    · exact ⟨false, st', _, h4.off, h4.alive, fun e => (by cases e), fun _ => h3, h4.can, h5, fun e => (by cases e), fun _ => .inl rfl, h6⟩
    · exact ⟨false, st', _, h4.off, h4.alive, fun e => (by cases e), fun _ => h3, h4.can, h5, fun e => (by cases e), fun _ => .inr rfl, h6⟩
theorem AplR.sure2 {B B' : Nat} {st : List (List UInt8)} {S : List UInt8} {l : List JC} {p' : Pg.P} {er : Int} (h : AplR True B B' st S l p' er) (hS : Jn.Good st S) (hl : S.length = 48 * (st.length - 32)) (hB : B ≤ B') :
    er = (Jn.rapply S l).2 ∧ ∃ st', PL True B' p' st' ∧ Jn.Good st' (Jn.rapply S l).1 ∧ st'.length = st.length := by
  unfold AplR at h
  rw [← hl] at h
  unfold Jn.rapply
  rcases h with ⟨h1, h2, h3⟩ | ⟨h1, h2, h3, h4⟩ | ⟨h1, h2, ⟨h3, st', h4, h5, h6⟩ | ⟨h3, st', h4, h5, h6⟩⟩
  · rw [if_pos h1]
    exact ⟨h2, st, h3.mono hB, hS, rfl⟩
  · rw [if_neg (by rw [h1]; decide), if_pos h2]
    exact ⟨h3, st, h4.mono hB, hS, rfl⟩
  · rw [if_neg (by rw [h1]; decide), if_neg (by omega)]
    exact ⟨h3, st', h4, h5, h6⟩
  · exact absurd trivial h4.not
theorem PL.cut0 {q : Prop} {B : Nat} {p : Pg.P} {st : List (List UInt8)} (L : PL q B p st) {z : Int} (h0 : 0 ≤ z) (hz : z ≤ 9223372036854775807) : (p.m.cut z).2 = 0 := by
  obtain ⟨fr, h⟩ := L.live
  exact (h.cut h0 hz).1
theorem wrap64_le (x : Int) : wrap64 x ≤ 9223372036854775807 := by unfold wrap64; omega
/-- Bytes that stay, as a value. -/
def stT (A : Option Addr) (c : Nat) (T : List UInt8) : Thing := ⟨blks #[.slice A 2544 c], fun u => Byt u u.heap.size A 2544 c T⟩
theorem blks_own {w : World} {B c : Nat} {A : Option Addr} {T : List UInt8} (h : Own w B 5 1 A 2544 c (bcells T)) (q : Nat) (hq : blks #[.slice A 2544 c] q) : B ≤ q := by
  obtain ⟨A1, n1, c1, a1, h1, h2, h3, h4⟩ := hq
  simp at h1
  obtain ⟨rfl, rfl, rfl⟩ := h1
  have hc : 2544 ≤ c1 := h.2.1
  have := (h.lt a1.block (ownAt_some (by omega) h3)).1
  omega
/-- The reference's state out of the elder one, as a value more. -/
theorem Scn.rap {w0 w w' : World} {L : List Ent} {O : List Osl} {Fs Vs : List Thing} {A : Option Addr} {c : Nat} {T : List UInt8} {l : List JC} {e : Ending} (h : Scn w0 w L O Fs Vs) (k : Nat) (hk : Vs[k]? = some (stT A c T)) (hT : T.length = 2544) (hr : RapR w A T l e w') :
    ∃ A2 c2, e = .returned (.tuple #[.agg #[.slice A2 2544 c2], .int .i64 (Jn.rapply T l).2]) ∧ Scn w0 w' L O Fs (Vs ++ [stT A2 c2 (Jn.rapply T l).1]) := by
  obtain ⟨A2, n2, c2, he, hb, hA, hbl⟩ := hr
  obtain rfl : n2 = 2544 := hb.1.symm.trans ((Jn.rapply_length T l).trans hT)
  refine ⟨A2, c2, he, h.next k hk hbl (fun F hF => ?_) (bytSup hb)⟩
  intro A1 n1 c1 hm hn1 a ha
  simp at hm
  obtain ⟨rfl, rfl, rfl⟩ := hm
  rcases hA with rfl | hA
  · exact .inl (hF _ _ _ (by simp; rfl) hn1 a ha)
  · exact .inr (hA a ha hn1)
theorem Scn.far {w0 w : World} {L : List Ent} {O : List Osl} {Fs Vs : List Thing} {A : Option Addr} {c : Nat} {T : List UInt8} {G : Nat → Prop} {p : World → Prop} (h : Scn w0 w L O Fs Vs) (i : Nat) (hi : Fs[i]? = some ⟨G, p⟩) (k : Nat) (hk : Vs[k]? = some (stT A c T)) : ∀ a, A = some a → ¬ G a.block := fun a e hg =>
  (h.vs _ (List.mem_of_getElem? hk)).2.1 _ (List.mem_of_getElem? hi) a.block hg ⟨A, 2544, c, a, by simp, by omega, e, rfl⟩
end Go.Proofs.YtmhjddmamknglaaGreat
