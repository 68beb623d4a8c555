/-
  Pages some words of which cannot be read: contracts.
-/
import Derived.Test.YtnlhammgcemchaaPgAJ
namespace Go.Proofs.Ytnlhammgcemchaa
set_option maxRecDepth 100000
set_option linter.unusedSimpArgs false
set_option linter.unusedVariables false
open Go.RowKit
set_option maxHeartbeats 8000000

def Pg.P.wm (p : Pg.P) (m : Cel.Mem) : Pg.P := { p with m := m }
theorem Pg.flip_two (m : Cel.Mem) (a i k : Nat) (ha : a < m.words.length) (hi : i < 32) (hk : k < 32) : ∃ m1 m2, m.flip (a : Int) (i : Int) = (m1, 0) ∧ m1.flip (a : Int) (k : Int) = (m2, 0) :=
  ⟨_, _, Pg.flip_eq m a i ha hi, Pg.flip_eq _ a k (by rw [List.length_set]; exact ha) hk⟩
section
variable {w : World} {g B : Nat} {G : Nat → Prop} {s : PgS} {p : Pg.P} {fr : Pg.Fs} {st : List (List UInt8)} {d : Prop}
theorem hurt_Count (H : PAt w g G s p) (L : Pg.Hurt B fr p st) : Calls Try.prog 24 #[.pointer (some ⟨g, 0, none⟩)] w fun e w' => e = .returned (.int .i64 (st.length : Int)) ∧ Below w.heap.size w w' := by
  rw [L.len]; exact page_Count H
theorem hurt_Read (H : PAt w g G s p) (h : Pg.Hurt B fr p st) (hB : B ≤ 900000000) (hd : d → Pg.Live B fr p st) (i : Nat) (hi : i < st.length) :
    Calls Try.prog 17 #[.pointer (some ⟨g, 0, none⟩), .int .i64 (i : Int)] w fun e w' =>
      ∃ A k m c bs er, e = .returned (.tuple #[.slice A k m, .int .i64 er]) ∧ k = bs.length ∧ Own w' w.heap.size 5 1 A k m (bcells bs) ∧ c ≤ 20 ∧ PAt w' g G s (p.more c) ∧ Only G w w' ∧ ((bs = st.getD i [] ∧ er = 0) ∨ (¬ d ∧ bs = [] ∧ er = 9)) := by
  have hfx := h.fixed
  have hl := h.len
  obtain ⟨c, h1, h2⟩ := h.reads (i := i) (by omega)
  refine (page_Read H i h.la h.at_small (by omega)).mono ?_
  rintro e w' ⟨A, m, he, hown, hp, ho⟩
  have hc : (p.read i).1 = p.more c := by rcases h2 with h2 | h2 <;> rw [h2]
  refine ⟨A, _, m, c, _, _, he, rfl, hown, h1, by rw [← hc]; exact hp, ho.mono fun q _ e => e ▸ H.hg g (by simp), ?_⟩
  rcases h2 with h2 | h2
  · left; rw [h2]; exact ⟨rfl, rfl⟩
  · right
    rw [h2]
    refine ⟨fun h3 => ?_, rfl, rfl⟩
    obtain ⟨c2, _, _, h4⟩ := (hd h3).reads i
    rw [h2] at h4
    have h5 := congrArg (fun x => x.2.2) h4
    unfold Pg.rread at h5
    rw [if_neg (by omega)] at h5
    have h6 : (9 : Int) = 0 := h5
    omega
theorem hurt_Open (H : PAt w g G s p) (h : Pg.Hurt B fr p st) (hB : B ≤ 1000000000) (hd : d → Pg.Live B fr p st) :
    Calls Try.prog 12 #[.pointer (some ⟨s.gm, 0, none⟩)] w fun e w' => Below w.heap.size w w' ∧ ((¬ d ∧ e = .returned (.tuple #[.pointer none, .int .i64 9])) ∨
      ∃ g' G' s' p', e = .returned (.tuple #[.pointer (some ⟨g', 0, none⟩), .int .i64 0]) ∧ Pg.Live B fr p' st ∧ PAt w' g' G' s' p' ∧ s'.gm = s.gm ∧ ∀ q, G' q → G q ∨ w.heap.size ≤ q) := by
  have hl := H.mem.len
  have hb := h.big
  refine (page_Open_on H.mem h.off (by omega) h.fine ⟨by omega, by omega⟩ (fun q hq => (h.can (by rw [hl]; exact hq)).frees h.off q (by rw [hl]; exact hq))).mono ?_
  rintro e w' ⟨hbl, h2⟩
  refine ⟨hbl, ?_⟩
  rcases h2 with ⟨h3, he⟩ | ⟨g', G', s', p', he, ho, hp, e1, e2, e3, e4, e5, e6, hG⟩
  · refine .inl ⟨fun h4 => ?_, he⟩
    obtain ⟨q, hq, _⟩ := (hd h4).can.scan h.off
    rw [hl, h3] at hq; cases hq
  · obtain ⟨o, h4, h5⟩ := id ho
    obtain ⟨hL, _⟩ := (h.can h4).opened h.off ho
    refine .inr ⟨g', G', s', p', he, hL, hp, e1, fun q hq => ?_⟩
    rcases hG q hq with h6 | h6 | h6 | h6
    · exact .inl (H.memR (.inl h6))
    · exact .inl (H.memR (.inr (.inl h6)))
    · exact .inl (H.memR (.inr (.inr h6)))
    · exact .inr h6
end
end Go.Proofs.Ytnlhammgcemchaa
