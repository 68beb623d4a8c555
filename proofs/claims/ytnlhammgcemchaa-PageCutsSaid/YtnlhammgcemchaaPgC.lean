/-
  Pages that live: the contracts of their functions, and of the memory's.
-/
import Derived.Test.YtnlhammgcemchaaPgZ
import Derived.Test.YtnlhammgcemchaaZ0
import Derived.Test.YtnlhammgcemchaaZ1
namespace Go.Proofs.Ytnlhammgcemchaa.Pg
set_option maxRecDepth 100000
set_option linter.unusedSimpArgs false
set_option linter.unusedVariables false
open Go.Proofs.Ytnlhammgcemchaa

/-- The reference. -/
def rfirst (n : Nat) : List (List UInt8) := zeros n
def rread (st : List (List UInt8)) (i : Int) : List UInt8 × Int := if i < 0 ∨ (st.length : Int) ≤ i then ([], 2) else (st.getD i.toNat [], 0)
def rwrite (st : List (List UInt8)) (i : Int) (b : List UInt8) : List (List UInt8) × Int := if b.length ≠ 48 then (st, 1) else if i < 0 ∨ (st.length : Int) ≤ i then (st, 2) else (st.set i.toNat b, 0)
section
variable {B : Nat} {fr : Fs} {p : P} {st : List (List UInt8)}
theorem rwrite_length (st : List (List UInt8)) (i : Int) (b : List UInt8) : (rwrite st i b).1.length = st.length := by
  unfold rwrite
  split
  · rfl
  · split
    · rfl
    · simp
theorem Live.plOk (h : Live B fr p st) (hB : B ≤ 1000000000) {i : Nat} (hi : i < p.count) : PlOk p i (B : Int) := by
  obtain ⟨c1, c2, c3, c4⟩ := h.count_pos
  have h1 := h.inv.count_freed
  have h2 := h.version
  have hfree : p.freed.getD 0 0 ∈ p.freed := by
    cases hq : p.freed with
    | nil => rw [hq] at h1; simp at h1; omega
    | cons a l => simp
  exact { hi := by rw [h.inv.cur.la]; exact hi, hi24 := by omega, f2 := by omega, fl := by omega, ff := by rw [h.inv.cur.lh]; exact ((h.inv.fmem _).1 hfree).1, hl := by rw [h.inv.cur.lh]; omega, ho := fun f e => by rw [h.inv.cur.lh]; exact (h.inv.data_some hi e).1, ver := by omega, fine := h.fine, hK := by omega }
theorem Live.mvOk (h : Live B fr p st) (hB : B ≤ 1000000000) : MvOk p (B : Int) := by
  obtain ⟨c1, c2, c3, c4⟩ := h.count_pos
  have h2 := h.fixed
  exact { turn := by rw [h.inv.cur.lh]; exact h.inv.turn, frames := h.inv.cur.lh.symm, hl := by rw [h.inv.cur.lh]; omega, fixed := by omega, pl := fun i e => ⟨h.plOk hB (h.held e), fun f e2 => by have := (h.inv.data_some (h.held e) e2).1; omega⟩ }
theorem Live.writes (h : Live B fr p st) (hB : B ≤ 900000000) (i : Int) (b : List UInt8) :
    (∃ p' fr', p.write i b = (p', (rwrite st i b).2) ∧ Live (B + 1200) fr' p' (rwrite st i b).1 ∧ p'.count = p.count ∧ p'.cuts = p.cuts ∧ p'.m.words.length = p.m.words.length ∧ (p.m.pending = false → p'.m.pending = false) ∧ p'.m.writes ≤ p.m.writes + 42 ∧ (Exact p.m.words → Exact p'.m.words ∧ p'.fixed = p.fixed)) ∨
      (∃ p' fr', p.write i b = (p', 7) ∧ p.m.pending = true ∧ Dead (B + 1200) fr' p' st ∧ p'.count = p.count) := by
  have hl := h.len
  by_cases h1 : b.length = 48
  · by_cases h2 : i < 0 ∨ (st.length : Int) ≤ i
    · have e1 : rwrite st i b = (st, 2) := by unfold rwrite; rw [if_neg (by omega), if_pos h2]
      have e2 : p.write i b = (p, 2) := by
        unfold P.write
        have ha : p.access i = 2 := by rw [h.access, if_pos (by omega)]
        rw [if_neg (by omega), ha, if_pos (by decide)]
      rw [e1, e2]
      exact .inl ⟨p, fr, rfl, h.mono (by omega), rfl, rfl, rfl, id, by omega, fun hx => ⟨hx, rfl⟩⟩
    · obtain ⟨k, rfl⟩ := Int.eq_ofNat_of_zero_le (a := i) (by omega)
      have e1 : rwrite st k b = (st.set k b, 0) := by unfold rwrite; rw [if_neg (by omega), if_neg h2]; rfl
      rw [e1]
      exact h.write hB (by omega) h1
  · have e1 : rwrite st i b = (st, 1) := by unfold rwrite; rw [if_pos h1]
    have e2 : p.write i b = (p, 1) := by unfold P.write; rw [if_pos h1]
    rw [e1, e2]
    exact .inl ⟨p, fr, rfl, h.mono (by omega), rfl, rfl, rfl, id, by omega, fun hx => ⟨hx, rfl⟩⟩
theorem Live.reads (h : Live B fr p st) (i : Int) : ∃ c, c ≤ 20 ∧ (Exact p.m.words → c = 0) ∧ p.read i = (p.more c, (rread st i).1, (rread st i).2) := by
  have hl := h.len
  by_cases h2 : i < 0 ∨ (st.length : Int) ≤ i
  · have e1 : rread st i = ([], 2) := by unfold rread; rw [if_pos h2]
    have e2 : p.read i = (p, [], 2) := by
      have ha : p.access i = 2 := by rw [h.access, if_pos (by omega)]
      unfold P.read; rw [ha, if_pos (by decide)]
    exact ⟨0, by omega, fun _ => rfl, by rw [e1, e2]; rfl⟩
  · obtain ⟨k, rfl⟩ := Int.eq_ofNat_of_zero_le (a := i) (by omega)
    have e1 : rread st k = (st.getD k [], 0) := by unfold rread; rw [if_neg h2]; rfl
    obtain ⟨c, h3, h4, h5⟩ := h.content (i := k) (by omega)
    refine ⟨c, h3, h4, ?_⟩
    unfold P.read
    have ha : p.access k = 0 := by rw [h.access, if_neg (by omega)]
    rw [ha, if_neg (by decide), Int.toNat_natCast, h5, e1]
theorem Live.at_small (h : Live B fr p st) (k f : Nat) (e : p.at_.getD k none = some f) : f < 100000000 := by
  obtain ⟨c1, c2, c3, c4⟩ := h.count_pos
  have hk : k < p.at_.length := by
    rcases Nat.lt_or_ge k p.at_.length with h1 | h1
    · exact h1
    · rw [List.getD, List.getElem?_eq_none h1] at e; cases e
  have := (h.inv.data_some (by rw [← h.inv.cur.la]; exact hk) e).1
  omega
end
end Go.Proofs.Ytnlhammgcemchaa.Pg
namespace Go.Proofs.Ytnlhammgcemchaa
open Go.RowKit
theorem PAt.sup {w : World} {g : Nat} {G : Nat → Prop} {s : PgS} {p : Pg.P} (H : PAt w g G s p) : Sup w G (fun u => PAt u g G s p) := ⟨H, H.lt, fun _ _ ho hd => H.away ho hd⟩
theorem MemAt.sup {w : World} {gm gw gv n cw cv : Nat} {m : Cel.Mem} (H : MemAt w gm gw gv n cw cv m) : Sup w (MemR gm gw gv) (fun u => MemAt u gm gw gv n cw cv m) :=
  ⟨H, fun q hq => by
    obtain ⟨h1, h2, h3⟩ : gm < w.heap.size ∧ gw < w.heap.size ∧ gv < w.heap.size := ⟨H.box.lt, World.block_lt_of_cell? w _ (H.word H.pos), World.block_lt_of_cell? w _ (H.worn H.pos)⟩
    rcases hq with rfl | rfl | rfl <;> assumption, fun _ _ ho hd => H.only ho (hd _ (.inl rfl)) (hd _ (.inr (.inl rfl))) (hd _ (.inr (.inr rfl)))⟩
theorem PAt.memR {w : World} {g : Nat} {G : Nat → Prop} {s : PgS} {p : Pg.P} (H : PAt w g G s p) {q : Nat} (hq : MemR s.gm s.gw s.gv q) : G q := H.hg q (by rcases hq with h | h | h <;> simp [h])
section
variable {w : World} {g B : Nat} {G : Nat → Prop} {s : PgS} {p : Pg.P} {fr : Pg.Fs} {st : List (List UInt8)}
theorem live_Write (H : PAt w g G s p) (L : Pg.Live B fr p st) (hB : B ≤ 900000000) (i : Int) (B0 : Option Addr) (n cb : Nat) (b : List UInt8) (hb : Byt w w.heap.size B0 n cb b ∧ ∀ a, B0 = some a → 0 < n → ¬ G a.block) :
    Calls Try.prog 14 #[.pointer (some ⟨g, 0, none⟩), .int .i64 i, .slice B0 n cb] w (PlRes w g G s (p.write i b)) := by
  have hl : p.access i = 0 → 0 ≤ i ∧ i.toNat < p.count := fun ha => by
    rw [L.access] at ha
    split at ha
    · cases ha
    · omega
  refine page_Write (K := (B : Int)) (K2 := ((B + 1100 : Nat) : Int)) H i B0 n cb b hb.1 L.inv.cur.la (fun q ⟨a, e, e2⟩ hn => e2 ▸ hb.2 a e hn) (fun _ => L.mvOk (by omega)) (fun ha _ hz => ?_)
  obtain ⟨h1, h2⟩ := hl ha
  rcases L.move hB with ⟨p1, fr1, e1, hl, hc, _⟩ | ⟨p1, fr1, e1, _⟩
  · rw [e1]
    exact hl.plOk (by omega) (by rw [hc]; exact h2)
  · rw [e1] at hz; cases hz
theorem live_Read (H : PAt w g G s p) (L : Pg.Live B fr p st) (hB : B ≤ 900000000) (i : Int) :
    Calls Try.prog 17 #[.pointer (some ⟨g, 0, none⟩), .int .i64 i] w fun e w' =>
      ∃ A k m c, e = .returned (.tuple #[.slice A k m, .int .i64 (Pg.rread st i).2]) ∧ k = (Pg.rread st i).1.length ∧ Own w' w.heap.size 5 1 A k m (bcells (Pg.rread st i).1) ∧ c ≤ 20 ∧ (Pg.Exact p.m.words → c = 0) ∧ PAt w' g G s (p.more c) ∧ Only G w w' := by
  have hfx := L.fixed
  obtain ⟨c, h1, h2, h3⟩ := L.reads i
  refine (page_Read H i L.inv.cur.la L.at_small (by omega)).mono ?_
  rw [h3]
  rintro e w' ⟨A, m, he, hown, hp, ho⟩
  exact ⟨A, _, m, c, he, rfl, hown, h1, h2, hp, ho.mono fun q _ e => e ▸ H.hg g (by simp)⟩
theorem live_Count (H : PAt w g G s p) (L : Pg.Live B fr p st) : Calls Try.prog 24 #[.pointer (some ⟨g, 0, none⟩)] w fun e w' => e = .returned (.int .i64 (st.length : Int)) ∧ Below w.heap.size w w' := by
  rw [L.len]; exact page_Count H
theorem live_Alive (H : PAt w g G s p) (L : Pg.Live B fr p st) : Calls Try.prog 20 #[.pointer (some ⟨g, 0, none⟩)] w fun e w' => e = .returned (.bool true) ∧ Below w.heap.size w w' := by
  have := page_Alive H
  rwa [L.alive] at this
end
end Go.Proofs.Ytnlhammgcemchaa
