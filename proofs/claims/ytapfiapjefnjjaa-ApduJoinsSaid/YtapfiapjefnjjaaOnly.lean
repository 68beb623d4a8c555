/-
  A step that may turn some blocks alone. Nothing here names a program.
-/
import Derived.Test.YtapfiapjefnjjaaMem
namespace Go.Proofs.Ytapfiapjefnjjaa
open Go.RowKit

/-- From w to w' only blocks that meet R, and new ones, may have turned. -/
structure Only (R : Nat → Prop) (w w' : World) : Prop where
  os : w'.os = w.os
  tape : w'.tape = w.tape
  output : w'.output = w.output
  size : w.heap.size ≤ w'.heap.size
  block : ∀ k, k < w.heap.size → ¬ R k → w'.heap[k]? = w.heap[k]?

section
variable {R R' : Nat → Prop} {w w' w'' a : World}
theorem Only.refl (R : Nat → Prop) (w : World) : Only R w w := ⟨rfl, rfl, rfl, Nat.le_refl _, fun _ _ _ => rfl⟩
theorem Only.trans (h : Only R w w') (k : Only R w' w'') : Only R w w'' :=
  ⟨k.os.trans h.os, k.tape.trans h.tape, k.output.trans h.output, Nat.le_trans h.size k.size, fun i hi hn => (k.block i (Nat.lt_of_lt_of_le hi h.size) hn).trans (h.block i hi hn)⟩
theorem Only.mono (h : Only R w w') (hR : ∀ k, k < w.heap.size → R k → R' k) : Only R' w w' := ⟨h.os, h.tape, h.output, h.size, fun k hk hn => h.block k hk fun hr => hn (hR k hk hr)⟩
theorem Only.setCell (h : Only R a w) {p : Addr} (hp : R p.block) (u : Value) : Only R a (w.setCell p u) :=
  ⟨h.os, h.tape, h.output, by simp [World.setCell]; exact h.size, fun k hk hn => (Below.heap_setCell w p u k (fun e => hn (by rw [e]; exact hp))).trans (h.block k hk hn)⟩
theorem Only.setRow (h : Only R a w) {g : Nat} (hg : R g) (cs : Array Value) : Only R a (w.setRow g cs) :=
  ⟨h.os, h.tape, h.output, by simp; exact h.size, fun k hk hn => (setRow_other w g k cs (fun e => hn (by rw [e]; exact hg))).trans (h.block k hk hn)⟩
theorem Only.alloc (h : Only R a w) (o : Obj) : Only R a (w.alloc o) :=
  ⟨h.os, h.tape, h.output, by simp; have := h.size; omega, fun k hk hn => (Below.heap_alloc w o k (Nat.lt_of_lt_of_le hk h.size)).trans (h.block k hk hn)⟩
theorem Only.drew (h : Only R a w) : Only R a w.drew := ⟨h.os, h.tape, h.output, h.size, h.block⟩
theorem Only.drewN (h : Only R a w) (k : Nat) : Only R a (w.drewN k) := ⟨h.os, h.tape, h.output, h.size, h.block⟩
theorem Only.of_below (h : Below w.heap.size w w') : Only R w w' := ⟨h.os, h.tape, h.output, h.size, fun k hk _ => h.block k hk⟩
theorem Only.below (h : Only R w w') {B : Nat} (hB : B ≤ w.heap.size) (hR : ∀ k, k < B → ¬ R k) : Below B w w' :=
  ⟨h.os, h.tape, h.output, h.size, fun k hk => h.block k (Nat.lt_of_lt_of_le hk hB) (hR k hk)⟩
theorem Only.grown (h : Only R a w) {row : Option Nat} (hg : w.grownBy w' row) (hr : ∀ k, row = some k → R k) : Only R a w' :=
  ⟨hg.os.trans h.os, hg.tape.trans h.tape, hg.output.trans h.output, Nat.le_trans h.size hg.size, fun k hk hn =>
    (hg.block k (Nat.lt_of_lt_of_le hk h.size) (fun e => hn (hr k e.symm))).trans (h.block k hk hn)⟩
theorem Blk.only {g : Nat} {t : TypeId} {cs : Array Value} (h : Blk w g t cs) (ho : Only R w w') (hg : ¬ R g) : Blk w' g t cs := (ho.block g h.lt hg).trans h
theorem Own.only {base : Nat} {t : TypeId} {s : Nat} {A : Option Addr} {n c : Nat} {cs : List Value} (h : Own w base t s A n c cs) (ho : Only R w w') (hg : ∀ g, A.map (·.block) = some g → ¬ R g) : Own w' base t s A n c cs := by
  refine ⟨h.1, h.2.1, h.2.2.1, fun hc => ?_⟩
  obtain ⟨g, cur, e, hb, hh, r⟩ := h.2.2.2 hc
  exact ⟨g, cur, e, hb, (ho.block g (Array.getElem?_eq_some_iff.1 hh).1 (hg g (by rw [e]; rfl))).trans hh, r⟩
theorem Own.setCell {base : Nat} {t : TypeId} {s : Nat} {A : Option Addr} {n c : Nat} {cs : List Value} (h : Own w base t s A n c cs) {p : Addr} (hp : ∀ g, A.map (·.block) = some g → g ≠ p.block) (u : Value) : Own (w.setCell p u) base t s A n c cs := by
  refine ⟨h.1, h.2.1, h.2.2.1, fun hc => ?_⟩
  obtain ⟨g, cur, e, hb, hh, r⟩ := h.2.2.2 hc
  exact ⟨g, cur, e, hb, (Below.heap_setCell w p u g (hp g (by rw [e]; rfl))).trans hh, r⟩
/-- Blocks of different element types differ. -/
theorem Blk.ne {g g' : Nat} {t t' : TypeId} {cs cs' : Array Value} (h : Blk w g t cs) (h' : Blk w g' t' cs') (hne : t ≠ t') : g ≠ g' := by
  rintro rfl
  unfold Blk at h h'
  rw [h] at h'
  injection h' with h'
  injection h' with _ ht
  exact hne ht
end
abbrev I64 (z : Int) : Value := .int .i64 z
theorem madeCells_eq (z : Value) (n : Nat) : madeCells #[z] n = (List.replicate n z).toArray := by
  apply Array.ext
  · simp [madeCells]
  · intro i h1 h2; simp [madeCells, Nat.mod_one]
theorem Own.made {w : World} {g n base : Nat} {t : TypeId} {z : Value} (hb : Blk w g t (madeCells #[z] n)) (hg : base ≤ g) (hm : n ≤ maxLen) : Own w base t 1 (some ⟨g, 0, none⟩) n n (List.replicate n z) := by
  have h := Own.blk (s := 1) (n := n) (c := n) hb hg (Nat.le_refl _) hm (by simp [madeCells]) (by simp [madeCells])
  rwa [madeCells_eq, show ((List.replicate n z).toArray.toList.take (n * 1)) = List.replicate n z by simp] at h
end Go.Proofs.Ytapfiapjefnjjaa
