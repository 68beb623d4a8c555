/-
  Plain words for memory: a row of cells that is shown by a slice, a block that is known whole, a slice that the call itself owns. Nothing here names a program.
-/
import Derived.WalkKit
import Derived.WalkSpells
import Derived.WalkLawsBesides
import Derived.Deep.QuietTactic
import Derived.Deep.RegionHeld3
import Derived.BigQuiet
import Derived.Deep.Draws
import Derived.Lib.Hide
import Derived.StillTail
import Derived.Deep.DeepCutAuto
namespace Go.Proofs.Ytapfiapjefnjjaa
open Go.RowKit

/-- A byte as a value. -/
abbrev B8 (b : UInt8) : Value := .int .u8 (b.toNat : Int)
abbrev W32 (b : UInt32) : Value := .int .u32 (b.toNat : Int)
/-- The cells of bytes. -/
def bcells (bs : List UInt8) : List Value := bs.map B8
@[simp] theorem length_bcells (bs : List UInt8) : (bcells bs).length = bs.length := by simp [bcells]
theorem bcells_append (a b : List UInt8) : bcells (a ++ b) = bcells a ++ bcells b := by simp [bcells]
theorem bcells_get (bs : List UInt8) (j : Nat) : (bcells bs)[j]? = (bs[j]?).map B8 := by simp [bcells]
theorem bcells_one (bs : List UInt8) : ∀ u ∈ bcells bs, u.oneCell' = true := by
  intro u hu; simp only [bcells, List.mem_map] at hu; obtain ⟨b, _, rfl⟩ := hu; rfl

/-- Address A leads to the cells cs, in a block below number B (nothing is asked if there are none). -/
def Row (w : World) (B : Nat) (A : Option Addr) (cs : List Value) : Prop :=
  0 < cs.length → ∃ b o, A = some ⟨b, o, none⟩ ∧ b < B ∧ ∀ j, j < cs.length → w.cell? ⟨b, o + j, none⟩ = cs[j]?

section
variable {w w' : World} {B B' : Nat} {A : Option Addr} {cs : List Value}
theorem Row.nil (w : World) (B : Nat) (A : Option Addr) : Row w B A [] := fun h => absurd h (by simp)
theorem Row.more (h : Row w B A cs) (hB : B ≤ B') : Row w B' A cs := fun hn => by
  obtain ⟨b, o, e, hb, hc⟩ := h hn; exact ⟨b, o, e, by omega, hc⟩
theorem Row.keep (h : Row w B A cs) (hk : ∀ p : Addr, p.block < B → w'.cell? p = w.cell? p) : Row w' B A cs := fun hn => by
  obtain ⟨b, o, e, hb, hc⟩ := h hn; exact ⟨b, o, e, hb, fun j hj => (hk _ hb).trans (hc j hj)⟩
theorem Row.below (h : Row w B A cs) (hb : Below B w w') : Row w' B A cs := h.keep fun _ hp => hb.cell hp
theorem Row.drew (h : Row w B A cs) : Row w.drew B A cs := h
theorem Row.drewN (h : Row w B A cs) (k : Nat) : Row (w.drewN k) B A cs := h
theorem Row.alloc (h : Row w B A cs) (hB : B ≤ w.heap.size) (o : Obj) : Row (w.alloc o) B A cs :=
  h.keep fun p hp => World.cell?_of_block (Below.heap_alloc w o p.block (by omega))
theorem Row.setCell (h : Row w B A cs) {p : Addr} (hp : B ≤ p.block) (u : Value) : Row (w.setCell p u) B A cs :=
  h.keep fun q hq => World.cell?_of_block (Below.heap_setCell w p u q.block (by omega))
/-- The cell that a round reads. -/
theorem Row.at_ (h : Row w B A cs) {j : Nat} (hj : j < cs.length) : ∃ b o, A = some ⟨b, o, none⟩ ∧ b < B ∧ w.cell? ⟨b, o + j, none⟩ = some cs[j] := by
  obtain ⟨b, o, e, hb, hc⟩ := h (by omega)
  exact ⟨b, o, e, hb, by rw [hc j hj, List.getElem?_eq_getElem hj]⟩
theorem Row.take (h : Row w B A cs) (k : Nat) : Row w B A (cs.take k) := fun hn => by
  rw [List.length_take] at hn
  obtain ⟨b, o, e, hb, hc⟩ := h (by omega)
  refine ⟨b, o, e, hb, fun j hj => ?_⟩
  rw [List.length_take] at hj
  rw [hc j (by omega), List.getElem?_take, if_pos (by omega)]
theorem Row.drop {b o : Nat} (h : Row w B (some ⟨b, o, none⟩) cs) (k : Nat) : Row w B (some ⟨b, o + k, none⟩) (cs.drop k) := fun hn => by
  rw [List.length_drop] at hn
  obtain ⟨b', o', e, hb, hc⟩ := h (by omega)
  obtain ⟨rfl, rfl⟩ : b = b' ∧ o = o' := by simpa using e
  refine ⟨b, o + k, rfl, hb, fun j hj => ?_⟩
  rw [List.length_drop] at hj
  rw [Nat.add_assoc, hc (k + j) (by omega), List.getElem?_drop]
end

theorem Row.bdrop {w : World} {B b o : Nat} {bs : List UInt8} (h : Row w B (some ⟨b, o, none⟩) (bcells bs)) (k : Nat) : Row w B (some ⟨b, o + k, none⟩) (bcells (bs.drop k)) := by
  have := h.drop k; rwa [show (bcells bs).drop k = bcells (bs.drop k) by simp [bcells, List.map_drop]] at this
theorem Row.btake {w : World} {B : Nat} {A : Option Addr} {bs : List UInt8} (h : Row w B A (bcells bs)) (k : Nat) : Row w B A (bcells (bs.take k)) := by
  have := h.take k; rwa [show (bcells bs).take k = bcells (bs.take k) by simp [bcells, List.map_take]] at this
theorem Row.byte {w : World} {B : Nat} {b o : Nat} {bs : List UInt8} (h : Row w B (some ⟨b, o, none⟩) (bcells bs)) (j : Nat) (hj : j < bs.length) :
    w.cell? ⟨b, o + j, none⟩ = some (.int .u8 ((bs.getD j 0).toNat : Int)) := by
  obtain ⟨b', o', e, _, hc⟩ := h.at_ (j := j) (by simpa using hj)
  obtain ⟨rfl, rfl⟩ : b = b' ∧ o = o' := by simpa using e
  rw [hc]
  simp [bcells, List.getD, List.getElem?_eq_getElem hj]
theorem ret_int {k : IntKind} {a b : Int} (h : a = b) : Ending.returned (.int k a) = .returned (.int k b) := by rw [h]

/-- A slice of bytes: n of them, capacity c. -/
def Byt (w : World) (B : Nat) (A : Option Addr) (n c : Nat) (bs : List UInt8) : Prop := bs.length = n ∧ n ≤ c ∧ Row w B A (bcells bs)
section
variable {w w' : World} {B B' : Nat} {A : Option Addr} {n c : Nat} {bs : List UInt8}
theorem Byt.below (h : Byt w B A n c bs) (hb : Below B w w') : Byt w' B A n c bs := ⟨h.1, h.2.1, h.2.2.below hb⟩
theorem Byt.more (h : Byt w B A n c bs) (hB : B ≤ B') : Byt w B' A n c bs := ⟨h.1, h.2.1, h.2.2.more hB⟩
theorem Byt.at_ (h : Byt w B A n c bs) (hn : 0 < n) : ∃ b o, A = some ⟨b, o, none⟩ ∧ b < B := by
  obtain ⟨b, o, e, hb, _⟩ := h.2.2 (by rw [length_bcells, h.1]; exact hn)
  exact ⟨b, o, e, hb⟩
end

/-- A block that is known whole: its cells, its element's type, nothing in it frozen. -/
def Blk (w : World) (g : Nat) (t : TypeId) (cs : Array Value) : Prop := w.heap[g]? = some (.cells cs t (0, 0))

section
variable {w w' : World} {g : Nat} {t : TypeId} {cs : Array Value}
theorem Blk.lt (h : Blk w g t cs) : g < w.heap.size := by
  rcases Nat.lt_or_ge g w.heap.size with hlt | hge
  · exact hlt
  · unfold Blk at h; rw [Array.getElem?_eq_none hge] at h; cases h
theorem Blk.cell (h : Blk w g t cs) (i : Nat) : w.cell? ⟨g, i, none⟩ = cs[i]? := by unfold Blk at h; simp [World.cell?, h]
theorem Blk.has (h : Blk w g t cs) (i : Nat) (hi : i < cs.size) : ∃ v, w.cell? ⟨g, i, none⟩ = some v := ⟨cs[i], by rw [h.cell, Array.getElem?_eq_getElem hi]⟩
theorem Blk.frozen (h : Blk w g t cs) (i : Nat) : w.frozen? ⟨g, i, none⟩ = false := by unfold Blk at h; simp [World.frozen?, h]
theorem Blk.below {B : Nat} (h : Blk w g t cs) (hb : Below B w w') (hg : g < B) : Blk w' g t cs := (hb.block g hg).trans h
theorem Blk.alloc (h : Blk w g t cs) (o : Obj) : Blk (w.alloc o) g t cs := (Below.heap_alloc w o g h.lt).trans h
theorem Blk.drew (h : Blk w g t cs) : Blk w.drew g t cs := h
theorem Blk.drewN (h : Blk w g t cs) (k : Nat) : Blk (w.drewN k) g t cs := h
theorem Blk.new (w : World) (t : TypeId) (cs : Array Value) : Blk (w.alloc (.cells cs t)) w.heap.size t cs := heap_alloc_new w _
theorem Blk.new' (w : World) {t : TypeId} {cs cs' : Array Value} {g : Nat} (hg : g = w.heap.size) (hc : cs = cs') : Blk (w.alloc (.cells cs t)) g t cs' := by subst hg hc; exact Blk.new w t cs
theorem Blk.set (h : Blk w g t cs) (i : Nat) (u : Value) : Blk (w.setCell ⟨g, i, none⟩ u) g t (cs.setIfInBounds i u) := by
  unfold Blk at h ⊢; simp [World.setCell, Array.getElem?_modify, h]
theorem Blk.far (h : Blk w g t cs) {p : Addr} (hp : g ≠ p.block) (u : Value) : Blk (w.setCell p u) g t cs := (Below.heap_setCell w p u g hp).trans h
theorem Blk.row (h : Blk w g t cs) : Row w w.heap.size (some ⟨g, 0, none⟩) cs.toList := fun _ =>
  ⟨g, 0, rfl, h.lt, fun j _ => by rw [h.cell (0 + j)]; simp⟩
end

theorem Below.drewN {B : Nat} {a w : World} (h : Below B a w) (k : Nat) : Below B a (w.drewN k) := ⟨h.os, h.tape, h.output, h.size, h.block⟩
theorem Below.setRow {B : Nat} {a w : World} (h : Below B a w) {g : Nat} (hg : B ≤ g) (cs : Array Value) : Below B a (w.setRow g cs) :=
  h.trans ⟨rfl, rfl, rfl, by simp, fun k hk => setRow_other w g k cs (by omega)⟩
theorem Blk.setRow {w : World} {g : Nat} {t : TypeId} {cs : Array Value} (h : Blk w g t cs) (cs' : Array Value) : Blk (w.setRow g cs') g t cs' := setRow_heap w g cs cs' t (0, 0) h
theorem Blk.setRow_far {w : World} {g g' : Nat} {t : TypeId} {cs : Array Value} (h : Blk w g t cs) (hne : g ≠ g') (cs' : Array Value) : Blk (w.setRow g' cs') g t cs := (setRow_other w g' g cs' hne).trans h

theorem Row.new (w : World) {t : TypeId} {cs : Array Value} {l : List Value} (h : cs.toList = l) : Row (w.alloc (.cells cs t)) (w.heap.size + 1) (some ⟨w.heap.size, 0, none⟩) l := by
  have := (Blk.new w t cs).row
  rw [h] at this
  simpa using this

/-- Bytes that are all zero, as cells. -/
def zs (n : Nat) : List UInt8 := List.replicate n 0
theorem zs_length (n : Nat) : (zs n).length = n := by simp [zs]
def zc (n : Nat) : Array Value := (bcells (zs n)).toArray
theorem byt_blk {w : World} {g B n : Nat} {t : TypeId} {bs : List UInt8} (h : Blk w g t (bcells bs).toArray) (hB : g < B) (hn : bs.length = n) : Byt w B (some ⟨g, 0, none⟩) n n bs :=
  ⟨hn, Nat.le_refl _, fun _ => ⟨g, 0, rfl, hB, fun j _ => by rw [h.cell (0 + j)]; simp⟩⟩
theorem byt_zc {w : World} {g B n : Nat} {t : TypeId} (h : Blk w g t (zc n)) (hB : g < B) : Byt w B (some ⟨g, 0, none⟩) n n (zs n) :=
  byt_blk h hB (zs_length n)

/-- A slice value of the call's own: n elements of s cells each, capacity c, in a block from 'base' on (a slice without capacity may point anywhere). -/
def Own (w : World) (base : Nat) (t : TypeId) (s : Nat) (A : Option Addr) (n c : Nat) (cs : List Value) : Prop :=
  cs.length = n * s ∧ n ≤ c ∧ c ≤ maxLen ∧ (0 < c → ∃ g cur, A = some ⟨g, 0, none⟩ ∧ base ≤ g ∧ w.heap[g]? = some (.cells cur t (0, 0)) ∧ c * s ≤ cur.size ∧ cur.toList.take (n * s) = cs)

/-- The block that an append to the slice may write. -/
def ownAt (A : Option Addr) (c : Nat) : Option Nat := if c = 0 then none else A.map (·.block)

section
variable {w w' : World} {base : Nat} {t : TypeId} {s : Nat} {A : Option Addr} {n c : Nat} {cs : List Value}
theorem Own.none_ (w : World) (base : Nat) (t : TypeId) (s : Nat) (A : Option Addr) : Own w base t s A 0 0 [] :=
  ⟨by simp, Nat.le_refl _, Nat.zero_le _, fun h => absurd h (by omega)⟩
theorem Own.len (h : Own w base t s A n c cs) : cs.length = n * s := h.1
theorem Own.le (h : Own w base t s A n c cs) : n ≤ c := h.2.1
theorem Own.max (h : Own w base t s A n c cs) : c ≤ maxLen := h.2.2.1
theorem Own.mono {base' : Nat} (h : Own w base t s A n c cs) (hb : base' ≤ base) : Own w base' t s A n c cs :=
  ⟨h.1, h.2.1, h.2.2.1, fun hc => by obtain ⟨g, cur, e, hg, r⟩ := h.2.2.2 hc; exact ⟨g, cur, e, by omega, r⟩⟩
theorem Own.row (h : Own w base t s A n c cs) : Row w w.heap.size A cs := fun hn => by
  obtain ⟨hl, hnc, _, hc⟩ := h
  have hn0 : 0 < n := by
    rcases Nat.eq_zero_or_pos n with h0 | h0
    · subst h0; simp at hl; simp [hl] at hn
    · exact h0
  obtain ⟨g, cur, e, hg, hh, hs, ht⟩ := hc (by omega)
  refine ⟨g, 0, e, (Array.getElem?_eq_some_iff.1 hh).1, fun j hj => ?_⟩
  rw [← ht] at hj ⊢
  rw [List.length_take] at hj
  rw [List.getElem?_take, if_pos (by omega)]
  simp [World.cell?, hh]
theorem Own.byt {bs : List UInt8} {m : Nat} (h : Own w base t 1 A m c (bcells bs)) {B : Nat} (hB : w.heap.size ≤ B) : Byt w B A m c bs :=
  ⟨by have := h.1; simpa using this, h.2.1, h.row.more hB⟩
theorem Own.kept (h : Own w base t s A n c cs) {row : Option Nat} (hg : w.grownBy w' row) (hne : c = 0 ∨ ∀ g, A.map (·.block) = some g → row ≠ some g) : Own w' base t s A n c cs := by
  refine ⟨h.1, h.2.1, h.2.2.1, fun hc => ?_⟩
  obtain ⟨g, cur, e, hb, hh, r⟩ := h.2.2.2 hc
  refine ⟨g, cur, e, hb, ?_, r⟩
  rw [hg.block g (Array.getElem?_eq_some_iff.1 hh).1 ?_]; · exact hh
  rcases hne with h0 | h0
  · omega
  · have := h0 g (by rw [e]; rfl); exact fun e' => this e'.symm
/-- What the call owns stays its own while nothing that exists is written. -/
theorem Own.below (h : Own w base t s A n c cs) (hb : Below w.heap.size w w') : Own w' base t s A n c cs := by
  refine ⟨h.1, h.2.1, h.2.2.1, fun hc => ?_⟩
  obtain ⟨g, cur, e, hg, hh, r⟩ := h.2.2.2 hc
  exact ⟨g, cur, e, hg, (hb.block g (Array.getElem?_eq_some_iff.1 hh).1).trans hh, r⟩
theorem Own.alloc (h : Own w base t s A n c cs) (o : Obj) : Own (w.alloc o) base t s A n c cs := h.below ((Below.refl _ _).alloc (Nat.le_refl _) o)
theorem Own.drew (h : Own w base t s A n c cs) : Own w.drew base t s A n c cs := h
theorem Own.drewN (h : Own w base t s A n c cs) (k : Nat) : Own (w.drewN k) base t s A n c cs := h
/-- A slice over a block that has just been made whole. -/
theorem Own.blk {g : Nat} {cur : Array Value} (hb : Blk w g t cur) (hg : base ≤ g) (hn : n ≤ c) (hm : c ≤ maxLen) (hc : c * s ≤ cur.size) (hs : n * s ≤ cur.size) :
    Own w base t s (some ⟨g, 0, none⟩) n c (cur.toList.take (n * s)) :=
  ⟨by rw [List.length_take, Array.length_toList]; omega, hn, hm, fun _ => ⟨g, cur, rfl, hg, hb, hc, rfl⟩⟩
theorem Own.lt (h : Own w base t s A n c cs) : ∀ g, ownAt A c = some g → base ≤ g ∧ g < w.heap.size := by
  intro g hg
  unfold ownAt at hg
  split at hg
  · cases hg
  · obtain ⟨g', cur, e, hb, hh, _⟩ := h.2.2.2 (by omega)
    subst e
    simp only [Option.map_some, Option.some.injEq] at hg
    subst hg
    exact ⟨hb, (Array.getElem?_eq_some_iff.1 hh).1⟩
end

/-- One element of a slice of the call's own (an element a cell): where it lies, and what a store makes of it. -/
theorem Own.elem {w : World} {base : Nat} {t : TypeId} {A : Option Addr} {n c : Nat} {cs : List Value} (h : Own w base t 1 A n c cs) {i : Nat} (hi : i < n) :
    ∃ g, A = some ⟨g, 0, none⟩ ∧ base ≤ g ∧ g < w.heap.size ∧ w.cell? ⟨g, i, none⟩ = cs[i]? ∧ w.frozen? ⟨g, i, none⟩ = false ∧ ∀ v, Own (w.setCell ⟨g, i, none⟩ v) base t 1 A n c (cs.set i v) := by
  obtain ⟨hl, hnc, hm, hc⟩ := h
  obtain ⟨g, cur, e, hb, hh, hs, ht⟩ := hc (by omega)
  have hB : Blk w g t cur := hh
  refine ⟨g, e, hb, hB.lt, ?_, hB.frozen i, fun v => ⟨by rw [List.length_set]; exact hl, hnc, hm, fun _ => ⟨g, _, e, hb, hB.set i v, by simpa using hs, ?_⟩⟩⟩
  · rw [hB.cell, ← ht, List.getElem?_take, if_pos (by omega)]; simp
  · rw [Array.toList_setIfInBounds, List.take_set, ht]

/-- Behind an append onto a slice of the call's own nothing below 'base' has turned. -/
theorem Own.grown {w w2 a : World} {base : Nat} {t : TypeId} {s : Nat} {A : Option Addr} {n c : Nat} {cs : List Value} (h : Own w base t s A n c cs) (hg : w.grownBy w2 (ownAt A c)) (hb : Below base a w) (hbase : base ≤ w.heap.size) : Below base a w2 :=
  hb.grown hg hbase fun k hk => (h.lt k hk).1

section
variable {P : Program} (w : World)

theorem append_same (t ty e : TypeId) (i : TypeInfo) (ht : P.underlying t = some (.slice e)) (hi : P.info? e = some i) (A : Option Addr) (n c : Nat) (A' : Option Addr) (c' : Nat) (hnc : n ≤ c) :
    (Builtin.append_ #[t, t] ty #[.slice A n c, .slice A' 0 c']).run P w = .ok (.slice A n c) w := by
  cases A <;> cases A' <;> simp [Builtin.append_, run_underlying ht, sizeOf, typeInfo, hi, Builtin.lenOf, Builtin.firstCells, hnc, loadCells, loadCellsFrom, storeCells]

theorem add_eq (b o j : Nat) : (⟨b, o, none⟩ : Addr).add j = ⟨b, o + j, none⟩ := by unfold Addr.add; split <;> simp_all

theorem run_append (base : Nat) (t ty e : TypeId) (i : TypeInfo) (z : Value) (s bytes : Nat) (ht : P.underlying t = some (.slice e)) (hi : P.info? e = some i) (hz : i.zero = some z)
    (hsize : i.size = s) (hby : i.bytes = bytes) (hzs : z.cells.size = s) (hsz : 0 < s)
    (A : Option Addr) (n c : Nat) (cs : List Value) (hown : Own w base e s A n c cs)
    (B : Nat) (A' : Option Addr) (m c' : Nat) (news : List Value) (hr : Row w B A' news) (hl : news.length = m * s) (h1 : ∀ u ∈ news, u.oneCell' = true)
    (h63 : n + m ≤ maxLen) (hbytes : (n + m) * bytes ≤ 140737488355328) (hbase : base ≤ w.heap.size) :
    ∃ A2 c2 w2, (Builtin.append_ #[t, t] ty #[.slice A n c, .slice A' m c']).run P w = .ok (.slice A2 (n + m) c2) w2 ∧ Own w2 base e s A2 (n + m) c2 (cs ++ news) ∧ w.grownBy w2 (ownAt A c) ∧
      (ownAt A2 c2 = ownAt A c ∨ ownAt A2 c2 = some w.heap.size) := by
  subst hsize
  subst hby
  obtain ⟨hlen, hnc, hcm, hc⟩ := hown
  have hsmall : n + m ≤ 9223372036854775807 := by simp only [maxLen] at h63; omega
  rcases Nat.eq_zero_or_pos m with rfl | hm
  · have hn : news = [] := List.eq_nil_of_length_eq_zero (by simpa using hl)
    subst hn
    exact ⟨A, c, w, append_same w t ty e i ht hi A n c A' c' hnc, ⟨by simpa using hlen, hnc, hcm, by simpa using hc⟩, ⟨rfl, rfl, rfl, Nat.le_refl _, fun _ _ _ => rfl⟩, .inl rfl⟩
  have hnl : 0 < news.length := by rw [hl]; exact Nat.mul_pos hm hsz
  obtain ⟨b, o, rfl, _, hcell⟩ := hr hnl
  have hnews : ∀ j u, news[j]? = some u → w.cell? ((⟨b, o, none⟩ : Addr).add j) = some u := by
    intro j u hu
    have hj : j < news.length := (List.getElem?_eq_some_iff.1 hu).1
    rw [add_eq, hcell j hj]; exact hu
  have hlen2 : (cs ++ news).length = (n + m) * i.size := by rw [List.length_append, hlen, hl, Nat.add_mul]
  have grown : ∀ (old : Nat), old < n + m → ∀ (row : Option Nat),
      Own (w.drew.alloc (.cells (cs.toArray ++ news.toArray ++ Builtin.zeroCells z.cells (grownCap w (n + m) old e - (n + m))) e)) base e i.size
        (some ⟨w.heap.size, 0, none⟩) (n + m) (grownCap w (n + m) old e) (cs ++ news) ∧
      w.grownBy (w.drew.alloc (.cells (cs.toArray ++ news.toArray ++ Builtin.zeroCells z.cells (grownCap w (n + m) old e - (n + m))) e)) row ∧ 0 < grownCap w (n + m) old e := by
    intro old ho row
    have hge := grownCap_ge w (n + m) old e
    have hcm := grownCap_le_maxLen w (n + m) old e h63
    refine ⟨⟨hlen2, hge, hcm, fun _ => ⟨w.heap.size, _, rfl, hbase, heap_alloc_new w.drew _, ?_, ?_⟩⟩, ⟨rfl, rfl, rfl, by simp, fun k hk _ => Below.heap_alloc w.drew _ k hk⟩, by omega⟩
    · refine Nat.le_of_eq ?_
      simp only [Array.size_append, List.size_toArray, size_zeroCells, hzs, hlen, hl, ← Nat.add_mul]
      congr 1
      omega
    · simp only [Array.toList_append, List.append_assoc]
      rw [← List.append_assoc, ← hlen2]
      exact List.take_left
  rcases Nat.eq_zero_or_pos c with rfl | hc0
  · obtain rfl : n = 0 := by omega
    have hcs : cs = [] := List.eq_nil_of_length_eq_zero (by simpa using hlen)
    subst hcs
    have hgr := grown 0 (by omega) (ownAt A 0)
    cases A with
    | none =>
      have hr := run_append_nil (P := P) w t ty e i z ht hi hz ⟨b, o, none⟩ m c' news hl hnews hm (by omega) (by have hb := hbytes; simp only [Nat.zero_add] at hb; omega)
      simp only [Nat.zero_add, List.nil_append, Array.empty_append] at hgr ⊢
      exact ⟨_, _, _, hr, hgr.1, hgr.2.1, .inr (by have := hgr.2.2; simp [ownAt]; omega)⟩
    | some ad =>
      have hr := run_append_grow (P := P) w t ty e i z ht hi hz ad 0 0 [] (by simp) (by simp) ⟨b, o, none⟩ m c' news hl hnews (by omega) (by omega) (growslice_fits (by omega) hbytes)
      simp only [Nat.zero_add, List.nil_append, Array.empty_append] at hr hgr ⊢
      exact ⟨_, _, _, hr, hgr.1, hgr.2.1, .inr (by have := hgr.2.2; simp [ownAt]; omega)⟩
  · obtain ⟨g, cur, rfl, hbg, hg, hcs, htake⟩ := hc hc0
    by_cases hroom : n + m ≤ c
    · have hfit : n * i.size + news.length ≤ cur.size := by
        rw [hl, ← Nat.add_mul]; exact Nat.le_trans (Nat.mul_le_mul_right _ hroom) hcs
      have hr := run_append_room (P := P) w t ty e i ht hi g n c cur hg ⟨b, o, none⟩ m c' news hl hnews h1 hroom hfit
      refine ⟨_, _, _, hr, ⟨hlen2, hroom, hcm, fun _ => ⟨g, _, rfl, hbg, setRow_heap w g cur _ e _ hg, ?_, ?_⟩⟩, ⟨rfl, rfl, rfl, by simp, fun k hk hne => setRow_other w g k _ (fun e => hne (by simp [ownAt, e]; omega))⟩, .inl rfl⟩
      · simp only [List.size_toArray, List.length_append, List.length_take, List.length_drop, Array.length_toList]
        omega
      · rw [htake, ← hlen2]
        exact List.take_left
    · have holds : ∀ j u, cs[j]? = some u → w.cell? ((⟨g, 0, none⟩ : Addr).add j) = some u := by
        intro j u hu
        rw [add_eq, Nat.zero_add, cell_of_row w g j cur e (0, 0) hg]
        rw [← htake, List.getElem?_take] at hu
        split at hu
        · simpa using hu
        · cases hu
      have hr := run_append_grow (P := P) w t ty e i z ht hi hz ⟨g, 0, none⟩ n c cs hlen holds ⟨b, o, none⟩ m c' news hl hnews (by omega) (by omega) (growslice_fits (by omega) hbytes)
      have hgr := grown c (by omega) (ownAt (some ⟨g, 0, none⟩) c)
      exact ⟨_, _, _, hr, hgr.1, hgr.2.1, .inr (by have := hgr.2.2; simp [ownAt]; omega)⟩

theorem wp_append {o : Oper} {a : Act} {K : Act → World → Prop} {Q : Exit → Act → World → Prop} (x y : Operand) (t : TypeId)
    (ho : o.op = .call { callee := .builtin .append, args := #[x, y], argTypes := #[t, t] })
    (base : Nat) (e : TypeId) (i : TypeInfo) (z : Value) (s bytes : Nat) (ht : P.underlying t = some (.slice e)) (hi : P.info? e = some i) (hz : i.zero = some z)
    (hsize : i.size = s) (hby : i.bytes = bytes) (hzs : z.cells.size = s) (hsz : 0 < s)
    (A : Option Addr) (n c : Nat) (cs : List Value) (hx : a.eval x = .slice A n c) (hown : Own w base e s A n c cs)
    (B : Nat) (A' : Option Addr) (m c' : Nat) (news : List Value) (hy : a.eval y = .slice A' m c') (hr : Row w B A' news) (hl : news.length = m * s) (h1 : ∀ u ∈ news, u.oneCell' = true)
    (h63 : n + m ≤ maxLen) (hbytes : (n + m) * bytes ≤ 140737488355328) (hbase : base ≤ w.heap.size)
    (h : ∀ A2 c2 w2, Own w2 base e s A2 (n + m) c2 (cs ++ news) → w.grownBy w2 (ownAt A c) → (ownAt A2 c2 = ownAt A c ∨ ownAt A2 c2 = some w.heap.size) → K (a.put o.dst (.slice A2 (n + m) c2)) w2) : o.wp P a w K Q := by
  obtain ⟨A2, c2, w2, hrun, h2, h3, h4⟩ := run_append (P := P) w base t o.type e i z s bytes ht hi hz hsize hby hzs hsz A n c cs hown B A' m c' news hr hl h1 h63 hbytes hbase
  unfold Oper.wp execOp
  simp only [ho, resolve, invoke, builtin, Sem.run_bind, Sem.run_pure, Result.andThen_ok, List.map_toArray, List.map_cons, List.map_nil, hx, hy, hrun]
  exact h A2 c2 w2 h2 h3 h4

theorem wpList_append {ops : Array Oper} {rest : List Oper} {o : Oper} {a : Act} {Q : Exit → Act → World → Prop} (hgd : o.guard = none) (x y : Operand) (t : TypeId)
    (ho : o.op = .call { callee := .builtin .append, args := #[x, y], argTypes := #[t, t] })
    (base : Nat) (e : TypeId) (i : TypeInfo) (z : Value) (s bytes : Nat) (ht : P.underlying t = some (.slice e)) (hi : P.info? e = some i) (hz : i.zero = some z)
    (hsize : i.size = s) (hby : i.bytes = bytes) (hzs : z.cells.size = s) (hsz : 0 < s)
    (A : Option Addr) (n c : Nat) (cs : List Value) (hx : a.eval x = .slice A n c) (hown : Own w base e s A n c cs)
    (B : Nat) (A' : Option Addr) (m c' : Nat) (news : List Value) (hy : a.eval y = .slice A' m c') (hr : Row w B A' news) (hl : news.length = m * s) (h1 : ∀ u ∈ news, u.oneCell' = true)
    (h63 : n + m ≤ maxLen) (hbytes : (n + m) * bytes ≤ 140737488355328) (hbase : base ≤ w.heap.size)
    (h : ∀ A2 c2 w2, Own w2 base e s A2 (n + m) c2 (cs ++ news) → w.grownBy w2 (ownAt A c) → (ownAt A2 c2 = ownAt A c ∨ ownAt A2 c2 = some w.heap.size) → wpList P ops Q rest (a.put o.dst (.slice A2 (n + m) c2)) w2) : wpList P ops Q (o :: rest) a w :=
  wpList_plain hgd fun _ hK => wp_append w x y t ho base e i z s bytes ht hi hz hsize hby hzs hsz A n c cs hx hown B A' m c' news hy hr hl h1 h63 hbytes hbase fun A2 c2 w2 h2 h3 h4 => hK _ _ (h A2 c2 w2 h2 h3 h4)
end

/-! ### A region that draws its order: quiet operations, then a tail whose order is forced -/
section
variable {P : Program} {ops : Array Oper} {md : Region.Mode} {C : World → Prop}

/-- The head alone, whatever order is picked, in worlds of the class. -/
def headQ (P : Program) (md : Region.Mode) (ops : Array Oper) (C : World → Prop) (n : Nat) (L : Array Bool → Act → Prop) : Nat → Array Bool → Act → Prop
  | 0, listed, a => L listed a
  | f + 1, listed, a =>
    Region.ready md ops listed ≠ [] ∧ ∀ i ∈ Region.ready md ops listed, i < n ∧ qOp P ops C i (headQ P md ops C n L f (listed.setIfInBounds i true)) a

theorem wpAny_of_headQ {n g : Nat} {L : Array Bool → Act → Prop} {Q' : Exit → Act → World → Prop} (hL : ∀ listed a w, C w → L listed a → wpAny P md ops Q' g listed a w) :
    ∀ (f : Nat) (listed : Array Bool) (a : Act) (w : World), C w → headQ P md ops C n L f listed a → wpAny P md ops Q' (f + g) listed a w
  | 0, listed, a, w, hw, h => by rw [Nat.zero_add]; exact hL _ _ _ hw h
  | f + 1, listed, a, w, hw, h => by
    rw [show f + 1 + g = (f + g) + 1 by omega]
    exact ⟨fun h0 => absurd h0 h.1, fun i hi => wpOp_of_qOp hw (fun a' w' hw' h' => wpAny_of_headQ hL f _ a' w' hw' h') (h.2 i hi).2⟩

theorem headQ_first {n i : Nat} {oi : Oper} {v : Value} {L : Array Bool → Act → Prop} (hi : ops[i]? = some oi) (hsel : ∀ (j : Nat) (o : Oper) cs b, ops[j]? = some o → o.op ≠ .select cs b)
    (hs : Region.sinkB md ops n = true) (hc : Region.chainB md ops n = true) (hn : n < ops.size) (hin : i < n)
    (hdone : ∀ listed a, L listed a → ∀ j ∈ Region.ready md ops listed, n ≤ j) :
    ∀ (f : Nat) (listed : Array Bool) (a : Act), HeadInv md ops n listed →
      (∀ j oj, ops[j]? = some oj → j ≠ i → listed.getD j true = false → (∀ e ∈ oj.after, Region.binds md e = true → e.on ≠ i) → oi.apart ops oj = true) →
      i ∈ Region.ready md ops listed → YieldsIn P ops C oi v a →
      headQ P md ops C n L f (listed.setIfInBounds i true) (a.put oi.dst v) → headQ P md ops C n L (f + 1) listed a := by
  intro f
  induction f with
  | zero =>
    intro listed a inv hfree hr hy H
    refine ⟨fun h => (by rw [h] at hr; cases hr), fun j hj => ?_⟩
    have hjn : j < n := by
      rcases Nat.lt_or_ge j n with h | h
      · exact h
      · exact absurd hj (tail_waits hs hc hn inv _ i rfl hin (mem_ready.1 hr).1 j h)
    by_cases hji : j = i
    · subst hji; exact ⟨hjn, hy.qOp hi H⟩
    · have := hdone _ _ H j (ready_mono hj hji)
      omega
  | succ f ih =>
    intro listed a inv hfree hr hy H
    refine ⟨fun h => (by rw [h] at hr; cases hr), fun j hj => ?_⟩
    have hjn : j < n := by
      rcases Nat.lt_or_ge j n with h | h
      · exact h
      · exact absurd hj (tail_waits hs hc hn inv _ i rfl hin (mem_ready.1 hr).1 j h)
    by_cases hji : j = i
    · subst hji; exact ⟨hjn, hy.qOp hi H⟩
    · refine ⟨hjn, ?_⟩
      have h1 := (H.2 j (ready_mono hj hji)).2
      obtain ⟨hjun, oj, hoj, hall⟩ := mem_ready.1 hj
      have hnot : ∀ e ∈ oj.after, Region.binds md e = true → e.on ≠ i := fun e he hb heq => by
        have h1 := hall e he hb
        have h0 := (mem_ready.1 hr).1
        rw [heq] at h1
        rcases Nat.lt_or_ge i listed.size with h' | h'
        · simp [h'] at h0 h1; rw [h0] at h1; cases h1
        · simp [Array.getElem?_eq_none h'] at h1
      have h2 := qOp_put hoj (hfree j oj hoj hji hjun hnot) (fun cs b => hsel i oi cs b hi) (fun cs b => hsel j oj cs b hoj) hy h1
      have hfree' : ∀ k ok, ops[k]? = some ok → k ≠ i → (listed.setIfInBounds j true).getD k true = false →
          (∀ e ∈ ok.after, Region.binds md e = true → e.on ≠ i) → oi.apart ops ok = true := fun k ok hk hki hun hno => by
        refine hfree k ok hk hki ?_ hno
        by_cases hjk : j = k
        · subst hjk; exact hjun
        · rw [getD_set_ne true hjk] at hun; exact hun
      refine qOp_mono (fun a' h3 => ih (listed.setIfInBounds j true) a' (inv.set hj hjn) hfree' (ready_mono hr (Ne.symm hji)) h3.1 ?_) h2
      rw [Array.setIfInBounds_comm _ _ hji]
      exact h3.2

theorem headQ_lex {n g : Nat} {Lq : Act → Prop} (hsel : Region.noSelect ops = true) (hs : Region.sinkB md ops n = true) (hc : Region.chainB md ops n = true) (hn : n < ops.size) :
    ∀ (l : List Oper) (k : Nat) (listed : Array Bool) (a : Act), (∀ j, j < l.length → l[j]? = ops[k + j]?) → k + l.length = n → HeadInv md ops n listed →
    Region.lexHead md ops g l.length k listed = true → wpQuiet P ops C Lq l a →
    headQ P md ops C n (fun listed' a' => Region.seqB md ops g n listed' = true ∧ Lq a') l.length listed a
  | [], k, listed, a, _, hk, _, hB, h => by
    have : k = n := by simpa using hk
    subst this
    exact ⟨by simpa [Region.lexHead] using hB, h⟩
  | o :: l, k, listed, a, hl, hk, inv, hB, h => by
    have h0 : ops[k]? = some o := by simpa using (hl 0 (by simp)).symm
    simp only [List.length_cons, Region.lexHead, Bool.and_eq_true] at hB
    obtain ⟨⟨hr, hf⟩, hB'⟩ := hB
    have hkn : k < n := by simp only [List.length_cons] at hk; omega
    have hr' : k ∈ Region.ready md ops listed := by simpa using hr
    have hst : qOp P ops C k (wpQuiet P ops C Lq l) a := by unfold qOp; simp only [h0]; exact h
    obtain ⟨v, hy, hK⟩ := yieldsIn_of_qOp h0 hst
    exact headQ_first h0 (Region.noSelect_spec hsel) hs hc hn hkn (fun listed' a' hL => seqB_ready hL.1) l.length listed a inv (Region.free_spec h0 hf) hr' hy
      (headQ_lex hsel hs hc hn l (k + 1) _ _ (fun j hj => by have := hl (j + 1) (by simp; omega); simpa [Nat.add_assoc, Nat.add_comm 1 j] using this) (by simp only [List.length_cons] at hk; omega) (inv.set hr' hkn) hB' hK)

/-- Quiet operations in whatever order, then the tail from operation n on, in its own order. -/
theorem wp_region_quiet_tail {id : Nat} {Q : Exit → Act → World → Prop} {a : Act} {w : World} {l : List Oper} (n : Nat) (hm : P.follows .mixedOrders = true) (hB : Region.lexTailB .any l.toArray n = true)
    (h : wpQuiet P l.toArray (fun w' => ∃ k, w' = w.drewN k) (fun a' => ∀ w', (∃ k, w' = w.drewN k) → wpList P l.toArray Q (l.drop n) a' w') (l.take n) a) : (Code.region id l.toArray true).wp P Q a w := by
  simp only [Region.lexTailB, Bool.and_eq_true, decide_eq_true_eq] at hB
  obtain ⟨⟨⟨⟨hsel, hn⟩, hs⟩, hc⟩, hlex⟩ := hB
  have hn' : n < l.length := by simpa using hn
  have htl : (l.take n).length = n := by simp; omega
  have hdl : (l.drop n).length = l.toArray.size - n := by simp
  have inv0 : HeadInv .any l.toArray n (Array.replicate l.toArray.size false) :=
    ⟨by simp, fun j oj _ hl => (by rw [getD_replicate_false] at hl; cases hl), fun t _ ht => getD_in (by simpa using ht) (getD_replicate_false _ _)⟩
  have H := headQ_lex (C := fun w' => ∃ k, w' = w.drewN k) (md := .any) (g := l.toArray.size - n) hsel hs hc hn (l.take n) 0 _ a (fun j hj => by
    have hj' : j < n := by rw [htl] at hj; exact hj
    simp [hj']) (by simpa using htl) inv0 (by rw [htl]; exact hlex) h
  refine wp_region_any hm ?_
  have := wpAny_of_headQ (C := fun w' => ∃ k, w' = w.drewN k) (Q' := Q) (g := l.toArray.size - n) (fun listed a' w' hw' hL => by
    have := wpAny_of_seq (md := .any) (Q' := Q) (l.drop n) n listed a' w' (fun j => by simp [List.getElem?_drop]) (by rw [hdl]; exact hL.1) (hL.2 w' hw')
    rwa [hdl] at this) _ _ _ _ ⟨1, rfl⟩ H
  rw [htl] at this
  rwa [show n + (l.toArray.size - n) = l.toArray.size by simp; omega] at this
end
end Go.Proofs.Ytapfiapjefnjjaa
