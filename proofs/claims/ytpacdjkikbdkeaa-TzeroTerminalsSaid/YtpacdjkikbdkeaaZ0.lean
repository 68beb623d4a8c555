/-
  The texts that the claims of this seat lean on, part 1.
-/
import Derived.WalkKit
import Derived.WalkSpells
import Derived.WalkLawsBesides
import Derived.Deep.QuietTactic
import Derived.Deep.RegionHeld3
import Derived.BigQuiet
import Derived.Deep.Draws
import Derived.Lib.Hide
import Derived.StillTail
import Derived.Deep.DeepCutAuto
import Derived.Laws.Tables
import Derived.Deep.MidRow
import Derived.Test.YtpacdjkikbdkeaaRows
import Derived.Laws.BytesArg
import Derived.Laws.BytesString
import Derived.Laws.MakeOwn
import Derived.Lib.OthersKept
import Derived.Laws.RangeAny
import Derived.Laws.BitsAllLaws
import Derived.Deep.LoopGhost
import Derived.Outline
import Derived.Laws.ResultCell
import Derived.Laws.Rows
import Derived.Deep.Fields
import Derived.Deep.Matrix

section
namespace Go.Proofs.Ytpacdjkikbdkeaa
set_option maxRecDepth 100000
set_option linter.unusedSimpArgs false
set_option linter.unusedVariables false
open Go.RowKit

/-- A byte as a value. -/
abbrev B8 (b : UInt8) : Value := .int .u8 (b.toNat : Int)
abbrev W32 (b : UInt32) : Value := .int .u32 (b.toNat : Int)
/-- The cells of bytes. -/
def bcells (bs : List UInt8) : List Value := bs.map B8
@[simp] theorem length_bcells (bs : List UInt8) : (bcells bs).length = bs.length := by simp [bcells]
theorem bcells_append (a b : List UInt8) : bcells (a ++ b) = bcells a ++ bcells b := by simp [bcells]
theorem bcells_get (bs : List UInt8) (j : Nat) : (bcells bs)[j]? = (bs[j]?).map B8 := by simp [bcells]
theorem bcells_one (bs : List UInt8) : ∀ u ∈ bcells bs, u.oneCell' = true := by
  intro u hu; simp only [bcells, List.mem_map] at hu; obtain ⟨b, _, rfl⟩ := hu; rfl

/-- Address A leads to the cells cs, in a block below number B (nothing is asked if there are none). -/
def Row (w : World) (B : Nat) (A : Option Addr) (cs : List Value) : Prop :=
  0 < cs.length → ∃ b o, A = some ⟨b, o, none⟩ ∧ b < B ∧ ∀ j, j < cs.length → w.cell? ⟨b, o + j, none⟩ = cs[j]?

section
variable {w w' : World} {B B' : Nat} {A : Option Addr} {cs : List Value}
theorem Row.nil (w : World) (B : Nat) (A : Option Addr) : Row w B A [] := fun h => absurd h (by simp)
theorem Row.more (h : Row w B A cs) (hB : B ≤ B') : Row w B' A cs := fun hn => by
  obtain ⟨b, o, e, hb, hc⟩ := h hn; exact ⟨b, o, e, by omega, hc⟩
theorem Row.keep (h : Row w B A cs) (hk : ∀ p : Addr, p.block < B → w'.cell? p = w.cell? p) : Row w' B A cs := fun hn => by
  obtain ⟨b, o, e, hb, hc⟩ := h hn; exact ⟨b, o, e, hb, fun j hj => (hk _ hb).trans (hc j hj)⟩
theorem Row.below (h : Row w B A cs) (hb : Below B w w') : Row w' B A cs := h.keep fun _ hp => hb.cell hp
theorem Row.drew (h : Row w B A cs) : Row w.drew B A cs := h
theorem Row.drewN (h : Row w B A cs) (k : Nat) : Row (w.drewN k) B A cs := h
theorem Row.alloc (h : Row w B A cs) (hB : B ≤ w.heap.size) (o : Obj) : Row (w.alloc o) B A cs :=
  h.keep fun p hp => World.cell?_of_block (Below.heap_alloc w o p.block (by omega))
theorem Row.setCell (h : Row w B A cs) {p : Addr} (hp : B ≤ p.block) (u : Value) : Row (w.setCell p u) B A cs :=
  h.keep fun q hq => World.cell?_of_block (Below.heap_setCell w p u q.block (by omega))
/-- The cell that a round reads. -/
theorem Row.at_ (h : Row w B A cs) {j : Nat} (hj : j < cs.length) : ∃ b o, A = some ⟨b, o, none⟩ ∧ b < B ∧ w.cell? ⟨b, o + j, none⟩ = some cs[j] := by
  obtain ⟨b, o, e, hb, hc⟩ := h (by omega)
  exact ⟨b, o, e, hb, by rw [hc j hj, List.getElem?_eq_getElem hj]⟩
theorem Row.take (h : Row w B A cs) (k : Nat) : Row w B A (cs.take k) := fun hn => by
  rw [List.length_take] at hn
  obtain ⟨b, o, e, hb, hc⟩ := h (by omega)
  refine ⟨b, o, e, hb, fun j hj => ?_⟩
  rw [List.length_take] at hj
  rw [hc j (by omega), List.getElem?_take, if_pos (by omega)]
theorem Row.drop {b o : Nat} (h : Row w B (some ⟨b, o, none⟩) cs) (k : Nat) : Row w B (some ⟨b, o + k, none⟩) (cs.drop k) := fun hn => by
  rw [List.length_drop] at hn
  obtain ⟨b', o', e, hb, hc⟩ := h (by omega)
  obtain ⟨rfl, rfl⟩ : b = b' ∧ o = o' := by simpa using e
  refine ⟨b, o + k, rfl, hb, fun j hj => ?_⟩
  rw [List.length_drop] at hj
  rw [Nat.add_assoc, hc (k + j) (by omega), List.getElem?_drop]
end

theorem Row.bdrop {w : World} {B b o : Nat} {bs : List UInt8} (h : Row w B (some ⟨b, o, none⟩) (bcells bs)) (k : Nat) : Row w B (some ⟨b, o + k, none⟩) (bcells (bs.drop k)) := by
  have := h.drop k; rwa [show (bcells bs).drop k = bcells (bs.drop k) by simp [bcells, List.map_drop]] at this
theorem Row.btake {w : World} {B : Nat} {A : Option Addr} {bs : List UInt8} (h : Row w B A (bcells bs)) (k : Nat) : Row w B A (bcells (bs.take k)) := by
  have := h.take k; rwa [show (bcells bs).take k = bcells (bs.take k) by simp [bcells, List.map_take]] at this
theorem Row.byte {w : World} {B : Nat} {b o : Nat} {bs : List UInt8} (h : Row w B (some ⟨b, o, none⟩) (bcells bs)) (j : Nat) (hj : j < bs.length) :
    w.cell? ⟨b, o + j, none⟩ = some (.int .u8 ((bs.getD j 0).toNat : Int)) := by
  obtain ⟨b', o', e, _, hc⟩ := h.at_ (j := j) (by simpa using hj)
  obtain ⟨rfl, rfl⟩ : b = b' ∧ o = o' := by simpa using e
  rw [hc]
  simp [bcells, List.getD, List.getElem?_eq_getElem hj]
theorem ret_int {k : IntKind} {a b : Int} (h : a = b) : Ending.returned (.int k a) = .returned (.int k b) := by rw [h]

/-- A slice of bytes: n of them, capacity c. -/
def Byt (w : World) (B : Nat) (A : Option Addr) (n c : Nat) (bs : List UInt8) : Prop := bs.length = n ∧ n ≤ c ∧ Row w B A (bcells bs)
section
variable {w w' : World} {B B' : Nat} {A : Option Addr} {n c : Nat} {bs : List UInt8}
theorem Byt.below (h : Byt w B A n c bs) (hb : Below B w w') : Byt w' B A n c bs := ⟨h.1, h.2.1, h.2.2.below hb⟩
theorem Byt.more (h : Byt w B A n c bs) (hB : B ≤ B') : Byt w B' A n c bs := ⟨h.1, h.2.1, h.2.2.more hB⟩
theorem Byt.at_ (h : Byt w B A n c bs) (hn : 0 < n) : ∃ b o, A = some ⟨b, o, none⟩ ∧ b < B := by
  obtain ⟨b, o, e, hb, _⟩ := h.2.2 (by rw [length_bcells, h.1]; exact hn)
  exact ⟨b, o, e, hb⟩
end

/-- A block that is known whole: its cells, its element's type, nothing in it frozen. -/
def Blk (w : World) (g : Nat) (t : TypeId) (cs : Array Value) : Prop := w.heap[g]? = some (.cells cs t (0, 0))

section
variable {w w' : World} {g : Nat} {t : TypeId} {cs : Array Value}
theorem Blk.lt (h : Blk w g t cs) : g < w.heap.size := by
  rcases Nat.lt_or_ge g w.heap.size with hlt | hge
  · exact hlt
  · unfold Blk at h; rw [Array.getElem?_eq_none hge] at h; cases h
theorem Blk.cell (h : Blk w g t cs) (i : Nat) : w.cell? ⟨g, i, none⟩ = cs[i]? := by unfold Blk at h; simp [World.cell?, h]
theorem Blk.has (h : Blk w g t cs) (i : Nat) (hi : i < cs.size) : ∃ v, w.cell? ⟨g, i, none⟩ = some v := ⟨cs[i], by rw [h.cell, Array.getElem?_eq_getElem hi]⟩
theorem Blk.frozen (h : Blk w g t cs) (i : Nat) : w.frozen? ⟨g, i, none⟩ = false := by unfold Blk at h; simp [World.frozen?, h]
theorem Blk.below {B : Nat} (h : Blk w g t cs) (hb : Below B w w') (hg : g < B) : Blk w' g t cs := (hb.block g hg).trans h
theorem Blk.alloc (h : Blk w g t cs) (o : Obj) : Blk (w.alloc o) g t cs := (Below.heap_alloc w o g h.lt).trans h
theorem Blk.drew (h : Blk w g t cs) : Blk w.drew g t cs := h
theorem Blk.drewN (h : Blk w g t cs) (k : Nat) : Blk (w.drewN k) g t cs := h
theorem Blk.new (w : World) (t : TypeId) (cs : Array Value) : Blk (w.alloc (.cells cs t)) w.heap.size t cs := heap_alloc_new w _
theorem Blk.new' (w : World) {t : TypeId} {cs cs' : Array Value} {g : Nat} (hg : g = w.heap.size) (hc : cs = cs') : Blk (w.alloc (.cells cs t)) g t cs' := by subst hg hc; exact Blk.new w t cs
theorem Blk.set (h : Blk w g t cs) (i : Nat) (u : Value) : Blk (w.setCell ⟨g, i, none⟩ u) g t (cs.setIfInBounds i u) := by
  unfold Blk at h ⊢; simp [World.setCell, Array.getElem?_modify, h]
theorem Blk.far (h : Blk w g t cs) {p : Addr} (hp : g ≠ p.block) (u : Value) : Blk (w.setCell p u) g t cs := (Below.heap_setCell w p u g hp).trans h
theorem Blk.row (h : Blk w g t cs) : Row w w.heap.size (some ⟨g, 0, none⟩) cs.toList := fun _ =>
  ⟨g, 0, rfl, h.lt, fun j _ => by rw [h.cell (0 + j)]; simp⟩
end

theorem Below.drewN {B : Nat} {a w : World} (h : Below B a w) (k : Nat) : Below B a (w.drewN k) := ⟨h.os, h.tape, h.output, h.size, h.block⟩
theorem Below.setRow {B : Nat} {a w : World} (h : Below B a w) {g : Nat} (hg : B ≤ g) (cs : Array Value) : Below B a (w.setRow g cs) :=
  h.trans ⟨rfl, rfl, rfl, by simp, fun k hk => setRow_other w g k cs (by omega)⟩
theorem Blk.setRow {w : World} {g : Nat} {t : TypeId} {cs : Array Value} (h : Blk w g t cs) (cs' : Array Value) : Blk (w.setRow g cs') g t cs' := setRow_heap w g cs cs' t (0, 0) h
theorem Blk.setRow_far {w : World} {g g' : Nat} {t : TypeId} {cs : Array Value} (h : Blk w g t cs) (hne : g ≠ g') (cs' : Array Value) : Blk (w.setRow g' cs') g t cs := (setRow_other w g' g cs' hne).trans h

theorem Row.new (w : World) {t : TypeId} {cs : Array Value} {l : List Value} (h : cs.toList = l) : Row (w.alloc (.cells cs t)) (w.heap.size + 1) (some ⟨w.heap.size, 0, none⟩) l := by
  have := (Blk.new w t cs).row
  rw [h] at this
  simpa using this

/-- Bytes that are all zero, as cells. -/
def zs (n : Nat) : List UInt8 := List.replicate n 0
theorem zs_length (n : Nat) : (zs n).length = n := by simp [zs]
def zc (n : Nat) : Array Value := (bcells (zs n)).toArray
theorem byt_blk {w : World} {g B n : Nat} {t : TypeId} {bs : List UInt8} (h : Blk w g t (bcells bs).toArray) (hB : g < B) (hn : bs.length = n) : Byt w B (some ⟨g, 0, none⟩) n n bs :=
  ⟨hn, Nat.le_refl _, fun _ => ⟨g, 0, rfl, hB, fun j _ => by rw [h.cell (0 + j)]; simp⟩⟩
theorem byt_zc {w : World} {g B n : Nat} {t : TypeId} (h : Blk w g t (zc n)) (hB : g < B) : Byt w B (some ⟨g, 0, none⟩) n n (zs n) :=
  byt_blk h hB (zs_length n)

/-- A slice value of the call's own: n elements of s cells each, capacity c, in a block from 'base' on (a slice without capacity may point anywhere). -/
def Own (w : World) (base : Nat) (t : TypeId) (s : Nat) (A : Option Addr) (n c : Nat) (cs : List Value) : Prop :=
  cs.length = n * s ∧ n ≤ c ∧ c ≤ maxLen ∧ (0 < c → ∃ g cur, A = some ⟨g, 0, none⟩ ∧ base ≤ g ∧ w.heap[g]? = some (.cells cur t (0, 0)) ∧ c * s ≤ cur.size ∧ cur.toList.take (n * s) = cs)

/-- The block that an append to the slice may write. -/
def ownAt (A : Option Addr) (c : Nat) : Option Nat := if c = 0 then none else A.map (·.block)

section
variable {w w' : World} {base : Nat} {t : TypeId} {s : Nat} {A : Option Addr} {n c : Nat} {cs : List Value}
theorem Own.none_ (w : World) (base : Nat) (t : TypeId) (s : Nat) (A : Option Addr) : Own w base t s A 0 0 [] :=
  ⟨by simp, Nat.le_refl _, Nat.zero_le _, fun h => absurd h (by omega)⟩
theorem Own.len (h : Own w base t s A n c cs) : cs.length = n * s := h.1
theorem Own.le (h : Own w base t s A n c cs) : n ≤ c := h.2.1
theorem Own.max (h : Own w base t s A n c cs) : c ≤ maxLen := h.2.2.1
theorem Own.mono {base' : Nat} (h : Own w base t s A n c cs) (hb : base' ≤ base) : Own w base' t s A n c cs :=
  ⟨h.1, h.2.1, h.2.2.1, fun hc => by obtain ⟨g, cur, e, hg, r⟩ := h.2.2.2 hc; exact ⟨g, cur, e, by omega, r⟩⟩
theorem Own.row (h : Own w base t s A n c cs) : Row w w.heap.size A cs := fun hn => by
  obtain ⟨hl, hnc, _, hc⟩ := h
  have hn0 : 0 < n := by
    rcases Nat.eq_zero_or_pos n with h0 | h0
    · subst h0; simp at hl; simp [hl] at hn
    · exact h0
  obtain ⟨g, cur, e, hg, hh, hs, ht⟩ := hc (by omega)
  refine ⟨g, 0, e, (Array.getElem?_eq_some_iff.1 hh).1, fun j hj => ?_⟩
  rw [← ht] at hj ⊢
  rw [List.length_take] at hj
  rw [List.getElem?_take, if_pos (by omega)]
  simp [World.cell?, hh]
theorem Own.byt {bs : List UInt8} {m : Nat} (h : Own w base t 1 A m c (bcells bs)) {B : Nat} (hB : w.heap.size ≤ B) : Byt w B A m c bs :=
  ⟨by have := h.1; simpa using this, h.2.1, h.row.more hB⟩
theorem Own.kept (h : Own w base t s A n c cs) {row : Option Nat} (hg : w.grownBy w' row) (hne : c = 0 ∨ ∀ g, A.map (·.block) = some g → row ≠ some g) : Own w' base t s A n c cs := by
  refine ⟨h.1, h.2.1, h.2.2.1, fun hc => ?_⟩
  obtain ⟨g, cur, e, hb, hh, r⟩ := h.2.2.2 hc
  refine ⟨g, cur, e, hb, ?_, r⟩
  rw [hg.block g (Array.getElem?_eq_some_iff.1 hh).1 ?_]; · exact hh
  rcases hne with h0 | h0
  · omega
  · have := h0 g (by rw [e]; rfl); exact fun e' => this e'.symm
/-- What the call owns stays its own while nothing that exists is written. -/
theorem Own.below (h : Own w base t s A n c cs) (hb : Below w.heap.size w w') : Own w' base t s A n c cs := by
  refine ⟨h.1, h.2.1, h.2.2.1, fun hc => ?_⟩
  obtain ⟨g, cur, e, hg, hh, r⟩ := h.2.2.2 hc
  exact ⟨g, cur, e, hg, (hb.block g (Array.getElem?_eq_some_iff.1 hh).1).trans hh, r⟩
theorem Own.alloc (h : Own w base t s A n c cs) (o : Obj) : Own (w.alloc o) base t s A n c cs := h.below ((Below.refl _ _).alloc (Nat.le_refl _) o)
theorem Own.drew (h : Own w base t s A n c cs) : Own w.drew base t s A n c cs := h
theorem Own.drewN (h : Own w base t s A n c cs) (k : Nat) : Own (w.drewN k) base t s A n c cs := h
/-- A slice over a block that has just been made whole. -/
theorem Own.blk {g : Nat} {cur : Array Value} (hb : Blk w g t cur) (hg : base ≤ g) (hn : n ≤ c) (hm : c ≤ maxLen) (hc : c * s ≤ cur.size) (hs : n * s ≤ cur.size) :
    Own w base t s (some ⟨g, 0, none⟩) n c (cur.toList.take (n * s)) :=
  ⟨by rw [List.length_take, Array.length_toList]; omega, hn, hm, fun _ => ⟨g, cur, rfl, hg, hb, hc, rfl⟩⟩
theorem Own.lt (h : Own w base t s A n c cs) : ∀ g, ownAt A c = some g → base ≤ g ∧ g < w.heap.size := by
  intro g hg
  unfold ownAt at hg
  split at hg
  · cases hg
  · obtain ⟨g', cur, e, hb, hh, _⟩ := h.2.2.2 (by omega)
    subst e
    simp only [Option.map_some, Option.some.injEq] at hg
    subst hg
    exact ⟨hb, (Array.getElem?_eq_some_iff.1 hh).1⟩
end

/-- One element of a slice of the call's own (an element a cell): where it lies, and what a store makes of it. -/
theorem Own.elem {w : World} {base : Nat} {t : TypeId} {A : Option Addr} {n c : Nat} {cs : List Value} (h : Own w base t 1 A n c cs) {i : Nat} (hi : i < n) :
    ∃ g, A = some ⟨g, 0, none⟩ ∧ base ≤ g ∧ g < w.heap.size ∧ w.cell? ⟨g, i, none⟩ = cs[i]? ∧ w.frozen? ⟨g, i, none⟩ = false ∧ ∀ v, Own (w.setCell ⟨g, i, none⟩ v) base t 1 A n c (cs.set i v) := by
  obtain ⟨hl, hnc, hm, hc⟩ := h
  obtain ⟨g, cur, e, hb, hh, hs, ht⟩ := hc (by omega)
  have hB : Blk w g t cur := hh
  refine ⟨g, e, hb, hB.lt, ?_, hB.frozen i, fun v => ⟨by rw [List.length_set]; exact hl, hnc, hm, fun _ => ⟨g, _, e, hb, hB.set i v, by simpa using hs, ?_⟩⟩⟩
  · rw [hB.cell, ← ht, List.getElem?_take, if_pos (by omega)]; simp
  · rw [Array.toList_setIfInBounds, List.take_set, ht]

/-- Behind an append onto a slice of the call's own nothing below 'base' has turned. -/
theorem Own.grown {w w2 a : World} {base : Nat} {t : TypeId} {s : Nat} {A : Option Addr} {n c : Nat} {cs : List Value} (h : Own w base t s A n c cs) (hg : w.grownBy w2 (ownAt A c)) (hb : Below base a w) (hbase : base ≤ w.heap.size) : Below base a w2 :=
  hb.grown hg hbase fun k hk => (h.lt k hk).1

section
variable {P : Program} (w : World)

theorem append_same (t ty e : TypeId) (i : TypeInfo) (ht : P.underlying t = some (.slice e)) (hi : P.info? e = some i) (A : Option Addr) (n c : Nat) (A' : Option Addr) (c' : Nat) (hnc : n ≤ c) :
    (Builtin.append_ #[t, t] ty #[.slice A n c, .slice A' 0 c']).run P w = .ok (.slice A n c) w := by
  cases A <;> cases A' <;> simp [Builtin.append_, run_underlying ht, sizeOf, typeInfo, hi, Builtin.lenOf, Builtin.firstCells, hnc, loadCells, loadCellsFrom, storeCells]

theorem add_eq (b o j : Nat) : (⟨b, o, none⟩ : Addr).add j = ⟨b, o + j, none⟩ := by unfold Addr.add; split <;> simp_all

theorem run_append (base : Nat) (t ty e : TypeId) (i : TypeInfo) (z : Value) (s bytes : Nat) (ht : P.underlying t = some (.slice e)) (hi : P.info? e = some i) (hz : i.zero = some z)
    (hsize : i.size = s) (hby : i.bytes = bytes) (hzs : z.cells.size = s) (hsz : 0 < s)
    (A : Option Addr) (n c : Nat) (cs : List Value) (hown : Own w base e s A n c cs)
    (B : Nat) (A' : Option Addr) (m c' : Nat) (news : List Value) (hr : Row w B A' news) (hl : news.length = m * s) (h1 : ∀ u ∈ news, u.oneCell' = true)
    (h63 : n + m ≤ maxLen) (hbytes : (n + m) * bytes ≤ 140737488355328) (hbase : base ≤ w.heap.size) :
    ∃ A2 c2 w2, (Builtin.append_ #[t, t] ty #[.slice A n c, .slice A' m c']).run P w = .ok (.slice A2 (n + m) c2) w2 ∧ Own w2 base e s A2 (n + m) c2 (cs ++ news) ∧ w.grownBy w2 (ownAt A c) ∧
      (ownAt A2 c2 = ownAt A c ∨ ownAt A2 c2 = some w.heap.size) := by
  subst hsize
  subst hby
  obtain ⟨hlen, hnc, hcm, hc⟩ := hown
  have hsmall : n + m ≤ 9223372036854775807 := by simp only [maxLen] at h63; omega
  rcases Nat.eq_zero_or_pos m with rfl | hm
  · have hn : news = [] := List.eq_nil_of_length_eq_zero (by simpa using hl)
    subst hn
    exact ⟨A, c, w, append_same w t ty e i ht hi A n c A' c' hnc, ⟨by simpa using hlen, hnc, hcm, by simpa using hc⟩, ⟨rfl, rfl, rfl, Nat.le_refl _, fun _ _ _ => rfl⟩, .inl rfl⟩
  have hnl : 0 < news.length := by rw [hl]; exact Nat.mul_pos hm hsz
  obtain ⟨b, o, rfl, _, hcell⟩ := hr hnl
  have hnews : ∀ j u, news[j]? = some u → w.cell? ((⟨b, o, none⟩ : Addr).add j) = some u := by
    intro j u hu
    have hj : j < news.length := (List.getElem?_eq_some_iff.1 hu).1
    rw [add_eq, hcell j hj]; exact hu
  have hlen2 : (cs ++ news).length = (n + m) * i.size := by rw [List.length_append, hlen, hl, Nat.add_mul]
  have grown : ∀ (old : Nat), old < n + m → ∀ (row : Option Nat),
      Own (w.drew.alloc (.cells (cs.toArray ++ news.toArray ++ Builtin.zeroCells z.cells (grownCap w (n + m) old e - (n + m))) e)) base e i.size
        (some ⟨w.heap.size, 0, none⟩) (n + m) (grownCap w (n + m) old e) (cs ++ news) ∧
      w.grownBy (w.drew.alloc (.cells (cs.toArray ++ news.toArray ++ Builtin.zeroCells z.cells (grownCap w (n + m) old e - (n + m))) e)) row ∧ 0 < grownCap w (n + m) old e := by
    intro old ho row
    have hge := grownCap_ge w (n + m) old e
    have hcm := grownCap_le_maxLen w (n + m) old e h63
    refine ⟨⟨hlen2, hge, hcm, fun _ => ⟨w.heap.size, _, rfl, hbase, heap_alloc_new w.drew _, ?_, ?_⟩⟩, ⟨rfl, rfl, rfl, by simp, fun k hk _ => Below.heap_alloc w.drew _ k hk⟩, by omega⟩
    · refine Nat.le_of_eq ?_
      simp only [Array.size_append, List.size_toArray, size_zeroCells, hzs, hlen, hl, ← Nat.add_mul]
      congr 1
      omega
    · simp only [Array.toList_append, List.append_assoc]
      rw [← List.append_assoc, ← hlen2]
      exact List.take_left
  rcases Nat.eq_zero_or_pos c with rfl | hc0
  · obtain rfl : n = 0 := by omega
    have hcs : cs = [] := List.eq_nil_of_length_eq_zero (by simpa using hlen)
    subst hcs
    have hgr := grown 0 (by omega) (ownAt A 0)
    cases A with
    | none =>
      have hr := run_append_nil (P := P) w t ty e i z ht hi hz ⟨b, o, none⟩ m c' news hl hnews hm (by omega) (by have hb := hbytes; simp only [Nat.zero_add] at hb; omega)
      simp only [Nat.zero_add, List.nil_append, Array.empty_append] at hgr ⊢
      exact ⟨_, _, _, hr, hgr.1, hgr.2.1, .inr (by have := hgr.2.2; simp [ownAt]; omega)⟩
    | some ad =>
      have hr := run_append_grow (P := P) w t ty e i z ht hi hz ad 0 0 [] (by simp) (by simp) ⟨b, o, none⟩ m c' news hl hnews (by omega) (by omega) (growslice_fits (by omega) hbytes)
      simp only [Nat.zero_add, List.nil_append, Array.empty_append] at hr hgr ⊢
      exact ⟨_, _, _, hr, hgr.1, hgr.2.1, .inr (by have := hgr.2.2; simp [ownAt]; omega)⟩
  · obtain ⟨g, cur, rfl, hbg, hg, hcs, htake⟩ := hc hc0
    by_cases hroom : n + m ≤ c
    · have hfit : n * i.size + news.length ≤ cur.size := by
        rw [hl, ← Nat.add_mul]; exact Nat.le_trans (Nat.mul_le_mul_right _ hroom) hcs
      have hr := run_append_room (P := P) w t ty e i ht hi g n c cur hg ⟨b, o, none⟩ m c' news hl hnews h1 hroom hfit
      refine ⟨_, _, _, hr, ⟨hlen2, hroom, hcm, fun _ => ⟨g, _, rfl, hbg, setRow_heap w g cur _ e _ hg, ?_, ?_⟩⟩, ⟨rfl, rfl, rfl, by simp, fun k hk hne => setRow_other w g k _ (fun e => hne (by simp [ownAt, e]; omega))⟩, .inl rfl⟩
      · simp only [List.size_toArray, List.length_append, List.length_take, List.length_drop, Array.length_toList]
        omega
      · rw [htake, ← hlen2]
        exact List.take_left
    · have holds : ∀ j u, cs[j]? = some u → w.cell? ((⟨g, 0, none⟩ : Addr).add j) = some u := by
        intro j u hu
        rw [add_eq, Nat.zero_add, cell_of_row w g j cur e (0, 0) hg]
        rw [← htake, List.getElem?_take] at hu
        split at hu
        · simpa using hu
        · cases hu
      have hr := run_append_grow (P := P) w t ty e i z ht hi hz ⟨g, 0, none⟩ n c cs hlen holds ⟨b, o, none⟩ m c' news hl hnews (by omega) (by omega) (growslice_fits (by omega) hbytes)
      have hgr := grown c (by omega) (ownAt (some ⟨g, 0, none⟩) c)
      exact ⟨_, _, _, hr, hgr.1, hgr.2.1, .inr (by have := hgr.2.2; simp [ownAt]; omega)⟩

theorem wp_append {o : Oper} {a : Act} {K : Act → World → Prop} {Q : Exit → Act → World → Prop} (x y : Operand) (t : TypeId)
    (ho : o.op = .call { callee := .builtin .append, args := #[x, y], argTypes := #[t, t] })
    (base : Nat) (e : TypeId) (i : TypeInfo) (z : Value) (s bytes : Nat) (ht : P.underlying t = some (.slice e)) (hi : P.info? e = some i) (hz : i.zero = some z)
    (hsize : i.size = s) (hby : i.bytes = bytes) (hzs : z.cells.size = s) (hsz : 0 < s)
    (A : Option Addr) (n c : Nat) (cs : List Value) (hx : a.eval x = .slice A n c) (hown : Own w base e s A n c cs)
    (B : Nat) (A' : Option Addr) (m c' : Nat) (news : List Value) (hy : a.eval y = .slice A' m c') (hr : Row w B A' news) (hl : news.length = m * s) (h1 : ∀ u ∈ news, u.oneCell' = true)
    (h63 : n + m ≤ maxLen) (hbytes : (n + m) * bytes ≤ 140737488355328) (hbase : base ≤ w.heap.size)
    (h : ∀ A2 c2 w2, Own w2 base e s A2 (n + m) c2 (cs ++ news) → w.grownBy w2 (ownAt A c) → (ownAt A2 c2 = ownAt A c ∨ ownAt A2 c2 = some w.heap.size) → K (a.put o.dst (.slice A2 (n + m) c2)) w2) : o.wp P a w K Q := by
  obtain ⟨A2, c2, w2, hrun, h2, h3, h4⟩ := run_append (P := P) w base t o.type e i z s bytes ht hi hz hsize hby hzs hsz A n c cs hown B A' m c' news hr hl h1 h63 hbytes hbase
  unfold Oper.wp execOp
  simp only [ho, resolve, invoke, builtin, Sem.run_bind, Sem.run_pure, Result.andThen_ok, List.map_toArray, List.map_cons, List.map_nil, hx, hy, hrun]
  exact h A2 c2 w2 h2 h3 h4

theorem wpList_append {ops : Array Oper} {rest : List Oper} {o : Oper} {a : Act} {Q : Exit → Act → World → Prop} (hgd : o.guard = none) (x y : Operand) (t : TypeId)
    (ho : o.op = .call { callee := .builtin .append, args := #[x, y], argTypes := #[t, t] })
    (base : Nat) (e : TypeId) (i : TypeInfo) (z : Value) (s bytes : Nat) (ht : P.underlying t = some (.slice e)) (hi : P.info? e = some i) (hz : i.zero = some z)
    (hsize : i.size = s) (hby : i.bytes = bytes) (hzs : z.cells.size = s) (hsz : 0 < s)
    (A : Option Addr) (n c : Nat) (cs : List Value) (hx : a.eval x = .slice A n c) (hown : Own w base e s A n c cs)
    (B : Nat) (A' : Option Addr) (m c' : Nat) (news : List Value) (hy : a.eval y = .slice A' m c') (hr : Row w B A' news) (hl : news.length = m * s) (h1 : ∀ u ∈ news, u.oneCell' = true)
    (h63 : n + m ≤ maxLen) (hbytes : (n + m) * bytes ≤ 140737488355328) (hbase : base ≤ w.heap.size)
    (h : ∀ A2 c2 w2, Own w2 base e s A2 (n + m) c2 (cs ++ news) → w.grownBy w2 (ownAt A c) → (ownAt A2 c2 = ownAt A c ∨ ownAt A2 c2 = some w.heap.size) → wpList P ops Q rest (a.put o.dst (.slice A2 (n + m) c2)) w2) : wpList P ops Q (o :: rest) a w :=
  wpList_plain hgd fun _ hK => wp_append w x y t ho base e i z s bytes ht hi hz hsize hby hzs hsz A n c cs hx hown B A' m c' news hy hr hl h1 h63 hbytes hbase fun A2 c2 w2 h2 h3 h4 => hK _ _ (h A2 c2 w2 h2 h3 h4)
end

/-! ### A region that draws its order: quiet operations, then a tail whose order is forced -/
section
variable {P : Program} {ops : Array Oper} {md : Region.Mode} {C : World → Prop}

/-- The head alone, whatever order is picked, in worlds of the class. -/
def headQ (P : Program) (md : Region.Mode) (ops : Array Oper) (C : World → Prop) (n : Nat) (L : Array Bool → Act → Prop) : Nat → Array Bool → Act → Prop
  | 0, listed, a => L listed a
  | f + 1, listed, a =>
    Region.ready md ops listed ≠ [] ∧ ∀ i ∈ Region.ready md ops listed, i < n ∧ qOp P ops C i (headQ P md ops C n L f (listed.setIfInBounds i true)) a

theorem wpAny_of_headQ {n g : Nat} {L : Array Bool → Act → Prop} {Q' : Exit → Act → World → Prop} (hL : ∀ listed a w, C w → L listed a → wpAny P md ops Q' g listed a w) :
    ∀ (f : Nat) (listed : Array Bool) (a : Act) (w : World), C w → headQ P md ops C n L f listed a → wpAny P md ops Q' (f + g) listed a w
  | 0, listed, a, w, hw, h => by rw [Nat.zero_add]; exact hL _ _ _ hw h
  | f + 1, listed, a, w, hw, h => by
    rw [show f + 1 + g = (f + g) + 1 by omega]
    exact ⟨fun h0 => absurd h0 h.1, fun i hi => wpOp_of_qOp hw (fun a' w' hw' h' => wpAny_of_headQ hL f _ a' w' hw' h') (h.2 i hi).2⟩

theorem headQ_first {n i : Nat} {oi : Oper} {v : Value} {L : Array Bool → Act → Prop} (hi : ops[i]? = some oi) (hsel : ∀ (j : Nat) (o : Oper) cs b, ops[j]? = some o → o.op ≠ .select cs b)
    (hs : Region.sinkB md ops n = true) (hc : Region.chainB md ops n = true) (hn : n < ops.size) (hin : i < n)
    (hdone : ∀ listed a, L listed a → ∀ j ∈ Region.ready md ops listed, n ≤ j) :
    ∀ (f : Nat) (listed : Array Bool) (a : Act), HeadInv md ops n listed →
      (∀ j oj, ops[j]? = some oj → j ≠ i → listed.getD j true = false → (∀ e ∈ oj.after, Region.binds md e = true → e.on ≠ i) → oi.apart ops oj = true) →
      i ∈ Region.ready md ops listed → YieldsIn P ops C oi v a →
      headQ P md ops C n L f (listed.setIfInBounds i true) (a.put oi.dst v) → headQ P md ops C n L (f + 1) listed a := by
  intro f
  induction f with
  | zero =>
    intro listed a inv hfree hr hy H
    refine ⟨fun h => (by rw [h] at hr; cases hr), fun j hj => ?_⟩
    have hjn : j < n := by
      rcases Nat.lt_or_ge j n with h | h
      · exact h
      · exact absurd hj (tail_waits hs hc hn inv _ i rfl hin (mem_ready.1 hr).1 j h)
    by_cases hji : j = i
    · subst hji; exact ⟨hjn, hy.qOp hi H⟩
    · have := hdone _ _ H j (ready_mono hj hji)
      omega
  | succ f ih =>
    intro listed a inv hfree hr hy H
    refine ⟨fun h => (by rw [h] at hr; cases hr), fun j hj => ?_⟩
    have hjn : j < n := by
      rcases Nat.lt_or_ge j n with h | h
      · exact h
      · exact absurd hj (tail_waits hs hc hn inv _ i rfl hin (mem_ready.1 hr).1 j h)
    by_cases hji : j = i
    · subst hji; exact ⟨hjn, hy.qOp hi H⟩
    · refine ⟨hjn, ?_⟩
      have h1 := (H.2 j (ready_mono hj hji)).2
      obtain ⟨hjun, oj, hoj, hall⟩ := mem_ready.1 hj
      have hnot : ∀ e ∈ oj.after, Region.binds md e = true → e.on ≠ i := fun e he hb heq => by
        have h1 := hall e he hb
        have h0 := (mem_ready.1 hr).1
        rw [heq] at h1
        rcases Nat.lt_or_ge i listed.size with h' | h'
        · simp [h'] at h0 h1; rw [h0] at h1; cases h1
        · simp [Array.getElem?_eq_none h'] at h1
      have h2 := qOp_put hoj (hfree j oj hoj hji hjun hnot) (fun cs b => hsel i oi cs b hi) (fun cs b => hsel j oj cs b hoj) hy h1
      have hfree' : ∀ k ok, ops[k]? = some ok → k ≠ i → (listed.setIfInBounds j true).getD k true = false →
          (∀ e ∈ ok.after, Region.binds md e = true → e.on ≠ i) → oi.apart ops ok = true := fun k ok hk hki hun hno => by
        refine hfree k ok hk hki ?_ hno
        by_cases hjk : j = k
        · subst hjk; exact hjun
        · rw [getD_set_ne true hjk] at hun; exact hun
      refine qOp_mono (fun a' h3 => ih (listed.setIfInBounds j true) a' (inv.set hj hjn) hfree' (ready_mono hr (Ne.symm hji)) h3.1 ?_) h2
      rw [Array.setIfInBounds_comm _ _ hji]
      exact h3.2

theorem headQ_lex {n g : Nat} {Lq : Act → Prop} (hsel : Region.noSelect ops = true) (hs : Region.sinkB md ops n = true) (hc : Region.chainB md ops n = true) (hn : n < ops.size) :
    ∀ (l : List Oper) (k : Nat) (listed : Array Bool) (a : Act), (∀ j, j < l.length → l[j]? = ops[k + j]?) → k + l.length = n → HeadInv md ops n listed →
    Region.lexHead md ops g l.length k listed = true → wpQuiet P ops C Lq l a →
    headQ P md ops C n (fun listed' a' => Region.seqB md ops g n listed' = true ∧ Lq a') l.length listed a
  | [], k, listed, a, _, hk, _, hB, h => by
    have : k = n := by simpa using hk
    subst this
    exact ⟨by simpa [Region.lexHead] using hB, h⟩
  | o :: l, k, listed, a, hl, hk, inv, hB, h => by
    have h0 : ops[k]? = some o := by simpa using (hl 0 (by simp)).symm
    simp only [List.length_cons, Region.lexHead, Bool.and_eq_true] at hB
    obtain ⟨⟨hr, hf⟩, hB'⟩ := hB
    have hkn : k < n := by simp only [List.length_cons] at hk; omega
    have hr' : k ∈ Region.ready md ops listed := by simpa using hr
    have hst : qOp P ops C k (wpQuiet P ops C Lq l) a := by unfold qOp; simp only [h0]; exact h
    obtain ⟨v, hy, hK⟩ := yieldsIn_of_qOp h0 hst
    exact headQ_first h0 (Region.noSelect_spec hsel) hs hc hn hkn (fun listed' a' hL => seqB_ready hL.1) l.length listed a inv (Region.free_spec h0 hf) hr' hy
      (headQ_lex hsel hs hc hn l (k + 1) _ _ (fun j hj => by have := hl (j + 1) (by simp; omega); simpa [Nat.add_assoc, Nat.add_comm 1 j] using this) (by simp only [List.length_cons] at hk; omega) (inv.set hr' hkn) hB' hK)

/-- Quiet operations in whatever order, then the tail from operation n on, in its own order. -/
theorem wp_region_quiet_tail {id : Nat} {Q : Exit → Act → World → Prop} {a : Act} {w : World} {l : List Oper} (n : Nat) (hm : P.follows .mixedOrders = true) (hB : Region.lexTailB .any l.toArray n = true)
    (h : wpQuiet P l.toArray (fun w' => ∃ k, w' = w.drewN k) (fun a' => ∀ w', (∃ k, w' = w.drewN k) → wpList P l.toArray Q (l.drop n) a' w') (l.take n) a) : (Code.region id l.toArray true).wp P Q a w := by
  simp only [Region.lexTailB, Bool.and_eq_true, decide_eq_true_eq] at hB
  obtain ⟨⟨⟨⟨hsel, hn⟩, hs⟩, hc⟩, hlex⟩ := hB
  have hn' : n < l.length := by simpa using hn
  have htl : (l.take n).length = n := by simp; omega
  have hdl : (l.drop n).length = l.toArray.size - n := by simp
  have inv0 : HeadInv .any l.toArray n (Array.replicate l.toArray.size false) :=
    ⟨by simp, fun j oj _ hl => (by rw [getD_replicate_false] at hl; cases hl), fun t _ ht => getD_in (by simpa using ht) (getD_replicate_false _ _)⟩
  have H := headQ_lex (C := fun w' => ∃ k, w' = w.drewN k) (md := .any) (g := l.toArray.size - n) hsel hs hc hn (l.take n) 0 _ a (fun j hj => by
    have hj' : j < n := by rw [htl] at hj; exact hj
    simp [hj']) (by simpa using htl) inv0 (by rw [htl]; exact hlex) h
  refine wp_region_any hm ?_
  have := wpAny_of_headQ (C := fun w' => ∃ k, w' = w.drewN k) (Q' := Q) (g := l.toArray.size - n) (fun listed a' w' hw' hL => by
    have := wpAny_of_seq (md := .any) (Q' := Q) (l.drop n) n listed a' w' (fun j => by simp [List.getElem?_drop]) (by rw [hdl]; exact hL.1) (hL.2 w' hw')
    rwa [hdl] at this) _ _ _ _ ⟨1, rfl⟩ H
  rw [htl] at this
  rwa [show n + (l.toArray.size - n) = l.toArray.size by simp; omega] at this
end
end Go.Proofs.Ytpacdjkikbdkeaa
end

section
namespace Go.Proofs.Ytpacdjkikbdkeaa
set_option maxRecDepth 100000
set_option linter.unusedSimpArgs false
set_option linter.unusedVariables false
open Go.RowKit

/-- From w to w' only blocks that meet R, and new ones, may have turned. -/
structure Only (R : Nat → Prop) (w w' : World) : Prop where
  os : w'.os = w.os
  tape : w'.tape = w.tape
  output : w'.output = w.output
  size : w.heap.size ≤ w'.heap.size
  block : ∀ k, k < w.heap.size → ¬ R k → w'.heap[k]? = w.heap[k]?

section
variable {R R' : Nat → Prop} {w w' w'' a : World}
theorem Only.refl (R : Nat → Prop) (w : World) : Only R w w := ⟨rfl, rfl, rfl, Nat.le_refl _, fun _ _ _ => rfl⟩
theorem Only.trans (h : Only R w w') (k : Only R w' w'') : Only R w w'' :=
  ⟨k.os.trans h.os, k.tape.trans h.tape, k.output.trans h.output, Nat.le_trans h.size k.size, fun i hi hn => (k.block i (Nat.lt_of_lt_of_le hi h.size) hn).trans (h.block i hi hn)⟩
theorem Only.mono (h : Only R w w') (hR : ∀ k, k < w.heap.size → R k → R' k) : Only R' w w' := ⟨h.os, h.tape, h.output, h.size, fun k hk hn => h.block k hk fun hr => hn (hR k hk hr)⟩
theorem Only.setCell (h : Only R a w) {p : Addr} (hp : R p.block) (u : Value) : Only R a (w.setCell p u) :=
  ⟨h.os, h.tape, h.output, by simp [World.setCell]; exact h.size, fun k hk hn => (Below.heap_setCell w p u k (fun e => hn (by rw [e]; exact hp))).trans (h.block k hk hn)⟩
theorem Only.setRow (h : Only R a w) {g : Nat} (hg : R g) (cs : Array Value) : Only R a (w.setRow g cs) :=
  ⟨h.os, h.tape, h.output, by simp; exact h.size, fun k hk hn => (setRow_other w g k cs (fun e => hn (by rw [e]; exact hg))).trans (h.block k hk hn)⟩
theorem Only.alloc (h : Only R a w) (o : Obj) : Only R a (w.alloc o) :=
  ⟨h.os, h.tape, h.output, by simp; have := h.size; omega, fun k hk hn => (Below.heap_alloc w o k (Nat.lt_of_lt_of_le hk h.size)).trans (h.block k hk hn)⟩
theorem Only.drew (h : Only R a w) : Only R a w.drew := ⟨h.os, h.tape, h.output, h.size, h.block⟩
theorem Only.drewN (h : Only R a w) (k : Nat) : Only R a (w.drewN k) := ⟨h.os, h.tape, h.output, h.size, h.block⟩
theorem Only.of_below (h : Below w.heap.size w w') : Only R w w' := ⟨h.os, h.tape, h.output, h.size, fun k hk _ => h.block k hk⟩
theorem Only.below (h : Only R w w') {B : Nat} (hB : B ≤ w.heap.size) (hR : ∀ k, k < B → ¬ R k) : Below B w w' :=
  ⟨h.os, h.tape, h.output, h.size, fun k hk => h.block k (Nat.lt_of_lt_of_le hk hB) (hR k hk)⟩
theorem Only.grown (h : Only R a w) {row : Option Nat} (hg : w.grownBy w' row) (hr : ∀ k, row = some k → R k) : Only R a w' :=
  ⟨hg.os.trans h.os, hg.tape.trans h.tape, hg.output.trans h.output, Nat.le_trans h.size hg.size, fun k hk hn =>
    (hg.block k (Nat.lt_of_lt_of_le hk h.size) (fun e => hn (hr k e.symm))).trans (h.block k hk hn)⟩
theorem Blk.only {g : Nat} {t : TypeId} {cs : Array Value} (h : Blk w g t cs) (ho : Only R w w') (hg : ¬ R g) : Blk w' g t cs := (ho.block g h.lt hg).trans h
theorem Own.only {base : Nat} {t : TypeId} {s : Nat} {A : Option Addr} {n c : Nat} {cs : List Value} (h : Own w base t s A n c cs) (ho : Only R w w') (hg : ∀ g, A.map (·.block) = some g → ¬ R g) : Own w' base t s A n c cs := by
  refine ⟨h.1, h.2.1, h.2.2.1, fun hc => ?_⟩
  obtain ⟨g, cur, e, hb, hh, r⟩ := h.2.2.2 hc
  exact ⟨g, cur, e, hb, (ho.block g (Array.getElem?_eq_some_iff.1 hh).1 (hg g (by rw [e]; rfl))).trans hh, r⟩
theorem Own.setCell {base : Nat} {t : TypeId} {s : Nat} {A : Option Addr} {n c : Nat} {cs : List Value} (h : Own w base t s A n c cs) {p : Addr} (hp : ∀ g, A.map (·.block) = some g → g ≠ p.block) (u : Value) : Own (w.setCell p u) base t s A n c cs := by
  refine ⟨h.1, h.2.1, h.2.2.1, fun hc => ?_⟩
  obtain ⟨g, cur, e, hb, hh, r⟩ := h.2.2.2 hc
  exact ⟨g, cur, e, hb, (Below.heap_setCell w p u g (hp g (by rw [e]; rfl))).trans hh, r⟩
/-- Blocks of different element types differ. -/
theorem Blk.ne {g g' : Nat} {t t' : TypeId} {cs cs' : Array Value} (h : Blk w g t cs) (h' : Blk w g' t' cs') (hne : t ≠ t') : g ≠ g' := by
  rintro rfl
  unfold Blk at h h'
  rw [h] at h'
  injection h' with h'
  injection h' with _ ht
  exact hne ht
end
abbrev I64 (z : Int) : Value := .int .i64 z
theorem madeCells_eq (z : Value) (n : Nat) : madeCells #[z] n = (List.replicate n z).toArray := by
  apply Array.ext
  · simp [madeCells]
  · intro i h1 h2; simp [madeCells, Nat.mod_one]
theorem Own.made {w : World} {g n base : Nat} {t : TypeId} {z : Value} (hb : Blk w g t (madeCells #[z] n)) (hg : base ≤ g) (hm : n ≤ maxLen) : Own w base t 1 (some ⟨g, 0, none⟩) n n (List.replicate n z) := by
  have h := Own.blk (s := 1) (n := n) (c := n) hb hg (Nat.le_refl _) hm (by simp [madeCells]) (by simp [madeCells])
  rwa [madeCells_eq, show ((List.replicate n z).toArray.toList.take (n * 1)) = List.replicate n z by simp] at h
end Go.Proofs.Ytpacdjkikbdkeaa
end

section
namespace Go.Proofs.Ytpacdjkikbdkeaa
set_option maxRecDepth 100000
set_option linter.unusedSimpArgs false
set_option linter.unusedVariables false
open Go.RowKit

/-- 'wpAnyH_take' with the operation found ahead of all else. -/
theorem wpAnyH_take2 {P : Program} {md : Region.Mode} {ops : Array Oper} {Q : Exit → Act → World → Prop} {S : World → Prop} {i : Nat} {oi : Oper} {fuel : Nat} {listed : Array Bool} {a : Act} {w : World} (hi : ops[i]? = some oi)
    (h : ∃ v, Region.noSelect ops = true ∧ Region.free md ops listed i = true ∧ (Region.ready md ops listed).contains i = true ∧
      (∀ c a w, Q (.panic c) (a.put oi.dst v) w → Q (.panic c) a w) ∧ YieldsIf P ops S oi v a ∧ S w ∧ wpAnyH P md ops Q S fuel (listed.setIfInBounds i true) (a.put oi.dst v) w) : wpAnyH P md ops Q S (fuel + 1) listed a w := by
  obtain ⟨v, hs, hf, hr, hQ, hy, hS, h⟩ := h
  exact wpAnyH_take hi hs hf hr hQ hy hS h

/-- 'AllReadyH.cons' with the operation found ahead of all else. -/
theorem AllReadyH.cons2 {P : Program} {md : Region.Mode} {ops : Array Oper} {Q : Exit → Act → World → Prop} {S : World → Prop} {fuel : Nat} {listed : Array Bool} {a : Act} {w : World} {i : Nat} {o : Oper} (ho : ops[i]? = some o)
    (h : ∀ K' : Act → World → Prop, Shut (∀ a w, S w → (S w → wpAnyH P md ops Q S fuel (listed.setIfInBounds i true) a w) → K' a w) → if Region.wanted o (yielded ops a.tmps) = true then Oper.wp P o a w K' Q else K' (a.put o.dst undef) w)
     : AllReadyH P md ops Q S fuel listed a w [i] := AllReadyH.cons ho h AllReadyH.nil

theorem AllReadyH.cons3 {P : Program} {md : Region.Mode} {ops : Array Oper} {Q : Exit → Act → World → Prop} {S : World → Prop} {fuel : Nat} {listed : Array Bool} {a : Act} {w : World} {i : Nat} {o : Oper} {rs : List Nat} (ho : ops[i]? = some o)
    (h : ∀ K' : Act → World → Prop, Shut (∀ a w, S w → (S w → wpAnyH P md ops Q S fuel (listed.setIfInBounds i true) a w) → K' a w) → if Region.wanted o (yielded ops a.tmps) = true then Oper.wp P o a w K' Q else K' (a.put o.dst undef) w)
    (hs : AllReadyH P md ops Q S fuel listed a w rs) : AllReadyH P md ops Q S fuel listed a w (i :: rs) := AllReadyH.cons ho h hs

/-- A load of a whole struct out of a block that is known, as a step of a region. -/
theorem step_load_row {P : Program} {ops : Array Oper} {o : Oper} {a : Act} {w : World} {K : Act → World → Prop} {Q : Exit → Act → World → Prop} {E : Prop} (hgd : o.guard = none) (ty : TypeId) (x : Operand) (ho : o.op = .load ty x)
    (g : Nat) (hx : a.eval x = .pointer (some ⟨g, 0, none⟩)) (t : TypeId) (cs : Array Value) (fr : Nat × Nat) (d : TypeDesc) (hg : w.heap[g]? = some (.cells cs t fr))
    (hu : P.underlying ty = some d) (hd : (match d with | .struct _ | .array _ _ => true | _ => false) = true) (hi : (P.info? ty).map (·.size) = some cs.size)
    (h : K (a.put o.dst (.agg cs)) w) : if Region.wanted o (yielded ops a.tmps) = true then Oper.wp P o a w K Q else E := by
  have hw : Region.wanted o (yielded ops a.tmps) = true := by simp [Region.wanted, hgd]
  rw [if_pos hw]
  exact wp_load_row ty x ho g hx t cs fr d hg hu hd hi h

/-- A load of a whole struct out of the middle of a block. -/
theorem step_load_mid {P : Program} {ops : Array Oper} {o : Oper} {a : Act} {w : World} {K : Act → World → Prop} {Q : Exit → Act → World → Prop} {E : Prop} (hgd : o.guard = none) (ty : TypeId) (x : Operand) (ho : o.op = .load ty x)
    (b q : Nat) (hx : a.eval x = .pointer (some ⟨b, q, none⟩)) (cs : List Value) (d : TypeDesc) (hc : w.rangeAt b q cs)
    (hu : P.underlying ty = some d) (hd : d.isRow = true) (hi : (P.info? ty).map (·.size) = some cs.length)
    (h : K (a.put o.dst (.agg cs.toArray)) w) : if Region.wanted o (yielded ops a.tmps) = true then Oper.wp P o a w K Q else E := by
  have hw : Region.wanted o (yielded ops a.tmps) = true := by simp [Region.wanted, hgd]
  rw [if_pos hw]
  exact wp_load_mid ty x ho b q hx cs d hc hu hd hi h
theorem rangeAt4 {w : World} {g o : Nat} {a0 a1 a2 a3 : Value} (h0 : w.cell? ⟨g, o, none⟩ = some a0) (h1 : w.cell? ⟨g, o + 1, none⟩ = some a1) (h2 : w.cell? ⟨g, o + 2, none⟩ = some a2) (h3 : w.cell? ⟨g, o + 3, none⟩ = some a3) : w.rangeAt g o [a0, a1, a2, a3] := fun j v hv => by
  match j with
  | 0 => simp at hv; subst hv; exact h0
  | 1 => simp at hv; subst hv; exact h1
  | 2 => simp at hv; subst hv; exact h2
  | 3 => simp at hv; subst hv; exact h3
  | j + 4 => simp at hv

/-- A store of a whole struct, as a step of a region. -/
theorem step_store_row {P : Program} {ops : Array Oper} {o : Oper} {a : Act} {w : World} {K : Act → World → Prop} {Q : Exit → Act → World → Prop} {E : Prop} (hgd : o.guard = none) (ty : TypeId) (x y : Operand) (ho : o.op = .store ty x y)
    (g : Nat) (cells : Array Value) (hx : a.eval x = .pointer (some ⟨g, 0, none⟩)) (hy : a.eval y = .agg cells)
    (t : TypeId) (old : Array Value) (hg : w.heap[g]? = some (.cells old t (0, 0))) (hi : (P.info? ty).map (·.size) = some cells.size)
    (hold : old.size = cells.size) (h1 : cells.all (·.oneCell') = true)
    (h : K (a.put o.dst undef) (w.setRow g cells)) : if Region.wanted o (yielded ops a.tmps) = true then Oper.wp P o a w K Q else E := by
  have hw : Region.wanted o (yielded ops a.tmps) = true := by simp [Region.wanted, hgd]
  rw [if_pos hw]
  exact wp_store_row ty x y ho g cells hx hy t old hg hi hold h1 h
theorem rangeAt_setRow {w : World} {g g' o : Nat} {l : List Value} (h : w.rangeAt g o l) (hne : g ≠ g') (cs : Array Value) : (w.setRow g' cs).rangeAt g o l := fun j v hv => by
  have e := setRow_other w g' g cs hne
  have := h j v hv
  unfold World.cell? at this ⊢
  rw [e]; exact this
theorem rangeAt_blk {w : World} {g : Nat} {t : TypeId} {cs : Array Value} (h : Blk w g t cs) : w.rangeAt g 0 cs.toList := fun j v hv => by
  rw [h.cell]; simpa using hv
theorem cells7 {w : World} {g : Nat} {a0 a1 a2 a3 a4 a5 a6 : Value} (h : w.rangeAt g 0 [a0, a1, a2, a3, a4, a5, a6]) :
    w.cell? ⟨g, 0, none⟩ = some a0 ∧ w.cell? ⟨g, 1, none⟩ = some a1 ∧ w.cell? ⟨g, 2, none⟩ = some a2 ∧ w.cell? ⟨g, 3, none⟩ = some a3 ∧ w.cell? ⟨g, 4, none⟩ = some a4 ∧ w.cell? ⟨g, 5, none⟩ = some a5 ∧ w.cell? ⟨g, 6, none⟩ = some a6 :=
  ⟨h 0 _ rfl, h 1 _ rfl, h 2 _ rfl, h 3 _ rfl, h 4 _ rfl, h 5 _ rfl, h 6 _ rfl⟩
end Go.Proofs.Ytpacdjkikbdkeaa
end

section
namespace Go.Proofs.Ytpacdjkikbdkeaa
set_option maxRecDepth 100000
set_option linter.unusedSimpArgs false
set_option linter.unusedVariables false
open Go.RowKit

/-- A known block. -/
structure Ent where
  g : Nat
  t : TypeId
  cs : Array Value
/-- A slice that may be appended to: elements of s cells each. -/
structure Osl where
  t : TypeId
  s : Nat
  A : Option Addr
  n : Nat
  c : Nat
  cs : List Value
/-- From world s to world w only blocks that meet R, and new ones, have turned; the blocks of L are known, the slices of O too; each of them may be written. -/
structure Mem (R : Nat → Prop) (s w : World) (L : List Ent) (O : List Osl) : Prop where
  only : Only R s w
  blk : ∀ e ∈ L, Blk w e.g e.t e.cs
  own : ∀ e ∈ L, R e.g ∨ s.heap.size ≤ e.g
  diff : (L.map (·.g)).Nodup
  sl : ∀ x ∈ O, Own w 0 x.t x.s x.A x.n x.c x.cs
  slR : ∀ x ∈ O, ∀ q, ownAt x.A x.c = some q → R q ∨ s.heap.size ≤ q
  slL : ∀ x ∈ O, ∀ e ∈ L, ownAt x.A x.c ≠ some e.g
  slO : O.Pairwise fun x y => ∀ q, ownAt x.A x.c = some q → ownAt y.A y.c ≠ some q
def oneT (P : Program) (ty : TypeId) : Bool := match P.underlying ty with
  | some (.struct _) => false
  | some (.array _ _) => false
  | some _ => true
  | none => false
def aggT (P : Program) (ty : TypeId) : Bool := match P.underlying ty with
  | some (.struct _) => true
  | some (.array _ _) => true
  | _ => false
def spl (cs : Array Value) (i : Nat) (vs : Array Value) : Array Value := (cs.toList.take i ++ vs.toList ++ cs.toList.drop (i + vs.size)).toArray

section
variable {R : Nat → Prop} {s w w' : World} {L : List Ent} {O : List Osl} {g n : Nat} {t : TypeId} {cs : Array Value}
theorem Own.only' {R : Nat → Prop} {base : Nat} {t : TypeId} {s : Nat} {A : Option Addr} {n c : Nat} {cs : List Value} (h : Own w base t s A n c cs) (ho : Only R w w') (hg : ∀ q, ownAt A c = some q → ¬ R q) : Own w' base t s A n c cs := by
  refine ⟨h.1, h.2.1, h.2.2.1, fun hc => ?_⟩
  obtain ⟨g, cur, e, hb, hh, r⟩ := h.2.2.2 hc
  exact ⟨g, cur, e, hb, (ho.block g (Array.getElem?_eq_some_iff.1 hh).1 (hg g (by unfold ownAt; rw [if_neg (by omega), e]; rfl))).trans hh, r⟩
theorem Mem.nil (R : Nat → Prop) (w : World) : Mem R w w [] [] := ⟨Only.refl R w, fun e he => (by cases he), fun e he => (by cases he), List.nodup_nil, fun e he => (by cases he), fun e he => (by cases he), fun e he => (by cases he), .nil⟩
theorem Mem.at_ (h : Mem R s w L O) (k : Nat) {e : Ent} (hk : L[k]? = some e) : Blk w e.g e.t e.cs := h.blk e (List.mem_of_getElem? hk)
theorem Mem.sl_ (h : Mem R s w L O) (k : Nat) {x : Osl} (hk : O[k]? = some x) : Own w 0 x.t x.s x.A x.n x.c x.cs := h.sl x (List.mem_of_getElem? hk)
theorem Mem.cons (h : Mem R s w L O) (hb : Blk w g t cs) (hR : R g ∨ s.heap.size ≤ g) (hd : ∀ e ∈ L, g ≠ e.g) (hs : ∀ x ∈ O, ownAt x.A x.c ≠ some g) : Mem R s w (⟨g, t, cs⟩ :: L) O :=
  { h with
    blk := fun e he => by
      rcases List.mem_cons.1 he with rfl | he
      · exact hb
      · exact h.blk e he
    own := fun e he => by
      rcases List.mem_cons.1 he with rfl | he
      · exact hR
      · exact h.own e he
    diff := by
      rw [List.map_cons, List.nodup_cons]
      refine ⟨fun hm => ?_, h.diff⟩
      obtain ⟨e, he, h1⟩ := List.mem_map.1 hm
      exact hd e he h1.symm
    slL := fun x hx e he => by
      rcases List.mem_cons.1 he with rfl | he
      · exact hs x hx
      · exact h.slL x hx e he }
theorem Mem.one (hb : Blk w g t cs) (hR : R g) : Mem R w w [⟨g, t, cs⟩] [] := (Mem.nil R w).cons hb (.inl hR) (fun e he => by cases he) (fun e he => by cases he)
theorem Mem.drewN (h : Mem R s w L O) (k : Nat) : Mem R s (w.drewN k) L O := { h with only := h.only.drewN k }
theorem Mem.drew (h : Mem R s w L O) : Mem R s w.drew L O := { h with only := h.only.drew }
theorem Mem.alloc (h : Mem R s w L O) (o : Obj) : Mem R s (w.alloc o) L O := { h with only := h.only.alloc o, blk := fun e he => (h.blk e he).alloc o, sl := fun x hx => (h.sl x hx).alloc o }
theorem Mem.lt (h : Mem R s w L O) {e : Ent} (he : e ∈ L) : e.g < w.heap.size := (h.blk e he).lt
theorem Mem.slt (h : Mem R s w L O) {x : Osl} (hx : x ∈ O) {q : Nat} (hq : ownAt x.A x.c = some q) : q < w.heap.size := ((h.sl x hx).lt q hq).2
/-- A new block. -/
theorem Mem.made (h : Mem R s w L O) (t : TypeId) (cs : Array Value) : Mem R s (w.alloc (.cells cs t)) (⟨w.heap.size, t, cs⟩ :: L) O :=
  (h.alloc _).cons (Blk.new w t cs) (.inr h.only.size) (fun e he e1 => by have := h.lt he; omega) (fun x hx e1 => by have := h.slt hx e1; omega)
theorem Only.more (h : Only R s w) {R' : Nat → Prop} (ho : Only R' w w') (hR : ∀ q, q < w.heap.size → R' q → R q ∨ s.heap.size ≤ q) : Only R s w' :=
  ⟨ho.os.trans h.os, ho.tape.trans h.tape, ho.output.trans h.output, Nat.le_trans h.size ho.size, fun k hk hn =>
      (ho.block k (Nat.lt_of_lt_of_le hk h.size) (fun hr => by
        rcases hR k (Nat.lt_of_lt_of_le hk h.size) hr with h1 | h1
        · exact hn h1
        · omega)).trans (h.block k hk hn)⟩
/-- A step that turns other blocks only. -/
theorem Mem.step {R' : Nat → Prop} (h : Mem R s w L O) (ho : Only R' w w') (hR : ∀ q, q < w.heap.size → R' q → R q ∨ s.heap.size ≤ q) (hd : ∀ e ∈ L, ¬ R' e.g) (hs : ∀ x ∈ O, ∀ q, ownAt x.A x.c = some q → ¬ R' q) : Mem R s w' L O :=
  { h with only := h.only.more ho hR, blk := fun e he => (h.blk e he).only ho (hd e he), sl := fun x hx => (h.sl x hx).only' ho (hs x hx) }
/-- A step that makes only. -/
theorem Mem.below (h : Mem R s w L O) (hb : Below w.heap.size w w') : Mem R s w' L O := h.step (R' := fun _ => False) (Only.of_below hb) (fun _ _ e => e.elim) (fun _ _ e => e) (fun _ _ _ _ e => e)
/-- A step that turns known blocks too. -/
theorem Mem.turn {R' : Nat → Prop} {L' : List Ent} (h : Mem R s w L O) (ho : Only R' w w') (hR : ∀ q, q < w.heap.size → R' q → R q ∨ s.heap.size ≤ q) (hg : L'.map (·.g) = L.map (·.g)) (hb : ∀ e ∈ L', Blk w' e.g e.t e.cs) (hs : ∀ x ∈ O, ∀ q, ownAt x.A x.c = some q → ¬ R' q) : Mem R s w' L' O :=
  { only := h.only.more ho hR
    blk := hb
    own := fun e he => by
      have : e.g ∈ L.map (·.g) := by rw [← hg]; exact List.mem_map_of_mem he
      obtain ⟨e2, h2, h3⟩ := List.mem_map.1 this
      rw [← h3]; exact h.own e2 h2
    diff := by rw [hg]; exact h.diff
    sl := fun x hx => (h.sl x hx).only' ho (hs x hx)
    slR := h.slR
    slL := fun x hx e he => by
      have : e.g ∈ L.map (·.g) := by rw [← hg]; exact List.mem_map_of_mem he
      obtain ⟨e2, h2, h3⟩ := List.mem_map.1 this
      rw [← h3]; exact h.slL x hx e2 h2
    slO := h.slO }
/-- A slice more. -/
theorem Mem.more {x : Osl} (h : Mem R s w L O) (hx : Own w 0 x.t x.s x.A x.n x.c x.cs) (hR : ∀ q, ownAt x.A x.c = some q → R q ∨ s.heap.size ≤ q) (hL : ∀ e ∈ L, ownAt x.A x.c ≠ some e.g) (hO : ∀ y ∈ O, ∀ q, ownAt y.A y.c = some q → ownAt x.A x.c ≠ some q) : Mem R s w L (O ++ [x]) :=
  { h with
    sl := fun y hy => by
      rcases List.mem_append.1 hy with hy | hy
      · exact h.sl y hy
      · obtain rfl := List.mem_singleton.1 hy; exact hx
    slR := fun y hy => by
      rcases List.mem_append.1 hy with hy | hy
      · exact h.slR y hy
      · obtain rfl := List.mem_singleton.1 hy; exact hR
    slL := fun y hy => by
      rcases List.mem_append.1 hy with hy | hy
      · exact h.slL y hy
      · obtain rfl := List.mem_singleton.1 hy; exact hL
    slO := by
      rw [List.pairwise_append]
      refine ⟨h.slO, List.pairwise_singleton _ _, fun y hy z hz q e => ?_⟩
      obtain rfl := List.mem_singleton.1 hz
      exact hO y hy q e }
/-- A slice without room. -/
theorem Mem.empty (h : Mem R s w L O) (t : TypeId) (k : Nat) (A : Option Addr) : Mem R s w L (O ++ [⟨t, k, A, 0, 0, []⟩]) :=
  h.more (Own.none_ _ _ _ _ _) (fun q e => by cases e) (fun e _ e1 => by cases e1) (fun y _ q _ e => by cases e)
/-- A slice that a call has made. -/
theorem Mem.got {t : TypeId} {k : Nat} {A : Option Addr} {n c : Nat} {cs : List Value} (h : Mem R s w L O) (hb : Below w.heap.size w w') (hx : Own w' w.heap.size t k A n c cs) : Mem R s w' L (O ++ [⟨t, k, A, n, c, cs⟩]) :=
  (h.below hb).more (hx.mono (Nat.zero_le _)) (fun q e => .inr (Nat.le_trans h.only.size (hx.lt q e).1)) (fun e he e1 => by have := (hx.lt _ e1).1; have := h.lt he; omega) (fun y hy q e e1 => by have := (hx.lt _ e1).1; have := h.slt hy e; omega)
theorem Mem.less {x : Osl} (h : Mem R s w L (O ++ [x])) : Mem R s w L O :=
  { h with
    sl := fun y hy => h.sl y (List.mem_append_left _ hy)
    slR := fun y hy => h.slR y (List.mem_append_left _ hy)
    slL := fun y hy => h.slL y (List.mem_append_left _ hy)
    slO := (List.pairwise_append.1 h.slO).1 }
theorem setCells_turn (w : World) (b o : Nat) (vs : List Value) : (w.setCells b o vs).os = w.os ∧ (w.setCells b o vs).tape = w.tape ∧ (w.setCells b o vs).output = w.output ∧ (w.setCells b o vs).heap.size = w.heap.size ∧ ∀ k, k ≠ b → (w.setCells b o vs).heap[k]? = w.heap[k]? := by
  induction vs generalizing w o with
  | nil => exact ⟨rfl, rfl, rfl, rfl, fun _ _ => rfl⟩
  | cons v r ih =>
    obtain ⟨h1, h2, h3, h4, h5⟩ := ih (w.setCell ⟨b, o, none⟩ v) (o + 1)
    refine ⟨h1, h2, h3, h4.trans (by simp [World.setCell]), fun k hk => (h5 k hk).trans (Below.heap_setCell w ⟨b, o, none⟩ v k hk)⟩
theorem set_spl (l : List Value) (i : Nat) (v : Value) (r : List Value) (hl : i < l.length) : (l.set i v).take (i + 1) ++ r.toArray.toList ++ (l.set i v).drop (i + 1 + r.toArray.size) = l.take i ++ (v :: r).toArray.toList ++ l.drop (i + (v :: r).toArray.size) := by
  obtain ⟨A, x, B, rfl, rfl⟩ : ∃ A x B, l = A ++ x :: B ∧ i = A.length := ⟨l.take i, l[i], l.drop (i + 1), by simp, by simp; omega⟩
  have e : (A ++ x :: B).set A.length v = A ++ v :: B := by simp
  rw [e]
  have h1 : (A ++ v :: B).take (A.length + 1) = A ++ [v] := by rw [List.take_append]; simp [List.take_of_length_le]
  have h2 : (A ++ v :: B).drop (A.length + 1 + r.toArray.size) = B.drop r.length := by simp [List.drop_append, Nat.add_assoc, Nat.add_comm 1]
  have h3 : (A ++ x :: B).drop (A.length + (v :: r).toArray.size) = B.drop r.length := by simp [List.drop_append]
  rw [h1, h2, h3]
  simp
theorem Blk.setCells (h : Blk w g t cs) (i : Nat) (vs : List Value) (hi : i + vs.length ≤ cs.size) : Blk (w.setCells g i vs) g t (spl cs i vs.toArray) := by
  induction vs generalizing w i cs with
  | nil =>
    have : spl cs i (#[] : Array Value) = cs := by
      simp only [spl, List.size_toArray, List.length_nil, Nat.add_zero, List.append_nil, List.take_append_drop, Array.toArray_toList]
    show Blk w g t _
    rw [show ([] : List Value).toArray = #[] from rfl, this]; exact h
  | cons v r ih =>
    have h1 := ih (h.set i v) (i + 1) (by simp at hi ⊢; omega)
    have : spl (cs.setIfInBounds i v) (i + 1) r.toArray = spl cs i (v :: r).toArray := by
      have hl : i < cs.toList.length := by simp at hi ⊢; omega
      unfold spl
      rw [Array.toList_setIfInBounds]
      congr 1
      exact set_spl cs.toList i v r hl
    rw [← this]; exact h1
/-- A step that turns one known block. -/
theorem Mem.put {cs' : Array Value} (h : Mem R s w L O) (k : Nat) (hk : L[k]? = some ⟨g, t, cs⟩) (ho : Only (fun q => q = g) w w') (hb : Blk w' g t cs') : Mem R s w' (L.set k ⟨g, t, cs'⟩) O := by
  have hkl : k < L.length := (List.getElem?_eq_some_iff.1 hk).1
  have hmem : (⟨g, t, cs⟩ : Ent) ∈ L := List.mem_of_getElem? hk
  have hmap : (L.set k ⟨g, t, cs'⟩).map (·.g) = L.map (·.g) := by
    apply List.ext_getElem?
    intro j
    rw [List.getElem?_map, List.getElem?_map, List.getElem?_set]
    split
    · rename_i hjk; subst hjk; rw [hk]; simp [hkl]
    · rfl
  refine h.turn (R' := fun q => q = g) ho (fun q _ e => by have e : q = g := e; rw [e]; exact h.own _ hmem) hmap ?_ (fun x hx q e e2 => by have e2 : q = g := e2; subst e2; exact h.slL x hx _ hmem e)
  intro e he
  rcases List.mem_or_eq_of_mem_set he with he | rfl
  · by_cases hg : e.g = g
    · obtain ⟨p, hp⟩ := List.getElem?_of_mem ‹e ∈ L.set k _›
      rw [List.getElem?_set] at hp
      split at hp
      · injection hp with hp; subst hp; exact hb
      · rename_i hkp
        exfalso
        have hpl : p < L.length := (List.getElem?_eq_some_iff.1 hp).1
        have e1 : (L.map (·.g))[p]? = some g := by rw [List.getElem?_map, hp]; simp [hg]
        have e2 : (L.map (·.g))[k]? = some g := by rw [List.getElem?_map, hk]; rfl
        obtain ⟨a1, a2⟩ := List.getElem?_eq_some_iff.1 e1
        obtain ⟨b1, b2⟩ := List.getElem?_eq_some_iff.1 e2
        exact hkp ((List.getElem_inj h.diff).1 (b2.trans a2.symm))
    · exact (ho.block e.g (h.blk e he).lt hg).trans (h.blk e he)
  · exact hb
theorem Mem.set (h : Mem R s w L O) (k : Nat) (hk : L[k]? = some ⟨g, t, cs⟩) (i : Nat) (vs : List Value) (hi : i + vs.length ≤ cs.size) : Mem R s (w.setCells g i vs) (L.set k ⟨g, t, spl cs i vs.toArray⟩) O := by
  obtain ⟨h1, h2, h3, h4, h5⟩ := setCells_turn w g i vs
  exact h.put k hk ⟨h1, h2, h3, Nat.le_of_eq h4.symm, fun q _ hn => h5 q hn⟩ ((h.at_ k hk).setCells i vs hi)
end

section
variable {P : Program} {ops : Array Oper} {rest : List Oper} {o : Oper} {a : Act} {w s : World} {Q : Exit → Act → World → Prop} {R : Nat → Prop} {L : List Ent} {O : List Osl} {g i : Nat} {t : TypeId} {cs : Array Value}
theorem wpList_go (hw : Region.wanted o (yielded ops a.tmps) = true) (h : o.wp P a w (wpList P ops Q rest) Q) : wpList P ops Q (o :: rest) a w := by
  unfold wpList; rw [if_pos hw]; exact .inl h
theorem run_load1 {ty : TypeId} (hb : Blk w g t cs) (hT : oneT P ty = true) {v : Value} (hv : cs[i]? = some v) : (Instr.loadAt ty (.pointer (some ⟨g, i, none⟩))).run P w = .ok v w := by
  have hc : w.cell? ⟨g, i, none⟩ = some v := (hb.cell i).trans hv
  have hagg : (isAgg ty).run P w = .ok false w := by
    unfold oneT at hT
    cases hu : P.underlying ty with
    | none => rw [hu] at hT; cases hT
    | some d =>
      unfold isAgg
      rw [Sem.run_bind, run_underlying hu w]
      cases d <;> simp_all
  simp [Instr.loadAt, Instr.sureAddr, loadVar, Sem.run_bind, hagg, hc]
theorem run_loadN {ty : TypeId} (hb : Blk w g t cs) (hT : aggT P ty = true) {n : Nat} (hn : (P.info? ty).map (·.size) = some n) (hin : i + n ≤ cs.size) {vs : Array Value} (hv : ((cs.toList.drop i).take n).toArray = vs) : (Instr.loadAt ty (.pointer (some ⟨g, i, none⟩))).run P w = .ok (.agg vs) w := by
  subst hv
  unfold aggT at hT
  cases hu : P.underlying ty with
  | none => rw [hu] at hT; cases hT
  | some d =>
    refine run_loadAt_mid w g i ty ((cs.toList.drop i).take n) d (fun j v hj => ?_) hu (by rw [hu] at hT; cases d <;> simp_all) (by rw [hn, List.length_take, List.length_drop, Array.length_toList, Nat.min_eq_left (by omega)])
    rw [hb.cell]
    rw [List.getElem?_take] at hj
    split at hj
    · rw [List.getElem?_drop] at hj; simpa using hj
    · cases hj
theorem run_storeN {ty : TypeId} (hb : Blk w g t cs) {v : Value} {vs : Array Value} (hc : v.cells = vs) (hi : (P.info? ty).map (·.size) = some vs.size) (h1 : vs.all (·.oneCell') = true) (hin : i + vs.size ≤ cs.size) :
    (Instr.storeAt ty (.pointer (some ⟨g, i, none⟩)) v).run P w = .ok () (w.setCells g i vs.toList) := by
  have ht : w.there g i vs.size := fun j hj => ⟨by rw [hb.cell, Array.getElem?_eq_getElem (by omega)]; rfl, hb.frozen _⟩
  have := run_storeCells_cells (P := P) g i vs.toList 0 w (fun j hj => by simpa using (ht j (by simpa using hj)).1) (fun j hj => by simpa using (ht j (by simpa using hj)).2)
    (fun v hv => (Array.all_eq_true_iff_forall_mem.1 h1) v (by simpa using hv))
  cases hq : P.info? ty with
  | none => simp [hq] at hi
  | some d =>
    have hs : vs.size = d.size := by simp [hq] at hi; omega
    simp only [Nat.add_zero] at this
    simp only [Instr.storeAt, Instr.sureAddr, Sem.run_bind, Sem.run_pure, Result.andThen_ok]
    simp [storeVar, sizeOf, typeInfo, hq, hc, hs, this]

/-- A load of one cell. -/
theorem wpList_ld (hw : Region.wanted o (yielded ops a.tmps) = true) (ty : TypeId) (x : Operand) (ho : o.op = .load ty x) (g i : Nat) (hx : a.eval x = .pointer (some ⟨g, i, none⟩))
    (hm : Mem R s w L O) (k : Nat) (t : TypeId) (cs : Array Value) (hk : L[k]? = some ⟨g, t, cs⟩) (hT : oneT P ty = true) (v : Value) (hv : cs[i]? = some v)
    (h : wpList P ops Q rest (a.put o.dst v) w) : wpList P ops Q (o :: rest) a w := by
  refine wpList_go hw ?_
  unfold Oper.wp execOp
  simp only [ho, hx, Sem.run_bind, run_load1 (hm.at_ k hk) hT hv, Sem.run_pure, Result.andThen_ok]
  exact h
/-- A load of a struct. -/
theorem wpList_la (hw : Region.wanted o (yielded ops a.tmps) = true) (ty : TypeId) (x : Operand) (ho : o.op = .load ty x) (g i : Nat) (hx : a.eval x = .pointer (some ⟨g, i, none⟩))
    (hm : Mem R s w L O) (k : Nat) (t : TypeId) (cs : Array Value) (hk : L[k]? = some ⟨g, t, cs⟩) (z : Array Value) (hz : (P.info? ty).bind (·.zero) = some (.agg z)) (hT : aggT P ty = true) (hn : (P.info? ty).map (·.size) = some z.size) (hin : i + z.size ≤ cs.size) (vs : Array Value) (hv : ((cs.toList.drop i).take z.size).toArray = vs)
    (h : wpList P ops Q rest (a.put o.dst (.agg vs)) w) : wpList P ops Q (o :: rest) a w := by
  refine wpList_go hw ?_
  unfold Oper.wp execOp
  simp only [ho, hx, Sem.run_bind, run_loadN (hm.at_ k hk) hT hn hin hv, Sem.run_pure, Result.andThen_ok]
  exact h
/-- A store. -/
theorem wpList_st (hw : Region.wanted o (yielded ops a.tmps) = true) (ty : TypeId) (x y : Operand) (ho : o.op = .store ty x y) (g i : Nat) (hx : a.eval x = .pointer (some ⟨g, i, none⟩)) (v : Value) (hy : a.eval y = v)
    (hm : Mem R s w L O) (k : Nat) (t : TypeId) (cs : Array Value) (hk : L[k]? = some ⟨g, t, cs⟩) (vs : Array Value) (hc : v.cells = vs) (hi : (P.info? ty).map (·.size) = some vs.size) (h1 : vs.all (·.oneCell') = true) (hin : i + vs.size ≤ cs.size)
    (L' : List Ent) (hL : L.set k ⟨g, t, spl cs i vs⟩ = L')
    (h : ∀ w1, w.heap.size ≤ w1.heap.size → Mem R s w1 L' O → Only (fun q => q = g) w w1 → wpList P ops Q rest (a.put o.dst undef) w1) : wpList P ops Q (o :: rest) a w := by
  subst hL
  refine wpList_go hw ?_
  unfold Oper.wp execOp
  simp only [ho, hx, hy, Sem.run_bind, run_storeN (hm.at_ k hk) hc hi h1 hin, Sem.run_pure, Result.andThen_ok]
  obtain ⟨e1, e2, e3, e4, e5⟩ := setCells_turn w g i vs.toList
  exact h _ (Nat.le_of_eq e4.symm) (hm.set k hk i vs.toList (by simpa using hin)) ⟨e1, e2, e3, Nat.le_of_eq e4.symm, fun q _ hn => e5 q hn⟩
theorem Mem.snoc (hm : Mem R s w L O) (t : TypeId) (cs : Array Value) : Mem R s (w.alloc (.cells cs t)) (L ++ [⟨w.heap.size, t, cs⟩]) O := by
  have h1 := hm.made t cs
  have hin : ∀ e, e ∈ L ++ [⟨w.heap.size, t, cs⟩] → e ∈ (⟨w.heap.size, t, cs⟩ : Ent) :: L := fun e he => by
    rcases List.mem_append.1 he with he | he
    · exact List.mem_cons_of_mem _ he
    · rw [List.mem_singleton.1 he]; exact List.mem_cons_self
  refine { h1 with blk := fun e he => h1.blk e (hin e he), own := fun e he => h1.own e (hin e he), diff := ?_, slL := fun x hx e he => h1.slL x hx e (hin e he) }
  have h2 := h1.diff
  rw [List.map_cons, List.nodup_cons] at h2
  rw [List.map_append, List.nodup_append]
  refine ⟨h2.2, by simp, fun x hx y hy => ?_⟩
  simp only [List.map_cons, List.map_nil, List.mem_singleton] at hy
  subst hy
  exact fun e => h2.1 (e ▸ hx)
/-- A new variable. -/
theorem wpList_al (hw : Region.wanted o (yielded ops a.tmps) = true) (ty : TypeId) (ho : o.op = .alloc ty) (z : Value) (hz : (P.info? ty).bind (·.zero) = some z) (cs : Array Value) (hc : z.cells = cs)
    (hm : Mem R s w L O) (h : ∀ n w1, w.heap.size ≤ n → w.heap.size ≤ w1.heap.size → Mem R s w1 (L ++ [⟨n, ty, cs⟩]) O → Below w.heap.size w w1 → wpList P ops Q rest (a.put o.dst (.pointer (some ⟨n, 0, none⟩))) w1) : wpList P ops Q (o :: rest) a w := by
  refine wpList_go hw ?_
  subst hc
  cases hq : P.info? ty with
  | none => simp [hq] at hz
  | some d =>
    have hd : d.zero = some z := by simpa [hq] using hz
    have hrun : (Instr.alloc ty true (.tuple #[])).run P w = .ok (.pointer (some ⟨w.heap.size, 0, none⟩)) (w.alloc (.cells z.cells ty)) := by
      simp [Instr.alloc, zeroValue, typeInfo, hq, hd, newVar, newRow]
    unfold Oper.wp execOp
    simp only [ho, Sem.run_bind, hrun, Sem.run_pure, Result.andThen_ok]
    exact h w.heap.size _ (Nat.le_refl _) (by simp) (hm.snoc ty _) ((Below.refl _ _).alloc (Nat.le_refl _) _)
/-- A new variable with a value. -/
theorem wpList_bx (hw : Region.wanted o (yielded ops a.tmps) = true) (ty : TypeId) (x : Operand) (ho : o.op = .box ty x) (v : Value) (hx : a.eval x = v) (cs : Array Value) (hc : v.cells = cs)
    (hm : Mem R s w L O) (h : ∀ n w1, w.heap.size ≤ n → w.heap.size ≤ w1.heap.size → Mem R s w1 (L ++ [⟨n, ty, cs⟩]) O → Below w.heap.size w w1 → wpList P ops Q rest (a.put o.dst (.pointer (some ⟨n, 0, none⟩))) w1) : wpList P ops Q (o :: rest) a w := by
  refine wpList_go hw ?_
  subst hc
  subst hx
  have hrun : (Instr.box ty (a.eval x)).run P w = .ok (.pointer (some ⟨w.heap.size, 0, none⟩)) (w.alloc (.cells (a.eval x).cells ty)) := by
    simp [Instr.box, newVar, newRow]
  unfold Oper.wp execOp
  simp only [ho, Sem.run_bind, hrun, Sem.run_pure, Result.andThen_ok]
  exact h w.heap.size _ (Nat.le_refl _) (by simp) (hm.snoc ty _) ((Below.refl _ _).alloc (Nat.le_refl _) _)
/-- A block that the walk has made by itself. -/
theorem wpList_up {l : List Oper} (hm : Mem R s w L O) (h : ∀ n w1, n = w.heap.size → s.heap.size ≤ n → Blk w1 n t cs → Mem R s w1 L O → (∀ e ∈ L, e.g ≠ n) → (∀ x ∈ O, ownAt x.A x.c ≠ some n) → Below w.heap.size w w1 → wpList P ops Q l a w1) : wpList P ops Q l a (w.alloc (.cells cs t)) :=
  h w.heap.size _ rfl hm.only.size (Blk.new w t cs) (hm.alloc _) (fun e he => by have := hm.lt he; omega) (fun x hx e => by have := hm.slt hx e; omega) ((Below.refl _ _).alloc (Nat.le_refl _) _)
/-- A slice over a new block. -/
theorem Mem.row {n : Nat} (h : Mem R s w L O) (hk : Blk w n t cs) (hn : s.heap.size ≤ n) (hd : ∀ e ∈ L, e.g ≠ n) (hd2 : ∀ x ∈ O, ownAt x.A x.c ≠ some n) (k m : Nat) (l : List Value) (hl : cs.toList = l) (hlen : l.length = m * k) (hmax : m ≤ maxLen) : Mem R s w L (O ++ [⟨t, k, some ⟨n, 0, none⟩, m, m, l⟩]) := by
  subst hl
  have hs : m * k = cs.size := by simpa using hlen.symm
  have hown : Own w 0 t k (some ⟨n, 0, none⟩) m m cs.toList := ⟨hlen, Nat.le_refl _, hmax, fun _ => ⟨n, cs, rfl, Nat.zero_le _, hk, by omega, by rw [hs]; exact List.take_of_length_le (by simp)⟩⟩
  have hq : ∀ q, ownAt (some ⟨n, 0, none⟩) m = some q → q = n := fun q e => by
    unfold ownAt at e
    split at e
    · cases e
    · simpa using e.symm
  exact h.more hown (fun q e => .inr (hq q e ▸ hn)) (fun e he e1 => hd e he (hq _ e1)) (fun y hy q e e1 => hd2 y hy (by rw [e, hq _ e1]))
/-- An append onto a slice that the call may write. -/
theorem Mem.app {w' : World} {t : TypeId} {s' : Nat} {A : Option Addr} {n c : Nat} {cs news : List Value} {m : Nat} {A2 : Option Addr} {c2 : Nat} (hm : Mem R s w L O) (k : Nat) (hk : O[k]? = some ⟨t, s', A, n, c, cs⟩)
    (h2 : Own w' 0 t s' A2 m c2 news) (h3 : Only (fun q => ownAt A c = some q) w w') (h4 : ownAt A2 c2 = ownAt A c ∨ ownAt A2 c2 = some w.heap.size) : Mem R s w' L (O.set k ⟨t, s', A2, m, c2, news⟩) := by
  have hmem : (⟨t, s', A, n, c, cs⟩ : Osl) ∈ O := List.mem_of_getElem? hk
  have hkl : k < O.length := (List.getElem?_eq_some_iff.1 hk).1
  have hk2 : O[k] = ⟨t, s', A, n, c, cs⟩ := (List.getElem?_eq_some_iff.1 hk).2
  have hq2 : ∀ q, ownAt A2 c2 = some q → ownAt A c = some q ∨ q = w.heap.size := fun q e => by
    rcases h4 with h4 | h4
    · exact .inl (h4 ▸ e)
    · rw [h4] at e; injection e with e; exact .inr e.symm
  -- the other slices lie elsewhere
  have hoth : ∀ (i : Nat) (hi : i < O.length), i ≠ k → ∀ q, ownAt O[i].A O[i].c = some q → ownAt A c ≠ some q := fun i hi hne q e e2 => by
    have hp := List.pairwise_iff_getElem.1 hm.slO
    rcases Nat.lt_or_gt_of_ne hne with h | h
    · exact hp i k hi hkl h q e (by rw [hk2]; exact e2)
    · exact hp k i hkl hi h q (by rw [hk2]; exact e2) e
  have hel : ∀ (i : Nat) (hi : i < O.length), i ≠ k → Own w' 0 O[i].t O[i].s O[i].A O[i].n O[i].c O[i].cs := fun i hi hne => (hm.sl _ (List.getElem_mem hi)).only' h3 (fun q e e2 => hoth i hi hne q e e2)
  have hget : ∀ (i : Nat) (hi : i < (O.set k ⟨t, s', A2, m, c2, news⟩).length), (O.set k ⟨t, s', A2, m, c2, news⟩)[i] = if k = i then ⟨t, s', A2, m, c2, news⟩ else O[i]'(by simpa using hi) := fun i hi => List.getElem_set hi
  have hall : ∀ {p : Osl → Prop}, p ⟨t, s', A2, m, c2, news⟩ → (∀ (i : Nat) (hi : i < O.length), i ≠ k → p O[i]) → ∀ x ∈ O.set k ⟨t, s', A2, m, c2, news⟩, p x := fun {p} h0 h1 x hx => by
    obtain ⟨i, hi, rfl⟩ := List.getElem_of_mem hx
    rw [hget i hi]
    split
    · exact h0
    · rename_i hne; exact h1 i _ (fun e => hne e.symm)
  refine { only := hm.only.more h3 (fun q _ e => hm.slR _ hmem q e), blk := fun e he => (hm.blk e he).only h3 (hm.slL _ hmem e he), own := hm.own, diff := hm.diff, sl := ?_, slR := ?_, slL := ?_, slO := ?_ }
  · exact hall (p := fun x => Own w' 0 x.t x.s x.A x.n x.c x.cs) h2 hel
  · refine hall (p := fun x => ∀ q, ownAt x.A x.c = some q → R q ∨ s.heap.size ≤ q) (fun q e => ?_) (fun i hi hne => hm.slR _ (List.getElem_mem hi))
    rcases hq2 q e with h | h
    · exact hm.slR _ hmem q h
    · exact .inr (h ▸ hm.only.size)
  · refine hall (p := fun x => ∀ e ∈ L, ownAt x.A x.c ≠ some e.g) (fun e he e1 => ?_) (fun i hi hne => hm.slL _ (List.getElem_mem hi))
    rcases hq2 _ e1 with h | h
    · exact hm.slL _ hmem e he h
    · have := hm.lt he; omega
  · rw [List.pairwise_iff_getElem]
    intro i j hi hj hij q e1 e2
    rw [hget i hi] at e1
    rw [hget j hj] at e2
    have hi' : i < O.length := by simpa using hi
    have hj' : j < O.length := by simpa using hj
    split at e1
    · rename_i hki
      rw [if_neg (by omega)] at e2
      rcases hq2 q e1 with h | h
      · exact hoth j hj' (by omega) q e2 h
      · have := hm.slt (List.getElem_mem hj') e2; omega
    · rename_i hki
      split at e2
      · rcases hq2 q e2 with h | h
        · exact hoth i hi' (by omega) q e1 h
        · have := hm.slt (List.getElem_mem hi') e1; omega
      · exact List.pairwise_iff_getElem.1 hm.slO i j hi' hj' hij q e1 e2
theorem wpList_ap (hw : Region.wanted o (yielded ops a.tmps) = true) (x y : Operand) (t : TypeId)
    (ho : o.op = .call { callee := .builtin .append, args := #[x, y], argTypes := #[t, t] }) (e : TypeId) (i : TypeInfo) (z : Value) (s' bytes : Nat) (ht : P.underlying t = some (.slice e)) (hi : P.info? e = some i) (hz : i.zero = some z)
    (hsize : i.size = s') (hby : i.bytes = bytes) (hzs : z.cells.size = s') (hsz : 0 < s')
    (A : Option Addr) (n c : Nat) (cs : List Value) (hx : a.eval x = .slice A n c) (hm : Mem R s w L O) (k : Nat) (hk : O[k]? = some ⟨e, s', A, n, c, cs⟩)
    (B : Nat) (A' : Option Addr) (m c' : Nat) (news : List Value) (hy : a.eval y = .slice A' m c') (hr : Row w B A' news) (hl : news.length = m * s') (h1 : ∀ u ∈ news, u.oneCell' = true)
    (h63 : n + m ≤ maxLen) (hbytes : (n + m) * bytes ≤ 140737488355328)
    (h : ∀ A2 c2 w1, Mem R s w1 L (O.set k ⟨e, s', A2, n + m, c2, cs ++ news⟩) → Only (fun q => ownAt A c = some q) w w1 → (ownAt A2 c2 = ownAt A c ∨ ∃ q, ownAt A2 c2 = some q ∧ w.heap.size ≤ q) → wpList P ops Q rest (a.put o.dst (.slice A2 (n + m) c2)) w1) : wpList P ops Q (o :: rest) a w := by
  refine wpList_go hw (wp_append w x y t ho 0 e i z s' bytes ht hi hz hsize hby hzs hsz A n c cs hx (hm.sl_ k hk) B A' m c' news hy hr hl h1 h63 hbytes (Nat.zero_le _) ?_)
  intro A2 c2 w2 h2 h3 h4
  have ho2 : Only (fun q => ownAt A c = some q) w w2 := (Only.refl _ _).grown h3 (fun k e => e)
  exact h A2 c2 w2 (hm.app k hk h2 ho2 h4) ho2 (h4.imp_right fun e => ⟨_, e, Nat.le_refl _⟩)
/-- A load of one cell in a quiet region. -/
theorem wpQuiet_ld {Q : Act → Prop} (hw : Region.wanted o (yielded ops a.tmps) = true) (ty : TypeId) (x : Operand) (ho : o.op = .load ty x) (g i : Nat) (hx : a.eval x = .pointer (some ⟨g, i, none⟩))
    (hm : Mem R s w L O) (k : Nat) (t : TypeId) (cs : Array Value) (hk : L[k]? = some ⟨g, t, cs⟩) (hT : oneT P ty = true) (v : Value) (hv : cs[i]? = some v)
    (h : wpQuiet P ops (fun w' => ∃ k, w' = w.drewN k) Q rest (a.put o.dst v)) : wpQuiet P ops (fun w' => ∃ k, w' = w.drewN k) Q (o :: rest) a := by
  refine BigFrame.wpQuiet_want hw (fun K hK => ⟨v, fun w' hw' => ?_, hK _ h⟩)
  obtain ⟨d, rfl⟩ := hw'
  have hb : Blk (w.drewN d) g t cs := (hm.at_ k hk).drewN d
  unfold Oper.quietAt execOp
  simp only [ho, hx, Sem.run_bind, run_load1 hb hT hv, Sem.run_pure, Result.andThen_ok]
  first | exact ⟨trivial, d, rfl⟩ | exact ⟨rfl, d, rfl⟩ | exact ⟨rfl, rfl⟩ | exact rfl
/-- What a region that draws its order may count on. -/
def MemS (R : Nat → Prop) (s : World) (L : List Ent) (O : List Osl) (u : World) : Prop := Mem R s u L O
theorem MemS.of (h : Mem R s w L O) : MemS R s L O w := h
theorem MemS.mem (h : MemS R s L O w) : Mem R s w L O := h
/-- A load of one cell, in whatever world. -/
theorem MemS.ld (h : MemS R s L O w) (ty : TypeId) (x : Operand) (ho : o.op = .load ty x) (g i : Nat) (hx : a.eval x = .pointer (some ⟨g, i, none⟩)) (k : Nat) (t : TypeId) (cs : Array Value) (hk : L[k]? = some ⟨g, t, cs⟩) (hT : oneT P ty = true) (v : Value) (hv : cs[i]? = some v) :
    (execOp a.eval o).run P w = .ok (.value v) w := by
  unfold execOp
  simp only [ho, hx, Sem.run_bind, run_load1 (h.mem.at_ k hk) hT hv, Sem.run_pure, Result.andThen_ok]
end
end Go.Proofs.Ytpacdjkikbdkeaa
end

section
namespace Go.Proofs.Ytpacdjkikbdkeaa
set_option maxRecDepth 100000
set_option linter.unusedSimpArgs false
set_option linter.unusedVariables false
open Go.RowKit
section
variable {P : Program} {ops : Array Oper} {o : Oper} {a : Act} {w s : World} {Q : Exit → Act → World → Prop} {K : Act → World → Prop} {E : Prop} {R : Nat → Prop} {L : List Ent} {O : List Osl} {g i : Nat} {t : TypeId} {cs : Array Value}
/-- A load of one cell, in whatever world in which the block is known. -/
theorem exec_ld (hb : Blk w g t cs) (ty : TypeId) (x : Operand) (ho : o.op = .load ty x) (hx : a.eval x = .pointer (some ⟨g, i, none⟩)) (hT : oneT P ty = true) (v : Value) (hv : cs[i]? = some v) :
    (execOp a.eval o).run P w = .ok (.value v) w := by
  unfold execOp
  simp only [ho, hx, Sem.run_bind, run_load1 hb hT hv, Sem.run_pure, Result.andThen_ok]
theorem run_load_cell {ty : TypeId} {p : Addr} (hT : oneT P ty = true) {v : Value} (hv : w.cell? p = some v) : (Instr.loadAt ty (.pointer (some p))).run P w = .ok v w := by
  have hagg : (isAgg ty).run P w = .ok false w := by
    unfold oneT at hT
    cases hu : P.underlying ty with
    | none => rw [hu] at hT; cases hT
    | some d =>
      unfold isAgg
      rw [Sem.run_bind, run_underlying hu w]
      cases d <;> simp_all
  simp [Instr.loadAt, Instr.sureAddr, loadVar, Sem.run_bind, hagg, hv]
/-- A load of a cell that is known by itself. -/
theorem wpList_lc {rest : List Oper} (hw : Region.wanted o (yielded ops a.tmps) = true) (ty : TypeId) (x : Operand) (ho : o.op = .load ty x) (p : Addr) (hx : a.eval x = .pointer (some p)) (hT : oneT P ty = true) (v : Value) (hv : w.cell? p = some v)
    (h : wpList P ops Q rest (a.put o.dst v) w) : wpList P ops Q (o :: rest) a w := by
  refine wpList_go hw ?_
  unfold Oper.wp execOp
  simp only [ho, hx, Sem.run_bind, run_load_cell hT hv, Sem.run_pure, Result.andThen_ok]
  exact h
theorem exec_lc (ty : TypeId) (x : Operand) (ho : o.op = .load ty x) (p : Addr) (hx : a.eval x = .pointer (some p)) (hT : oneT P ty = true) (v0 : Value) (hv : w.cell? p = some v0) (v : Value) (he : v0 = v) :
    (execOp a.eval o).run P w = .ok (.value v) w := by
  subst he
  unfold execOp
  simp only [ho, hx, Sem.run_bind, run_load_cell hT hv, Sem.run_pure, Result.andThen_ok]
theorem wpQuiet_lc {rest : List Oper} {Q : Act → Prop} (hw : Region.wanted o (yielded ops a.tmps) = true) (ty : TypeId) (x : Operand) (ho : o.op = .load ty x) (p : Addr) (hx : a.eval x = .pointer (some p)) (hT : oneT P ty = true) (v : Value) (hv : w.cell? p = some v)
    (h : wpQuiet P ops (fun w' => ∃ k, w' = w.drewN k) Q rest (a.put o.dst v)) : wpQuiet P ops (fun w' => ∃ k, w' = w.drewN k) Q (o :: rest) a := by
  refine BigFrame.wpQuiet_want hw (fun K hK => ⟨v, fun w' hw' => ?_, hK _ h⟩)
  obtain ⟨d, rfl⟩ := hw'
  have hv : (w.drewN d).cell? p = some v := hv
  unfold Oper.quietAt execOp
  simp only [ho, hx, Sem.run_bind, run_load_cell hT hv, Sem.run_pure, Result.andThen_ok]
  first | exact ⟨trivial, d, rfl⟩ | exact ⟨rfl, d, rfl⟩ | exact ⟨rfl, rfl⟩ | exact rfl
/-- A load of a struct, in whatever world in which the block is known. -/
theorem exec_la (hb : Blk w g t cs) (ty : TypeId) (x : Operand) (ho : o.op = .load ty x) (hx : a.eval x = .pointer (some ⟨g, i, none⟩)) (z : Array Value) (hz : (P.info? ty).bind (·.zero) = some (.agg z)) (hT : aggT P ty = true) (hn : (P.info? ty).map (·.size) = some z.size) (hin : i + z.size ≤ cs.size) (v : Value) (hv : Value.agg ((cs.toList.drop i).take z.size).toArray = v) :
    (execOp a.eval o).run P w = .ok (.value v) w := by
  subst hv
  unfold execOp
  simp only [ho, hx, Sem.run_bind, run_loadN hb hT hn hin rfl, Sem.run_pure, Result.andThen_ok]
/-- A block that a step has made. -/
theorem K_up (hm : Mem R s w L O) (h : ∀ n w1, n = w.heap.size → s.heap.size ≤ n → Blk w1 n t cs → Mem R s w1 L O → (∀ e ∈ L, e.g ≠ n) → (∀ x ∈ O, ownAt x.A x.c ≠ some n) → Below w.heap.size w w1 → K a w1) : K a (w.alloc (.cells cs t)) :=
  h w.heap.size _ rfl hm.only.size (Blk.new w t cs) (hm.alloc _) (fun e he => by have := hm.lt he; omega) (fun x hx e => by have := hm.slt hx e; omega) ((Below.refl _ _).alloc (Nat.le_refl _) _)
theorem step_st (hw : Region.wanted o (yielded ops a.tmps) = true) (ty : TypeId) (x y : Operand) (ho : o.op = .store ty x y) (g i : Nat) (hx : a.eval x = .pointer (some ⟨g, i, none⟩)) (v : Value) (hy : a.eval y = v)
    (hm : Mem R s w L O) (k : Nat) (t : TypeId) (cs : Array Value) (hk : L[k]? = some ⟨g, t, cs⟩) (vs : Array Value) (hc : v.cells = vs) (hi : (P.info? ty).map (·.size) = some vs.size) (h1 : vs.all (·.oneCell') = true) (hin : i + vs.size ≤ cs.size)
    (L' : List Ent) (hL : L.set k ⟨g, t, spl cs i vs⟩ = L')
    (h : ∀ w1, w.heap.size ≤ w1.heap.size → Mem R s w1 L' O → Only (fun q => q = g) w w1 → K (a.put o.dst undef) w1) : if Region.wanted o (yielded ops a.tmps) = true then Oper.wp P o a w K Q else E := by
  subst hL
  rw [if_pos hw]
  unfold Oper.wp execOp
  simp only [ho, hx, hy, Sem.run_bind, run_storeN (hm.at_ k hk) hc hi h1 hin, Sem.run_pure, Result.andThen_ok]
  obtain ⟨e1, e2, e3, e4, e5⟩ := setCells_turn w g i vs.toList
  exact h _ (Nat.le_of_eq e4.symm) (hm.set k hk i vs.toList (by simpa using hin)) ⟨e1, e2, e3, Nat.le_of_eq e4.symm, fun q _ hn => e5 q hn⟩
end
end Go.Proofs.Ytpacdjkikbdkeaa
end

section
namespace Go.Proofs.Ytpacdjkikbdkeaa
set_option maxRecDepth 100000
set_option linter.unusedSimpArgs false
set_option linter.unusedVariables false
open Go.RowKit
section
variable {w s : World} {R : Nat → Prop} {L L' : List Ent} {O O' : List Osl}
theorem Mem.part (h : Mem R s w L O) (hL : L'.Sublist L) (hO : O'.Sublist O) : Mem R s w L' O' :=
  { only := h.only
    blk := fun e he => h.blk e (hL.subset he)
    own := fun e he => h.own e (hL.subset he)
    diff := h.diff.sublist (hL.map _)
    sl := fun x hx => h.sl x (hO.subset hx)
    slR := fun x hx => h.slR x (hO.subset hx)
    slL := fun x hx e he => h.slL x (hO.subset hx) e (hL.subset he)
    slO := h.slO.sublist hO }
/-- All but one known block. -/
theorem Mem.wo (h : Mem R s w L O) (k : Nat) : Mem R s w (L.eraseIdx k) O := h.part (List.eraseIdx_sublist _ _) (List.Sublist.refl _)
/-- All but one slice. -/
theorem Mem.woO (h : Mem R s w L O) (k : Nat) : Mem R s w L (O.eraseIdx k) := h.part (List.Sublist.refl _) (List.eraseIdx_sublist _ _)
/-- The blocks alone. -/
theorem Mem.noO (h : Mem R s w L O) : Mem R s w L [] := h.part (List.Sublist.refl _) (List.nil_sublist _)
theorem Mem.takeO (h : Mem R s w L O) (k : Nat) : Mem R s w L (O.take k) := h.part (List.Sublist.refl _) (List.take_sublist _ _)
/-- The same memory, counted from the world at hand: the known blocks alone may turn. -/
theorem Mem.rebase (h : Mem R s w L O) : Mem (fun q => ∃ e ∈ L, q = e.g) w w L [] :=
  { only := Only.refl _ _, blk := h.blk, own := fun e he => .inl ⟨e, he, rfl⟩, diff := h.diff, sl := fun x hx => (by cases hx), slR := fun x hx => (by cases hx), slL := fun x hx => (by cases hx), slO := .nil }
/-- .. and back: the slices of old are still there. -/
theorem Mem.backO {u : World} {L0 : List Ent} {O0 : List Osl} (h0 : Mem R s w L0 O0) (h : Mem (fun q => ∃ e ∈ L0, q = e.g) w u L O) : Mem R s u L (O0 ++ O) := by
  have hR : ∀ q, (∃ e ∈ L0, q = e.g) ∨ w.heap.size ≤ q → R q ∨ s.heap.size ≤ q := fun q hq => by
    rcases hq with ⟨e, he, rfl⟩ | hq
    · exact h0.own e he
    · exact .inr (Nat.le_trans h0.only.size hq)
  have hN : ∀ x ∈ O0, ∀ q, ownAt x.A x.c = some q → ¬ ((∃ e ∈ L0, q = e.g) ∨ w.heap.size ≤ q) := fun x hx q hq hq2 => by
    rcases hq2 with ⟨e, he, rfl⟩ | hq2
    · exact h0.slL x hx e he hq
    · have := h0.slt hx hq; omega
  refine { only := h0.only.more h.only (fun q _ hq => hR q (.inl hq)), blk := h.blk, own := fun e he => hR _ (h.own e he), diff := h.diff, sl := ?_, slR := ?_, slL := ?_, slO := ?_ }
  · intro x hx
    rcases List.mem_append.1 hx with hx | hx
    · exact (h0.sl x hx).only' h.only (fun q hq hq2 => hN x hx q hq (.inl hq2))
    · exact h.sl x hx
  · intro x hx q hq
    rcases List.mem_append.1 hx with hx | hx
    · exact h0.slR x hx q hq
    · exact hR q (h.slR x hx q hq)
  · intro x hx e he hq
    rcases List.mem_append.1 hx with hx | hx
    · exact hN x hx _ hq (h.own e he)
    · exact h.slL x hx e he hq
  · rw [List.pairwise_append]
    exact ⟨h0.slO, h.slO, fun x hx y hy q hq hq2 => hN x hx q hq (h.slR y hy q hq2)⟩
theorem Mem.nm {e : Ent} (_h : Mem R s w L O) (k : Nat) (_hk : L[k]? = some e) : ∃ q, q = e.g := ⟨_, rfl⟩
/-- A slice over a block that is being made. -/
theorem Mem.newrow (h : Mem R s w L O) (t : TypeId) (cs : Array Value) (k m : Nat) (l : List Value) (hl : cs.toList = l) (hlen : l.length = m * k) (hmax : m ≤ maxLen) : Mem R s (w.alloc (.cells cs t)) L (O ++ [⟨t, k, some ⟨w.heap.size, 0, none⟩, m, m, l⟩]) :=
  (h.alloc _).row (Blk.new w t cs) h.only.size (fun e he => by have := h.lt he; omega) (fun x hx e => by have := h.slt hx e; omega) k m l hl hlen hmax
/-- One slice alone. -/
theorem Mem.oneO {x : Osl} (h : Mem R s w L O) (k : Nat) (hk : O[k]? = some x) : Mem R s w L [x] := h.part (List.Sublist.refl _) (List.singleton_sublist.2 (List.mem_of_getElem? hk))
theorem Mem.takeL (h : Mem R s w L O) (k : Nat) : Mem R s w (L.take k) O := h.part (List.take_sublist _ _) (List.Sublist.refl _)
end
section
variable {P : Program} {ops : Array Oper} {o : Oper} {a : Act} {w s : World} {Q : Exit → Act → World → Prop} {K : Act → World → Prop} {E : Prop} {R : Nat → Prop} {L : List Ent} {O : List Osl}
/-- A load of one cell, as a step of a region that draws its order. -/
theorem step_ld (hw : Region.wanted o (yielded ops a.tmps) = true) (ty : TypeId) (x : Operand) (ho : o.op = .load ty x) (g i : Nat) (hx : a.eval x = .pointer (some ⟨g, i, none⟩))
    (hm : Mem R s w L O) (k : Nat) (t : TypeId) (cs : Array Value) (hk : L[k]? = some ⟨g, t, cs⟩) (hT : oneT P ty = true) (v : Value) (hv : cs[i]? = some v)
    (h : K (a.put o.dst v) w) : if Region.wanted o (yielded ops a.tmps) = true then Oper.wp P o a w K Q else E := by
  rw [if_pos hw]
  unfold Oper.wp
  rw [exec_ld (hm.at_ k hk) ty x ho hx hT v hv]
  exact h
/-- A new variable, as a step of a region that draws its order. -/
theorem step_al (hw : Region.wanted o (yielded ops a.tmps) = true) (ty : TypeId) (ho : o.op = .alloc ty) (z : Value) (hz : (P.info? ty).bind (·.zero) = some z) (cs : Array Value) (hc : z.cells = cs)
    (hm : Mem R s w L O) (h : ∀ n w1, w.heap.size ≤ n → w.heap.size ≤ w1.heap.size → Mem R s w1 (L ++ [⟨n, ty, cs⟩]) O → Below w.heap.size w w1 → K (a.put o.dst (.pointer (some ⟨n, 0, none⟩))) w1) : if Region.wanted o (yielded ops a.tmps) = true then Oper.wp P o a w K Q else E := by
  rw [if_pos hw]
  subst hc
  cases hq : P.info? ty with
  | none => simp [hq] at hz
  | some d =>
    have hd : d.zero = some z := by simpa [hq] using hz
    have hrun : (Instr.alloc ty true (.tuple #[])).run P w = .ok (.pointer (some ⟨w.heap.size, 0, none⟩)) (w.alloc (.cells z.cells ty)) := by
      simp [Instr.alloc, zeroValue, typeInfo, hq, hd, newVar, newRow]
    unfold Oper.wp execOp
    simp only [ho, Sem.run_bind, hrun, Sem.run_pure, Result.andThen_ok]
    exact h w.heap.size _ (Nat.le_refl _) (by simp) (hm.snoc ty _) ((Below.refl _ _).alloc (Nat.le_refl _) _)
/-- A load of a struct, as a step of a region that draws its order. -/
theorem step_la (hw : Region.wanted o (yielded ops a.tmps) = true) (ty : TypeId) (x : Operand) (ho : o.op = .load ty x) (g i : Nat) (hx : a.eval x = .pointer (some ⟨g, i, none⟩))
    (hm : Mem R s w L O) (k : Nat) (t : TypeId) (cs : Array Value) (hk : L[k]? = some ⟨g, t, cs⟩) (z : Array Value) (hz : (P.info? ty).bind (·.zero) = some (.agg z)) (hT : aggT P ty = true) (hn : (P.info? ty).map (·.size) = some z.size) (hin : i + z.size ≤ cs.size) (v : Value) (hv : Value.agg ((cs.toList.drop i).take z.size).toArray = v)
    (h : K (a.put o.dst v) w) : if Region.wanted o (yielded ops a.tmps) = true then Oper.wp P o a w K Q else E := by
  rw [if_pos hw]
  unfold Oper.wp
  rw [exec_la (hm.at_ k hk) ty x ho hx z hz hT hn hin v hv]
  exact h
end
section
variable {P : Program} {o : Oper} {a : Act} {w s : World} {R : Nat → Prop} {L : List Ent} {O : List Osl}
theorem MemS.la (h : MemS R s L O w) (ty : TypeId) (x : Operand) (ho : o.op = .load ty x) (g i : Nat) (hx : a.eval x = .pointer (some ⟨g, i, none⟩)) (k : Nat) (t : TypeId) (cs : Array Value) (hk : L[k]? = some ⟨g, t, cs⟩) (z : Array Value) (hz : (P.info? ty).bind (·.zero) = some (.agg z)) (hT : aggT P ty = true) (hn : (P.info? ty).map (·.size) = some z.size) (hin : i + z.size ≤ cs.size) (v : Value) (hv : Value.agg ((cs.toList.drop i).take z.size).toArray = v) :
    (execOp a.eval o).run P w = .ok (.value v) w := exec_la (h.mem.at_ k hk) ty x ho hx z hz hT hn hin v hv
end
/-- The slices among the cells of a struct lie in blocks that meet F. -/
def Far (F : Nat → Prop) (cs : Array Value) : Prop := ∀ A n c, Value.slice A n c ∈ cs.toList → 0 < n → ∀ a, A = some a → F a.block
theorem Far.mono {F F' : Nat → Prop} {cs : Array Value} (h : Far F cs) (hF : ∀ q, F q → F' q) : Far F' cs := fun A n c hm hn a e => hF _ (h A n c hm hn a e)
theorem Far.old {F : Nat → Prop} {k : Nat} {cs : Array Value} (h : Far F cs) : Far (fun q => F q ∨ k ≤ q) cs := h.mono fun _ e => .inl e
theorem Far.and {F G : Nat → Prop} {cs : Array Value} (h : Far F cs) (k : Far G cs) : Far (fun q => F q ∧ G q) cs := fun A n c hm hn a e => ⟨h A n c hm hn a e, k A n c hm hn a e⟩
theorem Far.nil {F : Nat → Prop} : Far F #[] := fun A n c hm => by cases hm
theorem Far.cons {F : Nat → Prop} {v : Value} {l : List Value} (h : Far F l.toArray) (hv : ∀ A n c, v = .slice A n c → 0 < n → ∀ a, A = some a → F a.block) : Far F (v :: l).toArray := fun A n c hm => by
  rcases List.mem_cons.1 hm with e | hm
  · exact hv A n c e.symm
  · exact h A n c hm
theorem Far.at_ {F : Nat → Prop} {cs : Array Value} (h : Far F cs) {A : Option Addr} {n c : Nat} (k : Nat) (hk : cs[k]? = some (.slice A n c)) : 0 < n → ∀ a, A = some a → F a.block := h A n c (by
  have : cs.toList[k]? = some (.slice A n c) := by simpa using hk
  exact List.mem_of_getElem? this)
theorem Own.far {w : World} {base : Nat} {t : TypeId} {s : Nat} {A : Option Addr} {n c : Nat} {cs : List Value} (h : Own w base t s A n c cs) : 0 < n → ∀ a, A = some a → base ≤ a.block := fun hn a e => by
  have hc := h.le
  exact (h.lt a.block (by unfold ownAt; rw [if_neg (by omega), e]; rfl)).1
theorem Row.far {w u : World} {F R : Nat → Prop} {A : Option Addr} {cs : List Value} (h : Row w w.heap.size A cs) (hf : 0 < cs.length → ∀ a, A = some a → F a.block) (ho : Only R w u) (hR : ∀ q, q < w.heap.size → R q → ¬ F q) : Row u u.heap.size A cs := fun hn => by
  obtain ⟨b, o, e, hb, hc⟩ := h hn
  have hF := hf hn _ e
  exact ⟨b, o, e, Nat.lt_of_lt_of_le hb ho.size, fun j hj => (World.cell?_of_block (ho.block b hb fun hr => hR b hb hr hF)).trans (hc j hj)⟩
theorem Byt.far {w u : World} {F R : Nat → Prop} {A : Option Addr} {n c : Nat} {bs : List UInt8} (h : Byt w w.heap.size A n c bs) (hf : 0 < n → ∀ a, A = some a → F a.block) (ho : Only R w u) (hR : ∀ q, q < w.heap.size → R q → ¬ F q) : Byt u u.heap.size A n c bs :=
  ⟨h.1, h.2.1, h.2.2.far (fun hn => hf (by have := h.1; rw [length_bcells] at hn; omega)) ho hR⟩
end Go.Proofs.Ytpacdjkikbdkeaa
end

section
namespace Go.Proofs.Ytpacdjkikbdkeaa
set_option maxRecDepth 100000
set_option linter.unusedSimpArgs false
set_option linter.unusedVariables false
open Go.RowKit

/-- A block is among the known ones. -/
structure In (g : Nat) (t : TypeId) (cs : Array Value) (L : List Ent) : Prop where
  at_ : ∃ k : Nat, L[k]? = some ⟨g, t, cs⟩
theorem In.a {g : Nat} {t : TypeId} {cs : Array Value} {L : List Ent} : In g t cs (⟨g, t, cs⟩ :: L) := ⟨0, rfl⟩
theorem In.b {g : Nat} {t : TypeId} {cs : Array Value} {e : Ent} {L : List Ent} (h : In g t cs L) : In g t cs (e :: L) := by
  obtain ⟨k, h⟩ := h
  exact ⟨k + 1, h⟩
/-- A block's cells are put in place of the old ones. -/
structure Put (g : Nat) (t : TypeId) (cs cs' : Array Value) (L L' : List Ent) : Prop where
  at_ : ∃ k : Nat, L[k]? = some ⟨g, t, cs⟩ ∧ L.set k ⟨g, t, cs'⟩ = L'
theorem Put.a {g : Nat} {t : TypeId} {cs cs' : Array Value} {L : List Ent} : Put g t cs cs' (⟨g, t, cs⟩ :: L) (⟨g, t, cs'⟩ :: L) := ⟨0, rfl, rfl⟩
theorem Put.b {g : Nat} {t : TypeId} {cs cs' : Array Value} {e : Ent} {L L' : List Ent} (h : Put g t cs cs' L L') : Put g t cs cs' (e :: L) (e :: L') := by
  obtain ⟨k, h, h2⟩ := h
  exact ⟨k + 1, h, by rw [List.set_cons_succ, h2]⟩
/-- The first operation at or behind place 'a' that has not come up. -/
structure Seek (l : List Bool) (a i : Nat) : Prop where
  so : True
theorem Seek.a {l : List Bool} : Seek (false :: l) 0 0 := ⟨trivial⟩
theorem Seek.b {l : List Bool} {i : Nat} (_ : Seek l 0 i) : Seek (true :: l) 0 (i + 1) := ⟨trivial⟩
theorem Seek.c {l : List Bool} {b : Bool} {a i : Nat} (_ : Seek l a i) : Seek (b :: l) (a + 1) (i + 1) := ⟨trivial⟩
/-- As many places as operations. -/
structure Fresh (os : List Oper) (l : List Bool) : Prop where
  is : l = List.replicate os.length false
theorem Fresh.a : Fresh [] [] := ⟨rfl⟩
theorem Fresh.b {o : Oper} {os : List Oper} {l : List Bool} (h : Fresh os l) : Fresh (o :: os) (false :: l) := by
  exact ⟨by rw [h.is]; rfl⟩

section
variable {P : Program} {md : Region.Mode} {S : World → Prop} {ops : Array Oper} {rest : List Oper} {o : Oper} {a : Act} {w s : World} {Q : Exit → Act → World → Prop} {R : Nat → Prop} {L : List Ent} {O : List Osl} {K : Act → World → Prop} {E : Prop}
theorem wpAnyH_fresh {os : List Oper} {l : List Bool} {fuel : Nat} (hl : Fresh os l) (h : wpAnyH P md os.toArray Q S fuel l.toArray a w) : wpAnyH P md os.toArray Q S fuel (Array.replicate os.toArray.size false) a w := by
  have : Array.replicate os.toArray.size false = l.toArray := by rw [hl.is]; simp
  rw [this]; exact h
theorem wpAnyH_take3 {l : List Bool} {i b : Nat} {oi : Oper} {fuel : Nat} (_ : Seek l b i) (hi : ops[i]? = some oi)
    (h : ∃ v, Region.noSelect ops = true ∧ Region.free md ops l.toArray i = true ∧ (Region.ready md ops l.toArray).contains i = true ∧
      (∀ c a w, Q (.panic c) (a.put oi.dst v) w → Q (.panic c) a w) ∧ YieldsIf P ops S oi v a ∧ S w ∧ wpAnyH P md ops Q S fuel (l.toArray.setIfInBounds i true) (a.put oi.dst v) w) : wpAnyH P md ops Q S (fuel + 1) l.toArray a w := wpAnyH_take2 hi h
theorem wpList_ldS (hw : Region.wanted o (yielded ops a.tmps) = true) (ty : TypeId) (x : Operand) (ho : o.op = .load ty x) (g i : Nat) (hx : a.eval x = .pointer (some ⟨g, i, none⟩))
    (hm : Mem R s w L O) (t : TypeId) (cs : Array Value) (hk : In g t cs L) (hT : oneT P ty = true) (v : Value) (hv : cs[i]? = some v)
    (h : wpList P ops Q rest (a.put o.dst v) w) : wpList P ops Q (o :: rest) a w := by
  obtain ⟨k, hk⟩ := hk
  exact wpList_ld hw ty x ho g i hx hm k t cs hk hT v hv h
theorem wpList_laS (hw : Region.wanted o (yielded ops a.tmps) = true) (ty : TypeId) (x : Operand) (ho : o.op = .load ty x) (g i : Nat) (hx : a.eval x = .pointer (some ⟨g, i, none⟩))
    (hm : Mem R s w L O) (t : TypeId) (cs : Array Value) (hk : In g t cs L) (hT : aggT P ty = true) (z : Array Value) (hz : (P.info? ty).bind (·.zero) = some (.agg z)) (hn : (P.info? ty).map (·.size) = some z.size) (hin : i + z.size ≤ cs.size) (vs : Array Value) (hv : ((cs.toList.drop i).take z.size).toArray = vs)
    (h : wpList P ops Q rest (a.put o.dst (.agg vs)) w) : wpList P ops Q (o :: rest) a w := by
  obtain ⟨k, hk⟩ := hk
  exact wpList_la hw ty x ho g i hx hm k t cs hk z hz hT hn hin vs hv h
theorem wpList_stS (hw : Region.wanted o (yielded ops a.tmps) = true) (ty : TypeId) (x y : Operand) (ho : o.op = .store ty x y) (g i : Nat) (hx : a.eval x = .pointer (some ⟨g, i, none⟩)) (v : Value) (hy : a.eval y = v)
    (hm : Mem R s w L O) (vs : Array Value) (hc : v.cells = vs) (t : TypeId) (cs cs' : Array Value) (L' : List Ent) (hL : Put g t cs cs' L L') (hi : (P.info? ty).map (·.size) = some vs.size) (h1 : vs.all (·.oneCell') = true) (hin : i + vs.size ≤ cs.size)
    (hcs : spl cs i vs = cs')
    (h : ∀ w1, w.heap.size ≤ w1.heap.size → Mem R s w1 L' O → Only (fun q => q = g) w w1 → wpList P ops Q rest (a.put o.dst undef) w1) : wpList P ops Q (o :: rest) a w := by
  obtain ⟨k, hk, rfl⟩ := hL
  subst hcs
  exact wpList_st hw ty x y ho g i hx v hy hm k t cs hk vs hc hi h1 hin _ rfl h
theorem wpQuiet_ldS {Q : Act → Prop} (hw : Region.wanted o (yielded ops a.tmps) = true) (ty : TypeId) (x : Operand) (ho : o.op = .load ty x) (g i : Nat) (hx : a.eval x = .pointer (some ⟨g, i, none⟩))
    (hm : Mem R s w L O) (t : TypeId) (cs : Array Value) (hk : In g t cs L) (hT : oneT P ty = true) (v : Value) (hv : cs[i]? = some v)
    (h : wpQuiet P ops (fun w' => ∃ k, w' = w.drewN k) Q rest (a.put o.dst v)) : wpQuiet P ops (fun w' => ∃ k, w' = w.drewN k) Q (o :: rest) a := by
  obtain ⟨k, hk⟩ := hk
  exact wpQuiet_ld hw ty x ho g i hx hm k t cs hk hT v hv h
theorem MemS.ldS (h : MemS R s L O w) (ty : TypeId) (x : Operand) (ho : o.op = .load ty x) (g i : Nat) (hx : a.eval x = .pointer (some ⟨g, i, none⟩)) (t : TypeId) (cs : Array Value) (hk : In g t cs L) (hT : oneT P ty = true) (v : Value) (hv : cs[i]? = some v) :
    (execOp a.eval o).run P w = .ok (.value v) w := by
  obtain ⟨k, hk⟩ := hk
  exact MemS.ld h ty x ho g i hx k t cs hk hT v hv
theorem MemS.laS (h : MemS R s L O w) (ty : TypeId) (x : Operand) (ho : o.op = .load ty x) (g i : Nat) (hx : a.eval x = .pointer (some ⟨g, i, none⟩)) (t : TypeId) (cs : Array Value) (hk : In g t cs L) (hT : aggT P ty = true) (z : Array Value) (hz : (P.info? ty).bind (·.zero) = some (.agg z)) (hn : (P.info? ty).map (·.size) = some z.size) (hin : i + z.size ≤ cs.size) (v : Value) (hv : Value.agg ((cs.toList.drop i).take z.size).toArray = v) :
    (execOp a.eval o).run P w = .ok (.value v) w := by
  obtain ⟨k, hk⟩ := hk
  exact exec_la (h.mem.at_ k hk) ty x ho hx z hz hT hn hin v hv
theorem step_ldS (hw : Region.wanted o (yielded ops a.tmps) = true) (ty : TypeId) (x : Operand) (ho : o.op = .load ty x) (g i : Nat) (hx : a.eval x = .pointer (some ⟨g, i, none⟩))
    (hm : Mem R s w L O) (t : TypeId) (cs : Array Value) (hk : In g t cs L) (hT : oneT P ty = true) (v : Value) (hv : cs[i]? = some v)
    (h : K (a.put o.dst v) w) : if Region.wanted o (yielded ops a.tmps) = true then Oper.wp P o a w K Q else E := by
  obtain ⟨k, hk⟩ := hk
  exact step_ld hw ty x ho g i hx hm k t cs hk hT v hv h
theorem step_stS (hw : Region.wanted o (yielded ops a.tmps) = true) (ty : TypeId) (x y : Operand) (ho : o.op = .store ty x y) (g i : Nat) (hx : a.eval x = .pointer (some ⟨g, i, none⟩)) (v : Value) (hy : a.eval y = v)
    (hm : Mem R s w L O) (vs : Array Value) (hc : v.cells = vs) (t : TypeId) (cs cs' : Array Value) (L' : List Ent) (hL : Put g t cs cs' L L') (hi : (P.info? ty).map (·.size) = some vs.size) (h1 : vs.all (·.oneCell') = true) (hin : i + vs.size ≤ cs.size)
    (hcs : spl cs i vs = cs')
    (h : ∀ w1, w.heap.size ≤ w1.heap.size → Mem R s w1 L' O → Only (fun q => q = g) w w1 → K (a.put o.dst undef) w1) : if Region.wanted o (yielded ops a.tmps) = true then Oper.wp P o a w K Q else E := by
  obtain ⟨k, hk, rfl⟩ := hL
  subst hcs
  exact step_st hw ty x y ho g i hx v hy hm k t cs hk vs hc hi h1 hin _ rfl h
end
end Go.Proofs.Ytpacdjkikbdkeaa
end

section
namespace Go.Proofs.Ytpacdjkikbdkeaa.Oct
set_option maxRecDepth 100000
set_option linter.unusedSimpArgs false
set_option linter.unusedVariables false

/-- The digit of a number below 16. -/
def dg (n : Nat) : UInt8 := if n < 10 then UInt8.ofNat (48 + n) else UInt8.ofNat (87 + n)
def hexS (b : List UInt8) : List UInt8 := b.flatMap fun x => [dg (x.toNat / 16), dg (x.toNat % 16)]
/-- The value of a digit, or -1. -/
def dv (c : Nat) : Int := if 48 ≤ c ∧ c ≤ 57 then (c : Int) - 48 else if 97 ≤ c ∧ c ≤ 102 then (c : Int) - 87 else if 65 ≤ c ∧ c ≤ 70 then (c : Int) - 55 else -1
theorem dv_bd (c : Nat) : -1 ≤ dv c ∧ dv c ≤ 15 := by unfold dv; repeat' split
                                                      all_goals omega
theorem dv_high (c : Nat) (h : 128 ≤ c) : dv c = -1 := by
  unfold dv; rw [if_neg (by omega), if_neg (by omega), if_neg (by omega)]
theorem dv_dg : ∀ n, n < 16 → dv (dg n).toNat = n := by decide +kernel
def isD (c : UInt8) : Bool := decide (0 ≤ dv c.toNat)
def dn (c : UInt8) : Nat := (dv c.toNat).toNat
theorem dn_lt (c : UInt8) : dn c < 16 := by have := dv_bd c.toNat; unfold dn; omega
/-- The bytes of pairs of digits. -/
def prs : List UInt8 → List UInt8
  | a :: b :: r => UInt8.ofNat (dn a * 16 + dn b) :: prs r
  | _ => []
def prOk (s : List UInt8) : Bool := s.length % 2 == 0 && s.all isD
def prE (s : List UInt8) : Int := if prOk s then 0 else 4
def prB (s : List UInt8) : List UInt8 := if prOk s then prs s else []
theorem prs_length : ∀ s : List UInt8, (prs s).length = s.length / 2
  | [] => rfl
  | [_] => by simp [prs]
  | a :: b :: r => by simp only [prs, List.length_cons]; rw [prs_length r]; omega
theorem prs_get : ∀ (s : List UInt8) (j : Nat), 2 * j + 1 < s.length → (prs s).getD j 0 = UInt8.ofNat (dn (s.getD (2 * j) 0) * 16 + dn (s.getD (2 * j + 1) 0))
  | [], j, h => by simp at h
  | [_], j, h => by simp at h
  | a :: b :: r, 0, _ => by simp [prs]
  | a :: b :: r, j + 1, h => by
    have := prs_get r j (by simp only [List.length_cons] at h; omega)
    simp only [prs, List.getD_cons_succ, show 2 * (j + 1) = 2 * j + 1 + 1 by omega]
    exact this
theorem hexS_length (b : List UInt8) : (hexS b).length = 2 * b.length := by
  induction b with
  | nil => rfl
  | cons x b ih => simp only [hexS, List.flatMap_cons, List.length_append, List.length_cons, List.length_nil] at *; omega
theorem hexS_ok (b : List UInt8) : prOk (hexS b) = true := by
  unfold prOk
  rw [hexS_length]
  simp only [Nat.mul_mod_right, beq_self_eq_true, Bool.true_and]
  rw [List.all_eq_true]
  intro c hc
  obtain ⟨x, _, hx⟩ := List.mem_flatMap.1 hc
  have hx256 := x.toNat_lt
  have : c = dg (x.toNat / 16) ∨ c = dg (x.toNat % 16) := by simpa using hx
  rcases this with rfl | rfl
  · unfold isD; rw [dv_dg _ (by omega)]; simp; omega
  · unfold isD; rw [dv_dg _ (by omega)]; simp; omega
theorem prs_hexS (b : List UInt8) : prs (hexS b) = b := by
  induction b with
  | nil => rfl
  | cons x b ih =>
    have hx := x.toNat_lt
    simp only [hexS, List.flatMap_cons, List.cons_append, List.nil_append, prs] at *
    rw [ih]
    congr 1
    unfold dn
    rw [dv_dg _ (by omega), dv_dg _ (by omega)]
    apply UInt8.toNat_inj.1
    rw [UInt8.toNat_ofNat']
    simp only [Int.toNat_natCast]
    omega
theorem hexS_take (b : List UInt8) (k : Nat) (h : k < b.length) : hexS (b.take (k + 1)) = hexS (b.take k) ++ [dg ((b.getD k 0).toNat / 16), dg ((b.getD k 0).toNat % 16)] := by
  rw [List.take_succ_eq_append_getElem h]
  simp only [hexS, List.flatMap_append, List.flatMap_cons, List.flatMap_nil, List.append_nil, List.getD, List.getElem?_eq_getElem h, Option.getD_some]

/-- Padding: the byte 80 and as few zeros as are necessary. -/
def padN (len n : Nat) : Nat := if (len + 1) % n = 0 then 0 else n - (len + 1) % n
def pad (b : List UInt8) (n : Nat) : List UInt8 := b ++ [0x80] ++ List.replicate (padN b.length n) 0
def padOk (n : Int) : Bool := decide (1 ≤ n) && decide (n ≤ 65536)
def padE (n : Int) : Int := if padOk n then 0 else 1
def padB (b : List UInt8) (n : Int) : List UInt8 := if padOk n then pad b n.toNat else []
def unpR : List UInt8 → Option (List UInt8)
  | [] => none
  | x :: r => if x = 0 then unpR r else if x = 0x80 then some r.reverse else none
def unp (b : List UInt8) : Option (List UInt8) := unpR b.reverse
def unpE (b : List UInt8) : Int := if (unp b).isSome then 0 else 4
def unpB (b : List UInt8) : List UInt8 := (unp b).getD []
theorem unp_snoc (l : List UInt8) (x : UInt8) : unp (l ++ [x]) = if x = 0 then unp l else if x = 0x80 then some l else none := by
  simp only [unp, List.reverse_append, List.reverse_cons, List.reverse_nil, List.nil_append, List.cons_append, unpR, List.reverse_reverse]
theorem unp_take (b : List UInt8) (k : Nat) (h : k < b.length) : unp (b.take (k + 1)) = if b.getD k 0 = 0 then unp (b.take k) else if b.getD k 0 = 0x80 then some (b.take k) else none := by
  rw [List.take_succ_eq_append_getElem h, unp_snoc]
  simp only [List.getD, List.getElem?_eq_getElem h, Option.getD_some]
theorem unp_pad (b : List UInt8) (n : Nat) : unp (pad b n) = some b := by
  unfold pad
  generalize padN b.length n = m
  induction m with
  | zero => rw [List.replicate_zero, List.append_nil, unp_snoc, if_neg (by decide), if_pos rfl]
  | succ m ih => rw [List.replicate_succ', ← List.append_assoc, unp_snoc, if_pos rfl]; exact ih
theorem padN_lt (len n : Nat) (h : 1 ≤ n) : padN len n < n := by
  unfold padN
  have := Nat.mod_lt (len + 1) (show 0 < n by omega)
  split <;> omega
theorem pad_length (b : List UInt8) (n : Nat) : (pad b n).length = b.length + 1 + padN b.length n := by simp [pad]; omega
theorem pad_mod (b : List UInt8) (n : Nat) (h : 1 ≤ n) : (pad b n).length % n = 0 := by
  rw [pad_length]
  unfold padN
  split
  · omega
  · have h1 := Nat.mod_lt (b.length + 1) (show 0 < n by omega)
    have h2 : b.length + 1 + (n - (b.length + 1) % n) = n * ((b.length + 1) / n) + n := by have := Nat.div_add_mod (b.length + 1) n; omega
    rw [h2]
    simp

/-- A number as bytes, the most significant one first. -/
def putB (n width : Nat) : List UInt8 := (List.range width).map fun j => UInt8.ofNat (n / 256 ^ (width - 1 - j))
def numK (b : List UInt8) (k : Nat) : Nat := (List.range k).foldl (fun n i => n * 256 + (b.getD i 0).toNat) 0
def num (b : List UInt8) : Nat := numK b b.length
theorem numK_succ (b : List UInt8) (k : Nat) : numK b (k + 1) = numK b k * 256 + (b.getD k 0).toNat := by simp [numK, List.range_succ]
theorem numK_lt (b : List UInt8) (k : Nat) : numK b k < 256 ^ k := by
  induction k with
  | zero => simp [numK]
  | succ k ih => rw [numK_succ, Nat.pow_succ]; have := (b.getD k 0).toNat_lt; omega
/-- The errors of Put, and its bytes. -/
def ptE (n width : Int) : Int := if width < 1 ∨ 8 < width then 1 else if n < 0 ∨ (256 : Int) ^ width.toNat ≤ n then 2 else 0
def ptB (n width : Int) : List UInt8 := if ptE n width = 0 then putB n.toNat width.toNat else []
def gtE (b : List UInt8) : Int := if 8 < b.length then 3 else if 9223372036854775808 ≤ num b then 2 else 0
def gtN (b : List UInt8) : Nat := if gtE b = 0 then num b else 0
theorem putB_length (n width : Nat) : (putB n width).length = width := by simp [putB]
theorem putB_get (n width j : Nat) (h : j < width) : (putB n width).getD j 0 = UInt8.ofNat (n / 256 ^ (width - 1 - j)) := by
  unfold putB
  rw [List.getD, List.getElem?_eq_getElem (by simpa using h)]; simp
theorem numK_putB (n width k : Nat) (h : k ≤ width) : numK (putB n width) k = n % 256 ^ width / 256 ^ (width - k) := by
  induction k with
  | zero => rw [Nat.sub_zero, Nat.div_eq_of_lt (Nat.mod_lt _ (Nat.pow_pos (by omega)))]; rfl
  | succ k ih =>
    rw [numK_succ, ih (by omega), putB_get n width k (by omega)]
    rw [UInt8.toNat_ofNat']
    have e1 : 256 ^ (width - k) = 256 ^ (width - (k + 1)) * 256 := by rw [show width - k = width - (k + 1) + 1 by omega, Nat.pow_succ]
    have e2 : width - 1 - k = width - (k + 1) := by omega
    have e3 : 256 ^ width = 256 ^ (width - (k + 1)) * 256 * 256 ^ k := by rw [← e1, ← Nat.pow_add]; congr 1; omega
    rw [e1, e2, ← Nat.div_div_eq_div_mul]
    have e4 : n / 256 ^ (width - (k + 1)) % 256 = n % 256 ^ width / 256 ^ (width - (k + 1)) % 256 := by
      generalize hq : 256 ^ (width - (k + 1)) = q at *
      have hd : n % 256 ^ width = n % (q * (256 * 256 ^ k)) := by rw [e3, Nat.mul_assoc]
      rw [hd, Nat.mod_mul_right_div_self, Nat.mod_mul_right_mod]
    rw [show 2 ^ 8 = 256 from rfl, e4]
    omega
theorem num_putB (n width : Nat) (h : n < 256 ^ width) : num (putB n width) = n := by
  unfold num
  rw [putB_length, numK_putB n width width (Nat.le_refl _), Nat.sub_self, Nat.pow_zero, Nat.div_one, Nat.mod_eq_of_lt h]

/-- The pieces of n bytes, the last of which may be shorter. -/
def pieces (n : Nat) : Nat → List UInt8 → List (List UInt8)
  | 0, _ => []
  | f + 1, b => if b = [] then [] else b.take n :: pieces n f (b.drop n)
def split (b : List UInt8) (n : Nat) : List (List UInt8) := pieces n b.length b
theorem pieces_fuel (n : Nat) (hn : 1 ≤ n) : ∀ (f g : Nat) (b : List UInt8), b.length ≤ f → b.length ≤ g → pieces n f b = pieces n g b
  | 0, g, b, hf, _ => by
    have : b = [] := List.eq_nil_of_length_eq_zero (by omega)
    subst this
    cases g <;> simp [pieces]
  | f + 1, 0, b, _, hg => by
    have : b = [] := List.eq_nil_of_length_eq_zero (by omega)
    subst this
    simp [pieces]
  | f + 1, g + 1, b, hf, hg => by
    simp only [pieces]
    split
    · rfl
    · rename_i hb
      have h0 : 0 < b.length := List.length_pos_iff.2 hb
      rw [pieces_fuel n hn f g (b.drop n) (by rw [List.length_drop]; omega) (by rw [List.length_drop]; omega)]
theorem split_nil (n : Nat) : split [] n = [] := rfl
theorem split_cons (b : List UInt8) (n : Nat) (hn : 1 ≤ n) (hb : 0 < b.length) : split b n = b.take n :: split (b.drop n) n := by
  unfold split
  obtain ⟨f, hf⟩ : ∃ f, b.length = f + 1 := ⟨b.length - 1, by omega⟩
  rw [hf]
  simp only [pieces]
  rw [if_neg (by intro e; subst e; simp at hb)]
  congr 1
  exact pieces_fuel n hn _ _ _ (by rw [List.length_drop]; omega) (Nat.le_refl _)
theorem split_flat (n : Nat) (hn : 1 ≤ n) : ∀ (m : Nat) (b : List UInt8), b.length ≤ m → (split b n).flatten = b
  | 0, b, h => by
    have : b = [] := List.eq_nil_of_length_eq_zero (by omega)
    subst this; rfl
  | m + 1, b, h => by
    rcases Nat.eq_zero_or_pos b.length with h0 | h0
    · have : b = [] := List.eq_nil_of_length_eq_zero h0
      subst this; rfl
    · rw [split_cons b n hn h0, List.flatten_cons, split_flat n hn m (b.drop n) (by rw [List.length_drop]; omega), List.take_append_drop]
theorem split_length_le (n : Nat) (hn : 1 ≤ n) : ∀ (m : Nat) (b : List UInt8), b.length ≤ m → (split b n).length ≤ b.length
  | 0, b, h => by
    have : b = [] := List.eq_nil_of_length_eq_zero (by omega)
    subst this; exact Nat.le_refl _
  | m + 1, b, h => by
    rcases Nat.eq_zero_or_pos b.length with h0 | h0
    · have : b = [] := List.eq_nil_of_length_eq_zero h0
      subst this; exact Nat.le_refl _
    · have := split_length_le n hn m (b.drop n) (by rw [List.length_drop]; omega)
      rw [split_cons b n hn h0, List.length_cons]
      rw [List.length_drop] at this
      omega
def spE (n : Int) : Int := if n < 1 then 1 else 0
def spB (b : List UInt8) (n : Int) : List (List UInt8) := if n < 1 then [] else split b n.toNat
def xor (a b : List UInt8) : List UInt8 := (List.range a.length).map fun i => a.getD i 0 ^^^ b.getD i 0
theorem xor_back (a b : List UInt8) : xor (xor a b) b = a := by
  apply List.ext_getElem
  · simp [xor]
  · intro i h1 h2
    have h3 : i < (xor a b).length := by simpa [xor] using h2
    simp only [xor, List.getElem_map, List.getElem_range]
    rw [List.getD, List.getElem?_eq_getElem (by simpa using h2)]
    simp [List.getD, List.getElem?_eq_getElem h2, UInt8.xor_assoc]
end Go.Proofs.Ytpacdjkikbdkeaa.Oct
end

section
namespace Go.Proofs.Ytpacdjkikbdkeaa.Apd
set_option maxRecDepth 100000
set_option linter.unusedSimpArgs false
set_option linter.unusedVariables false

def byt (x : Int) : Bool := decide (0 ≤ x ∧ x ≤ 255)
def maxD (long : Bool) : Int := if long then 65535 else 255
def maxL (long : Bool) : Int := if long then 65536 else 256
theorem maxD_t : maxD true = 65535 := rfl
theorem maxD_f : maxD false = 255 := rfl
theorem maxL_t : maxL true = 65536 := rfl
theorem maxL_f : maxL false = 256 := rfl
/-- The error of a command with n bytes of data. -/
def chk (cla ins p1 p2 : Int) (n : Nat) (le : Int) (long : Bool) : Int :=
  if ¬ (byt cla = true ∧ byt ins = true ∧ byt p1 = true ∧ byt p2 = true) then 2
  else if cla = 255 ∨ ins / 16 = 6 ∨ ins / 16 = 9 then 1
  else if maxD long < n then 3
  else if le < 0 ∨ maxL long < le then 2
  else if long = true ∧ n = 0 ∧ le = 0 then 4
  else 0
/-- The case of a command. -/
def cas (cla ins p1 p2 : Int) (n : Nat) (le : Int) (long : Bool) : Int :=
  if chk cla ins p1 p2 n le long = 0 then 1 + (if 0 < n then 2 else 0) + (if 0 < le then 1 else 0) else 0

/-- What may be found out about a command, one test after another. -/
theorem chk_cases (cla ins p1 p2 : Int) (n : Nat) (le : Int) (long : Bool) :
    (byt cla = false ∧ chk cla ins p1 p2 n le long = 2) ∨ (byt cla = true ∧ byt ins = false ∧ chk cla ins p1 p2 n le long = 2) ∨
    (byt cla = true ∧ byt ins = true ∧ byt p1 = false ∧ chk cla ins p1 p2 n le long = 2) ∨ (byt cla = true ∧ byt ins = true ∧ byt p1 = true ∧ byt p2 = false ∧ chk cla ins p1 p2 n le long = 2) ∨
    (byt cla = true ∧ byt ins = true ∧ byt p1 = true ∧ byt p2 = true ∧ (
      (cla = 255 ∧ chk cla ins p1 p2 n le long = 1) ∨ (cla ≠ 255 ∧ ins / 16 = 6 ∧ chk cla ins p1 p2 n le long = 1) ∨ (cla ≠ 255 ∧ ins / 16 ≠ 6 ∧ ins / 16 = 9 ∧ chk cla ins p1 p2 n le long = 1) ∨
      (cla ≠ 255 ∧ ins / 16 ≠ 6 ∧ ins / 16 ≠ 9 ∧ (
        (maxD long < n ∧ chk cla ins p1 p2 n le long = 3) ∨ (n ≤ maxD long ∧ le < 0 ∧ chk cla ins p1 p2 n le long = 2) ∨ (n ≤ maxD long ∧ 0 ≤ le ∧ maxL long < le ∧ chk cla ins p1 p2 n le long = 2) ∨
        (n ≤ maxD long ∧ 0 ≤ le ∧ le ≤ maxL long ∧ (
          (long = false ∧ chk cla ins p1 p2 n le long = 0) ∨ (long = true ∧ 0 < n ∧ chk cla ins p1 p2 n le long = 0) ∨ (long = true ∧ n = 0 ∧ 0 < le ∧ chk cla ins p1 p2 n le long = 0) ∨ (long = true ∧ n = 0 ∧ le = 0 ∧ chk cla ins p1 p2 n le long = 4))))))) := by
  unfold chk
  cases byt cla <;> cases byt ins <;> cases byt p1 <;> cases byt p2 <;> simp
  by_cases h1 : cla = 255
  · simp [h1]
  by_cases h2 : ins / 16 = 6
  · simp [h1, h2]
  by_cases h3 : ins / 16 = 9
  · simp [h1, h3]
  by_cases h4 : maxD long < n
  · simp [h1, h2, h3, h4]
  by_cases h5 : le < 0
  · simp [h1, h2, h3, h4, h5]; omega
  by_cases h6 : maxL long < le
  · simp [h1, h2, h3, h4, h5, h6]; omega
  cases long
  · simp [h1, h2, h3, h4, h5, h6]; omega
  by_cases h7 : n = 0
  · by_cases h8 : le = 0
    · subst h7 h8; simp [h1, h2, h3] at *; simp [maxD, maxL]
    · simp [h1, h2, h3, h5, h6, h7, h8]; omega
  · simp [h1, h2, h3, h4, h5, h6, h7]; omega
def b8 (x : Int) : UInt8 := UInt8.ofNat x.toNat
def wid (long : Bool) : Nat := if long then 2 else 1
/-- The bytes of a command that is valid. -/
def encB (cla ins p1 p2 : Int) (d : List UInt8) (le : Int) (long : Bool) : List UInt8 :=
  [b8 cla, b8 ins, b8 p1, b8 p2] ++ (if long then [0] else []) ++ (if 0 < d.length then Oct.putB d.length (wid long) ++ d else []) ++ (if 0 < le then Oct.putB le.toNat (wid long) else [])
/-- What Encode returns. -/
def encR (cla ins p1 p2 : Int) (d : List UInt8) (le : Int) (long : Bool) : List UInt8 :=
  if chk cla ins p1 p2 d.length le long = 0 then encB cla ins p1 p2 d le long else []
theorem chk_zero {cla ins p1 p2 : Int} {n : Nat} {le : Int} {long : Bool} (h : chk cla ins p1 p2 n le long = 0) :
    (0 ≤ cla ∧ cla ≤ 254) ∧ (0 ≤ ins ∧ ins ≤ 255) ∧ (0 ≤ p1 ∧ p1 ≤ 255) ∧ (0 ≤ p2 ∧ p2 ≤ 255) ∧ n ≤ maxD long ∧ 0 ≤ le ∧ le ≤ maxL long ∧ ¬ (long = true ∧ n = 0 ∧ le = 0) := by
  have hC := chk_cases cla ins p1 p2 n le long
  have hby : ∀ x, byt x = true → 0 ≤ x ∧ x ≤ 255 := fun x h => of_decide_eq_true h
  rcases hC with ⟨e0, hc⟩ | ⟨e0, e1, hc⟩ | ⟨e0, e1, e2, hc⟩ | ⟨e0, e1, e2, e3, hc⟩ | ⟨e0, e1, e2, e3, hC⟩
  · omega
  · omega
  · omega
  · omega
  have b0 := hby _ e0
  have b1 := hby _ e1
  have b2 := hby _ e2
  have b3 := hby _ e3
  rcases hC with ⟨h1, hc⟩ | ⟨h1, h2, hc⟩ | ⟨h1, h2, h3, hc⟩ | ⟨h1, h2, h3, hC⟩
  · omega
  · omega
  · omega
  rcases hC with ⟨h4, hc⟩ | ⟨h4, h5, hc⟩ | ⟨h4, h5, h6, hc⟩ | ⟨h4, h5, h6, hC⟩
  · omega
  · omega
  · omega
  refine ⟨by omega, b1, b2, b3, h4, h5, h6, ?_⟩
  rcases hC with ⟨h7, hc⟩ | ⟨h7, h8, hc⟩ | ⟨h7, h8, h9, hc⟩ | ⟨h7, h8, h9, hc⟩
  · rw [h7]; simp
  · omega
  · omega
  · omega
end Go.Proofs.Ytpacdjkikbdkeaa.Apd
end

section
namespace Go.Proofs.Ytpacdjkikbdkeaa
set_option maxRecDepth 100000
set_option linter.unusedSimpArgs false
set_option linter.unusedVariables false
open Go.RowKit

/-- A command by value. -/
def cmdV (cla ins p1 p2 : Int) (A : Option Addr) (n c : Nat) (le : Int) (long : Bool) : Value :=
  .agg #[I64 cla, I64 ins, I64 p1, I64 p2, .slice A n c, I64 le, .bool long]

theorem apdu_isByte (x : Int) (w : World) : Calls Try.prog 71 #[.int .i64 x] w fun e w' => e = .returned (.bool (Apd.byt x)) ∧ w = w' := by
  unfold Apd.byt
  by_cases h0 : 0 ≤ x
  · go_enter Try.func71, Try.ntmps71
    go_wp2_with fail
    go_ret
    exact ⟨by simp [h0], rfl⟩
  · go_enter Try.func71, Try.ntmps71
    go_wp2_with fail
    go_ret
    exact ⟨by simp; omega, rfl⟩
theorem ref04_isByte (x : Int) (w : World) : Calls Try.prog 73 #[.int .i64 x] w fun e w' => e = .returned (.bool (Apd.byt x)) ∧ w = w' := by
  unfold Apd.byt
  by_cases h0 : 0 ≤ x
  · go_enter Try.func73, Try.ntmps73
    go_wp2_with fail
    go_ret
    exact ⟨by simp [h0], rfl⟩
  · go_enter Try.func73, Try.ntmps73
    go_wp2_with fail
    go_ret
    exact ⟨by simp; omega, rfl⟩

set_option maxRecDepth 100000 in
set_option maxHeartbeats 4000000 in
theorem apdu_Check (cla ins p1 p2 : Int) (A : Option Addr) (n c : Nat) (le : Int) (long : Bool) (w : World) :
    Calls Try.prog 52 #[cmdV cla ins p1 p2 A n c le long] w fun e w' => e = .returned (.int .i64 (Apd.chk cla ins p1 p2 n le long)) ∧ Below w.heap.size w w' := by
  have HB := Lib.hid (fun o => (Below.refl w.heap.size w).alloc (Nat.le_refl _) o)
  have hC := Apd.chk_cases cla ins p1 p2 n le long
  have hby : ∀ x, Apd.byt x = true → 0 ≤ x ∧ x ≤ 255 := fun x h => of_decide_eq_true h
  unfold cmdV
  rcases hC with ⟨e0, hc⟩ | ⟨e0, e1, hc⟩ | ⟨e0, e1, e2, hc⟩ | ⟨e0, e1, e2, e3, hc⟩ | ⟨e0, e1, e2, e3, hC⟩
  rotate_left 4
  obtain ⟨q0, q1⟩ := hby ins e1
  have qt : ins.tdiv 16 = ins / 16 := Int.tdiv_eq_ediv_of_nonneg q0
  rcases hC with ⟨h1, hc⟩ | ⟨h1, h2, hc⟩ | ⟨h1, h2, h3, hc⟩ | ⟨h1, h2, h3, hC⟩
  rotate_left 3
  rcases hC with ⟨h4, hc⟩ | ⟨h4, h5, hc⟩ | ⟨h4, h5, h6, hc⟩ | ⟨h4, h5, h6, hC⟩
  rotate_left 3
  rcases hC with ⟨h7, hc⟩ | ⟨h7, h8, hc⟩ | ⟨h7, h8, h9, hc⟩ | ⟨h7, h8, h9, hc⟩
  all_goals
    rw [hc]
    clear hby hc
    try subst h1
    try replace h1 := beq_eq_false_iff_ne.2 h1
    try replace h2 := beq_eq_false_iff_ne.2 h2
    try replace h3 := beq_eq_false_iff_ne.2 h3
    cases long
  all_goals first
    | (cases h7; done)
    | (try simp only [Apd.maxD_t, Apd.maxD_f, Apd.maxL_t, Apd.maxL_f] at *
       try clear h7
       go_enter Try.func52, Try.ntmps52
       go_wp2_with (go_at_call 71; refine (apdu_isByte _ _).mono ?_; rintro e w1 ⟨rfl, rfl⟩; first | rw [e0] | rw [e1] | rw [e2] | rw [e3])
       go_ret
       exact ⟨rfl, HB.out _⟩)

set_option maxRecDepth 100000 in
set_option maxHeartbeats 4000000 in
theorem ref04_Check (cla ins p1 p2 : Int) (A : Option Addr) (n c : Nat) (le : Int) (long : Bool) (w : World) :
    Calls Try.prog 54 #[cmdV cla ins p1 p2 A n c le long] w fun e w' => e = .returned (.int .i64 (Apd.chk cla ins p1 p2 n le long)) ∧ Below w.heap.size w w' := by
  have HB := Lib.hid (fun o => (Below.refl w.heap.size w).alloc (Nat.le_refl _) o)
  have hC := Apd.chk_cases cla ins p1 p2 n le long
  have hby : ∀ x, Apd.byt x = true → 0 ≤ x ∧ x ≤ 255 := fun x h => of_decide_eq_true h
  unfold cmdV
  rcases hC with ⟨e0, hc⟩ | ⟨e0, e1, hc⟩ | ⟨e0, e1, e2, hc⟩ | ⟨e0, e1, e2, e3, hc⟩ | ⟨e0, e1, e2, e3, hC⟩
  rotate_left 4
  obtain ⟨q0, q1⟩ := hby ins e1
  have qt : ins.tdiv 16 = ins / 16 := Int.tdiv_eq_ediv_of_nonneg q0
  rcases hC with ⟨h1, hc⟩ | ⟨h1, h2, hc⟩ | ⟨h1, h2, h3, hc⟩ | ⟨h1, h2, h3, hC⟩
  rotate_left 3
  rcases hC with ⟨h4, hc⟩ | ⟨h4, h5, hc⟩ | ⟨h4, h5, h6, hc⟩ | ⟨h4, h5, h6, hC⟩
  rotate_left 3
  rcases hC with ⟨h7, hc⟩ | ⟨h7, h8, hc⟩ | ⟨h7, h8, h9, hc⟩ | ⟨h7, h8, h9, hc⟩
  all_goals
    rw [hc]
    clear hby hc
    try subst h1
    try replace h1 := beq_eq_false_iff_ne.2 h1
    try replace h2 := beq_eq_false_iff_ne.2 h2
    try replace h3 := beq_eq_false_iff_ne.2 h3
    cases long
  all_goals first
    | (cases h7; done)
    | (try simp only [Apd.maxD_t, Apd.maxD_f, Apd.maxL_t, Apd.maxL_f] at *
       try clear h7
       go_enter Try.func54, Try.ntmps54
       go_wp2_with (go_at_call 73; refine (ref04_isByte _ _).mono ?_; rintro e w1 ⟨rfl, rfl⟩; first | rw [e0] | rw [e1] | rw [e2] | rw [e3])
       go_ret
       exact ⟨rfl, HB.out _⟩)
end Go.Proofs.Ytpacdjkikbdkeaa
end

section
namespace Go.Proofs.Ytpacdjkikbdkeaa.Oct
set_option maxRecDepth 100000
set_option linter.unusedSimpArgs false
set_option linter.unusedVariables false

/-- Byte by byte; a beginning of another string comes before it. -/
def cmp : List UInt8 → List UInt8 → Int
  | [], [] => 0
  | [], _ :: _ => -1
  | _ :: _, [] => 1
  | a :: as1, b :: bs => if a.toNat < b.toNat then -1 else if b.toNat < a.toNat then 1 else cmp as1 bs

theorem cmp_zero : ∀ (a b : List UInt8), cmp a b = 0 ↔ a = b
  | [], [] => by simp [cmp]
  | [], _ :: _ => by simp [cmp]
  | _ :: _, [] => by simp [cmp]
  | a :: as1, b :: bs => by
    simp only [cmp]
    split
    · rename_i h
      constructor
      · intro h'; cases h'
      · intro h'; obtain ⟨rfl, _⟩ := List.cons.inj h'; omega
    · split
      · rename_i h
        constructor
        · intro h'; cases h'
        · intro h'; obtain ⟨rfl, _⟩ := List.cons.inj h'; omega
      · rename_i h1 h2
        have e : a = b := UInt8.toNat_inj.1 (by omega)
        subst e
        rw [cmp_zero as1 bs]
        simp
theorem cmp_bd : ∀ (a b : List UInt8), -1 ≤ cmp a b ∧ cmp a b ≤ 1
  | [], [] => by simp [cmp]
  | [], _ :: _ => by simp [cmp]
  | _ :: _, [] => by simp [cmp]
  | a :: as1, b :: bs => by
    simp only [cmp]
    split
    · omega
    · split
      · omega
      · exact cmp_bd as1 bs
theorem cmp_step (a b : List UInt8) (k : Nat) (ha : k < a.length) (hb : k < b.length) :
    cmp (a.drop k) (b.drop k) = if (a.getD k 0).toNat < (b.getD k 0).toNat then -1 else if (b.getD k 0).toNat < (a.getD k 0).toNat then 1 else cmp (a.drop (k + 1)) (b.drop (k + 1)) := by
  rw [List.drop_eq_getElem_cons ha, List.drop_eq_getElem_cons hb]
  simp [cmp, List.getD, List.getElem?_eq_getElem ha, List.getElem?_eq_getElem hb]
theorem cmp_end (a b : List UInt8) (k : Nat) (ha : k ≤ a.length) (hb : k ≤ b.length) (h : k = a.length ∨ k = b.length) :
    cmp (a.drop k) (b.drop k) = if a.length < b.length then -1 else if b.length < a.length then 1 else 0 := by
  rcases h with h | h
  · rw [h, List.drop_length]
    rcases Nat.lt_or_ge a.length b.length with h' | h'
    · rw [List.drop_eq_getElem_cons h', if_pos h']; rfl
    · have e : b.length = a.length := by omega
      rw [if_neg (by omega), if_neg (by omega), ← e, List.drop_length]; rfl
  · rw [h, List.drop_length]
    rcases Nat.lt_or_ge b.length a.length with h' | h'
    · rw [List.drop_eq_getElem_cons h', if_neg (by omega), if_pos h']; rfl
    · have e : a.length = b.length := by omega
      rw [if_neg (by omega), if_neg (by omega), ← e, List.drop_length]; rfl
/-- Are two strings the same? -/
def same (a b : List UInt8) : Bool := decide (a = b)
theorem same_refl (a : List UInt8) : same a a = true := by simp [same]
theorem same_iff (a b : List UInt8) : same a b = true ↔ a = b := by simp [same]
theorem same_cmp (a b : List UInt8) : (cmp a b == 0) = same a b := by
  rw [Bool.eq_iff_iff, same_iff, beq_iff_eq, cmp_zero]
end Go.Proofs.Ytpacdjkikbdkeaa.Oct
end

section
namespace Go.Proofs.Ytpacdjkikbdkeaa
set_option maxRecDepth 100000
set_option linter.unusedSimpArgs false
set_option linter.unusedVariables false
open Go.RowKit

set_option maxHeartbeats 1000000 in
theorem ref01_Compare (A A' : Option Addr) (n n' c c' : Nat) (xs ys : List UInt8) (w : World) (hx : Byt w w.heap.size A n c xs) (hy : Byt w w.heap.size A' n' c' ys) (hn : n ≤ 9223372036854775807) (hn' : n' ≤ 9223372036854775807) :
    Calls Try.prog 40 #[.slice A n c, .slice A' n' c'] w fun e w' => e = .returned (.int .i64 (Oct.cmp xs ys)) ∧ ∃ k, w' = w.drewN k := by
  have lx := Lib.hid hx.1
  have ly := Lib.hid hy.1
  have rx := hx.2.2
  have ry := hy.2.2
  clear hx hy
  go_enter Try.func40, Try.ntmps40
  go_wp2_with fail
  go_loopw [5] (fun i wr => ∃ k : Nat, k ≤ n ∧ k ≤ n' ∧ i = .int .i64 k ∧ Hid (Oct.cmp xs ys = Oct.cmp (xs.drop k) (ys.drop k)) ∧ ∃ d, wr = w.drewN d) (fun i _ => n - (intOf i).toNat)
  case atStart => exact ⟨0, by omega, by omega, rfl, rfl, 0, rfl⟩
  case round =>
    obtain ⟨k, hk, hk', rfl, he, d, rfl⟩ := hrel
    by_cases h1 : k < n
    · by_cases h2 : k < n'
      · obtain ⟨b, o, rfl, hb, -⟩ := rx.at_ (j := k) (by rw [length_bcells, lx.out]; exact h1)
        obtain ⟨b', o', rfl, hb', -⟩ := ry.at_ (j := k) (by rw [length_bcells, ly.out]; exact h2)
        have c1 := rx.byte k (by rw [lx.out]; exact h1)
        have c2 := ry.byte k (by rw [ly.out]; exact h2)
        have hst := Lib.hid (Oct.cmp_step xs ys k (by rw [lx.out]; exact h1) (by rw [ly.out]; exact h2))
        generalize (xs.getD k 0).toNat = x at *
        generalize (ys.getD k 0).toNat = y at *
        have i0 : (0 : Int) ≤ (k : Int) := by omega
        have i1 : (k : Int) < (n : Int) := by omega
        have i2 : (k : Int) < (n' : Int) := by omega
        rcases (show x < y ∨ (y < x ∧ ¬ x < y) ∨ (¬ y < x ∧ ¬ x < y) by omega) with h | ⟨h, h'⟩ | ⟨h, h'⟩
        · have hd : decide (x < y) = true := by simpa using h
          go_wp2_with fail
          go_quiet (fail)
          go_wp2_with fail
          go_ret
          exact ⟨ret_int (by rw [he.out, hst.out, if_pos h]), _, by first | rfl | (simp only [World.drewN_drewN]; rfl)⟩
        · have hd : decide (x < y) = false := by simpa using h'
          have hd' : decide (y < x) = true := by simpa using h
          go_wp2_with fail
          go_quiet (fail)
          go_wp2_with fail
          go_quiet (fail)
          go_wp2_with fail
          go_ret
          exact ⟨ret_int (by rw [he.out, hst.out, if_neg h', if_pos h]), _, by first | rfl | (simp only [World.drewN_drewN]; rfl)⟩
        · have hd : decide (x < y) = false := by simpa using h'
          have hd' : decide (y < x) = false := by simpa using h
          go_wp2_with fail
          go_quiet (fail)
          go_wp2_with fail
          go_quiet (fail)
          go_wp2_with fail
          go_roundw
          case rel => exact ⟨k + 1, by omega, by omega, by go_num, by rw [he.out, hst.out, if_neg h', if_neg h]; rfl, _, by first | rfl | (simp only [World.drewN_drewN]; rfl)⟩
          case measure => simp [intOf]; omega
      · obtain rfl : k = n' := by omega
        have hst := Lib.hid (Oct.cmp_end xs ys k (by rw [lx.out]; exact hk) (by rw [ly.out]; exact hk') (.inr ly.out.symm))
        go_wp2_with fail
        go_ret
        exact ⟨ret_int (by rw [he.out, hst.out, lx.out, ly.out, if_neg (by omega), if_pos h1]), _, by first | rfl | (simp only [World.drewN_drewN]; rfl)⟩
    · obtain rfl : k = n := by omega
      have hst := Lib.hid (Oct.cmp_end xs ys k (by rw [lx.out]; exact hk) (by rw [ly.out]; exact hk') (.inl lx.out.symm))
      by_cases h2 : k < n'
      · go_wp2_with fail
        go_ret
        exact ⟨ret_int (by rw [he.out, hst.out, lx.out, ly.out, if_pos h2]), _, by first | rfl | (simp only [World.drewN_drewN]; rfl)⟩
      · go_wp2_with fail
        go_ret
        exact ⟨ret_int (by rw [he.out, hst.out, lx.out, ly.out, if_neg h2, if_neg (by omega)]), _, by first | rfl | (simp only [World.drewN_drewN]; rfl)⟩

set_option maxHeartbeats 400000 in
theorem ref01_Same (A A' : Option Addr) (n n' c c' : Nat) (xs ys : List UInt8) (w : World) (hx : Byt w w.heap.size A n c xs) (hy : Byt w w.heap.size A' n' c' ys) (hn : n ≤ 9223372036854775807) (hn' : n' ≤ 9223372036854775807) :
    Calls Try.prog 13 #[.slice A n c, .slice A' n' c'] w fun e w' => e = .returned (.bool (Oct.same xs ys)) ∧ ∃ k, w' = w.drewN k := by
  have hs := Lib.hid (Oct.same_cmp xs ys)
  go_enter Try.func13, Try.ntmps13
  go_wp2_with (go_at_call 40; refine (ref01_Compare A A' n n' c c' xs ys w hx hy hn hn').mono ?_; rintro e w1 ⟨rfl, k1, rfl⟩)
  go_ret
  exact ⟨by rw [← hs.out]; rfl, _, rfl⟩
end Go.Proofs.Ytpacdjkikbdkeaa
end

section
namespace Go.Proofs.Ytpacdjkikbdkeaa
set_option maxRecDepth 100000
set_option linter.unusedSimpArgs false
set_option linter.unusedVariables false
open Go.RowKit

theorem Own.made0 {w : World} {g base c : Nat} {t : TypeId} {z : Value} (hb : Blk w g t (madeCells #[z] c)) (hg : base ≤ g) (hm : c ≤ maxLen) : Own w base t 1 (some ⟨g, 0, none⟩) 0 c [] := by
  have h := Own.blk (s := 1) (n := 0) (c := c) hb hg (Nat.zero_le _) hm (by simp [madeCells]) (by simp)
  simpa using h
theorem bcells_zs (n : Nat) : List.replicate n (Value.int .u8 0) = bcells (zs n) := by simp [bcells, zs, B8]
/-- The cells of a slice of bytes are read off as they stand. -/
theorem byt_load {P : Program} {w : World} {B : Nat} {a : Addr} {n c : Nat} {bs : List UInt8} (h : Byt w B (some a) n c bs) : (loadCells a n).run P w = .ok (bcells bs).toArray w := by
  have := run_loadCells_list (P := P) w a (bcells bs) (fun j v hj => by
    have hjl : j < (bcells bs).length := (List.getElem?_eq_some_iff.1 hj).1
    obtain ⟨b, o, e, _, hc⟩ := h.2.2 (by omega)
    obtain rfl : a = ⟨b, o, none⟩ := by simpa using e
    rw [add_eq, hc j hjl, hj])
  rw [length_bcells, h.1] at this
  exact this
theorem byt_string {P : Program} {w : World} {B : Nat} {A : Option Addr} {n c : Nat} {bs : List UInt8} (src e : TypeId) (hs : P.underlying src = some (.slice e)) (he : P.underlying e = some (.int .u8)) (h : Byt w B A n c bs) (dst : TypeId) (hd : P.underlying dst = some .string) :
    (convert src dst (.slice A n c)).run P w = .ok (.string ⟨bs.toArray⟩) w := by
  cases A with
  | none =>
    have hb : bs = [] := by
      rcases Nat.eq_zero_or_pos n with h0 | h0
      · exact List.eq_nil_of_length_eq_zero (by rw [h.1]; exact h0)
      · obtain ⟨b, o, e, _⟩ := h.at_ h0; cases e
    subst hb
    exact run_convert_bytes_nil w src e hs he n c dst hd
  | some a =>
    have hl : (loadCells a n).run P w = .ok ((bs.map fun b => (b.toNat : Int)).map (Value.int .u8)).toArray w := by
      rw [byt_load h, List.map_map]; rfl
    rw [run_convert_bytes_string w src dst e _ n c hs he hd, run_bytesToString w a n c _ hl, foldl_push_bytes]
    simp only [List.map_map]
    congr 2
    have : (bs.map ((fun n : Int => UInt8.ofNat n.toNat) ∘ fun b : UInt8 => (b.toNat : Int))) = bs := by
      rw [List.map_congr_left (g := id)]
      · simp
      · intro b _; simp
    rw [this]
    simp [ByteArray.empty, ByteArray.emptyWithCapacity]
    rfl
theorem made_u8 {P : Program} (t e : TypeId) (i : TypeInfo) (ht : P.underlying t = some (.slice e)) (hi : P.info? e = some i) (hz : i.zero = some (.int .u8 0)) (hs : i.size = 1) (hb : i.bytes = 1)
    (n : Nat) (hn : n ≤ 1099511627776) (u : World) : (Instr.makeSlice t (.int .i64 (n : Int)) (.int .i64 (n : Int))).run P u = .ok (.slice (some ⟨u.heap.size, 0, none⟩) n n) (u.alloc (.cells (madeCells #[.int .u8 0] n) e)) := by
  have h := run_make (P := P) u t e i (.int .u8 0) ht hi hz .i64 .i64 (n : Int) (n : Int) (by omega) (Int.le_refl _) (by rw [hb]; omega) (by omega)
  rw [hs, Int.toNat_natCast, Nat.mul_one] at h
  exact h
theorem made0_u8 {P : Program} (t e : TypeId) (i : TypeInfo) (ht : P.underlying t = some (.slice e)) (hi : P.info? e = some i) (hz : i.zero = some (.int .u8 0)) (hs : i.size = 1) (hb : i.bytes = 1)
    (n : Nat) (hn : n ≤ 1099511627776) (u : World) : (Instr.makeSlice t (.int .i64 0) (.int .i64 (n : Int))).run P u = .ok (.slice (some ⟨u.heap.size, 0, none⟩) 0 n) (u.alloc (.cells (madeCells #[.int .u8 0] n) e)) := by
  have h := run_make (P := P) u t e i (.int .u8 0) ht hi hz .i64 .i64 0 (n : Int) (by omega) (by omega) (by rw [hb]; omega) (by omega)
  rw [hs, Int.toNat_natCast, Nat.mul_one] at h
  exact h
/-- A quiet call behind an earlier quiet region: the draws are joined. -/
theorem Calls.quiet_more {P : Program} {f : FuncId} {args : Array Value} {w : World} {d k : Nat} {v : Value} (h : Calls P f args (w.drewN (d + k)) fun e u => e = .returned v ∧ ∃ m, u = (w.drewN (d + k)).drewN m) :
    Calls P f args (w.drewN (d + k)) fun e u => e = .returned v ∧ ∃ m, u = w.drewN (d + m) :=
  h.mono fun _ _ ⟨he, m, hu⟩ => ⟨he, k + m, by rw [hu, World.drewN_drewN, Nat.add_assoc]⟩
/-- What a call leaves that hands back bytes and an error. -/
def BRes (t : TypeId) (w : World) (bs : List UInt8) (er : Int) (e : Ending) (w' : World) : Prop :=
  ∃ A c, e = .returned (.tuple #[.slice A bs.length c, .int .i64 er]) ∧ Own w' w.heap.size t 1 A bs.length c (bcells bs) ∧ Below w.heap.size w w'
theorem BRes.nil (t : TypeId) {w w' : World} {er : Int} (h : Below w.heap.size w w') : BRes t w [] er (.returned (.tuple #[.slice none 0 0, .int .i64 er])) w' := ⟨none, 0, rfl, Own.none_ _ _ _ _ _, h⟩
theorem BRes.mk {t : TypeId} {w w' : World} {A : Option Addr} {n c : Nat} {bs : List UInt8} {er : Int} (hn : bs.length = n) (h : Own w' w.heap.size t 1 A n c (bcells bs)) (hb : Below w.heap.size w w') : BRes t w bs er (.returned (.tuple #[.slice A n c, .int .i64 er])) w' := by
  subst hn; exact ⟨A, c, rfl, h, hb⟩
section
variable {P : Program} (w : World)
/-- 'wp_append' as a step of a region that draws its order. -/
theorem step_append {ops : Array Oper} {o : Oper} {a : Act} {K : Act → World → Prop} {Q : Exit → Act → World → Prop} {E : Prop} (hgd : o.guard = none) (x y : Operand) (t : TypeId)
    (ho : o.op = .call { callee := .builtin .append, args := #[x, y], argTypes := #[t, t] })
    (base : Nat) (e : TypeId) (i : TypeInfo) (z : Value) (s bytes : Nat) (ht : P.underlying t = some (.slice e)) (hi : P.info? e = some i) (hz : i.zero = some z)
    (hsize : i.size = s) (hby : i.bytes = bytes) (hzs : z.cells.size = s) (hsz : 0 < s)
    (A : Option Addr) (n c : Nat) (cs : List Value) (hx : a.eval x = .slice A n c) (hown : Own w base e s A n c cs)
    (B : Nat) (A' : Option Addr) (m c' : Nat) (news : List Value) (hy : a.eval y = .slice A' m c') (hr : Row w B A' news) (hl : news.length = m * s) (h1 : ∀ u ∈ news, u.oneCell' = true)
    (h63 : n + m ≤ maxLen) (hbytes : (n + m) * bytes ≤ 140737488355328) (hbase : base ≤ w.heap.size)
    (h : ∀ A2 c2 w2, Own w2 base e s A2 (n + m) c2 (cs ++ news) → w.grownBy w2 (ownAt A c) → (ownAt A2 c2 = ownAt A c ∨ ownAt A2 c2 = some w.heap.size) → K (a.put o.dst (.slice A2 (n + m) c2)) w2) :
    if Region.wanted o (yielded ops a.tmps) = true then Oper.wp P o a w K Q else E := by
  have hw : Region.wanted o (yielded ops a.tmps) = true := by simp [Region.wanted, hgd]
  rw [if_pos hw]
  exact wp_append w x y t ho base e i z s bytes ht hi hz hsize hby hzs hsz A n c cs hx hown B A' m c' news hy hr hl h1 h63 hbytes hbase h
end
end Go.Proofs.Ytpacdjkikbdkeaa
end

section
namespace Go.Proofs.Ytpacdjkikbdkeaa
set_option maxRecDepth 100000
set_option linter.unusedSimpArgs false
set_option linter.unusedVariables false
open Go.RowKit

theorem o_u8 : (Try.prog.info? 5).map (fun i => (i.zero, i.size, i.bytes)) = some (some (.int .u8 0), 1, 1) := by kernel_rfl
set_option maxRecDepth 100000 in
theorem digit_index (k : Nat) (hk : k < 16) (u : World) : (Instr.index 9 (.string ⟨#[48, 49, 50, 51, 52, 53, 54, 55, 56, 57, 97, 98, 99, 100, 101, 102]⟩) (.int .u8 (k : Int))).run Try.prog u = .ok (.int .u8 ((Oct.dg k).toNat : Int)) u := by
  match k, hk with
  | 0, _ => exact (by kernel_rfl : (Instr.index 9 (.string ⟨#[48, 49, 50, 51, 52, 53, 54, 55, 56, 57, 97, 98, 99, 100, 101, 102]⟩) (.int .u8 ((0 : Nat) : Int))).run Try.prog u = .ok (.int .u8 ((Oct.dg 0).toNat : Int)) u)
  | 1, _ => exact (by kernel_rfl : (Instr.index 9 (.string ⟨#[48, 49, 50, 51, 52, 53, 54, 55, 56, 57, 97, 98, 99, 100, 101, 102]⟩) (.int .u8 ((1 : Nat) : Int))).run Try.prog u = .ok (.int .u8 ((Oct.dg 1).toNat : Int)) u)
  | 2, _ => exact (by kernel_rfl : (Instr.index 9 (.string ⟨#[48, 49, 50, 51, 52, 53, 54, 55, 56, 57, 97, 98, 99, 100, 101, 102]⟩) (.int .u8 ((2 : Nat) : Int))).run Try.prog u = .ok (.int .u8 ((Oct.dg 2).toNat : Int)) u)
  | 3, _ => exact (by kernel_rfl : (Instr.index 9 (.string ⟨#[48, 49, 50, 51, 52, 53, 54, 55, 56, 57, 97, 98, 99, 100, 101, 102]⟩) (.int .u8 ((3 : Nat) : Int))).run Try.prog u = .ok (.int .u8 ((Oct.dg 3).toNat : Int)) u)
  | 4, _ => exact (by kernel_rfl : (Instr.index 9 (.string ⟨#[48, 49, 50, 51, 52, 53, 54, 55, 56, 57, 97, 98, 99, 100, 101, 102]⟩) (.int .u8 ((4 : Nat) : Int))).run Try.prog u = .ok (.int .u8 ((Oct.dg 4).toNat : Int)) u)
  | 5, _ => exact (by kernel_rfl : (Instr.index 9 (.string ⟨#[48, 49, 50, 51, 52, 53, 54, 55, 56, 57, 97, 98, 99, 100, 101, 102]⟩) (.int .u8 ((5 : Nat) : Int))).run Try.prog u = .ok (.int .u8 ((Oct.dg 5).toNat : Int)) u)
  | 6, _ => exact (by kernel_rfl : (Instr.index 9 (.string ⟨#[48, 49, 50, 51, 52, 53, 54, 55, 56, 57, 97, 98, 99, 100, 101, 102]⟩) (.int .u8 ((6 : Nat) : Int))).run Try.prog u = .ok (.int .u8 ((Oct.dg 6).toNat : Int)) u)
  | 7, _ => exact (by kernel_rfl : (Instr.index 9 (.string ⟨#[48, 49, 50, 51, 52, 53, 54, 55, 56, 57, 97, 98, 99, 100, 101, 102]⟩) (.int .u8 ((7 : Nat) : Int))).run Try.prog u = .ok (.int .u8 ((Oct.dg 7).toNat : Int)) u)
  | 8, _ => exact (by kernel_rfl : (Instr.index 9 (.string ⟨#[48, 49, 50, 51, 52, 53, 54, 55, 56, 57, 97, 98, 99, 100, 101, 102]⟩) (.int .u8 ((8 : Nat) : Int))).run Try.prog u = .ok (.int .u8 ((Oct.dg 8).toNat : Int)) u)
  | 9, _ => exact (by kernel_rfl : (Instr.index 9 (.string ⟨#[48, 49, 50, 51, 52, 53, 54, 55, 56, 57, 97, 98, 99, 100, 101, 102]⟩) (.int .u8 ((9 : Nat) : Int))).run Try.prog u = .ok (.int .u8 ((Oct.dg 9).toNat : Int)) u)
  | 10, _ => exact (by kernel_rfl : (Instr.index 9 (.string ⟨#[48, 49, 50, 51, 52, 53, 54, 55, 56, 57, 97, 98, 99, 100, 101, 102]⟩) (.int .u8 ((10 : Nat) : Int))).run Try.prog u = .ok (.int .u8 ((Oct.dg 10).toNat : Int)) u)
  | 11, _ => exact (by kernel_rfl : (Instr.index 9 (.string ⟨#[48, 49, 50, 51, 52, 53, 54, 55, 56, 57, 97, 98, 99, 100, 101, 102]⟩) (.int .u8 ((11 : Nat) : Int))).run Try.prog u = .ok (.int .u8 ((Oct.dg 11).toNat : Int)) u)
  | 12, _ => exact (by kernel_rfl : (Instr.index 9 (.string ⟨#[48, 49, 50, 51, 52, 53, 54, 55, 56, 57, 97, 98, 99, 100, 101, 102]⟩) (.int .u8 ((12 : Nat) : Int))).run Try.prog u = .ok (.int .u8 ((Oct.dg 12).toNat : Int)) u)
  | 13, _ => exact (by kernel_rfl : (Instr.index 9 (.string ⟨#[48, 49, 50, 51, 52, 53, 54, 55, 56, 57, 97, 98, 99, 100, 101, 102]⟩) (.int .u8 ((13 : Nat) : Int))).run Try.prog u = .ok (.int .u8 ((Oct.dg 13).toNat : Int)) u)
  | 14, _ => exact (by kernel_rfl : (Instr.index 9 (.string ⟨#[48, 49, 50, 51, 52, 53, 54, 55, 56, 57, 97, 98, 99, 100, 101, 102]⟩) (.int .u8 ((14 : Nat) : Int))).run Try.prog u = .ok (.int .u8 ((Oct.dg 14).toNat : Int)) u)
  | 15, _ => exact (by kernel_rfl : (Instr.index 9 (.string ⟨#[48, 49, 50, 51, 52, 53, 54, 55, 56, 57, 97, 98, 99, 100, 101, 102]⟩) (.int .u8 ((15 : Nat) : Int))).run Try.prog u = .ok (.int .u8 ((Oct.dg 15).toNat : Int)) u)
  | n + 16, h => omega

end Go.Proofs.Ytpacdjkikbdkeaa
end

section
namespace Go.Proofs.Ytpacdjkikbdkeaa
set_option maxRecDepth 100000
set_option linter.unusedSimpArgs false
set_option linter.unusedVariables false
open Go.RowKit

/-- The bytes while k digits are read. -/
def outK (s : List UInt8) (k : Nat) : List UInt8 := (List.range (s.length / 2)).map fun j => if 2 * j + 1 < k then UInt8.ofNat (Oct.dn (s.getD (2 * j) 0) * 16 + Oct.dn (s.getD (2 * j + 1) 0)) else if 2 * j < k then UInt8.ofNat (Oct.dn (s.getD (2 * j) 0)) else 0
theorem outK_zero (s : List UInt8) : outK s 0 = zs (s.length / 2) := by
  unfold outK zs
  apply List.ext_getElem
  · simp
  · intro j h1 h2; simp
theorem outK_get (s : List UInt8) (k j : Nat) (h : j < s.length / 2) : (outK s k).getD j 0 = if 2 * j + 1 < k then UInt8.ofNat (Oct.dn (s.getD (2 * j) 0) * 16 + Oct.dn (s.getD (2 * j + 1) 0)) else if 2 * j < k then UInt8.ofNat (Oct.dn (s.getD (2 * j) 0)) else 0 := by
  rw [List.getD, List.getElem?_eq_getElem (by simpa [outK] using h)]; simp [outK]
theorem outK_length (s : List UInt8) (k : Nat) : (outK s k).length = s.length / 2 := by simp [outK]
theorem outK_full (s : List UInt8) (h : s.length % 2 = 0) : outK s s.length = Oct.prs s := by
  apply List.ext_getElem
  · rw [outK_length, Oct.prs_length]
  · intro j h1 h2
    have hj : 2 * j + 1 < s.length := by rw [outK_length] at h1; omega
    have := Oct.prs_get s j hj
    rw [List.getD, List.getElem?_eq_getElem h2, Option.getD_some] at this
    rw [this]
    simp [outK, hj]
theorem outK_set (s : List UInt8) (k : Nat) (hk : k < s.length / 2 * 2) : (outK s k).set (k / 2) (UInt8.ofNat (((outK s k).getD (k / 2) 0).toNat * 16 % 256 + Oct.dn (s.getD k 0))) = outK s (k + 1) := by
  have hj : k / 2 < s.length / 2 := by omega
  rw [outK_get s k (k / 2) hj]
  apply List.ext_getElem
  · simp [outK]
  · intro i h1 h2
    rw [List.getElem_set]
    simp only [outK, List.getElem_map, List.getElem_range]
    by_cases e : k / 2 = i
    · subst e
      rw [if_pos rfl, if_neg (by omega)]
      have d0 := Oct.dn_lt (s.getD (2 * (k / 2)) 0)
      rcases Nat.mod_two_eq_zero_or_one k with hm | hm
      · have ek : 2 * (k / 2) = k := by omega
        rw [ek, if_neg (by omega), if_neg (by omega), if_pos (by omega)]
        simp
      · have ek : 2 * (k / 2) + 1 = k := by omega
        have ek2 : s.getD (2 * (k / 2) + 1) 0 = s.getD k 0 := by rw [ek]
        rw [if_pos (by omega), if_pos (by omega), ek2, UInt8.toNat_ofNat_of_lt' (by simp only [UInt8.size]; omega), Nat.mod_eq_of_lt (by omega)]
    · rw [if_neg e]
      by_cases h3 : 2 * i + 1 < k
      · rw [if_pos h3, if_pos (by omega)]
      · rw [if_neg h3, if_neg (by omega), if_neg (by omega), if_neg (by omega)]
theorem bcells_set (bs : List UInt8) (i : Nat) (x : UInt8) : bcells (bs.set i x) = (bcells bs).set i (B8 x) := by simp [bcells, List.map_set]
theorem or_digit (x d : Nat) (hd : d < 16) : bits BinOp.or IntKind.u8 ((x : Int) * 16 % 256) (d : Int) = ((x * 16 % 256 + d : Nat) : Int) := by
  rw [show (x : Int) * 16 % 256 = ((x * 16 % 256 : Nat) : Int) by omega, u8_or_nat _ _ (by omega) (by omega), nat_join 4 _ _ (by omega) (by omega)]

theorem Only.iterAt (w : World) (K : Nat) (s : ByteArray) (p : Nat) : Only (fun q => q = K) w (w.iterAt K s p) :=
  ⟨rfl, rfl, rfl, by rw [Lib.iterAt_size]; exact Nat.le_refl _, fun q _ hq => Lib.iterAt_other w K q s p hq⟩
theorem rune_dv (s : ByteArray) (k : Nat) (h : k < s.size) : Oct.dv (Utf8.decode s k).1 = Oct.dv (s.data.toList.getD k 0).toNat ∧ (0 ≤ Oct.dv (s.data.toList.getD k 0).toNat → (Utf8.decode s k).2 = 1) := by
  have e : s.data.toList.getD k 0 = s[k]'h := by
    rw [List.getD, List.getElem?_eq_getElem (by simpa using h)]; rfl
  rw [e]
  by_cases ha : (s[k]'h).toNat < 128
  · rw [decode_ascii s k h ha]; exact ⟨rfl, fun _ => rfl⟩
  · have hh := (decode_high s k h (by omega)).1
    rw [Oct.dv_high _ hh, Oct.dv_high _ (by omega)]
    exact ⟨rfl, fun h0 => by omega⟩
theorem prOk_bad (l : List UInt8) (k : Nat) (h : k < l.length) (hd : ¬ 0 ≤ Oct.dv (l.getD k 0).toNat) : Oct.prB l = [] ∧ Oct.prE l = 4 := by
  have : Oct.prOk l = false := by
    unfold Oct.prOk
    rw [Bool.and_eq_false_iff]
    right
    rw [List.all_eq_false]
    refine ⟨l[k], List.getElem_mem h, ?_⟩
    unfold Oct.isD
    rw [List.getD, List.getElem?_eq_getElem h] at hd
    simpa using hd
  constructor
  · unfold Oct.prB; rw [this]; rfl
  · unfold Oct.prE; rw [this]; rfl
theorem prOk_good (l : List UInt8) (h : l.length % 2 = 0) (hd : ∀ j, j < l.length → 0 ≤ Oct.dv (l.getD j 0).toNat) : Oct.prB l = Oct.prs l ∧ Oct.prE l = 0 := by
  have : Oct.prOk l = true := by
    unfold Oct.prOk
    rw [h]
    simp only [beq_self_eq_true, Bool.true_and]
    rw [List.all_eq_true]
    intro c hc
    obtain ⟨j, hj, rfl⟩ := List.mem_iff_getElem.1 hc
    have := hd j hj
    rw [List.getD, List.getElem?_eq_getElem hj] at this
    unfold Oct.isD
    simpa using this
  constructor
  · unfold Oct.prB; rw [this]; rfl
  · unfold Oct.prE; rw [this]; rfl

end Go.Proofs.Ytpacdjkikbdkeaa
end

section
namespace Go.Proofs.Ytpacdjkikbdkeaa
set_option maxRecDepth 100000
set_option linter.unusedSimpArgs false
set_option linter.unusedVariables false
open Go.RowKit

theorem oxor_get (a b : List UInt8) (j : Nat) (h : j < a.length) : (Oct.xor a b).getD j 0 = a.getD j 0 ^^^ b.getD j 0 := by
  rw [List.getD, List.getElem?_eq_getElem (by simpa [Oct.xor] using h)]; simp [Oct.xor]
/-- The first k bytes of l, zeros behind them. -/
def upTo (l : List UInt8) (k : Nat) : List UInt8 := (List.range l.length).map fun j => if j < k then l.getD j 0 else 0
theorem upTo_zero (l : List UInt8) : upTo l 0 = zs l.length := by
  unfold upTo zs
  apply List.ext_getElem
  · simp
  · intro j h1 h2; simp
theorem upTo_full (l : List UInt8) : upTo l l.length = l := by
  apply List.ext_getElem
  · simp [upTo]
  · intro j h1 h2; simp [upTo, List.getD, h2]
theorem upTo_length (l : List UInt8) (k : Nat) : (upTo l k).length = l.length := by simp [upTo]
theorem upTo_set (l : List UInt8) (k : Nat) : (upTo l k).set k (l.getD k 0) = upTo l (k + 1) := by
  apply List.ext_getElem
  · simp [upTo]
  · intro i h1 h2
    rw [List.getElem_set]
    simp only [upTo, List.getElem_map, List.getElem_range]
    by_cases e : k = i
    · subst e; simp
    · rw [if_neg e]
      by_cases h : i < k
      · rw [if_pos h, if_pos (by omega)]
      · rw [if_neg h, if_neg (by omega)]
/-- The last k bytes of l, zeros ahead of them. -/
def lastK (l : List UInt8) (k : Nat) : List UInt8 := (List.range l.length).map fun j => if l.length - k ≤ j then l.getD j 0 else 0
theorem lastK_zero (l : List UInt8) : lastK l 0 = zs l.length := by
  unfold lastK zs
  apply List.ext_getElem
  · simp
  · intro j h1 h2
    have : j < l.length := by simpa using h2
    simp
    intro h3; omega
theorem lastK_full (l : List UInt8) : lastK l l.length = l := by
  apply List.ext_getElem
  · simp [lastK]
  · intro j h1 h2; simp [lastK, List.getD, List.getElem?_eq_getElem h2]
theorem lastK_length (l : List UInt8) (k : Nat) : (lastK l k).length = l.length := by simp [lastK]
theorem lastK_set (l : List UInt8) (k : Nat) (h : k < l.length) : (lastK l k).set (l.length - 1 - k) (l.getD (l.length - 1 - k) 0) = lastK l (k + 1) := by
  apply List.ext_getElem
  · simp [lastK]
  · intro i h1 h2
    rw [List.getElem_set]
    simp only [lastK, List.getElem_map, List.getElem_range]
    by_cases e : l.length - 1 - k = i
    · subst e; rw [if_pos rfl, if_pos (by omega)]
    · rw [if_neg e]
      by_cases h : l.length - k ≤ i
      · rw [if_pos h, if_pos (by omega)]
      · rw [if_neg h, if_neg (by omega)]

def xrE (a b : List UInt8) : Int := if a.length = b.length then 0 else 1
def xrB (a b : List UInt8) : List UInt8 := if a.length = b.length then Oct.xor a b else []

set_option maxHeartbeats 1000000 in
theorem slices_Clone (A : Option Addr) (n c : Nat) (bs : List UInt8) (w : World) (h : Byt w w.heap.size A n c bs) (hn : n ≤ 1000000000) :
    Calls Try.prog 39 #[.slice A n c] w fun e w' => ∃ A2 c2, e = .returned (.slice A2 n c2) ∧ Own w' w.heap.size 5 1 A2 n c2 (bcells bs) ∧ Below w.heap.size w w' := by
  obtain ⟨ti, hti, hz0, hz1, hz2⟩ := info_parts o_u8
  have hu : ∀ u : World, (binOp .eql 23 (.slice A n c) (.slice none 0 0)).run Try.prog u = .ok (.bool A.isNone) u := fun u => by
    have := Lib.run_eql_slice_nil u 23 5 A n c 0 0 Try.underlying23
    exact this
  cases A with
  | none =>
    have hn0 : n = 0 := by
      rcases Nat.eq_zero_or_pos n with h0 | h0
      · exact h0
      · obtain ⟨b, o, e, _⟩ := h.at_ h0; cases e
    have hb : bs = [] := List.eq_nil_of_length_eq_zero (by rw [h.1]; exact hn0)
    subst hn0 hb
    have hu2 : ∀ u : World, (binOp .eql 23 (.slice none 0 c) (.slice none 0 0)).run Try.prog u = .ok (.bool true) u := hu
    clear h hu
    go_enter Try.func39, Try.ntmps39
    go_wp2_with fail
    go_ret
    exact ⟨none, 0, rfl, Own.none_ _ _ _ _ _, Below.refl _ _⟩
  | some a =>
    have hu2 : ∀ u : World, (binOp .eql 23 (.slice (some a) n c) (.slice none 0 0)).run Try.prog u = .ok (.bool false) u := hu
    clear hu
    have hl := Lib.hid h.1
    have hr := h.2.2
    clear h
    go_enter Try.func39, Try.ntmps39
    have hb1 := (Below.refl w.heap.size w).alloc (Nat.le_refl _) (.cells #[] 5)
    have hown : Own (w.alloc (.cells #[] 5)) w.heap.size 5 1 (some ⟨w.heap.size, 0, none⟩) 0 0 [] := Own.none_ _ _ _ _ _
    go_wp2_with (at_builtin; refine wpList_append _ rfl (.tmp 5) (.tmp 6) 23 rfl w.heap.size 5 ti _ 1 1 Try.underlying23 hti hz0 hz1 hz2 rfl (by omega) (some ⟨w.heap.size, 0, none⟩) 0 0 _ rfl hown w.heap.size (some a) n c (bcells bs) rfl (hr.alloc (Nat.le_refl _) _) (by rw [length_bcells, hl.out]; omega) (bcells_one _) (by unfold maxLen; omega) (by omega) (by simp) ?_; intro A3 c3 w4 hown4 hg4 hat4; rw [Nat.zero_add, List.nil_append] at hown4)
    go_ret
    exact ⟨_, _, rfl, hown4, hown.grown hg4 hb1 (by simp)⟩

theorem unp_none (bs : List UInt8) (h : Oct.unp bs = none) : Oct.unpB bs = [] ∧ Oct.unpE bs = 4 := by
  unfold Oct.unpB Oct.unpE; rw [h]; exact ⟨rfl, rfl⟩
theorem unp_some (bs l : List UInt8) (h : Oct.unp bs = some l) : Oct.unpB bs = l ∧ Oct.unpE bs = 0 := by
  unfold Oct.unpB Oct.unpE; rw [h]; exact ⟨rfl, rfl⟩
theorem byte_eq (x : UInt8) (m : Nat) (hm : m < 256) : (x = UInt8.ofNat m) ↔ x.toNat = m := by
  constructor
  · rintro rfl; exact UInt8.toNat_ofNat_of_lt' (by simpa [UInt8.size] using hm)
  · intro h; apply UInt8.toNat_inj.1; rw [h]; exact (UInt8.toNat_ofNat_of_lt' (by simpa [UInt8.size] using hm)).symm

end Go.Proofs.Ytpacdjkikbdkeaa
end

section
namespace Go.Proofs.Ytpacdjkikbdkeaa
set_option maxRecDepth 100000
set_option linter.unusedSimpArgs false
set_option linter.unusedVariables false
open Go.RowKit

/-- A slice of bytes as a value, with what it shows. -/
structure SV where
  a : Option Addr
  n : Nat
  c : Nat
  bs : List UInt8
def SV.val (v : SV) : Value := .slice v.a v.n v.c
/-- What the strings are together. -/
def joined (vs : List SV) : List UInt8 := vs.flatMap (·.bs)
theorem joined_nil : joined [] = [] := rfl
theorem joined_take (vs : List SV) (k : Nat) (h : k < vs.length) : joined (vs.take (k + 1)) = joined (vs.take k) ++ vs[k].bs := by
  unfold joined
  rw [List.take_succ_eq_append_getElem h, List.flatMap_append]; simp
theorem joined_le (vs : List SV) (k : Nat) : (joined (vs.take k)).length ≤ (joined vs).length := by
  have h : joined vs = joined (vs.take k) ++ joined (vs.drop k) := by
    unfold joined; rw [← List.flatMap_append, List.take_append_drop]
  rw [h, List.length_append]; omega
/-- A slice of such slices. -/
def Byts (w : World) (B : Nat) (A : Option Addr) (vs : List SV) : Prop := Row w B A (vs.map SV.val) ∧ ∀ v ∈ vs, Byt w B v.a v.n v.c v.bs
section
variable {w w' : World} {B B' : Nat} {A : Option Addr} {vs : List SV}
theorem Byts.below (h : Byts w B A vs) (hb : Below B w w') : Byts w' B A vs := ⟨h.1.below hb, fun v hv => (h.2 v hv).below hb⟩
theorem Byts.more (h : Byts w B A vs) (hB : B ≤ B') : Byts w B' A vs := ⟨h.1.more hB, fun v hv => (h.2 v hv).more hB⟩
theorem Byts.at_ (h : Byts w B A vs) {k : Nat} (hk : k < vs.length) : ∃ b o, A = some ⟨b, o, none⟩ ∧ w.cell? ⟨b, o + k, none⟩ = some (.slice vs[k].a vs[k].n vs[k].c) ∧ Byt w B vs[k].a vs[k].n vs[k].c vs[k].bs := by
  obtain ⟨b, o, e, _, hc⟩ := h.1.at_ (j := k) (by simpa using hk)
  exact ⟨b, o, e, by rw [hc, List.getElem_map]; rfl, h.2 _ (List.getElem_mem hk)⟩
end
/-- One slice in a block of its own. -/
theorem Byts.one {w : World} {A : Option Addr} {n c : Nat} {bs : List UInt8} {t : TypeId} (h : Byt w w.heap.size A n c bs) :
    Byts (w.alloc (.cells #[.slice A n c] t)) (w.heap.size + 1) (some ⟨w.heap.size, 0, none⟩) [⟨A, n, c, bs⟩] := by
  refine ⟨Row.new w rfl, fun v hv => ?_⟩
  obtain rfl := List.mem_singleton.1 hv
  exact (h.below ((Below.refl _ _).alloc (Nat.le_refl _) _)).more (by omega)
end Go.Proofs.Ytpacdjkikbdkeaa
end

section
namespace Go.Proofs.Ytpacdjkikbdkeaa
set_option maxRecDepth 100000
set_option linter.unusedSimpArgs false
set_option linter.unusedVariables false
open Go.RowKit

theorem pt_arg (n width : Int) (h : width < 1 ∨ 8 < width) : Oct.ptB n width = [] ∧ Oct.ptE n width = 1 := by
  have e : Oct.ptE n width = 1 := by unfold Oct.ptE; rw [if_pos h]
  exact ⟨by unfold Oct.ptB; rw [e]; rfl, e⟩
theorem pt_range (n : Int) (m : Nat) (h1 : 1 ≤ m) (h8 : m ≤ 8) (h : n < 0 ∨ (256 : Int) ^ m ≤ n) : Oct.ptB n (m : Int) = [] ∧ Oct.ptE n (m : Int) = 2 := by
  have e : Oct.ptE n (m : Int) = 2 := by unfold Oct.ptE; rw [if_neg (by omega), if_pos (by simpa using h)]
  exact ⟨by unfold Oct.ptB; rw [e]; rfl, e⟩
theorem pt_ok (n m : Nat) (h1 : 1 ≤ m) (h8 : m ≤ 8) (h : n < 256 ^ m) : Oct.ptB (n : Int) (m : Int) = Oct.putB n m ∧ Oct.ptE (n : Int) (m : Int) = 0 := by
  have hi : (n : Int) < (256 : Int) ^ m := by have : ((n : Nat) : Int) < ((256 ^ m : Nat) : Int) := by omega
                                              simpa using this
  have e : Oct.ptE (n : Int) (m : Int) = 0 := by unfold Oct.ptE; rw [if_neg (by omega), if_neg (by simp only [Int.toNat_natCast]; omega)]
  exact ⟨by unfold Oct.ptB; rw [if_pos e]; simp, e⟩

theorem pow8 (m : Nat) : 2 ^ (8 * m) = 256 ^ m := by rw [Nat.pow_mul]
theorem shr8 (k m : Nat) : ((k : Int) / 2 ^ (8 * m)) = ((k / 256 ^ m : Nat) : Int) := by
  rw [← pow8]; simp
theorem shr8_ne (k m : Nat) : ((k : Int) / 2 ^ (8 * m) != 0) = decide (256 ^ m ≤ k) := by
  rw [shr8]
  have hp : 0 < 256 ^ m := Nat.pow_pos (by omega)
  by_cases h : 256 ^ m ≤ k
  · have := (Nat.le_div_iff_mul_le hp (x := 1) (y := k)).2 (by omega)
    simp only [h, decide_true, bne_iff_ne]
    omega
  · rw [Nat.div_eq_of_lt (by omega)]; simp [h]

/-- A number below 2^64 as an int. -/
def sg (n : Nat) : Int := if n < 9223372036854775808 then (n : Int) else (n : Int) - 18446744073709551616
theorem sg_small (n : Nat) (h : n < 9223372036854775808) : sg n = (n : Int) := by unfold sg; rw [if_pos h]
theorem sg_big (n : Nat) (h : 9223372036854775808 ≤ n) (h2 : n < 18446744073709551616) : sg n < 0 := by unfold sg; rw [if_neg (by omega)]; omega
theorem numK_56 (b : List UInt8) (k : Nat) (h : k ≤ 7) : Oct.numK b k < 72057594037927936 :=
  Nat.lt_of_lt_of_le (Oct.numK_lt b k) (Nat.le_trans (Nat.pow_le_pow_right (by omega) h) (by decide))
theorem or_get (n x : Nat) (hn : n < 72057594037927936) (hx : x < 256) : bits BinOp.or IntKind.i64 (wrap64 ((n : Int) * 256)) (x : Int) = sg (n * 256 + x) := by
  have e1 : (BitVec.ofInt 64 (wrap64 ((n : Int) * 256))).toNat = n * 256 := by
    rw [BitVec.toNat_ofInt]
    simp only [wrap64]
    omega
  have e2 : (BitVec.ofInt 64 (x : Int)).toNat = x := by
    rw [BitVec.ofInt_natCast, BitVec.toNat_ofNat]; omega
  show IntKind.i64.wrap ((BitVec.ofInt 64 (wrap64 ((n : Int) * 256)) ||| BitVec.ofInt 64 (x : Int)).toNat : Int) = _
  rw [BitVec.toNat_or, e1, e2, nat_join 8 _ _ (by omega) (by omega), IntKind.wrap_i64]
  unfold sg
  split <;> omega
theorem gt_long (b : List UInt8) (h : 8 < b.length) : Oct.gtN b = 0 ∧ Oct.gtE b = 3 := by
  have e : Oct.gtE b = 3 := by unfold Oct.gtE; rw [if_pos h]
  exact ⟨by unfold Oct.gtN; rw [e]; rfl, e⟩
theorem gt_big (b : List UInt8) (h : b.length ≤ 8) (hb : 9223372036854775808 ≤ Oct.num b) : Oct.gtN b = 0 ∧ Oct.gtE b = 2 := by
  have e : Oct.gtE b = 2 := by unfold Oct.gtE; rw [if_neg (by omega), if_pos hb]
  exact ⟨by unfold Oct.gtN; rw [e]; rfl, e⟩
theorem gt_ok (b : List UInt8) (h : b.length ≤ 8) (hb : Oct.num b < 9223372036854775808) : Oct.gtN b = Oct.num b ∧ Oct.gtE b = 0 := by
  have e : Oct.gtE b = 0 := by unfold Oct.gtE; rw [if_neg (by omega), if_neg (by omega)]
  exact ⟨by unfold Oct.gtN; rw [if_pos e], e⟩

set_option maxHeartbeats 1000000 in
theorem octets_Join (A : Option Addr) (n c : Nat) (vs : List SV) (w : World) (h : Byts w w.heap.size A vs) (hn : vs.length = n) (hm : n ≤ 9223372036854775807) (ht : (joined vs).length ≤ 1099511627776) :
    Calls Try.prog 64 #[.slice A n c] w fun e w' => ∃ A2 c2, e = .returned (.slice A2 (joined vs).length c2) ∧ Own w' w.heap.size 5 1 A2 (joined vs).length c2 (bcells (joined vs)) ∧ Below w.heap.size w w' := by
  obtain ⟨ti, hti, hz0, hz1, hz2⟩ := info_parts o_u8
  have hl := Lib.hid hn
  clear hn
  go_enter Try.func64, Try.ntmps64
  go_wp2_with fail
  go_loopg [3, 8] n (fun g v i wr => ∃ (k : Nat) (A2 : Option Addr) (m c2 : Nat), k + g = n ∧ i = .int .i64 k ∧ v = .slice A2 m c2 ∧ Hid (m = (joined (vs.take k)).length) ∧ Own wr w.heap.size 5 1 A2 m c2 (bcells (joined (vs.take k))) ∧ Below w.heap.size w wr)
  case atStart => exact ⟨0, none, 0, 0, by omega, rfl, rfl, rfl, Own.none_ _ _ _ _ _, Below.refl _ _⟩
  case round =>
    obtain ⟨k, A2, m, c2, hk, rfl, rfl, hM, hown, hbw⟩ := hrel
    cases gk with
    | zero =>
      obtain rfl : k = n := by omega
      have e1 : vs.take k = vs := List.take_of_length_le (by rw [hl.out]; omega)
      rw [e1] at hM hown
      go_wp2_with fail
      go_ret
      rw [← hM.out]
      exact ⟨A2, c2, rfl, hown, hbw⟩
    | succ g =>
      have hkv : k < vs.length := by rw [hl.out]; omega
      obtain ⟨b, o, rfl, hc, hy⟩ := (h.below hbw).at_ hkv
      have jt := Lib.hid (joined_take vs k hkv)
      have j1 := joined_le vs (k + 1)
      rw [jt.out, List.length_append] at j1
      generalize vs[k] = x at *
      have p0 : (0 : Int) ≤ (k : Int) := by omega
      have p1 : (k : Int) < (n : Int) := by omega
      have j2 : x.bs.length = x.n := hy.1
      have j3 : m + x.n ≤ 1099511627776 := by rw [hM.out, ← j2]; omega
      clear j1
      have J2 := Lib.hid j2
      clear j2
      go_wp2_with (at_builtin; refine wpList_append _ rfl (.tmp 12) (.tmp 13) 23 rfl w.heap.size 5 ti _ 1 1 Try.underlying23 hti hz0 hz1 hz2 rfl (by omega) A2 m c2 _ rfl hown w.heap.size x.a x.n x.c (bcells x.bs) rfl hy.2.2 (by rw [length_bcells, J2.out]; omega) (bcells_one _) (by unfold maxLen; omega) (by omega) hbw.size ?_; intro A3 c3 w4 hown4 hg4 hat4)
      go_roundg g
      case measure => omega
      case rel => exact ⟨k + 1, A3, _, c3, by omega, by go_num, rfl, by rw [jt.out, List.length_append, J2.out]; exact congrArg (· + x.n) hM.out, by rw [jt.out, bcells_append]; exact hown4, hown.grown hg4 hbw hbw.size⟩
end Go.Proofs.Ytpacdjkikbdkeaa
end

section
namespace Go.Proofs.Ytpacdjkikbdkeaa
set_option maxRecDepth 100000
set_option linter.unusedSimpArgs false
set_option linter.unusedVariables false
open Go.RowKit

theorem zeroCells_u8 (m : Nat) : Builtin.zeroCells #[Value.int .u8 0] m = (bcells (zs m)).toArray := by
  apply Array.ext
  · simp [Builtin.zeroCells, zs]
  · intro i h1 h2; simp [Builtin.zeroCells, Nat.mod_one, bcells, zs, B8]

section
variable {P : Program} (w : World)
theorem run_appendz (base : Nat) (t ti ty e : TypeId) (i : TypeInfo) (ht : P.underlying t = some (.slice e)) (hti : P.underlying ti = some (.int .i64)) (hi : P.info? e = some i) (hz : i.zero = some (.int .u8 0))
    (hs : i.size = 1) (hb : i.bytes = 1) (A : Option Addr) (n c : Nat) (cs : List Value) (hown : Own w base e 1 A n c cs) (hc0 : 0 < c) (m : Nat) (hm : 0 < m) (hnm : n + m ≤ 1099511627776) (hbase : base ≤ w.heap.size) :
    ∃ A2 c2 w2, (Builtin.append_ #[t, ti] ty #[.slice A n c, .int .i64 (m : Int)]).run P w = .ok (.slice A2 (n + m) c2) w2 ∧ Own w2 base e 1 A2 (n + m) c2 (cs ++ bcells (zs m)) ∧ w.grownBy w2 (ownAt A c) := by
  obtain ⟨hlen, hnc, hcm, hc⟩ := hown
  obtain ⟨g, cur, rfl, hbg, hg, hcs, htake⟩ := hc hc0
  have wm : IntKind.i64.wrap (m : Int) = (m : Int) := by rw [IntKind.wrap_i64]; omega
  have n1 : ¬ (m : Int) < 0 := by omega
  have n2 : ¬ (281474976710656 : Int) < (m : Int) := by omega
  have n3 : ¬ m = 0 := by omega
  have hlen2 : (cs ++ bcells (zs m)).length = (n + m) * 1 := by rw [List.length_append, hlen, length_bcells, zs_length]; omega
  by_cases hroom : n + m ≤ c
  · have hst := run_storeCells_at P g n e (bcells (zs m)) 0 cur w hg (by rw [length_bcells, zs_length]; omega) (bcells_one _)
    simp only [Nat.add_zero] at hst
    have hr : (Builtin.append_ #[t, ti] ty #[.slice (some ⟨g, 0, none⟩) n c, .int .i64 (m : Int)]).run P w = .ok (.slice (some ⟨g, 0, none⟩) (n + m) c) (w.setRow g (cur.toList.take n ++ bcells (zs m) ++ cur.toList.drop (n + (bcells (zs m)).length)).toArray) := by
      simp [Builtin.append_, run_underlying ht, run_underlying hti, sizeOf, typeInfo, zeroValue, asInt, asIntOf, hi, hz, hs, hb, wm, n1, n2, n3, hroom, Addr.add_lit, zeroCells_u8, Value.cells] at hst ⊢
      rw [hst]; rfl
    refine ⟨_, _, _, hr, ⟨hlen2, hroom, hcm, fun _ => ⟨g, _, rfl, hbg, setRow_heap w g cur _ e _ hg, ?_, ?_⟩⟩, ⟨rfl, rfl, rfl, by simp, fun k hk hne => setRow_other w g k _ (fun e => hne (by simp [ownAt, e]; omega))⟩⟩
    · simp only [List.size_toArray, List.length_append, List.length_take, List.length_drop, Array.length_toList]
      omega
    · rw [← htake, Nat.mul_one, Nat.mul_one, show n + m = (cur.toList.take n ++ bcells (zs m)).length by rw [List.length_append, List.length_take, Array.length_toList, length_bcells, zs_length]; omega]
      exact List.take_left
  · have hfo := run_firstCells_some (P := P) w.drew 1 n ⟨g, 0, none⟩ n c cs hlen (fun j u hu => by
      have hj : j < cs.length := (List.getElem?_eq_some_iff.1 hu).1
      show w.cell? _ = _
      rw [add_eq, Nat.zero_add, cell_of_row w g j cur e (0, 0) hg]
      rw [← htake, List.getElem?_take] at hu
      split at hu
      · simpa using hu
      · cases hu)
    have hcap := grownCap_ge w (n + m) c e
    have hcap2 := grownCap_le_maxLen w (n + m) c e (by unfold maxLen; omega)
    have h63 : ¬ (9223372036854775807 < ((n : Int) + (m : Int))) := by omega
    have h48 : ¬ (281474976710656 < Builtin.nextslicecap (n + m) c) := by
      have := growslice_fits (need := n + m) (old := c) (bytes := 1) (by omega) (by omega)
      omega
    have hr : (Builtin.append_ #[t, ti] ty #[.slice (some ⟨g, 0, none⟩) n c, .int .i64 (m : Int)]).run P w =
        .ok (.slice (some ⟨w.heap.size, 0, none⟩) (n + m) (grownCap w (n + m) c e))
          (w.drew.alloc (.cells (cs.toArray ++ (bcells (zs m)).toArray ++ Builtin.zeroCells #[.int .u8 0] (grownCap w (n + m) c e - (n + m))) e)) := by
      simp [Builtin.append_, run_underlying ht, run_underlying hti, sizeOf, typeInfo, zeroValue, asInt, asIntOf, hi, hz, hs, hb, wm, n1, n2, n3, hroom, h63, h48, Question.forced, zeroCells_u8, Value.cells, hfo, newRow, grownCap]
    refine ⟨_, _, _, hr, ⟨hlen2, hcap, hcap2, fun _ => ⟨w.heap.size, _, rfl, hbase, heap_alloc_new w.drew _, ?_, ?_⟩⟩, ⟨rfl, rfl, rfl, by simp, fun k hk _ => Below.heap_alloc w.drew _ k hk⟩⟩
    · simp only [Array.size_append, List.size_toArray, size_zeroCells, hlen, length_bcells, zs_length]
      simp
      omega
    · simp only [Array.toList_append]
      rw [← hlen2]
      exact List.take_left

theorem wpList_appendz {ops : Array Oper} {rest : List Oper} {o : Oper} {a : Act} {Q : Exit → Act → World → Prop} (hgd : o.guard = none) (x y : Operand) (t ti : TypeId)
    (ho : o.op = .call { callee := .builtin .append, args := #[x, y], argTypes := #[t, ti] })
    (base : Nat) (e : TypeId) (i : TypeInfo) (ht : P.underlying t = some (.slice e)) (hti : P.underlying ti = some (.int .i64)) (hi : P.info? e = some i) (hz : i.zero = some (.int .u8 0))
    (hs : i.size = 1) (hb : i.bytes = 1) (A : Option Addr) (n c : Nat) (cs : List Value) (hx : a.eval x = .slice A n c) (hown : Own w base e 1 A n c cs) (hc0 : 0 < c) (z : Int) (m : Nat) (hzm : z = (m : Int)) (hy : a.eval y = .int .i64 z) (hm : 0 < m) (hnm : n + m ≤ 1099511627776) (hbase : base ≤ w.heap.size)
    (h : ∀ A2 c2 w2, Own w2 base e 1 A2 (n + m) c2 (cs ++ bcells (zs m)) → w.grownBy w2 (ownAt A c) → wpList P ops Q rest (a.put o.dst (.slice A2 (n + m) c2)) w2) : wpList P ops Q (o :: rest) a w := by
  subst hzm
  refine wpList_plain hgd fun _ hK => ?_
  obtain ⟨A2, c2, w2, hrun, h2, h3⟩ := run_appendz (P := P) w base t ti o.type e i ht hti hi hz hs hb A n c cs hown hc0 m hm hnm hbase
  unfold Oper.wp execOp
  simp only [ho, resolve, invoke, builtin, Sem.run_bind, Sem.run_pure, Result.andThen_ok, List.map_toArray, List.map_cons, List.map_nil, hx, hy, hrun]
  exact hK _ _ (h A2 c2 w2 h2 h3)
end
end Go.Proofs.Ytpacdjkikbdkeaa
end

section
namespace Go.Proofs.Ytpacdjkikbdkeaa
set_option maxRecDepth 100000
set_option linter.unusedSimpArgs false
set_option linter.unusedVariables false
open Go.RowKit

theorem pad_no (bs : List UInt8) (n : Int) (h : n < 1 ∨ 65536 < n) : Oct.padB bs n = [] ∧ Oct.padE n = 1 := by
  have e : Oct.padOk n = false := by unfold Oct.padOk; simp; omega
  unfold Oct.padB Oct.padE; rw [e]; exact ⟨rfl, rfl⟩
theorem pad_yes (bs : List UInt8) (m : Nat) (h1 : 1 ≤ m) (h2 : m ≤ 65536) : Oct.padB bs (m : Int) = Oct.pad bs m ∧ Oct.padE (m : Int) = 0 := by
  have e : Oct.padOk (m : Int) = true := by unfold Oct.padOk; simp; omega
  unfold Oct.padB Oct.padE; rw [e]; exact ⟨by simp, rfl⟩

end Go.Proofs.Ytpacdjkikbdkeaa
end

section
namespace Go.Proofs.Ytpacdjkikbdkeaa
set_option maxRecDepth 100000
set_option linter.unusedSimpArgs false
set_option linter.unusedVariables false
open Go.RowKit

set_option maxRecDepth 100000 in
set_option maxHeartbeats 2000000 in
theorem ref04_Case (cla ins p1 p2 : Int) (A : Option Addr) (n c : Nat) (le : Int) (long : Bool) (w : World) :
    Calls Try.prog 33 #[cmdV cla ins p1 p2 A n c le long] w fun e w' => e = .returned (.int .i64 (Apd.cas cla ins p1 p2 n le long)) ∧ Below w.heap.size w w' := by
  have HC := Lib.hid (ref04_Check cla ins p1 p2 A n c le long)
  have HB := Lib.hid (Blk.new w 30 #[I64 cla, I64 ins, I64 p1, I64 p2, .slice A n c, I64 le, .bool long])
  have HE := Lib.hid ((Below.refl w.heap.size w).alloc (Nat.le_refl _) (.cells #[I64 cla, I64 ins, I64 p1, I64 p2, .slice A n c, I64 le, .bool long] 30))
  unfold cmdV at HC ⊢
  have hs : w.heap.size ≤ (w.alloc (.cells #[I64 cla, I64 ins, I64 p1, I64 p2, .slice A n c, I64 le, .bool long] 30)).heap.size := HE.out.size
  by_cases h0 : Apd.chk cla ins p1 p2 n le long = 0
  · have e : Apd.cas cla ins p1 p2 n le long = 1 + (if 0 < n then 2 else 0) + (if 0 < le then 1 else 0) := by unfold Apd.cas; rw [if_pos h0]
    rw [e]
    have hc := HC.out
    rw [h0] at hc
    replace HC := Lib.hid hc
    clear e h0 hc
    by_cases h1 : 0 < n <;> by_cases h2 : 0 < le
    all_goals
      go_enter Try.func33, Try.ntmps33
      go_wp2_with (go_at_call 54; refine (HC.out _).mono ?_; rintro e w1 ⟨rfl, hb1⟩; have B1 := HB.out.below hb1 HB.out.lt; have k4 := B1.cell 4; have k5 := B1.cell 5; clear B1)
      go_ret
      exact ⟨by simp [h1, h2], HE.out.trans (hb1.mono hs)⟩
  · have e : Apd.cas cla ins p1 p2 n le long = 0 := by unfold Apd.cas; rw [if_neg h0]
    rw [e]
    clear e
    go_enter Try.func33, Try.ntmps33
    go_wp2_with (go_at_call 54; refine (HC.out _).mono ?_; rintro e w1 ⟨rfl, hb1⟩)
    go_ret
    exact ⟨rfl, HE.out.trans (hb1.mono hs)⟩

theorem ofInt_i64 (a : Nat) (ha : a < 9223372036854775808) : (BitVec.ofInt 64 (a : Int)).toNat = a := by
  rw [BitVec.ofInt_natCast, BitVec.toNat_ofNat]; exact Nat.mod_eq_of_lt (by omega)
theorem i64_and_nat (a b : Nat) (ha : a < 9223372036854775808) (hb : b < 9223372036854775808) : bits .and .i64 (a : Int) (b : Int) = ((a &&& b : Nat) : Int) := by
  have hx : a &&& b < 2 ^ 63 := Nat.and_lt_two_pow _ (by omega)
  show IntKind.i64.wrap ((BitVec.ofInt 64 (a : Int) &&& BitVec.ofInt 64 (b : Int)).toNat : Int) = _
  rw [BitVec.toNat_and, ofInt_i64 a ha, ofInt_i64 b hb, IntKind.wrap_i64]
  omega
theorem i64_or_nat (a b : Nat) (ha : a < 9223372036854775808) (hb : b < 9223372036854775808) : bits .or .i64 (a : Int) (b : Int) = ((a ||| b : Nat) : Int) := by
  have hx : a ||| b < 2 ^ 63 := Nat.or_lt_two_pow (by omega) (by omega)
  show IntKind.i64.wrap ((BitVec.ofInt 64 (a : Int) ||| BitVec.ofInt 64 (b : Int)).toNat : Int) = _
  rw [BitVec.toNat_or, ofInt_i64 a ha, ofInt_i64 b hb, IntKind.wrap_i64]
  omega
theorem i64_xor_nat (a b : Nat) (ha : a < 9223372036854775808) (hb : b < 9223372036854775808) : bits .xor .i64 (a : Int) (b : Int) = ((a ^^^ b : Nat) : Int) := by
  have hx : a ^^^ b < 2 ^ 63 := Nat.xor_lt_two_pow (by omega) (by omega)
  show IntKind.i64.wrap ((BitVec.ofInt 64 (a : Int) ^^^ BitVec.ofInt 64 (b : Int)).toNat : Int) = _
  rw [BitVec.toNat_xor, ofInt_i64 a ha, ofInt_i64 b hb, IntKind.wrap_i64]
  omega
theorem ecc_xor (a b : Nat) (ha : a < 64) (hb : b < 64) : bits BinOp.xor IntKind.i64 (a : Int) (b : Int) = ((a ^^^ b : Nat) : Int) := i64_xor_nat a b (by omega) (by omega)
theorem and255 (n : Nat) (h : n ≤ 65536) : bits .and .i64 (n : Int) 255 = ((n % 256 ^ 1 : Nat) : Int) := by
  rw [show (255 : Int) = ((255 : Nat) : Int) from rfl, i64_and_nat _ _ (by omega) (by omega), show 255 = 2 ^ 8 - 1 from rfl, Nat.and_two_pow_sub_one_eq_mod]
theorem and65535 (n : Nat) (h : n ≤ 65536) : bits .and .i64 (n : Int) 65535 = ((n % 256 ^ 2 : Nat) : Int) := by
  rw [show (65535 : Int) = ((65535 : Nat) : Int) from rfl, i64_and_nat _ _ (by omega) (by omega), show 65535 = 2 ^ 16 - 1 from rfl, Nat.and_two_pow_sub_one_eq_mod]

theorem putB_mod (n m : Nat) (hm : m = 1 ∨ m = 2) : Oct.putB (n % 256 ^ m) m = Oct.putB n m := by
  unfold Oct.putB
  rcases hm with rfl | rfl
  · simp [List.range_succ]
    apply UInt8.toNat_inj.1; simp
  · simp [List.range_succ]
    constructor
    · apply UInt8.toNat_inj.1; simp <;> omega
    · apply UInt8.toNat_inj.1; simp <;> omega

set_option maxHeartbeats 2000000 in
theorem ref04_number (k m : Nat) (w : World) (hm : m = 1 ∨ m = 2) (hn : k ≤ 65536) :
    Calls Try.prog 66 #[.int .i64 (k : Int), .int .i64 (m : Int)] w fun e w' => ∃ A2 c2, e = .returned (.slice A2 m c2) ∧ Own w' w.heap.size 5 1 A2 m c2 (bcells (Oct.putB k m)) ∧ Below w.heap.size w w' := by
  obtain ⟨ti, hti, hz0, hz1, hz2⟩ := info_parts o_u8
  have h1 : 1 ≤ m := by omega
  have h8 : m ≤ 8 := by omega
  have hlen : (Oct.putB k m).length = m := Oct.putB_length k m
  have hown0 : ∀ (W : World), Blk W w.heap.size 5 (madeCells #[.int .u8 0] m) → Own W w.heap.size 5 1 (some ⟨w.heap.size, 0, none⟩) m m (bcells (lastK (Oct.putB k m) 0)) := by
    intro W hb
    rw [lastK_zero, hlen, ← bcells_zs]
    exact Own.made hb (Nat.le_refl _) (by unfold maxLen; omega)
  have HO := Lib.hid hown0
  have HLEN := Lib.hid hlen
  have mk := made_u8 (P := Try.prog) 23 5 ti Try.underlying23 hti hz0 hz1 hz2 m (by omega)
  clear hown0 hlen hm
  go_enter Try.func66, Try.ntmps66
  go_wp2_with fail
  go_loopg [0, 6] m (fun g nn i wr => ∃ j q : Nat, j + g = m ∧ Hid (q = k / 256 ^ j) ∧ q ≤ k ∧ i = .int .i64 ((g : Int) - 1) ∧ nn = .int .i64 (q : Int) ∧ Own wr w.heap.size 5 1 (some ⟨w.heap.size, 0, none⟩) m m (bcells (lastK (Oct.putB k m) j)) ∧ Below w.heap.size w wr)
  case atStart => exact ⟨0, k, by omega, Lib.hid (by simp), Nat.le_refl _, rfl, rfl, HO.out _ (Blk.new' _ rfl rfl), (Below.refl _ _).alloc (Nat.le_refl _) _⟩
  case round =>
    obtain ⟨j, q, hj, hq, hqk, rfl, rfl, hown, hbw⟩ := hrel
    cases gk with
    | zero =>
      obtain rfl : j = m := by omega
      rw [show ((0 : Nat) : Int) - 1 = -1 by omega]
      have hf := lastK_full (Oct.putB k j)
      rw [HLEN.out] at hf
      rw [hf] at hown
      clear hf
      go_wp2_with fail
      go_ret
      exact ⟨_, _, rfl, hown, hbw⟩
    | succ g =>
      rw [show ((g + 1 : Nat) : Int) - 1 = (g : Int) by omega]
      have hgm : g = m - 1 - j := by omega
      have hst := lastK_set (Oct.putB k m) j (by rw [HLEN.out]; omega)
      rw [HLEN.out, ← hgm, Oct.putB_get k m g (by omega), show m - 1 - g = j by omega, ← hq.out] at hst
      have HST := Lib.hid hst
      obtain ⟨q2, hq2, hqb, hqs, hcell, hfr, hstore⟩ := hown.elem (i := g) (by omega)
      obtain rfl : w.heap.size = q2 := by simpa using hq2
      have hcell2 : ∃ v, wr.cell? ⟨w.heap.size, g, none⟩ = some v := by
        rw [hcell]; exact ⟨_, List.getElem?_eq_getElem (by rw [length_bcells, lastK_length, HLEN.out]; omega)⟩
      obtain ⟨v0, hcell2⟩ := hcell2
      have hs2 := Lib.hid (hstore (B8 (UInt8.ofNat q)))
      have i0 : (0 : Int) ≤ (g : Int) := by omega
      have i1 : (g : Int) < (m : Int) := by omega
      have i2 : (0 : Int) ≤ (q : Int) := by omega
      have i3 : (q : Int) ≤ 9223372036854775807 := by omega
      have hqn : Hid (q / 256 = k / 256 ^ (j + 1)) := by show _ = _; rw [hq.out, Nat.pow_succ, Nat.div_div_eq_div_mul]
      clear hcell hstore hq2 hst hgm
      go_wp2_with fail
      go_roundg g
      case measure => omega
      case rel =>
        refine ⟨j + 1, q / 256, by omega, hqn, by omega, by go_num, by go_num, ?_, hbw.setCell (by simp) _⟩
        rw [← HST.out, bcells_set]
        have := hs2.out
        rw [B8, UInt8.toNat_ofNat'] at this
        rw [B8, UInt8.toNat_ofNat']
        first | exact this | (have e3 : ((q % 2 ^ 8 : Nat) : Int) = (q : Int) % 256 := by omega
                              rw [e3] at this ⊢
                              exact this)
end Go.Proofs.Ytpacdjkikbdkeaa
end

section
namespace Go.Proofs.Ytpacdjkikbdkeaa
set_option maxRecDepth 100000
set_option linter.unusedSimpArgs false
set_option linter.unusedVariables false
open Go.RowKit

theorem b8_val (x : Int) (h0 : 0 ≤ x) (h1 : x ≤ 255) : B8 (Apd.b8 x) = .int .u8 x := by
  unfold B8 Apd.b8
  rw [UInt8.toNat_ofNat_of_lt' (by simp only [UInt8.size]; omega), Int.toNat_of_nonneg h0]

theorem app8 {ops : Array Oper} {rest : List Oper} {o : Oper} {a : Act} {Q : Exit → Act → World → Prop} {w : World} (hgd : o.guard = none) (x y : Operand)
    (ho : o.op = .call { callee := .builtin .append, args := #[x, y], argTypes := #[23, 23] }) (base : Nat)
    (A : Option Addr) (n c : Nat) (L : List UInt8) (hx : a.eval x = .slice A n c) (hown : Own w base 5 1 A n c (bcells L))
    (A' : Option Addr) (m c' : Nat) (M : List UInt8) (hy : a.eval y = .slice A' m c') (B : Nat) (hr : Row w B A' (bcells M)) (hm : M.length = m) (hsz : n + m ≤ 1000000000)
    (w0 : World) (hbw : Below base w0 w) (hbase : base ≤ w0.heap.size)
    (h : ∀ A2 c2 w2, Own w2 base 5 1 A2 (n + m) c2 (bcells (L ++ M)) → Below base w0 w2 → wpList Try.prog ops Q rest (a.put o.dst (.slice A2 (n + m) c2)) w2) : wpList Try.prog ops Q (o :: rest) a w := by
  obtain ⟨ti, hti, hz0, hz1, hz2⟩ := info_parts o_u8
  refine wpList_append w hgd x y 23 ho base 5 ti _ 1 1 Try.underlying23 hti hz0 hz1 hz2 rfl (by omega) A n c (bcells L) hx hown B A' m c' (bcells M) hy hr (by rw [length_bcells, hm]; omega) (bcells_one _) (by unfold maxLen; omega) (by omega) (Nat.le_trans hbase hbw.size) ?_
  intro A2 c2 w2 h1 h2 _
  refine h A2 c2 w2 (by rw [show bcells (L ++ M) = bcells L ++ bcells M by simp [bcells]]; exact h1) (hown.grown h2 hbw (Nat.le_trans hbase hbw.size))

theorem step_app8 {ops : Array Oper} {o : Oper} {a : Act} {K : Act → World → Prop} {Q : Exit → Act → World → Prop} {E : Prop} {w : World} (hgd : o.guard = none) (x y : Operand)
    (ho : o.op = .call { callee := .builtin .append, args := #[x, y], argTypes := #[23, 23] }) (base : Nat)
    (A : Option Addr) (n c : Nat) (L : List UInt8) (hx : a.eval x = .slice A n c) (hown : Own w base 5 1 A n c (bcells L))
    (A' : Option Addr) (m c' : Nat) (M : List UInt8) (hy : a.eval y = .slice A' m c') (B : Nat) (hr : Row w B A' (bcells M)) (hm : M.length = m) (hsz : n + m ≤ 1000000000)
    (w0 : World) (hbw : Below base w0 w) (hbase : base ≤ w0.heap.size)
    (h : ∀ A2 c2 w2, Own w2 base 5 1 A2 (n + m) c2 (bcells (L ++ M)) → Below base w0 w2 → K (a.put o.dst (.slice A2 (n + m) c2)) w2) : if Region.wanted o (yielded ops a.tmps) = true then Oper.wp Try.prog o a w K Q else E := by
  obtain ⟨ti, hti, hz0, hz1, hz2⟩ := info_parts o_u8
  refine step_append w hgd x y 23 ho base 5 ti _ 1 1 Try.underlying23 hti hz0 hz1 hz2 rfl (by omega) A n c (bcells L) hx hown B A' m c' (bcells M) hy hr (by rw [length_bcells, hm]; omega) (bcells_one _) (by unfold maxLen; omega) (by omega) (Nat.le_trans hbase hbw.size) ?_
  intro A2 c2 w2 h1 h2 _
  refine h A2 c2 w2 (by rw [show bcells (L ++ M) = bcells L ++ bcells M by simp [bcells]]; exact h1) (hown.grown h2 hbw (Nat.le_trans hbase hbw.size))

end Go.Proofs.Ytpacdjkikbdkeaa
end

section
namespace Go.Proofs.Ytpacdjkikbdkeaa
set_option maxRecDepth 100000
set_option linter.unusedSimpArgs false
set_option linter.unusedVariables false
open Go.RowKit


end Go.Proofs.Ytpacdjkikbdkeaa
end

section
namespace Go.Proofs.Ytpacdjkikbdkeaa
set_option maxRecDepth 100000
set_option linter.unusedSimpArgs false
set_option linter.unusedVariables false
open Go.RowKit

theorem results_row_tmp {P : Program} {fn : Func} {p u : Tmp} {ty : TypeId} (h : fn.results = #[.cell p ty, .tmp u]) (tmps : Array Value) (w : World) (g : Nat) (t : TypeId) (cs : Array Value) (fr : Nat × Nat) (d : TypeDesc)
    (hp : tmps.getD p undef = .pointer (some ⟨g, 0, none⟩)) (hg : w.heap[g]? = some (.cells cs t fr))
    (hu : P.underlying ty = some d) (hd : (match d with | .struct _ | .array _ _ => true | _ => false) = true) (hi : (P.info? ty).map (·.size) = some cs.size) :
    (results fn tmps).run P w = .ok (.tuple #[.agg cs, tmps.getD u undef]) w := by
  rw [results_cell_tmp h, hp]
  simp [asAddr, run_loadVar_row w g t ty cs fr d hg hu hd hi]
end Go.Proofs.Ytpacdjkikbdkeaa
end

section
namespace Go.Proofs.Ytpacdjkikbdkeaa
set_option maxRecDepth 100000
set_option linter.unusedSimpArgs false
set_option linter.unusedVariables false
open Go.RowKit

/-- The class byte with a meaning. -/
def Apd.cby (ch : Int) (s c p : Bool) : Int := if ch < 0 ∨ 4 ≤ ch then 0 else ch + (if s then 4 else 0) + (if c then 16 else 0) + (if p then 128 else 0)
def Apd.cbe (ch : Int) : Int := if ch < 0 ∨ 4 ≤ ch then 2 else 0
/-- Is it a class byte? -/
def Apd.cok (x : Int) : Bool := decide (0 ≤ x ∧ x ≤ 254 ∧ x / 64 % 2 ≠ 1 ∧ x / 32 % 2 ≠ 1 ∧ x / 8 % 2 ≠ 1)
/-- The meaning of a class byte, by value. -/
def infoV (ch : Int) (s c p : Bool) : Value := .agg #[I64 ch, .bool s, .bool c, .bool p]
def Apd.clsV (x : Int) : Value := if Apd.cok x then infoV (x % 4) (x / 4 % 2 == 1) (x / 16 % 2 == 1) (x / 128 == 1) else infoV 0 false false false

theorem or_4 : ∀ h : Fin 4, bits .or .i64 (h.val : Int) 4 = (h.val : Int) + 4 := by decide +kernel
theorem or_16 : ∀ h : Fin 4, bits .or .i64 (h.val : Int) 16 = (h.val : Int) + 16 := by decide +kernel
theorem or_416 : ∀ h : Fin 4, bits .or .i64 ((h.val : Int) + 4) 16 = (h.val : Int) + 4 + 16 := by decide +kernel
theorem or_128 : ∀ h : Fin 4, bits .or .i64 (h.val : Int) 128 = (h.val : Int) + 128 := by decide +kernel
theorem or_4128 : ∀ h : Fin 4, bits .or .i64 ((h.val : Int) + 4) 128 = (h.val : Int) + 4 + 128 := by decide +kernel
theorem or_16128 : ∀ h : Fin 4, bits .or .i64 ((h.val : Int) + 16) 128 = (h.val : Int) + 16 + 128 := by decide +kernel
theorem or_all : ∀ h : Fin 4, bits .or .i64 ((h.val : Int) + 4 + 16) 128 = (h.val : Int) + 4 + 16 + 128 := by decide +kernel
theorem or_all2 : ∀ h : Fin 4, bits .or .i64 ((h.val : Int) + 20) 128 = (h.val : Int) + 4 + 16 + 128 := by decide +kernel

set_option maxRecDepth 100000 in
set_option maxHeartbeats 2000000 in
theorem apdu_Byte (ch : Int) (s c p : Bool) (w : World) :
    Calls Try.prog 74 #[infoV ch s c p] w fun e w' => e = .returned (.tuple #[.int .i64 (Apd.cby ch s c p), .int .i64 (Apd.cbe ch)]) ∧ Below w.heap.size w w' := by
  have HB := Lib.hid (fun o => (Below.refl w.heap.size w).alloc (Nat.le_refl _) o)
  unfold infoV
  by_cases h0 : ch < 0
  · have e1 : Apd.cby ch s c p = 0 := by unfold Apd.cby; rw [if_pos (.inl h0)]
    have e2 : Apd.cbe ch = 2 := by unfold Apd.cbe; rw [if_pos (.inl h0)]
    rw [e1, e2]
    clear e1 e2
    go_enter Try.func74, Try.ntmps74
    go_wp2_with fail
    go_ret2
    exact ⟨rfl, HB.out _⟩
  by_cases h4 : 4 ≤ ch
  · have e1 : Apd.cby ch s c p = 0 := by unfold Apd.cby; rw [if_pos (.inr h4)]
    have e2 : Apd.cbe ch = 2 := by unfold Apd.cbe; rw [if_pos (.inr h4)]
    rw [e1, e2]
    clear e1 e2
    go_enter Try.func74, Try.ntmps74
    go_wp2_with fail
    go_ret2
    exact ⟨rfl, HB.out _⟩
  have e1 : Apd.cby ch s c p = ch + (if s then 4 else 0) + (if c then 16 else 0) + (if p then 128 else 0) := by unfold Apd.cby; rw [if_neg (by omega)]
  have e2 : Apd.cbe ch = 0 := by unfold Apd.cbe; rw [if_neg (by omega)]
  rw [e1, e2]
  clear e1 e2
  obtain ⟨h, rfl⟩ := Int.eq_ofNat_of_zero_le (show 0 ≤ ch by omega)
  have hh : h < 4 := by omega
  have f1 := or_4 ⟨h, hh⟩
  have f2 := or_16 ⟨h, hh⟩
  have f3 := or_416 ⟨h, hh⟩
  have f4 := or_128 ⟨h, hh⟩
  have f5 := or_4128 ⟨h, hh⟩
  have f6 := or_16128 ⟨h, hh⟩
  have f7 := or_all ⟨h, hh⟩
  simp only at f1 f2 f3 f4 f5 f6 f7
  cases s <;> cases c <;> cases p
  all_goals
    go_enter Try.func74, Try.ntmps74
    go_wp2_with fail
    go_ret2
    exact ⟨by simp, HB.out _⟩

end Go.Proofs.Ytpacdjkikbdkeaa
end

section
namespace Go.Proofs.Ytpacdjkikbdkeaa
set_option maxRecDepth 100000
set_option linter.unusedSimpArgs false
set_option linter.unusedVariables false
open Go.RowKit

theorem byt_of_row {w : World} {a : Option Addr} {len cap : Nat} {zs : List Int}
    (h : (a = none ∧ len = 0 ∧ cap = 0 ∧ zs = []) ∨ ∃ x, a = some x ∧ len ≤ cap ∧ cap ≤ maxLen ∧ zs.length = cap ∧ (∀ i, i < zs.length → w.cell? (x.add i) = some (.int .u8 (zs.getD i 0))) ∧ ∀ n ∈ zs, (Lit.int .u8 n).wf = true) :
    ∃ bs, Byt w w.heap.size a len cap bs ∧ cap ≤ maxLen := by
  rcases h with ⟨rfl, rfl, rfl, rfl⟩ | ⟨x, rfl, hl, hm, hz, hc, hw⟩
  · exact ⟨[], ⟨rfl, Nat.le_refl _, Row.nil _ _ _⟩, Nat.zero_le _⟩
  · refine ⟨(zs.take len).map fun z => UInt8.ofNat z.toNat, ⟨by simp; omega, hl, fun hn => ?_⟩, hm⟩
    have hn' : 0 < len := by simp at hn; omega
    have hc0 := hc 0 (by omega)
    have hx0 : x.add 0 = x := by unfold Addr.add; simp
    rw [hx0] at hc0
    obtain ⟨b, o, s⟩ := x
    have hs : s = none := by
      cases s with
      | none => rfl
      | some q => simp only [World.cell?] at hc0; split at hc0 <;> simp at hc0
    subst hs
    refine ⟨b, o, rfl, World.block_lt_of_cell? w _ hc0, fun j hj => ?_⟩
    rw [length_bcells, List.length_map, List.length_take] at hj
    have hj' : j < zs.length := by omega
    have h1 := hc j hj'
    rw [add_eq] at h1
    rw [h1, bcells_get, List.getElem?_map, List.getElem?_take, if_pos (by omega), List.getElem?_eq_getElem hj']
    have hb := hw zs[j] (List.getElem_mem hj')
    have hbd : 0 ≤ zs[j] ∧ zs[j] ≤ 255 := by simpa [Lit.wf, IntKind.min, IntKind.max, IntKind.signed, IntKind.bits] using hb
    simp only [List.getD, List.getElem?_eq_getElem hj', Option.getD_some, Option.map_some, B8]
    congr 2
    rw [UInt8.toNat_ofNat_of_lt' (by simp only [UInt8.size]; omega)]
    omega
end Go.Proofs.Ytpacdjkikbdkeaa
end

section
namespace Go.Proofs.Ytpacdjkikbdkeaa
set_option maxRecDepth 100000
set_option linter.unusedSimpArgs false
set_option linter.unusedVariables false
open Go.RowKit Go.ChangeShapes Go.WideShapes Go.Deep

section
variable {H : Type} {enc : TypeId × Value → H} {P : Program} {w : World} {base : Nat} {spare : Nat → Bool} {held : Bool}
/-- Every field of every element has its cell, and is read by itself. -/
theorem fields_of_slice {t e : TypeId} {fs : Array Field} {fuel : Nat} {cs : List Value} {x : DataW H × List MemPlace} (ht : P.underlying t = some (.slice e)) (he : P.underlying e = some (.struct fs))
    (hone : oneCellFields P fs = true) (hC : P.cellsOf e = fs.size) (h : DataW.trod enc P w base spare held fuel t cs = some x) :
    cs = [.slice none 0 0] ∨ ∃ (a : Addr) (len cap : Nat), cs = [.slice (some a) len cap] ∧ len ≤ cap ∧ cap ≤ maxLen ∧
      ∀ (i j : Nat) (f : Field), i < len → fs[j]? = some f → ∃ (v : Value) (y : DataW H × List MemPlace) (n : Nat), w.cell? (a.add (i * fs.size + j)) = some v ∧ DataW.trod enc P w base spare held n f.type [v] = some y := by
  rcases open_slice ht h with h0 | ⟨a, len, cap, m, n, D, Pl, hcs, _, hl, hm, hmm, _, hi⟩
  · exact .inl h0.1
  · refine .inr ⟨a, len, cap, hcs, hl, hm, fun i j f hlt hj => ?_⟩
    obtain ⟨l, hc, hd⟩ := hi i (by rw [hmm]; split <;> omega)
    rw [hC] at hc
    obtain ⟨ys, k, _, _, _, hyl, hf⟩ := DataW.trod_struct he hd
    obtain ⟨_, hll, hat⟩ := World.cells?_some hc
    obtain ⟨ho, hk⟩ := hone_of hone j f hj
    have hjl : j < fs.size := (Array.getElem?_eq_some_iff.1 hj).1
    have h1 := hf j f hj
    have hd1 : l.drop j = l[j]'(by omega) :: l.drop (j + 1) := List.drop_eq_getElem_cons (by omega)
    rw [ho, hk, hd1, List.getElem?_eq_getElem (by omega)] at h1
    refine ⟨l[j]'(by omega), _, k, ?_, h1⟩
    rw [← add_add, hat j hjl, List.getElem?_eq_getElem (by omega)]
end

/-- An address whose cell 0 is there has no path. -/
theorem spot_none {w : World} {a : Addr} {v : Value} (h : w.cell? (a.add 0) = some v) : ∃ b o, a = ⟨b, o, none⟩ ∧ b < w.heap.size := by
  have hx0 : a.add 0 = a := by unfold Addr.add; simp
  rw [hx0] at h
  obtain ⟨b, o, s⟩ := a
  have hs : s = none := by
    cases s with
    | none => rfl
    | some q => simp only [World.cell?] at h; split at h <;> simp at h
  subst hs
  exact ⟨b, o, rfl, World.block_lt_of_cell? w _ h⟩
end Go.Proofs.Ytpacdjkikbdkeaa
end

section
namespace Go.Proofs.Ytpacdjkikbdkeaa
set_option maxRecDepth 100000
set_option linter.unusedSimpArgs false
set_option linter.unusedVariables false
open Go.RowKit Go.ChangeShapes Go.WideShapes Go.Deep

section
variable {H : Type} {enc : TypeId × Value → H} {P : Program} {w : World} {base : Nat} {spare : Nat → Bool} {held : Bool}
theorem agg_of_trod {t : TypeId} {fs : Array Field} {r : Reach} {b0 : Nat} {v : Value} {d : DataW H} {p : List MemPlace} (hs : P.underlying t = some (.struct fs)) (hone : oneCellFields P fs = true) (hC : P.cellsOf t = fs.size)
    (hv : Value.okWide P w r b0 t v) (h : DataW.Trod enc P w base spare held t v d p) :
    ∃ cs : Array Value, v = .agg cs ∧ cs.size = fs.size ∧ ∀ (j : Nat) (f : Field), fs[j]? = some f → ∃ (x : Value) (y : DataW H × List MemPlace) (n : Nat), cs[j]? = some x ∧ DataW.trod enc P w base spare held n f.type [x] = some y := by
  obtain ⟨cs, rfl, hsz⟩ := okWide_struct hs hv
  obtain ⟨fuel, hf⟩ := h
  refine ⟨cs, rfl, hsz.trans hC, fun j f hj => ?_⟩
  obtain ⟨ys, k, _, _, _, hyl, hg⟩ := DataW.trod_struct hs hf
  obtain ⟨ho, hk⟩ := hone_of hone j f hj
  have hjl : j < fs.size := (Array.getElem?_eq_some_iff.1 hj).1
  have h1 := hg j f hj
  have hl : (Value.agg cs).cells = cs := rfl
  rw [hl] at h1
  have hjc : j < cs.toList.length := by rw [Array.length_toList, hsz, hC]; exact hjl
  rw [ho, hk, List.drop_eq_getElem_cons hjc, List.getElem?_eq_getElem (by omega)] at h1
  exact ⟨cs.toList[j], _, k, by rw [← Array.getElem?_toList, List.getElem?_eq_getElem hjc], h1⟩

/-- A field that is an int. -/
theorem fint_of_trod {t : TypeId} {n : Nat} {v : Value} {y : DataW H × List MemPlace} (ht : P.underlying t = some (.int .i64)) (h : DataW.trod enc P w base spare held n t [v] = some y) : ∃ z, v = .int .i64 z ∧ -9223372036854775808 ≤ z ∧ z ≤ 9223372036854775807 := by
  obtain ⟨z, e, _, hw⟩ := DataW.trod_int ht h
  exact ⟨z, by simpa using e, by simpa [Lit.wf, IntKind.min, IntKind.max, IntKind.signed, IntKind.bits] using hw⟩
theorem fbool_of_trod {t : TypeId} {n : Nat} {v : Value} {y : DataW H × List MemPlace} (ht : P.underlying t = some .bool) (h : DataW.trod enc P w base spare held n t [v] = some y) : ∃ z, v = .bool z := by
  obtain ⟨z, e, _⟩ := DataW.trod_bool ht h
  exact ⟨z, by simpa using e⟩
/-- A field that is a slice of bytes. -/
theorem fbyt_of_trod {t e : TypeId} {n : Nat} {v : Value} {y : DataW H × List MemPlace} (ht : P.underlying t = some (.slice e)) (he : P.underlying e = some (.int .u8)) (hC : P.cellsOf e = 1) (h : DataW.trod enc P w base spare held n t [v] = some y) :
    ∃ A len cap bs, v = .slice A len cap ∧ Byt w w.heap.size A len cap bs ∧ cap ≤ maxLen := by
  rcases open_slice1 ht hC h with ⟨h0, _⟩ | ⟨a, len, cap, m, n, V, D, Pl, hcs, _, hl, hm, hmm, _, hx⟩
  · exact ⟨none, 0, 0, [], by simpa using h0, ⟨rfl, Nat.le_refl _, Row.nil _ _ _⟩, Nat.zero_le _⟩
  · have key : ∀ i, i < len → ∃ b : UInt8, w.cell? (a.add i) = some (B8 b) := fun i hi => by
      obtain ⟨h1, h2⟩ := hx i (by rw [hmm]; split <;> omega)
      obtain ⟨z, e2, _, hw⟩ := DataW.trod_int he h2
      have hbd : 0 ≤ z ∧ z ≤ 255 := by simpa [Lit.wf, IntKind.min, IntKind.max, IntKind.signed, IntKind.bits] using hw
      refine ⟨UInt8.ofNat z.toNat, ?_⟩
      rw [h1]
      have e3 : V i = .int .u8 z := by simpa using e2
      rw [e3, B8, UInt8.toNat_ofNat_of_lt' (by simp only [UInt8.size]; omega), show ((z.toNat : Nat) : Int) = z by omega]
    obtain ⟨f, hf⟩ := @choose_lt _ ⟨(0 : UInt8)⟩ len _ key
    refine ⟨some a, len, cap, (List.range len).map f, by simpa using hcs, ⟨by simp, hl, fun hn => ?_⟩, hm⟩
    have hn0 : 0 < len := by simpa using hn
    obtain ⟨b, o, rfl, hb⟩ := spot_none (hf 0 hn0)
    refine ⟨b, o, rfl, hb, fun j hj => ?_⟩
    have hjn : j < len := by simpa using hj
    have := hf j hjn
    rw [add_eq] at this
    rw [this]
    simp [bcells, hjn]
end
end Go.Proofs.Ytpacdjkikbdkeaa
end

section
namespace Go.Proofs.Ytpacdjkikbdkeaa
set_option maxRecDepth 100000
set_option linter.unusedSimpArgs false
set_option linter.unusedVariables false
open Go.RowKit Go.ChangeShapes Go.WideShapes Go.Deep

/-- A response by value. -/
def rspV (A : Option Addr) (n c : Nat) (sw : Int) : Value := .agg #[.slice A n c, I64 sw]
/-- A number that fits. -/
def Fit (x : Int) : Prop := -9223372036854775808 ≤ x ∧ x ≤ 9223372036854775807

section
variable {H : Type} {enc : TypeId × Value → H} {w : World} {base : Nat} {spare : Nat → Bool} {held : Bool} {r : Reach} {b0 : Nat} {v : Value} {d : DataW H} {p : List MemPlace}
theorem cmd_open (hv : Value.okWide Try.prog w r b0 30 v) (h : DataW.Trod enc Try.prog w base spare held 30 v d p) :
    ∃ (cla ins p1 p2 : Int) (A : Option Addr) (n c : Nat) (b : List UInt8) (le : Int) (long : Bool), v = cmdV cla ins p1 p2 A n c le long ∧ Byt w w.heap.size A n c b ∧ c ≤ maxLen ∧ Fit cla ∧ Fit ins ∧ Fit p1 ∧ Fit p2 ∧ Fit le := by
  obtain ⟨cs, rfl, hsz, hf⟩ := agg_of_trod Try.underlying30 (by kernel_rfl) (by kernel_rfl) hv h
  obtain ⟨v0, y0, n0, c0, t0⟩ := hf 0 _ rfl
  obtain ⟨v1, y1, n1, c1, t1⟩ := hf 1 _ rfl
  obtain ⟨v2, y2, n2, c2, t2⟩ := hf 2 _ rfl
  obtain ⟨v3, y3, n3, c3, t3⟩ := hf 3 _ rfl
  obtain ⟨v4, y4, n4, c4, t4⟩ := hf 4 _ rfl
  obtain ⟨v5, y5, n5, c5, t5⟩ := hf 5 _ rfl
  obtain ⟨v6, y6, n6, c6, t6⟩ := hf 6 _ rfl
  obtain ⟨z0, rfl, f0⟩ := fint_of_trod Try.underlying3 t0
  obtain ⟨z1, rfl, f1⟩ := fint_of_trod Try.underlying3 t1
  obtain ⟨z2, rfl, f2⟩ := fint_of_trod Try.underlying3 t2
  obtain ⟨z3, rfl, f3⟩ := fint_of_trod Try.underlying3 t3
  obtain ⟨A, n, c, b, rfl, hb, hm⟩ := fbyt_of_trod Try.underlying23 Try.underlying5 (by kernel_rfl) t4
  obtain ⟨z5, rfl, f5⟩ := fint_of_trod Try.underlying3 t5
  obtain ⟨z6, rfl⟩ := fbool_of_trod Try.underlying4 t6
  refine ⟨z0, z1, z2, z3, A, n, c, b, z5, z6, ?_, hb, hm, f0, f1, f2, f3, f5⟩
  unfold cmdV
  refine congrArg Value.agg (Array.ext (by simpa using hsz) fun i h1 h2 => ?_)
  have hs7 : cs.size = 7 := by simpa using hsz
  rcases (show i = 0 ∨ i = 1 ∨ i = 2 ∨ i = 3 ∨ i = 4 ∨ i = 5 ∨ i = 6 by omega) with rfl | rfl | rfl | rfl | rfl | rfl | rfl
  · rw [Array.getElem?_eq_getElem h1] at c0; injection c0
  · rw [Array.getElem?_eq_getElem h1] at c1; injection c1
  · rw [Array.getElem?_eq_getElem h1] at c2; injection c2
  · rw [Array.getElem?_eq_getElem h1] at c3; injection c3
  · rw [Array.getElem?_eq_getElem h1] at c4; injection c4
  · rw [Array.getElem?_eq_getElem h1] at c5; injection c5
  · rw [Array.getElem?_eq_getElem h1] at c6; injection c6

theorem info_open (hv : Value.okWide Try.prog w r b0 69 v) (h : DataW.Trod enc Try.prog w base spare held 69 v d p) :
    ∃ (ch : Int) (s c q : Bool), v = infoV ch s c q ∧ Fit ch := by
  obtain ⟨cs, rfl, hsz, hf⟩ := agg_of_trod Try.underlying69 (by kernel_rfl) (by kernel_rfl) hv h
  obtain ⟨v0, y0, n0, c0, t0⟩ := hf 0 _ rfl
  obtain ⟨v1, y1, n1, c1, t1⟩ := hf 1 _ rfl
  obtain ⟨v2, y2, n2, c2, t2⟩ := hf 2 _ rfl
  obtain ⟨v3, y3, n3, c3, t3⟩ := hf 3 _ rfl
  obtain ⟨z0, rfl, f0⟩ := fint_of_trod Try.underlying3 t0
  obtain ⟨z1, rfl⟩ := fbool_of_trod Try.underlying4 t1
  obtain ⟨z2, rfl⟩ := fbool_of_trod Try.underlying4 t2
  obtain ⟨z3, rfl⟩ := fbool_of_trod Try.underlying4 t3
  refine ⟨z0, z1, z2, z3, ?_, f0⟩
  unfold infoV
  refine congrArg Value.agg (Array.ext (by simpa using hsz) fun i h1 h2 => ?_)
  have hs7 : cs.size = 4 := by simpa using hsz
  rcases (show i = 0 ∨ i = 1 ∨ i = 2 ∨ i = 3 by omega) with rfl | rfl | rfl | rfl
  · rw [Array.getElem?_eq_getElem h1] at c0; injection c0
  · rw [Array.getElem?_eq_getElem h1] at c1; injection c1
  · rw [Array.getElem?_eq_getElem h1] at c2; injection c2
  · rw [Array.getElem?_eq_getElem h1] at c3; injection c3

theorem rsp_open (hv : Value.okWide Try.prog w r b0 42 v) (h : DataW.Trod enc Try.prog w base spare held 42 v d p) :
    ∃ (A : Option Addr) (n c : Nat) (b : List UInt8) (sw : Int), v = rspV A n c sw ∧ Byt w w.heap.size A n c b ∧ c ≤ maxLen ∧ Fit sw := by
  obtain ⟨cs, rfl, hsz, hf⟩ := agg_of_trod Try.underlying42 (by kernel_rfl) (by kernel_rfl) hv h
  obtain ⟨v0, y0, n0, c0, t0⟩ := hf 0 _ rfl
  obtain ⟨v1, y1, n1, c1, t1⟩ := hf 1 _ rfl
  obtain ⟨A, n, c, b, rfl, hb, hm⟩ := fbyt_of_trod Try.underlying23 Try.underlying5 (by kernel_rfl) t0
  obtain ⟨z1, rfl, f1⟩ := fint_of_trod Try.underlying3 t1
  refine ⟨A, n, c, b, z1, ?_, hb, hm, f1⟩
  unfold rspV
  refine congrArg Value.agg (Array.ext (by simpa using hsz) fun i h1 h2 => ?_)
  have hs7 : cs.size = 2 := by simpa using hsz
  rcases (show i = 0 ∨ i = 1 by omega) with rfl | rfl
  · rw [Array.getElem?_eq_getElem h1] at c0; injection c0
  · rw [Array.getElem?_eq_getElem h1] at c1; injection c1
end
end Go.Proofs.Ytpacdjkikbdkeaa
end
