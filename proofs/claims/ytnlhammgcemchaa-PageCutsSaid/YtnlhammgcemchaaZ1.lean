/-
  The texts that the claims of this seat lean on, part 2.
-/
import Derived.Test.YtnlhammgcemchaaZ0
import Derived.Laws.BytesArg
import Derived.Laws.BytesString
import Derived.Laws.MakeOwn
import Derived.Deep.Fields
import Derived.Deep.Matrix
import Derived.Test.YtnlhammgcemchaaRows
import Derived.RangeFuncLeaves
import Derived.RangeFuncFrom
import Derived.TacticsInMore
import Derived.OrdersIn
import Derived.WalkKit
import Derived.Laws.Cover3
import Derived.Laws.ByValue
import Derived.Laws.CopyOwn
import Derived.Laws.BitsAllLaws
import Derived.Outline
import Derived.Lib.Tables
import Derived.Lib.BitFns
import Derived.Deep.LoopGhost

section
namespace Go.Proofs.Ytnlhammgcemchaa
set_option maxRecDepth 100000
set_option linter.unusedSimpArgs false
set_option linter.unusedVariables false
open Go.RowKit

theorem i_u32 : (Try.prog.info? 59).map (fun i => (i.zero, i.size, i.bytes)) = some (some (.int .u32 0), 1, 4) := by kernel_rfl
theorem i_int : (Try.prog.info? 3).map (fun i => (i.zero, i.size, i.bytes)) = some (some (.int .i64 0), 1, 8) := by kernel_rfl

set_option maxRecDepth 100000 in
set_option maxHeartbeats 1000000 in
theorem cell_New (n : Nat) (en : Int) (w : World) (h1 : 1 ≤ n) (h2 : n ≤ 65536) (h3 : 1 ≤ en) :
    Calls Try.prog 11 #[.agg #[.int .i64 (n : Int), .int .i64 en]] w fun e w' => ∃ g gw gv, e = .returned (.tuple #[.pointer (some ⟨g, 0, none⟩), .int .i64 0]) ∧
      MemAt w' g gw gv n n n (Cel.Mem.new n en) ∧ w.heap.size ≤ g ∧ w.heap.size ≤ gw ∧ w.heap.size ≤ gv ∧ Below w.heap.size w w' := by
  obtain ⟨iu, hiu, hu0, hu1, hu2⟩ := info_parts i_u32
  obtain ⟨ii, hii, hi0, hi1, hi2⟩ := info_parts i_int
  have mu : ∀ u : World, (Instr.makeSlice 57 (.int .i64 (n : Int)) (.int .i64 (n : Int))).run Try.prog u = .ok (.slice (some ⟨u.heap.size, 0, none⟩) n n) (u.alloc (.cells (madeCells #[.int .u32 0] n) 59)) := fun u => by
    have h := run_make (P := Try.prog) u 57 59 iu (.int .u32 0) Try.underlying57 hiu hu0 .i64 .i64 (n : Int) (n : Int) (by omega) (Int.le_refl _) (by rw [hu2]; omega) (by omega)
    simpa [hu1, Value.cells] using h
  have mi : ∀ u : World, (Instr.makeSlice 63 (.int .i64 (n : Int)) (.int .i64 (n : Int))).run Try.prog u = .ok (.slice (some ⟨u.heap.size, 0, none⟩) n n) (u.alloc (.cells (madeCells #[.int .i64 0] n) 3)) := fun u => by
    have h := run_make (P := Try.prog) u 63 3 ii (.int .i64 0) Try.underlying63 hii hi0 .i64 .i64 (n : Int) (n : Int) (by omega) (Int.le_refl _) (by rw [hi2]; omega) (by omega)
    simpa [hi1, Value.cells] using h
  have p1 : (1 : Int) ≤ (n : Int) := by omega
  have p2 : (n : Int) ≤ 65536 := by omega
  go_enter Try.func11, Try.ntmps11
  go_wp2_with fail
  go_region
  all_goals go_wp2_with fail
  · go_ret2
    refine ⟨w.heap.size + 3, w.heap.size + 1, w.heap.size + 2, rfl, ?_, by omega, by omega, by omega, ((((((Below.refl _ _).alloc (Nat.le_refl _) _).alloc (by simp) _).alloc (by simp; omega) _).alloc (by simp; omega) _)).drew⟩
    have hb1 := Blk.new' (g := w.heap.size + 1) (w.alloc (Obj.cells #[Value.int IntKind.i64 n, Value.int IntKind.i64 en] 30)) (t := 59) (cs := madeCells #[.int .u32 0] n) (by simp) rfl
    have hb2 := Blk.new' (g := w.heap.size + 2) ((w.alloc (Obj.cells #[Value.int IntKind.i64 n, Value.int IntKind.i64 en] 30)).alloc (Obj.cells (madeCells #[.int .u32 0] n) 59)) (t := 3) (cs := madeCells #[.int .i64 0] n) (by simp) rfl
    exact MemAt.drew ⟨Blk.new' _ (by simp) rfl, by
        rw [show (Cel.Mem.new n en).words.map W32 = List.replicate n (.int .u32 0) by simp [Cel.Mem.new, W32]]
        exact (Own.made hb1 (Nat.zero_le _) (by unfold maxLen; omega)).alloc _ |>.alloc _, by
        rw [show (Cel.Mem.new n en).wear.map I64 = List.replicate n (.int .i64 0) by simp [Cel.Mem.new, I64]]
        exact (Own.made hb2 (Nat.zero_le _) (by unfold maxLen; omega)).alloc _, by omega, h2, by omega, by omega, by omega⟩
  · go_ret2
    refine ⟨w.heap.size + 3, w.heap.size + 2, w.heap.size + 1, rfl, ?_, by omega, by omega, by omega, ((((((Below.refl _ _).alloc (Nat.le_refl _) _).alloc (by simp) _).alloc (by simp; omega) _).alloc (by simp; omega) _)).drew⟩
    have hb1 := Blk.new' (g := w.heap.size + 1) (w.alloc (Obj.cells #[Value.int IntKind.i64 n, Value.int IntKind.i64 en] 30)) (t := 3) (cs := madeCells #[.int .i64 0] n) (by simp) rfl
    have hb2 := Blk.new' (g := w.heap.size + 2) ((w.alloc (Obj.cells #[Value.int IntKind.i64 n, Value.int IntKind.i64 en] 30)).alloc (Obj.cells (madeCells #[.int .i64 0] n) 3)) (t := 59) (cs := madeCells #[.int .u32 0] n) (by simp) rfl
    exact MemAt.drew ⟨Blk.new' _ (by simp) rfl, by
        rw [show (Cel.Mem.new n en).words.map W32 = List.replicate n (.int .u32 0) by simp [Cel.Mem.new, W32]]
        exact (Own.made hb2 (Nat.zero_le _) (by unfold maxLen; omega)).alloc _, by
        rw [show (Cel.Mem.new n en).wear.map I64 = List.replicate n (.int .i64 0) by simp [Cel.Mem.new, I64]]
        exact (Own.made hb1 (Nat.zero_le _) (by unfold maxLen; omega)).alloc _ |>.alloc _, by omega, h2, by omega, by omega, by omega⟩
end Go.Proofs.Ytnlhammgcemchaa
end

section
namespace Go.Proofs.Ytnlhammgcemchaa
set_option maxRecDepth 100000
set_option linter.unusedSimpArgs false
set_option linter.unusedVariables false
open Go.RowKit

section
variable {w : World} {g gw gv n cw cv : Nat} {m : Cel.Mem} (h : MemAt w g gw gv n cw cv m)
include h

theorem cell_Write (a x : Int) (v : UInt32) (hx : x = (v.toNat : Int)) {K : Int} (hf : Cel.Fine K m) (hK : 0 ≤ K ∧ K ≤ 4611686018427387904) : Calls Try.prog 52 #[.pointer (some ⟨g, 0, none⟩), .int .i64 a, .int .u32 x] w fun e w' =>
    e = .returned (.int .i64 (m.write a v).2) ∧ MemAt w' g gw gv n cw cv (m.write a v).1 ∧ Only (MemR g gw gv) w w' := by
  subst hx
  by_cases ha : m.access a = 0
  · by_cases hp : m.pending = true ∧ m.left = 0
    · rw [m.write_cut a v ha hp.1 hp.2]
      exact cell_Write_cut h a v ha hp.1 hp.2 (by have := hf.cuts.2; omega) hf.cuts.1
    · rw [m.write_yes a v ha hp]
      obtain ⟨ho, hh⟩ := (m.access_zero a).1 ha
      obtain ⟨h0, h1⟩ := (m.has_iff a).1 hh
      rw [h.len] at h1
      obtain ⟨i, rfl⟩ := Int.eq_ofNat_of_zero_le h0
      have hg := hf.getD hK.1 i
      exact cell_Write_yes h i v (by omega) ho (fun hq => ⟨fun hl => hp ⟨hq, hl⟩, by have := hf.left.1; omega, hf.left.2⟩) ⟨hf.writes.1, by have := hf.writes.2; omega⟩ ⟨hg.1, by omega⟩
  · rw [m.write_no a v ha]
    exact (cell_Write_no h a v ha).mono fun e w' ⟨he, hw⟩ => by subst hw; exact ⟨he, h, Only.refl _ _⟩

set_option maxHeartbeats 400000 in
theorem cell_Power : Calls Try.prog 31 #[.pointer (some ⟨g, 0, none⟩)] w fun e w' => e = .returned (.bool (!m.off)) ∧ w = w' := by
  have H := Lib.hid h
  have c5 := h.c5
  cases hm : m.off <;>
  · rw [hm] at c5
    go_enter Try.func31, Try.ntmps31
    go_wp2_with (go_at_call 42; refine (cell_made H.out).mono ?_; rintro e w1 ⟨rfl, rfl⟩)
    go_ret
    exact ⟨rfl, rfl⟩

set_option maxHeartbeats 400000 in
theorem cell_Writes : Calls Try.prog 23 #[.pointer (some ⟨g, 0, none⟩)] w fun e w' => e = .returned (.int .i64 m.writes) ∧ w = w' := by
  have H := Lib.hid h
  have c3 := h.c3
  go_enter Try.func23, Try.ntmps23
  go_wp2_with (go_at_call 42; refine (cell_made H.out).mono ?_; rintro e w1 ⟨rfl, rfl⟩)
  go_ret
  exact ⟨rfl, rfl⟩
end

/-- The memory of the chapter's example. -/
def Cel.ex1 : Cel.Mem := ((Cel.Mem.new 40 2).write 33 5).1
def Cel.ex2 : Cel.Mem := (Cel.ex1.write 33 5).1
def Cel.ex3 : Cel.Mem := (Cel.ex2.write 33 5).1

end Go.Proofs.Ytnlhammgcemchaa
end

section
namespace Go.Proofs.Ytnlhammgcemchaa
set_option maxRecDepth 100000
set_option linter.unusedSimpArgs false
set_option linter.unusedVariables false
open Go.RowKit

theorem Own.made0 {w : World} {g base c : Nat} {t : TypeId} {z : Value} (hb : Blk w g t (madeCells #[z] c)) (hg : base ≤ g) (hm : c ≤ maxLen) : Own w base t 1 (some ⟨g, 0, none⟩) 0 c [] := by
  have h := Own.blk (s := 1) (n := 0) (c := c) hb hg (Nat.zero_le _) hm (by simp [madeCells]) (by simp)
  simpa using h
theorem bcells_zs (n : Nat) : List.replicate n (Value.int .u8 0) = bcells (zs n) := by simp [bcells, zs, B8]
/-- The cells of a slice of bytes are read off as they stand. -/
theorem byt_load {P : Program} {w : World} {B : Nat} {a : Addr} {n c : Nat} {bs : List UInt8} (h : Byt w B (some a) n c bs) : (loadCells a n).run P w = .ok (bcells bs).toArray w := by
  have := run_loadCells_list (P := P) w a (bcells bs) (fun j v hj => by
    have hjl : j < (bcells bs).length := (List.getElem?_eq_some_iff.1 hj).1
    obtain ⟨b, o, e, _, hc⟩ := h.2.2 (by omega)
    obtain rfl : a = ⟨b, o, none⟩ := by simpa using e
    rw [add_eq, hc j hjl, hj])
  rw [length_bcells, h.1] at this
  exact this
theorem byt_string {P : Program} {w : World} {B : Nat} {A : Option Addr} {n c : Nat} {bs : List UInt8} (src e : TypeId) (hs : P.underlying src = some (.slice e)) (he : P.underlying e = some (.int .u8)) (h : Byt w B A n c bs) (dst : TypeId) (hd : P.underlying dst = some .string) :
    (convert src dst (.slice A n c)).run P w = .ok (.string ⟨bs.toArray⟩) w := by
  cases A with
  | none =>
    have hb : bs = [] := by
      rcases Nat.eq_zero_or_pos n with h0 | h0
      · exact List.eq_nil_of_length_eq_zero (by rw [h.1]; exact h0)
      · obtain ⟨b, o, e, _⟩ := h.at_ h0; cases e
    subst hb
    exact run_convert_bytes_nil w src e hs he n c dst hd
  | some a =>
    have hl : (loadCells a n).run P w = .ok ((bs.map fun b => (b.toNat : Int)).map (Value.int .u8)).toArray w := by
      rw [byt_load h, List.map_map]; rfl
    rw [run_convert_bytes_string w src dst e _ n c hs he hd, run_bytesToString w a n c _ hl, foldl_push_bytes]
    simp only [List.map_map]
    congr 2
    have : (bs.map ((fun n : Int => UInt8.ofNat n.toNat) ∘ fun b : UInt8 => (b.toNat : Int))) = bs := by
      rw [List.map_congr_left (g := id)]
      · simp
      · intro b _; simp
    rw [this]
    simp [ByteArray.empty, ByteArray.emptyWithCapacity]
    rfl
theorem made_u8 {P : Program} (t e : TypeId) (i : TypeInfo) (ht : P.underlying t = some (.slice e)) (hi : P.info? e = some i) (hz : i.zero = some (.int .u8 0)) (hs : i.size = 1) (hb : i.bytes = 1)
    (n : Nat) (hn : n ≤ 1099511627776) (u : World) : (Instr.makeSlice t (.int .i64 (n : Int)) (.int .i64 (n : Int))).run P u = .ok (.slice (some ⟨u.heap.size, 0, none⟩) n n) (u.alloc (.cells (madeCells #[.int .u8 0] n) e)) := by
  have h := run_make (P := P) u t e i (.int .u8 0) ht hi hz .i64 .i64 (n : Int) (n : Int) (by omega) (Int.le_refl _) (by rw [hb]; omega) (by omega)
  rw [hs, Int.toNat_natCast, Nat.mul_one] at h
  exact h
theorem made0_u8 {P : Program} (t e : TypeId) (i : TypeInfo) (ht : P.underlying t = some (.slice e)) (hi : P.info? e = some i) (hz : i.zero = some (.int .u8 0)) (hs : i.size = 1) (hb : i.bytes = 1)
    (n : Nat) (hn : n ≤ 1099511627776) (u : World) : (Instr.makeSlice t (.int .i64 0) (.int .i64 (n : Int))).run P u = .ok (.slice (some ⟨u.heap.size, 0, none⟩) 0 n) (u.alloc (.cells (madeCells #[.int .u8 0] n) e)) := by
  have h := run_make (P := P) u t e i (.int .u8 0) ht hi hz .i64 .i64 0 (n : Int) (by omega) (by omega) (by rw [hb]; omega) (by omega)
  rw [hs, Int.toNat_natCast, Nat.mul_one] at h
  exact h
/-- A quiet call behind an earlier quiet region: the draws are joined. -/
theorem Calls.quiet_more {P : Program} {f : FuncId} {args : Array Value} {w : World} {d k : Nat} {v : Value} (h : Calls P f args (w.drewN (d + k)) fun e u => e = .returned v ∧ ∃ m, u = (w.drewN (d + k)).drewN m) :
    Calls P f args (w.drewN (d + k)) fun e u => e = .returned v ∧ ∃ m, u = w.drewN (d + m) :=
  h.mono fun _ _ ⟨he, m, hu⟩ => ⟨he, k + m, by rw [hu, World.drewN_drewN, Nat.add_assoc]⟩
/-- What a call leaves that hands back bytes and an error. -/
def BRes (t : TypeId) (w : World) (bs : List UInt8) (er : Int) (e : Ending) (w' : World) : Prop :=
  ∃ A c, e = .returned (.tuple #[.slice A bs.length c, .int .i64 er]) ∧ Own w' w.heap.size t 1 A bs.length c (bcells bs) ∧ Below w.heap.size w w'
theorem BRes.nil (t : TypeId) {w w' : World} {er : Int} (h : Below w.heap.size w w') : BRes t w [] er (.returned (.tuple #[.slice none 0 0, .int .i64 er])) w' := ⟨none, 0, rfl, Own.none_ _ _ _ _ _, h⟩
theorem BRes.mk {t : TypeId} {w w' : World} {A : Option Addr} {n c : Nat} {bs : List UInt8} {er : Int} (hn : bs.length = n) (h : Own w' w.heap.size t 1 A n c (bcells bs)) (hb : Below w.heap.size w w') : BRes t w bs er (.returned (.tuple #[.slice A n c, .int .i64 er])) w' := by
  subst hn; exact ⟨A, c, rfl, h, hb⟩
section
variable {P : Program} (w : World)
/-- 'wp_append' as a step of a region that draws its order. -/
theorem step_append {ops : Array Oper} {o : Oper} {a : Act} {K : Act → World → Prop} {Q : Exit → Act → World → Prop} {E : Prop} (hgd : o.guard = none) (x y : Operand) (t : TypeId)
    (ho : o.op = .call { callee := .builtin .append, args := #[x, y], argTypes := #[t, t] })
    (base : Nat) (e : TypeId) (i : TypeInfo) (z : Value) (s bytes : Nat) (ht : P.underlying t = some (.slice e)) (hi : P.info? e = some i) (hz : i.zero = some z)
    (hsize : i.size = s) (hby : i.bytes = bytes) (hzs : z.cells.size = s) (hsz : 0 < s)
    (A : Option Addr) (n c : Nat) (cs : List Value) (hx : a.eval x = .slice A n c) (hown : Own w base e s A n c cs)
    (B : Nat) (A' : Option Addr) (m c' : Nat) (news : List Value) (hy : a.eval y = .slice A' m c') (hr : Row w B A' news) (hl : news.length = m * s) (h1 : ∀ u ∈ news, u.oneCell' = true)
    (h63 : n + m ≤ maxLen) (hbytes : (n + m) * bytes ≤ 140737488355328) (hbase : base ≤ w.heap.size)
    (h : ∀ A2 c2 w2, Own w2 base e s A2 (n + m) c2 (cs ++ news) → w.grownBy w2 (ownAt A c) → (ownAt A2 c2 = ownAt A c ∨ ownAt A2 c2 = some w.heap.size) → K (a.put o.dst (.slice A2 (n + m) c2)) w2) :
    if Region.wanted o (yielded ops a.tmps) = true then Oper.wp P o a w K Q else E := by
  have hw : Region.wanted o (yielded ops a.tmps) = true := by simp [Region.wanted, hgd]
  rw [if_pos hw]
  exact wp_append w x y t ho base e i z s bytes ht hi hz hsize hby hzs hsz A n c cs hx hown B A' m c' news hy hr hl h1 h63 hbytes hbase h
end
end Go.Proofs.Ytnlhammgcemchaa
end

section
namespace Go.Proofs.Ytnlhammgcemchaa
set_option maxRecDepth 100000
set_option linter.unusedSimpArgs false
set_option linter.unusedVariables false
open Go.RowKit

theorem byt_of_row {w : World} {a : Option Addr} {len cap : Nat} {zs : List Int}
    (h : (a = none ∧ len = 0 ∧ cap = 0 ∧ zs = []) ∨ ∃ x, a = some x ∧ len ≤ cap ∧ cap ≤ maxLen ∧ zs.length = cap ∧ (∀ i, i < zs.length → w.cell? (x.add i) = some (.int .u8 (zs.getD i 0))) ∧ ∀ n ∈ zs, (Lit.int .u8 n).wf = true) :
    ∃ bs, Byt w w.heap.size a len cap bs ∧ cap ≤ maxLen := by
  rcases h with ⟨rfl, rfl, rfl, rfl⟩ | ⟨x, rfl, hl, hm, hz, hc, hw⟩
  · exact ⟨[], ⟨rfl, Nat.le_refl _, Row.nil _ _ _⟩, Nat.zero_le _⟩
  · refine ⟨(zs.take len).map fun z => UInt8.ofNat z.toNat, ⟨by simp; omega, hl, fun hn => ?_⟩, hm⟩
    have hn' : 0 < len := by simp at hn; omega
    have hc0 := hc 0 (by omega)
    have hx0 : x.add 0 = x := by unfold Addr.add; simp
    rw [hx0] at hc0
    obtain ⟨b, o, s⟩ := x
    have hs : s = none := by
      cases s with
      | none => rfl
      | some q => simp only [World.cell?] at hc0; split at hc0 <;> simp at hc0
    subst hs
    refine ⟨b, o, rfl, World.block_lt_of_cell? w _ hc0, fun j hj => ?_⟩
    rw [length_bcells, List.length_map, List.length_take] at hj
    have hj' : j < zs.length := by omega
    have h1 := hc j hj'
    rw [add_eq] at h1
    rw [h1, bcells_get, List.getElem?_map, List.getElem?_take, if_pos (by omega), List.getElem?_eq_getElem hj']
    have hb := hw zs[j] (List.getElem_mem hj')
    have hbd : 0 ≤ zs[j] ∧ zs[j] ≤ 255 := by simpa [Lit.wf, IntKind.min, IntKind.max, IntKind.signed, IntKind.bits] using hb
    simp only [List.getD, List.getElem?_eq_getElem hj', Option.getD_some, Option.map_some, B8]
    congr 2
    rw [UInt8.toNat_ofNat_of_lt' (by simp only [UInt8.size]; omega)]
    omega
end Go.Proofs.Ytnlhammgcemchaa
end

section
namespace Go.Proofs.Ytnlhammgcemchaa
set_option maxRecDepth 100000
set_option linter.unusedSimpArgs false
set_option linter.unusedVariables false
open Go.RowKit Go.ChangeShapes Go.WideShapes Go.Deep

section
variable {H : Type} {enc : TypeId × Value → H} {P : Program} {w : World} {base : Nat} {spare : Nat → Bool} {held : Bool}
/-- Every field of every element has its cell, and is read by itself. -/
theorem fields_of_slice {t e : TypeId} {fs : Array Field} {fuel : Nat} {cs : List Value} {x : DataW H × List MemPlace} (ht : P.underlying t = some (.slice e)) (he : P.underlying e = some (.struct fs))
    (hone : oneCellFields P fs = true) (hC : P.cellsOf e = fs.size) (h : DataW.trod enc P w base spare held fuel t cs = some x) :
    cs = [.slice none 0 0] ∨ ∃ (a : Addr) (len cap : Nat), cs = [.slice (some a) len cap] ∧ len ≤ cap ∧ cap ≤ maxLen ∧
      ∀ (i j : Nat) (f : Field), i < len → fs[j]? = some f → ∃ (v : Value) (y : DataW H × List MemPlace) (n : Nat), w.cell? (a.add (i * fs.size + j)) = some v ∧ DataW.trod enc P w base spare held n f.type [v] = some y := by
  rcases open_slice ht h with h0 | ⟨a, len, cap, m, n, D, Pl, hcs, _, hl, hm, hmm, _, hi⟩
  · exact .inl h0.1
  · refine .inr ⟨a, len, cap, hcs, hl, hm, fun i j f hlt hj => ?_⟩
    obtain ⟨l, hc, hd⟩ := hi i (by rw [hmm]; split <;> omega)
    rw [hC] at hc
    obtain ⟨ys, k, _, _, _, hyl, hf⟩ := DataW.trod_struct he hd
    obtain ⟨_, hll, hat⟩ := World.cells?_some hc
    obtain ⟨ho, hk⟩ := hone_of hone j f hj
    have hjl : j < fs.size := (Array.getElem?_eq_some_iff.1 hj).1
    have h1 := hf j f hj
    have hd1 : l.drop j = l[j]'(by omega) :: l.drop (j + 1) := List.drop_eq_getElem_cons (by omega)
    rw [ho, hk, hd1, List.getElem?_eq_getElem (by omega)] at h1
    refine ⟨l[j]'(by omega), _, k, ?_, h1⟩
    rw [← add_add, hat j hjl, List.getElem?_eq_getElem (by omega)]
end

/-- An address whose cell 0 is there has no path. -/
theorem spot_none {w : World} {a : Addr} {v : Value} (h : w.cell? (a.add 0) = some v) : ∃ b o, a = ⟨b, o, none⟩ ∧ b < w.heap.size := by
  have hx0 : a.add 0 = a := by unfold Addr.add; simp
  rw [hx0] at h
  obtain ⟨b, o, s⟩ := a
  have hs : s = none := by
    cases s with
    | none => rfl
    | some q => simp only [World.cell?] at h; split at h <;> simp at h
  subst hs
  exact ⟨b, o, rfl, World.block_lt_of_cell? w _ h⟩
end Go.Proofs.Ytnlhammgcemchaa
end

section
namespace Go.Proofs.Ytnlhammgcemchaa
set_option maxRecDepth 100000
set_option linter.unusedSimpArgs false
set_option linter.unusedVariables false
open Go.RowKit Go.ChangeShapes Go.WideShapes Go.Deep

section
variable {H : Type} {enc : TypeId × Value → H} {P : Program} {w : World} {base : Nat} {spare : Nat → Bool} {held : Bool}
theorem agg_of_trod {t : TypeId} {fs : Array Field} {r : Reach} {b0 : Nat} {v : Value} {d : DataW H} {p : List MemPlace} (hs : P.underlying t = some (.struct fs)) (hone : oneCellFields P fs = true) (hC : P.cellsOf t = fs.size)
    (hv : Value.okWide P w r b0 t v) (h : DataW.Trod enc P w base spare held t v d p) :
    ∃ cs : Array Value, v = .agg cs ∧ cs.size = fs.size ∧ ∀ (j : Nat) (f : Field), fs[j]? = some f → ∃ (x : Value) (y : DataW H × List MemPlace) (n : Nat), cs[j]? = some x ∧ DataW.trod enc P w base spare held n f.type [x] = some y := by
  obtain ⟨cs, rfl, hsz⟩ := okWide_struct hs hv
  obtain ⟨fuel, hf⟩ := h
  refine ⟨cs, rfl, hsz.trans hC, fun j f hj => ?_⟩
  obtain ⟨ys, k, _, _, _, hyl, hg⟩ := DataW.trod_struct hs hf
  obtain ⟨ho, hk⟩ := hone_of hone j f hj
  have hjl : j < fs.size := (Array.getElem?_eq_some_iff.1 hj).1
  have h1 := hg j f hj
  have hl : (Value.agg cs).cells = cs := rfl
  rw [hl] at h1
  have hjc : j < cs.toList.length := by rw [Array.length_toList, hsz, hC]; exact hjl
  rw [ho, hk, List.drop_eq_getElem_cons hjc, List.getElem?_eq_getElem (by omega)] at h1
  exact ⟨cs.toList[j], _, k, by rw [← Array.getElem?_toList, List.getElem?_eq_getElem hjc], h1⟩

/-- A field that is an int. -/
theorem fint_of_trod {t : TypeId} {n : Nat} {v : Value} {y : DataW H × List MemPlace} (ht : P.underlying t = some (.int .i64)) (h : DataW.trod enc P w base spare held n t [v] = some y) : ∃ z, v = .int .i64 z ∧ -9223372036854775808 ≤ z ∧ z ≤ 9223372036854775807 := by
  obtain ⟨z, e, _, hw⟩ := DataW.trod_int ht h
  exact ⟨z, by simpa using e, by simpa [Lit.wf, IntKind.min, IntKind.max, IntKind.signed, IntKind.bits] using hw⟩
theorem fbool_of_trod {t : TypeId} {n : Nat} {v : Value} {y : DataW H × List MemPlace} (ht : P.underlying t = some .bool) (h : DataW.trod enc P w base spare held n t [v] = some y) : ∃ z, v = .bool z := by
  obtain ⟨z, e, _⟩ := DataW.trod_bool ht h
  exact ⟨z, by simpa using e⟩
/-- A field that is a slice of bytes. -/
theorem fbyt_of_trod {t e : TypeId} {n : Nat} {v : Value} {y : DataW H × List MemPlace} (ht : P.underlying t = some (.slice e)) (he : P.underlying e = some (.int .u8)) (hC : P.cellsOf e = 1) (h : DataW.trod enc P w base spare held n t [v] = some y) :
    ∃ A len cap bs, v = .slice A len cap ∧ Byt w w.heap.size A len cap bs ∧ cap ≤ maxLen := by
  rcases open_slice1 ht hC h with ⟨h0, _⟩ | ⟨a, len, cap, m, n, V, D, Pl, hcs, _, hl, hm, hmm, _, hx⟩
  · exact ⟨none, 0, 0, [], by simpa using h0, ⟨rfl, Nat.le_refl _, Row.nil _ _ _⟩, Nat.zero_le _⟩
  · have key : ∀ i, i < len → ∃ b : UInt8, w.cell? (a.add i) = some (B8 b) := fun i hi => by
      obtain ⟨h1, h2⟩ := hx i (by rw [hmm]; split <;> omega)
      obtain ⟨z, e2, _, hw⟩ := DataW.trod_int he h2
      have hbd : 0 ≤ z ∧ z ≤ 255 := by simpa [Lit.wf, IntKind.min, IntKind.max, IntKind.signed, IntKind.bits] using hw
      refine ⟨UInt8.ofNat z.toNat, ?_⟩
      rw [h1]
      have e3 : V i = .int .u8 z := by simpa using e2
      rw [e3, B8, UInt8.toNat_ofNat_of_lt' (by simp only [UInt8.size]; omega), show ((z.toNat : Nat) : Int) = z by omega]
    obtain ⟨f, hf⟩ := @choose_lt _ ⟨(0 : UInt8)⟩ len _ key
    refine ⟨some a, len, cap, (List.range len).map f, by simpa using hcs, ⟨by simp, hl, fun hn => ?_⟩, hm⟩
    have hn0 : 0 < len := by simpa using hn
    obtain ⟨b, o, rfl, hb⟩ := spot_none (hf 0 hn0)
    refine ⟨b, o, rfl, hb, fun j hj => ?_⟩
    have hjn : j < len := by simpa using hj
    have := hf j hjn
    rw [add_eq] at this
    rw [this]
    simp [bcells, hjn]
end
end Go.Proofs.Ytnlhammgcemchaa
end

section
namespace Go.Proofs.Ytnlhammgcemchaa
set_option maxRecDepth 100000
set_option linter.unusedSimpArgs false
set_option linter.unusedVariables false
open Go.RowKit

/-- A slice of bytes as a value, with what it shows. -/
structure SV where
  a : Option Addr
  n : Nat
  c : Nat
  bs : List UInt8
def SV.val (v : SV) : Value := .slice v.a v.n v.c
/-- What the strings are together. -/
def joined (vs : List SV) : List UInt8 := vs.flatMap (·.bs)
theorem joined_nil : joined [] = [] := rfl
theorem joined_take (vs : List SV) (k : Nat) (h : k < vs.length) : joined (vs.take (k + 1)) = joined (vs.take k) ++ vs[k].bs := by
  unfold joined
  rw [List.take_succ_eq_append_getElem h, List.flatMap_append]; simp
theorem joined_le (vs : List SV) (k : Nat) : (joined (vs.take k)).length ≤ (joined vs).length := by
  have h : joined vs = joined (vs.take k) ++ joined (vs.drop k) := by
    unfold joined; rw [← List.flatMap_append, List.take_append_drop]
  rw [h, List.length_append]; omega
/-- A slice of such slices. -/
def Byts (w : World) (B : Nat) (A : Option Addr) (vs : List SV) : Prop := Row w B A (vs.map SV.val) ∧ ∀ v ∈ vs, Byt w B v.a v.n v.c v.bs
section
variable {w w' : World} {B B' : Nat} {A : Option Addr} {vs : List SV}
theorem Byts.below (h : Byts w B A vs) (hb : Below B w w') : Byts w' B A vs := ⟨h.1.below hb, fun v hv => (h.2 v hv).below hb⟩
theorem Byts.more (h : Byts w B A vs) (hB : B ≤ B') : Byts w B' A vs := ⟨h.1.more hB, fun v hv => (h.2 v hv).more hB⟩
theorem Byts.at_ (h : Byts w B A vs) {k : Nat} (hk : k < vs.length) : ∃ b o, A = some ⟨b, o, none⟩ ∧ w.cell? ⟨b, o + k, none⟩ = some (.slice vs[k].a vs[k].n vs[k].c) ∧ Byt w B vs[k].a vs[k].n vs[k].c vs[k].bs := by
  obtain ⟨b, o, e, _, hc⟩ := h.1.at_ (j := k) (by simpa using hk)
  exact ⟨b, o, e, by rw [hc, List.getElem_map]; rfl, h.2 _ (List.getElem_mem hk)⟩
end
/-- One slice in a block of its own. -/
theorem Byts.one {w : World} {A : Option Addr} {n c : Nat} {bs : List UInt8} {t : TypeId} (h : Byt w w.heap.size A n c bs) :
    Byts (w.alloc (.cells #[.slice A n c] t)) (w.heap.size + 1) (some ⟨w.heap.size, 0, none⟩) [⟨A, n, c, bs⟩] := by
  refine ⟨Row.new w rfl, fun v hv => ?_⟩
  obtain rfl := List.mem_singleton.1 hv
  exact (h.below ((Below.refl _ _).alloc (Nat.le_refl _) _)).more (by omega)
end Go.Proofs.Ytnlhammgcemchaa
end

section
namespace Go.Proofs.Ytnlhammgcemchaa
set_option maxRecDepth 100000
set_option linter.unusedSimpArgs false
set_option linter.unusedVariables false
open Go.RowKit Go.ChangeShapes Go.WideShapes Go.Deep

theorem weights_all {H : Type} {P : Program} {e : TypeId} {d : DataW H} {x : Nat} : ∀ {l : List (DataW H)}, d ∈ l → x ∈ DataW.weights P e d → x ∈ DataW.weightsAll P e l
  | [], hd, _ => by cases hd
  | y :: l, hd, hx => by
    simp only [DataW.weightsAll, List.mem_append]
    rcases List.mem_cons.1 hd with rfl | h
    · exact .inl hx
    · exact .inr (weights_all h hx)
theorem bss_of_trod {H : Type} {enc : TypeId × Value → H} {w : World} {base : Nat} {held : Bool} {A : Option Addr} {n c : Nat} {d : DataW H} {p : List MemPlace}
    (h : DataW.Trod enc Try.prog w base (fun _ => true) held 34 (.slice A n c) d p) (hsz : ∀ x ∈ DataW.weights Try.prog 34 d, x ≤ reachBytes) : ∃ vs : List SV, (vs.length = n ∧ Byts w w.heap.size A vs ∧ n ≤ c ∧ ∀ v ∈ vs, v.c ≤ 140737488351232) ∧ c ≤ maxLen := by
  obtain ⟨fuel, hf⟩ := h
  rcases open_int_rows Try.underlying34 Try.underlying39 Try.underlying5 (by kernel_rfl) (by kernel_rfl) hf with ⟨hcs, _⟩ | ⟨a, len, cap, X, L, C, Z, hcs, _, hl, hm, hdp, hr⟩
  · simp [Value.cells] at hcs
    obtain ⟨rfl, rfl, rfl⟩ := hcs
    exact ⟨[], ⟨rfl, ⟨Row.nil _ _ _, fun v hv => (by cases hv)⟩, Nat.le_refl _, fun v hv => (by cases hv)⟩, Nat.zero_le _⟩
  · simp [Value.cells] at hcs
    obtain ⟨rfl, rfl, rfl⟩ := hcs
    have hd : d = .slice ((List.range n).map fun r => intRow .u8 (X r) (L r) (Z r)) ((List.range (c - n)).map fun j => intRow .u8 (X (n + j)) (L (n + j)) (Z (n + j))) := by
      injection hdp
    have hbyt : (Try.prog).bytesOf 5 = 1 := by kernel_rfl
    have key : ∀ r, r < n → ∃ v : SV, w.cell? (a.add r) = some (.slice v.a v.n v.c) ∧ Byt w w.heap.size v.a v.n v.c v.bs ∧ v.c ≤ 140737488351232 := fun r hrn => by
      obtain ⟨h1, h2, h3, h4, h5, h6, h7⟩ := hr r (by omega)
      have hcr : C r ≤ 140737488351232 := by
        cases hx : X r with
        | none => have := h6 hx; omega
        | some a' =>
          have hw : C r ∈ DataW.weights (H := H) Try.prog 39 (intRow .u8 (X r) (L r) (Z r)) := by
            rw [hx]
            simp only [intRow, DataW.weights, Try.underlying39, hbyt, Nat.mul_one]
            refine List.mem_cons.2 (.inl ?_)
            simp only [lits, List.length_map, List.length_take, List.length_drop]
            omega
          have hin : C r ∈ DataW.weights (H := H) Try.prog 34 d := by
            rw [hd]
            simp only [DataW.weights, Try.underlying34]
            refine List.mem_cons.2 (.inr (List.mem_append.2 (.inl (weights_all (List.mem_map.2 ⟨r, List.mem_range.2 hrn, rfl⟩) hw))))
          have := hsz _ hin
          simp only [reachBytes] at this
          omega
      have : ∃ bs, Byt w w.heap.size (X r) (L r) (C r) bs ∧ C r ≤ maxLen := by
        refine byt_of_row (zs := Z r) ?_
        cases hx : X r with
        | none =>
          have hc0 := h6 hx
          exact .inl ⟨rfl, by omega, hc0, List.eq_nil_of_length_eq_zero (by rw [h4]; exact hc0)⟩
        | some a' =>
          obtain ⟨_, h8⟩ := h7 a' hx
          exact .inr ⟨a', rfl, h2, h3, h4, fun i hi => h8 i (by omega), h5⟩
      obtain ⟨bs, hb, _⟩ := this
      exact ⟨⟨X r, L r, C r, bs⟩, h1, hb, hcr⟩
    obtain ⟨f, hf⟩ := @choose_lt _ ⟨(⟨none, 0, 0, []⟩ : SV)⟩ n _ key
    refine ⟨(List.range n).map f, ⟨by simp, ⟨fun hn => ?_, fun v hv => ?_⟩, hl, fun v hv => ?_⟩, hm⟩
    · have hn0 : 0 < n := by simpa using hn
      obtain ⟨b, o, rfl, hb⟩ := spot_none ((hf 0 hn0).1)
      refine ⟨b, o, rfl, hb, fun j hj => ?_⟩
      have hjn : j < n := by simpa using hj
      have := (hf j hjn).1
      rw [add_eq] at this
      rw [this]
      simp [hjn, SV.val]
    · obtain ⟨r, hr2, rfl⟩ := List.mem_map.1 hv
      exact (hf r (List.mem_range.1 hr2)).2.1
    · obtain ⟨r, hr2, rfl⟩ := List.mem_map.1 hv
      exact (hf r (List.mem_range.1 hr2)).2.2
end Go.Proofs.Ytnlhammgcemchaa
end

section
namespace Go.Proofs.Ytnlhammgcemchaa
set_option maxRecDepth 100000
set_option linter.unusedSimpArgs false
set_option linter.unusedVariables false
open Go.RowKit Go.ChangeShapes Go.WideShapes Go.Deep

/-- The types of a struct's cells, field by field, from a place on. -/
def flatFs (P : Program) (F : TypeId → Option (List TypeId)) : List Field → Nat → Option (List TypeId)
  | [], _ => some []
  | f :: r, off => match F f.type with
    | none => none
    | some a => if f.offset = off ∧ P.cellsOf f.type = a.length then (match flatFs P F r (off + a.length) with
      | none => none
      | some b => some (a ++ b)) else none
/-- The types of a value's cells. -/
def flat (P : Program) : Nat → TypeId → Option (List TypeId)
  | 0, _ => none
  | k + 1, t => match P.underlying t with
    | some (.struct fs) => (match flatFs P (flat P k) fs.toList 0 with
      | none => none
      | some ts => if P.cellsOf t = ts.length then some ts else none)
    | some _ => if P.cellsOf t = 1 then some [t] else none
    | none => none

section
variable {H : Type} {enc : TypeId × Value → H} {P : Program} {w : World} {base : Nat} {spare : Nat → Bool} {held : Bool}
/-- What is read of a cell. -/
def CellRead (enc : TypeId × Value → H) (P : Program) (w : World) (base : Nat) (spare : Nat → Bool) (held : Bool) (t : TypeId) (d : DataW H) (v : Value) (T : TypeId) : Prop :=
  ∃ (y : DataW H × List MemPlace) (n : Nat), DataW.trod enc P w base spare held n T [v] = some y ∧ ∀ z ∈ DataW.weights P T y.1, z ∈ DataW.weights P t d
theorem flatFs_read {F : TypeId → Option (List TypeId)} {t : TypeId} {fs : Array Field} {cs : List Value} {xs : List (DataW H × List MemPlace)} {n : Nat} (ht : P.underlying t = some (.struct fs)) (hlen : xs.length = fs.size)
    (hF : ∀ T a, F T = some a → ∀ (cs : List Value) (x : DataW H × List MemPlace), cs.length = P.cellsOf T → DataW.trod enc P w base spare held n T cs = some x → ∀ (i : Nat) (U : TypeId), a[i]? = some U → ∃ v, cs[i]? = some v ∧ CellRead enc P w base spare held T x.1 v U)
    (hf : ∀ (i : Nat) (f : Field), fs[i]? = some f → DataW.trod enc P w base spare held n f.type ((cs.drop f.offset).take (P.cellsOf f.type)) = xs[i]?) :
    ∀ (r : List Field) (j off : Nat) (b : List TypeId), fs.toList.drop j = r → flatFs P F r off = some b → off + b.length ≤ cs.length → ∀ (i : Nat) (U : TypeId), b[i]? = some U → ∃ v, cs[off + i]? = some v ∧ CellRead enc P w base spare held t (.agg (xs.map (·.1))) v U := by
  intro r
  induction r with
  | nil =>
    intro j off b _ hb _ i U hi
    simp only [flatFs] at hb
    injection hb with hb
    subst hb
    simp at hi
  | cons f r ih =>
    intro j off b hj hb hle i U hi
    simp only [flatFs] at hb
    cases ha : F f.type with
    | none => rw [ha] at hb; cases hb
    | some a =>
      rw [ha] at hb
      simp only at hb
      split at hb
      · rename_i hoff
        cases hc : flatFs P F r (off + a.length) with
        | none => rw [hc] at hb; cases hb
        | some c =>
          rw [hc] at hb
          simp only at hb
          injection hb with hb
          subst hb
          rw [List.length_append] at hle
          have hfj : fs[j]? = some f := by
            have : (fs.toList.drop j)[0]? = some f := by rw [hj]; rfl
            rw [List.getElem?_drop] at this
            simpa using this
          have hjl : j < fs.size := (Array.getElem?_eq_some_iff.1 hfj).1
          by_cases hia : i < a.length
          · have h1 := hf j f hfj
            rw [hoff.1, List.getElem?_eq_getElem (by omega)] at h1
            obtain ⟨v, hv, y, m, hy, hz⟩ := hF f.type a ha ((cs.drop off).take (P.cellsOf f.type)) _ (by rw [List.length_take, List.length_drop, hoff.2]; omega) h1 i U (by rw [List.getElem?_append_left hia] at hi; exact hi)
            refine ⟨v, ?_, y, m, hy, fun z hz2 => ?_⟩
            · rw [List.getElem?_take, if_pos (by rw [hoff.2]; exact hia), List.getElem?_drop] at hv
              exact hv
            · have h2 := hz z hz2
              simp only [DataW.weights, ht]
              refine DataW.weights_mem_each (j := j) (t := f.type) (d := (xs[j]'(by omega)).1) ?_ ?_ z h2
              · rw [List.getElem?_map, Array.getElem?_toList, hfj]; rfl
              · rw [List.getElem?_map, List.getElem?_eq_getElem (by omega)]; rfl
          · obtain ⟨v, hv, hr⟩ := ih (j + 1) (off + a.length) c (by rw [← List.drop_drop, hj]; rfl) hc (by omega) (i - a.length) U (by rw [List.getElem?_append_right (by omega)] at hi; exact hi)
            refine ⟨v, ?_, hr⟩
            rw [show off + i = off + a.length + (i - a.length) by omega]
            exact hv
      · cases hb
theorem flat_read : ∀ (k : Nat) (t : TypeId) (ts : List TypeId), flat P k t = some ts → ∀ (fuel : Nat) (cs : List Value) (x : DataW H × List MemPlace), cs.length = P.cellsOf t → DataW.trod enc P w base spare held fuel t cs = some x →
    ∀ (i : Nat) (T : TypeId), ts[i]? = some T → ∃ v, cs[i]? = some v ∧ CellRead enc P w base spare held t x.1 v T
  | 0, _, _, h => by simp [flat] at h
  | k + 1, t, ts, h => by
    intro fuel cs x hlen hx i T hi
    rw [flat] at h
    cases hu : P.underlying t with
    | none => rw [hu] at h; cases h
    | some d =>
      rw [hu] at h
      by_cases hs : ∃ fs, d = .struct fs
      · obtain ⟨fs, rfl⟩ := hs
        simp only at h
        cases hff : flatFs P (flat P k) fs.toList 0 with
        | none => rw [hff] at h; cases h
        | some b =>
          rw [hff] at h
          simp only at h
          split at h
          · rename_i hcl
            injection h with h
            subst h
            obtain ⟨xs, n, rfl, rfl, hl, hxl, hf⟩ := DataW.trod_struct hu hx
            have := flatFs_read (enc := enc) (w := w) (base := base) (spare := spare) (held := held) (F := flat P k) hu hxl (fun T a ha cs x hl2 hx2 => flat_read k T a ha n cs x hl2 hx2) hf fs.toList 0 0 b rfl hff (by omega) i T hi
            simpa using this
          · cases h
      · have h1 : (if P.cellsOf t = 1 then some [t] else none) = some ts := by
          cases d <;> first | exact h | exact absurd ⟨_, rfl⟩ hs
        split at h1
        · rename_i hc
          injection h1 with h1
          subst h1
          have hi0 : i = 0 := by
            cases i with
            | zero => rfl
            | succ i => simp at hi
          subst hi0
          have hT : T = t := by simpa using hi.symm
          subst hT
          rw [hc] at hlen
          obtain ⟨v, rfl⟩ := List.length_eq_one_iff.1 hlen
          exact ⟨v, rfl, x, fuel, hx, fun z hz => hz⟩
        · cases h1
/-- A struct by value. -/
theorem flat_agg {k : Nat} {t : TypeId} {ts : List TypeId} {fs : Array Field} {r : Reach} {b0 : Nat} {v : Value} {d : DataW H} {p : List MemPlace} (hs : P.underlying t = some (.struct fs)) (hfl : flat P k t = some ts)
    (hv : Value.okWide P w r b0 t v) (h : DataW.Trod enc P w base spare held t v d p) : ∃ cs : Array Value, v = .agg cs ∧ cs.size = P.cellsOf t ∧ ∀ (i : Nat) (T : TypeId), ts[i]? = some T → ∃ u, cs[i]? = some u ∧ CellRead enc P w base spare held t d u T := by
  obtain ⟨cs, rfl, hsz⟩ := okWide_struct hs hv
  obtain ⟨fuel, hf⟩ := h
  refine ⟨cs, rfl, hsz, fun i T hi => ?_⟩
  have hc : (Value.agg cs).cells = cs := rfl
  rw [hc] at hf
  obtain ⟨u, hu, hr⟩ := flat_read k t ts hfl fuel cs.toList _ (by simpa using hsz) hf i T hi
  exact ⟨u, by simpa using hu, hr⟩
/-- A slice of structs. -/
theorem flat_slice {k : Nat} {t e : TypeId} {ts : List TypeId} {fuel : Nat} {cs : List Value} {x : DataW H × List MemPlace} (ht : P.underlying t = some (.slice e)) (hfl : flat P k e = some ts)
    (h : DataW.trod enc P w base spare held fuel t cs = some x) :
    cs = [.slice none 0 0] ∨ ∃ (a : Addr) (len cap : Nat), cs = [.slice (some a) len cap] ∧ len ≤ cap ∧ cap ≤ maxLen ∧
      ∀ i, i < len → ∀ (j : Nat) (T : TypeId), ts[j]? = some T → ∃ u, w.cell? (a.add (i * P.cellsOf e + j)) = some u ∧ CellRead enc P w base spare held t x.1 u T := by
  rcases open_slice ht h with h0 | ⟨a, len, cap, m, n, D, Pl, hcs, _, hl, hm, hmm, hx, hi⟩
  · exact .inl h0.1
  · refine .inr ⟨a, len, cap, hcs, hl, hm, fun i hlt j T hj => ?_⟩
    obtain ⟨l, hc, hd⟩ := hi i (by rw [hmm]; split <;> omega)
    obtain ⟨_, hll, hat⟩ := World.cells?_some hc
    obtain ⟨u, hu, y, n2, hy, hz⟩ := flat_read k e ts hfl n l _ (by omega) hd j T hj
    have hjl : j < l.length := (List.getElem?_eq_some_iff.1 hu).1
    refine ⟨u, ?_, y, n2, hy, fun z hz2 => ?_⟩
    · rw [← add_add, hat j (by omega), hu]
    · rw [hx]
      simp only [DataW.weights, ht]
      refine List.mem_cons.2 (.inr (List.mem_append.2 (.inl ?_)))
      exact weights_all (d := D i) (List.mem_map.2 ⟨i, List.mem_range.2 hlt, rfl⟩) (hz z hz2)
/-- A cell that is an int, a truth value, a slice of bytes. -/
theorem CellRead.int {t T : TypeId} {d : DataW H} {v : Value} (h : CellRead enc P w base spare held t d v T) (hT : P.underlying T = some (.int .i64)) : ∃ z, v = .int .i64 z ∧ -9223372036854775808 ≤ z ∧ z ≤ 9223372036854775807 := by
  obtain ⟨y, n, hy, _⟩ := h
  exact fint_of_trod hT hy
theorem CellRead.bool {t T : TypeId} {d : DataW H} {v : Value} (h : CellRead enc P w base spare held t d v T) (hT : P.underlying T = some .bool) : ∃ z, v = .bool z := by
  obtain ⟨y, n, hy, _⟩ := h
  exact fbool_of_trod hT hy
theorem CellRead.byt {t T e : TypeId} {d : DataW H} {v : Value} (h : CellRead enc P w base spare held t d v T) (hT : P.underlying T = some (.slice e)) (he : P.underlying e = some (.int .u8)) (hC : P.cellsOf e = 1) :
    ∃ A len cap bs, v = .slice A len cap ∧ Byt w w.heap.size A len cap bs ∧ cap ≤ maxLen := by
  obtain ⟨y, n, hy, _⟩ := h
  exact fbyt_of_trod hT he hC hy
end
/-- Records, one behind the other, s cells each. -/
def Recs {α : Type} (cells : α → List Value) (s : Nat) (w : World) (B : Nat) (A : Option Addr) (l : List α) : Prop :=
  0 < l.length → ∃ b o, A = some ⟨b, o, none⟩ ∧ b < B ∧ ∀ (k : Nat) (x : α), l[k]? = some x → ∀ (j : Nat) (v : Value), (cells x)[j]? = some v → w.cell? ⟨b, o + (k * s + j), none⟩ = some v
theorem Recs.below {α : Type} {cells : α → List Value} {s : Nat} {w w' : World} {B : Nat} {A : Option Addr} {l : List α} (h : Recs cells s w B A l) (hb : Below B w w') : Recs cells s w' B A l := fun hn => by
  obtain ⟨b, o, e, hlt, hc⟩ := h hn
  exact ⟨b, o, e, hlt, fun k x hk j v hv => (World.cell?_of_block (hb.block b hlt)).trans (hc k x hk j v hv)⟩
theorem Recs.more {α : Type} {cells : α → List Value} {s : Nat} {w : World} {B B' : Nat} {A : Option Addr} {l : List α} (h : Recs cells s w B A l) (hB : B ≤ B') : Recs cells s w B' A l := fun hn => by
  obtain ⟨b, o, e, hlt, hc⟩ := h hn
  exact ⟨b, o, e, Nat.lt_of_lt_of_le hlt hB, hc⟩
theorem recs_of {α : Type} [Inhabited α] {cells : α → List Value} {s n : Nat} {w : World} {a : Addr} {G : α → Prop} (h0 : ∀ x, ∃ v, (cells x)[0]? = some v)
    (key : ∀ i, i < n → ∃ x : α, (∀ (j : Nat) (v : Value), (cells x)[j]? = some v → w.cell? (a.add (i * s + j)) = some v) ∧ G x) : ∃ l : List α, l.length = n ∧ Recs cells s w w.heap.size (some a) l ∧ ∀ x ∈ l, G x := by
  obtain ⟨f, hf⟩ := choose_lt (n := n) key
  refine ⟨(List.range n).map f, by simp, fun hn => ?_, fun x hx => ?_⟩
  · have hn0 : 0 < n := by simpa using hn
    obtain ⟨v, hv⟩ := h0 (f 0)
    have h00 := (hf 0 hn0).1 0 v hv
    rw [show 0 * s + 0 = 0 by omega] at h00
    obtain ⟨b, o, rfl, hb⟩ := spot_none h00
    refine ⟨b, o, rfl, hb, fun k x hk j u hu => ?_⟩
    have hkn : k < n := by
      have := (List.getElem?_eq_some_iff.1 hk).1
      simpa using this
    have e : x = f k := by
      rw [List.getElem?_map, List.getElem?_range hkn] at hk
      simpa using hk.symm
    subst e
    have := (hf k hkn).1 j u hu
    rw [add_eq] at this
    exact this
  · obtain ⟨r, hr, rfl⟩ := List.mem_map.1 hx
    exact (hf r (List.mem_range.1 hr)).2
end Go.Proofs.Ytnlhammgcemchaa
end

section
namespace Go.Proofs.Ytnlhammgcemchaa
set_option maxRecDepth 100000
set_option linter.unusedSimpArgs false
set_option linter.unusedVariables false
open Go.RowKit

/-- The fence that lets all in; in the rounds of a loop, or in none. -/
abbrev Wd (ro : Option Nat) : Fence := { Fence.wide with round := ro }
def notDefer (o : Oper) : Bool := match o.op with
  | .defer _ => false
  | _ => true
section
variable {P : Program} {ops : Array Oper} {ro : Option Nat} {n : Nat} {Q Q' : Exit → Act → World → Prop} {a : Act} {w : World} {o : Oper}
theorem callsIn_wd {f : FuncId} {args : Array Value} {R : Ending → World → Prop} (h : Calls P f args w R) : CallsIn (Wd ro) n P f args w R := (callsIn_wide (n := n)).2 h
theorem rowsIn_wd {row : String} {args : Array Value} {R : Value → World → Prop} (h : Rows P row args w R) : RowsIn (Wd ro) n P row args w R :=
  fun c cs _ => let ⟨v, w', r, s⟩ := h c cs; ⟨v, w', r, (show StepsIn (Machine.fenced P Fence.wide) P _ _ from stepsIn_wide.2 s)⟩
theorem oper_in {next next' : Act → World → Prop} (hd : notDefer o = true) (hn : ∀ a w, next a w → next' a w) (hq : ∀ e a w, e ≠ .normal → Q e a w → Q' e a w) (h : o.wp P a w next Q) : o.wpIn (Wd ro) n P a w next' Q' := by
  refine ⟨fun _ _ => trivial, ?_⟩
  rw [Oper.semAt_eq _ _ _ (fun c hc => by unfold notDefer at hd; rw [hc] at hd; cases hd)]
  unfold Oper.wp at h
  revert h
  generalize (execOp a.eval o).run P w = r
  intro h
  cases r with
  | ok v w' =>
    cases v with
    | value v => exact hn _ _ h
    | skip => exact hn _ _ h
    | defer d => exact hn _ _ h
    | enter f args =>
      refine ⟨(fun h => by cases h), callsIn_wd (Calls.mono h fun e w2 h2 => ?_)⟩
      cases e with
      | returned v => exact hn _ _ h2
      | panicked c => exact hq _ _ _ (by intro e; cases e) h2
      | outgrown =>
        obtain ⟨a2, w3, h3⟩ := h2
        exact ⟨a2, w3, hq _ _ _ (by intro e; cases e) h3⟩
    | row row args => exact ⟨(fun h => by cases h), rowsIn_wd (Rows.mono h fun v w2 h2 => hn _ _ h2)⟩
    | round l f t x y => exact h.elim
    | _ => exact h.elim
  | halt hh w' =>
    cases hh with
    | panic v => exact hq _ _ _ (by intro e; cases e) h
    | _ => exact h.elim
/-- Where a list of operations is walked, and then the rest. -/
def Upto (R : Act → World → Prop) : Exit → Act → World → Prop
  | .normal, a, w => R a w
  | _, _, _ => False
theorem list_in_app (l₂ : List Oper) : ∀ (l₁ : List Oper) (a : Act) (w : World), l₁.all notDefer = true → wpList P ops (Upto (wpListIn (Wd ro) n P ops Q l₂)) l₁ a w → wpListIn (Wd ro) n P ops Q (l₁ ++ l₂) a w := by
  intro l₁
  induction l₁ with
  | nil => intro a w _ h; exact h
  | cons o l ih =>
    intro a w hd h
    rw [List.all_cons, Bool.and_eq_true] at hd
    unfold wpList at h
    show wpListIn _ _ _ _ _ (o :: (l ++ l₂)) a w
    unfold wpListIn
    split
    · rename_i hw
      rw [if_pos hw] at h
      rcases h with h | ⟨_, h⟩
      · exact oper_in hd.1 (fun a w h => ih a w hd.2 h) (fun e a w he h => by cases e <;> first | exact absurd rfl he | exact h.elim) h
      · obtain ⟨_, _, h⟩ := h; exact h.elim
    · rename_i hw
      rw [if_neg hw] at h
      exact ⟨fun _ _ => trivial, ih _ _ hd.2 h⟩
theorem list_in (hQ : ∀ a w, ¬ Q .outgrown a w) : ∀ (l : List Oper) (a : Act) (w : World), l.all notDefer = true → wpList P ops Q l a w → wpListIn (Wd ro) n P ops Q l a w := by
  intro l
  induction l with
  | nil => intro a w _ h; exact h
  | cons o l ih =>
    intro a w hd h
    rw [List.all_cons, Bool.and_eq_true] at hd
    unfold wpList at h
    unfold wpListIn
    split
    · rename_i hw
      rw [if_pos hw] at h
      rcases h with h | ⟨_, h⟩
      · exact oper_in hd.1 (fun a w h => ih a w hd.2 h) (fun e a w _ h => h) h
      · obtain ⟨_, _, h⟩ := h; exact absurd h (hQ _ _)
    · rename_i hw
      rw [if_neg hw] at h
      exact ⟨fun _ _ => trivial, ih _ _ hd.2 h⟩
/-- A region, in a round. -/
theorem region_in {id : Nat} {l : List Oper} (hd : l.all notDefer = true) (hQ : ∀ a w, ¬ Q .outgrown a w) (h : wpList P l.toArray Q l a w) : (Code.region id l.toArray false).wpIn (Wd ro) n P Q a w :=
  wpIn_region_lit (list_in hQ l a w hd h)
theorem any_in {md : Region.Mode} (hQ : ∀ a w, ¬ Q .outgrown a w) (hd : ∀ (i : Nat) (o : Oper), ops[i]? = some o → notDefer o = true) : ∀ (fuel : Nat) (listed : Array Bool) (a : Act) (w : World), wpAny P md ops Q fuel listed a w → wpAnyIn (Wd ro) n P md ops Q fuel listed a w := by
  intro fuel
  induction fuel with
  | zero => intro listed a w h; exact h
  | succ k ih =>
    intro listed a w h
    refine ⟨h.1, fun i hi => ?_⟩
    have h2 := h.2 i hi
    unfold wpOp at h2
    unfold wpOpIn
    cases ho : ops[i]? with
    | none => rw [ho] at h2; exact ih _ _ _ h2
    | some o =>
      rw [ho] at h2
      simp only at h2 ⊢
      split
      · rename_i hw
        rw [if_pos hw] at h2
        rcases h2 with h2 | ⟨_, h2⟩
        · exact oper_in (hd i o ho) (fun a w h => ih _ a w h) (fun e a w _ h => h) h2
        · obtain ⟨_, _, h2⟩ := h2; exact absurd h2 (hQ _ _)
      · rename_i hw
        rw [if_neg hw] at h2
        exact ⟨fun _ _ => trivial, ih _ _ _ h2⟩
theorem notDefer_of {l : List Oper} (h : l.all notDefer = true) (i : Nat) (o : Oper) (ho : l.toArray[i]? = some o) : notDefer o = true := by
  rw [List.getElem?_toArray] at ho
  exact List.all_eq_true.1 h o (List.mem_of_getElem? ho)
/-- A region that draws its order, in a round. -/
theorem drawn_in {id : Nat} {l : List Oper} (hm : P.follows .mixedOrders = true) (hd : l.all notDefer = true) (hQ : ∀ a w, ¬ Q .outgrown a w)
    (h : wpAny P .any l.toArray (NoPanic Q) l.toArray.size (Array.replicate l.toArray.size false) a w.drew) : (Code.region id l.toArray true).wpIn (Wd ro) n P Q a w :=
  wpIn_mono (wpIn_region_any hm (any_in (Q := NoPanic Q) (fun a w h => hQ a w (NoPanic.imp _ _ _ h)) (notDefer_of hd) _ _ _ _ h)) (fun e a w h => NoPanic.imp e a w h)
end

theorem anyP_start {P : Program} {md : Region.Mode} {ops : Array Oper} {Q : Exit → Act → World → Prop} {S : World → Prop} {n : Nat} {l : Array Bool} {a : Act} {w : World} (late : List Nat) (hS : S w) (h : S w → wpAnyP P md ops Q late S n l a w) : wpAny P md ops Q n l a w := wpAny_of_P _ _ _ _ (h hS)
theorem anyH_start {P : Program} {md : Region.Mode} {ops : Array Oper} {Q : Exit → Act → World → Prop} {S : World → Prop} {n : Nat} {l : Array Bool} {a : Act} {w : World} (hS : S w) (h : S w → wpAnyH P md ops Q S n l a w) : wpAny P md ops Q n l a w := wpAny_of_held _ _ _ _ (h hS)
/-! The loop. -/
section
variable {P : Program} {σ : Type} {ps : Array Tmp} {assign body : Code} {Q : Exit → Act → World → Prop} {a : Act} {w : World} {g : Operand}
/-- How a round's body is left. -/
def rngPost (In : σ → World → Prop) (Ix : Code → World → Prop) (s : σ) (W : World) : Exit → Act → World → Prop
  | .normal, _, W' => KeepsOthers W W' ∧ In s W'
  | .ret, _, W' => KeepsOthers W W' ∧ Ix .ret W'
  | .exit id, _, W' => KeepsOthers W W' ∧ Ix (.exit id) W'
  | .goto t, _, W' => KeepsOthers W W' ∧ Ix (.goto t) W'
  | .panic _, _, _ => False
  | .outgrown, _, _ => False
/-- One block beyond B that holds no cells has turned. -/
def Behind (B : Nat) (W W' : World) : Prop := ∃ r o o', W' = W.putObj r o' ∧ B ≤ r ∧ W.heap[r]? = some o ∧ o.isCells = false
/-- What an iterator owes: whatever the record's state (Y: between two rounds; Z: behind the last). -/
def Iter (P : Program) (gf : Nat) (lb : Array Value) (encs : σ → Array Value) (B : Nat) (I0 E : World → Prop) (Ih In : σ → World → Prop) (Ix : Code → World → Prop) : Prop :=
  ∀ (l : Nat) (Y : World → Prop) (Z : Code → World → Prop) (W1 : World), B ≤ l → (∀ W W', Y W → KeepsOthers W W' → Y W') → (∀ c W W', Z c W → KeepsOthers W W' → Z c W') →
    (∀ s W, Ih s W → Y W → YieldAt (Wd none) 0 P l (encs s) W fun e W' => (e = .returned (.bool true) ∧ In s W' ∧ Y W') ∨ (e = .returned (.bool false) ∧ ∃ c, Ix c W' ∧ Z c W')) →
    I0 W1 → Y W1 → CallsIn (Wd none) 0 P gf (#[.func (.yield l) #[] #[]] ++ lb) W1 fun e W' => (∃ v, e = .returned v) ∧ ((E W' ∧ Y W') ∨ ∃ c, Ix c W' ∧ Z c W')
theorem wp_rangeF {gf : Nat} {lb : Array Value} (hg : a.eval g = .func (.func gf) #[] lb) (eg : ∀ args w, (callFunc gf args).run P w = .ok (.enter gf args) w) {encs : σ → Array Value} (hps : ∀ s, (encs s).size = ps.size)
    {I0 E : World → Prop} {Ih In : σ → World → Prop} {Ix : Code → World → Prop} (hiter : Iter P gf lb encs w.heap.size I0 E Ih In Ix)
    (sI0 : OwnFrom w.heap.size fun _ : Unit => I0) (sE : OwnFrom w.heap.size fun _ : Unit => E) (sIn : OwnFrom w.heap.size In) (sIx : OwnFrom w.heap.size Ix) (h0 : I0 w)
    (hround : ∀ (l : Nat) (s : σ) (W : World), Ih s W → assign.wpIn (Wd (some l)) 0 P (Exit.then (fun a₁ W₁ => KeepsOthers W W₁ ∧ ∀ W₂, Behind w.heap.size W₁ W₂ → body.wpIn (Wd (some l)) 0 P (rngPost In Ix s W₂) a₁ W₂) (fun _ _ _ => False)) { tmps := (ps.zip (encs s)).foldl (fun t (p, v) => t.setIfInBounds p v) a.tmps, defers := [] } W)
    (hdone : ∀ (D : Nat) (W : World), w.heap.size ≤ D → E W → W.heap[D]? = some (.deferred (some [])) → Q .normal { a with defers := { target := .collected D, args := #[] } :: a.defers } W)
    (hstop : ∀ (D : Nat) (c : Code) (W : World), w.heap.size ≤ D → Ix c W → W.heap[D]? = some (.deferred (some [])) → c.wp P Q { a with defers := { target := .collected D, args := #[] } :: a.defers } W) :
    (Code.rangeFunc g ps assign body).wp P Q a w := by
  refine (wpIn_wide (n := 0)).1 (wpIn_rangeFunc ?_)
  intro fn hfn
  obtain ⟨rec, hrec⟩ : ∃ rec : LoopState → Option Code → Loop, rec = fun st pe => { state := st, pending := pe, fn, tmps := a.tmps, params := ps, assign, body, defers := w.heap.size } := ⟨_, rfl⟩
  obtain ⟨W1, hW1⟩ : ∃ W1, (w.alloc (.deferred (some []))).alloc (.loop (rec .ready none)) = W1 := ⟨_, rfl⟩
  have hL1 : W1.heap[w.heap.size + 1]? = some (.loop (rec .ready none)) := by
    rw [← hW1]; have := World.alloc_heap_new (w.alloc (.deferred (some []))) (.loop (rec .ready none)); rwa [World.size_alloc] at this
  have hK1 : W1.heap[w.heap.size]? = some (.deferred (some [])) := by
    rw [← hW1]; exact (Below.heap_alloc _ _ _ (by simp)).trans (World.alloc_heap_new w _)
  have hI1 : I0 W1 := by rw [← hW1]; exact sI0.alloc (s := ()) _ (sI0.alloc (s := ()) _ h0)
  refine ⟨w.heap.size + 1, [{ target := .collected w.heap.size, args := #[] }], W1, { target := .fn (.func gf) lb, args := #[.func (.yield (w.heap.size + 1)) #[] #[]] }, W1, gf,
    #[.func (.yield (w.heap.size + 1)) #[] #[]] ++ lb, W1, ?_, ?_, fun _ _ => trivial, ?_, (fun h => by cases h), ?_⟩
  · rw [← hW1, hrec]; exact run_enterLoop_outer _ _ _ _ _
  · simp only [resolve, hg]
    simp [go_sem]
  · simp [invoke, go_sem, eg]
  · refine (hiter (w.heap.size + 1) (fun W => W.heap[w.heap.size + 1]? = some (.loop (rec .ready none)) ∧ W.heap[w.heap.size]? = some (.deferred (some [])))
      (fun c W => W.heap[w.heap.size + 1]? = some (.loop (rec .done (some c))) ∧ W.heap[w.heap.size]? = some (.deferred (some []))) W1 (by omega)
      (fun W W' h k => ⟨k.same _ _ h.1 rfl, k.same _ _ h.2 rfl⟩) (fun c W W' h k => ⟨k.same _ _ h.1 rfl, k.same _ _ h.2 rfl⟩) ?_ hI1 ⟨hL1, hK1⟩).mono ?_
    · -- one round
      rintro s W hi ⟨hl, hk⟩
      have hy := run_yield (P := P) (args := encs s) hl (by rw [hrec]; exact hps s)
      rw [hrec] at hy
      refine ⟨fn, _, assign, body, hy, roundIn_of_wpIn trivial (wpIn_mono (hround _ s W hi) ?_)⟩
      intro e a₁ W₁ he
      cases e with
      | normal =>
        obtain ⟨hka, hbody⟩ := he
        have hl2 := hka.same _ _ hl rfl
        have hk2 := hka.same _ _ hk rfl
        have hlt : w.heap.size + 1 < W₁.heap.size := (Array.getElem?_eq_some_iff.1 hl2).1
        refine ⟨_, run_beginRound hl2 (by rw [hrec]), ?_⟩
        have hl3 : (W₁.putObj (w.heap.size + 1) (.loop { rec .ready none with state := .busy })).heap[w.heap.size + 1]? = some (.loop { rec .ready none with state := .busy }) := World.putObj_heap_same hlt
        have hk3 : (W₁.putObj (w.heap.size + 1) (.loop { rec .ready none with state := .busy })).heap[w.heap.size]? = some (.deferred (some [])) := (World.putObj_heap_other (by omega)).trans hk2
        refine wpIn_mono (hbody _ ⟨_, _, _, rfl, by omega, hl2, rfl⟩) ?_
        have fin : ∀ (jump : Option Code) (W3 : World), KeepsOthers (W₁.putObj (w.heap.size + 1) (.loop { rec .ready none with state := .busy })) W3 →
            (Instr.endRound (w.heap.size + 1) jump).run P W3 = .ok (.bool jump.isNone) (W3.putObj (w.heap.size + 1) (.loop (rec (if jump.isNone then .ready else .done) jump))) ∧
            W3.heap[w.heap.size + 1]? = some (.loop { rec .ready none with state := .busy }) ∧
            (W3.putObj (w.heap.size + 1) (.loop (rec (if jump.isNone then .ready else .done) jump))).heap[w.heap.size + 1]? = some (.loop (rec (if jump.isNone then .ready else .done) jump)) ∧
            (W3.putObj (w.heap.size + 1) (.loop (rec (if jump.isNone then .ready else .done) jump))).heap[w.heap.size]? = some (.deferred (some [])) := fun jump W3 k3 => by
          have h4 := k3.same _ _ hl3 rfl
          have := run_endRound (P := P) jump h4
          rw [hrec] at this ⊢
          exact ⟨this, by rw [hrec] at h4; exact h4, World.putObj_heap_same (Array.getElem?_eq_some_iff.1 h4).1, (World.putObj_heap_other (by omega)).trans (k3.same _ _ hk3 rfl)⟩
        rintro e a3 W3 hp
        cases e with
        | normal =>
          obtain ⟨k3, hi3⟩ := hp
          obtain ⟨hr, h4, h5, h6⟩ := fin none W3 k3
          exact ⟨_, _, hr, .inl ⟨rfl, sIn.putObj _ hi3 (by omega) h4 rfl, h5, h6⟩⟩
        | ret =>
          obtain ⟨k3, hi3⟩ := hp
          obtain ⟨hr, h4, h5, h6⟩ := fin (some .ret) W3 k3
          exact ⟨_, _, hr, .inr ⟨rfl, .ret, sIx.putObj _ hi3 (by omega) h4 rfl, h5, h6⟩⟩
        | exit id =>
          obtain ⟨k3, hi3⟩ := hp
          obtain ⟨hr, h4, h5, h6⟩ := fin (some (.exit id)) W3 k3
          exact ⟨_, _, hr, .inr ⟨rfl, .exit id, sIx.putObj _ hi3 (by omega) h4 rfl, h5, h6⟩⟩
        | goto t =>
          obtain ⟨k3, hi3⟩ := hp
          obtain ⟨hr, h4, h5, h6⟩ := fin (some (.goto t)) W3 k3
          exact ⟨_, _, hr, .inr ⟨rfl, .goto t, sIx.putObj _ hi3 (by omega) h4 rfl, h5, h6⟩⟩
        | panic c => exact hp.elim
        | outgrown => exact hp.elim
      | _ => exact he.elim
    · -- behind the iterator
      rintro e W2 ⟨⟨v, rfl⟩, (⟨hE, hl, hk⟩ | ⟨c, hi, hl, hk⟩)⟩
      · exact ⟨none, _, by have := run_endLoop (P := P) hl (by rw [hrec]; simp); rw [hrec] at this; exact this, hdone _ _ (Nat.le_refl _) (sE.putObj (s := ()) _ hE (by omega) hl rfl) ((World.putObj_heap_other (by omega)).trans hk)⟩
      · exact ⟨some c, _, by have := run_endLoop (P := P) hl (by rw [hrec]; simp); rw [hrec] at this; exact this, wpIn_wide.2 (hstop _ c _ (Nat.le_refl _) (sIx.putObj _ hi (by omega) hl rfl) ((World.putObj_heap_other (by omega)).trans hk))⟩
end
/-- A walk of a list in two parts. -/
theorem list_in_split {P : Program} {ops : Array Oper} {ro : Option Nat} {n : Nat} {Q : Exit → Act → World → Prop} {a : Act} {w : World} {l : List Oper} (k : Nat) (hd : (l.take k).all notDefer = true) (h : wpList P ops (Upto (wpListIn (Wd ro) n P ops Q (l.drop k))) (l.take k) a w) : wpListIn (Wd ro) n P ops Q l a w := by
  have := list_in_app (l.drop k) (l.take k) a w hd h
  rwa [List.take_append_drop] at this
section
variable {R : Nat → Prop} {s w w' : World} {L L2 : List Ent} {O O2 : List Osl} {B : Nat}
theorem Blk.cells {g : Nat} {t : TypeId} {cs : Array Value} (h : Blk w g t cs) {o : Obj} (ho : w.heap[g]? = some o) : o.isCells = true := by
  unfold Blk at h
  rw [h] at ho; cases ho; rfl
/-- Known memory abides what the loop's own blocks do. -/
theorem Mem.grown {row : Option Nat} (hm : Mem R s w L O) (hg : w.grownBy w' row) (hr : ∀ r, row = some r → B ≤ r ∧ ∃ o : Obj, w.heap[r]? = some o ∧ o.isCells = false) (hB : s.heap.size ≤ B) : Mem R s w' L O := by
  have ho : Only (fun q => row = some q) w w' := ⟨hg.os, hg.tape, hg.output, hg.size, fun k hk hn => hg.block k hk (fun e => hn e.symm)⟩
  refine hm.step ho (fun q _ e => .inr (Nat.le_trans hB (hr q e).1)) (fun e he e2 => ?_) (fun x hx q e e2 => ?_)
  · obtain ⟨_, o, h1, h2⟩ := hr _ e2
    rw [(hm.blk e he).cells h1] at h2; cases h2
  · obtain ⟨_, o, h1, h2⟩ := hr _ e2
    have hown := hm.sl x hx
    unfold ownAt at e
    split at e
    · cases e
    · rename_i hc
      obtain ⟨g, cur, e3, _, h3, _⟩ := hown.2.2.2 (by omega)
      rw [e3] at e
      cases e
      rw [Blk.cells (w := w) (g := g) h3 h1] at h2; cases h2
theorem Mem.behind (hm : Mem R s w L O) (h : Behind B w w') (hB : s.heap.size ≤ B) : Mem R s w' L O := by
  obtain ⟨r, o, o', rfl, h1, h2, h3⟩ := h
  exact hm.grown (grownBy_putObj' _ _ _) (fun q e => by cases e; exact ⟨h1, o, h2, h3⟩) hB
theorem KeepsOthers.of_only (ho : Only R w w') (hR : ∀ q, R q → ∃ t cs, Blk w q t cs) : KeepsOthers w w' :=
  ⟨ho.size, fun k o hk hc => by
    by_cases h : R k
    · obtain ⟨t, cs, hb⟩ := hR k h
      rw [hb.cells hk] at hc; cases hc
    · exact (ho.block k (Array.getElem?_eq_some_iff.1 hk).1 h).trans hk⟩
/-- From one state of known memory on, steps of the walk keep what holds no cells. -/
theorem KeepsOthers.of_mem (h0 : Mem R s w L O) (hm : Mem (fun q => ∃ e ∈ L, q = e.g) w w' L2 O2) : KeepsOthers w w' :=
  KeepsOthers.of_only hm.only (fun q ⟨e, he, e2⟩ => ⟨_, _, e2 ▸ h0.blk e he⟩)
end
/-- A function that holds such a loop. -/
theorem calls_marks {P : Program} {f : FuncId} {fn : Func} {c : Code} {args : Array Value} {w : World} {R : Ending → World → Prop} (hf : P.funcs[f]? = some fn) (hb : fn.body = some c)
    (h : c.wp P (bodyPostM Fence.wide 0 P fn R) { tmps := args ++ Array.replicate (fn.ntmps - args.size) undef, defers := [] } w) : Calls P f args w R :=
  (callsIn_wide (n := 0)).1 (callsIn_of_wp_marks hf hb trivial ((wpIn_wide (n := 0)).2 h) rfl)
end Go.Proofs.Ytnlhammgcemchaa
end

section
namespace Go.Proofs.Ytnlhammgcemchaa
set_option maxRecDepth 100000
set_option linter.unusedSimpArgs false
set_option linter.unusedVariables false
open Go.RowKit

section
variable {P : Program}
theorem equalIn_func_nil (d : Nat) {t : TypeId} {ps rs : Array TypeId} {vr : Bool} (h : P.underlying t = some (.func ps rs vr)) (fn : Fn) (a b : Array Value) (w : World) : (Op.equalIn (d + 1) t (.func fn a b) .nilFunc).run P w = .ok false w := by
  simp [Op.equalIn, run_underlying h]
theorem equalIn_nil_nil (d : Nat) {t : TypeId} {ps rs : Array TypeId} {vr : Bool} (h : P.underlying t = some (.func ps rs vr)) (w : World) : (Op.equalIn (d + 1) t .nilFunc .nilFunc).run P w = .ok true w := by
  simp [Op.equalIn, run_underlying h]
theorem equal_func_nil {t : TypeId} {ps rs : Array TypeId} {vr : Bool} (h : P.underlying t = some (.func ps rs vr)) (fn : Fn) (a b : Array Value) (w : World) : (Op.equal t (.func fn a b) .nilFunc).run P w = .ok false w := equalIn_func_nil 9999 h fn a b w
theorem equal_nil_nil {t : TypeId} {ps rs : Array TypeId} {vr : Bool} (h : P.underlying t = some (.func ps rs vr)) (w : World) : (Op.equal t .nilFunc .nilFunc).run P w = .ok true w := equalIn_nil_nil 9999 h w
theorem eql_func_nil {t : TypeId} {ps rs : Array TypeId} {vr : Bool} (h : P.underlying t = some (.func ps rs vr)) (fn : Fn) (a b : Array Value) (w : World) : (binOp .eql t (.func fn a b) .nilFunc).run P w = .ok (.bool false) w := by
  simp only [binOp]
  simp [equal_func_nil h]
theorem neq_func_nil {t : TypeId} {ps rs : Array TypeId} {vr : Bool} (h : P.underlying t = some (.func ps rs vr)) (fn : Fn) (a b : Array Value) (w : World) : (binOp .neq t (.func fn a b) .nilFunc).run P w = .ok (.bool true) w := by
  simp only [binOp]
  simp [equal_func_nil h]
theorem eql_nil_nil {t : TypeId} {ps rs : Array TypeId} {vr : Bool} (h : P.underlying t = some (.func ps rs vr)) (w : World) : (binOp .eql t .nilFunc .nilFunc).run P w = .ok (.bool true) w := by
  simp only [binOp]
  simp [equal_nil_nil h]
theorem neq_nil_nil {t : TypeId} {ps rs : Array TypeId} {vr : Bool} (h : P.underlying t = some (.func ps rs vr)) (w : World) : (binOp .neq t .nilFunc .nilFunc).run P w = .ok (.bool false) w := by
  simp only [binOp]
  simp [equal_nil_nil h]
theorem neq_map_nil {t k e : TypeId} (h : P.underlying t = some (.map k e)) (m : Option Nat) (w : World) : (binOp .neq t (.map m) (.map none)).run P w = .ok (.bool (!m.isNone)) w := Go.run_neq_map_nil w t k e m h
theorem make_func (fn : Fn) (a b : Array Value) (w : World) : (Instr.makeFunc fn a b).run P w = .ok (.func fn a b) w := rfl
end
end Go.Proofs.Ytnlhammgcemchaa
end

section
namespace Go.Proofs.Ytnlhammgcemchaa
set_option maxRecDepth 100000
set_option linter.unusedSimpArgs false
set_option linter.unusedVariables false
open Go.RowKit

/-- A slice of words: n of them, capacity c. -/
def Wds (w : World) (B : Nat) (A : Option Addr) (n c : Nat) (ws : List UInt32) : Prop := ws.length = n ∧ n ≤ c ∧ Row w B A (ws.map W32)
section
variable {w w' : World} {B B' : Nat} {A : Option Addr} {n c : Nat} {ws : List UInt32}
theorem Wds.below (h : Wds w B A n c ws) (hb : Below B w w') : Wds w' B A n c ws := ⟨h.1, h.2.1, h.2.2.below hb⟩
theorem Wds.more (h : Wds w B A n c ws) (hB : B ≤ B') : Wds w B' A n c ws := ⟨h.1, h.2.1, h.2.2.more hB⟩
theorem Wds.at_ (h : Wds w B A n c ws) {k : Nat} (hk : k < n) : ∃ b o, A = some ⟨b, o, none⟩ ∧ b < B ∧ w.cell? ⟨b, o + k, none⟩ = some (.int .u32 ((ws.getD k 0).toNat : Int)) := by
  have hl : k < ws.length := by rw [h.1]; exact hk
  obtain ⟨b, o, e, hb, hc⟩ := h.2.2.at_ (j := k) (by simpa using hl)
  exact ⟨b, o, e, hb, by rw [hc]; simp [List.getD, List.getElem?_eq_getElem hl]⟩
end
theorem wds_of_row {w : World} {a : Option Addr} {len cap : Nat} {zs : List Int}
    (h : (a = none ∧ len = 0 ∧ cap = 0 ∧ zs = []) ∨ ∃ x, a = some x ∧ len ≤ cap ∧ cap ≤ maxLen ∧ zs.length = cap ∧ (∀ i, i < zs.length → w.cell? (x.add i) = some (.int .u32 (zs.getD i 0))) ∧ ∀ n ∈ zs, (Lit.int .u32 n).wf = true) :
    ∃ ws, Wds w w.heap.size a len cap ws ∧ cap ≤ maxLen := by
  rcases h with ⟨rfl, rfl, rfl, rfl⟩ | ⟨x, rfl, hl, hm, hz, hc, hw⟩
  · exact ⟨[], ⟨rfl, Nat.le_refl _, Row.nil _ _ _⟩, Nat.zero_le _⟩
  · refine ⟨(zs.take len).map fun z => UInt32.ofNat z.toNat, ⟨by simp; omega, hl, fun hn => ?_⟩, hm⟩
    have hn' : 0 < len := by simp at hn; omega
    have hc0 := hc 0 (by omega)
    have hx0 : x.add 0 = x := by unfold Addr.add; simp
    rw [hx0] at hc0
    obtain ⟨b, o, s⟩ := x
    have hs : s = none := by
      cases s with
      | none => rfl
      | some q => simp only [World.cell?] at hc0; split at hc0 <;> simp at hc0
    subst hs
    refine ⟨b, o, rfl, World.block_lt_of_cell? w _ hc0, fun j hj => ?_⟩
    rw [List.length_map, List.length_map, List.length_take] at hj
    have hj' : j < zs.length := by omega
    have h1 := hc j hj'
    rw [add_eq] at h1
    rw [h1, List.getElem?_map, List.getElem?_map, List.getElem?_take, if_pos (by omega), List.getElem?_eq_getElem hj']
    have hb := hw zs[j] (List.getElem_mem hj')
    have hbd : 0 ≤ zs[j] ∧ zs[j] ≤ 4294967295 := by simpa [Lit.wf, IntKind.min, IntKind.max, IntKind.signed, IntKind.bits] using hb
    simp only [List.getD, List.getElem?_eq_getElem hj', Option.getD_some, Option.map_some, W32]
    congr 2
    rw [UInt32.toNat_ofNat_of_lt' (by simp only [UInt32.size]; omega)]
    omega
end Go.Proofs.Ytnlhammgcemchaa
end

section
namespace Go.Proofs.Ytnlhammgcemchaa
set_option maxRecDepth 100000
set_option linter.unusedSimpArgs false
set_option linter.unusedVariables false
open Go.RowKit

section
variable {w : World} {g gw gv n cw cv : Nat} {m : Cel.Mem} (h : MemAt w g gw gv n cw cv m)
include h

set_option maxHeartbeats 400000 in
theorem cell_Cuts : Calls Try.prog 32 #[.pointer (some ⟨g, 0, none⟩)] w fun e w' => e = .returned (.int .i64 m.cuts) ∧ w = w' := by
  have H := Lib.hid h
  have c4 := h.c4
  go_enter Try.func32, Try.ntmps32
  go_wp2_with (go_at_call 42; refine (cell_made H.out).mono ?_; rintro e w1 ⟨rfl, rfl⟩)
  go_ret
  exact ⟨rfl, rfl⟩

set_option maxHeartbeats 400000 in
theorem cell_Restore : Calls Try.prog 29 #[.pointer (some ⟨g, 0, none⟩)] w fun e w' => e = .returned (.tuple #[]) ∧ MemAt w' g gw gv n cw cv m.restore ∧ Only (MemR g gw gv) w w' := by
  have H := Lib.hid h
  have c5 := h.c5
  have c6 := h.c6
  have c7 := h.c7
  have f5 := h.fbox 5
  have f6 := h.fbox 6
  have f7 := h.fbox 7
  go_enter Try.func29, Try.ntmps29
  go_wp2_with (go_at_call 42; refine (cell_made H.out).mono ?_; rintro e w1 ⟨rfl, rfl⟩)
  go_end0
  exact ⟨rfl, ((h.setOff false).setPending false).setLeft 0, (((Only.refl _ _).setCell (.inl rfl) _).setCell (.inl rfl) _).setCell (.inl rfl) _⟩

set_option maxHeartbeats 400000 in
theorem cell_Cut (a : Int) : Calls Try.prog 28 #[.pointer (some ⟨g, 0, none⟩), .int .i64 a] w fun e w' => e = .returned (.int .i64 (m.cut a).2) ∧ MemAt w' g gw gv n cw cv (m.cut a).1 ∧ Only (MemR g gw gv) w w' := by
  have H := Lib.hid h
  have c5 := h.c5
  have c6 := h.c6
  have c7 := h.c7
  have f6 := h.fbox 6
  have f7 := h.fbox 7
  cases hm : m.off with
  | true =>
    rw [hm] at c5
    have HF := Lib.hid (show m.cut a = (m, 7) by unfold Cel.Mem.cut; rw [if_pos hm])
    go_enter Try.func28, Try.ntmps28
    go_wp2_with (go_at_call 42; refine (cell_made H.out).mono ?_; rintro e w1 ⟨rfl, rfl⟩)
    go_ret
    rw [HF.out]
    exact ⟨rfl, h, Only.refl _ _⟩
  | false =>
    rw [hm] at c5
    by_cases ha : a < 0
    · have HF := Lib.hid (show m.cut a = (m, 2) by unfold Cel.Mem.cut; rw [if_neg (by rw [hm]; decide), if_pos ha])
      go_enter Try.func28, Try.ntmps28
      go_wp2_with (go_at_call 42; refine (cell_made H.out).mono ?_; rintro e w1 ⟨rfl, rfl⟩)
      go_ret
      rw [HF.out]
      exact ⟨rfl, h, Only.refl _ _⟩
    · have HF := Lib.hid (show m.cut a = ({ m with pending := true, left := a }, 0) by unfold Cel.Mem.cut; rw [if_neg (by rw [hm]; decide), if_neg ha])
      go_enter Try.func28, Try.ntmps28
      go_wp2_with (go_at_call 42; refine (cell_made H.out).mono ?_; rintro e w1 ⟨rfl, rfl⟩)
      go_ret
      rw [HF.out]
      exact ⟨rfl, (h.setPending true).setLeft a, ((Only.refl _ _).setCell (.inl rfl) _).setCell (.inl rfl) _⟩

set_option maxRecDepth 100000 in
set_option maxHeartbeats 1000000 in
theorem cell_Flip (a b : Int) : Calls Try.prog 27 #[.pointer (some ⟨g, 0, none⟩), .int .i64 a, .int .i64 b] w fun e w' => e = .returned (.int .i64 (m.flip a b).2) ∧ MemAt w' g gw gv n cw cv (m.flip a b).1 ∧ Only (MemR g gw gv) w w' := by
  have H := Lib.hid h
  have c0 := h.c0
  by_cases hc : m.has a = true ∧ 0 ≤ b ∧ b < 32
  · obtain ⟨ha, hb0, hb1⟩ := hc
    have HF := Lib.hid (show m.flip a b = ({ m with words := m.words.set a.toNat (m.words.getD a.toNat 0 ^^^ Cel.bit b.toNat) }, 0) by unfold Cel.Mem.flip; rw [if_pos ⟨ha, hb0, hb1⟩])
    have hb := (m.has_iff a).1 ha
    rw [h.len] at hb
    obtain ⟨i, rfl⟩ := Int.eq_ofNat_of_zero_le hb.1
    obtain ⟨j, rfl⟩ := Int.eq_ofNat_of_zero_le hb0
    have hi : i < n := by omega
    have ci := h.word hi
    have fi := h.fword hi
    have hbz := hb.2
    have j32 : j % 32 = j := by omega
    have hfl := flip_eq (m.words.getD i 0) j
    rw [j32] at hfl
    have HFL := Lib.hid hfl
    generalize hx : m.words.getD i 0 = x at *
    have Hx := Lib.hid hx
    clear j32 hfl hx
    go_enter Try.func27, Try.ntmps27
    go_wp2_with (first
      | (go_at_call 42; refine (cell_made H.out).mono ?_; rintro e w1 ⟨rfl, rfl⟩)
      | (go_at_call 43; refine (cell_has H.out _).mono ?_; rintro e w1 ⟨rfl, rfl⟩; rw [ha]))
    have p0 : (0 : Int) ≤ (i : Int) := by omega
    have p1 : (i : Int) < (n : Int) := by omega
    have q0 : (0 : Int) ≤ (j : Int) := by omega
    have q1 : (j : Int) ≤ 32 := by omega
    refine wp_region_quiet_tail 11 (by kernel_rfl) (by kernel_rfl) ?_
    simp only [List.take_succ_cons, List.take_zero]
    repeat (go_big_quiet_step (fail))
    refine wpQuiet_nil ?_
    rintro _ ⟨nq, rfl⟩
    simp only [List.drop_succ_cons, List.drop_zero]
    go_wp2_with fail
    go_ret
    rw [HF.out]
    refine ⟨rfl, ?_⟩
    rw [HFL.out, Int.toNat_natCast, Int.toNat_natCast, Hx.out]
    exact ⟨(h.drewN nq).setWord hi _, (Only.drewN (Only.refl _ _) nq).setCell (.inr (.inl rfl)) _⟩
  · have HF := Lib.hid (show m.flip a b = (m, 2) by unfold Cel.Mem.flip; rw [if_neg hc])
    cases ha : m.has a with
    | false =>
      go_enter Try.func27, Try.ntmps27
      go_wp2_with (first
        | (go_at_call 42; refine (cell_made H.out).mono ?_; rintro e w1 ⟨rfl, rfl⟩)
        | (go_at_call 43; refine (cell_has H.out _).mono ?_; rintro e w1 ⟨rfl, rfl⟩; rw [ha]))
      go_ret
      rw [HF.out]
      exact ⟨rfl, h, Only.refl _ _⟩
    | true =>
      have hb : b < 0 ∨ (¬ b < 0 ∧ 32 ≤ b) := by
        by_cases h1 : b < 0
        · exact .inl h1
        · exact .inr ⟨h1, Int.not_lt.1 fun h2 => hc ⟨ha, by omega, h2⟩⟩
      clear hc
      rcases hb with hb | ⟨hb, hb'⟩
      all_goals
        go_enter Try.func27, Try.ntmps27
        go_wp2_with (first
          | (go_at_call 42; refine (cell_made H.out).mono ?_; rintro e w1 ⟨rfl, rfl⟩)
          | (go_at_call 43; refine (cell_has H.out _).mono ?_; rintro e w1 ⟨rfl, rfl⟩; rw [ha]))
        go_ret
        rw [HF.out]
        exact ⟨rfl, h, Only.refl _ _⟩

end
end Go.Proofs.Ytnlhammgcemchaa
end

section
namespace Go.Proofs.Ytnlhammgcemchaa
set_option maxRecDepth 100000
set_option linter.unusedSimpArgs false
set_option linter.unusedVariables false
open Go.RowKit

/-- No memory: nil, or a block without words. -/
def Nought (w : World) (p : Option Addr) : Prop := p = none ∨ ∃ g, p = some ⟨g, 0, none⟩ ∧ g < w.heap.size ∧ w.cell? ⟨g, 0, none⟩ = some (.slice none 0 0)
theorem Nought.below {w w' : World} {p : Option Addr} (h : Nought w p) (hb : Below w.heap.size w w') : Nought w' p := by
  rcases h with rfl | ⟨g, rfl, hg, hc⟩
  · exact .inl rfl
  · exact .inr ⟨g, rfl, Nat.lt_of_lt_of_le hg hb.size, (hb.cell (p := ⟨g, 0, none⟩) hg).trans hc⟩

section
variable {w : World} {p : Option Addr} (h : Nought w p)
include h

set_option maxHeartbeats 400000 in
theorem noCell_made : Calls Try.prog 42 #[.pointer p] w fun e w' => e = .returned (.bool false) ∧ w = w' := by
  rcases h with rfl | ⟨g, rfl, hg, hc⟩
  all_goals
    go_enter Try.func42, Try.ntmps42
    go_wp2_with fail
    go_ret
    exact ⟨rfl, rfl⟩

set_option maxHeartbeats 400000 in
theorem noCell_Words : Calls Try.prog 30 #[.pointer p] w fun e w' => e = .returned (.int .i64 0) ∧ w = w' := by
  have H := Lib.hid h
  go_enter Try.func30, Try.ntmps30
  go_wp2_with (first
    | (go_at_call 42; refine (noCell_made H.out).mono ?_; rintro e w1 ⟨rfl, rfl⟩))
  go_ret
  exact ⟨rfl, rfl⟩

set_option maxHeartbeats 400000 in
theorem noCell_has (a : Int) : Calls Try.prog 43 #[.pointer p, .int .i64 a] w fun e w' => e = .returned (.bool false) ∧ w = w' := by
  have H := Lib.hid h
  by_cases h0 : 0 ≤ a
  · go_enter Try.func43, Try.ntmps43
    go_wp2_with (go_at_call 30; refine (noCell_Words H.out).mono ?_; rintro e w1 ⟨rfl, rfl⟩)
    go_ret
    exact ⟨by simpa using h0, rfl⟩
  · go_enter Try.func43, Try.ntmps43
    go_wp2_with (go_at_call 30; refine (noCell_Words H.out).mono ?_; rintro e w1 ⟨rfl, rfl⟩)
    go_ret
    exact ⟨rfl, rfl⟩

set_option maxHeartbeats 400000 in
theorem noCell_access (a : Int) : Calls Try.prog 61 #[.pointer p, .int .i64 a] w fun e w' => e = .returned (.int .i64 31) ∧ w = w' := by
  have H := Lib.hid h
  go_enter Try.func61, Try.ntmps61
  go_wp2_with (first
    | (go_at_call 42; refine (noCell_made H.out).mono ?_; rintro e w1 ⟨rfl, rfl⟩))
  go_ret
  exact ⟨rfl, rfl⟩

set_option maxHeartbeats 400000 in
theorem noCell_Read (a : Int) : Calls Try.prog 62 #[.pointer p, .int .i64 a] w fun e w' => e = .returned (.tuple #[.int .u32 0, .int .i64 31]) ∧ w = w' := by
  have H := Lib.hid h
  go_enter Try.func62, Try.ntmps62
  go_wp2_with (first
    | (go_at_call 61; refine (noCell_access H.out a).mono ?_; rintro e w1 ⟨rfl, rfl⟩))
  go_ret2
  exact ⟨rfl, rfl⟩

set_option maxHeartbeats 400000 in
theorem noCell_Write (a : Int) (v : Int) : Calls Try.prog 52 #[.pointer p, .int .i64 a, .int .u32 v] w fun e w' => e = .returned (.int .i64 31) ∧ w = w' := by
  have H := Lib.hid h
  go_enter Try.func52, Try.ntmps52
  go_wp2_with (first
    | (go_at_call 61; refine (noCell_access H.out a).mono ?_; rintro e w1 ⟨rfl, rfl⟩))
  go_ret
  exact ⟨rfl, rfl⟩

set_option maxHeartbeats 400000 in
theorem noCell_Cut (a : Int) : Calls Try.prog 28 #[.pointer p, .int .i64 a] w fun e w' => e = .returned (.int .i64 31) ∧ w = w' := by
  have H := Lib.hid h
  go_enter Try.func28, Try.ntmps28
  go_wp2_with (first
    | (go_at_call 42; refine (noCell_made H.out).mono ?_; rintro e w1 ⟨rfl, rfl⟩))
  go_ret
  exact ⟨rfl, rfl⟩

set_option maxHeartbeats 400000 in
theorem noCell_Flip (a : Int) (b : Int) : Calls Try.prog 27 #[.pointer p, .int .i64 a, .int .i64 b] w fun e w' => e = .returned (.int .i64 31) ∧ w = w' := by
  have H := Lib.hid h
  go_enter Try.func27, Try.ntmps27
  go_wp2_with (first
    | (go_at_call 42; refine (noCell_made H.out).mono ?_; rintro e w1 ⟨rfl, rfl⟩))
  go_ret
  exact ⟨rfl, rfl⟩

set_option maxHeartbeats 400000 in
theorem noCell_Restore : Calls Try.prog 29 #[.pointer p] w fun e w' => e = .returned (.tuple #[]) ∧ w = w' := by
  have H := Lib.hid h
  go_enter Try.func29, Try.ntmps29
  go_wp2_with (first
    | (go_at_call 42; refine (noCell_made H.out).mono ?_; rintro e w1 ⟨rfl, rfl⟩))
  go_end0
  exact ⟨rfl, rfl⟩

set_option maxHeartbeats 400000 in
theorem noCell_Power : Calls Try.prog 31 #[.pointer p] w fun e w' => e = .returned (.bool false) ∧ w = w' := by
  have H := Lib.hid h
  go_enter Try.func31, Try.ntmps31
  go_wp2_with (first
    | (go_at_call 42; refine (noCell_made H.out).mono ?_; rintro e w1 ⟨rfl, rfl⟩))
  go_ret
  exact ⟨rfl, rfl⟩

set_option maxHeartbeats 400000 in
theorem noCell_Writes : Calls Try.prog 23 #[.pointer p] w fun e w' => e = .returned (.int .i64 0) ∧ w = w' := by
  have H := Lib.hid h
  go_enter Try.func23, Try.ntmps23
  go_wp2_with (first
    | (go_at_call 42; refine (noCell_made H.out).mono ?_; rintro e w1 ⟨rfl, rfl⟩))
  go_ret
  exact ⟨rfl, rfl⟩

set_option maxHeartbeats 400000 in
theorem noCell_Cuts : Calls Try.prog 32 #[.pointer p] w fun e w' => e = .returned (.int .i64 0) ∧ w = w' := by
  have H := Lib.hid h
  go_enter Try.func32, Try.ntmps32
  go_wp2_with (first
    | (go_at_call 42; refine (noCell_made H.out).mono ?_; rintro e w1 ⟨rfl, rfl⟩))
  go_ret
  exact ⟨rfl, rfl⟩

set_option maxHeartbeats 400000 in
theorem noCell_Wear (a : Int) : Calls Try.prog 26 #[.pointer p, .int .i64 a] w fun e w' => e = .returned (.int .i64 0) ∧ w = w' := by
  have H := Lib.hid h
  go_enter Try.func26, Try.ntmps26
  go_wp2_with (first
    | (go_at_call 43; refine (noCell_has H.out a).mono ?_; rintro e w1 ⟨rfl, rfl⟩))
  go_ret
  exact ⟨rfl, rfl⟩

end

end Go.Proofs.Ytnlhammgcemchaa
end

section
namespace Go.Proofs.Ytnlhammgcemchaa
set_option maxRecDepth 100000
set_option linter.unusedSimpArgs false
set_option linter.unusedVariables false
open Go.RowKit

theorem ecc_shr (w p : Nat) (hw : w < 4294967296) : bits BinOp.and IntKind.u32 ((w : Int) / 2 ^ p) 1 = ((Ecc.bit w p : Nat) : Int) := by
  have e : (w : Int) / 2 ^ p = ((w / 2 ^ p : Nat) : Int) := by simp
  have h1 : w / 2 ^ p < 4294967296 := Nat.lt_of_le_of_lt (Nat.div_le_self _ _) hw
  rw [e, show (1 : Int) = ((1 : Nat) : Int) from rfl, u32_and_nat _ _ h1 (by omega), nat_mask1]; rfl
theorem ofInt_i64 (a : Nat) (ha : a < 9223372036854775808) : (BitVec.ofInt 64 (a : Int)).toNat = a := by
  rw [BitVec.ofInt_natCast, BitVec.toNat_ofNat]; exact Nat.mod_eq_of_lt (by omega)
theorem i64_and_nat (a b : Nat) (ha : a < 9223372036854775808) (hb : b < 9223372036854775808) : bits .and .i64 (a : Int) (b : Int) = ((a &&& b : Nat) : Int) := by
  have hx : a &&& b < 2 ^ 63 := Nat.and_lt_two_pow _ (by omega)
  show IntKind.i64.wrap ((BitVec.ofInt 64 (a : Int) &&& BitVec.ofInt 64 (b : Int)).toNat : Int) = _
  rw [BitVec.toNat_and, ofInt_i64 a ha, ofInt_i64 b hb, IntKind.wrap_i64]
  omega
theorem i64_or_nat (a b : Nat) (ha : a < 9223372036854775808) (hb : b < 9223372036854775808) : bits .or .i64 (a : Int) (b : Int) = ((a ||| b : Nat) : Int) := by
  have hx : a ||| b < 2 ^ 63 := Nat.or_lt_two_pow (by omega) (by omega)
  show IntKind.i64.wrap ((BitVec.ofInt 64 (a : Int) ||| BitVec.ofInt 64 (b : Int)).toNat : Int) = _
  rw [BitVec.toNat_or, ofInt_i64 a ha, ofInt_i64 b hb, IntKind.wrap_i64]
  omega
theorem i64_xor_nat (a b : Nat) (ha : a < 9223372036854775808) (hb : b < 9223372036854775808) : bits .xor .i64 (a : Int) (b : Int) = ((a ^^^ b : Nat) : Int) := by
  have hx : a ^^^ b < 2 ^ 63 := Nat.xor_lt_two_pow (by omega) (by omega)
  show IntKind.i64.wrap ((BitVec.ofInt 64 (a : Int) ^^^ BitVec.ofInt 64 (b : Int)).toNat : Int) = _
  rw [BitVec.toNat_xor, ofInt_i64 a ha, ofInt_i64 b hb, IntKind.wrap_i64]
  omega
theorem ecc_xor (a b : Nat) (ha : a < 64) (hb : b < 64) : bits BinOp.xor IntKind.i64 (a : Int) (b : Int) = ((a ^^^ b : Nat) : Int) := i64_xor_nat a b (by omega) (by omega)

set_option maxHeartbeats 400000 in
theorem ecc_syndrome (x : Nat) (w : World) (hx : x < 4294967296) :
    Calls Try.prog 75 #[.int .u32 (x : Int)] w fun e w' => e = .returned (.int .i64 (Ecc.syn x : Nat)) ∧ w = w' := by
  go_enter Try.func75, Try.ntmps75
  go_wp2_with fail
  go_loopg [3, 4] 31 (fun g s p wr => ∃ k : Nat, k + g = 31 ∧ p = .int .i64 (k + 1 : Nat) ∧ s = .int .i64 (Ecc.synK x k : Nat) ∧ w = wr)
  case atStart => exact ⟨0, by omega, rfl, rfl, rfl⟩
  case round =>
    obtain ⟨k, hk, rfl, rfl, rfl⟩ := hrel
    cases gk with
    | zero =>
      obtain rfl : k = 31 := by omega
      go_wp2_with fail
      go_ret
      exact ⟨rfl, rfl⟩
    | succ g =>
      have hb := ecc_shr x (k + 1) hx
      have i0 : ((k : Nat) : Int) + 1 < 32 := by omega
      have hs := Lib.hid (Ecc.synK_succ x k)
      have hl := Ecc.synK_lt x k (by omega)
      rcases (show Ecc.bit x (k + 1) = 0 ∨ Ecc.bit x (k + 1) = 1 by have := Ecc.bit_lt x (k + 1); omega) with h | h
      · have h2 : (bits BinOp.and IntKind.u32 ((x : Int) / 2 ^ (k + 1)) 1 == 1) = false := by rw [hb, h]; rfl
        have H := Lib.hid h
        clear h hb
        go_wp2_with fail
        go_roundg g
        case measure => omega
        case rel => exact ⟨k + 1, by omega, by go_num, by rw [hs.out, show Ecc.sel x (k + 1) = 0 by simp [Ecc.sel, H.out], Nat.xor_zero], rfl⟩
      · have h2 : (bits BinOp.and IntKind.u32 ((x : Int) / 2 ^ (k + 1)) 1 == 1) = true := by rw [hb, h]; rfl
        have H := Lib.hid h
        have h3 := ecc_xor (Ecc.synK x k) (k + 1) (by omega) (by omega)
        have H3 := Lib.hid h3
        clear h hb h3
        go_wp2_with fail
        go_roundg g
        case measure => omega
        case rel => exact ⟨k + 1, by omega, by go_num, by rw [hs.out, show Ecc.sel x (k + 1) = k + 1 by simp [Ecc.sel, H.out], ← H3.out]; rfl, rfl⟩

theorem u32_byte (y : Nat) (hy : y < 4294967296) : bits BinOp.and IntKind.u32 (y : Int) 255 = (y : Int) % 256 := by
  rw [show (255 : Int) = ((255 : Nat) : Int) from rfl, u32_and_nat _ _ hy (by omega), nat_mask8]; omega
theorem pop8_small : ∀ n : Fin 256, Lib.pop8 (n.val : Int) = (Ecc.onesK n.val 8 : Int) := by decide +kernel
theorem pop8_ones (i : Int) (n : Nat) (h : i = (n : Int)) (hn : n < 256) : Lib.pop8 i = (Ecc.onesK n 8 : Int) := by subst h; exact pop8_small ⟨n, hn⟩
theorem bit_div (x a b : Nat) : Ecc.bit (x / 2 ^ a) b = Ecc.bit x (a + b) := by unfold Ecc.bit; rw [Nat.div_div_eq_div_mul, ← Nat.pow_add]
theorem bit_mod (x b : Nat) (h : b < 8) : Ecc.bit (x % 256) b = Ecc.bit x b := by
  rw [Ecc.bit_test, Ecc.bit_test, show (256 : Nat) = 2 ^ 8 from rfl, Nat.testBit_mod_two_pow]; simp [h]
theorem ones_eight (x : Nat) (a k : Nat) (h : k ≤ 8) : Ecc.onesK x (a + k) = Ecc.onesK x a + Ecc.onesK (x / 2 ^ a % 256) k := by
  induction k with
  | zero => rfl
  | succ k ih => rw [← Nat.add_assoc, Ecc.onesK_succ, Ecc.onesK_succ, ih (by omega), bit_mod _ _ (by omega), bit_div]; omega
theorem ones_split (x : Nat) : Ecc.ones x = Ecc.onesK (x % 256) 8 + Ecc.onesK (x / 256 % 256) 8 + Ecc.onesK (x / 65536 % 256) 8 + Ecc.onesK (x / 16777216 % 256) 8 := by
  unfold Ecc.ones
  rw [ones_eight x 24 8 (by omega), ones_eight x 16 8 (by omega), ones_eight x 8 8 (by omega), show (8 : Nat) = 0 + 8 from rfl, ones_eight x 0 8 (by omega)]
  simp [Ecc.onesK]

set_option maxRecDepth 100000 in
set_option maxHeartbeats 400000 in
theorem ecc_ones (x : Nat) (w : World) (hx : x < 4294967296) :
    Calls Try.prog 76 #[.int .u32 (x : Int)] w fun e w' => e = .returned (.int .i64 (Ecc.ones x : Nat)) ∧ ∃ k, w' = w.drewN k := by
  have j1 : 0 ≤ (x : Int) / 16777216 := by omega
  have j2 : (x : Int) / 16777216 ≤ 255 := by omega
  have j3 : bits BinOp.and IntKind.u32 ((x : Int) / 65536) 255 = (x : Int) / 65536 % 256 := u32_byte (x / 65536) (by omega)
  have j4 : bits BinOp.and IntKind.u32 ((x : Int) / 256) 255 = (x : Int) / 256 % 256 := u32_byte (x / 256) (by omega)
  have j5 : bits BinOp.and IntKind.u32 (x : Int) 255 = (x : Int) % 256 := u32_byte x (by omega)
  have HF : Hid (Ecc.ones x ≤ 32) := Lib.hid (Ecc.onesK_le x 32)
  go_enter Try.func76, Try.ntmps76
  go_wp2_with fail
  simp only [List.append_eq, List.cons_append, List.nil_append, Lib.fold_pop8tab]
  go_quiet (fail)
  clear j3 j4 j5
  go_wp2_with fail
  go_ret
  refine ⟨ret_int ?_, _, rfl⟩
  rw [pop8_ones ((x : Int) / 16777216) (x / 16777216 % 256) (by omega) (by omega), pop8_ones ((x : Int) / 65536 % 256) (x / 65536 % 256) (by omega) (by omega), pop8_ones ((x : Int) / 256 % 256) (x / 256 % 256) (by omega) (by omega), pop8_ones ((x : Int) % 256) (x % 256) (by omega) (by omega)]
  have := HF.out
  rw [ones_split] at this ⊢
  omega

/-- The array of the places when k of them are there. -/
def parr (k : Nat) : Array Value := ((List.range 24).map fun j => Value.int .i64 (if j < k then (Ecc.posAt j : Int) else 0)).toArray
theorem parr_size (k : Nat) : (parr k).size = 24 := by simp [parr]
theorem parr_one (k : Nat) : (parr k).all (·.oneCell') = true := by simp [parr, Value.oneCell']
theorem parr_set (k : Nat) : (parr k).setIfInBounds k (.int .i64 (Ecc.posAt k : Int)) = parr (k + 1) := by
  apply Array.ext_getElem?
  intro i
  simp only [parr, List.setIfInBounds_toArray, List.getElem?_toArray, List.getElem?_set, List.getElem?_map, List.length_map, List.length_range]
  by_cases hi : i < 24
  · rw [List.getElem?_range hi]
    by_cases e : k = i
    · subst e; simp [hi]
    · by_cases h : i < k
      · simp [e, h, show i < k + 1 by omega]
      · simp [e, h, show ¬ i < k + 1 by omega]
  · rw [List.getElem?_eq_none (by simp; omega)]
    by_cases e : k = i
    · subst e; simp [hi]
    · simp [e]
/-- How many places lie below p. -/
def cnt (p : Nat) : Nat := (Ecc.pos.filter (· < p)).length
def chkPow (c : Nat) : Prop := c = 1 ∨ c = 2 ∨ c = 4 ∨ c = 8 ∨ c = 16 ∨ c = 32
theorem cnt_le (p : Nat) : cnt p ≤ 24 := List.length_filter_le _ _
theorem cnt_lt : ∀ p, p < 30 → cnt p < 24 := by decide +kernel
theorem cnt_chk : ∀ p, p < 30 → (p = 4 ∨ p = 8 ∨ p = 16) → cnt (p + 1) = cnt p := by decide +kernel
theorem cnt_pos : ∀ p, p < 30 → 3 ≤ p → ¬ (p = 4 ∨ p = 8 ∨ p = 16) → cnt (p + 1) = cnt p + 1 ∧ Ecc.posAt (cnt p) = p := by decide +kernel

set_option maxRecDepth 100000 in
set_option maxHeartbeats 1000000 in
theorem ecc_positions (w : World) :
    Calls Try.prog 74 #[] w fun e w' => e = .returned (.agg (parr 24)) ∧ Below w.heap.size w w' := by
  have hsz : (Try.prog.info? 114).map (·.size) = some 24 := by kernel_rfl
  go_enter Try.func74, Try.ntmps74
  go_wp2_with fail
  go_step3
  go_wp2_with fail
  go_step3
  go_wp2_with fail
  go_loopg [2, 3, 4] 27 (fun g n p c wr => ∃ (k : Nat) (c' : Nat), k + g = 30 ∧ 3 ≤ k ∧ p = .int .i64 k ∧ n = .int .i64 (cnt k : Nat) ∧ Blk wr w.heap.size 114 (parr 0) ∧ Blk wr (w.heap.size + 1) 114 (parr (cnt k)) ∧ Below w.heap.size w wr)
  case atStart => exact ⟨3, 0, by omega, by omega, rfl, rfl, (Blk.new' _ rfl rfl).alloc _, Blk.new' _ (by simp) rfl, ((Below.refl _ _).alloc (Nat.le_refl _) _).alloc (by simp) _⟩
  case round =>
    obtain ⟨k, c', hk, hk3, rfl, rfl, hb1, hb2, hbel⟩ := hrel
    cases gk with
    | zero =>
      obtain rfl : k = 30 := by omega
      have e30 : cnt 30 = 24 := by decide +kernel
      rw [e30] at hb2 ⊢
      clear e30
      have hss : (parr 0).size = (parr 24).size := by rw [parr_size, parr_size]
      have hone := parr_one 24
      go_wp2_with (first
        | ((with_reducible show wpList _ _ _ (Oper.mk _ (Op.load 114 (Operand.tmp 1)) _ _ _ _ :: _) _ _); refine wpList_load_row rfl 114 (.tmp 1) rfl (w.heap.size + 1) rfl 114 (parr 24) (0, 0) _ hb2 Try.underlying114 rfl hsz ?_)
        | ((with_reducible show wpList _ _ _ (Oper.mk _ (Op.store 114 (Operand.tmp 0) (Operand.tmp 21)) _ _ _ _ :: _) _ _); refine wpList_store_row rfl 114 (.tmp 0) (.tmp 21) rfl w.heap.size (parr 24) rfl rfl 114 (parr 0) hb1 hsz hss hone ?_))
      have hb3 := hb1.setRow (parr 24)
      try rw [Exit.noGoto_ret]
      refine bodyPost_ret (v := .agg (parr 24)) (results_cell_row rfl _ _ w.heap.size 114 _ (0, 0) _ rfl hb3 Try.underlying114 rfl (by kernel_rfl)) rfl ⟨rfl, Below.setRow hbel (Nat.le_refl _) _⟩
    | succ g =>
      have hlt := cnt_lt k (by omega)
      have i0 : ((cnt k : Nat) : Int) < 24 := by omega
      go_wp2_with fail
      go_loopg [4] 6 (fun g2 c wx => ∃ c' : Nat, c = .int .i64 c' ∧ Hid (chkPow c') ∧ Hid ((k = 4 ∨ k = 8 ∨ k = 16) → c' ≤ k) ∧ 64 ≤ c' * 2 ^ g2 ∧ c' ≤ 32 ∧ wr = wx)
      case atStart => exact ⟨1, rfl, Lib.hid (.inl rfl), Lib.hid (by omega), by omega, by omega, rfl⟩
      case round =>
        obtain ⟨c', rfl, HP, HK, hc2, hc32, rfl⟩ := hrel
        by_cases h32 : c' < 32
        · have hg : 0 < gk := by
            rcases Nat.eq_zero_or_pos gk with rfl | h
            · simp at hc2; omega
            · exact h
          obtain ⟨g2, rfl⟩ : ∃ g2, gk = g2 + 1 := ⟨gk - 1, by omega⟩
          have hc3 : 64 ≤ c' * 2 * 2 ^ g2 := by rw [Nat.pow_succ] at hc2; rw [Nat.mul_assoc, Nat.mul_comm 2]; exact hc2
          have HC := Lib.hid hc3
          clear hc2 hc3
          by_cases he : k = c'
          · have hchk : k = 4 ∨ k = 8 ∨ k = 16 := by have := HP.out; unfold chkPow at this; omega
            have e1 := Lib.hid (cnt_chk k (by omega) hchk)
            have t1 : ((k : Int) == (c' : Int)) = true := by simp [he]
            have HE := Lib.hid he
            clear he hchk
            go_wp2_with fail
            go_roundg g
            case measure => omega
            case rel => exact ⟨k + 1, 0, by omega, by omega, by go_num, by rw [e1.out], hb1, by rw [e1.out]; exact hb2, hbel⟩
          · have t1 : ((k : Int) == (c' : Int)) = false := by simp; omega
            have HE := Lib.hid he
            clear he
            go_wp2_with fail
            go_roundg g2
            case measure => omega
            case rel => exact ⟨c' * 2, by go_num, Lib.hid (by have := HP.out; unfold chkPow at *; omega), Lib.hid (by intro h; have h1 := HK.out h; have h2 := HP.out; have h3 := HE.out; unfold chkPow at h2; omega), HC.out, by have := HP.out; unfold chkPow at this; omega, rfl⟩
        · have hn : ¬ (k = 4 ∨ k = 8 ∨ k = 16) := fun h => by have := HK.out h; omega
          obtain ⟨e1, e2⟩ := cnt_pos k (by omega) hk3 hn
          have E1 := Lib.hid e1
          have E2 := Lib.hid e2
          have hf := hb2.frozen (cnt k)
          obtain ⟨v0, hcl⟩ := hb2.has (cnt k) (by rw [parr_size]; omega)
          clear e1 e2 hn
          go_wp2_with fail
          go_roundg g
          case measure => omega
          case rel =>
            refine ⟨k + 1, 0, by omega, by omega, by go_num, by rw [E1.out]; go_num, hb1.far (by simp) _, ?_, hbel.setCell (by simp) _⟩
            rw [E1.out, ← parr_set]
            have := hb2.set (cnt k) (.int .i64 (k : Int))
            rw [E2.out]
            exact this
end Go.Proofs.Ytnlhammgcemchaa
end

section
namespace Go.Proofs.Ytnlhammgcemchaa
set_option maxRecDepth 100000
set_option linter.unusedSimpArgs false
set_option linter.unusedVariables false
open Go.RowKit

theorem parr_index (k : Nat) (hk : k < 24) (u : World) : (Instr.index 114 (.agg (parr 24)) (.int .i64 (k : Int))).run Try.prog u = .ok (.int .i64 (Ecc.posAt k : Int)) u := by
  match k, hk with
  | 0, _ => exact (by kernel_rfl : (Instr.index 114 (.agg (parr 24)) (.int .i64 ((0 : Nat) : Int))).run Try.prog u = .ok (.int .i64 (Ecc.posAt 0 : Int)) u)
  | 1, _ => exact (by kernel_rfl : (Instr.index 114 (.agg (parr 24)) (.int .i64 ((1 : Nat) : Int))).run Try.prog u = .ok (.int .i64 (Ecc.posAt 1 : Int)) u)
  | 2, _ => exact (by kernel_rfl : (Instr.index 114 (.agg (parr 24)) (.int .i64 ((2 : Nat) : Int))).run Try.prog u = .ok (.int .i64 (Ecc.posAt 2 : Int)) u)
  | 3, _ => exact (by kernel_rfl : (Instr.index 114 (.agg (parr 24)) (.int .i64 ((3 : Nat) : Int))).run Try.prog u = .ok (.int .i64 (Ecc.posAt 3 : Int)) u)
  | 4, _ => exact (by kernel_rfl : (Instr.index 114 (.agg (parr 24)) (.int .i64 ((4 : Nat) : Int))).run Try.prog u = .ok (.int .i64 (Ecc.posAt 4 : Int)) u)
  | 5, _ => exact (by kernel_rfl : (Instr.index 114 (.agg (parr 24)) (.int .i64 ((5 : Nat) : Int))).run Try.prog u = .ok (.int .i64 (Ecc.posAt 5 : Int)) u)
  | 6, _ => exact (by kernel_rfl : (Instr.index 114 (.agg (parr 24)) (.int .i64 ((6 : Nat) : Int))).run Try.prog u = .ok (.int .i64 (Ecc.posAt 6 : Int)) u)
  | 7, _ => exact (by kernel_rfl : (Instr.index 114 (.agg (parr 24)) (.int .i64 ((7 : Nat) : Int))).run Try.prog u = .ok (.int .i64 (Ecc.posAt 7 : Int)) u)
  | 8, _ => exact (by kernel_rfl : (Instr.index 114 (.agg (parr 24)) (.int .i64 ((8 : Nat) : Int))).run Try.prog u = .ok (.int .i64 (Ecc.posAt 8 : Int)) u)
  | 9, _ => exact (by kernel_rfl : (Instr.index 114 (.agg (parr 24)) (.int .i64 ((9 : Nat) : Int))).run Try.prog u = .ok (.int .i64 (Ecc.posAt 9 : Int)) u)
  | 10, _ => exact (by kernel_rfl : (Instr.index 114 (.agg (parr 24)) (.int .i64 ((10 : Nat) : Int))).run Try.prog u = .ok (.int .i64 (Ecc.posAt 10 : Int)) u)
  | 11, _ => exact (by kernel_rfl : (Instr.index 114 (.agg (parr 24)) (.int .i64 ((11 : Nat) : Int))).run Try.prog u = .ok (.int .i64 (Ecc.posAt 11 : Int)) u)
  | 12, _ => exact (by kernel_rfl : (Instr.index 114 (.agg (parr 24)) (.int .i64 ((12 : Nat) : Int))).run Try.prog u = .ok (.int .i64 (Ecc.posAt 12 : Int)) u)
  | 13, _ => exact (by kernel_rfl : (Instr.index 114 (.agg (parr 24)) (.int .i64 ((13 : Nat) : Int))).run Try.prog u = .ok (.int .i64 (Ecc.posAt 13 : Int)) u)
  | 14, _ => exact (by kernel_rfl : (Instr.index 114 (.agg (parr 24)) (.int .i64 ((14 : Nat) : Int))).run Try.prog u = .ok (.int .i64 (Ecc.posAt 14 : Int)) u)
  | 15, _ => exact (by kernel_rfl : (Instr.index 114 (.agg (parr 24)) (.int .i64 ((15 : Nat) : Int))).run Try.prog u = .ok (.int .i64 (Ecc.posAt 15 : Int)) u)
  | 16, _ => exact (by kernel_rfl : (Instr.index 114 (.agg (parr 24)) (.int .i64 ((16 : Nat) : Int))).run Try.prog u = .ok (.int .i64 (Ecc.posAt 16 : Int)) u)
  | 17, _ => exact (by kernel_rfl : (Instr.index 114 (.agg (parr 24)) (.int .i64 ((17 : Nat) : Int))).run Try.prog u = .ok (.int .i64 (Ecc.posAt 17 : Int)) u)
  | 18, _ => exact (by kernel_rfl : (Instr.index 114 (.agg (parr 24)) (.int .i64 ((18 : Nat) : Int))).run Try.prog u = .ok (.int .i64 (Ecc.posAt 18 : Int)) u)
  | 19, _ => exact (by kernel_rfl : (Instr.index 114 (.agg (parr 24)) (.int .i64 ((19 : Nat) : Int))).run Try.prog u = .ok (.int .i64 (Ecc.posAt 19 : Int)) u)
  | 20, _ => exact (by kernel_rfl : (Instr.index 114 (.agg (parr 24)) (.int .i64 ((20 : Nat) : Int))).run Try.prog u = .ok (.int .i64 (Ecc.posAt 20 : Int)) u)
  | 21, _ => exact (by kernel_rfl : (Instr.index 114 (.agg (parr 24)) (.int .i64 ((21 : Nat) : Int))).run Try.prog u = .ok (.int .i64 (Ecc.posAt 21 : Int)) u)
  | 22, _ => exact (by kernel_rfl : (Instr.index 114 (.agg (parr 24)) (.int .i64 ((22 : Nat) : Int))).run Try.prog u = .ok (.int .i64 (Ecc.posAt 22 : Int)) u)
  | 23, _ => exact (by kernel_rfl : (Instr.index 114 (.agg (parr 24)) (.int .i64 ((23 : Nat) : Int))).run Try.prog u = .ok (.int .i64 (Ecc.posAt 23 : Int)) u)
  | n + 24, h => omega
theorem posAt_lt (k : Nat) : Ecc.posAt k < 30 := by
  rcases Nat.lt_or_ge k 24 with h | h
  · have : ∀ k, k < 24 → Ecc.posAt k < 30 := by decide +kernel
    exact this k h
  · unfold Ecc.posAt; simp [List.getD, List.getElem?_eq_none (show Ecc.pos.length ≤ k from h)]

theorem pow_small (k m : Nat) (h : k ≤ m) : 2 ^ k ≤ 2 ^ m := Nat.pow_le_pow_right (by omega) h
theorem bit_mul (x k p m : Nat) (h : k ≤ m) : Ecc.bit x p * 2 ^ k ≤ 2 ^ m := by
  have := Ecc.bit_lt x p
  have h1 := pow_small k m h
  rcases (show Ecc.bit x p = 0 ∨ Ecc.bit x p = 1 by omega) with e | e
  · rw [e, Nat.zero_mul]; exact Nat.zero_le _
  · rw [e, Nat.one_mul]; exact h1
theorem data_step (x k : Nat) (hk : k < 24) : bits BinOp.or IntKind.i64 (Ecc.dataK x k : Int) (wrap64 (wrap64 (Ecc.bit x (Ecc.posAt k) : Int) * 2 ^ k)) = (Ecc.dataK x (k + 1) : Int) := by
  have h0 := Ecc.bit_lt x (Ecc.posAt k)
  have h1 : wrap64 (Ecc.bit x (Ecc.posAt k) : Int) = (Ecc.bit x (Ecc.posAt k) : Int) := by unfold wrap64; omega
  have h2 := bit_mul x k (Ecc.posAt k) 24 (by omega)
  have h3 : (Ecc.bit x (Ecc.posAt k) : Int) * 2 ^ k = ((Ecc.bit x (Ecc.posAt k) * 2 ^ k : Nat) : Int) := by simp
  have h4 : wrap64 ((Ecc.bit x (Ecc.posAt k) * 2 ^ k : Nat) : Int) = ((Ecc.bit x (Ecc.posAt k) * 2 ^ k : Nat) : Int) := by unfold wrap64; omega
  have h5 := Ecc.dataK_lt x k
  have h6 := pow_small k 24 (by omega)
  rw [h1, h3, h4, i64_or_nat _ _ (by omega) (by omega), Ecc.dataK_succ, Nat.or_comm, nat_join k _ _ (Nat.mul_mod_left _ _) h5, Nat.add_comm]

set_option maxHeartbeats 1000000 in
theorem ecc_data (x : Nat) (w : World) (hx : x < 4294967296) :
    Calls Try.prog 78 #[.int .u32 (x : Int)] w fun e w' => e = .returned (.int .i64 (Ecc.data x : Nat)) ∧ Below w.heap.size w w' := by
  go_enter Try.func78, Try.ntmps78
  go_wp2_with (go_at_call 74; refine (ecc_positions _).mono ?_; rintro e w1 ⟨rfl, hb1⟩)
  go_loopg [3, 7] 24 (fun g n i wr => ∃ k : Nat, k + g = 24 ∧ i = .int .i64 k ∧ n = .int .i64 (Ecc.dataK x k : Nat) ∧ w1 = wr)
  case atStart => exact ⟨0, by omega, rfl, rfl, rfl⟩
  case round =>
    obtain ⟨k, hk, rfl, rfl, rfl⟩ := hrel
    cases gk with
    | zero =>
      obtain rfl : k = 24 := by omega
      go_wp2_with fail
      go_ret
      exact ⟨rfl, hb1⟩
    | succ g =>
      have hix := parr_index k (by omega)
      have hp := posAt_lt k
      have hb := ecc_shr x (Ecc.posAt k) hx
      have i0 : (k : Int) < 24 := by omega
      have i1 : (Ecc.posAt k : Int) ≤ 32 := by omega
      have i2 : (k : Int) ≤ 64 := by omega
      go_wp2_with fail
      go_roundg g
      case measure => omega
      case rel =>
        refine ⟨k + 1, by omega, by go_num, ?_, rfl⟩
        rw [data_step x k (by omega)]

theorem ecc_shr64 (w p : Nat) (hw : w < 4294967296) : bits BinOp.and IntKind.i64 ((w : Int) / 2 ^ p) 1 = ((Ecc.bit w p : Nat) : Int) := by
  have e : (w : Int) / 2 ^ p = ((w / 2 ^ p : Nat) : Int) := by simp
  have h1 : w / 2 ^ p < 4294967296 := Nat.lt_of_le_of_lt (Nat.div_le_self _ _) hw
  rw [e, show (1 : Int) = ((1 : Nat) : Int) from rfl, i64_and_nat _ _ (by omega) (by omega), nat_mask1]; rfl
theorem lay_step (n k : Nat) (hn : n < 16777216) (hk : k < 24) :
    bits BinOp.or IntKind.u32 (Ecc.layK n k : Int) (bits BinOp.and IntKind.i64 ((n : Int) / 2 ^ k) 1 % 4294967296 * 2 ^ Ecc.posAt k % 4294967296) = (Ecc.layK n (k + 1) : Int) := by
  have h0 := Ecc.bit_lt n k
  have h2 := bit_mul n (Ecc.posAt k) k 29 (by have := posAt_lt k; omega)
  have h3 : (Ecc.bit n k : Int) % 4294967296 * 2 ^ Ecc.posAt k % 4294967296 = ((Ecc.bit n k * 2 ^ Ecc.posAt k : Nat) : Int) := by
    rw [show (Ecc.bit n k : Int) % 4294967296 = (Ecc.bit n k : Int) by omega, show (Ecc.bit n k : Int) * 2 ^ Ecc.posAt k = ((Ecc.bit n k * 2 ^ Ecc.posAt k : Nat) : Int) by simp]
    omega
  have h5 := Ecc.layK_lt n k (by omega)
  rw [ecc_shr64 n k (by omega), h3, u32_or_nat _ _ (by omega) (by omega), Ecc.layK_succ]
theorem chk_and (s c j : Nat) (hs : s < 32) (hc : c = 2 ^ j) (hj : j < 5) : (bits BinOp.and IntKind.i64 (s : Int) (c : Int) != 0) = s.testBit j := by
  have h1 : 2 ^ j ≤ 2 ^ 5 := pow_small j 5 (by omega)
  subst hc
  rw [i64_and_nat _ _ (by omega) (by omega), nat_bit, Nat.testBit_eq_decide_div_mod_eq]
  have hp : 0 < 2 ^ j := Nat.two_pow_pos j
  rcases Nat.mod_two_eq_zero_or_one (s / 2 ^ j) with h | h
  · rw [h]; simp
  · rw [h, Nat.one_mul]
    generalize 2 ^ j = q at *
    have h3 : (q : Int) ≠ 0 := by omega
    simpa using h3
theorem chkK_succ (s k : Nat) : Ecc.chkK s (k + 1) = if s.testBit k then Ecc.chkK s k ||| 2 ^ 2 ^ k else Ecc.chkK s k := by simp [Ecc.chkK, List.range_succ]
theorem chkK_lt (s k : Nat) (h : k ≤ 5) : Ecc.chkK s k < 2 ^ 30 := by
  induction k with
  | zero => simp [Ecc.chkK]
  | succ k ih =>
    rw [chkK_succ]
    split
    · refine Nat.or_lt_two_pow (ih (by omega)) ?_
      have h1 : 2 ^ k ≤ 2 ^ 4 := pow_small k 4 (by omega)
      exact Nat.pow_lt_pow_right (by omega) (by omega)
    · exact ih (by omega)
/-- The check places behind k of them: the place c, and what is laid so far. -/
def chkIs (s g c a : Nat) : Prop := ∃ j, j + g = 5 ∧ c = 2 ^ j ∧ a = Ecc.chkK s j
theorem or_low (a v c : Nat) (hc : c < 30) (h : a < 2 ^ 30) (hv : v < 2 ^ 30) : bits BinOp.or IntKind.u32 ((v ||| a : Nat) : Int) (2 ^ c % 4294967296) = ((v ||| (a ||| 2 ^ c) : Nat) : Int) := by
  have h1 := pow_small c 29 (by omega)
  have h2 : v ||| a < 2 ^ 30 := Nat.or_lt_two_pow hv h
  rw [show (2 : Int) ^ c % 4294967296 = ((2 ^ c : Nat) : Int) by rw [show (2 : Int) ^ c = ((2 ^ c : Nat) : Int) by simp]; generalize 2 ^ c = q at *; omega, u32_or_nat _ _ (by omega) (by omega), Nat.or_assoc]
theorem or_par (x : Nat) (h : x < 2 ^ 30) : bits BinOp.or IntKind.u32 (x : Int) (bits BinOp.and IntKind.i64 (Ecc.ones x : Int) 1 % 4294967296) = ((x ||| Ecc.ones x % 2 : Nat) : Int) := by
  have h1 : Ecc.ones x ≤ 32 := Ecc.onesK_le x 32
  rw [show (1 : Int) = ((1 : Nat) : Int) from rfl, i64_and_nat _ _ (by omega) (by omega), nat_mask1]
  rw [show ((Ecc.ones x % 2 : Nat) : Int) % 4294967296 = ((Ecc.ones x % 2 : Nat) : Int) by omega, u32_or_nat _ _ (by omega) (by omega)]

set_option maxHeartbeats 1000000 in
theorem ecc_code (n : Nat) (w : World) (hn : n < 16777216) :
    Calls Try.prog 60 #[.int .i64 (n : Int)] w fun e w' => e = .returned (.int .u32 (Ecc.code n : Nat)) ∧ Below w.heap.size w w' := by
  go_enter Try.func60, Try.ntmps60
  go_wp2_with (go_at_call 74; refine (ecc_positions _).mono ?_; rintro e w1 ⟨rfl, hb1⟩)
  go_loopg [3, 9] 24 (fun g v i wr => ∃ k : Nat, k + g = 24 ∧ i = .int .i64 k ∧ v = .int .u32 (Ecc.layK n k : Nat) ∧ w1 = wr)
  case atStart => exact ⟨0, by omega, rfl, rfl, rfl⟩
  case round =>
    obtain ⟨k, hk, rfl, rfl, rfl⟩ := hrel
    cases gk with
    | zero =>
      obtain rfl : k = 24 := by omega
      have hl := Ecc.lay_lt n
      unfold Ecc.lay at hl
      have hs := Ecc.syn_lt (Ecc.lay n)
      rw [show Ecc.layK n 24 = Ecc.lay n from rfl] at hl ⊢
      go_wp2_with (go_at_call 75; refine (ecc_syndrome _ _ (by omega)).mono ?_; rintro e w2 ⟨rfl, rfl⟩)
      go_loopg [3, 7] 5 (fun g v c wr => ∃ c' a : Nat, c = .int .i64 c' ∧ v = .int .u32 ((Ecc.lay n ||| a : Nat) : Int) ∧ Hid (chkIs (Ecc.syn (Ecc.lay n)) g c' a) ∧ w1 = wr)
      case atStart => exact ⟨1, 0, rfl, by rw [Nat.or_zero], Lib.hid ⟨0, rfl, rfl, rfl⟩, rfl⟩
      case round =>
        obtain ⟨c', a, rfl, rfl, HC, rfl⟩ := hrel
        obtain ⟨j, hj, hc, ha⟩ := HC.out
        have hal := chkK_lt (Ecc.syn (Ecc.lay n)) j (by omega)
        rw [← ha] at hal
        have hvl : Ecc.lay n ||| a < 2 ^ 30 := Nat.or_lt_two_pow hl hal
        cases gk with
        | zero =>
          have hc' : c' = 32 := by obtain rfl : j = 5 := by omega
                                   exact hc
          have e : Ecc.lay n ||| a = Ecc.pre n := by rw [ha, show j = 5 by omega]; rfl
          rw [e] at hvl ⊢
          have H := Lib.hid (or_par _ hvl)
          subst hc'
          clear ha e hc HC
          go_wp2_with (go_at_call 76; refine (ecc_ones _ _ (by omega)).mono ?_; rintro e w2 ⟨rfl, kk, rfl⟩)
          go_ret
          exact ⟨congrArg (fun x => Ending.returned (.int .u32 x)) H.out, Below.drewN hb1 _⟩
        | succ g =>
          have hj5 : j < 5 := by omega
          have hcl : c' < 30 := by rw [hc]; have := pow_small j 4 (by omega); omega
          have tb := chk_and _ c' j hs hc hj5
          have OL := Lib.hid (or_low a (Ecc.lay n) c' hcl hal hl)
          have hsc := chkK_succ (Ecc.syn (Ecc.lay n)) j
          have HA := Lib.hid ha
          have HCC := Lib.hid hc
          have i0 : (c' : Int) < 32 := by omega
          cases hb : (Ecc.syn (Ecc.lay n)).testBit j with
          | false =>
            rw [hb] at tb hsc
            have HS := Lib.hid hsc
            have HB := Lib.hid hb
            clear hb ha hc hsc HC
            go_wp2_with fail
            go_roundg g
            case measure => omega
            case rel => exact ⟨c' * 2, a, by go_num, rfl, Lib.hid ⟨j + 1, by omega, by rw [HCC.out, Nat.pow_succ], by rw [HS.out, HA.out]; rfl⟩, rfl⟩
          | true =>
            rw [hb] at tb hsc
            have HS := Lib.hid hsc
            have HB := Lib.hid hb
            clear hb ha hc hsc HC
            go_wp2_with fail
            go_roundg g
            case measure => omega
            case rel => exact ⟨c' * 2, a ||| 2 ^ c', by go_num, congrArg (Value.int .u32) OL.out, Lib.hid ⟨j + 1, by omega, by rw [HCC.out, Nat.pow_succ], by rw [HS.out, HA.out, HCC.out]; rfl⟩, rfl⟩
    | succ g =>
      have hix := parr_index k (by omega)
      have hp := posAt_lt k
      have i0 : (k : Int) < 24 := by omega
      have i1 : (Ecc.posAt k : Int) ≤ 32 := by omega
      have i2 : (k : Int) ≤ 64 := by omega
      go_wp2_with fail
      go_roundg g
      case measure => omega
      case rel =>
        refine ⟨k + 1, by omega, by go_num, ?_, rfl⟩
        rw [lay_step n k hn (by omega)]

theorem ones_even (x : Nat) : ((Ecc.ones x : Int) % 2 == 0) = (Ecc.ones x % 2 == 0) := by
  rcases Nat.mod_two_eq_zero_or_one (Ecc.ones x) with h | h
  · rw [h, show (Ecc.ones x : Int) % 2 = 0 by omega]; rfl
  · rw [h, show (Ecc.ones x : Int) % 2 = 1 by omega]; rfl
theorem high_bits (x : Nat) (hx : x < 4294967296) : (bits BinOp.and IntKind.u32 (x : Int) 3221225472 == 0) = (Ecc.bit x 30 == 0 && Ecc.bit x 31 == 0) := by
  rw [show (3221225472 : Int) = ((3221225472 : Nat) : Int) from rfl, u32_and_nat _ _ hx (by omega)]
  have e : x &&& 3221225472 = Ecc.bit x 30 * 2 ^ 30 + Ecc.bit x 31 * 2 ^ 31 := by
    have h1 : (3221225472 : Nat) = 2 ^ 30 ||| 2 ^ 31 := by decide
    rw [h1, Nat.and_or_distrib_left, nat_bit, nat_bit, Nat.or_comm, nat_join 31 _ _ (Nat.mul_mod_left _ _) (by have := Nat.mod_lt (x / 2 ^ 30) (show 0 < 2 by omega); omega), Nat.add_comm]
    rfl
  rw [e]
  have h0 := Ecc.bit_lt x 30
  have h1 := Ecc.bit_lt x 31
  rcases (show Ecc.bit x 30 = 0 ∨ Ecc.bit x 30 = 1 by omega) with h | h <;> rcases (show Ecc.bit x 31 = 0 ∨ Ecc.bit x 31 = 1 by omega) with h' | h' <;> rw [h, h'] <;> rfl

set_option maxHeartbeats 1000000 in
theorem ecc_isCode (x : Nat) (w : World) (hx : x < 4294967296) :
    Calls Try.prog 77 #[.int .u32 (x : Int)] w fun e w' => e = .returned (.bool (Ecc.isCode x)) ∧ ∃ k, w' = w.drewN k := by
  have he := Lib.hid (ones_even x)
  have hh := Lib.hid (high_bits x hx)
  have hol : Ecc.ones x ≤ 32 := Ecc.onesK_le x 32
  cases hs : (Ecc.syn x == 0) with
  | false =>
    have hs' : ((Ecc.syn x : Int) == 0) = false := by simp at hs ⊢; omega
    have HS := Lib.hid hs
    clear hs
    go_enter Try.func77, Try.ntmps77
    go_wp2_with (go_at_call 75; refine (ecc_syndrome _ _ hx).mono ?_; rintro e w2 ⟨rfl, rfl⟩)
    go_ret
    exact ⟨by rw [Ecc.isCode, HS.out]; rfl, 0, rfl⟩
  | true =>
    have hs' : ((Ecc.syn x : Int) == 0) = true := by simp at hs ⊢; omega
    have HS := Lib.hid hs
    clear hs
    cases ho : (Ecc.ones x % 2 == 0) with
    | false =>
      have ho' : ((Ecc.ones x : Int) % 2 == 0) = false := by rw [he.out, ho]
      have HO := Lib.hid ho
      clear ho
      go_enter Try.func77, Try.ntmps77
      go_wp2_with (first | (go_at_call 75; refine (ecc_syndrome _ _ hx).mono ?_; rintro e w2 ⟨rfl, rfl⟩) | (go_at_call 76; refine (ecc_ones _ _ (by omega)).mono ?_; rintro e w2 ⟨rfl, kk, rfl⟩))
      go_ret
      exact ⟨by rw [Ecc.isCode, HS.out, HO.out]; rfl, _, rfl⟩
    | true =>
      have ho' : ((Ecc.ones x : Int) % 2 == 0) = true := by rw [he.out, ho]
      have HO := Lib.hid ho
      clear ho
      go_enter Try.func77, Try.ntmps77
      go_wp2_with (first | (go_at_call 75; refine (ecc_syndrome _ _ hx).mono ?_; rintro e w2 ⟨rfl, rfl⟩) | (go_at_call 76; refine (ecc_ones _ _ (by omega)).mono ?_; rintro e w2 ⟨rfl, kk, rfl⟩))
      go_ret
      exact ⟨by rw [Ecc.isCode, HS.out, HO.out, hh.out]; simp, _, rfl⟩
end Go.Proofs.Ytnlhammgcemchaa
end

section
namespace Go.Proofs.Ytnlhammgcemchaa
set_option maxRecDepth 100000
set_option linter.unusedSimpArgs false
set_option linter.unusedVariables false
open Go.RowKit

/-- What Encode hands back. -/
def encW (d : Int) : Nat := if 0 ≤ d ∧ d < 16777216 then Ecc.code d.toNat else 0
def encE (d : Int) : Int := if 0 ≤ d ∧ d < 16777216 then 0 else 2

set_option maxHeartbeats 1000000 in
theorem ecc_Encode (d : Int) (w : World) :
    Calls Try.prog 51 #[.int .i64 d] w fun e w' => e = .returned (.tuple #[.int .u32 (encW d : Nat), .int .i64 (encE d)]) ∧ Below w.heap.size w w' := by
  by_cases h0 : 0 ≤ d
  · by_cases h1 : d < 16777216
    · obtain ⟨n, rfl⟩ := Int.eq_ofNat_of_zero_le h0
      have e1 : encW (n : Int) = Ecc.code n := by unfold encW; rw [if_pos ⟨h0, h1⟩]; rfl
      have e2 : encE (n : Int) = 0 := by unfold encE; rw [if_pos ⟨h0, h1⟩]
      rw [e1, e2]
      clear e1 e2
      have i2 : (n : Int) ≤ 16777215 := by omega
      have hn : n < 16777216 := by omega
      clear h1
      go_enter Try.func51, Try.ntmps51
      go_wp2_with (go_at_call 60; refine (ecc_code _ _ hn).mono ?_; rintro e w2 ⟨rfl, hb⟩)
      go_ret2
      exact ⟨rfl, hb⟩
    · have e1 : encW d = 0 := by unfold encW; rw [if_neg (fun h => h1 h.2)]
      have e2 : encE d = 2 := by unfold encE; rw [if_neg (fun h => h1 h.2)]
      rw [e1, e2]
      clear e1 e2
      have i1 : decide ((16777216 : Int) ≤ d) = true := by simp; omega
      have i2 : decide (d < 0) = false := by simp; omega
      go_enter Try.func51, Try.ntmps51
      go_wp2_with fail
      go_ret2
      exact ⟨rfl, Below.refl _ _⟩
  · have e1 : encW d = 0 := by unfold encW; rw [if_neg (fun h => h0 h.1)]
    have e2 : encE d = 2 := by unfold encE; rw [if_neg (fun h => h0 h.1)]
    rw [e1, e2]
    clear e1 e2
    have i2 : decide (d < 0) = true := by simp; omega
    go_enter Try.func51, Try.ntmps51
    go_wp2_with fail
    go_ret2
    exact ⟨rfl, Below.refl _ _⟩

theorem fix_lt (x : Nat) (h : x < 4294967296) : Ecc.fix x < 4294967296 := by
  have h1 := Ecc.syn_lt x
  have h2 := Nat.pow_lt_pow_right (a := 2) (by omega) h1
  exact Nat.xor_lt_two_pow (n := 32) h h2
theorem flip_bit (x p : Nat) (hx : x < 4294967296) (hp : p < 32) : bits BinOp.xor IntKind.u32 (x : Int) (2 ^ p % 4294967296) = ((x ^^^ 2 ^ p : Nat) : Int) := by
  have h1 := pow_small p 31 (by omega)
  rw [show (2 : Int) ^ p % 4294967296 = ((2 ^ p : Nat) : Int) by rw [show (2 : Int) ^ p = ((2 ^ p : Nat) : Int) by simp]; generalize 2 ^ p = q at *; omega, u32_xor_nat _ _ hx (by omega)]

set_option maxHeartbeats 1000000 in
theorem ecc_Decode (x : Nat) (w : World) (hx : x < 4294967296) :
    Calls Try.prog 63 #[.int .u32 (x : Int)] w fun e w' => e = .returned (.tuple #[.int .i64 ((Ecc.decode x).1 : Int), .int .i64 ((Ecc.decode x).2 : Int)]) ∧ Below w.heap.size w w' := by
  have hs := Ecc.syn_lt x
  have hf := fix_lt x hx
  cases h1 : Ecc.isCode x with
  | true =>
    have e : Ecc.decode x = (Ecc.data x, 0) := by unfold Ecc.decode; rw [if_pos h1]
    rw [e]
    clear e
    go_enter Try.func63, Try.ntmps63
    go_wp2_with fail
    refine (ecc_isCode _ _ hx).mono ?_
    rintro e w1 ⟨rfl, k, rfl⟩
    rw [h1]
    go_wp2_with (go_at_call 78; refine (ecc_data _ _ hx).mono ?_; rintro e w2 ⟨rfl, hb⟩)
    go_ret2
    exact ⟨rfl, (Below.drewN (Below.refl _ _) k).trans hb⟩
  | false =>
    have hfl := flip_bit x (Ecc.syn x) hx hs
    rw [show x ^^^ 2 ^ Ecc.syn x = Ecc.fix x from rfl] at hfl
    have i1 : (Ecc.syn x : Int) ≤ 32 := by omega
    cases h2 : Ecc.isCode (Ecc.fix x) with
    | true =>
      have e : Ecc.decode x = (Ecc.data (Ecc.fix x), 1) := by unfold Ecc.decode; rw [if_neg (by rw [h1]; simp), if_pos h2]
      rw [e]
      clear e
      go_enter Try.func63, Try.ntmps63
      go_wp2_with fail
      refine (ecc_isCode _ _ hx).mono ?_
      rintro e w1 ⟨rfl, k, rfl⟩
      rw [h1]
      go_wp2_with (go_at_call 75; refine (ecc_syndrome _ _ hx).mono ?_; rintro e w2 ⟨rfl, rfl⟩)
      refine (ecc_isCode _ _ hf).mono ?_
      rintro e w1 ⟨rfl, k, rfl⟩
      rw [h2]
      go_wp2_with (go_at_call 78; refine (ecc_data _ _ hf).mono ?_; rintro e w2 ⟨rfl, hb⟩)
      go_ret2
      exact ⟨rfl, (Below.drewN (Below.refl _ _) _).trans hb⟩
    | false =>
      have e : Ecc.decode x = (0, 2) := by unfold Ecc.decode; rw [if_neg (by rw [h1]; simp), if_neg (by rw [h2]; simp)]
      rw [e]
      clear e
      go_enter Try.func63, Try.ntmps63
      go_wp2_with fail
      refine (ecc_isCode _ _ hx).mono ?_
      rintro e w1 ⟨rfl, k, rfl⟩
      rw [h1]
      go_wp2_with (go_at_call 75; refine (ecc_syndrome _ _ hx).mono ?_; rintro e w2 ⟨rfl, rfl⟩)
      refine (ecc_isCode _ _ hf).mono ?_
      rintro e w1 ⟨rfl, k, rfl⟩
      rw [h2]
      go_wp2_with fail
      go_ret2
      exact ⟨rfl, Below.drewN (Below.refl _ _) _⟩
end Go.Proofs.Ytnlhammgcemchaa
end

section
namespace Go.Proofs.Ytnlhammgcemchaa
set_option maxRecDepth 100000
set_option linter.unusedSimpArgs false
set_option linter.unusedVariables false
open Go.RowKit
set_option maxHeartbeats 4000000

theorem Only.same {w w' : World} {g : Nat} {t : TypeId} {cs : Array Value} (ho : Only (fun q => q = g) w w') (h : Blk w g t cs) (h' : Blk w' g t cs) : Below w.heap.size w w' :=
  ⟨ho.os, ho.tape, ho.output, ho.size, fun k hk => by
    by_cases e : k = g
    · subst e; unfold Blk at h h'; rw [h, h']
    · exact ho.block k hk e⟩
theorem Mem.low {w0 w : World} {L : List Ent} {O : List Osl} (hm : Mem (fun _ => False) w0 w L O) : Below w0.heap.size w0 w := hm.only.below (Nat.le_refl _) (fun _ _ e => e)
theorem Byt.low {w0 w : World} {L : List Ent} {O : List Osl} {A : Option Addr} {n c : Nat} {bs : List UInt8} (h : Byt w0 w0.heap.size A n c bs) (hm : Mem (fun _ => False) w0 w L O) : Byt w w.heap.size A n c bs := (h.below hm.low).more hm.only.size
theorem Byt.only {w w' : World} {A : Option Addr} {n c : Nat} {bs : List UInt8} {R : Nat → Prop} (h : Byt w w.heap.size A n c bs) (ho : Only R w w') (hg : ∀ a, A = some a → 0 < n → ¬ R a.block) : Byt w' w'.heap.size A n c bs := by
  refine ⟨h.1, h.2.1, fun hn => ?_⟩
  obtain ⟨b, o, e, hb, hc⟩ := h.2.2 hn
  refine ⟨b, o, e, Nat.lt_of_lt_of_le hb ho.size, fun j hj => ?_⟩
  rw [← hc j hj]
  have h0 : 0 < n := by rw [length_bcells, h.1] at hn; exact hn
  have := ho.block b hb (hg _ e h0)
  unfold World.cell?
  rw [this]
theorem Mem.fresh {R : Nat → Prop} {s w : World} {L : List Ent} {O : List Osl} {x : Osl} (hm : Mem R s w L O) (k : Nat) (hk : O[k]? = some x) (hR : ∀ q, R q → ∃ e ∈ L, e.g = q) : Own w s.heap.size x.t x.s x.A x.n x.c x.cs := by
  have hmem := List.mem_of_getElem? hk
  have h := hm.sl _ hmem
  refine ⟨h.1, h.2.1, h.2.2.1, fun hc => ?_⟩
  obtain ⟨g, cur, e, hb, r⟩ := h.2.2.2 hc
  have hq : ownAt x.A x.c = some g := by unfold ownAt; rw [if_neg (by omega), e]; rfl
  refine ⟨g, cur, e, ?_, r⟩
  rcases hm.slR _ hmem g hq with h1 | h1
  · obtain ⟨e2, he, h2⟩ := hR g h1
    exact absurd (h2 ▸ hq) (hm.slL _ hmem e2 he)
  · exact h1
theorem Mem.own_ {w0 w : World} {L : List Ent} {O : List Osl} {x : Osl} (hm : Mem (fun _ => False) w0 w L O) (k : Nat) (hk : O[k]? = some x) : Own w w0.heap.size x.t x.s x.A x.n x.c x.cs := hm.fresh k hk (fun q hq => hq.elim)
theorem Mem.quiet {w w' : World} {L : List Ent} {O : List Osl} {g : Nat} {t : TypeId} {cs : Array Value} (hm : Mem (fun q => q = g) w w' (⟨g, t, cs⟩ :: L) O) (hb : Blk w g t cs) : Below w.heap.size w w' := Only.same hm.only hb (hm.at_ 0 rfl)
/-- A call that hands back bytes of its own. -/
def ORes (w : World) (bs : List UInt8) (e : Ending) (w' : World) : Prop :=
  ∃ A c, e = .returned (.slice A bs.length c) ∧ Own w' w.heap.size 5 1 A bs.length c (bcells bs) ∧ Below w.heap.size w w'
theorem ORes.len {w : World} {bs : List UInt8} {e : Ending} {w' : World} (h : ORes w bs e w') {n : Nat} (hn : bs.length = n) : ∃ A c, e = .returned (.slice A n c) ∧ Own w' w.heap.size 5 1 A n c (bcells bs) ∧ Below w.heap.size w w' := by
  subst hn; exact h
theorem ORes.mk {R : Nat → Prop} {L : List Ent} {O : List Osl} {w0 w : World} {bs X : List UInt8} {A : Option Addr} {n c : Nat} (hm : Mem R w0 w L O) (k : Nat) (hk : O[k]? = some ⟨5, 1, A, n, c, bcells X⟩) (hX : X = bs) (hn : bs.length = n) (hR : ∀ q, ¬ R q) : ORes w0 bs (.returned (.slice A n c)) w := by
  subst hX
  subst hn
  exact ⟨A, c, rfl, hm.fresh k hk (fun q hq => absurd hq (hR q)), hm.only.below (Nat.le_refl _) (fun _ _ => hR _)⟩
theorem Byt.sup {w : World} {A : Option Addr} {n c : Nat} {bs : List UInt8} (h : Byt w w.heap.size A n c bs) : Sup w (blks #[.slice A n c]) (fun u => Byt u u.heap.size A n c bs) := by
  have hin : 0 < n → ∀ a, A = some a → blks #[.slice A n c] a.block := fun hn a e => ⟨A, n, c, a, by simp, hn, e, rfl⟩
  refine ⟨h, fun q hq => ?_, fun R w' ho hd => h.only ho fun a e hn => hd _ (hin hn a e)⟩
  obtain ⟨A', n', c', a, hm, hn, e, rfl⟩ := hq
  simp at hm
  obtain ⟨rfl, rfl, rfl⟩ := hm
  obtain ⟨b, o, e2, hb⟩ := h.at_ hn
  rw [e] at e2; injection e2 with e2; subst e2
  exact hb
theorem ORes.nil {w w' : World} (h : Below w.heap.size w w') : ORes w [] (.returned (.slice none 0 0)) w' := ⟨none, 0, rfl, Own.none_ _ _ _ _ _, h⟩
/-- A slice that a call has made, with the whole of its block. -/
theorem Mem.gotB {R : Nat → Prop} {s w w' : World} {L : List Ent} {O : List Osl} {q : Nat} {t : TypeId} {cs : Array Value} (hm : Mem R s w L O) (hb : Below w.heap.size w w') (hq : w.heap.size ≤ q) (hB : Blk w' q t cs) : Mem R s w' (⟨q, t, cs⟩ :: L) O :=
  (hm.below hb).cons hB (.inr (Nat.le_trans hm.only.size hq)) (fun e he e2 => by have := hm.lt he; omega) (fun x hx e => by have := hm.slt hx e; omega)
theorem Own.whole {w : World} {base : Nat} {t : TypeId} {A : Option Addr} {n c : Nat} {x : UInt8} {xs : List UInt8} (h : Own w base t 1 A n c (bcells (x :: xs))) :
    ∃ q tl, A = some ⟨q, 0, none⟩ ∧ base ≤ q ∧ Blk w q t (B8 x :: (bcells xs ++ tl)).toArray := by
  have hn := h.len
  have hle := h.le
  have hn1 : (bcells (x :: xs)).length = xs.length + 1 := by simp
  obtain ⟨q, cur, e, hb, hh, _, ht⟩ := h.2.2.2 (by omega)
  refine ⟨q, cur.toList.drop (n * 1), e, hb, ?_⟩
  have : cur = (B8 x :: (bcells xs ++ cur.toList.drop (n * 1))).toArray := by
    apply Array.toList_inj.1
    show cur.toList = bcells (x :: xs) ++ cur.toList.drop (n * 1)
    rw [← ht, List.take_append_drop]
  unfold Blk
  rw [hh, ← this]
theorem Blk.byt {w : World} {q : Nat} {t : TypeId} {n c : Nat} {x : UInt8} {xs : List UInt8} {tl : List Value} (h : Blk w q t (B8 x :: (bcells xs ++ tl)).toArray) (hn : xs.length + 1 = n) (hc : n ≤ c) : Byt w w.heap.size (some ⟨q, 0, none⟩) n c (x :: xs) := by
  refine ⟨by simpa using hn, hc, ?_⟩
  have hr := h.row.take n
  rwa [show ((B8 x :: (bcells xs ++ tl)).toArray.toList).take n = bcells (x :: xs) by
    show (bcells (x :: xs) ++ tl).take n = _
    rw [List.take_left' (by simpa using hn)]] at hr
theorem ORes.of {w0 w : World} {bs : List UInt8} {A : Option Addr} {n c : Nat} (hn : bs.length = n) (ho : Own w w0.heap.size 5 1 A n c (bcells bs)) (hb : Below w0.heap.size w0 w) : ORes w0 bs (.returned (.slice A n c)) w := by subst hn; exact ⟨A, c, rfl, ho, hb⟩
/-- The one block that might have turned has not. -/
theorem Mem.still {w w' : World} {L : List Ent} {O : List Osl} {g : Nat} {t : TypeId} {cs : Array Value} (hm : Mem (fun q => q = g) w w' L O) (k : Nat) (hk : L[k]? = some ⟨g, t, cs⟩) (hb : Blk w g t cs) : Below w.heap.size w w' := Only.same hm.only hb (hm.at_ k hk)
theorem Mem.freshG {w w' : World} {L : List Ent} {O : List Osl} {g : Nat} {t : TypeId} {cs : Array Value} {x : Osl} (hm : Mem (fun q => q = g) w w' L O) (k j : Nat) (hk : L[k]? = some ⟨g, t, cs⟩) (hj : O[j]? = some x) : Own w' w.heap.size x.t x.s x.A x.n x.c x.cs :=
  hm.fresh j hj (fun q hq => ⟨_, List.mem_of_getElem? hk, hq.symm⟩)
end Go.Proofs.Ytnlhammgcemchaa
end

section
namespace Go.Proofs.Ytnlhammgcemchaa
set_option maxRecDepth 100000
set_option linter.unusedSimpArgs false
set_option linter.unusedVariables false
open Go.RowKit

theorem bytSup {w : World} {A : Option Addr} {n c : Nat} {bs : List UInt8} (h : Byt w w.heap.size A n c bs) : Sup w (blks #[.slice A n c]) (fun u => Byt u u.heap.size A n c bs) := by
  have hin : 0 < n → ∀ a, A = some a → blks #[.slice A n c] a.block := fun hn a e => ⟨A, n, c, a, by simp, hn, e, rfl⟩
  refine ⟨h, fun q hq => ?_, fun R w' ho hd => h.only ho fun a e hn => hd _ (hin hn a e)⟩
  obtain ⟨A', n', c', a, hm, hn, e, rfl⟩ := hq
  simp at hm
  obtain ⟨rfl, rfl, rfl⟩ := hm
  obtain ⟨b, o, e2, hb⟩ := h.at_ hn
  rw [e] at e2; injection e2 with e2; subst e2
  exact hb
theorem Scn.asVal {w0 w : World} {L : List Ent} {O : List Osl} {Fs Vs : List Thing} (h : Scn w0 w L O Fs Vs) (i : Nat) {A : Option Addr} {n c : Nat} {t : TypeId} {bs : List UInt8} (hi : O[i]? = some ⟨t, 1, A, n, c, bcells bs⟩) :
    Scn w0 w L O Fs (Vs ++ [⟨blks #[.slice A n c], fun u => Byt u u.heap.size A n c bs⟩]) := by
  have hb := h.byt i hi
  have hc := hb.2.1
  refine ⟨h.cal, h.fs, fun x hx => ?_⟩
  rcases List.mem_append.1 hx with hx | hx
  · exact h.vs x hx
  · obtain rfl := List.mem_singleton.1 hx
    have key : ∀ q, blks #[.slice A n c] q → ownAt A c = some q := by
      intro q hq
      obtain ⟨A', n', c', a, hm, hn, e, rfl⟩ := hq
      simp at hm
      obtain ⟨rfl, rfl, rfl⟩ := hm
      exact ownAt_some (Nat.lt_of_lt_of_le hn hc) e
    refine ⟨bytSup hb, fun y hy q hy2 hq2 => ?_, fun e he hq2 => ?_⟩
    · exact h.cal.ds _ (List.mem_map.2 ⟨y, hy, rfl⟩) _ (List.mem_of_getElem? hi) q (key q hq2) hy2
    · exact h.cal.mem.slL _ (List.mem_of_getElem? hi) e he (key _ hq2)
theorem Scn.bytV {w0 w : World} {L : List Ent} {O : List Osl} {Fs Vs : List Thing} (h : Scn w0 w L O Fs Vs) (i k : Nat) {x : Thing} (hk : Fs[k]? = some x) {A : Option Addr} {n c : Nat} {bs : List UInt8} (hi : Vs[i]? = some ⟨blks #[.slice A n c], fun u => Byt u u.heap.size A n c bs⟩) : Byt w w.heap.size A n c bs ∧ ∀ a, A = some a → 0 < n → ¬ x.G a.block :=
  ⟨h.val i hi, fun a e hn hq => (h.vs _ (List.mem_of_getElem? hi)).2.1 x (List.mem_of_getElem? hk) a.block hq ⟨A, n, c, a, by simp, hn, e, rfl⟩⟩
end Go.Proofs.Ytnlhammgcemchaa
end

section
namespace Go.Proofs.Ytnlhammgcemchaa
set_option maxRecDepth 100000
set_option linter.unusedSimpArgs false
set_option linter.unusedVariables false
open Go.RowKit

theorem Mem.openB {R : Nat → Prop} {s w : World} {L : List Ent} {t : TypeId} {A : Option Addr} {n c : Nat} {bs : List UInt8} (hm : Mem R s w L [⟨t, 1, A, n, c, bcells bs⟩]) (h0 : 0 < n) :
    ∃ (q : Nat) (cs : Array Value), A = some ⟨q, 0, none⟩ ∧ cs.toList.take n = bcells bs ∧ n ≤ cs.size ∧ n ≤ c ∧ Mem R s w (⟨q, t, cs⟩ :: L) [] := by
  have hs := hm.sl_ 0 rfl
  have hle := hs.2.1
  dsimp only at hle
  obtain ⟨q, cur, e, _, hh, hc, ht⟩ := hs.2.2.2 (by show 0 < c; omega)
  dsimp only at e hh hc ht
  have ho : ownAt A c = some q := by unfold ownAt; rw [if_neg (by omega), e]; rfl
  have h1 : Mem R s w L [] := hm.less (O := [])
  refine ⟨q, cur, e, by simpa using ht, by omega, hle, ?_⟩
  exact h1.cons hh (hm.slR _ (List.mem_singleton_self _) q ho) (fun e2 he e3 => hm.slL _ (List.mem_singleton_self _) e2 he (by rw [ho, e3])) (fun x hx => by cases hx)
theorem cell_of_take {cs : Array Value} {n : Nat} {bs : List UInt8} (h : cs.toList.take n = bcells bs) {i : Nat} (hi : i < bs.length) : cs[i]? = some (B8 (bs.getD i 0)) := by
  have h1 : (cs.toList.take n)[i]? = some (B8 (bs.getD i 0)) := by rw [h, bcells_get]; simp [List.getD, hi]
  rw [List.getElem?_take] at h1
  split at h1
  · rw [← h1]; simp
  · cases h1
theorem take_spl {cs : Array Value} {n : Nat} {bs : List UInt8} (h : cs.toList.take n = bcells bs) {i : Nat} (hi : i < bs.length) (b : UInt8) : (spl cs i #[B8 b]).toList.take n = bcells (bs.set i b) := by
  have hl : i < cs.toList.length := by
    have h1 : (cs.toList.take n).length = bs.length := by rw [h, length_bcells]
    rw [List.length_take] at h1
    omega
  have e : (spl cs i #[B8 b]).toList = cs.toList.set i (B8 b) := by
    rw [List.set_eq_take_append_cons_drop, if_pos hl]
    simp [spl]
  rw [e, List.take_set, h]
  simp [bcells, List.map_set]
theorem byt_of_take {w : World} {q : Nat} {t : TypeId} {cs : Array Value} {n c : Nat} {bs : List UInt8} (h : Blk w q t cs) (ht : cs.toList.take n = bcells bs) (hn : bs.length = n) (hc : n ≤ c) : Byt w w.heap.size (some ⟨q, 0, none⟩) n c bs :=
  ⟨hn, hc, by have := h.row.take n; rwa [ht] at this⟩
theorem Scn.entVal {w0 w : World} {L : List Ent} {O : List Osl} {Fs Vs : List Thing} {q : Nat} {t : TypeId} {cs : Array Value} {n c : Nat} {bs : List UInt8} (h : Scn w0 w (⟨q, t, cs⟩ :: L) O Fs Vs) (hb : Byt w w.heap.size (some ⟨q, 0, none⟩) n c bs) :
    Scn w0 w L O Fs (Vs ++ [⟨blks #[.slice (some ⟨q, 0, none⟩) n c], fun u => Byt u u.heap.size (some ⟨q, 0, none⟩) n c bs⟩]) := by
  have h2 := h.part (List.sublist_cons_self _ _) (List.Sublist.refl O) (List.Sublist.refl Vs)
  refine ⟨h2.cal, h2.fs, fun x hx => ?_⟩
  rcases List.mem_append.1 hx with hx | hx
  · exact h2.vs x hx
  · obtain rfl := List.mem_singleton.1 hx
    have key : ∀ p, blks #[.slice (some ⟨q, 0, none⟩) n c] p → p = q := by
      intro p hp
      obtain ⟨A', n', c', a, hm, hn, e, rfl⟩ := hp
      simp at hm
      obtain ⟨rfl, rfl, rfl⟩ := hm
      cases e; rfl
    refine ⟨bytSup hb, fun y hy p hp hp2 => ?_, fun e he hp2 => ?_⟩
    · have := key p hp2
      subst this
      exact h.cal.dl _ (List.mem_map.2 ⟨y, hy, rfl⟩) _ (List.mem_cons_self) hp
    · have hd := h.cal.mem.diff
      rw [List.map_cons, List.nodup_cons] at hd
      exact hd.1 (List.mem_map.2 ⟨e, he, key _ hp2⟩)
end Go.Proofs.Ytnlhammgcemchaa
end

section
namespace Go.Proofs.Ytnlhammgcemchaa
set_option maxRecDepth 100000
set_option linter.unusedSimpArgs false
set_option linter.unusedVariables false
open Go.RowKit

/-- A slice of ints: n of them, capacity c. -/
def Ints (w : World) (B : Nat) (A : Option Addr) (n c : Nat) (xs : List Int) : Prop := xs.length = n ∧ n ≤ c ∧ Row w B A (xs.map I64)
section
variable {w w' : World} {B B' : Nat} {A : Option Addr} {n c : Nat} {xs : List Int}
theorem Ints.below (h : Ints w B A n c xs) (hb : Below B w w') : Ints w' B A n c xs := ⟨h.1, h.2.1, h.2.2.below hb⟩
theorem Ints.more (h : Ints w B A n c xs) (hB : B ≤ B') : Ints w B' A n c xs := ⟨h.1, h.2.1, h.2.2.more hB⟩
theorem Ints.at_ (h : Ints w B A n c xs) {k : Nat} (hk : k < n) : ∃ b o, A = some ⟨b, o, none⟩ ∧ b < B ∧ w.cell? ⟨b, o + k, none⟩ = some (.int .i64 (xs.getD k 0)) := by
  have hl : k < xs.length := by rw [h.1]; exact hk
  obtain ⟨b, o, e, hb, hc⟩ := h.2.2.at_ (j := k) (by simpa using hl)
  exact ⟨b, o, e, hb, by rw [hc]; simp [List.getD, List.getElem?_eq_getElem hl]⟩
end
theorem ints_of_row {w : World} {a : Option Addr} {len cap : Nat} {zs : List Int}
    (h : (a = none ∧ len = 0 ∧ cap = 0 ∧ zs = []) ∨ ∃ x, a = some x ∧ len ≤ cap ∧ cap ≤ maxLen ∧ zs.length = cap ∧ (∀ i, i < zs.length → w.cell? (x.add i) = some (.int .i64 (zs.getD i 0))) ∧ ∀ n ∈ zs, (Lit.int .i64 n).wf = true) :
    ∃ xs, Ints w w.heap.size a len cap xs ∧ cap ≤ maxLen ∧ ∀ n ∈ xs, (Lit.int .i64 n).wf = true := by
  rcases h with ⟨rfl, rfl, rfl, rfl⟩ | ⟨x, rfl, hl, hm, hz, hc, hw⟩
  · exact ⟨[], ⟨rfl, Nat.le_refl _, Row.nil _ _ _⟩, Nat.zero_le _, fun n hn => by cases hn⟩
  · refine ⟨zs.take len, ⟨by simp; omega, hl, fun hn => ?_⟩, hm, fun n hn => hw n (List.mem_of_mem_take hn)⟩
    have hn' : 0 < len := by simp at hn; omega
    have hc0 := hc 0 (by omega)
    have hx0 : x.add 0 = x := by unfold Addr.add; simp
    rw [hx0] at hc0
    obtain ⟨b, o, s⟩ := x
    have hs : s = none := by
      cases s with
      | none => rfl
      | some q => simp only [World.cell?] at hc0; split at hc0 <;> simp at hc0
    subst hs
    refine ⟨b, o, rfl, World.block_lt_of_cell? w _ hc0, fun j hj => ?_⟩
    rw [List.length_map, List.length_take] at hj
    have hj' : j < zs.length := by omega
    have h1 := hc j hj'
    rw [add_eq] at h1
    rw [h1, List.getElem?_map, List.getElem?_take, if_pos (by omega), List.getElem?_eq_getElem hj']
    simp only [List.getD, List.getElem?_eq_getElem hj', Option.getD_some, Option.map_some, I64]
end Go.Proofs.Ytnlhammgcemchaa
end

section
namespace Go.Proofs.Ytnlhammgcemchaa
set_option maxRecDepth 100000
set_option linter.unusedSimpArgs false
set_option linter.unusedVariables false
open Go.RowKit Go.ChangeShapes Go.WideShapes Go.Deep

theorem ints_of_trod {H : Type} {enc : TypeId × Value → H} {w : World} {base : Nat} {spare : Nat → Bool} {held : Bool} {A : Option Addr} {n c : Nat} {d : DataW H} {p : List MemPlace}
    (h : DataW.Trod enc Try.prog w base spare held 63 (.slice A n c) d p) : ∃ xs : List Int, (Ints w w.heap.size A n c xs ∧ ∀ z ∈ xs, (Lit.int .i64 z).wf = true) ∧ c ≤ maxLen := by
  obtain ⟨fuel, hf⟩ := h
  rcases flat_slice (k := 1) (ts := [3]) Try.underlying63 (by kernel_rfl) hf with hcs | ⟨a, len, cap, hcs, hl, hm, hr⟩
  · simp [Value.cells] at hcs
    obtain ⟨rfl, rfl, rfl⟩ := hcs
    exact ⟨[], ⟨⟨rfl, Nat.le_refl _, Row.nil _ _ _⟩, fun z hz => (by cases hz)⟩, Nat.zero_le _⟩
  · simp [Value.cells] at hcs
    obtain ⟨rfl, rfl, rfl⟩ := hcs
    have hC : Try.prog.cellsOf 3 = 1 := by kernel_rfl
    rw [hC] at hr
    obtain ⟨l, h1, h2, h3⟩ := recs_of (cells := fun z : Int => [I64 z]) (s := 1) (n := n) (w := w) (a := a) (G := fun z => (Lit.int .i64 z).wf = true) (fun x => ⟨_, rfl⟩) (fun i hi => by
      obtain ⟨v0, c0, t0⟩ := hr i hi 0 _ rfl
      obtain ⟨z, rfl, hz⟩ := t0.int Try.underlying3
      refine ⟨z, fun j v hv => ?_, by simpa [Lit.wf, IntKind.min, IntKind.max, IntKind.signed, IntKind.bits] using hz⟩
      match j, hv with
      | 0, hv => injection hv with hv; subst hv; exact c0
      | j + 1, hv => simp at hv)
    refine ⟨l, ⟨⟨h1, hl, fun hn => ?_⟩, h3⟩, hm⟩
    obtain ⟨b, o, e, hb, hc⟩ := h2 (by simpa using hn)
    refine ⟨b, o, e, hb, fun j hj => ?_⟩
    have hjl : j < l.length := by simpa using hj
    have := hc j _ (List.getElem?_eq_getElem hjl) 0 _ rfl
    rw [show j * 1 + 0 = j by omega] at this
    rw [this, List.getElem?_map, List.getElem?_eq_getElem hjl]
    rfl
end Go.Proofs.Ytnlhammgcemchaa
end
