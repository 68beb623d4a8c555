/-
  Byte slices that a call makes, and strings made of them. Nothing here names a program.
-/
import Derived.Test.YtnlhammgcemchaaZ0
import Derived.Laws.BytesArg
import Derived.Laws.BytesString
import Derived.Laws.MakeOwn
namespace Go.Proofs.Ytnlhammgcemchaa
set_option maxRecDepth 100000
set_option linter.unusedSimpArgs false
set_option linter.unusedVariables false
open Go.RowKit

theorem Own.made0 {w : World} {g base c : Nat} {t : TypeId} {z : Value} (hb : Blk w g t (madeCells #[z] c)) (hg : base ≤ g) (hm : c ≤ maxLen) : Own w base t 1 (some ⟨g, 0, none⟩) 0 c [] := by
  have h := Own.blk (s := 1) (n := 0) (c := c) hb hg (Nat.zero_le _) hm (by simp [madeCells]) (by simp)
  simpa using h
theorem bcells_zs (n : Nat) : List.replicate n (Value.int .u8 0) = bcells (zs n) := by simp [bcells, zs, B8]
/-- The cells of a slice of bytes are read off as they stand. -/
theorem byt_load {P : Program} {w : World} {B : Nat} {a : Addr} {n c : Nat} {bs : List UInt8} (h : Byt w B (some a) n c bs) : (loadCells a n).run P w = .ok (bcells bs).toArray w := by
  have := run_loadCells_list (P := P) w a (bcells bs) (fun j v hj => by
    have hjl : j < (bcells bs).length := (List.getElem?_eq_some_iff.1 hj).1
    obtain ⟨b, o, e, _, hc⟩ := h.2.2 (by omega)
    obtain rfl : a = ⟨b, o, none⟩ := by simpa using e
    rw [add_eq, hc j hjl, hj])
  rw [length_bcells, h.1] at this
  exact this
theorem byt_string {P : Program} {w : World} {B : Nat} {A : Option Addr} {n c : Nat} {bs : List UInt8} (src e : TypeId) (hs : P.underlying src = some (.slice e)) (he : P.underlying e = some (.int .u8)) (h : Byt w B A n c bs) (dst : TypeId) (hd : P.underlying dst = some .string) :
    (convert src dst (.slice A n c)).run P w = .ok (.string ⟨bs.toArray⟩) w := by
  cases A with
  | none =>
    have hb : bs = [] := by
      rcases Nat.eq_zero_or_pos n with h0 | h0
      · exact List.eq_nil_of_length_eq_zero (by rw [h.1]; exact h0)
      · obtain ⟨b, o, e, _⟩ := h.at_ h0; cases e
    subst hb
    exact run_convert_bytes_nil w src e hs he n c dst hd
  | some a =>
    have hl : (loadCells a n).run P w = .ok ((bs.map fun b => (b.toNat : Int)).map (Value.int .u8)).toArray w := by
      rw [byt_load h, List.map_map]; rfl
    rw [run_convert_bytes_string w src dst e _ n c hs he hd, run_bytesToString w a n c _ hl, foldl_push_bytes]
    simp only [List.map_map]
    congr 2
    have : (bs.map ((fun n : Int => UInt8.ofNat n.toNat) ∘ fun b : UInt8 => (b.toNat : Int))) = bs := by
      rw [List.map_congr_left (g := id)]
      · simp
      · intro b _; simp
    rw [this]
    simp [ByteArray.empty, ByteArray.emptyWithCapacity]
    rfl
theorem made_u8 {P : Program} (t e : TypeId) (i : TypeInfo) (ht : P.underlying t = some (.slice e)) (hi : P.info? e = some i) (hz : i.zero = some (.int .u8 0)) (hs : i.size = 1) (hb : i.bytes = 1)
    (n : Nat) (hn : n ≤ 1099511627776) (u : World) : (Instr.makeSlice t (.int .i64 (n : Int)) (.int .i64 (n : Int))).run P u = .ok (.slice (some ⟨u.heap.size, 0, none⟩) n n) (u.alloc (.cells (madeCells #[.int .u8 0] n) e)) := by
  have h := run_make (P := P) u t e i (.int .u8 0) ht hi hz .i64 .i64 (n : Int) (n : Int) (by omega) (Int.le_refl _) (by rw [hb]; omega) (by omega)
  rw [hs, Int.toNat_natCast, Nat.mul_one] at h
  exact h
theorem made0_u8 {P : Program} (t e : TypeId) (i : TypeInfo) (ht : P.underlying t = some (.slice e)) (hi : P.info? e = some i) (hz : i.zero = some (.int .u8 0)) (hs : i.size = 1) (hb : i.bytes = 1)
    (n : Nat) (hn : n ≤ 1099511627776) (u : World) : (Instr.makeSlice t (.int .i64 0) (.int .i64 (n : Int))).run P u = .ok (.slice (some ⟨u.heap.size, 0, none⟩) 0 n) (u.alloc (.cells (madeCells #[.int .u8 0] n) e)) := by
  have h := run_make (P := P) u t e i (.int .u8 0) ht hi hz .i64 .i64 0 (n : Int) (by omega) (by omega) (by rw [hb]; omega) (by omega)
  rw [hs, Int.toNat_natCast, Nat.mul_one] at h
  exact h
/-- A quiet call behind an earlier quiet region: the draws are joined. -/
theorem Calls.quiet_more {P : Program} {f : FuncId} {args : Array Value} {w : World} {d k : Nat} {v : Value} (h : Calls P f args (w.drewN (d + k)) fun e u => e = .returned v ∧ ∃ m, u = (w.drewN (d + k)).drewN m) :
    Calls P f args (w.drewN (d + k)) fun e u => e = .returned v ∧ ∃ m, u = w.drewN (d + m) :=
  h.mono fun _ _ ⟨he, m, hu⟩ => ⟨he, k + m, by rw [hu, World.drewN_drewN, Nat.add_assoc]⟩
/-- What a call leaves that hands back bytes and an error. -/
def BRes (t : TypeId) (w : World) (bs : List UInt8) (er : Int) (e : Ending) (w' : World) : Prop :=
  ∃ A c, e = .returned (.tuple #[.slice A bs.length c, .int .i64 er]) ∧ Own w' w.heap.size t 1 A bs.length c (bcells bs) ∧ Below w.heap.size w w'
theorem BRes.nil (t : TypeId) {w w' : World} {er : Int} (h : Below w.heap.size w w') : BRes t w [] er (.returned (.tuple #[.slice none 0 0, .int .i64 er])) w' := ⟨none, 0, rfl, Own.none_ _ _ _ _ _, h⟩
theorem BRes.mk {t : TypeId} {w w' : World} {A : Option Addr} {n c : Nat} {bs : List UInt8} {er : Int} (hn : bs.length = n) (h : Own w' w.heap.size t 1 A n c (bcells bs)) (hb : Below w.heap.size w w') : BRes t w bs er (.returned (.tuple #[.slice A n c, .int .i64 er])) w' := by
  subst hn; exact ⟨A, c, rfl, h, hb⟩
section
variable {P : Program} (w : World)
/-- 'wp_append' as a step of a region that draws its order. -/
theorem step_append {ops : Array Oper} {o : Oper} {a : Act} {K : Act → World → Prop} {Q : Exit → Act → World → Prop} {E : Prop} (hgd : o.guard = none) (x y : Operand) (t : TypeId)
    (ho : o.op = .call { callee := .builtin .append, args := #[x, y], argTypes := #[t, t] })
    (base : Nat) (e : TypeId) (i : TypeInfo) (z : Value) (s bytes : Nat) (ht : P.underlying t = some (.slice e)) (hi : P.info? e = some i) (hz : i.zero = some z)
    (hsize : i.size = s) (hby : i.bytes = bytes) (hzs : z.cells.size = s) (hsz : 0 < s)
    (A : Option Addr) (n c : Nat) (cs : List Value) (hx : a.eval x = .slice A n c) (hown : Own w base e s A n c cs)
    (B : Nat) (A' : Option Addr) (m c' : Nat) (news : List Value) (hy : a.eval y = .slice A' m c') (hr : Row w B A' news) (hl : news.length = m * s) (h1 : ∀ u ∈ news, u.oneCell' = true)
    (h63 : n + m ≤ maxLen) (hbytes : (n + m) * bytes ≤ 140737488355328) (hbase : base ≤ w.heap.size)
    (h : ∀ A2 c2 w2, Own w2 base e s A2 (n + m) c2 (cs ++ news) → w.grownBy w2 (ownAt A c) → (ownAt A2 c2 = ownAt A c ∨ ownAt A2 c2 = some w.heap.size) → K (a.put o.dst (.slice A2 (n + m) c2)) w2) :
    if Region.wanted o (yielded ops a.tmps) = true then Oper.wp P o a w K Q else E := by
  have hw : Region.wanted o (yielded ops a.tmps) = true := by simp [Region.wanted, hgd]
  rw [if_pos hw]
  exact wp_append w x y t ho base e i z s bytes ht hi hz hsize hby hzs hsz A n c cs hx hown B A' m c' news hy hr hl h1 h63 hbytes hbase h
end
end Go.Proofs.Ytnlhammgcemchaa
