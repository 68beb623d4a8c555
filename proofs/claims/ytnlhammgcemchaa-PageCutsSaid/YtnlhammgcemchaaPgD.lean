/-
  The laws' block and open.
-/
import Derived.Test.YtnlhammgcemchaaZ0
import Derived.Test.YtnlhammgcemchaaPgC
namespace Go.Proofs.Ytnlhammgcemchaa
set_option maxRecDepth 100000
set_option linter.unusedSimpArgs false
set_option linter.unusedVariables false
open Go.RowKit
set_option maxHeartbeats 8000000

theorem addr_add (q o j : Nat) : Addr.add ⟨q, o, none⟩ j = ⟨q, o + j, none⟩ := by
  unfold Addr.add
  split
  · rename_i h; rw [h]; rfl
  · rfl
/-- Bytes, filled up with zeros. -/
def Pg.pad (bs : List UInt8) : List UInt8 := bs.take 48 ++ zs (48 - (bs.take 48).length)
theorem Pg.pad_length (bs : List UInt8) : (Pg.pad bs).length = 48 := by simp [Pg.pad, zs]; omega
theorem pad_cells (bs : List UInt8) : splice (bcells (zs 48)) 0 (bcells (bs.take 48)) = bcells (Pg.pad bs) := by
  simp only [splice, Pg.pad, bcells, List.take_zero, List.nil_append, List.map_append, List.length_map, Nat.zero_add]
  congr 1
  rw [← List.map_drop, zs, List.drop_replicate]
  rfl
theorem own_pad {w : World} {g B : Nat} {bs : List UInt8} (h : Blk w g 5 (bcells bs).toArray) (hg : B ≤ g) (hl : bs.length = 48) : Own w B 5 1 (some ⟨g, 0, none⟩) 48 48 (bcells bs) :=
  ⟨by simp [bcells, hl], Nat.le_refl _, by unfold maxLen; omega, fun _ => ⟨g, _, rfl, hg, h, by simp [bcells, hl], List.take_of_length_le (by simp [bcells, hl])⟩⟩
theorem law11_block (A : Option Addr) (m c : Nat) (bs : List UInt8) (w0 : World) (hb : Byt w0 w0.heap.size A m c bs) :
    Calls Try.prog 25 #[.slice A m c] w0 fun e w' => ∃ q, e = .returned (.slice (some ⟨q, 0, none⟩) 48 48) ∧ Own w' w0.heap.size 5 1 (some ⟨q, 0, none⟩) 48 48 (bcells (Pg.pad bs)) ∧ Below w0.heap.size w0 w' := by
  have hm := Mem.nil (fun _ => False) w0
  have HB := Lib.hid hb
  have m48 : ∀ u : World, (Instr.makeSlice 39 (.int .i64 48) (.int .i64 48)).run Try.prog u = .ok (.slice (some ⟨u.heap.size, 0, none⟩) 48 48) (u.alloc (.cells (zc 48) 5)) := fun _ => by kernel_rfl
  have hN : (bs.take 48).length = Nat.min m 48 := by rw [List.length_take, hb.1]; exact Nat.min_comm _ _
  have SRC := Lib.hid (fun (u : World) (hu : Below w0.heap.size w0 u) (h0 : 0 < (bs.take 48).length) => show ∃ ad, A = some ad ∧ ∀ j v, (bcells (bs.take 48))[j]? = some v → u.cell? (ad.add j) = some v by
    have hm0 : 0 < m := by rw [List.length_take] at h0; have := hb.1; omega
    obtain ⟨b, o, e, _, hc⟩ := (hb.below hu).2.2 (by rw [length_bcells, hb.1]; exact hm0)
    refine ⟨_, e, fun j v hj => ?_⟩
    have h3 : (bcells bs)[j]? = some v := by
      rw [bcells, List.map_take] at hj
      rw [List.getElem?_take] at hj
      split at hj
      · exact hj
      · cases hj
    rw [addr_add]
    exact (hc j (List.getElem?_eq_some_iff.1 h3).1).trans h3)
  clear hb
  go_enter Try.func25, Try.ntmps25
  go_wp2_with (first | go_skip | ((with_reducible show wpList _ _ _ _ _ (World.alloc _ _)); refine wpList_up hm ?_; clear hm; intro n w hn hn2 hk hm hd hd2 ho; (try rw [← hn]); replace hn := Nat.le_of_eq hn.symm) | ((first | ((with_reducible show wpList _ _ _ (Oper.mk _ (Op.box _ _) _ _ _ _ :: _) _ _); (refine bxA hm ?_; clear hm; intro n w hn hz hm ho; (try simp only [List.cons_append, List.nil_append] at hm))) | ((with_reducible show wpList _ _ _ (Oper.mk _ (Op.load _ _) _ _ _ _ :: _) _ _); first | (refine ldA hm ?_) | (refine laA hm ?_)) | ((with_reducible show wpList _ _ _ (Oper.mk _ (Op.store _ _ _) _ _ _ _ :: _) _ _); (refine stA hm ?_; clear hm; intro w hz hm ho)) | ((with_reducible show wpList _ _ _ (Oper.mk _ (Op.alloc _) _ _ _ _ :: _) _ _); (refine alA hm ?_; clear hm; intro n w hn hz hm ho; (try simp only [List.cons_append, List.nil_append] at hm)))); try simp only [Act.put, sxQ]) | ((with_reducible show wpList _ _ _ (Oper.mk _ (Op.call { callee := Callee.builtin Builtin.copy, args := _, argTypes := _ }) _ _ _ _ :: _) _ _); refine wpList_copy_splice rfl (.tmp 5) (.tmp 6) 39 39 rfl 5 Try.underlying39 (by kernel_rfl) _ _ 48 48 m c rfl rfl n 0 (bcells (zs 48)) 5 hk (bcells (bs.take 48)) (by rw [bcells, List.length_map]; exact hN) (fun h0 => ⟨rfl, SRC.out w hm.low (by rw [bcells, List.length_map] at h0; exact h0)⟩) (by simp [bcells, zs]; omega) (fun v hv => bcells_one _ v hv) w0.heap.size w0 hm.low hn2 ?_; intro w3 hw3 hb3))
  go_ret
  refine ⟨n, rfl, own_pad (show Blk w3 n 5 (bcells (Pg.pad bs)).toArray from ?_) hn2 (Pg.pad_length bs), hb3⟩
  have h9 := hw3.out
  rw [pad_cells] at h9
  exact h9
/-- New memory, and its pages. -/
def OpnRes (w : World) (n : Nat) (e : Ending) (w' : World) : Prop :=
  Below w.heap.size w w' ∧ ∃ gm g G s p, e = .returned (.tuple #[.pointer (some ⟨gm, 0, none⟩), .pointer (some ⟨g, 0, none⟩), .bool true]) ∧ PAt w' g G s p ∧ s.gm = gm ∧ s.n = n ∧ Pg.Live 70000 Pg.noFr p (Pg.zeros n) ∧ p.m = Cel.Mem.new n 1073741824 ∧ p.fixed = 0 ∧ ∀ q, G q → w.heap.size ≤ q
theorem law11_open (n : Nat) (w0 : World) (h1 : 240 ≤ n) (h2 : n ≤ 65536) : Calls Try.prog 22 #[.int .i64 (n : Int)] w0 (OpnRes w0 n) := by
  have hm := Mem.nil (fun _ => False) w0
  have HN := Lib.hid (fun (u : World) => cell_New n 1073741824 u (by omega) h2 (by omega))
  have HC := Lib.hid (Pg.new_can n h1 h2)
  have hoff : (Cel.Mem.new n 1073741824).off = false := rfl
  clear h1 h2
  go_enter Try.func22, Try.ntmps22
  go_wp2_with fail
  go_at_call 11
  refine (HN.out _).mono ?_
  rintro e w1 ⟨gm, gw, gv, rfl, hmem, hg1, hg2, hg3, hb1⟩
  replace hm := hm.below hb1
  go_wp2_with fail
  go_at_call 12
  refine (page_Open_can hmem hoff HC.out.1 (by omega)).mono ?_
  rintro e w2 ⟨hb2, g, G, s, p, rfl, hL, hpm, hfx, hp, e1, e2, e3, e4, e5, e6, hG⟩
  go_wp2_with fail
  go_ret3
  have hz := hb1.size
  refine ⟨hb1.trans (hb2.mono hb1.size), gm, g, G, s, p, rfl, hp, e1, e4, hL, hpm, hfx HC.out.2, fun q hq => ?_⟩
  rcases hG q hq with h | h | h | h <;> omega
end Go.Proofs.Ytnlhammgcemchaa
