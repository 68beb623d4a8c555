/-
  'append(out, make([]byte, m)...)' onto a slice of the call's own. Nothing here names a program.
-/
import Derived.Test.YtapfiapjefnjjaaByn
namespace Go.Proofs.Ytapfiapjefnjjaa
open Go.RowKit

theorem zeroCells_u8 (m : Nat) : Builtin.zeroCells #[Value.int .u8 0] m = (bcells (zs m)).toArray := by
  apply Array.ext
  · simp [Builtin.zeroCells, zs]
  · intro i h1 h2; simp [Builtin.zeroCells, Nat.mod_one, bcells, zs, B8]

section
variable {P : Program} (w : World)
theorem run_appendz (base : Nat) (t ti ty e : TypeId) (i : TypeInfo) (ht : P.underlying t = some (.slice e)) (hti : P.underlying ti = some (.int .i64)) (hi : P.info? e = some i) (hz : i.zero = some (.int .u8 0))
    (hs : i.size = 1) (hb : i.bytes = 1) (A : Option Addr) (n c : Nat) (cs : List Value) (hown : Own w base e 1 A n c cs) (hc0 : 0 < c) (m : Nat) (hm : 0 < m) (hnm : n + m ≤ 1099511627776) (hbase : base ≤ w.heap.size) :
    ∃ A2 c2 w2, (Builtin.append_ #[t, ti] ty #[.slice A n c, .int .i64 (m : Int)]).run P w = .ok (.slice A2 (n + m) c2) w2 ∧ Own w2 base e 1 A2 (n + m) c2 (cs ++ bcells (zs m)) ∧ w.grownBy w2 (ownAt A c) := by
  obtain ⟨hlen, hnc, hcm, hc⟩ := hown
  obtain ⟨g, cur, rfl, hbg, hg, hcs, htake⟩ := hc hc0
  have wm : IntKind.i64.wrap (m : Int) = (m : Int) := by rw [IntKind.wrap_i64]; omega
  have n1 : ¬ (m : Int) < 0 := by omega
  have n2 : ¬ (281474976710656 : Int) < (m : Int) := by omega
  have n3 : ¬ m = 0 := by omega
  have hlen2 : (cs ++ bcells (zs m)).length = (n + m) * 1 := by rw [List.length_append, hlen, length_bcells, zs_length]; omega
  by_cases hroom : n + m ≤ c
  · have hst := run_storeCells_at P g n e (bcells (zs m)) 0 cur w hg (by rw [length_bcells, zs_length]; omega) (bcells_one _)
    simp only [Nat.add_zero] at hst
    have hr : (Builtin.append_ #[t, ti] ty #[.slice (some ⟨g, 0, none⟩) n c, .int .i64 (m : Int)]).run P w = .ok (.slice (some ⟨g, 0, none⟩) (n + m) c) (w.setRow g (cur.toList.take n ++ bcells (zs m) ++ cur.toList.drop (n + (bcells (zs m)).length)).toArray) := by
      simp [Builtin.append_, run_underlying ht, run_underlying hti, sizeOf, typeInfo, zeroValue, asInt, asIntOf, hi, hz, hs, hb, wm, n1, n2, n3, hroom, Addr.add_lit, zeroCells_u8, Value.cells] at hst ⊢
      rw [hst]; rfl
    refine ⟨_, _, _, hr, ⟨hlen2, hroom, hcm, fun _ => ⟨g, _, rfl, hbg, setRow_heap w g cur _ e _ hg, ?_, ?_⟩⟩, ⟨rfl, rfl, rfl, by simp, fun k hk hne => setRow_other w g k _ (fun e => hne (by simp [ownAt, e]; omega))⟩⟩
    · simp only [List.size_toArray, List.length_append, List.length_take, List.length_drop, Array.length_toList]
      omega
    · rw [← htake, Nat.mul_one, Nat.mul_one, show n + m = (cur.toList.take n ++ bcells (zs m)).length by rw [List.length_append, List.length_take, Array.length_toList, length_bcells, zs_length]; omega]
      exact List.take_left
  · have hfo := run_firstCells_some (P := P) w.drew 1 n ⟨g, 0, none⟩ n c cs hlen (fun j u hu => by
      have hj : j < cs.length := (List.getElem?_eq_some_iff.1 hu).1
      show w.cell? _ = _
      rw [add_eq, Nat.zero_add, cell_of_row w g j cur e (0, 0) hg]
      rw [← htake, List.getElem?_take] at hu
      split at hu
      · simpa using hu
      · cases hu)
    have hcap := grownCap_ge w (n + m) c e
    have hcap2 := grownCap_le_maxLen w (n + m) c e (by unfold maxLen; omega)
    have h63 : ¬ (9223372036854775807 < ((n : Int) + (m : Int))) := by omega
    have h48 : ¬ (281474976710656 < Builtin.nextslicecap (n + m) c) := by
      have := growslice_fits (need := n + m) (old := c) (bytes := 1) (by omega) (by omega)
      omega
    have hr : (Builtin.append_ #[t, ti] ty #[.slice (some ⟨g, 0, none⟩) n c, .int .i64 (m : Int)]).run P w =
        .ok (.slice (some ⟨w.heap.size, 0, none⟩) (n + m) (grownCap w (n + m) c e))
          (w.drew.alloc (.cells (cs.toArray ++ (bcells (zs m)).toArray ++ Builtin.zeroCells #[.int .u8 0] (grownCap w (n + m) c e - (n + m))) e)) := by
      simp [Builtin.append_, run_underlying ht, run_underlying hti, sizeOf, typeInfo, zeroValue, asInt, asIntOf, hi, hz, hs, hb, wm, n1, n2, n3, hroom, h63, h48, Question.forced, zeroCells_u8, Value.cells, hfo, newRow, grownCap]
    refine ⟨_, _, _, hr, ⟨hlen2, hcap, hcap2, fun _ => ⟨w.heap.size, _, rfl, hbase, heap_alloc_new w.drew _, ?_, ?_⟩⟩, ⟨rfl, rfl, rfl, by simp, fun k hk _ => Below.heap_alloc w.drew _ k hk⟩⟩
    · simp only [Array.size_append, List.size_toArray, size_zeroCells, hlen, length_bcells, zs_length]
      simp
      omega
    · simp only [Array.toList_append]
      rw [← hlen2]
      exact List.take_left

theorem wpList_appendz {ops : Array Oper} {rest : List Oper} {o : Oper} {a : Act} {Q : Exit → Act → World → Prop} (hgd : o.guard = none) (x y : Operand) (t ti : TypeId)
    (ho : o.op = .call { callee := .builtin .append, args := #[x, y], argTypes := #[t, ti] })
    (base : Nat) (e : TypeId) (i : TypeInfo) (ht : P.underlying t = some (.slice e)) (hti : P.underlying ti = some (.int .i64)) (hi : P.info? e = some i) (hz : i.zero = some (.int .u8 0))
    (hs : i.size = 1) (hb : i.bytes = 1) (A : Option Addr) (n c : Nat) (cs : List Value) (hx : a.eval x = .slice A n c) (hown : Own w base e 1 A n c cs) (hc0 : 0 < c) (z : Int) (m : Nat) (hzm : z = (m : Int)) (hy : a.eval y = .int .i64 z) (hm : 0 < m) (hnm : n + m ≤ 1099511627776) (hbase : base ≤ w.heap.size)
    (h : ∀ A2 c2 w2, Own w2 base e 1 A2 (n + m) c2 (cs ++ bcells (zs m)) → w.grownBy w2 (ownAt A c) → wpList P ops Q rest (a.put o.dst (.slice A2 (n + m) c2)) w2) : wpList P ops Q (o :: rest) a w := by
  subst hzm
  refine wpList_plain hgd fun _ hK => ?_
  obtain ⟨A2, c2, w2, hrun, h2, h3⟩ := run_appendz (P := P) w base t ti o.type e i ht hti hi hz hs hb A n c cs hown hc0 m hm hnm hbase
  unfold Oper.wp execOp
  simp only [ho, resolve, invoke, builtin, Sem.run_bind, Sem.run_pure, Result.andThen_ok, List.map_toArray, List.map_cons, List.map_nil, hx, hy, hrun]
  exact hK _ _ (h A2 c2 w2 h2 h3)
end
end Go.Proofs.Ytapfiapjefnjjaa
