/-
  An argument that came in: a slice of commands, with the reach of its bytes.
-/
import Derived.Test.YtapfiapjefnjjaaApdO
import Derived.Test.YtapfiapjefnjjaaApdAE
import Derived.Test.YtapfiapjefnjjaaArgB
namespace Go.Proofs.Ytapfiapjefnjjaa
set_option linter.unusedSimpArgs false
open Go.RowKit Go.ChangeShapes Go.WideShapes Go.Deep

section
variable {H : Type} {enc : TypeId × Value → H} {P : Program} {w : World} {base : Nat} {held : Bool}
/-- Every field of every element has its cell, is read by itself, and its weights are among the slice's. -/
theorem fieldsw_of_slice {t e : TypeId} {fs : Array Field} {fuel : Nat} {cs : List Value} {x : DataW H × List MemPlace} (ht : P.underlying t = some (.slice e)) (he : P.underlying e = some (.struct fs))
    (hone : oneCellFields P fs = true) (hC : P.cellsOf e = fs.size) (h : DataW.trod enc P w base (fun _ => true) held fuel t cs = some x) (hsz : ∀ y ∈ DataW.weights P t x.1, y ≤ reachBytes) :
    cs = [.slice none 0 0] ∨ ∃ (a : Addr) (len cap : Nat), cs = [.slice (some a) len cap] ∧ len ≤ cap ∧ cap ≤ maxLen ∧
      ∀ (i j : Nat) (f : Field), i < len → fs[j]? = some f → ∃ (v : Value) (y : DataW H × List MemPlace) (n : Nat), w.cell? (a.add (i * fs.size + j)) = some v ∧ DataW.trod enc P w base (fun _ => true) held n f.type [v] = some y ∧ ∀ z ∈ DataW.weights P f.type y.1, z ≤ reachBytes := by
  rcases open_slice ht h with h0 | ⟨a, len, cap, m, n, D, Pl, hcs, _, hl, hm, hmm, hx, hi⟩
  · exact .inl h0.1
  · refine .inr ⟨a, len, cap, hcs, hl, hm, fun i j f hlt hj => ?_⟩
    obtain ⟨l, hc, hd⟩ := hi i (by rw [hmm]; split <;> omega)
    rw [hC] at hc
    obtain ⟨ys, k, _, hye, _, hyl, hf⟩ := DataW.trod_struct he hd
    obtain ⟨_, hll, hat⟩ := World.cells?_some hc
    obtain ⟨ho, hk⟩ := hone_of hone j f hj
    have hjl : j < fs.size := (Array.getElem?_eq_some_iff.1 hj).1
    have h1 := hf j f hj
    have hd1 : l.drop j = l[j]'(by omega) :: l.drop (j + 1) := List.drop_eq_getElem_cons (by omega)
    rw [ho, hk, hd1, List.getElem?_eq_getElem (by omega)] at h1
    refine ⟨l[j]'(by omega), _, k, ?_, h1, fun z hz => ?_⟩
    · rw [← add_add, hat j hjl, List.getElem?_eq_getElem (by omega)]
    · refine hsz z ?_
      rw [hx]
      simp only [DataW.weights, ht]
      refine List.mem_cons.2 (.inr (List.mem_append.2 (.inl ?_)))
      refine weights_all (d := D i) (List.mem_map.2 ⟨i, List.mem_range.2 hlt, rfl⟩) ?_
      have hDi : D i = .agg (ys.map (·.1)) := congrArg Prod.fst hye
      rw [hDi]
      simp only [DataW.weights, he]
      refine DataW.weights_mem_each (j := j) (t := f.type) (d := (ys[j]'(by omega)).1) ?_ ?_ z hz
      · rw [List.getElem?_map, Array.getElem?_toList, hj]; rfl
      · rw [List.getElem?_map, List.getElem?_eq_getElem (by omega)]; rfl
/-- A field that is a slice of bytes, with its reach. -/
theorem fbytw_of_trod {t e : TypeId} {n : Nat} {v : Value} {y : DataW H × List MemPlace} (ht : P.underlying t = some (.slice e)) (he : P.underlying e = some (.int .u8)) (hC : P.cellsOf e = 1) (hB : P.bytesOf e = 1)
    (h : DataW.trod enc P w base (fun _ => true) held n t [v] = some y) (hsz : ∀ z ∈ DataW.weights P t y.1, z ≤ reachBytes) :
    ∃ A len cap bs, v = .slice A len cap ∧ Byt w w.heap.size A len cap bs ∧ cap ≤ maxLen ∧ len ≤ 140737488351232 := by
  obtain ⟨A, len, cap, bs, hv, hb, hm⟩ := fbyt_of_trod ht he hC h
  refine ⟨A, len, cap, bs, hv, hb, hm, ?_⟩
  rcases open_slice1 ht hC h with ⟨h0, _⟩ | ⟨a, len2, cap2, m, n, V, D, Pl, hcs, _, hl, _, hmm, hx, _⟩
  · rw [hv] at h0
    injection h0 with h0
    injection h0 with _ h0 _
    omega
  · rw [hv] at hcs
    injection hcs with hcs
    injection hcs with _ h1 h2
    have := hsz (len2 + (m - len2)) (by
      rw [hx]
      simp only [DataW.weights, ht, hB, Nat.mul_one]
      refine List.mem_cons.2 (.inl ?_)
      simp)
    simp only [reachBytes] at this
    omega
end

set_option maxHeartbeats 4000000 in
theorem cmds_of_trod {H : Type} {enc : TypeId × Value → H} {w : World} {base : Nat} {held : Bool} {A : Option Addr} {n c : Nat} {d : DataW H} {p : List MemPlace}
    (h : DataW.Trod enc Try.prog w base (fun _ => true) held 53 (.slice A n c) d p) (hsz : ∀ x ∈ DataW.weights Try.prog 53 d, x ≤ reachBytes) :
    ∃ vs : List CV, (vs.length = n ∧ Cmds w w.heap.size A vs ∧ n ≤ c ∧ ∀ v ∈ vs, v.d.n ≤ 140737488351232) ∧ c ≤ maxLen := by
  obtain ⟨fuel, hf⟩ := h
  rcases fieldsw_of_slice Try.underlying53 Try.underlying24 (by kernel_rfl) (by kernel_rfl) hf hsz with hcs | ⟨a, len, cap, hcs, hl, hm, hr⟩
  · simp [Value.cells] at hcs
    obtain ⟨rfl, rfl, rfl⟩ := hcs
    exact ⟨[], ⟨rfl, ⟨Row.nil _ _ _, fun v hv => (by cases hv)⟩, Nat.le_refl _, fun v hv => (by cases hv)⟩, Nat.zero_le _⟩
  · simp [Value.cells] at hcs
    obtain ⟨rfl, rfl, rfl⟩ := hcs
    have key : ∀ r, r < n → ∃ v : CV, (∀ j, j < 7 → w.cell? (a.add (r * 7 + j)) = v.cells[j]?) ∧ Byt w w.heap.size v.d.a v.d.n v.d.c v.d.bs ∧ v.d.n ≤ 140737488351232 := fun r hrn => by
      obtain ⟨v0, y0, n0, c0, t0, -⟩ := hr r 0 _ hrn rfl
      obtain ⟨v1, y1, n1, c1, t1, -⟩ := hr r 1 _ hrn rfl
      obtain ⟨v2, y2, n2, c2, t2, -⟩ := hr r 2 _ hrn rfl
      obtain ⟨v3, y3, n3, c3, t3, -⟩ := hr r 3 _ hrn rfl
      obtain ⟨v4, y4, n4, c4, t4, s4⟩ := hr r 4 _ hrn rfl
      obtain ⟨v5, y5, n5, c5, t5, -⟩ := hr r 5 _ hrn rfl
      obtain ⟨v6, y6, n6, c6, t6, -⟩ := hr r 6 _ hrn rfl
      obtain ⟨z0, rfl, f0⟩ := fint_of_trod Try.underlying3 t0
      obtain ⟨z1, rfl, f1⟩ := fint_of_trod Try.underlying3 t1
      obtain ⟨z2, rfl, f2⟩ := fint_of_trod Try.underlying3 t2
      obtain ⟨z3, rfl, f3⟩ := fint_of_trod Try.underlying3 t3
      obtain ⟨A, n, c, b, rfl, hb, hm, hre⟩ := fbytw_of_trod Try.underlying22 Try.underlying5 (by kernel_rfl) (by kernel_rfl) t4 s4
      obtain ⟨z5, rfl, f5⟩ := fint_of_trod Try.underlying3 t5
      obtain ⟨z6, rfl⟩ := fbool_of_trod Try.underlying4 t6
      refine ⟨⟨z0, z1, z2, z3, ⟨A, n, c, b⟩, z5, z6⟩, fun j hj => ?_, hb, hre⟩
      rcases (show j = 0 ∨ j = 1 ∨ j = 2 ∨ j = 3 ∨ j = 4 ∨ j = 5 ∨ j = 6 by omega) with rfl | rfl | rfl | rfl | rfl | rfl | rfl
      · exact c0
      · exact c1
      · exact c2
      · exact c3
      · exact c4
      · exact c5
      · exact c6
    obtain ⟨f, hf⟩ := @choose_lt _ ⟨(⟨0, 0, 0, 0, ⟨none, 0, 0, []⟩, 0, false⟩ : CV)⟩ n _ key
    refine ⟨(List.range n).map f, ⟨by simp, ⟨fun hn => ?_, fun v hv => ?_⟩, hl, fun v hv => ?_⟩, hm⟩
    · have hn0 : 0 < n := by rw [length_ccells] at hn; simpa using hn
      have h00 := (hf 0 hn0).1 0 (by omega)
      rw [show (0 : Nat) * 7 + 0 = 0 from rfl] at h00
      obtain ⟨b, o, rfl, hb⟩ := spot_none (v := I64 (f 0).cla) (by rw [h00]; rfl)
      refine ⟨b, o, rfl, hb, fun j hj => ?_⟩
      rw [length_ccells] at hj
      have hjn : j < 7 * n := by simpa using hj
      have h1 : j / 7 < n := by omega
      have := (hf (j / 7) h1).1 (j % 7) (Nat.mod_lt _ (by omega))
      rw [add_eq, show j / 7 * 7 + j % 7 = j by omega] at this
      rw [this]
      have h2 : j / 7 < ((List.range n).map f).length := by simpa using h1
      have h3 := ccells_get _ (j / 7) h2 (j % 7) (Nat.mod_lt _ (by omega))
      rw [show j / 7 * 7 + j % 7 = j by omega] at h3
      rw [h3]
      simp
    · obtain ⟨r, hr2, rfl⟩ := List.mem_map.1 hv
      exact (hf r (List.mem_range.1 hr2)).2.1
    · obtain ⟨r, hr2, rfl⟩ := List.mem_map.1 hv
      exact (hf r (List.mem_range.1 hr2)).2.2
end Go.Proofs.Ytapfiapjefnjjaa
