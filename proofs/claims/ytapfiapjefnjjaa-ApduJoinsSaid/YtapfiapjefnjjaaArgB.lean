/-
  Arguments that came in: a slice of slices of bytes.
-/
import Derived.Test.YtapfiapjefnjjaaRows
import Derived.Test.YtapfiapjefnjjaaArg
import Derived.Test.YtapfiapjefnjjaaFld
import Derived.Test.YtapfiapjefnjjaaByts
import Derived.Deep.Matrix
namespace Go.Proofs.Ytapfiapjefnjjaa
open Go.RowKit Go.ChangeShapes Go.WideShapes Go.Deep

theorem weights_all {H : Type} {P : Program} {e : TypeId} {d : DataW H} {x : Nat} : ∀ {l : List (DataW H)}, d ∈ l → x ∈ DataW.weights P e d → x ∈ DataW.weightsAll P e l
  | [], hd, _ => by cases hd
  | y :: l, hd, hx => by
    simp only [DataW.weightsAll, List.mem_append]
    rcases List.mem_cons.1 hd with rfl | h
    · exact .inl hx
    · exact .inr (weights_all h hx)
theorem bss_of_trod {H : Type} {enc : TypeId × Value → H} {w : World} {base : Nat} {held : Bool} {A : Option Addr} {n c : Nat} {d : DataW H} {p : List MemPlace}
    (h : DataW.Trod enc Try.prog w base (fun _ => true) held 70 (.slice A n c) d p) (hsz : ∀ x ∈ DataW.weights Try.prog 70 d, x ≤ reachBytes) : ∃ vs : List SV, (vs.length = n ∧ Byts w w.heap.size A vs ∧ n ≤ c ∧ ∀ v ∈ vs, v.c ≤ 140737488351232) ∧ c ≤ maxLen := by
  obtain ⟨fuel, hf⟩ := h
  rcases open_int_rows Try.underlying70 Try.underlying22 Try.underlying5 (by kernel_rfl) (by kernel_rfl) hf with ⟨hcs, _⟩ | ⟨a, len, cap, X, L, C, Z, hcs, _, hl, hm, hdp, hr⟩
  · simp [Value.cells] at hcs
    obtain ⟨rfl, rfl, rfl⟩ := hcs
    exact ⟨[], ⟨rfl, ⟨Row.nil _ _ _, fun v hv => (by cases hv)⟩, Nat.le_refl _, fun v hv => (by cases hv)⟩, Nat.zero_le _⟩
  · simp [Value.cells] at hcs
    obtain ⟨rfl, rfl, rfl⟩ := hcs
    have hd : d = .slice ((List.range n).map fun r => intRow .u8 (X r) (L r) (Z r)) ((List.range (c - n)).map fun j => intRow .u8 (X (n + j)) (L (n + j)) (Z (n + j))) := by
      injection hdp
    have hbyt : (Try.prog).bytesOf 5 = 1 := by kernel_rfl
    have key : ∀ r, r < n → ∃ v : SV, w.cell? (a.add r) = some (.slice v.a v.n v.c) ∧ Byt w w.heap.size v.a v.n v.c v.bs ∧ v.c ≤ 140737488351232 := fun r hrn => by
      obtain ⟨h1, h2, h3, h4, h5, h6, h7⟩ := hr r (by omega)
      have hcr : C r ≤ 140737488351232 := by
        cases hx : X r with
        | none => have := h6 hx; omega
        | some a' =>
          have hw : C r ∈ DataW.weights (H := H) Try.prog 22 (intRow .u8 (X r) (L r) (Z r)) := by
            rw [hx]
            simp only [intRow, DataW.weights, Try.underlying22, hbyt, Nat.mul_one]
            refine List.mem_cons.2 (.inl ?_)
            simp only [lits, List.length_map, List.length_take, List.length_drop]
            omega
          have hin : C r ∈ DataW.weights (H := H) Try.prog 70 d := by
            rw [hd]
            simp only [DataW.weights, Try.underlying70]
            refine List.mem_cons.2 (.inr (List.mem_append.2 (.inl (weights_all (List.mem_map.2 ⟨r, List.mem_range.2 hrn, rfl⟩) hw))))
          have := hsz _ hin
          simp only [reachBytes] at this
          omega
      have : ∃ bs, Byt w w.heap.size (X r) (L r) (C r) bs ∧ C r ≤ maxLen := by
        refine byt_of_row (zs := Z r) ?_
        cases hx : X r with
        | none =>
          have hc0 := h6 hx
          exact .inl ⟨rfl, by omega, hc0, List.eq_nil_of_length_eq_zero (by rw [h4]; exact hc0)⟩
        | some a' =>
          obtain ⟨_, h8⟩ := h7 a' hx
          exact .inr ⟨a', rfl, h2, h3, h4, fun i hi => h8 i (by omega), h5⟩
      obtain ⟨bs, hb, _⟩ := this
      exact ⟨⟨X r, L r, C r, bs⟩, h1, hb, hcr⟩
    obtain ⟨f, hf⟩ := @choose_lt _ ⟨(⟨none, 0, 0, []⟩ : SV)⟩ n _ key
    refine ⟨(List.range n).map f, ⟨by simp, ⟨fun hn => ?_, fun v hv => ?_⟩, hl, fun v hv => ?_⟩, hm⟩
    · have hn0 : 0 < n := by simpa using hn
      obtain ⟨b, o, rfl, hb⟩ := spot_none ((hf 0 hn0).1)
      refine ⟨b, o, rfl, hb, fun j hj => ?_⟩
      have hjn : j < n := by simpa using hj
      have := (hf j hjn).1
      rw [add_eq] at this
      rw [this]
      simp [hjn, SV.val]
    · obtain ⟨r, hr2, rfl⟩ := List.mem_map.1 hv
      exact (hf r (List.mem_range.1 hr2)).2.1
    · obtain ⟨r, hr2, rfl⟩ := List.mem_map.1 hv
      exact (hf r (List.mem_range.1 hr2)).2.2
end Go.Proofs.Ytapfiapjefnjjaa
