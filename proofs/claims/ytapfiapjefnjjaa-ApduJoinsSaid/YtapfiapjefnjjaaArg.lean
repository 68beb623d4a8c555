/-
  Arguments that came in: a slice of bytes, as the form's reader gives it.
-/
import Derived.Test.YtapfiapjefnjjaaMem
namespace Go.Proofs.Ytapfiapjefnjjaa
open Go.RowKit

theorem byt_of_row {w : World} {a : Option Addr} {len cap : Nat} {zs : List Int}
    (h : (a = none ∧ len = 0 ∧ cap = 0 ∧ zs = []) ∨ ∃ x, a = some x ∧ len ≤ cap ∧ cap ≤ maxLen ∧ zs.length = cap ∧ (∀ i, i < zs.length → w.cell? (x.add i) = some (.int .u8 (zs.getD i 0))) ∧ ∀ n ∈ zs, (Lit.int .u8 n).wf = true) :
    ∃ bs, Byt w w.heap.size a len cap bs ∧ cap ≤ maxLen := by
  rcases h with ⟨rfl, rfl, rfl, rfl⟩ | ⟨x, rfl, hl, hm, hz, hc, hw⟩
  · exact ⟨[], ⟨rfl, Nat.le_refl _, Row.nil _ _ _⟩, Nat.zero_le _⟩
  · refine ⟨(zs.take len).map fun z => UInt8.ofNat z.toNat, ⟨by simp; omega, hl, fun hn => ?_⟩, hm⟩
    have hn' : 0 < len := by simp at hn; omega
    have hc0 := hc 0 (by omega)
    have hx0 : x.add 0 = x := by unfold Addr.add; simp
    rw [hx0] at hc0
    obtain ⟨b, o, s⟩ := x
    have hs : s = none := by
      cases s with
      | none => rfl
      | some q => simp only [World.cell?] at hc0; split at hc0 <;> simp at hc0
    subst hs
    refine ⟨b, o, rfl, World.block_lt_of_cell? w _ hc0, fun j hj => ?_⟩
    rw [length_bcells, List.length_map, List.length_take] at hj
    have hj' : j < zs.length := by omega
    have h1 := hc j hj'
    rw [add_eq] at h1
    rw [h1, bcells_get, List.getElem?_map, List.getElem?_take, if_pos (by omega), List.getElem?_eq_getElem hj']
    have hb := hw zs[j] (List.getElem_mem hj')
    have hbd : 0 ≤ zs[j] ∧ zs[j] ≤ 255 := by simpa [Lit.wf, IntKind.min, IntKind.max, IntKind.signed, IntKind.bits] using hb
    simp only [List.getD, List.getElem?_eq_getElem hj', Option.getD_some, Option.map_some, B8]
    congr 2
    rw [UInt8.toNat_ofNat_of_lt' (by simp only [UInt8.size]; omega)]
    omega
end Go.Proofs.Ytapfiapjefnjjaa
