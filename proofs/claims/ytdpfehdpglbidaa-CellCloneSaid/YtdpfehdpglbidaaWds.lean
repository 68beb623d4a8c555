/-
  Slices of 32-bit words. Nothing here names a program.
-/
import Derived.Test.YtdpfehdpglbidaaOnly
namespace Go.Proofs.Ytdpfehdpglbidaa
open Go.RowKit

/-- A slice of words: n of them, capacity c. -/
def Wds (w : World) (B : Nat) (A : Option Addr) (n c : Nat) (ws : List UInt32) : Prop := ws.length = n ∧ n ≤ c ∧ Row w B A (ws.map W32)
section
variable {w w' : World} {B B' : Nat} {A : Option Addr} {n c : Nat} {ws : List UInt32}
theorem Wds.below (h : Wds w B A n c ws) (hb : Below B w w') : Wds w' B A n c ws := ⟨h.1, h.2.1, h.2.2.below hb⟩
theorem Wds.more (h : Wds w B A n c ws) (hB : B ≤ B') : Wds w B' A n c ws := ⟨h.1, h.2.1, h.2.2.more hB⟩
theorem Wds.at_ (h : Wds w B A n c ws) {k : Nat} (hk : k < n) : ∃ b o, A = some ⟨b, o, none⟩ ∧ b < B ∧ w.cell? ⟨b, o + k, none⟩ = some (.int .u32 ((ws.getD k 0).toNat : Int)) := by
  have hl : k < ws.length := by rw [h.1]; exact hk
  obtain ⟨b, o, e, hb, hc⟩ := h.2.2.at_ (j := k) (by simpa using hl)
  exact ⟨b, o, e, hb, by rw [hc]; simp [List.getD, List.getElem?_eq_getElem hl]⟩
end
theorem wds_of_row {w : World} {a : Option Addr} {len cap : Nat} {zs : List Int}
    (h : (a = none ∧ len = 0 ∧ cap = 0 ∧ zs = []) ∨ ∃ x, a = some x ∧ len ≤ cap ∧ cap ≤ maxLen ∧ zs.length = cap ∧ (∀ i, i < zs.length → w.cell? (x.add i) = some (.int .u32 (zs.getD i 0))) ∧ ∀ n ∈ zs, (Lit.int .u32 n).wf = true) :
    ∃ ws, Wds w w.heap.size a len cap ws ∧ cap ≤ maxLen := by
  rcases h with ⟨rfl, rfl, rfl, rfl⟩ | ⟨x, rfl, hl, hm, hz, hc, hw⟩
  · exact ⟨[], ⟨rfl, Nat.le_refl _, Row.nil _ _ _⟩, Nat.zero_le _⟩
  · refine ⟨(zs.take len).map fun z => UInt32.ofNat z.toNat, ⟨by simp; omega, hl, fun hn => ?_⟩, hm⟩
    have hn' : 0 < len := by simp at hn; omega
    have hc0 := hc 0 (by omega)
    have hx0 : x.add 0 = x := by unfold Addr.add; simp
    rw [hx0] at hc0
    obtain ⟨b, o, s⟩ := x
    have hs : s = none := by
      cases s with
      | none => rfl
      | some q => simp only [World.cell?] at hc0; split at hc0 <;> simp at hc0
    subst hs
    refine ⟨b, o, rfl, World.block_lt_of_cell? w _ hc0, fun j hj => ?_⟩
    rw [List.length_map, List.length_map, List.length_take] at hj
    have hj' : j < zs.length := by omega
    have h1 := hc j hj'
    rw [add_eq] at h1
    rw [h1, List.getElem?_map, List.getElem?_map, List.getElem?_take, if_pos (by omega), List.getElem?_eq_getElem hj']
    have hb := hw zs[j] (List.getElem_mem hj')
    have hbd : 0 ≤ zs[j] ∧ zs[j] ≤ 4294967295 := by simpa [Lit.wf, IntKind.min, IntKind.max, IntKind.signed, IntKind.bits] using hb
    simp only [List.getD, List.getElem?_eq_getElem hj', Option.getD_some, Option.map_some, W32]
    congr 2
    rw [UInt32.toNat_ofNat_of_lt' (by simp only [UInt32.size]; omega)]
    omega
end Go.Proofs.Ytdpfehdpglbidaa
