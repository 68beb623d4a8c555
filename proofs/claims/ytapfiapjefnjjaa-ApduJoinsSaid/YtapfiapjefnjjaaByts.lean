/-
  Slices of slices of bytes. Nothing here names a program.
-/
import Derived.Test.YtapfiapjefnjjaaMem
namespace Go.Proofs.Ytapfiapjefnjjaa
open Go.RowKit

/-- A slice of bytes as a value, with what it shows. -/
structure SV where
  a : Option Addr
  n : Nat
  c : Nat
  bs : List UInt8
def SV.val (v : SV) : Value := .slice v.a v.n v.c
/-- What the strings are together. -/
def joined (vs : List SV) : List UInt8 := vs.flatMap (·.bs)
theorem joined_nil : joined [] = [] := rfl
theorem joined_take (vs : List SV) (k : Nat) (h : k < vs.length) : joined (vs.take (k + 1)) = joined (vs.take k) ++ vs[k].bs := by
  unfold joined
  rw [List.take_succ_eq_append_getElem h, List.flatMap_append]; simp
theorem joined_le (vs : List SV) (k : Nat) : (joined (vs.take k)).length ≤ (joined vs).length := by
  have h : joined vs = joined (vs.take k) ++ joined (vs.drop k) := by
    unfold joined; rw [← List.flatMap_append, List.take_append_drop]
  rw [h, List.length_append]; omega
/-- A slice of such slices. -/
def Byts (w : World) (B : Nat) (A : Option Addr) (vs : List SV) : Prop := Row w B A (vs.map SV.val) ∧ ∀ v ∈ vs, Byt w B v.a v.n v.c v.bs
section
variable {w w' : World} {B B' : Nat} {A : Option Addr} {vs : List SV}
theorem Byts.below (h : Byts w B A vs) (hb : Below B w w') : Byts w' B A vs := ⟨h.1.below hb, fun v hv => (h.2 v hv).below hb⟩
theorem Byts.more (h : Byts w B A vs) (hB : B ≤ B') : Byts w B' A vs := ⟨h.1.more hB, fun v hv => (h.2 v hv).more hB⟩
theorem Byts.at_ (h : Byts w B A vs) {k : Nat} (hk : k < vs.length) : ∃ b o, A = some ⟨b, o, none⟩ ∧ w.cell? ⟨b, o + k, none⟩ = some (.slice vs[k].a vs[k].n vs[k].c) ∧ Byt w B vs[k].a vs[k].n vs[k].c vs[k].bs := by
  obtain ⟨b, o, e, _, hc⟩ := h.1.at_ (j := k) (by simpa using hk)
  exact ⟨b, o, e, by rw [hc, List.getElem_map]; rfl, h.2 _ (List.getElem_mem hk)⟩
end
/-- One slice in a block of its own. -/
theorem Byts.one {w : World} {A : Option Addr} {n c : Nat} {bs : List UInt8} {t : TypeId} (h : Byt w w.heap.size A n c bs) :
    Byts (w.alloc (.cells #[.slice A n c] t)) (w.heap.size + 1) (some ⟨w.heap.size, 0, none⟩) [⟨A, n, c, bs⟩] := by
  refine ⟨Row.new w rfl, fun v hv => ?_⟩
  obtain rfl := List.mem_singleton.1 hv
  exact (h.below ((Below.refl _ _).alloc (Nat.le_refl _) _)).more (by omega)
end Go.Proofs.Ytapfiapjefnjjaa
