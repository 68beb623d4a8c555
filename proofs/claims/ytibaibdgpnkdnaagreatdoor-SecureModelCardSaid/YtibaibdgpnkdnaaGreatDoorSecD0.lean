/-
  The walk of New.
-/
import Derived.Test.YtibaibdgpnkdnaaGreatDoorSecY
import Derived.Test.YtibaibdgpnkdnaaGreatDoorZ1
namespace Go.Proofs.YtibaibdgpnkdnaaGreatDoor
set_option maxRecDepth 100000
set_option linter.unusedSimpArgs false
set_option linter.unusedVariables false
open Go.RowKit
set_option maxHeartbeats 8000000

/-- What New leaves. -/
def NewRes (w : World) (v : Bool) (s : Sec.S) (e : Ending) (w' : World) : Prop :=
  Below w.heap.size w w' ∧ ((v = false ∧ e = .returned (.pointer none)) ∨ (v = true ∧ ∃ g F, e = .returned (.pointer (some ⟨g, 0, none⟩)) ∧ ChAt' w' g F s ∧ ∀ q, F q → w.heap.size ≤ q))
theorem new_byt {w0 w : World} {L : List Ent} {O : List Osl} {g : Nat} {t t2 : TypeId} {cs : Array Value} {A : Option Addr} {n c : Nat} {bs : List UInt8} (hm : Mem (fun _ => False) w0 w L O) (k j : Nat) (hk : L[k]? = some ⟨g, t2, cs⟩) (hj : O[j]? = some ⟨t, 1, A, n, c, bcells bs⟩) (hn : 0 < n) :
    BytG w (fun q => w0.heap.size ≤ q ∧ q < w.heap.size) g A n c bs := by
  have hmem := List.mem_of_getElem? hj
  refine ⟨(hm.sl_ j hj).byt (Nat.le_refl _), fun a ha => ?_⟩
  have hle : n ≤ c := (hm.sl_ j hj).le
  have hq : ownAt A c = some a.block := by unfold ownAt; rw [if_neg (by omega), ha]; rfl
  refine ⟨⟨?_, hm.slt hmem hq⟩, fun e => hm.slL _ hmem _ (List.mem_of_getElem? hk) (by rw [← e]; exact hq)⟩
  rcases hm.slR _ hmem _ hq with h | h
  · exact h.elim
  · exact h
end Go.Proofs.YtibaibdgpnkdnaaGreatDoor
