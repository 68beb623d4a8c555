/-
  What Seal leaves.
-/
import Derived.Test.YtibaibdgpnkdnaaGreatDoorSecY
namespace Go.Proofs.YtibaibdgpnkdnaaGreatDoor
set_option maxRecDepth 100000
set_option linter.unusedSimpArgs false
set_option linter.unusedVariables false
open Go.RowKit
set_option maxHeartbeats 8000000

def SaRes (w : World) (g : Nat) (F : Nat → Prop) (s : Sec.S) (d : List UInt8) (sw : Int) (e : Ending) (w' : World) : Prop :=
  ∃ A c, e = .returned (.tuple #[rspV A (Sec.sea s d sw).2.1.length c (Sec.sea s d sw).2.2, .int .i64 (Sec.sealE s d sw)]) ∧
    Own w' w.heap.size 5 1 A (Sec.sea s d sw).2.1.length c (bcells (Sec.sea s d sw).2.1) ∧ ChAt' w' g F (Sec.sea s d sw).1 ∧ Only F w w'
theorem SaRes.bad {w w' : World} {g : Nat} {F : Nat → Prop} {s : Sec.S} {d : List UInt8} {sw : Int} {k : Int} (H : ChAt' w g F s) (hk : Sec.sealE s d sw = k) (h0 : k ≠ 0) (hb : Below w.heap.size w w') : SaRes w g F s d sw (.returned (.tuple #[rspV none 0 0 0, .int .i64 k])) w' := by
  have e : Sec.sea s d sw = (s, [], 0) := by unfold Sec.sea; rw [if_pos (by rw [hk]; exact h0)]
  unfold SaRes
  rw [e, hk]
  exact ⟨none, 0, rfl, Own.none_ _ _ _ _ _, H.away (R := fun _ => False) (Only.of_below hb) (fun _ _ e => e), Only.of_below hb⟩
theorem SaRes.good {w w' : World} {g : Nat} {F : Nat → Prop} {s : Sec.S} {d D : List UInt8} {sw : Int} (hk : Sec.sealE s d sw = 0) (hD : Sec.sea s d sw = ({ s with exp := false }, D, sw)) {A : Option Addr} {m c : Nat} (hm : D.length = m) (ho : Own w' w.heap.size 5 1 A m c (bcells D)) (H : ChAt' w' g F { s with exp := false }) (hon : Only F w w') :
    SaRes w g F s d sw (.returned (.tuple #[rspV A m c sw, .int .i64 0])) w' := by
  subst hm
  unfold SaRes
  rw [hD, hk]
  exact ⟨A, c, rfl, ho, H, hon⟩
theorem S_eq3 {s : Sec.S} {e : Bool} (hs : s.shut = false) : ({ s with cnt := s.cnt, exp := e, shut := false } : Sec.S) = { s with exp := e } := by
  obtain ⟨_, _, _, _, _, _, _, _, _⟩ := s
  simp only at hs
  subst hs
  rfl
end Go.Proofs.YtibaibdgpnkdnaaGreatDoor
