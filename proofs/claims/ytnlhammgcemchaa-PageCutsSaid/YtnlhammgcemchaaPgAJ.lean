/-
  The loop of writes, as PageFixes and PageDetects have it.
-/
import Derived.Test.YtnlhammgcemchaaPgAK
namespace Go.Proofs.Ytnlhammgcemchaa
set_option maxRecDepth 100000
set_option linter.unusedSimpArgs false
set_option linter.unusedVariables false
open Go.RowKit

/-- After K writes. -/
def WLInv (B0 : Nat) (Φ : Pg.P → Prop) (w0 : World) (n10 gm nw g : Nat) (K : Nat) (wr : World) : Prop :=
  ∃ G s p fr st A n c vs GR, s.gm = gm ∧ Pg.Live (B0 + 5000 * K) fr p st ∧ p.m.pending = false ∧ Φ p ∧ p.m.words.length = nw ∧ svs vs = st ∧ n ≤ 100000 ∧
    Scn w0 wr [⟨n10, 36, #[.slice A n c]⟩] [] [⟨G, fun u => PAt u g G s p⟩] [⟨GR, fun u => RfAt u A n c vs GR⟩]
/-- The same with other words. -/
def Pg.P.wd (p : Pg.P) (vs : Pg.Ws) : Pg.P := { p with m := { p.m with words := vs } }
theorem take_bools (fl : List Bool) (i : Nat) (hi : i < fl.length) (b : Bool) : spl (fl.map Value.bool).toArray i #[Value.bool b] = ((fl.set i b).map Value.bool).toArray := by
  have h1 : i < (fl.map Value.bool).length := by simpa using hi
  have h2 : (fl.map Value.bool).set i (Value.bool b) = (fl.map Value.bool).take i ++ [Value.bool b] ++ (fl.map Value.bool).drop (i + 1) := by
    rw [List.set_eq_take_append_cons_drop, if_pos h1]; simp
  unfold spl
  rw [List.map_set, h2]
  rfl
theorem made_bools (n : Nat) : madeCells #[Value.bool false] n = (List.replicate n (Value.bool false)).toArray := by
  apply Array.toList_inj.1
  simp only [madeCells]
  apply List.ext_getElem
  · simp
  · intro j h1 h2
    simp [Nat.mod_one]
theorem bool_at (fl : List Bool) (i : Nat) (hi : i < fl.length) (b : Bool) (e : fl.getD i false = b) : (fl.map Value.bool).toArray[i]? = some (.bool b) := by
  rw [List.getD, List.getElem?_eq_getElem hi] at e
  have e : fl[i] = b := e
  simp [hi, e]
end Go.Proofs.Ytnlhammgcemchaa
