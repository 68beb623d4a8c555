/-
  The walks of the reference of strings of bytes: Xor, Put, Get, Unpad, Pad.
-/
import Derived.Test.YtapfiapjefnjjaaOctH
namespace Go.Proofs.Ytapfiapjefnjjaa
open Go.RowKit

theorem take_get (l : List UInt8) (k : Nat) (h : k < l.length) : l.take (k + 1) = l.take k ++ [l.getD k 0] := by
  rw [List.take_succ_eq_append_getElem h]; simp [List.getD, List.getElem?_eq_getElem h]

end Go.Proofs.Ytapfiapjefnjjaa
