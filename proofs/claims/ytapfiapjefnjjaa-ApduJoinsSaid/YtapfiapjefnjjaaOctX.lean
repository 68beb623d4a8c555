/-
  The example of the chapter on strings of bytes holds.
-/
import Derived.Test.YtapfiapjefnjjaaOctN
namespace Go.Proofs.Ytapfiapjefnjjaa
open Go.RowKit

theorem ex_put1 (w : World) : Calls Try.prog 57 #[.int .i64 258, .int .i64 3] w (BRes 5 w [0, 1, 2] 0) := by
  have h := octets_Put 258 3 w (by omega)
  have e1 : Oct.ptB 258 3 = [0, 1, 2] := by decide +kernel
  have e2 : Oct.ptE 258 3 = 0 := by decide +kernel
  rw [e1, e2] at h
  exact h
theorem ex_put2 (w : World) : Calls Try.prog 57 #[.int .i64 256, .int .i64 1] w (BRes 5 w [] 2) := by
  have h := octets_Put 256 1 w (by omega)
  have e1 : Oct.ptB 256 1 = [] := by decide +kernel
  have e2 : Oct.ptE 256 1 = 2 := by decide +kernel
  rw [e1, e2] at h
  exact h
theorem ex_split (A : Option Addr) (w : World) (h : Byt w w.heap.size A 3 3 [1, 2, 3]) : Calls Try.prog 54 #[.slice A 3 3, .int .i64 2] w (SRes 5 22 w [[1, 2], [3]] 0) := by
  have h := octets_Split A 3 3 [1, 2, 3] 2 w h (by omega)
  have e1 : Oct.spB [1, 2, 3] 2 = [[1, 2], [3]] := by decide +kernel
  have e2 : Oct.spE 2 = 0 := by decide +kernel
  rw [e1, e2] at h
  exact h
theorem ex_hex : Oct.hexS [10, 255] = [48, 97, 102, 102] ∧ Oct.hexS [1, 2, 128, 0] = [48, 49, 48, 50, 56, 48, 48, 48] ∧ Oct.hexS [0] = [48, 48] ∧ Oct.hexS [0, 1, 2] = [48, 48, 48, 49, 48, 50] ∧ Oct.hexS [3] = [48, 51] := by decide +kernel

end Go.Proofs.Ytapfiapjefnjjaa
