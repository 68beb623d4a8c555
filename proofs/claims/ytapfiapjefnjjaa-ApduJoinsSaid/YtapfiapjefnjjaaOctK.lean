/-
  The walks of the reference of strings of bytes: digit, Parse, Hex.
-/
import Derived.Test.YtapfiapjefnjjaaOctJ
namespace Go.Proofs.Ytapfiapjefnjjaa
open Go.RowKit

theorem str_index (s : ByteArray) (k : Nat) (h : k < s.size) (u : World) : (Instr.index 9 (.string s) (.int .i64 (k : Int))).run Try.prog u = .ok (.int .u8 ((s.data.toList.getD k 0).toNat : Int)) u := by
  rw [run_index_string u 9 s .i64 (k : Int) Try.underlying9, dif_pos ⟨by omega, by omega⟩]
  congr 2
  have e : s.data.toList.getD k 0 = s[k]'h := by
    rw [List.getD, List.getElem?_eq_getElem (by simpa using h)]; rfl
  rw [e]
  simp only [Int.toNat_natCast]

end Go.Proofs.Ytapfiapjefnjjaa
