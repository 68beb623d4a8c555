/-
  The walks of Begins, and of the reference's Begins, SameLists, Xor, Put, Get, Unpad.
-/
import Derived.Test.YtapfiapjefnjjaaOctG
namespace Go.Proofs.Ytapfiapjefnjjaa
open Go.RowKit

end Go.Proofs.Ytapfiapjefnjjaa
