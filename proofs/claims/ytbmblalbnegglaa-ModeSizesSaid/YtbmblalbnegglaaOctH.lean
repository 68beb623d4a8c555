/-
  The walks of Begins, and of the reference's Begins, SameLists, Xor, Put, Get, Unpad.
-/
import Derived.Test.YtbmblalbnegglaaOctG
namespace Go.Proofs.Ytbmblalbnegglaa
open Go.RowKit

end Go.Proofs.Ytbmblalbnegglaa
