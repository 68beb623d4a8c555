/-
  The walks of the reference's order on strings of bytes.
-/
import Derived.Test.YtbmblalbnegglaaRows
import Derived.Test.YtbmblalbnegglaaMem
import Derived.Test.YtbmblalbnegglaaOct
namespace Go.Proofs.Ytbmblalbnegglaa
open Go.RowKit

end Go.Proofs.Ytbmblalbnegglaa
