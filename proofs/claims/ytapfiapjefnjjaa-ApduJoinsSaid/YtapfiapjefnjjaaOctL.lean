/-
  The walks of the statements OctetsHex, OctetsXor, OctetsPads, OctetsNumbers, OctetsOrders.
-/
import Derived.Test.YtapfiapjefnjjaaOctX
namespace Go.Proofs.Ytapfiapjefnjjaa
open Go.RowKit

/-- Two strings of the same bytes are the same. -/
theorem ref01_SameT (A A' : Option Addr) (n n' c c' : Nat) (bs : List UInt8) (w : World) (hx : Byt w w.heap.size A n c bs) (hy : Byt w w.heap.size A' n' c' bs) (hn : n ≤ 9223372036854775807) :
    Calls Try.prog 18 #[.slice A n c, .slice A' n' c'] w fun e w' => e = .returned (.bool true) ∧ ∃ k, w' = w.drewN k := by
  have h := ref01_Same A A' n n' c c' bs bs w hx hy hn (by have h1 := hx.1; have h2 := hy.1; omega)
  rw [Oct.same_refl] at h
  exact h

end Go.Proofs.Ytapfiapjefnjjaa
