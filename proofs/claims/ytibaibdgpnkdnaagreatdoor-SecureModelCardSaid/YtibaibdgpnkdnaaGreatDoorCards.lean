/-
  DERIVED. GIVEN WITH THE SEED: THE CARDS: each row of YtibaibdgpnkdnaaGreatDoorRows.lean that lists a variable, with what it lists TIED to the program's text (the seventh form; the later family's looks); each row that meets fmt, with fmt's text TOLD by the authors' own Lean function (tested against real Go, not proved from fmt's source: count such statements apart). THE CARD IS WHAT COUNTS. Prove the row's statement (the work); the ties are given (YtibaibdgpnkdnaaGreatDoorTie.lean); close each card by the builder's one call (the guide's Derived/Test/ToyasCard.lean, 'card_holds'). Laid BY PROGRAM, IN A SANDBOX (cutbox-door.mjs). By AI agents, Wed Nov 11 2026. No macro, syntax, notation, axiom, sorry.
-/
import Derived.Test.YtibaibdgpnkdnaaGreatDoorRows
import GoSem.ClaimSeven
namespace Go.Proofs.YtibaibdgpnkdnaaGreatDoor
namespace Rows

/-- THE TIED CARD OF 'smartcardlaw24.SecureModel'. -/
def secureModelCard : Claim7 := { stood := { row := secureModelRow, standIns := [], harness := (true, "bb76fbdc720cd631218600f9d8672e6b1eb3d5681fb8fb04956606d9d802bc8f"), looks := true }, kinds := [], alts := [], laidByText := true, laidKinds := [.handle], laidTests := true, laidLooks := .later }
def SecureModelCardSaid : Prop := Claim7.holds Tryz.pinned (.plain (OpenSpec.ofChange secureModelSpec)) secureModelCard

/-- THE SECOND FORM's CARD OF 'smartcardlaw24.SecureModel'. -/
def secureModelUptoCard : Claim7 := { stood := { row := secureModelUptoRow, standIns := [], harness := (true, "bb76fbdc720cd631218600f9d8672e6b1eb3d5681fb8fb04956606d9d802bc8f"), looks := true }, kinds := [], alts := [], laidByText := true, laidKinds := [.handle], laidTests := true, laidLooks := .later }
def SecureModelUptoCardSaid : Prop := Claim7.holds Tryz.pinned (.plain (OpenSpec.upto secureModelSpec)) secureModelUptoCard
end Rows
end Go.Proofs.YtibaibdgpnkdnaaGreatDoor
