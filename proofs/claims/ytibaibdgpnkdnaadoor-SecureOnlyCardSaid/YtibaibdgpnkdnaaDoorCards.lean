/-
  DERIVED. GIVEN WITH THE SEED: THE CARDS: each row of YtibaibdgpnkdnaaDoorRows.lean that lists a variable, with what it lists TIED to the program's text (the seventh form; the later family's looks); each row that meets fmt, with fmt's text TOLD by the authors' own Lean function (tested against real Go, not proved from fmt's source: count such statements apart). THE CARD IS WHAT COUNTS. Prove the row's statement (the work); the ties are given (YtibaibdgpnkdnaaDoorTie.lean); close each card by the builder's one call (the guide's Derived/Test/ToyasCard.lean, 'card_holds'). Laid BY PROGRAM, IN A SANDBOX (cutbox-door.mjs). By AI agents, Wed Nov 11 2026. No macro, syntax, notation, axiom, sorry.
-/
import Derived.Test.YtibaibdgpnkdnaaDoorRows
import GoSem.ClaimSeven
namespace Go.Proofs.YtibaibdgpnkdnaaDoor
namespace Rows

/-- THE TIED CARD OF 'smartcardlaw24.SecureSizes'. -/
def secureSizesCard : Claim7 := { stood := { row := secureSizesRow, standIns := [], harness := (true, "2224b0a547a6148e373686ae747d3c1ca91b4acb2f03954dd55450eb5b278abc"), looks := true }, kinds := [], alts := [], laidByText := true, laidKinds := [.handle], laidTests := true, laidLooks := .later }
def SecureSizesCardSaid : Prop := Claim7.holds Tryd.pinned (.plain (OpenSpec.ofChange secureSizesSpec)) secureSizesCard

/-- THE TIED CARD OF 'smartcardlaw24.SecureOnce'. -/
def secureOnceCard : Claim7 := { stood := { row := secureOnceRow, standIns := [], harness := (true, "2224b0a547a6148e373686ae747d3c1ca91b4acb2f03954dd55450eb5b278abc"), looks := true }, kinds := [], alts := [], laidByText := true, laidKinds := [.handle], laidTests := true, laidLooks := .later }
def SecureOnceCardSaid : Prop := Claim7.holds Tryd.pinned (.plain (OpenSpec.ofChange secureOnceSpec)) secureOnceCard

/-- THE TIED CARD OF 'smartcardlaw24.SecureAgrees'. -/
def secureAgreesCard : Claim7 := { stood := { row := secureAgreesRow, standIns := [], harness := (true, "2224b0a547a6148e373686ae747d3c1ca91b4acb2f03954dd55450eb5b278abc"), looks := true }, kinds := [], alts := [], laidByText := true, laidKinds := [.handle], laidTests := true, laidLooks := .later }
def SecureAgreesCardSaid : Prop := Claim7.holds Tryd.pinned (.plain (OpenSpec.ofChange secureAgreesSpec)) secureAgreesCard

/-- THE TIED CARD OF 'smartcardlaw24.SecureOnly'. -/
def secureOnlyCard : Claim7 := { stood := { row := secureOnlyRow, standIns := [], harness := (true, "2224b0a547a6148e373686ae747d3c1ca91b4acb2f03954dd55450eb5b278abc"), looks := true }, kinds := [], alts := [], laidByText := true, laidKinds := [.handle], laidTests := true, laidLooks := .later }
def SecureOnlyCardSaid : Prop := Claim7.holds Tryd.pinned (.plain (OpenSpec.ofChange secureOnlySpec)) secureOnlyCard

/-- THE TIED CARD OF 'smartcardlaw24.SecureNil'. -/
def secureNilCard : Claim7 := { stood := { row := secureNilRow, standIns := [], harness := (true, "2224b0a547a6148e373686ae747d3c1ca91b4acb2f03954dd55450eb5b278abc"), looks := true }, kinds := [], alts := [], laidByText := true, laidKinds := [.handle], laidTests := true, laidLooks := .later }
def SecureNilCardSaid : Prop := Claim7.holds Tryd.pinned (.plain (OpenSpec.ofChange secureNilSpec)) secureNilCard

/-- THE SECOND FORM's CARD OF 'smartcardlaw24.SecureSizes'. -/
def secureSizesUptoCard : Claim7 := { stood := { row := secureSizesUptoRow, standIns := [], harness := (true, "2224b0a547a6148e373686ae747d3c1ca91b4acb2f03954dd55450eb5b278abc"), looks := true }, kinds := [], alts := [], laidByText := true, laidKinds := [.handle], laidTests := true, laidLooks := .later }
def SecureSizesUptoCardSaid : Prop := Claim7.holds Tryd.pinned (.plain (OpenSpec.upto secureSizesSpec)) secureSizesUptoCard

/-- THE SECOND FORM's CARD OF 'smartcardlaw24.SecureOnce'. -/
def secureOnceUptoCard : Claim7 := { stood := { row := secureOnceUptoRow, standIns := [], harness := (true, "2224b0a547a6148e373686ae747d3c1ca91b4acb2f03954dd55450eb5b278abc"), looks := true }, kinds := [], alts := [], laidByText := true, laidKinds := [.handle], laidTests := true, laidLooks := .later }
def SecureOnceUptoCardSaid : Prop := Claim7.holds Tryd.pinned (.plain (OpenSpec.upto secureOnceSpec)) secureOnceUptoCard

/-- THE SECOND FORM's CARD OF 'smartcardlaw24.SecureAgrees'. -/
def secureAgreesUptoCard : Claim7 := { stood := { row := secureAgreesUptoRow, standIns := [], harness := (true, "2224b0a547a6148e373686ae747d3c1ca91b4acb2f03954dd55450eb5b278abc"), looks := true }, kinds := [], alts := [], laidByText := true, laidKinds := [.handle], laidTests := true, laidLooks := .later }
def SecureAgreesUptoCardSaid : Prop := Claim7.holds Tryd.pinned (.plain (OpenSpec.upto secureAgreesSpec)) secureAgreesUptoCard

/-- THE SECOND FORM's CARD OF 'smartcardlaw24.SecureOnly'. -/
def secureOnlyUptoCard : Claim7 := { stood := { row := secureOnlyUptoRow, standIns := [], harness := (true, "2224b0a547a6148e373686ae747d3c1ca91b4acb2f03954dd55450eb5b278abc"), looks := true }, kinds := [], alts := [], laidByText := true, laidKinds := [.handle], laidTests := true, laidLooks := .later }
def SecureOnlyUptoCardSaid : Prop := Claim7.holds Tryd.pinned (.plain (OpenSpec.upto secureOnlySpec)) secureOnlyUptoCard

/-- THE SECOND FORM's CARD OF 'smartcardlaw24.SecureNil'. -/
def secureNilUptoCard : Claim7 := { stood := { row := secureNilUptoRow, standIns := [], harness := (true, "2224b0a547a6148e373686ae747d3c1ca91b4acb2f03954dd55450eb5b278abc"), looks := true }, kinds := [], alts := [], laidByText := true, laidKinds := [.handle], laidTests := true, laidLooks := .later }
def SecureNilUptoCardSaid : Prop := Claim7.holds Tryd.pinned (.plain (OpenSpec.upto secureNilSpec)) secureNilUptoCard
end Rows
end Go.Proofs.YtibaibdgpnkdnaaDoor
