/-
  No cell of these rows narrows 'for every input' (looked for: loops, veiled, ifaces, maps, wideKeys, modest, calm, conditions, laid).
  DERIVED. THE GIVEN ROWS OF THIS SEAT. 8 by the template 'for every input the law returns true; each argument reads behind the call as it read before'; 0 by the template 'total and deterministic' (their statements: YtbmblalbnegglaaTotals.lean).
  GIVEN WITH THE SEED: the statements are not yours to turn. If you find one false, say at which input.
  Laid BY PROGRAM, IN A SANDBOX (cutbox-rows.mjs): the forced cells as the released guide's own fill.sh prints them over the translation d6d5f55690983576… (all of the seat's roots in one cut). By AI agents, Wed Nov 11 2026. No macro, syntax, notation, axiom, sorry.
-/
import Derived.Test.YtbmblalbnegglaaChecked
import GoSem.Claim
import GoSem.ClaimJoined
import GoSem.ClaimMapViews
import Derived.JoinedTies
import Derived.KernelRfl
namespace Go.Proofs.Ytbmblalbnegglaa
/- THE CELL 'sum', in the pinned program and in every row, IS THE sha256 OF THE DUMP (.gsa) THAT YtbmblalbnegglaaProg.lean LOADS. Nothing in Lean hashes anything: it is a label: what it is worth is what the hold of that sum in a sandbox is worth. -/
noncomputable def Try.pinned : Pinned := { name := "ytbmblalbnegglaa", sum := "d6d5f55690983576ec92c54e4f338785d5b5c9305a3510cf3a698b1ff21cb553", checked := Try.checked }
namespace Rows
def none {H : Type} : Left H := { results := [], args := [] }

/-- 'smartcardlaw20.ModeEncrypts': WHATEVER THE INPUT: true; the input reads as it did. -/
def modeEncryptsSpec : ChangeSpec := { name := "modeEncrypts", fn := fun _ => fun
  | [d1, d2, d3] => { results := [.lit (.bool true)], args := [d1, d2, d3] }
  | _ => none }
def modeEncryptsRow : OpenClaim := { program := "ytbmblalbnegglaa", sum := "d6d5f55690983576ec92c54e4f338785d5b5c9305a3510cf3a698b1ff21cb553", func := "smartcard/smartcardlaw20.ModeEncrypts", spec := "modeEncrypts", unfollowed := true, recurses := true, apart := false }
def ModeEncryptsSaid : Prop := modeEncryptsRow.holds Try.pinned (OpenSpec.ofChange modeEncryptsSpec)

/-- ITS FALSE NEIGHBOUR: 'it returns false'. Refute it at one input. -/
def modeEncryptsWrong : ChangeSpec := { name := "modeEncrypts", fn := fun _ => fun
  | [d1, d2, d3] => { results := [.lit (.bool false)], args := [d1, d2, d3] }
  | _ => none }
def ModeEncryptsWrongFalsely : Prop := modeEncryptsRow.holds Try.pinned (OpenSpec.ofChange modeEncryptsWrong)

/-- 'smartcardlaw20.ModeMacs': WHATEVER THE INPUT: true; the input reads as it did. -/
def modeMacsSpec : ChangeSpec := { name := "modeMacs", fn := fun _ => fun
  | [d1, d2, d3] => { results := [.lit (.bool true)], args := [d1, d2, d3] }
  | _ => none }
def modeMacsRow : OpenClaim := { program := "ytbmblalbnegglaa", sum := "d6d5f55690983576ec92c54e4f338785d5b5c9305a3510cf3a698b1ff21cb553", func := "smartcard/smartcardlaw20.ModeMacs", spec := "modeMacs", unfollowed := true, recurses := true, apart := false }
def ModeMacsSaid : Prop := modeMacsRow.holds Try.pinned (OpenSpec.ofChange modeMacsSpec)

/-- ITS FALSE NEIGHBOUR: 'it returns false'. Refute it at one input. -/
def modeMacsWrong : ChangeSpec := { name := "modeMacs", fn := fun _ => fun
  | [d1, d2, d3] => { results := [.lit (.bool false)], args := [d1, d2, d3] }
  | _ => none }
def ModeMacsWrongFalsely : Prop := modeMacsRow.holds Try.pinned (OpenSpec.ofChange modeMacsWrong)

/-- 'smartcardlaw20.ModeHashes': WHATEVER THE INPUT: true; the input reads as it did. -/
def modeHashesSpec : ChangeSpec := { name := "modeHashes", fn := fun _ => fun
  | [d] => { results := [.lit (.bool true)], args := [d] }
  | _ => none }
def modeHashesRow : OpenClaim := { program := "ytbmblalbnegglaa", sum := "d6d5f55690983576ec92c54e4f338785d5b5c9305a3510cf3a698b1ff21cb553", func := "smartcard/smartcardlaw20.ModeHashes", spec := "modeHashes", unfollowed := true, recurses := true, apart := false }
def ModeHashesSaid : Prop := modeHashesRow.holds Try.pinned (OpenSpec.ofChange modeHashesSpec)

/-- ITS FALSE NEIGHBOUR: 'it returns false'. Refute it at one input. -/
def modeHashesWrong : ChangeSpec := { name := "modeHashes", fn := fun _ => fun
  | [d] => { results := [.lit (.bool false)], args := [d] }
  | _ => none }
def ModeHashesWrongFalsely : Prop := modeHashesRow.holds Try.pinned (OpenSpec.ofChange modeHashesWrong)

/-- 'smartcardlaw20.ModeChains': WHATEVER THE INPUT: true; the input reads as it did. -/
def modeChainsSpec : ChangeSpec := { name := "modeChains", fn := fun _ => fun
  | [d1, d2, d3, d4] => { results := [.lit (.bool true)], args := [d1, d2, d3, d4] }
  | _ => none }
def modeChainsRow : OpenClaim := { program := "ytbmblalbnegglaa", sum := "d6d5f55690983576ec92c54e4f338785d5b5c9305a3510cf3a698b1ff21cb553", func := "smartcard/smartcardlaw20.ModeChains", spec := "modeChains", unfollowed := true, recurses := true, apart := false }
def ModeChainsSaid : Prop := modeChainsRow.holds Try.pinned (OpenSpec.ofChange modeChainsSpec)

/-- ITS FALSE NEIGHBOUR: 'it returns false'. Refute it at one input. -/
def modeChainsWrong : ChangeSpec := { name := "modeChains", fn := fun _ => fun
  | [d1, d2, d3, d4] => { results := [.lit (.bool false)], args := [d1, d2, d3, d4] }
  | _ => none }
def ModeChainsWrongFalsely : Prop := modeChainsRow.holds Try.pinned (OpenSpec.ofChange modeChainsWrong)

/-- 'smartcardlaw20.ModeDecrypts': WHATEVER THE INPUT: true; the input reads as it did. -/
def modeDecryptsSpec : ChangeSpec := { name := "modeDecrypts", fn := fun _ => fun
  | [d1, d2, d3] => { results := [.lit (.bool true)], args := [d1, d2, d3] }
  | _ => none }
def modeDecryptsRow : OpenClaim := { program := "ytbmblalbnegglaa", sum := "d6d5f55690983576ec92c54e4f338785d5b5c9305a3510cf3a698b1ff21cb553", func := "smartcard/smartcardlaw20.ModeDecrypts", spec := "modeDecrypts", unfollowed := true, recurses := true, apart := false }
def ModeDecryptsSaid : Prop := modeDecryptsRow.holds Try.pinned (OpenSpec.ofChange modeDecryptsSpec)

/-- ITS FALSE NEIGHBOUR: 'it returns false'. Refute it at one input. -/
def modeDecryptsWrong : ChangeSpec := { name := "modeDecrypts", fn := fun _ => fun
  | [d1, d2, d3] => { results := [.lit (.bool false)], args := [d1, d2, d3] }
  | _ => none }
def ModeDecryptsWrongFalsely : Prop := modeDecryptsRow.holds Try.pinned (OpenSpec.ofChange modeDecryptsWrong)

/-- 'smartcardlaw20.ModeBack': WHATEVER THE INPUT: true; the input reads as it did. -/
def modeBackSpec : ChangeSpec := { name := "modeBack", fn := fun _ => fun
  | [d1, d2, d3] => { results := [.lit (.bool true)], args := [d1, d2, d3] }
  | _ => none }
def modeBackRow : OpenClaim := { program := "ytbmblalbnegglaa", sum := "d6d5f55690983576ec92c54e4f338785d5b5c9305a3510cf3a698b1ff21cb553", func := "smartcard/smartcardlaw20.ModeBack", spec := "modeBack", unfollowed := true, recurses := true, apart := false }
def ModeBackSaid : Prop := modeBackRow.holds Try.pinned (OpenSpec.ofChange modeBackSpec)

/-- ITS FALSE NEIGHBOUR: 'it returns false'. Refute it at one input. -/
def modeBackWrong : ChangeSpec := { name := "modeBack", fn := fun _ => fun
  | [d1, d2, d3] => { results := [.lit (.bool false)], args := [d1, d2, d3] }
  | _ => none }
def ModeBackWrongFalsely : Prop := modeBackRow.holds Try.pinned (OpenSpec.ofChange modeBackWrong)

/-- 'smartcardlaw20.ModeDerives': WHATEVER THE INPUT: true; the input reads as it did. -/
def modeDerivesSpec : ChangeSpec := { name := "modeDerives", fn := fun _ => fun
  | [d1, d2] => { results := [.lit (.bool true)], args := [d1, d2] }
  | _ => none }
def modeDerivesRow : OpenClaim := { program := "ytbmblalbnegglaa", sum := "d6d5f55690983576ec92c54e4f338785d5b5c9305a3510cf3a698b1ff21cb553", func := "smartcard/smartcardlaw20.ModeDerives", spec := "modeDerives", unfollowed := true, recurses := true, apart := false }
def ModeDerivesSaid : Prop := modeDerivesRow.holds Try.pinned (OpenSpec.ofChange modeDerivesSpec)

/-- ITS FALSE NEIGHBOUR: 'it returns false'. Refute it at one input. -/
def modeDerivesWrong : ChangeSpec := { name := "modeDerives", fn := fun _ => fun
  | [d1, d2] => { results := [.lit (.bool false)], args := [d1, d2] }
  | _ => none }
def ModeDerivesWrongFalsely : Prop := modeDerivesRow.holds Try.pinned (OpenSpec.ofChange modeDerivesWrong)

/-- 'smartcardlaw20.ModeSizes': WHATEVER THE INPUT: true; the input reads as it did. -/
def modeSizesSpec : ChangeSpec := { name := "modeSizes", fn := fun _ => fun
  | [d1, d2, d3] => { results := [.lit (.bool true)], args := [d1, d2, d3] }
  | _ => none }
def modeSizesRow : OpenClaim := { program := "ytbmblalbnegglaa", sum := "d6d5f55690983576ec92c54e4f338785d5b5c9305a3510cf3a698b1ff21cb553", func := "smartcard/smartcardlaw20.ModeSizes", spec := "modeSizes", unfollowed := true, recurses := true, apart := false }
def ModeSizesSaid : Prop := modeSizesRow.holds Try.pinned (OpenSpec.ofChange modeSizesSpec)

/-- ITS FALSE NEIGHBOUR: 'it returns false'. Refute it at one input. -/
def modeSizesWrong : ChangeSpec := { name := "modeSizes", fn := fun _ => fun
  | [d1, d2, d3] => { results := [.lit (.bool false)], args := [d1, d2, d3] }
  | _ => none }
def ModeSizesWrongFalsely : Prop := modeSizesRow.holds Try.pinned (OpenSpec.ofChange modeSizesWrong)

/- THE SECOND FORM. 'bulk': how many values and letters a reading holds, each counted each time it is reached (what is shared counts as often as it is met; a slice's spare places count too). A statement '..UptoSaid' is the law's where the arguments, and the package variables that the reading takes, are together of bulk at most 1048576: NARROWER than '..Said'. Prove '..Said' where nothing that the law and all that it calls make is longer than what came in: it says more and counts as full. Else prove '..UptoSaid'. A law counts once. -/
mutual
def uptoBulk {H : Type} : DataW H → Nat
  | .lit (.string bytes) => bytes.length + 1
  | .lit _ => 1
  | .nil => 1
  | .ptr d => uptoBulk d + 1
  | .slice elems spare => uptoBulkAll elems + uptoBulkAll spare + 1
  | .agg parts => uptoBulkAll parts + 1
  | .iface _ d => uptoBulk d + 1
  | .map entries => uptoBulkEntries entries + 1
  | .held _ => 1
def uptoBulkAll {H : Type} : List (DataW H) → Nat
  | [] => 0
  | d :: r => uptoBulk d + uptoBulkAll r
def uptoBulkEntries {H : Type} : List (Lit × DataW H) → Nat
  | [] => 0
  | x :: r => uptoBulkEntry x + uptoBulkEntries r
def uptoBulkEntry {H : Type} : Lit × DataW H → Nat
  | (.string bytes, d) => bytes.length + uptoBulk d + 1
  | (_, d) => uptoBulk d + 1
 end
def uptoSmall : (H : Type) → List (DataW H) → Bool := fun _ ds => decide (uptoBulkAll ds ≤ 1048576)
def OpenSpec.upto (s : _root_.Go.ChangeSpec) : _root_.Go.OpenSpec := { _root_.Go.OpenSpec.ofChange s with cond := some uptoSmall }

/-- 'smartcardlaw20.ModeEncrypts', WHERE WHAT IT READS IS OF BULK AT MOST 1048576: true; the input reads as it did. -/
def modeEncryptsUptoRow : OpenClaim := { program := "ytbmblalbnegglaa", sum := "d6d5f55690983576ec92c54e4f338785d5b5c9305a3510cf3a698b1ff21cb553", func := "smartcard/smartcardlaw20.ModeEncrypts", spec := "modeEncrypts", unfollowed := true, recurses := true, apart := false, narrowed := true }
def ModeEncryptsUptoSaid : Prop := modeEncryptsUptoRow.holds Try.pinned (OpenSpec.upto modeEncryptsSpec)

/-- 'smartcardlaw20.ModeMacs', WHERE WHAT IT READS IS OF BULK AT MOST 1048576: true; the input reads as it did. -/
def modeMacsUptoRow : OpenClaim := { program := "ytbmblalbnegglaa", sum := "d6d5f55690983576ec92c54e4f338785d5b5c9305a3510cf3a698b1ff21cb553", func := "smartcard/smartcardlaw20.ModeMacs", spec := "modeMacs", unfollowed := true, recurses := true, apart := false, narrowed := true }
def ModeMacsUptoSaid : Prop := modeMacsUptoRow.holds Try.pinned (OpenSpec.upto modeMacsSpec)

/-- 'smartcardlaw20.ModeHashes', WHERE WHAT IT READS IS OF BULK AT MOST 1048576: true; the input reads as it did. -/
def modeHashesUptoRow : OpenClaim := { program := "ytbmblalbnegglaa", sum := "d6d5f55690983576ec92c54e4f338785d5b5c9305a3510cf3a698b1ff21cb553", func := "smartcard/smartcardlaw20.ModeHashes", spec := "modeHashes", unfollowed := true, recurses := true, apart := false, narrowed := true }
def ModeHashesUptoSaid : Prop := modeHashesUptoRow.holds Try.pinned (OpenSpec.upto modeHashesSpec)

/-- 'smartcardlaw20.ModeChains', WHERE WHAT IT READS IS OF BULK AT MOST 1048576: true; the input reads as it did. -/
def modeChainsUptoRow : OpenClaim := { program := "ytbmblalbnegglaa", sum := "d6d5f55690983576ec92c54e4f338785d5b5c9305a3510cf3a698b1ff21cb553", func := "smartcard/smartcardlaw20.ModeChains", spec := "modeChains", unfollowed := true, recurses := true, apart := false, narrowed := true }
def ModeChainsUptoSaid : Prop := modeChainsUptoRow.holds Try.pinned (OpenSpec.upto modeChainsSpec)

/-- 'smartcardlaw20.ModeDecrypts', WHERE WHAT IT READS IS OF BULK AT MOST 1048576: true; the input reads as it did. -/
def modeDecryptsUptoRow : OpenClaim := { program := "ytbmblalbnegglaa", sum := "d6d5f55690983576ec92c54e4f338785d5b5c9305a3510cf3a698b1ff21cb553", func := "smartcard/smartcardlaw20.ModeDecrypts", spec := "modeDecrypts", unfollowed := true, recurses := true, apart := false, narrowed := true }
def ModeDecryptsUptoSaid : Prop := modeDecryptsUptoRow.holds Try.pinned (OpenSpec.upto modeDecryptsSpec)

/-- 'smartcardlaw20.ModeBack', WHERE WHAT IT READS IS OF BULK AT MOST 1048576: true; the input reads as it did. -/
def modeBackUptoRow : OpenClaim := { program := "ytbmblalbnegglaa", sum := "d6d5f55690983576ec92c54e4f338785d5b5c9305a3510cf3a698b1ff21cb553", func := "smartcard/smartcardlaw20.ModeBack", spec := "modeBack", unfollowed := true, recurses := true, apart := false, narrowed := true }
def ModeBackUptoSaid : Prop := modeBackUptoRow.holds Try.pinned (OpenSpec.upto modeBackSpec)

/-- 'smartcardlaw20.ModeDerives', WHERE WHAT IT READS IS OF BULK AT MOST 1048576: true; the input reads as it did. -/
def modeDerivesUptoRow : OpenClaim := { program := "ytbmblalbnegglaa", sum := "d6d5f55690983576ec92c54e4f338785d5b5c9305a3510cf3a698b1ff21cb553", func := "smartcard/smartcardlaw20.ModeDerives", spec := "modeDerives", unfollowed := true, recurses := true, apart := false, narrowed := true }
def ModeDerivesUptoSaid : Prop := modeDerivesUptoRow.holds Try.pinned (OpenSpec.upto modeDerivesSpec)

/-- 'smartcardlaw20.ModeSizes', WHERE WHAT IT READS IS OF BULK AT MOST 1048576: true; the input reads as it did. -/
def modeSizesUptoRow : OpenClaim := { program := "ytbmblalbnegglaa", sum := "d6d5f55690983576ec92c54e4f338785d5b5c9305a3510cf3a698b1ff21cb553", func := "smartcard/smartcardlaw20.ModeSizes", spec := "modeSizes", unfollowed := true, recurses := true, apart := false, narrowed := true }
def ModeSizesUptoSaid : Prop := modeSizesUptoRow.holds Try.pinned (OpenSpec.upto modeSizesSpec)

end Rows
end Go.Proofs.Ytbmblalbnegglaa
