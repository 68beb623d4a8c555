/-
  No cell of these rows narrows 'for every input' (looked for: loops, veiled, ifaces, maps, wideKeys, modest, calm, conditions, laid).
  DERIVED. THE GIVEN ROWS OF THIS SEAT. 5 by the template 'for every input the law returns true; each argument reads behind the call as it read before'; 0 by the template 'total and deterministic' (their statements: YtdpfehdpglbidaaTotals.lean).
  GIVEN WITH THE SEED: the statements are not yours to turn. If you find one false, say at which input.
  Laid BY PROGRAM, IN A SANDBOX (cutbox-rows.mjs): the forced cells as the released guide's own fill.sh prints them over the translation 9243040f9ed2155a… (all of the seat's roots in one cut). By AI agents, Wed Nov 11 2026. No macro, syntax, notation, axiom, sorry.
-/
import Derived.Test.YtdpfehdpglbidaaChecked
import GoSem.Claim
import GoSem.ClaimJoined
import GoSem.ClaimMapViews
import Derived.JoinedTies
import Derived.KernelRfl
namespace Go.Proofs.Ytdpfehdpglbidaa
/- THE CELL 'sum', in the pinned program and in every row, IS THE sha256 OF THE DUMP (.gsa) THAT YtdpfehdpglbidaaProg.lean LOADS. Nothing in Lean hashes anything: it is a label: what it is worth is what the hold of that sum in a sandbox is worth. -/
noncomputable def Try.pinned : Pinned := { name := "ytdpfehdpglbidaa", sum := "9243040f9ed2155a775effd1b735557d69e45a768c1f4e9fbbe19b861fa3c97c", checked := Try.checked }
namespace Rows
def none {H : Type} : Left H := { results := [], args := [] }

/-- 'smartcardlaw09.CellWears': WHATEVER THE INPUT: true; the input reads as it did. -/
def cellWearsSpec : ChangeSpec := { name := "cellWears", fn := fun _ => fun
  | [d1, d2, d3] => { results := [.lit (.bool true)], args := [d1, d2, d3] }
  | _ => none }
def cellWearsRow : OpenClaim := { program := "ytdpfehdpglbidaa", sum := "9243040f9ed2155a775effd1b735557d69e45a768c1f4e9fbbe19b861fa3c97c", func := "smartcard/smartcardlaw09.CellWears", spec := "cellWears", apart := false }
def CellWearsSaid : Prop := cellWearsRow.holds Try.pinned (OpenSpec.ofChange cellWearsSpec)

/-- ITS FALSE NEIGHBOUR: 'it returns false'. Refute it at one input. -/
def cellWearsWrong : ChangeSpec := { name := "cellWears", fn := fun _ => fun
  | [d1, d2, d3] => { results := [.lit (.bool false)], args := [d1, d2, d3] }
  | _ => none }
def CellWearsWrongFalsely : Prop := cellWearsRow.holds Try.pinned (OpenSpec.ofChange cellWearsWrong)

/-- 'smartcardlaw09.CellCut': WHATEVER THE INPUT: true; the input reads as it did. -/
def cellCutSpec : ChangeSpec := { name := "cellCut", fn := fun _ => fun
  | [d1, d2] => { results := [.lit (.bool true)], args := [d1, d2] }
  | _ => none }
def cellCutRow : OpenClaim := { program := "ytdpfehdpglbidaa", sum := "9243040f9ed2155a775effd1b735557d69e45a768c1f4e9fbbe19b861fa3c97c", func := "smartcard/smartcardlaw09.CellCut", spec := "cellCut", apart := false }
def CellCutSaid : Prop := cellCutRow.holds Try.pinned (OpenSpec.ofChange cellCutSpec)

/-- ITS FALSE NEIGHBOUR: 'it returns false'. Refute it at one input. -/
def cellCutWrong : ChangeSpec := { name := "cellCut", fn := fun _ => fun
  | [d1, d2] => { results := [.lit (.bool false)], args := [d1, d2] }
  | _ => none }
def CellCutWrongFalsely : Prop := cellCutRow.holds Try.pinned (OpenSpec.ofChange cellCutWrong)

/-- 'smartcardlaw09.CellModel': WHATEVER THE INPUT: true; the input reads as it did. -/
def cellModelSpec : ChangeSpec := { name := "cellModel", fn := fun _ => fun
  | [d1, d2] => { results := [.lit (.bool true)], args := [d1, d2] }
  | _ => none }
def cellModelRow : OpenClaim := { program := "ytdpfehdpglbidaa", sum := "9243040f9ed2155a775effd1b735557d69e45a768c1f4e9fbbe19b861fa3c97c", func := "smartcard/smartcardlaw09.CellModel", spec := "cellModel", apart := false }
def CellModelSaid : Prop := cellModelRow.holds Try.pinned (OpenSpec.ofChange cellModelSpec)

/-- ITS FALSE NEIGHBOUR: 'it returns false'. Refute it at one input. -/
def cellModelWrong : ChangeSpec := { name := "cellModel", fn := fun _ => fun
  | [d1, d2] => { results := [.lit (.bool false)], args := [d1, d2] }
  | _ => none }
def CellModelWrongFalsely : Prop := cellModelRow.holds Try.pinned (OpenSpec.ofChange cellModelWrong)

/-- 'smartcardlaw09.CellClone': WHATEVER THE INPUT: true; the input reads as it did. -/
def cellCloneSpec : ChangeSpec := { name := "cellClone", fn := fun _ => fun
  | [d1, d2, d3] => { results := [.lit (.bool true)], args := [d1, d2, d3] }
  | _ => none }
def cellCloneRow : OpenClaim := { program := "ytdpfehdpglbidaa", sum := "9243040f9ed2155a775effd1b735557d69e45a768c1f4e9fbbe19b861fa3c97c", func := "smartcard/smartcardlaw09.CellClone", spec := "cellClone", apart := false }
def CellCloneSaid : Prop := cellCloneRow.holds Try.pinned (OpenSpec.ofChange cellCloneSpec)

/-- ITS FALSE NEIGHBOUR: 'it returns false'. Refute it at one input. -/
def cellCloneWrong : ChangeSpec := { name := "cellClone", fn := fun _ => fun
  | [d1, d2, d3] => { results := [.lit (.bool false)], args := [d1, d2, d3] }
  | _ => none }
def CellCloneWrongFalsely : Prop := cellCloneRow.holds Try.pinned (OpenSpec.ofChange cellCloneWrong)

/-- 'smartcardlaw09.CellNil': WHATEVER THE INPUT: true; the input reads as it did. -/
def cellNilSpec : ChangeSpec := { name := "cellNil", fn := fun _ => fun
  | [d1, d2] => { results := [.lit (.bool true)], args := [d1, d2] }
  | _ => none }
def cellNilRow : OpenClaim := { program := "ytdpfehdpglbidaa", sum := "9243040f9ed2155a775effd1b735557d69e45a768c1f4e9fbbe19b861fa3c97c", func := "smartcard/smartcardlaw09.CellNil", spec := "cellNil", apart := false }
def CellNilSaid : Prop := cellNilRow.holds Try.pinned (OpenSpec.ofChange cellNilSpec)

/-- ITS FALSE NEIGHBOUR: 'it returns false'. Refute it at one input. -/
def cellNilWrong : ChangeSpec := { name := "cellNil", fn := fun _ => fun
  | [d1, d2] => { results := [.lit (.bool false)], args := [d1, d2] }
  | _ => none }
def CellNilWrongFalsely : Prop := cellNilRow.holds Try.pinned (OpenSpec.ofChange cellNilWrong)

/- THE SECOND FORM. 'bulk': how many values and letters a reading holds, each counted each time it is reached (what is shared counts as often as it is met; a slice's spare places count too). A statement '..UptoSaid' is the law's where the arguments, and the package variables that the reading takes, are together of bulk at most 1048576: NARROWER than '..Said'. Prove '..Said' where nothing that the law and all that it calls make is longer than what came in: it says more and counts as full. Else prove '..UptoSaid'. A law counts once. -/
mutual
def uptoBulk {H : Type} : DataW H → Nat
  | .lit (.string bytes) => bytes.length + 1
  | .lit _ => 1
  | .nil => 1
  | .ptr d => uptoBulk d + 1
  | .slice elems spare => uptoBulkAll elems + uptoBulkAll spare + 1
  | .agg parts => uptoBulkAll parts + 1
  | .iface _ d => uptoBulk d + 1
  | .map entries => uptoBulkEntries entries + 1
  | .held _ => 1
def uptoBulkAll {H : Type} : List (DataW H) → Nat
  | [] => 0
  | d :: r => uptoBulk d + uptoBulkAll r
def uptoBulkEntries {H : Type} : List (Lit × DataW H) → Nat
  | [] => 0
  | x :: r => uptoBulkEntry x + uptoBulkEntries r
def uptoBulkEntry {H : Type} : Lit × DataW H → Nat
  | (.string bytes, d) => bytes.length + uptoBulk d + 1
  | (_, d) => uptoBulk d + 1
 end
def uptoSmall : (H : Type) → List (DataW H) → Bool := fun _ ds => decide (uptoBulkAll ds ≤ 1048576)
def OpenSpec.upto (s : _root_.Go.ChangeSpec) : _root_.Go.OpenSpec := { _root_.Go.OpenSpec.ofChange s with cond := some uptoSmall }

/-- 'smartcardlaw09.CellWears', WHERE WHAT IT READS IS OF BULK AT MOST 1048576: true; the input reads as it did. -/
def cellWearsUptoRow : OpenClaim := { program := "ytdpfehdpglbidaa", sum := "9243040f9ed2155a775effd1b735557d69e45a768c1f4e9fbbe19b861fa3c97c", func := "smartcard/smartcardlaw09.CellWears", spec := "cellWears", apart := false, narrowed := true }
def CellWearsUptoSaid : Prop := cellWearsUptoRow.holds Try.pinned (OpenSpec.upto cellWearsSpec)

/-- 'smartcardlaw09.CellCut', WHERE WHAT IT READS IS OF BULK AT MOST 1048576: true; the input reads as it did. -/
def cellCutUptoRow : OpenClaim := { program := "ytdpfehdpglbidaa", sum := "9243040f9ed2155a775effd1b735557d69e45a768c1f4e9fbbe19b861fa3c97c", func := "smartcard/smartcardlaw09.CellCut", spec := "cellCut", apart := false, narrowed := true }
def CellCutUptoSaid : Prop := cellCutUptoRow.holds Try.pinned (OpenSpec.upto cellCutSpec)

/-- 'smartcardlaw09.CellModel', WHERE WHAT IT READS IS OF BULK AT MOST 1048576: true; the input reads as it did. -/
def cellModelUptoRow : OpenClaim := { program := "ytdpfehdpglbidaa", sum := "9243040f9ed2155a775effd1b735557d69e45a768c1f4e9fbbe19b861fa3c97c", func := "smartcard/smartcardlaw09.CellModel", spec := "cellModel", apart := false, narrowed := true }
def CellModelUptoSaid : Prop := cellModelUptoRow.holds Try.pinned (OpenSpec.upto cellModelSpec)

/-- 'smartcardlaw09.CellClone', WHERE WHAT IT READS IS OF BULK AT MOST 1048576: true; the input reads as it did. -/
def cellCloneUptoRow : OpenClaim := { program := "ytdpfehdpglbidaa", sum := "9243040f9ed2155a775effd1b735557d69e45a768c1f4e9fbbe19b861fa3c97c", func := "smartcard/smartcardlaw09.CellClone", spec := "cellClone", apart := false, narrowed := true }
def CellCloneUptoSaid : Prop := cellCloneUptoRow.holds Try.pinned (OpenSpec.upto cellCloneSpec)

/-- 'smartcardlaw09.CellNil', WHERE WHAT IT READS IS OF BULK AT MOST 1048576: true; the input reads as it did. -/
def cellNilUptoRow : OpenClaim := { program := "ytdpfehdpglbidaa", sum := "9243040f9ed2155a775effd1b735557d69e45a768c1f4e9fbbe19b861fa3c97c", func := "smartcard/smartcardlaw09.CellNil", spec := "cellNil", apart := false, narrowed := true }
def CellNilUptoSaid : Prop := cellNilUptoRow.holds Try.pinned (OpenSpec.upto cellNilSpec)

end Rows
end Go.Proofs.Ytdpfehdpglbidaa
