/-
  No cell of these rows narrows 'for every input' (looked for: loops, veiled, ifaces, maps, wideKeys, modest, calm, conditions, laid).
  DERIVED. THE GIVEN ROWS OF THIS SEAT. 8 by the template 'for every input the law returns true; each argument reads behind the call as it read before'; 0 by the template 'total and deterministic' (their statements: YtapfiapjefnjjaaTotals.lean).
  GIVEN WITH THE SEED: the statements are not yours to turn. If you find one false, say at which input.
  Laid BY PROGRAM, IN A SANDBOX (cutbox-rows.mjs): the forced cells as the released guide's own fill.sh prints them over the translation 52d43fb859cb0fdc… (all of the seat's roots in one cut). By AI agents, Wed Nov 11 2026. No macro, syntax, notation, axiom, sorry.
-/
import Derived.Test.YtapfiapjefnjjaaChecked
import GoSem.Claim
import GoSem.ClaimJoined
import GoSem.ClaimMapViews
import Derived.JoinedTies
import Derived.KernelRfl
namespace Go.Proofs.Ytapfiapjefnjjaa
/- THE CELL 'sum', in the pinned program and in every row, IS THE sha256 OF THE DUMP (.gsa) THAT YtapfiapjefnjjaaProg.lean LOADS. Nothing in Lean hashes anything: it is a label: what it is worth is what the hold of that sum in a sandbox is worth. -/
noncomputable def Try.pinned : Pinned := { name := "ytapfiapjefnjjaa", sum := "52d43fb859cb0fdc6f10582ed1843c01e992b2ac6fc4f24265dd6a3b245a3fec", checked := Try.checked }
namespace Rows
def none {H : Type} : Left H := { results := [], args := [] }

/-- 'smartcardlaw04.ApduCommands': WHATEVER THE INPUT: true; the input reads as it did. -/
def apduCommandsSpec : ChangeSpec := { name := "apduCommands", fn := fun _ => fun
  | [d] => { results := [.lit (.bool true)], args := [d] }
  | _ => none }
def apduCommandsRow : OpenClaim := { program := "ytapfiapjefnjjaa", sum := "52d43fb859cb0fdc6f10582ed1843c01e992b2ac6fc4f24265dd6a3b245a3fec", func := "smartcard/smartcardlaw04.ApduCommands", spec := "apduCommands", apart := false }
def ApduCommandsSaid : Prop := apduCommandsRow.holds Try.pinned (OpenSpec.ofChange apduCommandsSpec)

/-- ITS FALSE NEIGHBOUR: 'it returns false'. Refute it at one input. -/
def apduCommandsWrong : ChangeSpec := { name := "apduCommands", fn := fun _ => fun
  | [d] => { results := [.lit (.bool false)], args := [d] }
  | _ => none }
def ApduCommandsWrongFalsely : Prop := apduCommandsRow.holds Try.pinned (OpenSpec.ofChange apduCommandsWrong)

/-- 'smartcardlaw04.ApduClasses': WHATEVER THE INPUT: true; the input reads as it did. -/
def apduClassesSpec : ChangeSpec := { name := "apduClasses", fn := fun _ => fun
  | [d1, d2] => { results := [.lit (.bool true)], args := [d1, d2] }
  | _ => none }
def apduClassesRow : OpenClaim := { program := "ytapfiapjefnjjaa", sum := "52d43fb859cb0fdc6f10582ed1843c01e992b2ac6fc4f24265dd6a3b245a3fec", func := "smartcard/smartcardlaw04.ApduClasses", spec := "apduClasses", apart := false }
def ApduClassesSaid : Prop := apduClassesRow.holds Try.pinned (OpenSpec.ofChange apduClassesSpec)

/-- ITS FALSE NEIGHBOUR: 'it returns false'. Refute it at one input. -/
def apduClassesWrong : ChangeSpec := { name := "apduClasses", fn := fun _ => fun
  | [d1, d2] => { results := [.lit (.bool false)], args := [d1, d2] }
  | _ => none }
def ApduClassesWrongFalsely : Prop := apduClassesRow.holds Try.pinned (OpenSpec.ofChange apduClassesWrong)

/-- 'smartcardlaw04.ApduRoundTrip': WHATEVER THE INPUT: true; the input reads as it did. -/
def apduRoundTripSpec : ChangeSpec := { name := "apduRoundTrip", fn := fun _ => fun
  | [d1, d2] => { results := [.lit (.bool true)], args := [d1, d2] }
  | _ => none }
def apduRoundTripRow : OpenClaim := { program := "ytapfiapjefnjjaa", sum := "52d43fb859cb0fdc6f10582ed1843c01e992b2ac6fc4f24265dd6a3b245a3fec", func := "smartcard/smartcardlaw04.ApduRoundTrip", spec := "apduRoundTrip", apart := false }
def ApduRoundTripSaid : Prop := apduRoundTripRow.holds Try.pinned (OpenSpec.ofChange apduRoundTripSpec)

/-- ITS FALSE NEIGHBOUR: 'it returns false'. Refute it at one input. -/
def apduRoundTripWrong : ChangeSpec := { name := "apduRoundTrip", fn := fun _ => fun
  | [d1, d2] => { results := [.lit (.bool false)], args := [d1, d2] }
  | _ => none }
def ApduRoundTripWrongFalsely : Prop := apduRoundTripRow.holds Try.pinned (OpenSpec.ofChange apduRoundTripWrong)

/-- 'smartcardlaw04.ApduSame': WHATEVER THE INPUT: true; the input reads as it did. -/
def apduSameSpec : ChangeSpec := { name := "apduSame", fn := fun _ => fun
  | [d1, d2] => { results := [.lit (.bool true)], args := [d1, d2] }
  | _ => none }
def apduSameRow : OpenClaim := { program := "ytapfiapjefnjjaa", sum := "52d43fb859cb0fdc6f10582ed1843c01e992b2ac6fc4f24265dd6a3b245a3fec", func := "smartcard/smartcardlaw04.ApduSame", spec := "apduSame", apart := false }
def ApduSameSaid : Prop := apduSameRow.holds Try.pinned (OpenSpec.ofChange apduSameSpec)

/-- ITS FALSE NEIGHBOUR: 'it returns false'. Refute it at one input. -/
def apduSameWrong : ChangeSpec := { name := "apduSame", fn := fun _ => fun
  | [d1, d2] => { results := [.lit (.bool false)], args := [d1, d2] }
  | _ => none }
def ApduSameWrongFalsely : Prop := apduSameRow.holds Try.pinned (OpenSpec.ofChange apduSameWrong)

/-- 'smartcardlaw04.ApduDecodes': WHATEVER THE INPUT: true; the input reads as it did. -/
def apduDecodesSpec : ChangeSpec := { name := "apduDecodes", fn := fun _ => fun
  | [d] => { results := [.lit (.bool true)], args := [d] }
  | _ => none }
def apduDecodesRow : OpenClaim := { program := "ytapfiapjefnjjaa", sum := "52d43fb859cb0fdc6f10582ed1843c01e992b2ac6fc4f24265dd6a3b245a3fec", func := "smartcard/smartcardlaw04.ApduDecodes", spec := "apduDecodes", apart := false }
def ApduDecodesSaid : Prop := apduDecodesRow.holds Try.pinned (OpenSpec.ofChange apduDecodesSpec)

/-- ITS FALSE NEIGHBOUR: 'it returns false'. Refute it at one input. -/
def apduDecodesWrong : ChangeSpec := { name := "apduDecodes", fn := fun _ => fun
  | [d] => { results := [.lit (.bool false)], args := [d] }
  | _ => none }
def ApduDecodesWrongFalsely : Prop := apduDecodesRow.holds Try.pinned (OpenSpec.ofChange apduDecodesWrong)

/-- 'smartcardlaw04.ApduResponses': WHATEVER THE INPUT: true; the input reads as it did. -/
def apduResponsesSpec : ChangeSpec := { name := "apduResponses", fn := fun _ => fun
  | [d] => { results := [.lit (.bool true)], args := [d] }
  | _ => none }
def apduResponsesRow : OpenClaim := { program := "ytapfiapjefnjjaa", sum := "52d43fb859cb0fdc6f10582ed1843c01e992b2ac6fc4f24265dd6a3b245a3fec", func := "smartcard/smartcardlaw04.ApduResponses", spec := "apduResponses", apart := false }
def ApduResponsesSaid : Prop := apduResponsesRow.holds Try.pinned (OpenSpec.ofChange apduResponsesSpec)

/-- ITS FALSE NEIGHBOUR: 'it returns false'. Refute it at one input. -/
def apduResponsesWrong : ChangeSpec := { name := "apduResponses", fn := fun _ => fun
  | [d] => { results := [.lit (.bool false)], args := [d] }
  | _ => none }
def ApduResponsesWrongFalsely : Prop := apduResponsesRow.holds Try.pinned (OpenSpec.ofChange apduResponsesWrong)

/-- 'smartcardlaw04.ApduChains': WHATEVER THE INPUT: true; the input reads as it did. -/
def apduChainsSpec : ChangeSpec := { name := "apduChains", fn := fun _ => fun
  | [d1, d2] => { results := [.lit (.bool true)], args := [d1, d2] }
  | _ => none }
def apduChainsRow : OpenClaim := { program := "ytapfiapjefnjjaa", sum := "52d43fb859cb0fdc6f10582ed1843c01e992b2ac6fc4f24265dd6a3b245a3fec", func := "smartcard/smartcardlaw04.ApduChains", spec := "apduChains", apart := false }
def ApduChainsSaid : Prop := apduChainsRow.holds Try.pinned (OpenSpec.ofChange apduChainsSpec)

/-- ITS FALSE NEIGHBOUR: 'it returns false'. Refute it at one input. -/
def apduChainsWrong : ChangeSpec := { name := "apduChains", fn := fun _ => fun
  | [d1, d2] => { results := [.lit (.bool false)], args := [d1, d2] }
  | _ => none }
def ApduChainsWrongFalsely : Prop := apduChainsRow.holds Try.pinned (OpenSpec.ofChange apduChainsWrong)

/-- 'smartcardlaw04.ApduJoins': WHATEVER THE INPUT: true; the input reads as it did. -/
def apduJoinsSpec : ChangeSpec := { name := "apduJoins", fn := fun _ => fun
  | [d] => { results := [.lit (.bool true)], args := [d] }
  | _ => none }
def apduJoinsRow : OpenClaim := { program := "ytapfiapjefnjjaa", sum := "52d43fb859cb0fdc6f10582ed1843c01e992b2ac6fc4f24265dd6a3b245a3fec", func := "smartcard/smartcardlaw04.ApduJoins", spec := "apduJoins", apart := false }
def ApduJoinsSaid : Prop := apduJoinsRow.holds Try.pinned (OpenSpec.ofChange apduJoinsSpec)

/-- ITS FALSE NEIGHBOUR: 'it returns false'. Refute it at one input. -/
def apduJoinsWrong : ChangeSpec := { name := "apduJoins", fn := fun _ => fun
  | [d] => { results := [.lit (.bool false)], args := [d] }
  | _ => none }
def ApduJoinsWrongFalsely : Prop := apduJoinsRow.holds Try.pinned (OpenSpec.ofChange apduJoinsWrong)

/- THE SECOND FORM. 'bulk': how many values and letters a reading holds, each counted each time it is reached (what is shared counts as often as it is met; a slice's spare places count too). A statement '..UptoSaid' is the law's where the arguments, and the package variables that the reading takes, are together of bulk at most 1048576: NARROWER than '..Said'. Prove '..Said' where nothing that the law and all that it calls make is longer than what came in: it says more and counts as full. Else prove '..UptoSaid'. A law counts once. -/
mutual
def uptoBulk {H : Type} : DataW H → Nat
  | .lit (.string bytes) => bytes.length + 1
  | .lit _ => 1
  | .nil => 1
  | .ptr d => uptoBulk d + 1
  | .slice elems spare => uptoBulkAll elems + uptoBulkAll spare + 1
  | .agg parts => uptoBulkAll parts + 1
  | .iface _ d => uptoBulk d + 1
  | .map entries => uptoBulkEntries entries + 1
  | .held _ => 1
def uptoBulkAll {H : Type} : List (DataW H) → Nat
  | [] => 0
  | d :: r => uptoBulk d + uptoBulkAll r
def uptoBulkEntries {H : Type} : List (Lit × DataW H) → Nat
  | [] => 0
  | x :: r => uptoBulkEntry x + uptoBulkEntries r
def uptoBulkEntry {H : Type} : Lit × DataW H → Nat
  | (.string bytes, d) => bytes.length + uptoBulk d + 1
  | (_, d) => uptoBulk d + 1
 end
def uptoSmall : (H : Type) → List (DataW H) → Bool := fun _ ds => decide (uptoBulkAll ds ≤ 1048576)
def OpenSpec.upto (s : _root_.Go.ChangeSpec) : _root_.Go.OpenSpec := { _root_.Go.OpenSpec.ofChange s with cond := some uptoSmall }

/-- 'smartcardlaw04.ApduCommands', WHERE WHAT IT READS IS OF BULK AT MOST 1048576: true; the input reads as it did. -/
def apduCommandsUptoRow : OpenClaim := { program := "ytapfiapjefnjjaa", sum := "52d43fb859cb0fdc6f10582ed1843c01e992b2ac6fc4f24265dd6a3b245a3fec", func := "smartcard/smartcardlaw04.ApduCommands", spec := "apduCommands", apart := false, narrowed := true }
def ApduCommandsUptoSaid : Prop := apduCommandsUptoRow.holds Try.pinned (OpenSpec.upto apduCommandsSpec)

/-- 'smartcardlaw04.ApduClasses', WHERE WHAT IT READS IS OF BULK AT MOST 1048576: true; the input reads as it did. -/
def apduClassesUptoRow : OpenClaim := { program := "ytapfiapjefnjjaa", sum := "52d43fb859cb0fdc6f10582ed1843c01e992b2ac6fc4f24265dd6a3b245a3fec", func := "smartcard/smartcardlaw04.ApduClasses", spec := "apduClasses", apart := false, narrowed := true }
def ApduClassesUptoSaid : Prop := apduClassesUptoRow.holds Try.pinned (OpenSpec.upto apduClassesSpec)

/-- 'smartcardlaw04.ApduRoundTrip', WHERE WHAT IT READS IS OF BULK AT MOST 1048576: true; the input reads as it did. -/
def apduRoundTripUptoRow : OpenClaim := { program := "ytapfiapjefnjjaa", sum := "52d43fb859cb0fdc6f10582ed1843c01e992b2ac6fc4f24265dd6a3b245a3fec", func := "smartcard/smartcardlaw04.ApduRoundTrip", spec := "apduRoundTrip", apart := false, narrowed := true }
def ApduRoundTripUptoSaid : Prop := apduRoundTripUptoRow.holds Try.pinned (OpenSpec.upto apduRoundTripSpec)

/-- 'smartcardlaw04.ApduSame', WHERE WHAT IT READS IS OF BULK AT MOST 1048576: true; the input reads as it did. -/
def apduSameUptoRow : OpenClaim := { program := "ytapfiapjefnjjaa", sum := "52d43fb859cb0fdc6f10582ed1843c01e992b2ac6fc4f24265dd6a3b245a3fec", func := "smartcard/smartcardlaw04.ApduSame", spec := "apduSame", apart := false, narrowed := true }
def ApduSameUptoSaid : Prop := apduSameUptoRow.holds Try.pinned (OpenSpec.upto apduSameSpec)

/-- 'smartcardlaw04.ApduDecodes', WHERE WHAT IT READS IS OF BULK AT MOST 1048576: true; the input reads as it did. -/
def apduDecodesUptoRow : OpenClaim := { program := "ytapfiapjefnjjaa", sum := "52d43fb859cb0fdc6f10582ed1843c01e992b2ac6fc4f24265dd6a3b245a3fec", func := "smartcard/smartcardlaw04.ApduDecodes", spec := "apduDecodes", apart := false, narrowed := true }
def ApduDecodesUptoSaid : Prop := apduDecodesUptoRow.holds Try.pinned (OpenSpec.upto apduDecodesSpec)

/-- 'smartcardlaw04.ApduResponses', WHERE WHAT IT READS IS OF BULK AT MOST 1048576: true; the input reads as it did. -/
def apduResponsesUptoRow : OpenClaim := { program := "ytapfiapjefnjjaa", sum := "52d43fb859cb0fdc6f10582ed1843c01e992b2ac6fc4f24265dd6a3b245a3fec", func := "smartcard/smartcardlaw04.ApduResponses", spec := "apduResponses", apart := false, narrowed := true }
def ApduResponsesUptoSaid : Prop := apduResponsesUptoRow.holds Try.pinned (OpenSpec.upto apduResponsesSpec)

/-- 'smartcardlaw04.ApduChains', WHERE WHAT IT READS IS OF BULK AT MOST 1048576: true; the input reads as it did. -/
def apduChainsUptoRow : OpenClaim := { program := "ytapfiapjefnjjaa", sum := "52d43fb859cb0fdc6f10582ed1843c01e992b2ac6fc4f24265dd6a3b245a3fec", func := "smartcard/smartcardlaw04.ApduChains", spec := "apduChains", apart := false, narrowed := true }
def ApduChainsUptoSaid : Prop := apduChainsUptoRow.holds Try.pinned (OpenSpec.upto apduChainsSpec)

/-- 'smartcardlaw04.ApduJoins', WHERE WHAT IT READS IS OF BULK AT MOST 1048576: true; the input reads as it did. -/
def apduJoinsUptoRow : OpenClaim := { program := "ytapfiapjefnjjaa", sum := "52d43fb859cb0fdc6f10582ed1843c01e992b2ac6fc4f24265dd6a3b245a3fec", func := "smartcard/smartcardlaw04.ApduJoins", spec := "apduJoins", apart := false, narrowed := true }
def ApduJoinsUptoSaid : Prop := apduJoinsUptoRow.holds Try.pinned (OpenSpec.upto apduJoinsSpec)

end Rows
end Go.Proofs.Ytapfiapjefnjjaa
