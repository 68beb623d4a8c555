/-
  No cell of these rows narrows 'for every input' (looked for: loops, veiled, ifaces, maps, wideKeys, modest, calm, conditions, laid).
  DERIVED. THE GIVEN ROWS OF THIS SEAT. 7 by the template 'for every input the law returns true; each argument reads behind the call as it read before'; 0 by the template 'total and deterministic' (their statements: YtpegechahbldlaaTotals.lean).
  GIVEN WITH THE SEED: the statements are not yours to turn. If you find one false, say at which input.
  Laid BY PROGRAM, IN A SANDBOX (cutbox-rows.mjs): the forced cells as the released guide's own fill.sh prints them over the translation 9c6749612a995a2f… (all of the seat's roots in one cut). By AI agents, Wed Nov 11 2026. No macro, syntax, notation, axiom, sorry.
-/
import Derived.Test.YtpegechahbldlaaChecked
import GoSem.Claim
import GoSem.ClaimJoined
import GoSem.ClaimMapViews
import Derived.JoinedTies
import Derived.KernelRfl
namespace Go.Proofs.Ytpegechahbldlaa
/- THE CELL 'sum', in the pinned program and in every row, IS THE sha256 OF THE DUMP (.gsa) THAT YtpegechahbldlaaProg.lean LOADS. Nothing in Lean hashes anything: it is a label: what it is worth is what the hold of that sum in a sandbox is worth. -/
noncomputable def Try.pinned : Pinned := { name := "ytpegechahbldlaa", sum := "9c6749612a995a2f8a1c6a673e71768611700ba41b32f95ea725c1e330b9ca3a", checked := Try.checked }
namespace Rows
def none {H : Type} : Left H := { results := [], args := [] }

/-- 'smartcardlaw01.OctetsHex': WHATEVER THE INPUT: true; the input reads as it did. -/
def octetsHexSpec : ChangeSpec := { name := "octetsHex", fn := fun _ => fun
  | [d1, d2] => { results := [.lit (.bool true)], args := [d1, d2] }
  | _ => none }
def octetsHexRow : OpenClaim := { program := "ytpegechahbldlaa", sum := "9c6749612a995a2f8a1c6a673e71768611700ba41b32f95ea725c1e330b9ca3a", func := "smartcard/smartcardlaw01.OctetsHex", spec := "octetsHex", apart := false }
def OctetsHexSaid : Prop := octetsHexRow.holds Try.pinned (OpenSpec.ofChange octetsHexSpec)

/-- ITS FALSE NEIGHBOUR: 'it returns false'. Refute it at one input. -/
def octetsHexWrong : ChangeSpec := { name := "octetsHex", fn := fun _ => fun
  | [d1, d2] => { results := [.lit (.bool false)], args := [d1, d2] }
  | _ => none }
def OctetsHexWrongFalsely : Prop := octetsHexRow.holds Try.pinned (OpenSpec.ofChange octetsHexWrong)

/-- 'smartcardlaw01.OctetsPads': WHATEVER THE INPUT: true; the input reads as it did. -/
def octetsPadsSpec : ChangeSpec := { name := "octetsPads", fn := fun _ => fun
  | [d1, d2] => { results := [.lit (.bool true)], args := [d1, d2] }
  | _ => none }
def octetsPadsRow : OpenClaim := { program := "ytpegechahbldlaa", sum := "9c6749612a995a2f8a1c6a673e71768611700ba41b32f95ea725c1e330b9ca3a", func := "smartcard/smartcardlaw01.OctetsPads", spec := "octetsPads", apart := false }
def OctetsPadsSaid : Prop := octetsPadsRow.holds Try.pinned (OpenSpec.ofChange octetsPadsSpec)

/-- ITS FALSE NEIGHBOUR: 'it returns false'. Refute it at one input. -/
def octetsPadsWrong : ChangeSpec := { name := "octetsPads", fn := fun _ => fun
  | [d1, d2] => { results := [.lit (.bool false)], args := [d1, d2] }
  | _ => none }
def OctetsPadsWrongFalsely : Prop := octetsPadsRow.holds Try.pinned (OpenSpec.ofChange octetsPadsWrong)

/-- 'smartcardlaw01.OctetsPieces': WHATEVER THE INPUT: true; the input reads as it did. -/
def octetsPiecesSpec : ChangeSpec := { name := "octetsPieces", fn := fun _ => fun
  | [d1, d2] => { results := [.lit (.bool true)], args := [d1, d2] }
  | _ => none }
def octetsPiecesRow : OpenClaim := { program := "ytpegechahbldlaa", sum := "9c6749612a995a2f8a1c6a673e71768611700ba41b32f95ea725c1e330b9ca3a", func := "smartcard/smartcardlaw01.OctetsPieces", spec := "octetsPieces", apart := false }
def OctetsPiecesSaid : Prop := octetsPiecesRow.holds Try.pinned (OpenSpec.ofChange octetsPiecesSpec)

/-- ITS FALSE NEIGHBOUR: 'it returns false'. Refute it at one input. -/
def octetsPiecesWrong : ChangeSpec := { name := "octetsPieces", fn := fun _ => fun
  | [d1, d2] => { results := [.lit (.bool false)], args := [d1, d2] }
  | _ => none }
def OctetsPiecesWrongFalsely : Prop := octetsPiecesRow.holds Try.pinned (OpenSpec.ofChange octetsPiecesWrong)

/-- 'smartcardlaw01.OctetsXor': WHATEVER THE INPUT: true; the input reads as it did. -/
def octetsXorSpec : ChangeSpec := { name := "octetsXor", fn := fun _ => fun
  | [d1, d2] => { results := [.lit (.bool true)], args := [d1, d2] }
  | _ => none }
def octetsXorRow : OpenClaim := { program := "ytpegechahbldlaa", sum := "9c6749612a995a2f8a1c6a673e71768611700ba41b32f95ea725c1e330b9ca3a", func := "smartcard/smartcardlaw01.OctetsXor", spec := "octetsXor", apart := false }
def OctetsXorSaid : Prop := octetsXorRow.holds Try.pinned (OpenSpec.ofChange octetsXorSpec)

/-- ITS FALSE NEIGHBOUR: 'it returns false'. Refute it at one input. -/
def octetsXorWrong : ChangeSpec := { name := "octetsXor", fn := fun _ => fun
  | [d1, d2] => { results := [.lit (.bool false)], args := [d1, d2] }
  | _ => none }
def OctetsXorWrongFalsely : Prop := octetsXorRow.holds Try.pinned (OpenSpec.ofChange octetsXorWrong)

/-- 'smartcardlaw01.OctetsOrders': WHATEVER THE INPUT: true; the input reads as it did. -/
def octetsOrdersSpec : ChangeSpec := { name := "octetsOrders", fn := fun _ => fun
  | [d1, d2, d3] => { results := [.lit (.bool true)], args := [d1, d2, d3] }
  | _ => none }
def octetsOrdersRow : OpenClaim := { program := "ytpegechahbldlaa", sum := "9c6749612a995a2f8a1c6a673e71768611700ba41b32f95ea725c1e330b9ca3a", func := "smartcard/smartcardlaw01.OctetsOrders", spec := "octetsOrders", inPlace := ["internal/bytealg.Compare"], apart := false }
def OctetsOrdersSaid : Prop := octetsOrdersRow.holds Try.pinned (OpenSpec.ofChange octetsOrdersSpec)

/-- ITS FALSE NEIGHBOUR: 'it returns false'. Refute it at one input. -/
def octetsOrdersWrong : ChangeSpec := { name := "octetsOrders", fn := fun _ => fun
  | [d1, d2, d3] => { results := [.lit (.bool false)], args := [d1, d2, d3] }
  | _ => none }
def OctetsOrdersWrongFalsely : Prop := octetsOrdersRow.holds Try.pinned (OpenSpec.ofChange octetsOrdersWrong)

/-- 'smartcardlaw01.OctetsNumbers': WHATEVER THE INPUT: true; the input reads as it did. -/
def octetsNumbersSpec : ChangeSpec := { name := "octetsNumbers", fn := fun _ => fun
  | [d1, d2, d3] => { results := [.lit (.bool true)], args := [d1, d2, d3] }
  | _ => none }
def octetsNumbersRow : OpenClaim := { program := "ytpegechahbldlaa", sum := "9c6749612a995a2f8a1c6a673e71768611700ba41b32f95ea725c1e330b9ca3a", func := "smartcard/smartcardlaw01.OctetsNumbers", spec := "octetsNumbers", apart := false }
def OctetsNumbersSaid : Prop := octetsNumbersRow.holds Try.pinned (OpenSpec.ofChange octetsNumbersSpec)

/-- ITS FALSE NEIGHBOUR: 'it returns false'. Refute it at one input. -/
def octetsNumbersWrong : ChangeSpec := { name := "octetsNumbers", fn := fun _ => fun
  | [d1, d2, d3] => { results := [.lit (.bool false)], args := [d1, d2, d3] }
  | _ => none }
def OctetsNumbersWrongFalsely : Prop := octetsNumbersRow.holds Try.pinned (OpenSpec.ofChange octetsNumbersWrong)

/-- 'smartcardlaw01.OctetsRoundTrip': WHATEVER THE INPUT: true; the input reads as it did. -/
def octetsRoundTripSpec : ChangeSpec := { name := "octetsRoundTrip", fn := fun _ => fun
  | [d1, d2, d3] => { results := [.lit (.bool true)], args := [d1, d2, d3] }
  | _ => none }
def octetsRoundTripRow : OpenClaim := { program := "ytpegechahbldlaa", sum := "9c6749612a995a2f8a1c6a673e71768611700ba41b32f95ea725c1e330b9ca3a", func := "smartcard/smartcardlaw01.OctetsRoundTrip", spec := "octetsRoundTrip", apart := false }
def OctetsRoundTripSaid : Prop := octetsRoundTripRow.holds Try.pinned (OpenSpec.ofChange octetsRoundTripSpec)

/-- ITS FALSE NEIGHBOUR: 'it returns false'. Refute it at one input. -/
def octetsRoundTripWrong : ChangeSpec := { name := "octetsRoundTrip", fn := fun _ => fun
  | [d1, d2, d3] => { results := [.lit (.bool false)], args := [d1, d2, d3] }
  | _ => none }
def OctetsRoundTripWrongFalsely : Prop := octetsRoundTripRow.holds Try.pinned (OpenSpec.ofChange octetsRoundTripWrong)

/- THE SECOND FORM. 'bulk': how many values and letters a reading holds, each counted each time it is reached (what is shared counts as often as it is met; a slice's spare places count too). A statement '..UptoSaid' is the law's where the arguments, and the package variables that the reading takes, are together of bulk at most 1048576: NARROWER than '..Said'. Prove '..Said' where nothing that the law and all that it calls make is longer than what came in: it says more and counts as full. Else prove '..UptoSaid'. A law counts once. -/
mutual
def uptoBulk {H : Type} : DataW H → Nat
  | .lit (.string bytes) => bytes.length + 1
  | .lit _ => 1
  | .nil => 1
  | .ptr d => uptoBulk d + 1
  | .slice elems spare => uptoBulkAll elems + uptoBulkAll spare + 1
  | .agg parts => uptoBulkAll parts + 1
  | .iface _ d => uptoBulk d + 1
  | .map entries => uptoBulkEntries entries + 1
  | .held _ => 1
def uptoBulkAll {H : Type} : List (DataW H) → Nat
  | [] => 0
  | d :: r => uptoBulk d + uptoBulkAll r
def uptoBulkEntries {H : Type} : List (Lit × DataW H) → Nat
  | [] => 0
  | x :: r => uptoBulkEntry x + uptoBulkEntries r
def uptoBulkEntry {H : Type} : Lit × DataW H → Nat
  | (.string bytes, d) => bytes.length + uptoBulk d + 1
  | (_, d) => uptoBulk d + 1
 end
def uptoSmall : (H : Type) → List (DataW H) → Bool := fun _ ds => decide (uptoBulkAll ds ≤ 1048576)
def OpenSpec.upto (s : _root_.Go.ChangeSpec) : _root_.Go.OpenSpec := { _root_.Go.OpenSpec.ofChange s with cond := some uptoSmall }

/-- 'smartcardlaw01.OctetsHex', WHERE WHAT IT READS IS OF BULK AT MOST 1048576: true; the input reads as it did. -/
def octetsHexUptoRow : OpenClaim := { program := "ytpegechahbldlaa", sum := "9c6749612a995a2f8a1c6a673e71768611700ba41b32f95ea725c1e330b9ca3a", func := "smartcard/smartcardlaw01.OctetsHex", spec := "octetsHex", apart := false, narrowed := true }
def OctetsHexUptoSaid : Prop := octetsHexUptoRow.holds Try.pinned (OpenSpec.upto octetsHexSpec)

/-- 'smartcardlaw01.OctetsPads', WHERE WHAT IT READS IS OF BULK AT MOST 1048576: true; the input reads as it did. -/
def octetsPadsUptoRow : OpenClaim := { program := "ytpegechahbldlaa", sum := "9c6749612a995a2f8a1c6a673e71768611700ba41b32f95ea725c1e330b9ca3a", func := "smartcard/smartcardlaw01.OctetsPads", spec := "octetsPads", apart := false, narrowed := true }
def OctetsPadsUptoSaid : Prop := octetsPadsUptoRow.holds Try.pinned (OpenSpec.upto octetsPadsSpec)

/-- 'smartcardlaw01.OctetsPieces', WHERE WHAT IT READS IS OF BULK AT MOST 1048576: true; the input reads as it did. -/
def octetsPiecesUptoRow : OpenClaim := { program := "ytpegechahbldlaa", sum := "9c6749612a995a2f8a1c6a673e71768611700ba41b32f95ea725c1e330b9ca3a", func := "smartcard/smartcardlaw01.OctetsPieces", spec := "octetsPieces", apart := false, narrowed := true }
def OctetsPiecesUptoSaid : Prop := octetsPiecesUptoRow.holds Try.pinned (OpenSpec.upto octetsPiecesSpec)

/-- 'smartcardlaw01.OctetsXor', WHERE WHAT IT READS IS OF BULK AT MOST 1048576: true; the input reads as it did. -/
def octetsXorUptoRow : OpenClaim := { program := "ytpegechahbldlaa", sum := "9c6749612a995a2f8a1c6a673e71768611700ba41b32f95ea725c1e330b9ca3a", func := "smartcard/smartcardlaw01.OctetsXor", spec := "octetsXor", apart := false, narrowed := true }
def OctetsXorUptoSaid : Prop := octetsXorUptoRow.holds Try.pinned (OpenSpec.upto octetsXorSpec)

/-- 'smartcardlaw01.OctetsOrders', WHERE WHAT IT READS IS OF BULK AT MOST 1048576: true; the input reads as it did. -/
def octetsOrdersUptoRow : OpenClaim := { program := "ytpegechahbldlaa", sum := "9c6749612a995a2f8a1c6a673e71768611700ba41b32f95ea725c1e330b9ca3a", func := "smartcard/smartcardlaw01.OctetsOrders", spec := "octetsOrders", inPlace := ["internal/bytealg.Compare"], apart := false, narrowed := true }
def OctetsOrdersUptoSaid : Prop := octetsOrdersUptoRow.holds Try.pinned (OpenSpec.upto octetsOrdersSpec)

/-- 'smartcardlaw01.OctetsNumbers', WHERE WHAT IT READS IS OF BULK AT MOST 1048576: true; the input reads as it did. -/
def octetsNumbersUptoRow : OpenClaim := { program := "ytpegechahbldlaa", sum := "9c6749612a995a2f8a1c6a673e71768611700ba41b32f95ea725c1e330b9ca3a", func := "smartcard/smartcardlaw01.OctetsNumbers", spec := "octetsNumbers", apart := false, narrowed := true }
def OctetsNumbersUptoSaid : Prop := octetsNumbersUptoRow.holds Try.pinned (OpenSpec.upto octetsNumbersSpec)

/-- 'smartcardlaw01.OctetsRoundTrip', WHERE WHAT IT READS IS OF BULK AT MOST 1048576: true; the input reads as it did. -/
def octetsRoundTripUptoRow : OpenClaim := { program := "ytpegechahbldlaa", sum := "9c6749612a995a2f8a1c6a673e71768611700ba41b32f95ea725c1e330b9ca3a", func := "smartcard/smartcardlaw01.OctetsRoundTrip", spec := "octetsRoundTrip", apart := false, narrowed := true }
def OctetsRoundTripUptoSaid : Prop := octetsRoundTripUptoRow.holds Try.pinned (OpenSpec.upto octetsRoundTripSpec)

end Rows
end Go.Proofs.Ytpegechahbldlaa
