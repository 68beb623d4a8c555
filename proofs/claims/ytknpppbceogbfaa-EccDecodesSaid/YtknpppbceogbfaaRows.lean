/-
  No cell of these rows narrows 'for every input' (looked for: loops, veiled, ifaces, maps, wideKeys, modest, calm, conditions, laid).
  DERIVED. THE GIVEN ROWS OF THIS SEAT. 6 by the template 'for every input the law returns true; each argument reads behind the call as it read before'; 0 by the template 'total and deterministic' (their statements: YtknpppbceogbfaaTotals.lean).
  GIVEN WITH THE SEED: the statements are not yours to turn. If you find one false, say at which input.
  Laid BY PROGRAM, IN A SANDBOX (cutbox-rows.mjs): the forced cells as the released guide's own fill.sh prints them over the translation ed4c44a23d68f370… (all of the seat's roots in one cut). By AI agents, Wed Nov 11 2026. No macro, syntax, notation, axiom, sorry.
-/
import Derived.Test.YtknpppbceogbfaaChecked
import GoSem.Claim
import GoSem.ClaimJoined
import GoSem.ClaimMapViews
import Derived.JoinedTies
import Derived.KernelRfl
namespace Go.Proofs.Ytknpppbceogbfaa
/- THE CELL 'sum', in the pinned program and in every row, IS THE sha256 OF THE DUMP (.gsa) THAT YtknpppbceogbfaaProg.lean LOADS. Nothing in Lean hashes anything: it is a label: what it is worth is what the hold of that sum in a sandbox is worth. -/
noncomputable def Try.pinned : Pinned := { name := "ytknpppbceogbfaa", sum := "ed4c44a23d68f3701db8d61f0cd88360174df3fce3f865dc9d808600ef71a5fb", checked := Try.checked }
namespace Rows
def none {H : Type} : Left H := { results := [], args := [] }

/-- 'smartcardlaw10.EccEncodes': WHATEVER THE INPUT: true; the input reads as it did. -/
def eccEncodesSpec : ChangeSpec := { name := "eccEncodes", fn := fun _ => fun
  | [d] => { results := [.lit (.bool true)], args := [d] }
  | _ => none }
def eccEncodesRow : OpenClaim := { program := "ytknpppbceogbfaa", sum := "ed4c44a23d68f3701db8d61f0cd88360174df3fce3f865dc9d808600ef71a5fb", func := "smartcard/smartcardlaw10.EccEncodes", spec := "eccEncodes", apart := false }
def EccEncodesSaid : Prop := eccEncodesRow.holds Try.pinned (OpenSpec.ofChange eccEncodesSpec)

/-- ITS FALSE NEIGHBOUR: 'it returns false'. Refute it at one input. -/
def eccEncodesWrong : ChangeSpec := { name := "eccEncodes", fn := fun _ => fun
  | [d] => { results := [.lit (.bool false)], args := [d] }
  | _ => none }
def EccEncodesWrongFalsely : Prop := eccEncodesRow.holds Try.pinned (OpenSpec.ofChange eccEncodesWrong)

/-- 'smartcardlaw10.EccDecodes': WHATEVER THE INPUT: true; the input reads as it did. -/
def eccDecodesSpec : ChangeSpec := { name := "eccDecodes", fn := fun _ => fun
  | [d] => { results := [.lit (.bool true)], args := [d] }
  | _ => none }
def eccDecodesRow : OpenClaim := { program := "ytknpppbceogbfaa", sum := "ed4c44a23d68f3701db8d61f0cd88360174df3fce3f865dc9d808600ef71a5fb", func := "smartcard/smartcardlaw10.EccDecodes", spec := "eccDecodes", apart := false }
def EccDecodesSaid : Prop := eccDecodesRow.holds Try.pinned (OpenSpec.ofChange eccDecodesSpec)

/-- ITS FALSE NEIGHBOUR: 'it returns false'. Refute it at one input. -/
def eccDecodesWrong : ChangeSpec := { name := "eccDecodes", fn := fun _ => fun
  | [d] => { results := [.lit (.bool false)], args := [d] }
  | _ => none }
def EccDecodesWrongFalsely : Prop := eccDecodesRow.holds Try.pinned (OpenSpec.ofChange eccDecodesWrong)

/-- 'smartcardlaw10.EccCorrects': WHATEVER THE INPUT: true; the input reads as it did. -/
def eccCorrectsSpec : ChangeSpec := { name := "eccCorrects", fn := fun _ => fun
  | [d1, d2, d3] => { results := [.lit (.bool true)], args := [d1, d2, d3] }
  | _ => none }
def eccCorrectsRow : OpenClaim := { program := "ytknpppbceogbfaa", sum := "ed4c44a23d68f3701db8d61f0cd88360174df3fce3f865dc9d808600ef71a5fb", func := "smartcard/smartcardlaw10.EccCorrects", spec := "eccCorrects", apart := false }
def EccCorrectsSaid : Prop := eccCorrectsRow.holds Try.pinned (OpenSpec.ofChange eccCorrectsSpec)

/-- ITS FALSE NEIGHBOUR: 'it returns false'. Refute it at one input. -/
def eccCorrectsWrong : ChangeSpec := { name := "eccCorrects", fn := fun _ => fun
  | [d1, d2, d3] => { results := [.lit (.bool false)], args := [d1, d2, d3] }
  | _ => none }
def EccCorrectsWrongFalsely : Prop := eccCorrectsRow.holds Try.pinned (OpenSpec.ofChange eccCorrectsWrong)

/-- 'smartcardlaw10.EccPacks': WHATEVER THE INPUT: true; the input reads as it did. -/
def eccPacksSpec : ChangeSpec := { name := "eccPacks", fn := fun _ => fun
  | [d1, d2] => { results := [.lit (.bool true)], args := [d1, d2] }
  | _ => none }
def eccPacksRow : OpenClaim := { program := "ytknpppbceogbfaa", sum := "ed4c44a23d68f3701db8d61f0cd88360174df3fce3f865dc9d808600ef71a5fb", func := "smartcard/smartcardlaw10.EccPacks", spec := "eccPacks", apart := false }
def EccPacksSaid : Prop := eccPacksRow.holds Try.pinned (OpenSpec.ofChange eccPacksSpec)

/-- ITS FALSE NEIGHBOUR: 'it returns false'. Refute it at one input. -/
def eccPacksWrong : ChangeSpec := { name := "eccPacks", fn := fun _ => fun
  | [d1, d2] => { results := [.lit (.bool false)], args := [d1, d2] }
  | _ => none }
def EccPacksWrongFalsely : Prop := eccPacksRow.holds Try.pinned (OpenSpec.ofChange eccPacksWrong)

/-- 'smartcardlaw10.EccUnpacks': WHATEVER THE INPUT: true; the input reads as it did. -/
def eccUnpacksSpec : ChangeSpec := { name := "eccUnpacks", fn := fun _ => fun
  | [d1, d2] => { results := [.lit (.bool true)], args := [d1, d2] }
  | _ => none }
def eccUnpacksRow : OpenClaim := { program := "ytknpppbceogbfaa", sum := "ed4c44a23d68f3701db8d61f0cd88360174df3fce3f865dc9d808600ef71a5fb", func := "smartcard/smartcardlaw10.EccUnpacks", spec := "eccUnpacks", apart := false }
def EccUnpacksSaid : Prop := eccUnpacksRow.holds Try.pinned (OpenSpec.ofChange eccUnpacksSpec)

/-- ITS FALSE NEIGHBOUR: 'it returns false'. Refute it at one input. -/
def eccUnpacksWrong : ChangeSpec := { name := "eccUnpacks", fn := fun _ => fun
  | [d1, d2] => { results := [.lit (.bool false)], args := [d1, d2] }
  | _ => none }
def EccUnpacksWrongFalsely : Prop := eccUnpacksRow.holds Try.pinned (OpenSpec.ofChange eccUnpacksWrong)

/-- 'smartcardlaw10.EccRoundTrip': WHATEVER THE INPUT: true; the input reads as it did. -/
def eccRoundTripSpec : ChangeSpec := { name := "eccRoundTrip", fn := fun _ => fun
  | [d1, d2] => { results := [.lit (.bool true)], args := [d1, d2] }
  | _ => none }
def eccRoundTripRow : OpenClaim := { program := "ytknpppbceogbfaa", sum := "ed4c44a23d68f3701db8d61f0cd88360174df3fce3f865dc9d808600ef71a5fb", func := "smartcard/smartcardlaw10.EccRoundTrip", spec := "eccRoundTrip", apart := false }
def EccRoundTripSaid : Prop := eccRoundTripRow.holds Try.pinned (OpenSpec.ofChange eccRoundTripSpec)

/-- ITS FALSE NEIGHBOUR: 'it returns false'. Refute it at one input. -/
def eccRoundTripWrong : ChangeSpec := { name := "eccRoundTrip", fn := fun _ => fun
  | [d1, d2] => { results := [.lit (.bool false)], args := [d1, d2] }
  | _ => none }
def EccRoundTripWrongFalsely : Prop := eccRoundTripRow.holds Try.pinned (OpenSpec.ofChange eccRoundTripWrong)

/- THE SECOND FORM. 'bulk': how many values and letters a reading holds, each counted each time it is reached (what is shared counts as often as it is met; a slice's spare places count too). A statement '..UptoSaid' is the law's where the arguments, and the package variables that the reading takes, are together of bulk at most 1048576: NARROWER than '..Said'. Prove '..Said' where nothing that the law and all that it calls make is longer than what came in: it says more and counts as full. Else prove '..UptoSaid'. A law counts once. -/
mutual
def uptoBulk {H : Type} : DataW H → Nat
  | .lit (.string bytes) => bytes.length + 1
  | .lit _ => 1
  | .nil => 1
  | .ptr d => uptoBulk d + 1
  | .slice elems spare => uptoBulkAll elems + uptoBulkAll spare + 1
  | .agg parts => uptoBulkAll parts + 1
  | .iface _ d => uptoBulk d + 1
  | .map entries => uptoBulkEntries entries + 1
  | .held _ => 1
def uptoBulkAll {H : Type} : List (DataW H) → Nat
  | [] => 0
  | d :: r => uptoBulk d + uptoBulkAll r
def uptoBulkEntries {H : Type} : List (Lit × DataW H) → Nat
  | [] => 0
  | x :: r => uptoBulkEntry x + uptoBulkEntries r
def uptoBulkEntry {H : Type} : Lit × DataW H → Nat
  | (.string bytes, d) => bytes.length + uptoBulk d + 1
  | (_, d) => uptoBulk d + 1
 end
def uptoSmall : (H : Type) → List (DataW H) → Bool := fun _ ds => decide (uptoBulkAll ds ≤ 1048576)
def OpenSpec.upto (s : _root_.Go.ChangeSpec) : _root_.Go.OpenSpec := { _root_.Go.OpenSpec.ofChange s with cond := some uptoSmall }

/-- 'smartcardlaw10.EccEncodes', WHERE WHAT IT READS IS OF BULK AT MOST 1048576: true; the input reads as it did. -/
def eccEncodesUptoRow : OpenClaim := { program := "ytknpppbceogbfaa", sum := "ed4c44a23d68f3701db8d61f0cd88360174df3fce3f865dc9d808600ef71a5fb", func := "smartcard/smartcardlaw10.EccEncodes", spec := "eccEncodes", apart := false, narrowed := true }
def EccEncodesUptoSaid : Prop := eccEncodesUptoRow.holds Try.pinned (OpenSpec.upto eccEncodesSpec)

/-- 'smartcardlaw10.EccDecodes', WHERE WHAT IT READS IS OF BULK AT MOST 1048576: true; the input reads as it did. -/
def eccDecodesUptoRow : OpenClaim := { program := "ytknpppbceogbfaa", sum := "ed4c44a23d68f3701db8d61f0cd88360174df3fce3f865dc9d808600ef71a5fb", func := "smartcard/smartcardlaw10.EccDecodes", spec := "eccDecodes", apart := false, narrowed := true }
def EccDecodesUptoSaid : Prop := eccDecodesUptoRow.holds Try.pinned (OpenSpec.upto eccDecodesSpec)

/-- 'smartcardlaw10.EccCorrects', WHERE WHAT IT READS IS OF BULK AT MOST 1048576: true; the input reads as it did. -/
def eccCorrectsUptoRow : OpenClaim := { program := "ytknpppbceogbfaa", sum := "ed4c44a23d68f3701db8d61f0cd88360174df3fce3f865dc9d808600ef71a5fb", func := "smartcard/smartcardlaw10.EccCorrects", spec := "eccCorrects", apart := false, narrowed := true }
def EccCorrectsUptoSaid : Prop := eccCorrectsUptoRow.holds Try.pinned (OpenSpec.upto eccCorrectsSpec)

/-- 'smartcardlaw10.EccPacks', WHERE WHAT IT READS IS OF BULK AT MOST 1048576: true; the input reads as it did. -/
def eccPacksUptoRow : OpenClaim := { program := "ytknpppbceogbfaa", sum := "ed4c44a23d68f3701db8d61f0cd88360174df3fce3f865dc9d808600ef71a5fb", func := "smartcard/smartcardlaw10.EccPacks", spec := "eccPacks", apart := false, narrowed := true }
def EccPacksUptoSaid : Prop := eccPacksUptoRow.holds Try.pinned (OpenSpec.upto eccPacksSpec)

/-- 'smartcardlaw10.EccUnpacks', WHERE WHAT IT READS IS OF BULK AT MOST 1048576: true; the input reads as it did. -/
def eccUnpacksUptoRow : OpenClaim := { program := "ytknpppbceogbfaa", sum := "ed4c44a23d68f3701db8d61f0cd88360174df3fce3f865dc9d808600ef71a5fb", func := "smartcard/smartcardlaw10.EccUnpacks", spec := "eccUnpacks", apart := false, narrowed := true }
def EccUnpacksUptoSaid : Prop := eccUnpacksUptoRow.holds Try.pinned (OpenSpec.upto eccUnpacksSpec)

/-- 'smartcardlaw10.EccRoundTrip', WHERE WHAT IT READS IS OF BULK AT MOST 1048576: true; the input reads as it did. -/
def eccRoundTripUptoRow : OpenClaim := { program := "ytknpppbceogbfaa", sum := "ed4c44a23d68f3701db8d61f0cd88360174df3fce3f865dc9d808600ef71a5fb", func := "smartcard/smartcardlaw10.EccRoundTrip", spec := "eccRoundTrip", apart := false, narrowed := true }
def EccRoundTripUptoSaid : Prop := eccRoundTripUptoRow.holds Try.pinned (OpenSpec.upto eccRoundTripSpec)

end Rows
end Go.Proofs.Ytknpppbceogbfaa
