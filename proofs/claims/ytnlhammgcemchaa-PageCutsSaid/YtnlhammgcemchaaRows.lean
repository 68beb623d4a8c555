/-
  No cell of these rows narrows 'for every input' (looked for: loops, veiled, ifaces, maps, wideKeys, modest, calm, conditions, laid).
  DERIVED. THE GIVEN ROWS OF THIS SEAT. 6 by the template 'for every input the law returns true; each argument reads behind the call as it read before'; 0 by the template 'total and deterministic' (their statements: YtnlhammgcemchaaTotals.lean).
  GIVEN WITH THE SEED: the statements are not yours to turn. If you find one false, say at which input.
  Laid BY PROGRAM, IN A SANDBOX (cutbox-rows.mjs): the forced cells as the released guide's own fill.sh prints them over the translation 0a315a32d300ce46… (all of the seat's roots in one cut). By AI agents, Wed Nov 11 2026. No macro, syntax, notation, axiom, sorry.
-/
import Derived.Test.YtnlhammgcemchaaChecked
import GoSem.Claim
import GoSem.ClaimJoined
import GoSem.ClaimMapViews
import Derived.JoinedTies
import Derived.KernelRfl
namespace Go.Proofs.Ytnlhammgcemchaa
/- THE CELL 'sum', in the pinned program and in every row, IS THE sha256 OF THE DUMP (.gsa) THAT YtnlhammgcemchaaProg.lean LOADS. Nothing in Lean hashes anything: it is a label: what it is worth is what the hold of that sum in a sandbox is worth. -/
noncomputable def Try.pinned : Pinned := { name := "ytnlhammgcemchaa", sum := "0a315a32d300ce46657fac02dade0d4cf72f426865f159c1171094058d094bc6", checked := Try.checked }
namespace Rows
def none {H : Type} : Left H := { results := [], args := [] }

/-- 'smartcardlaw11.PagePlays': WHATEVER THE INPUT: true; the input reads as it did. -/
def pagePlaysSpec : ChangeSpec := { name := "pagePlays", fn := fun _ => fun
  | [d1, d2] => { results := [.lit (.bool true)], args := [d1, d2] }
  | _ => none }
def pagePlaysRow : OpenClaim := { program := "ytnlhammgcemchaa", sum := "0a315a32d300ce46657fac02dade0d4cf72f426865f159c1171094058d094bc6", func := "smartcard/smartcardlaw11.PagePlays", spec := "pagePlays", unfollowed := true, recurses := true, apart := false }
def PagePlaysSaid : Prop := pagePlaysRow.holds Try.pinned (OpenSpec.ofChange pagePlaysSpec)

/-- ITS FALSE NEIGHBOUR: 'it returns false'. Refute it at one input. -/
def pagePlaysWrong : ChangeSpec := { name := "pagePlays", fn := fun _ => fun
  | [d1, d2] => { results := [.lit (.bool false)], args := [d1, d2] }
  | _ => none }
def PagePlaysWrongFalsely : Prop := pagePlaysRow.holds Try.pinned (OpenSpec.ofChange pagePlaysWrong)

/-- 'smartcardlaw11.PageWears': WHATEVER THE INPUT: true; the input reads as it did. -/
def pageWearsSpec : ChangeSpec := { name := "pageWears", fn := fun _ => fun
  | [d1, d2, d3] => { results := [.lit (.bool true)], args := [d1, d2, d3] }
  | _ => none }
def pageWearsRow : OpenClaim := { program := "ytnlhammgcemchaa", sum := "0a315a32d300ce46657fac02dade0d4cf72f426865f159c1171094058d094bc6", func := "smartcard/smartcardlaw11.PageWears", spec := "pageWears", unfollowed := true, recurses := true, apart := false }
def PageWearsSaid : Prop := pageWearsRow.holds Try.pinned (OpenSpec.ofChange pageWearsSpec)

/-- ITS FALSE NEIGHBOUR: 'it returns false'. Refute it at one input. -/
def pageWearsWrong : ChangeSpec := { name := "pageWears", fn := fun _ => fun
  | [d1, d2, d3] => { results := [.lit (.bool false)], args := [d1, d2, d3] }
  | _ => none }
def PageWearsWrongFalsely : Prop := pageWearsRow.holds Try.pinned (OpenSpec.ofChange pageWearsWrong)

/-- 'smartcardlaw11.PageNobody': WHATEVER THE INPUT: true; the input reads as it did. -/
def pageNobodySpec : ChangeSpec := { name := "pageNobody", fn := fun _ => fun
  | [d1, d2] => { results := [.lit (.bool true)], args := [d1, d2] }
  | _ => none }
def pageNobodyRow : OpenClaim := { program := "ytnlhammgcemchaa", sum := "0a315a32d300ce46657fac02dade0d4cf72f426865f159c1171094058d094bc6", func := "smartcard/smartcardlaw11.PageNobody", spec := "pageNobody", unfollowed := true, recurses := true, apart := false }
def PageNobodySaid : Prop := pageNobodyRow.holds Try.pinned (OpenSpec.ofChange pageNobodySpec)

/-- ITS FALSE NEIGHBOUR: 'it returns false'. Refute it at one input. -/
def pageNobodyWrong : ChangeSpec := { name := "pageNobody", fn := fun _ => fun
  | [d1, d2] => { results := [.lit (.bool false)], args := [d1, d2] }
  | _ => none }
def PageNobodyWrongFalsely : Prop := pageNobodyRow.holds Try.pinned (OpenSpec.ofChange pageNobodyWrong)

/-- 'smartcardlaw11.PageFixes': WHATEVER THE INPUT: true; the input reads as it did. -/
def pageFixesSpec : ChangeSpec := { name := "pageFixes", fn := fun _ => fun
  | [d1, d2, d3] => { results := [.lit (.bool true)], args := [d1, d2, d3] }
  | _ => none }
def pageFixesRow : OpenClaim := { program := "ytnlhammgcemchaa", sum := "0a315a32d300ce46657fac02dade0d4cf72f426865f159c1171094058d094bc6", func := "smartcard/smartcardlaw11.PageFixes", spec := "pageFixes", unfollowed := true, recurses := true, apart := false }
def PageFixesSaid : Prop := pageFixesRow.holds Try.pinned (OpenSpec.ofChange pageFixesSpec)

/-- ITS FALSE NEIGHBOUR: 'it returns false'. Refute it at one input. -/
def pageFixesWrong : ChangeSpec := { name := "pageFixes", fn := fun _ => fun
  | [d1, d2, d3] => { results := [.lit (.bool false)], args := [d1, d2, d3] }
  | _ => none }
def PageFixesWrongFalsely : Prop := pageFixesRow.holds Try.pinned (OpenSpec.ofChange pageFixesWrong)

/-- 'smartcardlaw11.PageDetects': WHATEVER THE INPUT: true; the input reads as it did. -/
def pageDetectsSpec : ChangeSpec := { name := "pageDetects", fn := fun _ => fun
  | [d1, d2, d3, d4, d5] => { results := [.lit (.bool true)], args := [d1, d2, d3, d4, d5] }
  | _ => none }
def pageDetectsRow : OpenClaim := { program := "ytnlhammgcemchaa", sum := "0a315a32d300ce46657fac02dade0d4cf72f426865f159c1171094058d094bc6", func := "smartcard/smartcardlaw11.PageDetects", spec := "pageDetects", unfollowed := true, recurses := true, apart := false }
def PageDetectsSaid : Prop := pageDetectsRow.holds Try.pinned (OpenSpec.ofChange pageDetectsSpec)

/-- ITS FALSE NEIGHBOUR: 'it returns false'. Refute it at one input. -/
def pageDetectsWrong : ChangeSpec := { name := "pageDetects", fn := fun _ => fun
  | [d1, d2, d3, d4, d5] => { results := [.lit (.bool false)], args := [d1, d2, d3, d4, d5] }
  | _ => none }
def PageDetectsWrongFalsely : Prop := pageDetectsRow.holds Try.pinned (OpenSpec.ofChange pageDetectsWrong)

/-- 'smartcardlaw11.PageCuts': WHATEVER THE INPUT: true; the input reads as it did. -/
def pageCutsSpec : ChangeSpec := { name := "pageCuts", fn := fun _ => fun
  | [d1, d2, d3] => { results := [.lit (.bool true)], args := [d1, d2, d3] }
  | _ => none }
def pageCutsRow : OpenClaim := { program := "ytnlhammgcemchaa", sum := "0a315a32d300ce46657fac02dade0d4cf72f426865f159c1171094058d094bc6", func := "smartcard/smartcardlaw11.PageCuts", spec := "pageCuts", unfollowed := true, recurses := true, apart := false }
def PageCutsSaid : Prop := pageCutsRow.holds Try.pinned (OpenSpec.ofChange pageCutsSpec)

/-- ITS FALSE NEIGHBOUR: 'it returns false'. Refute it at one input. -/
def pageCutsWrong : ChangeSpec := { name := "pageCuts", fn := fun _ => fun
  | [d1, d2, d3] => { results := [.lit (.bool false)], args := [d1, d2, d3] }
  | _ => none }
def PageCutsWrongFalsely : Prop := pageCutsRow.holds Try.pinned (OpenSpec.ofChange pageCutsWrong)

/- THE SECOND FORM. 'bulk': how many values and letters a reading holds, each counted each time it is reached (what is shared counts as often as it is met; a slice's spare places count too). A statement '..UptoSaid' is the law's where the arguments, and the package variables that the reading takes, are together of bulk at most 1048576: NARROWER than '..Said'. Prove '..Said' where nothing that the law and all that it calls make is longer than what came in: it says more and counts as full. Else prove '..UptoSaid'. A law counts once. -/
mutual
def uptoBulk {H : Type} : DataW H → Nat
  | .lit (.string bytes) => bytes.length + 1
  | .lit _ => 1
  | .nil => 1
  | .ptr d => uptoBulk d + 1
  | .slice elems spare => uptoBulkAll elems + uptoBulkAll spare + 1
  | .agg parts => uptoBulkAll parts + 1
  | .iface _ d => uptoBulk d + 1
  | .map entries => uptoBulkEntries entries + 1
  | .held _ => 1
def uptoBulkAll {H : Type} : List (DataW H) → Nat
  | [] => 0
  | d :: r => uptoBulk d + uptoBulkAll r
def uptoBulkEntries {H : Type} : List (Lit × DataW H) → Nat
  | [] => 0
  | x :: r => uptoBulkEntry x + uptoBulkEntries r
def uptoBulkEntry {H : Type} : Lit × DataW H → Nat
  | (.string bytes, d) => bytes.length + uptoBulk d + 1
  | (_, d) => uptoBulk d + 1
 end
def uptoSmall : (H : Type) → List (DataW H) → Bool := fun _ ds => decide (uptoBulkAll ds ≤ 1048576)
def OpenSpec.upto (s : _root_.Go.ChangeSpec) : _root_.Go.OpenSpec := { _root_.Go.OpenSpec.ofChange s with cond := some uptoSmall }

/-- 'smartcardlaw11.PagePlays', WHERE WHAT IT READS IS OF BULK AT MOST 1048576: true; the input reads as it did. -/
def pagePlaysUptoRow : OpenClaim := { program := "ytnlhammgcemchaa", sum := "0a315a32d300ce46657fac02dade0d4cf72f426865f159c1171094058d094bc6", func := "smartcard/smartcardlaw11.PagePlays", spec := "pagePlays", unfollowed := true, recurses := true, apart := false, narrowed := true }
def PagePlaysUptoSaid : Prop := pagePlaysUptoRow.holds Try.pinned (OpenSpec.upto pagePlaysSpec)

/-- 'smartcardlaw11.PageWears', WHERE WHAT IT READS IS OF BULK AT MOST 1048576: true; the input reads as it did. -/
def pageWearsUptoRow : OpenClaim := { program := "ytnlhammgcemchaa", sum := "0a315a32d300ce46657fac02dade0d4cf72f426865f159c1171094058d094bc6", func := "smartcard/smartcardlaw11.PageWears", spec := "pageWears", unfollowed := true, recurses := true, apart := false, narrowed := true }
def PageWearsUptoSaid : Prop := pageWearsUptoRow.holds Try.pinned (OpenSpec.upto pageWearsSpec)

/-- 'smartcardlaw11.PageNobody', WHERE WHAT IT READS IS OF BULK AT MOST 1048576: true; the input reads as it did. -/
def pageNobodyUptoRow : OpenClaim := { program := "ytnlhammgcemchaa", sum := "0a315a32d300ce46657fac02dade0d4cf72f426865f159c1171094058d094bc6", func := "smartcard/smartcardlaw11.PageNobody", spec := "pageNobody", unfollowed := true, recurses := true, apart := false, narrowed := true }
def PageNobodyUptoSaid : Prop := pageNobodyUptoRow.holds Try.pinned (OpenSpec.upto pageNobodySpec)

/-- 'smartcardlaw11.PageFixes', WHERE WHAT IT READS IS OF BULK AT MOST 1048576: true; the input reads as it did. -/
def pageFixesUptoRow : OpenClaim := { program := "ytnlhammgcemchaa", sum := "0a315a32d300ce46657fac02dade0d4cf72f426865f159c1171094058d094bc6", func := "smartcard/smartcardlaw11.PageFixes", spec := "pageFixes", unfollowed := true, recurses := true, apart := false, narrowed := true }
def PageFixesUptoSaid : Prop := pageFixesUptoRow.holds Try.pinned (OpenSpec.upto pageFixesSpec)

/-- 'smartcardlaw11.PageDetects', WHERE WHAT IT READS IS OF BULK AT MOST 1048576: true; the input reads as it did. -/
def pageDetectsUptoRow : OpenClaim := { program := "ytnlhammgcemchaa", sum := "0a315a32d300ce46657fac02dade0d4cf72f426865f159c1171094058d094bc6", func := "smartcard/smartcardlaw11.PageDetects", spec := "pageDetects", unfollowed := true, recurses := true, apart := false, narrowed := true }
def PageDetectsUptoSaid : Prop := pageDetectsUptoRow.holds Try.pinned (OpenSpec.upto pageDetectsSpec)

/-- 'smartcardlaw11.PageCuts', WHERE WHAT IT READS IS OF BULK AT MOST 1048576: true; the input reads as it did. -/
def pageCutsUptoRow : OpenClaim := { program := "ytnlhammgcemchaa", sum := "0a315a32d300ce46657fac02dade0d4cf72f426865f159c1171094058d094bc6", func := "smartcard/smartcardlaw11.PageCuts", spec := "pageCuts", unfollowed := true, recurses := true, apart := false, narrowed := true }
def PageCutsUptoSaid : Prop := pageCutsUptoRow.holds Try.pinned (OpenSpec.upto pageCutsSpec)

end Rows
end Go.Proofs.Ytnlhammgcemchaa
