/-
  No cell of these rows narrows 'for every input' (looked for: loops, veiled, ifaces, maps, wideKeys, modest, calm, conditions, laid).
  DERIVED. THE GIVEN ROWS OF THIS SEAT. 5 by the template 'for every input the law returns true; each argument reads behind the call as it read before'; 0 by the template 'total and deterministic' (their statements: YtpacdjkikbdkeaaTotals.lean).
  GIVEN WITH THE SEED: the statements are not yours to turn. If you find one false, say at which input.
  Laid BY PROGRAM, IN A SANDBOX (cutbox-rows.mjs): the forced cells as the released guide's own fill.sh prints them over the translation bcc3a40ca17dffdc… (all of the seat's roots in one cut). By AI agents, Wed Nov 11 2026. No macro, syntax, notation, axiom, sorry.
-/
import Derived.Test.YtpacdjkikbdkeaaChecked
import GoSem.Claim
import GoSem.ClaimJoined
import GoSem.ClaimMapViews
import Derived.JoinedTies
import Derived.KernelRfl
namespace Go.Proofs.Ytpacdjkikbdkeaa
/- THE CELL 'sum', in the pinned program and in every row, IS THE sha256 OF THE DUMP (.gsa) THAT YtpacdjkikbdkeaaProg.lean LOADS. Nothing in Lean hashes anything: it is a label: what it is worth is what the hold of that sum in a sandbox is worth. -/
noncomputable def Try.pinned : Pinned := { name := "ytpacdjkikbdkeaa", sum := "bcc3a40ca17dffdc394f7b1d56806b6346cd3d082eee87d3186714aac91e91ee", checked := Try.checked }
namespace Rows
def none {H : Type} : Left H := { results := [], args := [] }

/-- 'smartcardlaw07.TzeroPieces': WHATEVER THE INPUT: true; the input reads as it did. -/
def tzeroPiecesSpec : ChangeSpec := { name := "tzeroPieces", fn := fun _ => fun
  | [d1, d2, d3] => { results := [.lit (.bool true)], args := [d1, d2, d3] }
  | _ => none }
def tzeroPiecesRow : OpenClaim := { program := "ytpacdjkikbdkeaa", sum := "bcc3a40ca17dffdc394f7b1d56806b6346cd3d082eee87d3186714aac91e91ee", func := "smartcard/smartcardlaw07.TzeroPieces", spec := "tzeroPieces", unfollowed := true, recurses := true, apart := false }
def TzeroPiecesSaid : Prop := tzeroPiecesRow.holds Try.pinned (OpenSpec.ofChange tzeroPiecesSpec)

/-- ITS FALSE NEIGHBOUR: 'it returns false'. Refute it at one input. -/
def tzeroPiecesWrong : ChangeSpec := { name := "tzeroPieces", fn := fun _ => fun
  | [d1, d2, d3] => { results := [.lit (.bool false)], args := [d1, d2, d3] }
  | _ => none }
def TzeroPiecesWrongFalsely : Prop := tzeroPiecesRow.holds Try.pinned (OpenSpec.ofChange tzeroPiecesWrong)

/-- 'smartcardlaw07.TzeroCards': WHATEVER THE INPUT: true; the input reads as it did. -/
def tzeroCardsSpec : ChangeSpec := { name := "tzeroCards", fn := fun _ => fun
  | [d1, d2] => { results := [.lit (.bool true)], args := [d1, d2] }
  | _ => none }
def tzeroCardsRow : OpenClaim := { program := "ytpacdjkikbdkeaa", sum := "bcc3a40ca17dffdc394f7b1d56806b6346cd3d082eee87d3186714aac91e91ee", func := "smartcard/smartcardlaw07.TzeroCards", spec := "tzeroCards", unfollowed := true, recurses := true, apart := false }
def TzeroCardsSaid : Prop := tzeroCardsRow.holds Try.pinned (OpenSpec.ofChange tzeroCardsSpec)

/-- ITS FALSE NEIGHBOUR: 'it returns false'. Refute it at one input. -/
def tzeroCardsWrong : ChangeSpec := { name := "tzeroCards", fn := fun _ => fun
  | [d1, d2] => { results := [.lit (.bool false)], args := [d1, d2] }
  | _ => none }
def TzeroCardsWrongFalsely : Prop := tzeroCardsRow.holds Try.pinned (OpenSpec.ofChange tzeroCardsWrong)

/-- 'smartcardlaw07.TzeroTerminals': WHATEVER THE INPUT: true; the input reads as it did. -/
def tzeroTerminalsSpec : ChangeSpec := { name := "tzeroTerminals", fn := fun _ => fun
  | [d] => { results := [.lit (.bool true)], args := [d] }
  | _ => none }
def tzeroTerminalsRow : OpenClaim := { program := "ytpacdjkikbdkeaa", sum := "bcc3a40ca17dffdc394f7b1d56806b6346cd3d082eee87d3186714aac91e91ee", func := "smartcard/smartcardlaw07.TzeroTerminals", spec := "tzeroTerminals", unfollowed := true, recurses := true, apart := false }
def TzeroTerminalsSaid : Prop := tzeroTerminalsRow.holds Try.pinned (OpenSpec.ofChange tzeroTerminalsSpec)

/-- ITS FALSE NEIGHBOUR: 'it returns false'. Refute it at one input. -/
def tzeroTerminalsWrong : ChangeSpec := { name := "tzeroTerminals", fn := fun _ => fun
  | [d] => { results := [.lit (.bool false)], args := [d] }
  | _ => none }
def TzeroTerminalsWrongFalsely : Prop := tzeroTerminalsRow.holds Try.pinned (OpenSpec.ofChange tzeroTerminalsWrong)

/-- 'smartcardlaw07.TzeroDelivers': WHATEVER THE INPUT: true; the input reads as it did. -/
def tzeroDeliversSpec : ChangeSpec := { name := "tzeroDelivers", fn := fun _ => fun
  | [d1, d2, d3] => { results := [.lit (.bool true)], args := [d1, d2, d3] }
  | _ => none }
def tzeroDeliversRow : OpenClaim := { program := "ytpacdjkikbdkeaa", sum := "bcc3a40ca17dffdc394f7b1d56806b6346cd3d082eee87d3186714aac91e91ee", func := "smartcard/smartcardlaw07.TzeroDelivers", spec := "tzeroDelivers", unfollowed := true, recurses := true, apart := false }
def TzeroDeliversSaid : Prop := tzeroDeliversRow.holds Try.pinned (OpenSpec.ofChange tzeroDeliversSpec)

/-- ITS FALSE NEIGHBOUR: 'it returns false'. Refute it at one input. -/
def tzeroDeliversWrong : ChangeSpec := { name := "tzeroDelivers", fn := fun _ => fun
  | [d1, d2, d3] => { results := [.lit (.bool false)], args := [d1, d2, d3] }
  | _ => none }
def TzeroDeliversWrongFalsely : Prop := tzeroDeliversRow.holds Try.pinned (OpenSpec.ofChange tzeroDeliversWrong)

/-- 'smartcardlaw07.TzeroNil': WHATEVER THE INPUT: true; the input reads as it did. -/
def tzeroNilSpec : ChangeSpec := { name := "tzeroNil", fn := fun _ => fun
  | [d1, d2, d3] => { results := [.lit (.bool true)], args := [d1, d2, d3] }
  | _ => none }
def tzeroNilRow : OpenClaim := { program := "ytpacdjkikbdkeaa", sum := "bcc3a40ca17dffdc394f7b1d56806b6346cd3d082eee87d3186714aac91e91ee", func := "smartcard/smartcardlaw07.TzeroNil", spec := "tzeroNil", unfollowed := true, recurses := true, apart := false }
def TzeroNilSaid : Prop := tzeroNilRow.holds Try.pinned (OpenSpec.ofChange tzeroNilSpec)

/-- ITS FALSE NEIGHBOUR: 'it returns false'. Refute it at one input. -/
def tzeroNilWrong : ChangeSpec := { name := "tzeroNil", fn := fun _ => fun
  | [d1, d2, d3] => { results := [.lit (.bool false)], args := [d1, d2, d3] }
  | _ => none }
def TzeroNilWrongFalsely : Prop := tzeroNilRow.holds Try.pinned (OpenSpec.ofChange tzeroNilWrong)

/- THE SECOND FORM. 'bulk': how many values and letters a reading holds, each counted each time it is reached (what is shared counts as often as it is met; a slice's spare places count too). A statement '..UptoSaid' is the law's where the arguments, and the package variables that the reading takes, are together of bulk at most 1048576: NARROWER than '..Said'. Prove '..Said' where nothing that the law and all that it calls make is longer than what came in: it says more and counts as full. Else prove '..UptoSaid'. A law counts once. -/
mutual
def uptoBulk {H : Type} : DataW H → Nat
  | .lit (.string bytes) => bytes.length + 1
  | .lit _ => 1
  | .nil => 1
  | .ptr d => uptoBulk d + 1
  | .slice elems spare => uptoBulkAll elems + uptoBulkAll spare + 1
  | .agg parts => uptoBulkAll parts + 1
  | .iface _ d => uptoBulk d + 1
  | .map entries => uptoBulkEntries entries + 1
  | .held _ => 1
def uptoBulkAll {H : Type} : List (DataW H) → Nat
  | [] => 0
  | d :: r => uptoBulk d + uptoBulkAll r
def uptoBulkEntries {H : Type} : List (Lit × DataW H) → Nat
  | [] => 0
  | x :: r => uptoBulkEntry x + uptoBulkEntries r
def uptoBulkEntry {H : Type} : Lit × DataW H → Nat
  | (.string bytes, d) => bytes.length + uptoBulk d + 1
  | (_, d) => uptoBulk d + 1
 end
def uptoSmall : (H : Type) → List (DataW H) → Bool := fun _ ds => decide (uptoBulkAll ds ≤ 1048576)
def OpenSpec.upto (s : _root_.Go.ChangeSpec) : _root_.Go.OpenSpec := { _root_.Go.OpenSpec.ofChange s with cond := some uptoSmall }

/-- 'smartcardlaw07.TzeroPieces', WHERE WHAT IT READS IS OF BULK AT MOST 1048576: true; the input reads as it did. -/
def tzeroPiecesUptoRow : OpenClaim := { program := "ytpacdjkikbdkeaa", sum := "bcc3a40ca17dffdc394f7b1d56806b6346cd3d082eee87d3186714aac91e91ee", func := "smartcard/smartcardlaw07.TzeroPieces", spec := "tzeroPieces", unfollowed := true, recurses := true, apart := false, narrowed := true }
def TzeroPiecesUptoSaid : Prop := tzeroPiecesUptoRow.holds Try.pinned (OpenSpec.upto tzeroPiecesSpec)

/-- 'smartcardlaw07.TzeroCards', WHERE WHAT IT READS IS OF BULK AT MOST 1048576: true; the input reads as it did. -/
def tzeroCardsUptoRow : OpenClaim := { program := "ytpacdjkikbdkeaa", sum := "bcc3a40ca17dffdc394f7b1d56806b6346cd3d082eee87d3186714aac91e91ee", func := "smartcard/smartcardlaw07.TzeroCards", spec := "tzeroCards", unfollowed := true, recurses := true, apart := false, narrowed := true }
def TzeroCardsUptoSaid : Prop := tzeroCardsUptoRow.holds Try.pinned (OpenSpec.upto tzeroCardsSpec)

/-- 'smartcardlaw07.TzeroTerminals', WHERE WHAT IT READS IS OF BULK AT MOST 1048576: true; the input reads as it did. -/
def tzeroTerminalsUptoRow : OpenClaim := { program := "ytpacdjkikbdkeaa", sum := "bcc3a40ca17dffdc394f7b1d56806b6346cd3d082eee87d3186714aac91e91ee", func := "smartcard/smartcardlaw07.TzeroTerminals", spec := "tzeroTerminals", unfollowed := true, recurses := true, apart := false, narrowed := true }
def TzeroTerminalsUptoSaid : Prop := tzeroTerminalsUptoRow.holds Try.pinned (OpenSpec.upto tzeroTerminalsSpec)

/-- 'smartcardlaw07.TzeroDelivers', WHERE WHAT IT READS IS OF BULK AT MOST 1048576: true; the input reads as it did. -/
def tzeroDeliversUptoRow : OpenClaim := { program := "ytpacdjkikbdkeaa", sum := "bcc3a40ca17dffdc394f7b1d56806b6346cd3d082eee87d3186714aac91e91ee", func := "smartcard/smartcardlaw07.TzeroDelivers", spec := "tzeroDelivers", unfollowed := true, recurses := true, apart := false, narrowed := true }
def TzeroDeliversUptoSaid : Prop := tzeroDeliversUptoRow.holds Try.pinned (OpenSpec.upto tzeroDeliversSpec)

/-- 'smartcardlaw07.TzeroNil', WHERE WHAT IT READS IS OF BULK AT MOST 1048576: true; the input reads as it did. -/
def tzeroNilUptoRow : OpenClaim := { program := "ytpacdjkikbdkeaa", sum := "bcc3a40ca17dffdc394f7b1d56806b6346cd3d082eee87d3186714aac91e91ee", func := "smartcard/smartcardlaw07.TzeroNil", spec := "tzeroNil", unfollowed := true, recurses := true, apart := false, narrowed := true }
def TzeroNilUptoSaid : Prop := tzeroNilUptoRow.holds Try.pinned (OpenSpec.upto tzeroNilSpec)

end Rows
end Go.Proofs.Ytpacdjkikbdkeaa
