/-
  No cell of these rows narrows 'for every input' (looked for: loops, veiled, ifaces, maps, wideKeys, modest, calm, conditions, laid).
  DERIVED. THE GIVEN ROWS OF THIS SEAT. 4 by the template 'for every input the law returns true; each argument reads behind the call as it read before'; 0 by the template 'total and deterministic' (their statements: YtlggpnbdmcomhaaTotals.lean).
  GIVEN WITH THE SEED: the statements are not yours to turn. If you find one false, say at which input.
  Laid BY PROGRAM, IN A SANDBOX (cutbox-rows.mjs): the forced cells as the released guide's own fill.sh prints them over the translation 86c5a2156a7a5bf2… (all of the seat's roots in one cut). By AI agents, Wed Nov 11 2026. No macro, syntax, notation, axiom, sorry.
-/
import Derived.Test.YtlggpnbdmcomhaaChecked
import GoSem.Claim
import GoSem.ClaimJoined
import GoSem.ClaimMapViews
import Derived.JoinedTies
import Derived.KernelRfl
namespace Go.Proofs.Ytlggpnbdmcomhaa
/- THE CELL 'sum', in the pinned program and in every row, IS THE sha256 OF THE DUMP (.gsa) THAT YtlggpnbdmcomhaaProg.lean LOADS. Nothing in Lean hashes anything: it is a label: what it is worth is what the hold of that sum in a sandbox is worth. -/
noncomputable def Try.pinned : Pinned := { name := "ytlggpnbdmcomhaa", sum := "86c5a2156a7a5bf2db93c9b0dc5d811e5841b39a446590594d4a1b049327c2b0", checked := Try.checked }
namespace Rows
def none {H : Type} : Left H := { results := [], args := [] }

/-- 'smartcardlaw19.CipherKeys': WHATEVER THE INPUT: true; the input reads as it did. -/
def cipherKeysSpec : ChangeSpec := { name := "cipherKeys", fn := fun _ => fun
  | [d1, d2, d3] => { results := [.lit (.bool true)], args := [d1, d2, d3] }
  | _ => none }
def cipherKeysRow : OpenClaim := { program := "ytlggpnbdmcomhaa", sum := "86c5a2156a7a5bf2db93c9b0dc5d811e5841b39a446590594d4a1b049327c2b0", func := "smartcard/smartcardlaw19.CipherKeys", spec := "cipherKeys", apart := false }
def CipherKeysSaid : Prop := cipherKeysRow.holds Try.pinned (OpenSpec.ofChange cipherKeysSpec)

/-- ITS FALSE NEIGHBOUR: 'it returns false'. Refute it at one input. -/
def cipherKeysWrong : ChangeSpec := { name := "cipherKeys", fn := fun _ => fun
  | [d1, d2, d3] => { results := [.lit (.bool false)], args := [d1, d2, d3] }
  | _ => none }
def CipherKeysWrongFalsely : Prop := cipherKeysRow.holds Try.pinned (OpenSpec.ofChange cipherKeysWrong)

/-- 'smartcardlaw19.CipherEncrypts': WHATEVER THE INPUT: true; the input reads as it did. -/
def cipherEncryptsSpec : ChangeSpec := { name := "cipherEncrypts", fn := fun _ => fun
  | [d1, d2] => { results := [.lit (.bool true)], args := [d1, d2] }
  | _ => none }
def cipherEncryptsRow : OpenClaim := { program := "ytlggpnbdmcomhaa", sum := "86c5a2156a7a5bf2db93c9b0dc5d811e5841b39a446590594d4a1b049327c2b0", func := "smartcard/smartcardlaw19.CipherEncrypts", spec := "cipherEncrypts", apart := false }
def CipherEncryptsSaid : Prop := cipherEncryptsRow.holds Try.pinned (OpenSpec.ofChange cipherEncryptsSpec)

/-- ITS FALSE NEIGHBOUR: 'it returns false'. Refute it at one input. -/
def cipherEncryptsWrong : ChangeSpec := { name := "cipherEncrypts", fn := fun _ => fun
  | [d1, d2] => { results := [.lit (.bool false)], args := [d1, d2] }
  | _ => none }
def CipherEncryptsWrongFalsely : Prop := cipherEncryptsRow.holds Try.pinned (OpenSpec.ofChange cipherEncryptsWrong)

/-- 'smartcardlaw19.CipherInverts': WHATEVER THE INPUT: true; the input reads as it did. -/
def cipherInvertsSpec : ChangeSpec := { name := "cipherInverts", fn := fun _ => fun
  | [d1, d2] => { results := [.lit (.bool true)], args := [d1, d2] }
  | _ => none }
def cipherInvertsRow : OpenClaim := { program := "ytlggpnbdmcomhaa", sum := "86c5a2156a7a5bf2db93c9b0dc5d811e5841b39a446590594d4a1b049327c2b0", func := "smartcard/smartcardlaw19.CipherInverts", spec := "cipherInverts", apart := false }
def CipherInvertsSaid : Prop := cipherInvertsRow.holds Try.pinned (OpenSpec.ofChange cipherInvertsSpec)

/-- ITS FALSE NEIGHBOUR: 'it returns false'. Refute it at one input. -/
def cipherInvertsWrong : ChangeSpec := { name := "cipherInverts", fn := fun _ => fun
  | [d1, d2] => { results := [.lit (.bool false)], args := [d1, d2] }
  | _ => none }
def CipherInvertsWrongFalsely : Prop := cipherInvertsRow.holds Try.pinned (OpenSpec.ofChange cipherInvertsWrong)

/-- 'smartcardlaw19.CipherOwns': WHATEVER THE INPUT: true; the input reads as it did. -/
def cipherOwnsSpec : ChangeSpec := { name := "cipherOwns", fn := fun _ => fun
  | [d1, d2] => { results := [.lit (.bool true)], args := [d1, d2] }
  | _ => none }
def cipherOwnsRow : OpenClaim := { program := "ytlggpnbdmcomhaa", sum := "86c5a2156a7a5bf2db93c9b0dc5d811e5841b39a446590594d4a1b049327c2b0", func := "smartcard/smartcardlaw19.CipherOwns", spec := "cipherOwns", apart := false }
def CipherOwnsSaid : Prop := cipherOwnsRow.holds Try.pinned (OpenSpec.ofChange cipherOwnsSpec)

/-- ITS FALSE NEIGHBOUR: 'it returns false'. Refute it at one input. -/
def cipherOwnsWrong : ChangeSpec := { name := "cipherOwns", fn := fun _ => fun
  | [d1, d2] => { results := [.lit (.bool false)], args := [d1, d2] }
  | _ => none }
def CipherOwnsWrongFalsely : Prop := cipherOwnsRow.holds Try.pinned (OpenSpec.ofChange cipherOwnsWrong)

/- THE SECOND FORM. 'bulk': how many values and letters a reading holds, each counted each time it is reached (what is shared counts as often as it is met; a slice's spare places count too). A statement '..UptoSaid' is the law's where the arguments, and the package variables that the reading takes, are together of bulk at most 1048576: NARROWER than '..Said'. Prove '..Said' where nothing that the law and all that it calls make is longer than what came in: it says more and counts as full. Else prove '..UptoSaid'. A law counts once. -/
mutual
def uptoBulk {H : Type} : DataW H → Nat
  | .lit (.string bytes) => bytes.length + 1
  | .lit _ => 1
  | .nil => 1
  | .ptr d => uptoBulk d + 1
  | .slice elems spare => uptoBulkAll elems + uptoBulkAll spare + 1
  | .agg parts => uptoBulkAll parts + 1
  | .iface _ d => uptoBulk d + 1
  | .map entries => uptoBulkEntries entries + 1
  | .held _ => 1
def uptoBulkAll {H : Type} : List (DataW H) → Nat
  | [] => 0
  | d :: r => uptoBulk d + uptoBulkAll r
def uptoBulkEntries {H : Type} : List (Lit × DataW H) → Nat
  | [] => 0
  | x :: r => uptoBulkEntry x + uptoBulkEntries r
def uptoBulkEntry {H : Type} : Lit × DataW H → Nat
  | (.string bytes, d) => bytes.length + uptoBulk d + 1
  | (_, d) => uptoBulk d + 1
 end
def uptoSmall : (H : Type) → List (DataW H) → Bool := fun _ ds => decide (uptoBulkAll ds ≤ 1048576)
def OpenSpec.upto (s : _root_.Go.ChangeSpec) : _root_.Go.OpenSpec := { _root_.Go.OpenSpec.ofChange s with cond := some uptoSmall }

/-- 'smartcardlaw19.CipherKeys', WHERE WHAT IT READS IS OF BULK AT MOST 1048576: true; the input reads as it did. -/
def cipherKeysUptoRow : OpenClaim := { program := "ytlggpnbdmcomhaa", sum := "86c5a2156a7a5bf2db93c9b0dc5d811e5841b39a446590594d4a1b049327c2b0", func := "smartcard/smartcardlaw19.CipherKeys", spec := "cipherKeys", apart := false, narrowed := true }
def CipherKeysUptoSaid : Prop := cipherKeysUptoRow.holds Try.pinned (OpenSpec.upto cipherKeysSpec)

/-- 'smartcardlaw19.CipherEncrypts', WHERE WHAT IT READS IS OF BULK AT MOST 1048576: true; the input reads as it did. -/
def cipherEncryptsUptoRow : OpenClaim := { program := "ytlggpnbdmcomhaa", sum := "86c5a2156a7a5bf2db93c9b0dc5d811e5841b39a446590594d4a1b049327c2b0", func := "smartcard/smartcardlaw19.CipherEncrypts", spec := "cipherEncrypts", apart := false, narrowed := true }
def CipherEncryptsUptoSaid : Prop := cipherEncryptsUptoRow.holds Try.pinned (OpenSpec.upto cipherEncryptsSpec)

/-- 'smartcardlaw19.CipherInverts', WHERE WHAT IT READS IS OF BULK AT MOST 1048576: true; the input reads as it did. -/
def cipherInvertsUptoRow : OpenClaim := { program := "ytlggpnbdmcomhaa", sum := "86c5a2156a7a5bf2db93c9b0dc5d811e5841b39a446590594d4a1b049327c2b0", func := "smartcard/smartcardlaw19.CipherInverts", spec := "cipherInverts", apart := false, narrowed := true }
def CipherInvertsUptoSaid : Prop := cipherInvertsUptoRow.holds Try.pinned (OpenSpec.upto cipherInvertsSpec)

/-- 'smartcardlaw19.CipherOwns', WHERE WHAT IT READS IS OF BULK AT MOST 1048576: true; the input reads as it did. -/
def cipherOwnsUptoRow : OpenClaim := { program := "ytlggpnbdmcomhaa", sum := "86c5a2156a7a5bf2db93c9b0dc5d811e5841b39a446590594d4a1b049327c2b0", func := "smartcard/smartcardlaw19.CipherOwns", spec := "cipherOwns", apart := false, narrowed := true }
def CipherOwnsUptoSaid : Prop := cipherOwnsUptoRow.holds Try.pinned (OpenSpec.upto cipherOwnsSpec)

end Rows
end Go.Proofs.Ytlggpnbdmcomhaa
