/-
  NARROWER THAN 'FOR EVERY INPUT', by the rows' own cells (each row's printed sentence says how): SecureSizes: laid · SecureOnce: laid · SecureAgrees: laid · SecureOnly: laid · SecureNil: laid.
  DERIVED. THE GIVEN ROWS OF THIS SEAT. 5 by the template 'for every input the law returns true; each argument reads behind the call as it read before'; 0 by the template 'total and deterministic' (their statements: YtibaibdgpnkdnaaDoorTotals.lean).
  GIVEN WITH THE SEED: the statements are not yours to turn. If you find one false, say at which input.
  Laid BY PROGRAM, IN A SANDBOX (cutbox-rows.mjs): the forced cells as the released guide's own fill.sh prints them over the translation cd5c600e1e251ef4… (all of the seat's roots in one cut). By AI agents, Wed Nov 11 2026. No macro, syntax, notation, axiom, sorry.
-/
import Derived.Test.YtibaibdgpnkdnaaDoorChecked
import GoSem.Claim
import GoSem.ClaimJoined
import GoSem.ClaimMapViews
import Derived.JoinedTies
import Derived.KernelRfl
namespace Go.Proofs.YtibaibdgpnkdnaaDoor
/- THE CELL 'sum', in the pinned program and in every row, IS THE sha256 OF THE DUMP (.gsa) THAT YtibaibdgpnkdnaaDoorProg.lean LOADS. Nothing in Lean hashes anything: it is a label: what it is worth is what the hold of that sum in a sandbox is worth. -/
noncomputable def Tryd.pinned : Pinned := { name := "ytibaibdgpnkdnaadoor", sum := "cd5c600e1e251ef4acfff56497c17171bba3b2c6eb55cfaf572c3104a0be00a6", checked := Tryd.checked }
namespace Rows
def none {H : Type} : Left H := { results := [], args := [] }

/- WHAT THE LISTED PACKAGE-LEVEL VARIABLES READ AS WHEN THE CALL BEGINS. Each datum BY PROGRAM (the guide's laid-datum.mjs) off the statement by which the dump's own 'gosem.cut.vars' lays the variable. In a bare row this is a premise. The card (YtibaibdgpnkdnaaDoorCards.lean) ties it to the program's text. -/
def laid_errors_errorType {H : Type} : DataW H := .iface "internal/reflectlite.rtype" (.agg [.ptr (.lit (.string [101, 114, 114, 111, 114]))])

/-- 'smartcardlaw24.SecureSizes': WHATEVER THE INPUT: true; the input reads as it did. -/
def secureSizesSpec : ChangeSpec := { name := "secureSizes", fn := fun _ => fun
  | [d1, d2, d3] => { results := [.lit (.bool true)], args := [d1, d2, d3] }
  | _ => none }
def secureSizesRow : OpenClaim := { program := "ytibaibdgpnkdnaadoor", sum := "cd5c600e1e251ef4acfff56497c17171bba3b2c6eb55cfaf572c3104a0be00a6", func := "smartcard/smartcardlaw24.SecureSizes", spec := "secureSizes", inPlace := ["internal/reflectlite.ValueOf", "(internal/reflectlite.Value).Type", "(internal/reflectlite.Value).IsNil", "internal/reflectlite.TypeOf", "(internal/reflectlite.Value).Elem", "(internal/reflectlite.Value).Set"], unfollowed := true, recurses := true, named := ["errors.errorType"], apart := false, laid := [("errors.errorType", laid_errors_errorType)] }
def SecureSizesSaid : Prop := secureSizesRow.holds Tryd.pinned (OpenSpec.ofChange secureSizesSpec)

/-- ITS FALSE NEIGHBOUR: 'it returns false'. Refute it at one input. -/
def secureSizesWrong : ChangeSpec := { name := "secureSizes", fn := fun _ => fun
  | [d1, d2, d3] => { results := [.lit (.bool false)], args := [d1, d2, d3] }
  | _ => none }
def SecureSizesWrongFalsely : Prop := secureSizesRow.holds Tryd.pinned (OpenSpec.ofChange secureSizesWrong)

/-- 'smartcardlaw24.SecureOnce': WHATEVER THE INPUT: true; the input reads as it did. -/
def secureOnceSpec : ChangeSpec := { name := "secureOnce", fn := fun _ => fun
  | [d1, d2, d3, d4] => { results := [.lit (.bool true)], args := [d1, d2, d3, d4] }
  | _ => none }
def secureOnceRow : OpenClaim := { program := "ytibaibdgpnkdnaadoor", sum := "cd5c600e1e251ef4acfff56497c17171bba3b2c6eb55cfaf572c3104a0be00a6", func := "smartcard/smartcardlaw24.SecureOnce", spec := "secureOnce", inPlace := ["internal/reflectlite.ValueOf", "(internal/reflectlite.Value).Type", "(internal/reflectlite.Value).IsNil", "internal/reflectlite.TypeOf", "(internal/reflectlite.Value).Elem", "(internal/reflectlite.Value).Set"], unfollowed := true, recurses := true, named := ["errors.errorType"], apart := false, laid := [("errors.errorType", laid_errors_errorType)] }
def SecureOnceSaid : Prop := secureOnceRow.holds Tryd.pinned (OpenSpec.ofChange secureOnceSpec)

/-- ITS FALSE NEIGHBOUR: 'it returns false'. Refute it at one input. -/
def secureOnceWrong : ChangeSpec := { name := "secureOnce", fn := fun _ => fun
  | [d1, d2, d3, d4] => { results := [.lit (.bool false)], args := [d1, d2, d3, d4] }
  | _ => none }
def SecureOnceWrongFalsely : Prop := secureOnceRow.holds Tryd.pinned (OpenSpec.ofChange secureOnceWrong)

/-- 'smartcardlaw24.SecureAgrees': WHATEVER THE INPUT: true; the input reads as it did. -/
def secureAgreesSpec : ChangeSpec := { name := "secureAgrees", fn := fun _ => fun
  | [d1, d2, d3] => { results := [.lit (.bool true)], args := [d1, d2, d3] }
  | _ => none }
def secureAgreesRow : OpenClaim := { program := "ytibaibdgpnkdnaadoor", sum := "cd5c600e1e251ef4acfff56497c17171bba3b2c6eb55cfaf572c3104a0be00a6", func := "smartcard/smartcardlaw24.SecureAgrees", spec := "secureAgrees", inPlace := ["internal/reflectlite.ValueOf", "(internal/reflectlite.Value).Type", "(internal/reflectlite.Value).IsNil", "internal/reflectlite.TypeOf", "(internal/reflectlite.Value).Elem", "(internal/reflectlite.Value).Set"], unfollowed := true, recurses := true, named := ["errors.errorType"], apart := false, laid := [("errors.errorType", laid_errors_errorType)] }
def SecureAgreesSaid : Prop := secureAgreesRow.holds Tryd.pinned (OpenSpec.ofChange secureAgreesSpec)

/-- ITS FALSE NEIGHBOUR: 'it returns false'. Refute it at one input. -/
def secureAgreesWrong : ChangeSpec := { name := "secureAgrees", fn := fun _ => fun
  | [d1, d2, d3] => { results := [.lit (.bool false)], args := [d1, d2, d3] }
  | _ => none }
def SecureAgreesWrongFalsely : Prop := secureAgreesRow.holds Tryd.pinned (OpenSpec.ofChange secureAgreesWrong)

/-- 'smartcardlaw24.SecureOnly': WHATEVER THE INPUT: true; the input reads as it did. -/
def secureOnlySpec : ChangeSpec := { name := "secureOnly", fn := fun _ => fun
  | [d1, d2, d3] => { results := [.lit (.bool true)], args := [d1, d2, d3] }
  | _ => none }
def secureOnlyRow : OpenClaim := { program := "ytibaibdgpnkdnaadoor", sum := "cd5c600e1e251ef4acfff56497c17171bba3b2c6eb55cfaf572c3104a0be00a6", func := "smartcard/smartcardlaw24.SecureOnly", spec := "secureOnly", inPlace := ["internal/reflectlite.ValueOf", "(internal/reflectlite.Value).Type", "(internal/reflectlite.Value).IsNil", "internal/reflectlite.TypeOf", "(internal/reflectlite.Value).Elem", "(internal/reflectlite.Value).Set"], unfollowed := true, recurses := true, named := ["errors.errorType"], apart := false, laid := [("errors.errorType", laid_errors_errorType)] }
def SecureOnlySaid : Prop := secureOnlyRow.holds Tryd.pinned (OpenSpec.ofChange secureOnlySpec)

/-- ITS FALSE NEIGHBOUR: 'it returns false'. Refute it at one input. -/
def secureOnlyWrong : ChangeSpec := { name := "secureOnly", fn := fun _ => fun
  | [d1, d2, d3] => { results := [.lit (.bool false)], args := [d1, d2, d3] }
  | _ => none }
def SecureOnlyWrongFalsely : Prop := secureOnlyRow.holds Tryd.pinned (OpenSpec.ofChange secureOnlyWrong)

/-- 'smartcardlaw24.SecureNil': WHATEVER THE INPUT: true; the input reads as it did. -/
def secureNilSpec : ChangeSpec := { name := "secureNil", fn := fun _ => fun
  | [d1, d2] => { results := [.lit (.bool true)], args := [d1, d2] }
  | _ => none }
def secureNilRow : OpenClaim := { program := "ytibaibdgpnkdnaadoor", sum := "cd5c600e1e251ef4acfff56497c17171bba3b2c6eb55cfaf572c3104a0be00a6", func := "smartcard/smartcardlaw24.SecureNil", spec := "secureNil", inPlace := ["internal/reflectlite.ValueOf", "(internal/reflectlite.Value).Type", "(internal/reflectlite.Value).IsNil", "internal/reflectlite.TypeOf", "(internal/reflectlite.Value).Elem", "(internal/reflectlite.Value).Set"], unfollowed := true, recurses := true, named := ["errors.errorType"], apart := false, laid := [("errors.errorType", laid_errors_errorType)] }
def SecureNilSaid : Prop := secureNilRow.holds Tryd.pinned (OpenSpec.ofChange secureNilSpec)

/-- ITS FALSE NEIGHBOUR: 'it returns false'. Refute it at one input. -/
def secureNilWrong : ChangeSpec := { name := "secureNil", fn := fun _ => fun
  | [d1, d2] => { results := [.lit (.bool false)], args := [d1, d2] }
  | _ => none }
def SecureNilWrongFalsely : Prop := secureNilRow.holds Tryd.pinned (OpenSpec.ofChange secureNilWrong)

/- THE SECOND FORM. 'bulk': how many values and letters a reading holds, each counted each time it is reached (what is shared counts as often as it is met; a slice's spare places count too). A statement '..UptoSaid' is the law's where the arguments, and the package variables that the reading takes, are together of bulk at most 1048576: NARROWER than '..Said'. Prove '..Said' where nothing that the law and all that it calls make is longer than what came in: it says more and counts as full. Else prove '..UptoSaid'. A law counts once. -/
mutual
def uptoBulk {H : Type} : DataW H → Nat
  | .lit (.string bytes) => bytes.length + 1
  | .lit _ => 1
  | .nil => 1
  | .ptr d => uptoBulk d + 1
  | .slice elems spare => uptoBulkAll elems + uptoBulkAll spare + 1
  | .agg parts => uptoBulkAll parts + 1
  | .iface _ d => uptoBulk d + 1
  | .map entries => uptoBulkEntries entries + 1
  | .held _ => 1
def uptoBulkAll {H : Type} : List (DataW H) → Nat
  | [] => 0
  | d :: r => uptoBulk d + uptoBulkAll r
def uptoBulkEntries {H : Type} : List (Lit × DataW H) → Nat
  | [] => 0
  | x :: r => uptoBulkEntry x + uptoBulkEntries r
def uptoBulkEntry {H : Type} : Lit × DataW H → Nat
  | (.string bytes, d) => bytes.length + uptoBulk d + 1
  | (_, d) => uptoBulk d + 1
 end
def uptoSmall : (H : Type) → List (DataW H) → Bool := fun _ ds => decide (uptoBulkAll ds ≤ 1048576)
def OpenSpec.upto (s : _root_.Go.ChangeSpec) : _root_.Go.OpenSpec := { _root_.Go.OpenSpec.ofChange s with cond := some uptoSmall }

/-- 'smartcardlaw24.SecureSizes', WHERE WHAT IT READS IS OF BULK AT MOST 1048576: true; the input reads as it did. -/
def secureSizesUptoRow : OpenClaim := { program := "ytibaibdgpnkdnaadoor", sum := "cd5c600e1e251ef4acfff56497c17171bba3b2c6eb55cfaf572c3104a0be00a6", func := "smartcard/smartcardlaw24.SecureSizes", spec := "secureSizes", inPlace := ["internal/reflectlite.ValueOf", "(internal/reflectlite.Value).Type", "(internal/reflectlite.Value).IsNil", "internal/reflectlite.TypeOf", "(internal/reflectlite.Value).Elem", "(internal/reflectlite.Value).Set"], unfollowed := true, recurses := true, named := ["errors.errorType"], apart := false, laid := [("errors.errorType", laid_errors_errorType)], narrowed := true }
def SecureSizesUptoSaid : Prop := secureSizesUptoRow.holds Tryd.pinned (OpenSpec.upto secureSizesSpec)

/-- 'smartcardlaw24.SecureOnce', WHERE WHAT IT READS IS OF BULK AT MOST 1048576: true; the input reads as it did. -/
def secureOnceUptoRow : OpenClaim := { program := "ytibaibdgpnkdnaadoor", sum := "cd5c600e1e251ef4acfff56497c17171bba3b2c6eb55cfaf572c3104a0be00a6", func := "smartcard/smartcardlaw24.SecureOnce", spec := "secureOnce", inPlace := ["internal/reflectlite.ValueOf", "(internal/reflectlite.Value).Type", "(internal/reflectlite.Value).IsNil", "internal/reflectlite.TypeOf", "(internal/reflectlite.Value).Elem", "(internal/reflectlite.Value).Set"], unfollowed := true, recurses := true, named := ["errors.errorType"], apart := false, laid := [("errors.errorType", laid_errors_errorType)], narrowed := true }
def SecureOnceUptoSaid : Prop := secureOnceUptoRow.holds Tryd.pinned (OpenSpec.upto secureOnceSpec)

/-- 'smartcardlaw24.SecureAgrees', WHERE WHAT IT READS IS OF BULK AT MOST 1048576: true; the input reads as it did. -/
def secureAgreesUptoRow : OpenClaim := { program := "ytibaibdgpnkdnaadoor", sum := "cd5c600e1e251ef4acfff56497c17171bba3b2c6eb55cfaf572c3104a0be00a6", func := "smartcard/smartcardlaw24.SecureAgrees", spec := "secureAgrees", inPlace := ["internal/reflectlite.ValueOf", "(internal/reflectlite.Value).Type", "(internal/reflectlite.Value).IsNil", "internal/reflectlite.TypeOf", "(internal/reflectlite.Value).Elem", "(internal/reflectlite.Value).Set"], unfollowed := true, recurses := true, named := ["errors.errorType"], apart := false, laid := [("errors.errorType", laid_errors_errorType)], narrowed := true }
def SecureAgreesUptoSaid : Prop := secureAgreesUptoRow.holds Tryd.pinned (OpenSpec.upto secureAgreesSpec)

/-- 'smartcardlaw24.SecureOnly', WHERE WHAT IT READS IS OF BULK AT MOST 1048576: true; the input reads as it did. -/
def secureOnlyUptoRow : OpenClaim := { program := "ytibaibdgpnkdnaadoor", sum := "cd5c600e1e251ef4acfff56497c17171bba3b2c6eb55cfaf572c3104a0be00a6", func := "smartcard/smartcardlaw24.SecureOnly", spec := "secureOnly", inPlace := ["internal/reflectlite.ValueOf", "(internal/reflectlite.Value).Type", "(internal/reflectlite.Value).IsNil", "internal/reflectlite.TypeOf", "(internal/reflectlite.Value).Elem", "(internal/reflectlite.Value).Set"], unfollowed := true, recurses := true, named := ["errors.errorType"], apart := false, laid := [("errors.errorType", laid_errors_errorType)], narrowed := true }
def SecureOnlyUptoSaid : Prop := secureOnlyUptoRow.holds Tryd.pinned (OpenSpec.upto secureOnlySpec)

/-- 'smartcardlaw24.SecureNil', WHERE WHAT IT READS IS OF BULK AT MOST 1048576: true; the input reads as it did. -/
def secureNilUptoRow : OpenClaim := { program := "ytibaibdgpnkdnaadoor", sum := "cd5c600e1e251ef4acfff56497c17171bba3b2c6eb55cfaf572c3104a0be00a6", func := "smartcard/smartcardlaw24.SecureNil", spec := "secureNil", inPlace := ["internal/reflectlite.ValueOf", "(internal/reflectlite.Value).Type", "(internal/reflectlite.Value).IsNil", "internal/reflectlite.TypeOf", "(internal/reflectlite.Value).Elem", "(internal/reflectlite.Value).Set"], unfollowed := true, recurses := true, named := ["errors.errorType"], apart := false, laid := [("errors.errorType", laid_errors_errorType)], narrowed := true }
def SecureNilUptoSaid : Prop := secureNilUptoRow.holds Tryd.pinned (OpenSpec.upto secureNilSpec)

end Rows
end Go.Proofs.YtibaibdgpnkdnaaDoor
