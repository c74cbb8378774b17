/-
  No cell of these rows narrows 'for every input' (looked for: loops, veiled, ifaces, maps, wideKeys, modest, calm, conditions, laid).
  DERIVED. THE GIVEN ROWS OF THIS SEAT. 11 by the template 'for every input the law returns true; each argument reads behind the call as it read before'; 0 by the template 'total and deterministic' (their statements: YtojhbhhlbgkeoaaTotals.lean).
  GIVEN WITH THE SEED: the statements are not yours to turn. If you find one false, say at which input.
  Laid BY PROGRAM, IN A SANDBOX (cutbox-rows.mjs): the forced cells as the released guide's own fill.sh prints them over the translation 803e3fc7f58f2f73… (all of the seat's roots in one cut). By AI agents, Wed Nov 11 2026. No macro, syntax, notation, axiom, sorry.
-/
import Derived.Test.YtojhbhhlbgkeoaaChecked
import GoSem.Claim
import GoSem.ClaimJoined
import GoSem.ClaimMapViews
import Derived.JoinedTies
import Derived.KernelRfl
namespace Go.Proofs.Ytojhbhhlbgkeoaa
/- THE CELL 'sum', in the pinned program and in every row, IS THE sha256 OF THE DUMP (.gsa) THAT YtojhbhhlbgkeoaaProg.lean LOADS. Nothing in Lean hashes anything: it is a label: what it is worth is what the hold of that sum in a sandbox is worth. -/
noncomputable def Try.pinned : Pinned := { name := "ytojhbhhlbgkeoaa", sum := "803e3fc7f58f2f731803c2ce4ce402531e18d06e9d8ad7dedfac96c68b0afd29", checked := Try.checked }
namespace Rows
def none {H : Type} : Left H := { results := [], args := [] }

/-- 'laws.FnExactPutVar': WHATEVER THE INPUT: true; the input reads as it did. -/
def fnExactPutVarSpec : ChangeSpec := { name := "fnExactPutVar", fn := fun _ => fun
  | [d] => { results := [.lit (.bool true)], args := [d] }
  | _ => none }
def fnExactPutVarRow : OpenClaim := { program := "ytojhbhhlbgkeoaa", sum := "803e3fc7f58f2f731803c2ce4ce402531e18d06e9d8ad7dedfac96c68b0afd29", func := "loop.example/g00498/laws.FnExactPutVar", spec := "fnExactPutVar", apart := false }
def FnExactPutVarSaid : Prop := fnExactPutVarRow.holds Try.pinned (OpenSpec.ofChange fnExactPutVarSpec)

/-- ITS FALSE NEIGHBOUR: 'it returns false'. Refute it at one input. -/
def fnExactPutVarWrong : ChangeSpec := { name := "fnExactPutVar", fn := fun _ => fun
  | [d] => { results := [.lit (.bool false)], args := [d] }
  | _ => none }
def FnExactPutVarWrongFalsely : Prop := fnExactPutVarRow.holds Try.pinned (OpenSpec.ofChange fnExactPutVarWrong)

/-- 'laws.FnExactGetVar': WHATEVER THE INPUT: true; the input reads as it did. -/
def fnExactGetVarSpec : ChangeSpec := { name := "fnExactGetVar", fn := fun _ => fun
  | [d1, d2] => { results := [.lit (.bool true)], args := [d1, d2] }
  | _ => none }
def fnExactGetVarRow : OpenClaim := { program := "ytojhbhhlbgkeoaa", sum := "803e3fc7f58f2f731803c2ce4ce402531e18d06e9d8ad7dedfac96c68b0afd29", func := "loop.example/g00498/laws.FnExactGetVar", spec := "fnExactGetVar", apart := false }
def FnExactGetVarSaid : Prop := fnExactGetVarRow.holds Try.pinned (OpenSpec.ofChange fnExactGetVarSpec)

/-- ITS FALSE NEIGHBOUR: 'it returns false'. Refute it at one input. -/
def fnExactGetVarWrong : ChangeSpec := { name := "fnExactGetVar", fn := fun _ => fun
  | [d1, d2] => { results := [.lit (.bool false)], args := [d1, d2] }
  | _ => none }
def FnExactGetVarWrongFalsely : Prop := fnExactGetVarRow.holds Try.pinned (OpenSpec.ofChange fnExactGetVarWrong)

/-- 'laws.FnExactPadVar': WHATEVER THE INPUT: true; the input reads as it did. -/
def fnExactPadVarSpec : ChangeSpec := { name := "fnExactPadVar", fn := fun _ => fun
  | [d1, d2] => { results := [.lit (.bool true)], args := [d1, d2] }
  | _ => none }
def fnExactPadVarRow : OpenClaim := { program := "ytojhbhhlbgkeoaa", sum := "803e3fc7f58f2f731803c2ce4ce402531e18d06e9d8ad7dedfac96c68b0afd29", func := "loop.example/g00498/laws.FnExactPadVar", spec := "fnExactPadVar", apart := false }
def FnExactPadVarSaid : Prop := fnExactPadVarRow.holds Try.pinned (OpenSpec.ofChange fnExactPadVarSpec)

/-- ITS FALSE NEIGHBOUR: 'it returns false'. Refute it at one input. -/
def fnExactPadVarWrong : ChangeSpec := { name := "fnExactPadVar", fn := fun _ => fun
  | [d1, d2] => { results := [.lit (.bool false)], args := [d1, d2] }
  | _ => none }
def FnExactPadVarWrongFalsely : Prop := fnExactPadVarRow.holds Try.pinned (OpenSpec.ofChange fnExactPadVarWrong)

/-- 'laws.FnExactScanByte': WHATEVER THE INPUT: true; the input reads as it did. -/
def fnExactScanByteSpec : ChangeSpec := { name := "fnExactScanByte", fn := fun _ => fun
  | [d1, d2] => { results := [.lit (.bool true)], args := [d1, d2] }
  | _ => none }
def fnExactScanByteRow : OpenClaim := { program := "ytojhbhhlbgkeoaa", sum := "803e3fc7f58f2f731803c2ce4ce402531e18d06e9d8ad7dedfac96c68b0afd29", func := "loop.example/g00498/laws.FnExactScanByte", spec := "fnExactScanByte", apart := false }
def FnExactScanByteSaid : Prop := fnExactScanByteRow.holds Try.pinned (OpenSpec.ofChange fnExactScanByteSpec)

/-- ITS FALSE NEIGHBOUR: 'it returns false'. Refute it at one input. -/
def fnExactScanByteWrong : ChangeSpec := { name := "fnExactScanByte", fn := fun _ => fun
  | [d1, d2] => { results := [.lit (.bool false)], args := [d1, d2] }
  | _ => none }
def FnExactScanByteWrongFalsely : Prop := fnExactScanByteRow.holds Try.pinned (OpenSpec.ofChange fnExactScanByteWrong)

/-- 'laws.FnExactScanText': WHATEVER THE INPUT: true; the input reads as it did. -/
def fnExactScanTextSpec : ChangeSpec := { name := "fnExactScanText", fn := fun _ => fun
  | [d1, d2] => { results := [.lit (.bool true)], args := [d1, d2] }
  | _ => none }
def fnExactScanTextRow : OpenClaim := { program := "ytojhbhhlbgkeoaa", sum := "803e3fc7f58f2f731803c2ce4ce402531e18d06e9d8ad7dedfac96c68b0afd29", func := "loop.example/g00498/laws.FnExactScanText", spec := "fnExactScanText", apart := false }
def FnExactScanTextSaid : Prop := fnExactScanTextRow.holds Try.pinned (OpenSpec.ofChange fnExactScanTextSpec)

/-- ITS FALSE NEIGHBOUR: 'it returns false'. Refute it at one input. -/
def fnExactScanTextWrong : ChangeSpec := { name := "fnExactScanText", fn := fun _ => fun
  | [d1, d2] => { results := [.lit (.bool false)], args := [d1, d2] }
  | _ => none }
def FnExactScanTextWrongFalsely : Prop := fnExactScanTextRow.holds Try.pinned (OpenSpec.ofChange fnExactScanTextWrong)

/-- 'laws.FnScanCut': WHATEVER THE INPUT: true; the input reads as it did. -/
def fnScanCutSpec : ChangeSpec := { name := "fnScanCut", fn := fun _ => fun
  | [d] => { results := [.lit (.bool true)], args := [d] }
  | _ => none }
def fnScanCutRow : OpenClaim := { program := "ytojhbhhlbgkeoaa", sum := "803e3fc7f58f2f731803c2ce4ce402531e18d06e9d8ad7dedfac96c68b0afd29", func := "loop.example/g00498/laws.FnScanCut", spec := "fnScanCut", apart := false }
def FnScanCutSaid : Prop := fnScanCutRow.holds Try.pinned (OpenSpec.ofChange fnScanCutSpec)

/-- ITS FALSE NEIGHBOUR: 'it returns false'. Refute it at one input. -/
def fnScanCutWrong : ChangeSpec := { name := "fnScanCut", fn := fun _ => fun
  | [d] => { results := [.lit (.bool false)], args := [d] }
  | _ => none }
def FnScanCutWrongFalsely : Prop := fnScanCutRow.holds Try.pinned (OpenSpec.ofChange fnScanCutWrong)

/-- 'laws.FnVarCut': WHATEVER THE INPUT: true; the input reads as it did. -/
def fnVarCutSpec : ChangeSpec := { name := "fnVarCut", fn := fun _ => fun
  | [d] => { results := [.lit (.bool true)], args := [d] }
  | _ => none }
def fnVarCutRow : OpenClaim := { program := "ytojhbhhlbgkeoaa", sum := "803e3fc7f58f2f731803c2ce4ce402531e18d06e9d8ad7dedfac96c68b0afd29", func := "loop.example/g00498/laws.FnVarCut", spec := "fnVarCut", apart := false }
def FnVarCutSaid : Prop := fnVarCutRow.holds Try.pinned (OpenSpec.ofChange fnVarCutSpec)

/-- ITS FALSE NEIGHBOUR: 'it returns false'. Refute it at one input. -/
def fnVarCutWrong : ChangeSpec := { name := "fnVarCut", fn := fun _ => fun
  | [d] => { results := [.lit (.bool false)], args := [d] }
  | _ => none }
def FnVarCutWrongFalsely : Prop := fnVarCutRow.holds Try.pinned (OpenSpec.ofChange fnVarCutWrong)

/-- 'laws.FnVar': WHATEVER THE INPUT: true; the input reads as it did. -/
def fnVarSpec : ChangeSpec := { name := "fnVar", fn := fun _ => fun
  | [d] => { results := [.lit (.bool true)], args := [d] }
  | _ => none }
def fnVarRow : OpenClaim := { program := "ytojhbhhlbgkeoaa", sum := "803e3fc7f58f2f731803c2ce4ce402531e18d06e9d8ad7dedfac96c68b0afd29", func := "loop.example/g00498/laws.FnVar", spec := "fnVar", apart := false }
def FnVarSaid : Prop := fnVarRow.holds Try.pinned (OpenSpec.ofChange fnVarSpec)

/-- ITS FALSE NEIGHBOUR: 'it returns false'. Refute it at one input. -/
def fnVarWrong : ChangeSpec := { name := "fnVar", fn := fun _ => fun
  | [d] => { results := [.lit (.bool false)], args := [d] }
  | _ => none }
def FnVarWrongFalsely : Prop := fnVarRow.holds Try.pinned (OpenSpec.ofChange fnVarWrong)

/-- 'laws.FnScanRight': WHATEVER THE INPUT: true; the input reads as it did. -/
def fnScanRightSpec : ChangeSpec := { name := "fnScanRight", fn := fun _ => fun
  | [d] => { results := [.lit (.bool true)], args := [d] }
  | _ => none }
def fnScanRightRow : OpenClaim := { program := "ytojhbhhlbgkeoaa", sum := "803e3fc7f58f2f731803c2ce4ce402531e18d06e9d8ad7dedfac96c68b0afd29", func := "loop.example/g00498/laws.FnScanRight", spec := "fnScanRight", apart := false }
def FnScanRightSaid : Prop := fnScanRightRow.holds Try.pinned (OpenSpec.ofChange fnScanRightSpec)

/-- ITS FALSE NEIGHBOUR: 'it returns false'. Refute it at one input. -/
def fnScanRightWrong : ChangeSpec := { name := "fnScanRight", fn := fun _ => fun
  | [d] => { results := [.lit (.bool false)], args := [d] }
  | _ => none }
def FnScanRightWrongFalsely : Prop := fnScanRightRow.holds Try.pinned (OpenSpec.ofChange fnScanRightWrong)

/-- 'laws.FnScan': WHATEVER THE INPUT: true; the input reads as it did. -/
def fnScanSpec : ChangeSpec := { name := "fnScan", fn := fun _ => fun
  | [d] => { results := [.lit (.bool true)], args := [d] }
  | _ => none }
def fnScanRow : OpenClaim := { program := "ytojhbhhlbgkeoaa", sum := "803e3fc7f58f2f731803c2ce4ce402531e18d06e9d8ad7dedfac96c68b0afd29", func := "loop.example/g00498/laws.FnScan", spec := "fnScan", apart := false }
def FnScanSaid : Prop := fnScanRow.holds Try.pinned (OpenSpec.ofChange fnScanSpec)

/-- ITS FALSE NEIGHBOUR: 'it returns false'. Refute it at one input. -/
def fnScanWrong : ChangeSpec := { name := "fnScan", fn := fun _ => fun
  | [d] => { results := [.lit (.bool false)], args := [d] }
  | _ => none }
def FnScanWrongFalsely : Prop := fnScanRow.holds Try.pinned (OpenSpec.ofChange fnScanWrong)

/-- 'laws.FnVarRead': WHATEVER THE INPUT: true; the input reads as it did. -/
def fnVarReadSpec : ChangeSpec := { name := "fnVarRead", fn := fun _ => fun
  | [d] => { results := [.lit (.bool true)], args := [d] }
  | _ => none }
def fnVarReadRow : OpenClaim := { program := "ytojhbhhlbgkeoaa", sum := "803e3fc7f58f2f731803c2ce4ce402531e18d06e9d8ad7dedfac96c68b0afd29", func := "loop.example/g00498/laws.FnVarRead", spec := "fnVarRead", apart := false }
def FnVarReadSaid : Prop := fnVarReadRow.holds Try.pinned (OpenSpec.ofChange fnVarReadSpec)

/-- ITS FALSE NEIGHBOUR: 'it returns false'. Refute it at one input. -/
def fnVarReadWrong : ChangeSpec := { name := "fnVarRead", fn := fun _ => fun
  | [d] => { results := [.lit (.bool false)], args := [d] }
  | _ => none }
def FnVarReadWrongFalsely : Prop := fnVarReadRow.holds Try.pinned (OpenSpec.ofChange fnVarReadWrong)

/- THE SECOND FORM. 'bulk': how many values and letters a reading holds, each counted each time it is reached (what is shared counts as often as it is met; a slice's spare places count too). A statement '..UptoSaid' is the law's where the arguments, and the package variables that the reading takes, are together of bulk at most 1048576: NARROWER than '..Said'. Prove '..Said' where nothing that the law and all that it calls make is longer than what came in: it says more and counts as full. Else prove '..UptoSaid'. A law counts once. -/
mutual
def uptoBulk {H : Type} : DataW H → Nat
  | .lit (.string bytes) => bytes.length + 1
  | .lit _ => 1
  | .nil => 1
  | .ptr d => uptoBulk d + 1
  | .slice elems spare => uptoBulkAll elems + uptoBulkAll spare + 1
  | .agg parts => uptoBulkAll parts + 1
  | .iface _ d => uptoBulk d + 1
  | .map entries => uptoBulkEntries entries + 1
  | .held _ => 1
def uptoBulkAll {H : Type} : List (DataW H) → Nat
  | [] => 0
  | d :: r => uptoBulk d + uptoBulkAll r
def uptoBulkEntries {H : Type} : List (Lit × DataW H) → Nat
  | [] => 0
  | x :: r => uptoBulkEntry x + uptoBulkEntries r
def uptoBulkEntry {H : Type} : Lit × DataW H → Nat
  | (.string bytes, d) => bytes.length + uptoBulk d + 1
  | (_, d) => uptoBulk d + 1
 end
def uptoSmall : (H : Type) → List (DataW H) → Bool := fun _ ds => decide (uptoBulkAll ds ≤ 1048576)
def OpenSpec.upto (s : _root_.Go.ChangeSpec) : _root_.Go.OpenSpec := { _root_.Go.OpenSpec.ofChange s with cond := some uptoSmall }

/-- 'laws.FnExactPutVar', WHERE WHAT IT READS IS OF BULK AT MOST 1048576: true; the input reads as it did. -/
def fnExactPutVarUptoRow : OpenClaim := { program := "ytojhbhhlbgkeoaa", sum := "803e3fc7f58f2f731803c2ce4ce402531e18d06e9d8ad7dedfac96c68b0afd29", func := "loop.example/g00498/laws.FnExactPutVar", spec := "fnExactPutVar", apart := false, narrowed := true }
def FnExactPutVarUptoSaid : Prop := fnExactPutVarUptoRow.holds Try.pinned (OpenSpec.upto fnExactPutVarSpec)

/-- 'laws.FnExactGetVar', WHERE WHAT IT READS IS OF BULK AT MOST 1048576: true; the input reads as it did. -/
def fnExactGetVarUptoRow : OpenClaim := { program := "ytojhbhhlbgkeoaa", sum := "803e3fc7f58f2f731803c2ce4ce402531e18d06e9d8ad7dedfac96c68b0afd29", func := "loop.example/g00498/laws.FnExactGetVar", spec := "fnExactGetVar", apart := false, narrowed := true }
def FnExactGetVarUptoSaid : Prop := fnExactGetVarUptoRow.holds Try.pinned (OpenSpec.upto fnExactGetVarSpec)

/-- 'laws.FnExactPadVar', WHERE WHAT IT READS IS OF BULK AT MOST 1048576: true; the input reads as it did. -/
def fnExactPadVarUptoRow : OpenClaim := { program := "ytojhbhhlbgkeoaa", sum := "803e3fc7f58f2f731803c2ce4ce402531e18d06e9d8ad7dedfac96c68b0afd29", func := "loop.example/g00498/laws.FnExactPadVar", spec := "fnExactPadVar", apart := false, narrowed := true }
def FnExactPadVarUptoSaid : Prop := fnExactPadVarUptoRow.holds Try.pinned (OpenSpec.upto fnExactPadVarSpec)

/-- 'laws.FnExactScanByte', WHERE WHAT IT READS IS OF BULK AT MOST 1048576: true; the input reads as it did. -/
def fnExactScanByteUptoRow : OpenClaim := { program := "ytojhbhhlbgkeoaa", sum := "803e3fc7f58f2f731803c2ce4ce402531e18d06e9d8ad7dedfac96c68b0afd29", func := "loop.example/g00498/laws.FnExactScanByte", spec := "fnExactScanByte", apart := false, narrowed := true }
def FnExactScanByteUptoSaid : Prop := fnExactScanByteUptoRow.holds Try.pinned (OpenSpec.upto fnExactScanByteSpec)

/-- 'laws.FnExactScanText', WHERE WHAT IT READS IS OF BULK AT MOST 1048576: true; the input reads as it did. -/
def fnExactScanTextUptoRow : OpenClaim := { program := "ytojhbhhlbgkeoaa", sum := "803e3fc7f58f2f731803c2ce4ce402531e18d06e9d8ad7dedfac96c68b0afd29", func := "loop.example/g00498/laws.FnExactScanText", spec := "fnExactScanText", apart := false, narrowed := true }
def FnExactScanTextUptoSaid : Prop := fnExactScanTextUptoRow.holds Try.pinned (OpenSpec.upto fnExactScanTextSpec)

/-- 'laws.FnScanCut', WHERE WHAT IT READS IS OF BULK AT MOST 1048576: true; the input reads as it did. -/
def fnScanCutUptoRow : OpenClaim := { program := "ytojhbhhlbgkeoaa", sum := "803e3fc7f58f2f731803c2ce4ce402531e18d06e9d8ad7dedfac96c68b0afd29", func := "loop.example/g00498/laws.FnScanCut", spec := "fnScanCut", apart := false, narrowed := true }
def FnScanCutUptoSaid : Prop := fnScanCutUptoRow.holds Try.pinned (OpenSpec.upto fnScanCutSpec)

/-- 'laws.FnVarCut', WHERE WHAT IT READS IS OF BULK AT MOST 1048576: true; the input reads as it did. -/
def fnVarCutUptoRow : OpenClaim := { program := "ytojhbhhlbgkeoaa", sum := "803e3fc7f58f2f731803c2ce4ce402531e18d06e9d8ad7dedfac96c68b0afd29", func := "loop.example/g00498/laws.FnVarCut", spec := "fnVarCut", apart := false, narrowed := true }
def FnVarCutUptoSaid : Prop := fnVarCutUptoRow.holds Try.pinned (OpenSpec.upto fnVarCutSpec)

/-- 'laws.FnVar', WHERE WHAT IT READS IS OF BULK AT MOST 1048576: true; the input reads as it did. -/
def fnVarUptoRow : OpenClaim := { program := "ytojhbhhlbgkeoaa", sum := "803e3fc7f58f2f731803c2ce4ce402531e18d06e9d8ad7dedfac96c68b0afd29", func := "loop.example/g00498/laws.FnVar", spec := "fnVar", apart := false, narrowed := true }
def FnVarUptoSaid : Prop := fnVarUptoRow.holds Try.pinned (OpenSpec.upto fnVarSpec)

/-- 'laws.FnScanRight', WHERE WHAT IT READS IS OF BULK AT MOST 1048576: true; the input reads as it did. -/
def fnScanRightUptoRow : OpenClaim := { program := "ytojhbhhlbgkeoaa", sum := "803e3fc7f58f2f731803c2ce4ce402531e18d06e9d8ad7dedfac96c68b0afd29", func := "loop.example/g00498/laws.FnScanRight", spec := "fnScanRight", apart := false, narrowed := true }
def FnScanRightUptoSaid : Prop := fnScanRightUptoRow.holds Try.pinned (OpenSpec.upto fnScanRightSpec)

/-- 'laws.FnScan', WHERE WHAT IT READS IS OF BULK AT MOST 1048576: true; the input reads as it did. -/
def fnScanUptoRow : OpenClaim := { program := "ytojhbhhlbgkeoaa", sum := "803e3fc7f58f2f731803c2ce4ce402531e18d06e9d8ad7dedfac96c68b0afd29", func := "loop.example/g00498/laws.FnScan", spec := "fnScan", apart := false, narrowed := true }
def FnScanUptoSaid : Prop := fnScanUptoRow.holds Try.pinned (OpenSpec.upto fnScanSpec)

/-- 'laws.FnVarRead', WHERE WHAT IT READS IS OF BULK AT MOST 1048576: true; the input reads as it did. -/
def fnVarReadUptoRow : OpenClaim := { program := "ytojhbhhlbgkeoaa", sum := "803e3fc7f58f2f731803c2ce4ce402531e18d06e9d8ad7dedfac96c68b0afd29", func := "loop.example/g00498/laws.FnVarRead", spec := "fnVarRead", apart := false, narrowed := true }
def FnVarReadUptoSaid : Prop := fnVarReadUptoRow.holds Try.pinned (OpenSpec.upto fnVarReadSpec)

end Rows
end Go.Proofs.Ytojhbhhlbgkeoaa
