/-
  No cell of these rows narrows 'for every input' (looked for: loops, veiled, ifaces, maps, wideKeys, modest, calm, conditions, laid).
  DERIVED. THE GIVEN ROWS OF THIS SEAT. 12 by the template 'for every input the law returns true; each argument reads behind the call as it read before'; 0 by the template 'total and deterministic' (their statements: YtgpepekodaochaaTotals.lean).
  GIVEN WITH THE SEED: the statements are not yours to turn. If you find one false, say at which input.
  Laid BY PROGRAM, IN A SANDBOX (cutbox-rows.mjs): the forced cells as the released guide's own fill.sh prints them over the translation aa77733e7d439098… (all of the seat's roots in one cut). By AI agents, Wed Nov 11 2026. No macro, syntax, notation, axiom, sorry.
-/
import Derived.Test.YtgpepekodaochaaChecked
import GoSem.Claim
import GoSem.ClaimJoined
import GoSem.ClaimMapViews
import Derived.JoinedTies
import Derived.KernelRfl
namespace Go.Proofs.Ytgpepekodaochaa
/- THE CELL 'sum', in the pinned program and in every row, IS THE sha256 OF THE DUMP (.gsa) THAT YtgpepekodaochaaProg.lean LOADS. Nothing in Lean hashes anything: it is a label: what it is worth is what the hold of that sum in a sandbox is worth. -/
noncomputable def Try.pinned : Pinned := { name := "ytgpepekodaochaa", sum := "aa77733e7d439098a8fa26eb9fc0bacaa7bb373592984267f3a02ec5271f6fc6", checked := Try.checked }
namespace Rows
def none {H : Type} : Left H := { results := [], args := [] }

/-- 'laws.FnExactConstants': WHATEVER THE INPUT: true; the input reads as it did. -/
def fnExactConstantsSpec : ChangeSpec := { name := "fnExactConstants", fn := fun _ => fun
  | [] => { results := [.lit (.bool true)], args := [] }
  | _ => none }
def fnExactConstantsRow : OpenClaim := { program := "ytgpepekodaochaa", sum := "aa77733e7d439098a8fa26eb9fc0bacaa7bb373592984267f3a02ec5271f6fc6", func := "loop.example/g00498/laws.FnExactConstants", spec := "fnExactConstants", apart := false }
def FnExactConstantsSaid : Prop := fnExactConstantsRow.holds Try.pinned (OpenSpec.ofChange fnExactConstantsSpec)

/-- ITS FALSE NEIGHBOUR: 'it returns false'. Refute it at one input. -/
def fnExactConstantsWrong : ChangeSpec := { name := "fnExactConstants", fn := fun _ => fun
  | [] => { results := [.lit (.bool false)], args := [] }
  | _ => none }
def FnExactConstantsWrongFalsely : Prop := fnExactConstantsRow.holds Try.pinned (OpenSpec.ofChange fnExactConstantsWrong)

/-- 'laws.FnExactWireOk': WHATEVER THE INPUT: true; the input reads as it did. -/
def fnExactWireOkSpec : ChangeSpec := { name := "fnExactWireOk", fn := fun _ => fun
  | [d] => { results := [.lit (.bool true)], args := [d] }
  | _ => none }
def fnExactWireOkRow : OpenClaim := { program := "ytgpepekodaochaa", sum := "aa77733e7d439098a8fa26eb9fc0bacaa7bb373592984267f3a02ec5271f6fc6", func := "loop.example/g00498/laws.FnExactWireOk", spec := "fnExactWireOk", apart := false }
def FnExactWireOkSaid : Prop := fnExactWireOkRow.holds Try.pinned (OpenSpec.ofChange fnExactWireOkSpec)

/-- ITS FALSE NEIGHBOUR: 'it returns false'. Refute it at one input. -/
def fnExactWireOkWrong : ChangeSpec := { name := "fnExactWireOk", fn := fun _ => fun
  | [d] => { results := [.lit (.bool false)], args := [d] }
  | _ => none }
def FnExactWireOkWrongFalsely : Prop := fnExactWireOkRow.holds Try.pinned (OpenSpec.ofChange fnExactWireOkWrong)

/-- 'laws.FnExactNumberOk': WHATEVER THE INPUT: true; the input reads as it did. -/
def fnExactNumberOkSpec : ChangeSpec := { name := "fnExactNumberOk", fn := fun _ => fun
  | [d] => { results := [.lit (.bool true)], args := [d] }
  | _ => none }
def fnExactNumberOkRow : OpenClaim := { program := "ytgpepekodaochaa", sum := "aa77733e7d439098a8fa26eb9fc0bacaa7bb373592984267f3a02ec5271f6fc6", func := "loop.example/g00498/laws.FnExactNumberOk", spec := "fnExactNumberOk", apart := false }
def FnExactNumberOkSaid : Prop := fnExactNumberOkRow.holds Try.pinned (OpenSpec.ofChange fnExactNumberOkSpec)

/-- ITS FALSE NEIGHBOUR: 'it returns false'. Refute it at one input. -/
def fnExactNumberOkWrong : ChangeSpec := { name := "fnExactNumberOk", fn := fun _ => fun
  | [d] => { results := [.lit (.bool false)], args := [d] }
  | _ => none }
def FnExactNumberOkWrongFalsely : Prop := fnExactNumberOkRow.holds Try.pinned (OpenSpec.ofChange fnExactNumberOkWrong)

/-- 'laws.FnExactNumeric': WHATEVER THE INPUT: true; the input reads as it did. -/
def fnExactNumericSpec : ChangeSpec := { name := "fnExactNumeric", fn := fun _ => fun
  | [d] => { results := [.lit (.bool true)], args := [d] }
  | _ => none }
def fnExactNumericRow : OpenClaim := { program := "ytgpepekodaochaa", sum := "aa77733e7d439098a8fa26eb9fc0bacaa7bb373592984267f3a02ec5271f6fc6", func := "loop.example/g00498/laws.FnExactNumeric", spec := "fnExactNumeric", apart := false }
def FnExactNumericSaid : Prop := fnExactNumericRow.holds Try.pinned (OpenSpec.ofChange fnExactNumericSpec)

/-- ITS FALSE NEIGHBOUR: 'it returns false'. Refute it at one input. -/
def fnExactNumericWrong : ChangeSpec := { name := "fnExactNumeric", fn := fun _ => fun
  | [d] => { results := [.lit (.bool false)], args := [d] }
  | _ => none }
def FnExactNumericWrongFalsely : Prop := fnExactNumericRow.holds Try.pinned (OpenSpec.ofChange fnExactNumericWrong)

/-- 'laws.FnExactZig': WHATEVER THE INPUT: true; the input reads as it did. -/
def fnExactZigSpec : ChangeSpec := { name := "fnExactZig", fn := fun _ => fun
  | [d] => { results := [.lit (.bool true)], args := [d] }
  | _ => none }
def fnExactZigRow : OpenClaim := { program := "ytgpepekodaochaa", sum := "aa77733e7d439098a8fa26eb9fc0bacaa7bb373592984267f3a02ec5271f6fc6", func := "loop.example/g00498/laws.FnExactZig", spec := "fnExactZig", apart := false }
def FnExactZigSaid : Prop := fnExactZigRow.holds Try.pinned (OpenSpec.ofChange fnExactZigSpec)

/-- ITS FALSE NEIGHBOUR: 'it returns false'. Refute it at one input. -/
def fnExactZigWrong : ChangeSpec := { name := "fnExactZig", fn := fun _ => fun
  | [d] => { results := [.lit (.bool false)], args := [d] }
  | _ => none }
def FnExactZigWrongFalsely : Prop := fnExactZigRow.holds Try.pinned (OpenSpec.ofChange fnExactZigWrong)

/-- 'laws.FnExactUnzig': WHATEVER THE INPUT: true; the input reads as it did. -/
def fnExactUnzigSpec : ChangeSpec := { name := "fnExactUnzig", fn := fun _ => fun
  | [d] => { results := [.lit (.bool true)], args := [d] }
  | _ => none }
def fnExactUnzigRow : OpenClaim := { program := "ytgpepekodaochaa", sum := "aa77733e7d439098a8fa26eb9fc0bacaa7bb373592984267f3a02ec5271f6fc6", func := "loop.example/g00498/laws.FnExactUnzig", spec := "fnExactUnzig", apart := false }
def FnExactUnzigSaid : Prop := fnExactUnzigRow.holds Try.pinned (OpenSpec.ofChange fnExactUnzigSpec)

/-- ITS FALSE NEIGHBOUR: 'it returns false'. Refute it at one input. -/
def fnExactUnzigWrong : ChangeSpec := { name := "fnExactUnzig", fn := fun _ => fun
  | [d] => { results := [.lit (.bool false)], args := [d] }
  | _ => none }
def FnExactUnzigWrongFalsely : Prop := fnExactUnzigRow.holds Try.pinned (OpenSpec.ofChange fnExactUnzigWrong)

/-- 'laws.FnExactTagIn': WHATEVER THE INPUT: true; the input reads as it did. -/
def fnExactTagInSpec : ChangeSpec := { name := "fnExactTagIn", fn := fun _ => fun
  | [d] => { results := [.lit (.bool true)], args := [d] }
  | _ => none }
def fnExactTagInRow : OpenClaim := { program := "ytgpepekodaochaa", sum := "aa77733e7d439098a8fa26eb9fc0bacaa7bb373592984267f3a02ec5271f6fc6", func := "loop.example/g00498/laws.FnExactTagIn", spec := "fnExactTagIn", apart := false }
def FnExactTagInSaid : Prop := fnExactTagInRow.holds Try.pinned (OpenSpec.ofChange fnExactTagInSpec)

/-- ITS FALSE NEIGHBOUR: 'it returns false'. Refute it at one input. -/
def fnExactTagInWrong : ChangeSpec := { name := "fnExactTagIn", fn := fun _ => fun
  | [d] => { results := [.lit (.bool false)], args := [d] }
  | _ => none }
def FnExactTagInWrongFalsely : Prop := fnExactTagInRow.holds Try.pinned (OpenSpec.ofChange fnExactTagInWrong)

/-- 'laws.FnUtfCut': WHATEVER THE INPUT: true; the input reads as it did. -/
def fnUtfCutSpec : ChangeSpec := { name := "fnUtfCut", fn := fun _ => fun
  | [d] => { results := [.lit (.bool true)], args := [d] }
  | _ => none }
def fnUtfCutRow : OpenClaim := { program := "ytgpepekodaochaa", sum := "aa77733e7d439098a8fa26eb9fc0bacaa7bb373592984267f3a02ec5271f6fc6", func := "loop.example/g00498/laws.FnUtfCut", spec := "fnUtfCut", apart := false }
def FnUtfCutSaid : Prop := fnUtfCutRow.holds Try.pinned (OpenSpec.ofChange fnUtfCutSpec)

/-- ITS FALSE NEIGHBOUR: 'it returns false'. Refute it at one input. -/
def fnUtfCutWrong : ChangeSpec := { name := "fnUtfCut", fn := fun _ => fun
  | [d] => { results := [.lit (.bool false)], args := [d] }
  | _ => none }
def FnUtfCutWrongFalsely : Prop := fnUtfCutRow.holds Try.pinned (OpenSpec.ofChange fnUtfCutWrong)

/-- 'laws.FnExactScanOk': WHATEVER THE INPUT: true; the input reads as it did. -/
def fnExactScanOkSpec : ChangeSpec := { name := "fnExactScanOk", fn := fun _ => fun
  | [d] => { results := [.lit (.bool true)], args := [d] }
  | _ => none }
def fnExactScanOkRow : OpenClaim := { program := "ytgpepekodaochaa", sum := "aa77733e7d439098a8fa26eb9fc0bacaa7bb373592984267f3a02ec5271f6fc6", func := "loop.example/g00498/laws.FnExactScanOk", spec := "fnExactScanOk", apart := false }
def FnExactScanOkSaid : Prop := fnExactScanOkRow.holds Try.pinned (OpenSpec.ofChange fnExactScanOkSpec)

/-- ITS FALSE NEIGHBOUR: 'it returns false'. Refute it at one input. -/
def fnExactScanOkWrong : ChangeSpec := { name := "fnExactScanOk", fn := fun _ => fun
  | [d] => { results := [.lit (.bool false)], args := [d] }
  | _ => none }
def FnExactScanOkWrongFalsely : Prop := fnExactScanOkRow.holds Try.pinned (OpenSpec.ofChange fnExactScanOkWrong)

/-- 'laws.FnExactTagOf': WHATEVER THE INPUT: true; the input reads as it did. -/
def fnExactTagOfSpec : ChangeSpec := { name := "fnExactTagOf", fn := fun _ => fun
  | [d1, d2] => { results := [.lit (.bool true)], args := [d1, d2] }
  | _ => none }
def fnExactTagOfRow : OpenClaim := { program := "ytgpepekodaochaa", sum := "aa77733e7d439098a8fa26eb9fc0bacaa7bb373592984267f3a02ec5271f6fc6", func := "loop.example/g00498/laws.FnExactTagOf", spec := "fnExactTagOf", apart := false }
def FnExactTagOfSaid : Prop := fnExactTagOfRow.holds Try.pinned (OpenSpec.ofChange fnExactTagOfSpec)

/-- ITS FALSE NEIGHBOUR: 'it returns false'. Refute it at one input. -/
def fnExactTagOfWrong : ChangeSpec := { name := "fnExactTagOf", fn := fun _ => fun
  | [d1, d2] => { results := [.lit (.bool false)], args := [d1, d2] }
  | _ => none }
def FnExactTagOfWrongFalsely : Prop := fnExactTagOfRow.holds Try.pinned (OpenSpec.ofChange fnExactTagOfWrong)

/-- 'laws.FnExactVarLen': WHATEVER THE INPUT: true; the input reads as it did. -/
def fnExactVarLenSpec : ChangeSpec := { name := "fnExactVarLen", fn := fun _ => fun
  | [d] => { results := [.lit (.bool true)], args := [d] }
  | _ => none }
def fnExactVarLenRow : OpenClaim := { program := "ytgpepekodaochaa", sum := "aa77733e7d439098a8fa26eb9fc0bacaa7bb373592984267f3a02ec5271f6fc6", func := "loop.example/g00498/laws.FnExactVarLen", spec := "fnExactVarLen", apart := false }
def FnExactVarLenSaid : Prop := fnExactVarLenRow.holds Try.pinned (OpenSpec.ofChange fnExactVarLenSpec)

/-- ITS FALSE NEIGHBOUR: 'it returns false'. Refute it at one input. -/
def fnExactVarLenWrong : ChangeSpec := { name := "fnExactVarLen", fn := fun _ => fun
  | [d] => { results := [.lit (.bool false)], args := [d] }
  | _ => none }
def FnExactVarLenWrongFalsely : Prop := fnExactVarLenRow.holds Try.pinned (OpenSpec.ofChange fnExactVarLenWrong)

/-- 'laws.FnExactKindWord': WHATEVER THE INPUT: true; the input reads as it did. -/
def fnExactKindWordSpec : ChangeSpec := { name := "fnExactKindWord", fn := fun _ => fun
  | [d] => { results := [.lit (.bool true)], args := [d] }
  | _ => none }
def fnExactKindWordRow : OpenClaim := { program := "ytgpepekodaochaa", sum := "aa77733e7d439098a8fa26eb9fc0bacaa7bb373592984267f3a02ec5271f6fc6", func := "loop.example/g00498/laws.FnExactKindWord", spec := "fnExactKindWord", apart := false }
def FnExactKindWordSaid : Prop := fnExactKindWordRow.holds Try.pinned (OpenSpec.ofChange fnExactKindWordSpec)

/-- ITS FALSE NEIGHBOUR: 'it returns false'. Refute it at one input. -/
def fnExactKindWordWrong : ChangeSpec := { name := "fnExactKindWord", fn := fun _ => fun
  | [d] => { results := [.lit (.bool false)], args := [d] }
  | _ => none }
def FnExactKindWordWrongFalsely : Prop := fnExactKindWordRow.holds Try.pinned (OpenSpec.ofChange fnExactKindWordWrong)

/- THE SECOND FORM. 'bulk': how many values and letters a reading holds, each counted each time it is reached (what is shared counts as often as it is met; a slice's spare places count too). A statement '..UptoSaid' is the law's where the arguments, and the package variables that the reading takes, are together of bulk at most 1048576: NARROWER than '..Said'. Prove '..Said' where nothing that the law and all that it calls make is longer than what came in: it says more and counts as full. Else prove '..UptoSaid'. A law counts once. -/
mutual
def uptoBulk {H : Type} : DataW H → Nat
  | .lit (.string bytes) => bytes.length + 1
  | .lit _ => 1
  | .nil => 1
  | .ptr d => uptoBulk d + 1
  | .slice elems spare => uptoBulkAll elems + uptoBulkAll spare + 1
  | .agg parts => uptoBulkAll parts + 1
  | .iface _ d => uptoBulk d + 1
  | .map entries => uptoBulkEntries entries + 1
  | .held _ => 1
def uptoBulkAll {H : Type} : List (DataW H) → Nat
  | [] => 0
  | d :: r => uptoBulk d + uptoBulkAll r
def uptoBulkEntries {H : Type} : List (Lit × DataW H) → Nat
  | [] => 0
  | x :: r => uptoBulkEntry x + uptoBulkEntries r
def uptoBulkEntry {H : Type} : Lit × DataW H → Nat
  | (.string bytes, d) => bytes.length + uptoBulk d + 1
  | (_, d) => uptoBulk d + 1
 end
def uptoSmall : (H : Type) → List (DataW H) → Bool := fun _ ds => decide (uptoBulkAll ds ≤ 1048576)
def OpenSpec.upto (s : _root_.Go.ChangeSpec) : _root_.Go.OpenSpec := { _root_.Go.OpenSpec.ofChange s with cond := some uptoSmall }

/-- 'laws.FnExactConstants', WHERE WHAT IT READS IS OF BULK AT MOST 1048576: true; the input reads as it did. -/
def fnExactConstantsUptoRow : OpenClaim := { program := "ytgpepekodaochaa", sum := "aa77733e7d439098a8fa26eb9fc0bacaa7bb373592984267f3a02ec5271f6fc6", func := "loop.example/g00498/laws.FnExactConstants", spec := "fnExactConstants", apart := false, narrowed := true }
def FnExactConstantsUptoSaid : Prop := fnExactConstantsUptoRow.holds Try.pinned (OpenSpec.upto fnExactConstantsSpec)

/-- 'laws.FnExactWireOk', WHERE WHAT IT READS IS OF BULK AT MOST 1048576: true; the input reads as it did. -/
def fnExactWireOkUptoRow : OpenClaim := { program := "ytgpepekodaochaa", sum := "aa77733e7d439098a8fa26eb9fc0bacaa7bb373592984267f3a02ec5271f6fc6", func := "loop.example/g00498/laws.FnExactWireOk", spec := "fnExactWireOk", apart := false, narrowed := true }
def FnExactWireOkUptoSaid : Prop := fnExactWireOkUptoRow.holds Try.pinned (OpenSpec.upto fnExactWireOkSpec)

/-- 'laws.FnExactNumberOk', WHERE WHAT IT READS IS OF BULK AT MOST 1048576: true; the input reads as it did. -/
def fnExactNumberOkUptoRow : OpenClaim := { program := "ytgpepekodaochaa", sum := "aa77733e7d439098a8fa26eb9fc0bacaa7bb373592984267f3a02ec5271f6fc6", func := "loop.example/g00498/laws.FnExactNumberOk", spec := "fnExactNumberOk", apart := false, narrowed := true }
def FnExactNumberOkUptoSaid : Prop := fnExactNumberOkUptoRow.holds Try.pinned (OpenSpec.upto fnExactNumberOkSpec)

/-- 'laws.FnExactNumeric', WHERE WHAT IT READS IS OF BULK AT MOST 1048576: true; the input reads as it did. -/
def fnExactNumericUptoRow : OpenClaim := { program := "ytgpepekodaochaa", sum := "aa77733e7d439098a8fa26eb9fc0bacaa7bb373592984267f3a02ec5271f6fc6", func := "loop.example/g00498/laws.FnExactNumeric", spec := "fnExactNumeric", apart := false, narrowed := true }
def FnExactNumericUptoSaid : Prop := fnExactNumericUptoRow.holds Try.pinned (OpenSpec.upto fnExactNumericSpec)

/-- 'laws.FnExactZig', WHERE WHAT IT READS IS OF BULK AT MOST 1048576: true; the input reads as it did. -/
def fnExactZigUptoRow : OpenClaim := { program := "ytgpepekodaochaa", sum := "aa77733e7d439098a8fa26eb9fc0bacaa7bb373592984267f3a02ec5271f6fc6", func := "loop.example/g00498/laws.FnExactZig", spec := "fnExactZig", apart := false, narrowed := true }
def FnExactZigUptoSaid : Prop := fnExactZigUptoRow.holds Try.pinned (OpenSpec.upto fnExactZigSpec)

/-- 'laws.FnExactUnzig', WHERE WHAT IT READS IS OF BULK AT MOST 1048576: true; the input reads as it did. -/
def fnExactUnzigUptoRow : OpenClaim := { program := "ytgpepekodaochaa", sum := "aa77733e7d439098a8fa26eb9fc0bacaa7bb373592984267f3a02ec5271f6fc6", func := "loop.example/g00498/laws.FnExactUnzig", spec := "fnExactUnzig", apart := false, narrowed := true }
def FnExactUnzigUptoSaid : Prop := fnExactUnzigUptoRow.holds Try.pinned (OpenSpec.upto fnExactUnzigSpec)

/-- 'laws.FnExactTagIn', WHERE WHAT IT READS IS OF BULK AT MOST 1048576: true; the input reads as it did. -/
def fnExactTagInUptoRow : OpenClaim := { program := "ytgpepekodaochaa", sum := "aa77733e7d439098a8fa26eb9fc0bacaa7bb373592984267f3a02ec5271f6fc6", func := "loop.example/g00498/laws.FnExactTagIn", spec := "fnExactTagIn", apart := false, narrowed := true }
def FnExactTagInUptoSaid : Prop := fnExactTagInUptoRow.holds Try.pinned (OpenSpec.upto fnExactTagInSpec)

/-- 'laws.FnUtfCut', WHERE WHAT IT READS IS OF BULK AT MOST 1048576: true; the input reads as it did. -/
def fnUtfCutUptoRow : OpenClaim := { program := "ytgpepekodaochaa", sum := "aa77733e7d439098a8fa26eb9fc0bacaa7bb373592984267f3a02ec5271f6fc6", func := "loop.example/g00498/laws.FnUtfCut", spec := "fnUtfCut", apart := false, narrowed := true }
def FnUtfCutUptoSaid : Prop := fnUtfCutUptoRow.holds Try.pinned (OpenSpec.upto fnUtfCutSpec)

/-- 'laws.FnExactScanOk', WHERE WHAT IT READS IS OF BULK AT MOST 1048576: true; the input reads as it did. -/
def fnExactScanOkUptoRow : OpenClaim := { program := "ytgpepekodaochaa", sum := "aa77733e7d439098a8fa26eb9fc0bacaa7bb373592984267f3a02ec5271f6fc6", func := "loop.example/g00498/laws.FnExactScanOk", spec := "fnExactScanOk", apart := false, narrowed := true }
def FnExactScanOkUptoSaid : Prop := fnExactScanOkUptoRow.holds Try.pinned (OpenSpec.upto fnExactScanOkSpec)

/-- 'laws.FnExactTagOf', WHERE WHAT IT READS IS OF BULK AT MOST 1048576: true; the input reads as it did. -/
def fnExactTagOfUptoRow : OpenClaim := { program := "ytgpepekodaochaa", sum := "aa77733e7d439098a8fa26eb9fc0bacaa7bb373592984267f3a02ec5271f6fc6", func := "loop.example/g00498/laws.FnExactTagOf", spec := "fnExactTagOf", apart := false, narrowed := true }
def FnExactTagOfUptoSaid : Prop := fnExactTagOfUptoRow.holds Try.pinned (OpenSpec.upto fnExactTagOfSpec)

/-- 'laws.FnExactVarLen', WHERE WHAT IT READS IS OF BULK AT MOST 1048576: true; the input reads as it did. -/
def fnExactVarLenUptoRow : OpenClaim := { program := "ytgpepekodaochaa", sum := "aa77733e7d439098a8fa26eb9fc0bacaa7bb373592984267f3a02ec5271f6fc6", func := "loop.example/g00498/laws.FnExactVarLen", spec := "fnExactVarLen", apart := false, narrowed := true }
def FnExactVarLenUptoSaid : Prop := fnExactVarLenUptoRow.holds Try.pinned (OpenSpec.upto fnExactVarLenSpec)

/-- 'laws.FnExactKindWord', WHERE WHAT IT READS IS OF BULK AT MOST 1048576: true; the input reads as it did. -/
def fnExactKindWordUptoRow : OpenClaim := { program := "ytgpepekodaochaa", sum := "aa77733e7d439098a8fa26eb9fc0bacaa7bb373592984267f3a02ec5271f6fc6", func := "loop.example/g00498/laws.FnExactKindWord", spec := "fnExactKindWord", apart := false, narrowed := true }
def FnExactKindWordUptoSaid : Prop := fnExactKindWordUptoRow.holds Try.pinned (OpenSpec.upto fnExactKindWordSpec)

end Rows
end Go.Proofs.Ytgpepekodaochaa
