/-
  No cell of these rows narrows 'for every input' (looked for: loops, veiled, ifaces, maps, wideKeys, modest, calm, conditions, laid).
  DERIVED. THE GIVEN ROWS OF THIS SEAT. 10 by the template 'for every input the law returns true; each argument reads behind the call as it read before'; 0 by the template 'total and deterministic' (their statements: YtmhlljonlbiajaaTotals.lean).
  GIVEN WITH THE SEED: the statements are not yours to turn. If you find one false, say at which input.
  Laid BY PROGRAM, IN A SANDBOX (cutbox-rows.mjs): the forced cells as the released guide's own fill.sh prints them over the translation d46b4e1895c765a4… (all of the seat's roots in one cut). By AI agents, Wed Nov 11 2026. No macro, syntax, notation, axiom, sorry.
-/
import Derived.Test.YtmhlljonlbiajaaChecked
import GoSem.Claim
import GoSem.ClaimJoined
import GoSem.ClaimMapViews
import Derived.JoinedTies
import Derived.KernelRfl
namespace Go.Proofs.Ytmhlljonlbiajaa
/- THE CELL 'sum', in the pinned program and in every row, IS THE sha256 OF THE DUMP (.gsa) THAT YtmhlljonlbiajaaProg.lean LOADS. Nothing in Lean hashes anything: it is a label: what it is worth is what the hold of that sum in a sandbox is worth. -/
noncomputable def Try.pinned : Pinned := { name := "ytmhlljonlbiajaa", sum := "d46b4e1895c765a41bea0708231e8004c5bd37c73ab26dc2c4c327b7fe56b1c4", checked := Try.checked }
namespace Rows
def none {H : Type} : Left H := { results := [], args := [] }

/-- 'laws.FnExactRuneText': WHATEVER THE INPUT: true; the input reads as it did. -/
def fnExactRuneTextSpec : ChangeSpec := { name := "fnExactRuneText", fn := fun _ => fun
  | [d] => { results := [.lit (.bool true)], args := [d] }
  | _ => none }
def fnExactRuneTextRow : OpenClaim := { program := "ytmhlljonlbiajaa", sum := "d46b4e1895c765a41bea0708231e8004c5bd37c73ab26dc2c4c327b7fe56b1c4", func := "loop.example/g00498/laws.FnExactRuneText", spec := "fnExactRuneText", apart := false }
def FnExactRuneTextSaid : Prop := fnExactRuneTextRow.holds Try.pinned (OpenSpec.ofChange fnExactRuneTextSpec)

/-- ITS FALSE NEIGHBOUR: 'it returns false'. Refute it at one input. -/
def fnExactRuneTextWrong : ChangeSpec := { name := "fnExactRuneText", fn := fun _ => fun
  | [d] => { results := [.lit (.bool false)], args := [d] }
  | _ => none }
def FnExactRuneTextWrongFalsely : Prop := fnExactRuneTextRow.holds Try.pinned (OpenSpec.ofChange fnExactRuneTextWrong)

/-- 'laws.FnExactUtfOk': WHATEVER THE INPUT: true; the input reads as it did. -/
def fnExactUtfOkSpec : ChangeSpec := { name := "fnExactUtfOk", fn := fun _ => fun
  | [d] => { results := [.lit (.bool true)], args := [d] }
  | _ => none }
def fnExactUtfOkRow : OpenClaim := { program := "ytmhlljonlbiajaa", sum := "d46b4e1895c765a41bea0708231e8004c5bd37c73ab26dc2c4c327b7fe56b1c4", func := "loop.example/g00498/laws.FnExactUtfOk", spec := "fnExactUtfOk", apart := false }
def FnExactUtfOkSaid : Prop := fnExactUtfOkRow.holds Try.pinned (OpenSpec.ofChange fnExactUtfOkSpec)

/-- ITS FALSE NEIGHBOUR: 'it returns false'. Refute it at one input. -/
def fnExactUtfOkWrong : ChangeSpec := { name := "fnExactUtfOk", fn := fun _ => fun
  | [d] => { results := [.lit (.bool false)], args := [d] }
  | _ => none }
def FnExactUtfOkWrongFalsely : Prop := fnExactUtfOkRow.holds Try.pinned (OpenSpec.ofChange fnExactUtfOkWrong)

/-- 'laws.FnExactUtfByte': WHATEVER THE INPUT: true; the input reads as it did. -/
def fnExactUtfByteSpec : ChangeSpec := { name := "fnExactUtfByte", fn := fun _ => fun
  | [d1, d2] => { results := [.lit (.bool true)], args := [d1, d2] }
  | _ => none }
def fnExactUtfByteRow : OpenClaim := { program := "ytmhlljonlbiajaa", sum := "d46b4e1895c765a41bea0708231e8004c5bd37c73ab26dc2c4c327b7fe56b1c4", func := "loop.example/g00498/laws.FnExactUtfByte", spec := "fnExactUtfByte", apart := false }
def FnExactUtfByteSaid : Prop := fnExactUtfByteRow.holds Try.pinned (OpenSpec.ofChange fnExactUtfByteSpec)

/-- ITS FALSE NEIGHBOUR: 'it returns false'. Refute it at one input. -/
def fnExactUtfByteWrong : ChangeSpec := { name := "fnExactUtfByte", fn := fun _ => fun
  | [d1, d2] => { results := [.lit (.bool false)], args := [d1, d2] }
  | _ => none }
def FnExactUtfByteWrongFalsely : Prop := fnExactUtfByteRow.holds Try.pinned (OpenSpec.ofChange fnExactUtfByteWrong)

/-- 'laws.FnRuneText': WHATEVER THE INPUT: true; the input reads as it did. -/
def fnRuneTextSpec : ChangeSpec := { name := "fnRuneText", fn := fun _ => fun
  | [d] => { results := [.lit (.bool true)], args := [d] }
  | _ => none }
def fnRuneTextRow : OpenClaim := { program := "ytmhlljonlbiajaa", sum := "d46b4e1895c765a41bea0708231e8004c5bd37c73ab26dc2c4c327b7fe56b1c4", func := "loop.example/g00498/laws.FnRuneText", spec := "fnRuneText", apart := false }
def FnRuneTextSaid : Prop := fnRuneTextRow.holds Try.pinned (OpenSpec.ofChange fnRuneTextSpec)

/-- ITS FALSE NEIGHBOUR: 'it returns false'. Refute it at one input. -/
def fnRuneTextWrong : ChangeSpec := { name := "fnRuneText", fn := fun _ => fun
  | [d] => { results := [.lit (.bool false)], args := [d] }
  | _ => none }
def FnRuneTextWrongFalsely : Prop := fnRuneTextRow.holds Try.pinned (OpenSpec.ofChange fnRuneTextWrong)

/-- 'laws.FnExactUtfGood': WHATEVER THE INPUT: true; the input reads as it did. -/
def fnExactUtfGoodSpec : ChangeSpec := { name := "fnExactUtfGood", fn := fun _ => fun
  | [d] => { results := [.lit (.bool true)], args := [d] }
  | _ => none }
def fnExactUtfGoodRow : OpenClaim := { program := "ytmhlljonlbiajaa", sum := "d46b4e1895c765a41bea0708231e8004c5bd37c73ab26dc2c4c327b7fe56b1c4", func := "loop.example/g00498/laws.FnExactUtfGood", spec := "fnExactUtfGood", apart := false }
def FnExactUtfGoodSaid : Prop := fnExactUtfGoodRow.holds Try.pinned (OpenSpec.ofChange fnExactUtfGoodSpec)

/-- ITS FALSE NEIGHBOUR: 'it returns false'. Refute it at one input. -/
def fnExactUtfGoodWrong : ChangeSpec := { name := "fnExactUtfGood", fn := fun _ => fun
  | [d] => { results := [.lit (.bool false)], args := [d] }
  | _ => none }
def FnExactUtfGoodWrongFalsely : Prop := fnExactUtfGoodRow.holds Try.pinned (OpenSpec.ofChange fnExactUtfGoodWrong)

/-- 'laws.FnExactUtfText': WHATEVER THE INPUT: true; the input reads as it did. -/
def fnExactUtfTextSpec : ChangeSpec := { name := "fnExactUtfText", fn := fun _ => fun
  | [d1, d2] => { results := [.lit (.bool true)], args := [d1, d2] }
  | _ => none }
def fnExactUtfTextRow : OpenClaim := { program := "ytmhlljonlbiajaa", sum := "d46b4e1895c765a41bea0708231e8004c5bd37c73ab26dc2c4c327b7fe56b1c4", func := "loop.example/g00498/laws.FnExactUtfText", spec := "fnExactUtfText", apart := false }
def FnExactUtfTextSaid : Prop := fnExactUtfTextRow.holds Try.pinned (OpenSpec.ofChange fnExactUtfTextSpec)

/-- ITS FALSE NEIGHBOUR: 'it returns false'. Refute it at one input. -/
def fnExactUtfTextWrong : ChangeSpec := { name := "fnExactUtfText", fn := fun _ => fun
  | [d1, d2] => { results := [.lit (.bool false)], args := [d1, d2] }
  | _ => none }
def FnExactUtfTextWrongFalsely : Prop := fnExactUtfTextRow.holds Try.pinned (OpenSpec.ofChange fnExactUtfTextWrong)

/-- 'laws.FnExactUtfState': WHATEVER THE INPUT: true; the input reads as it did. -/
def fnExactUtfStateSpec : ChangeSpec := { name := "fnExactUtfState", fn := fun _ => fun
  | [d] => { results := [.lit (.bool true)], args := [d] }
  | _ => none }
def fnExactUtfStateRow : OpenClaim := { program := "ytmhlljonlbiajaa", sum := "d46b4e1895c765a41bea0708231e8004c5bd37c73ab26dc2c4c327b7fe56b1c4", func := "loop.example/g00498/laws.FnExactUtfState", spec := "fnExactUtfState", apart := false }
def FnExactUtfStateSaid : Prop := fnExactUtfStateRow.holds Try.pinned (OpenSpec.ofChange fnExactUtfStateSpec)

/-- ITS FALSE NEIGHBOUR: 'it returns false'. Refute it at one input. -/
def fnExactUtfStateWrong : ChangeSpec := { name := "fnExactUtfState", fn := fun _ => fun
  | [d] => { results := [.lit (.bool false)], args := [d] }
  | _ => none }
def FnExactUtfStateWrongFalsely : Prop := fnExactUtfStateRow.holds Try.pinned (OpenSpec.ofChange fnExactUtfStateWrong)

/-- 'laws.FnUtfRight': WHATEVER THE INPUT: true; the input reads as it did. -/
def fnUtfRightSpec : ChangeSpec := { name := "fnUtfRight", fn := fun _ => fun
  | [d] => { results := [.lit (.bool true)], args := [d] }
  | _ => none }
def fnUtfRightRow : OpenClaim := { program := "ytmhlljonlbiajaa", sum := "d46b4e1895c765a41bea0708231e8004c5bd37c73ab26dc2c4c327b7fe56b1c4", func := "loop.example/g00498/laws.FnUtfRight", spec := "fnUtfRight", apart := false }
def FnUtfRightSaid : Prop := fnUtfRightRow.holds Try.pinned (OpenSpec.ofChange fnUtfRightSpec)

/-- ITS FALSE NEIGHBOUR: 'it returns false'. Refute it at one input. -/
def fnUtfRightWrong : ChangeSpec := { name := "fnUtfRight", fn := fun _ => fun
  | [d] => { results := [.lit (.bool false)], args := [d] }
  | _ => none }
def FnUtfRightWrongFalsely : Prop := fnUtfRightRow.holds Try.pinned (OpenSpec.ofChange fnUtfRightWrong)

/-- 'laws.FnUtfRunes': WHATEVER THE INPUT: true; the input reads as it did. -/
def fnUtfRunesSpec : ChangeSpec := { name := "fnUtfRunes", fn := fun _ => fun
  | [d] => { results := [.lit (.bool true)], args := [d] }
  | _ => none }
def fnUtfRunesRow : OpenClaim := { program := "ytmhlljonlbiajaa", sum := "d46b4e1895c765a41bea0708231e8004c5bd37c73ab26dc2c4c327b7fe56b1c4", func := "loop.example/g00498/laws.FnUtfRunes", spec := "fnUtfRunes", apart := false }
def FnUtfRunesSaid : Prop := fnUtfRunesRow.holds Try.pinned (OpenSpec.ofChange fnUtfRunesSpec)

/-- ITS FALSE NEIGHBOUR: 'it returns false'. Refute it at one input. -/
def fnUtfRunesWrong : ChangeSpec := { name := "fnUtfRunes", fn := fun _ => fun
  | [d] => { results := [.lit (.bool false)], args := [d] }
  | _ => none }
def FnUtfRunesWrongFalsely : Prop := fnUtfRunesRow.holds Try.pinned (OpenSpec.ofChange fnUtfRunesWrong)

/-- 'laws.FnUtfCut': WHATEVER THE INPUT: true; the input reads as it did. -/
def fnUtfCutSpec : ChangeSpec := { name := "fnUtfCut", fn := fun _ => fun
  | [d] => { results := [.lit (.bool true)], args := [d] }
  | _ => none }
def fnUtfCutRow : OpenClaim := { program := "ytmhlljonlbiajaa", sum := "d46b4e1895c765a41bea0708231e8004c5bd37c73ab26dc2c4c327b7fe56b1c4", func := "loop.example/g00498/laws.FnUtfCut", spec := "fnUtfCut", apart := false }
def FnUtfCutSaid : Prop := fnUtfCutRow.holds Try.pinned (OpenSpec.ofChange fnUtfCutSpec)

/-- ITS FALSE NEIGHBOUR: 'it returns false'. Refute it at one input. -/
def fnUtfCutWrong : ChangeSpec := { name := "fnUtfCut", fn := fun _ => fun
  | [d] => { results := [.lit (.bool false)], args := [d] }
  | _ => none }
def FnUtfCutWrongFalsely : Prop := fnUtfCutRow.holds Try.pinned (OpenSpec.ofChange fnUtfCutWrong)

/- THE SECOND FORM. 'bulk': how many values and letters a reading holds, each counted each time it is reached (what is shared counts as often as it is met; a slice's spare places count too). A statement '..UptoSaid' is the law's where the arguments, and the package variables that the reading takes, are together of bulk at most 1048576: NARROWER than '..Said'. Prove '..Said' where nothing that the law and all that it calls make is longer than what came in: it says more and counts as full. Else prove '..UptoSaid'. A law counts once. -/
mutual
def uptoBulk {H : Type} : DataW H → Nat
  | .lit (.string bytes) => bytes.length + 1
  | .lit _ => 1
  | .nil => 1
  | .ptr d => uptoBulk d + 1
  | .slice elems spare => uptoBulkAll elems + uptoBulkAll spare + 1
  | .agg parts => uptoBulkAll parts + 1
  | .iface _ d => uptoBulk d + 1
  | .map entries => uptoBulkEntries entries + 1
  | .held _ => 1
def uptoBulkAll {H : Type} : List (DataW H) → Nat
  | [] => 0
  | d :: r => uptoBulk d + uptoBulkAll r
def uptoBulkEntries {H : Type} : List (Lit × DataW H) → Nat
  | [] => 0
  | x :: r => uptoBulkEntry x + uptoBulkEntries r
def uptoBulkEntry {H : Type} : Lit × DataW H → Nat
  | (.string bytes, d) => bytes.length + uptoBulk d + 1
  | (_, d) => uptoBulk d + 1
 end
def uptoSmall : (H : Type) → List (DataW H) → Bool := fun _ ds => decide (uptoBulkAll ds ≤ 1048576)
def OpenSpec.upto (s : _root_.Go.ChangeSpec) : _root_.Go.OpenSpec := { _root_.Go.OpenSpec.ofChange s with cond := some uptoSmall }

/-- 'laws.FnExactRuneText', WHERE WHAT IT READS IS OF BULK AT MOST 1048576: true; the input reads as it did. -/
def fnExactRuneTextUptoRow : OpenClaim := { program := "ytmhlljonlbiajaa", sum := "d46b4e1895c765a41bea0708231e8004c5bd37c73ab26dc2c4c327b7fe56b1c4", func := "loop.example/g00498/laws.FnExactRuneText", spec := "fnExactRuneText", apart := false, narrowed := true }
def FnExactRuneTextUptoSaid : Prop := fnExactRuneTextUptoRow.holds Try.pinned (OpenSpec.upto fnExactRuneTextSpec)

/-- 'laws.FnExactUtfOk', WHERE WHAT IT READS IS OF BULK AT MOST 1048576: true; the input reads as it did. -/
def fnExactUtfOkUptoRow : OpenClaim := { program := "ytmhlljonlbiajaa", sum := "d46b4e1895c765a41bea0708231e8004c5bd37c73ab26dc2c4c327b7fe56b1c4", func := "loop.example/g00498/laws.FnExactUtfOk", spec := "fnExactUtfOk", apart := false, narrowed := true }
def FnExactUtfOkUptoSaid : Prop := fnExactUtfOkUptoRow.holds Try.pinned (OpenSpec.upto fnExactUtfOkSpec)

/-- 'laws.FnExactUtfByte', WHERE WHAT IT READS IS OF BULK AT MOST 1048576: true; the input reads as it did. -/
def fnExactUtfByteUptoRow : OpenClaim := { program := "ytmhlljonlbiajaa", sum := "d46b4e1895c765a41bea0708231e8004c5bd37c73ab26dc2c4c327b7fe56b1c4", func := "loop.example/g00498/laws.FnExactUtfByte", spec := "fnExactUtfByte", apart := false, narrowed := true }
def FnExactUtfByteUptoSaid : Prop := fnExactUtfByteUptoRow.holds Try.pinned (OpenSpec.upto fnExactUtfByteSpec)

/-- 'laws.FnRuneText', WHERE WHAT IT READS IS OF BULK AT MOST 1048576: true; the input reads as it did. -/
def fnRuneTextUptoRow : OpenClaim := { program := "ytmhlljonlbiajaa", sum := "d46b4e1895c765a41bea0708231e8004c5bd37c73ab26dc2c4c327b7fe56b1c4", func := "loop.example/g00498/laws.FnRuneText", spec := "fnRuneText", apart := false, narrowed := true }
def FnRuneTextUptoSaid : Prop := fnRuneTextUptoRow.holds Try.pinned (OpenSpec.upto fnRuneTextSpec)

/-- 'laws.FnExactUtfGood', WHERE WHAT IT READS IS OF BULK AT MOST 1048576: true; the input reads as it did. -/
def fnExactUtfGoodUptoRow : OpenClaim := { program := "ytmhlljonlbiajaa", sum := "d46b4e1895c765a41bea0708231e8004c5bd37c73ab26dc2c4c327b7fe56b1c4", func := "loop.example/g00498/laws.FnExactUtfGood", spec := "fnExactUtfGood", apart := false, narrowed := true }
def FnExactUtfGoodUptoSaid : Prop := fnExactUtfGoodUptoRow.holds Try.pinned (OpenSpec.upto fnExactUtfGoodSpec)

/-- 'laws.FnExactUtfText', WHERE WHAT IT READS IS OF BULK AT MOST 1048576: true; the input reads as it did. -/
def fnExactUtfTextUptoRow : OpenClaim := { program := "ytmhlljonlbiajaa", sum := "d46b4e1895c765a41bea0708231e8004c5bd37c73ab26dc2c4c327b7fe56b1c4", func := "loop.example/g00498/laws.FnExactUtfText", spec := "fnExactUtfText", apart := false, narrowed := true }
def FnExactUtfTextUptoSaid : Prop := fnExactUtfTextUptoRow.holds Try.pinned (OpenSpec.upto fnExactUtfTextSpec)

/-- 'laws.FnExactUtfState', WHERE WHAT IT READS IS OF BULK AT MOST 1048576: true; the input reads as it did. -/
def fnExactUtfStateUptoRow : OpenClaim := { program := "ytmhlljonlbiajaa", sum := "d46b4e1895c765a41bea0708231e8004c5bd37c73ab26dc2c4c327b7fe56b1c4", func := "loop.example/g00498/laws.FnExactUtfState", spec := "fnExactUtfState", apart := false, narrowed := true }
def FnExactUtfStateUptoSaid : Prop := fnExactUtfStateUptoRow.holds Try.pinned (OpenSpec.upto fnExactUtfStateSpec)

/-- 'laws.FnUtfRight', WHERE WHAT IT READS IS OF BULK AT MOST 1048576: true; the input reads as it did. -/
def fnUtfRightUptoRow : OpenClaim := { program := "ytmhlljonlbiajaa", sum := "d46b4e1895c765a41bea0708231e8004c5bd37c73ab26dc2c4c327b7fe56b1c4", func := "loop.example/g00498/laws.FnUtfRight", spec := "fnUtfRight", apart := false, narrowed := true }
def FnUtfRightUptoSaid : Prop := fnUtfRightUptoRow.holds Try.pinned (OpenSpec.upto fnUtfRightSpec)

/-- 'laws.FnUtfRunes', WHERE WHAT IT READS IS OF BULK AT MOST 1048576: true; the input reads as it did. -/
def fnUtfRunesUptoRow : OpenClaim := { program := "ytmhlljonlbiajaa", sum := "d46b4e1895c765a41bea0708231e8004c5bd37c73ab26dc2c4c327b7fe56b1c4", func := "loop.example/g00498/laws.FnUtfRunes", spec := "fnUtfRunes", apart := false, narrowed := true }
def FnUtfRunesUptoSaid : Prop := fnUtfRunesUptoRow.holds Try.pinned (OpenSpec.upto fnUtfRunesSpec)

/-- 'laws.FnUtfCut', WHERE WHAT IT READS IS OF BULK AT MOST 1048576: true; the input reads as it did. -/
def fnUtfCutUptoRow : OpenClaim := { program := "ytmhlljonlbiajaa", sum := "d46b4e1895c765a41bea0708231e8004c5bd37c73ab26dc2c4c327b7fe56b1c4", func := "loop.example/g00498/laws.FnUtfCut", spec := "fnUtfCut", apart := false, narrowed := true }
def FnUtfCutUptoSaid : Prop := fnUtfCutUptoRow.holds Try.pinned (OpenSpec.upto fnUtfCutSpec)

end Rows
end Go.Proofs.Ytmhlljonlbiajaa
