/-
  No cell of these rows narrows 'for every input' (looked for: loops, veiled, ifaces, maps, wideKeys, modest, calm, conditions, laid).
  DERIVED. THE GIVEN ROWS OF THIS SEAT. 12 by the template 'for every input the law returns true; each argument reads behind the call as it read before'; 0 by the template 'total and deterministic' (their statements: YtdoiaddjeifckaaTotals.lean).
  GIVEN WITH THE SEED: the statements are not yours to turn. If you find one false, say at which input.
  Laid BY PROGRAM, IN A SANDBOX (cutbox-rows.mjs): the forced cells as the released guide's own fill.sh prints them over the translation 555a47d7aa9e2684… (all of the seat's roots in one cut). By AI agents, Wed Nov 11 2026. No macro, syntax, notation, axiom, sorry.
-/
import Derived.Test.YtdoiaddjeifckaaChecked
import GoSem.Claim
import GoSem.ClaimJoined
import GoSem.ClaimMapViews
import Derived.JoinedTies
import Derived.KernelRfl
namespace Go.Proofs.Ytdoiaddjeifckaa
/- THE CELL 'sum', in the pinned program and in every row, IS THE sha256 OF THE DUMP (.gsa) THAT YtdoiaddjeifckaaProg.lean LOADS. Nothing in Lean hashes anything: it is a label: what it is worth is what the hold of that sum in a sandbox is worth. -/
noncomputable def Try.pinned : Pinned := { name := "ytdoiaddjeifckaa", sum := "555a47d7aa9e26841d737486ceb95bed3641da3745ee3a0deea5c8ac2ad94bd1", checked := Try.checked }
namespace Rows
def none {H : Type} : Left H := { results := [], args := [] }

/-- 'laws.FnExactWidthOf': WHATEVER THE INPUT: true; the input reads as it did. -/
def fnExactWidthOfSpec : ChangeSpec := { name := "fnExactWidthOf", fn := fun _ => fun
  | [d] => { results := [.lit (.bool true)], args := [d] }
  | _ => none }
def fnExactWidthOfRow : OpenClaim := { program := "ytdoiaddjeifckaa", sum := "555a47d7aa9e26841d737486ceb95bed3641da3745ee3a0deea5c8ac2ad94bd1", func := "loop.example/g00498/laws.FnExactWidthOf", spec := "fnExactWidthOf", apart := false }
def FnExactWidthOfSaid : Prop := fnExactWidthOfRow.holds Try.pinned (OpenSpec.ofChange fnExactWidthOfSpec)

/-- ITS FALSE NEIGHBOUR: 'it returns false'. Refute it at one input. -/
def fnExactWidthOfWrong : ChangeSpec := { name := "fnExactWidthOf", fn := fun _ => fun
  | [d] => { results := [.lit (.bool false)], args := [d] }
  | _ => none }
def FnExactWidthOfWrongFalsely : Prop := fnExactWidthOfRow.holds Try.pinned (OpenSpec.ofChange fnExactWidthOfWrong)

/-- 'laws.FnExactBitsFit': WHATEVER THE INPUT: true; the input reads as it did. -/
def fnExactBitsFitSpec : ChangeSpec := { name := "fnExactBitsFit", fn := fun _ => fun
  | [d1, d2] => { results := [.lit (.bool true)], args := [d1, d2] }
  | _ => none }
def fnExactBitsFitRow : OpenClaim := { program := "ytdoiaddjeifckaa", sum := "555a47d7aa9e26841d737486ceb95bed3641da3745ee3a0deea5c8ac2ad94bd1", func := "loop.example/g00498/laws.FnExactBitsFit", spec := "fnExactBitsFit", apart := false }
def FnExactBitsFitSaid : Prop := fnExactBitsFitRow.holds Try.pinned (OpenSpec.ofChange fnExactBitsFitSpec)

/-- ITS FALSE NEIGHBOUR: 'it returns false'. Refute it at one input. -/
def fnExactBitsFitWrong : ChangeSpec := { name := "fnExactBitsFit", fn := fun _ => fun
  | [d1, d2] => { results := [.lit (.bool false)], args := [d1, d2] }
  | _ => none }
def FnExactBitsFitWrongFalsely : Prop := fnExactBitsFitRow.holds Try.pinned (OpenSpec.ofChange fnExactBitsFitWrong)

/-- 'laws.FnExactPutFix': WHATEVER THE INPUT: true; the input reads as it did. -/
def fnExactPutFixSpec : ChangeSpec := { name := "fnExactPutFix", fn := fun _ => fun
  | [d1, d2] => { results := [.lit (.bool true)], args := [d1, d2] }
  | _ => none }
def fnExactPutFixRow : OpenClaim := { program := "ytdoiaddjeifckaa", sum := "555a47d7aa9e26841d737486ceb95bed3641da3745ee3a0deea5c8ac2ad94bd1", func := "loop.example/g00498/laws.FnExactPutFix", spec := "fnExactPutFix", apart := false }
def FnExactPutFixSaid : Prop := fnExactPutFixRow.holds Try.pinned (OpenSpec.ofChange fnExactPutFixSpec)

/-- ITS FALSE NEIGHBOUR: 'it returns false'. Refute it at one input. -/
def fnExactPutFixWrong : ChangeSpec := { name := "fnExactPutFix", fn := fun _ => fun
  | [d1, d2] => { results := [.lit (.bool false)], args := [d1, d2] }
  | _ => none }
def FnExactPutFixWrongFalsely : Prop := fnExactPutFixRow.holds Try.pinned (OpenSpec.ofChange fnExactPutFixWrong)

/-- 'laws.FnExactGetFix': WHATEVER THE INPUT: true; the input reads as it did. -/
def fnExactGetFixSpec : ChangeSpec := { name := "fnExactGetFix", fn := fun _ => fun
  | [d1, d2, d3] => { results := [.lit (.bool true)], args := [d1, d2, d3] }
  | _ => none }
def fnExactGetFixRow : OpenClaim := { program := "ytdoiaddjeifckaa", sum := "555a47d7aa9e26841d737486ceb95bed3641da3745ee3a0deea5c8ac2ad94bd1", func := "loop.example/g00498/laws.FnExactGetFix", spec := "fnExactGetFix", apart := false }
def FnExactGetFixSaid : Prop := fnExactGetFixRow.holds Try.pinned (OpenSpec.ofChange fnExactGetFixSpec)

/-- ITS FALSE NEIGHBOUR: 'it returns false'. Refute it at one input. -/
def fnExactGetFixWrong : ChangeSpec := { name := "fnExactGetFix", fn := fun _ => fun
  | [d1, d2, d3] => { results := [.lit (.bool false)], args := [d1, d2, d3] }
  | _ => none }
def FnExactGetFixWrongFalsely : Prop := fnExactGetFixRow.holds Try.pinned (OpenSpec.ofChange fnExactGetFixWrong)

/-- 'laws.FnExactWireOf': WHATEVER THE INPUT: true; the input reads as it did. -/
def fnExactWireOfSpec : ChangeSpec := { name := "fnExactWireOf", fn := fun _ => fun
  | [d] => { results := [.lit (.bool true)], args := [d] }
  | _ => none }
def fnExactWireOfRow : OpenClaim := { program := "ytdoiaddjeifckaa", sum := "555a47d7aa9e26841d737486ceb95bed3641da3745ee3a0deea5c8ac2ad94bd1", func := "loop.example/g00498/laws.FnExactWireOf", spec := "fnExactWireOf", apart := false }
def FnExactWireOfSaid : Prop := fnExactWireOfRow.holds Try.pinned (OpenSpec.ofChange fnExactWireOfSpec)

/-- ITS FALSE NEIGHBOUR: 'it returns false'. Refute it at one input. -/
def fnExactWireOfWrong : ChangeSpec := { name := "fnExactWireOf", fn := fun _ => fun
  | [d] => { results := [.lit (.bool false)], args := [d] }
  | _ => none }
def FnExactWireOfWrongFalsely : Prop := fnExactWireOfRow.holds Try.pinned (OpenSpec.ofChange fnExactWireOfWrong)

/-- 'laws.FnExactFixByte': WHATEVER THE INPUT: true; the input reads as it did. -/
def fnExactFixByteSpec : ChangeSpec := { name := "fnExactFixByte", fn := fun _ => fun
  | [d1, d2] => { results := [.lit (.bool true)], args := [d1, d2] }
  | _ => none }
def fnExactFixByteRow : OpenClaim := { program := "ytdoiaddjeifckaa", sum := "555a47d7aa9e26841d737486ceb95bed3641da3745ee3a0deea5c8ac2ad94bd1", func := "loop.example/g00498/laws.FnExactFixByte", spec := "fnExactFixByte", apart := false }
def FnExactFixByteSaid : Prop := fnExactFixByteRow.holds Try.pinned (OpenSpec.ofChange fnExactFixByteSpec)

/-- ITS FALSE NEIGHBOUR: 'it returns false'. Refute it at one input. -/
def fnExactFixByteWrong : ChangeSpec := { name := "fnExactFixByte", fn := fun _ => fun
  | [d1, d2] => { results := [.lit (.bool false)], args := [d1, d2] }
  | _ => none }
def FnExactFixByteWrongFalsely : Prop := fnExactFixByteRow.holds Try.pinned (OpenSpec.ofChange fnExactFixByteWrong)

/-- 'laws.FnNumbers': WHATEVER THE INPUT: true; the input reads as it did. -/
def fnNumbersSpec : ChangeSpec := { name := "fnNumbers", fn := fun _ => fun
  | [d] => { results := [.lit (.bool true)], args := [d] }
  | _ => none }
def fnNumbersRow : OpenClaim := { program := "ytdoiaddjeifckaa", sum := "555a47d7aa9e26841d737486ceb95bed3641da3745ee3a0deea5c8ac2ad94bd1", func := "loop.example/g00498/laws.FnNumbers", spec := "fnNumbers", apart := false }
def FnNumbersSaid : Prop := fnNumbersRow.holds Try.pinned (OpenSpec.ofChange fnNumbersSpec)

/-- ITS FALSE NEIGHBOUR: 'it returns false'. Refute it at one input. -/
def fnNumbersWrong : ChangeSpec := { name := "fnNumbers", fn := fun _ => fun
  | [d] => { results := [.lit (.bool false)], args := [d] }
  | _ => none }
def FnNumbersWrongFalsely : Prop := fnNumbersRow.holds Try.pinned (OpenSpec.ofChange fnNumbersWrong)

/-- 'laws.FnZig': WHATEVER THE INPUT: true; the input reads as it did. -/
def fnZigSpec : ChangeSpec := { name := "fnZig", fn := fun _ => fun
  | [d] => { results := [.lit (.bool true)], args := [d] }
  | _ => none }
def fnZigRow : OpenClaim := { program := "ytdoiaddjeifckaa", sum := "555a47d7aa9e26841d737486ceb95bed3641da3745ee3a0deea5c8ac2ad94bd1", func := "loop.example/g00498/laws.FnZig", spec := "fnZig", apart := false }
def FnZigSaid : Prop := fnZigRow.holds Try.pinned (OpenSpec.ofChange fnZigSpec)

/-- ITS FALSE NEIGHBOUR: 'it returns false'. Refute it at one input. -/
def fnZigWrong : ChangeSpec := { name := "fnZig", fn := fun _ => fun
  | [d] => { results := [.lit (.bool false)], args := [d] }
  | _ => none }
def FnZigWrongFalsely : Prop := fnZigRow.holds Try.pinned (OpenSpec.ofChange fnZigWrong)

/-- 'laws.FnGetFix': WHATEVER THE INPUT: true; the input reads as it did. -/
def fnGetFixSpec : ChangeSpec := { name := "fnGetFix", fn := fun _ => fun
  | [d] => { results := [.lit (.bool true)], args := [d] }
  | _ => none }
def fnGetFixRow : OpenClaim := { program := "ytdoiaddjeifckaa", sum := "555a47d7aa9e26841d737486ceb95bed3641da3745ee3a0deea5c8ac2ad94bd1", func := "loop.example/g00498/laws.FnGetFix", spec := "fnGetFix", apart := false }
def FnGetFixSaid : Prop := fnGetFixRow.holds Try.pinned (OpenSpec.ofChange fnGetFixSpec)

/-- ITS FALSE NEIGHBOUR: 'it returns false'. Refute it at one input. -/
def fnGetFixWrong : ChangeSpec := { name := "fnGetFix", fn := fun _ => fun
  | [d] => { results := [.lit (.bool false)], args := [d] }
  | _ => none }
def FnGetFixWrongFalsely : Prop := fnGetFixRow.holds Try.pinned (OpenSpec.ofChange fnGetFixWrong)

/-- 'laws.FnTag': WHATEVER THE INPUT: true; the input reads as it did. -/
def fnTagSpec : ChangeSpec := { name := "fnTag", fn := fun _ => fun
  | [d] => { results := [.lit (.bool true)], args := [d] }
  | _ => none }
def fnTagRow : OpenClaim := { program := "ytdoiaddjeifckaa", sum := "555a47d7aa9e26841d737486ceb95bed3641da3745ee3a0deea5c8ac2ad94bd1", func := "loop.example/g00498/laws.FnTag", spec := "fnTag", apart := false }
def FnTagSaid : Prop := fnTagRow.holds Try.pinned (OpenSpec.ofChange fnTagSpec)

/-- ITS FALSE NEIGHBOUR: 'it returns false'. Refute it at one input. -/
def fnTagWrong : ChangeSpec := { name := "fnTag", fn := fun _ => fun
  | [d] => { results := [.lit (.bool false)], args := [d] }
  | _ => none }
def FnTagWrongFalsely : Prop := fnTagRow.holds Try.pinned (OpenSpec.ofChange fnTagWrong)

/-- 'laws.FnFix': WHATEVER THE INPUT: true; the input reads as it did. -/
def fnFixSpec : ChangeSpec := { name := "fnFix", fn := fun _ => fun
  | [d] => { results := [.lit (.bool true)], args := [d] }
  | _ => none }
def fnFixRow : OpenClaim := { program := "ytdoiaddjeifckaa", sum := "555a47d7aa9e26841d737486ceb95bed3641da3745ee3a0deea5c8ac2ad94bd1", func := "loop.example/g00498/laws.FnFix", spec := "fnFix", apart := false }
def FnFixSaid : Prop := fnFixRow.holds Try.pinned (OpenSpec.ofChange fnFixSpec)

/-- ITS FALSE NEIGHBOUR: 'it returns false'. Refute it at one input. -/
def fnFixWrong : ChangeSpec := { name := "fnFix", fn := fun _ => fun
  | [d] => { results := [.lit (.bool false)], args := [d] }
  | _ => none }
def FnFixWrongFalsely : Prop := fnFixRow.holds Try.pinned (OpenSpec.ofChange fnFixWrong)

/-- 'laws.FnKinds': WHATEVER THE INPUT: true; the input reads as it did. -/
def fnKindsSpec : ChangeSpec := { name := "fnKinds", fn := fun _ => fun
  | [d] => { results := [.lit (.bool true)], args := [d] }
  | _ => none }
def fnKindsRow : OpenClaim := { program := "ytdoiaddjeifckaa", sum := "555a47d7aa9e26841d737486ceb95bed3641da3745ee3a0deea5c8ac2ad94bd1", func := "loop.example/g00498/laws.FnKinds", spec := "fnKinds", apart := false }
def FnKindsSaid : Prop := fnKindsRow.holds Try.pinned (OpenSpec.ofChange fnKindsSpec)

/-- ITS FALSE NEIGHBOUR: 'it returns false'. Refute it at one input. -/
def fnKindsWrong : ChangeSpec := { name := "fnKinds", fn := fun _ => fun
  | [d] => { results := [.lit (.bool false)], args := [d] }
  | _ => none }
def FnKindsWrongFalsely : Prop := fnKindsRow.holds Try.pinned (OpenSpec.ofChange fnKindsWrong)

/- THE SECOND FORM. 'bulk': how many values and letters a reading holds, each counted each time it is reached (what is shared counts as often as it is met; a slice's spare places count too). A statement '..UptoSaid' is the law's where the arguments, and the package variables that the reading takes, are together of bulk at most 1048576: NARROWER than '..Said'. Prove '..Said' where nothing that the law and all that it calls make is longer than what came in: it says more and counts as full. Else prove '..UptoSaid'. A law counts once. -/
mutual
def uptoBulk {H : Type} : DataW H → Nat
  | .lit (.string bytes) => bytes.length + 1
  | .lit _ => 1
  | .nil => 1
  | .ptr d => uptoBulk d + 1
  | .slice elems spare => uptoBulkAll elems + uptoBulkAll spare + 1
  | .agg parts => uptoBulkAll parts + 1
  | .iface _ d => uptoBulk d + 1
  | .map entries => uptoBulkEntries entries + 1
  | .held _ => 1
def uptoBulkAll {H : Type} : List (DataW H) → Nat
  | [] => 0
  | d :: r => uptoBulk d + uptoBulkAll r
def uptoBulkEntries {H : Type} : List (Lit × DataW H) → Nat
  | [] => 0
  | x :: r => uptoBulkEntry x + uptoBulkEntries r
def uptoBulkEntry {H : Type} : Lit × DataW H → Nat
  | (.string bytes, d) => bytes.length + uptoBulk d + 1
  | (_, d) => uptoBulk d + 1
 end
def uptoSmall : (H : Type) → List (DataW H) → Bool := fun _ ds => decide (uptoBulkAll ds ≤ 1048576)
def OpenSpec.upto (s : _root_.Go.ChangeSpec) : _root_.Go.OpenSpec := { _root_.Go.OpenSpec.ofChange s with cond := some uptoSmall }

/-- 'laws.FnExactWidthOf', WHERE WHAT IT READS IS OF BULK AT MOST 1048576: true; the input reads as it did. -/
def fnExactWidthOfUptoRow : OpenClaim := { program := "ytdoiaddjeifckaa", sum := "555a47d7aa9e26841d737486ceb95bed3641da3745ee3a0deea5c8ac2ad94bd1", func := "loop.example/g00498/laws.FnExactWidthOf", spec := "fnExactWidthOf", apart := false, narrowed := true }
def FnExactWidthOfUptoSaid : Prop := fnExactWidthOfUptoRow.holds Try.pinned (OpenSpec.upto fnExactWidthOfSpec)

/-- 'laws.FnExactBitsFit', WHERE WHAT IT READS IS OF BULK AT MOST 1048576: true; the input reads as it did. -/
def fnExactBitsFitUptoRow : OpenClaim := { program := "ytdoiaddjeifckaa", sum := "555a47d7aa9e26841d737486ceb95bed3641da3745ee3a0deea5c8ac2ad94bd1", func := "loop.example/g00498/laws.FnExactBitsFit", spec := "fnExactBitsFit", apart := false, narrowed := true }
def FnExactBitsFitUptoSaid : Prop := fnExactBitsFitUptoRow.holds Try.pinned (OpenSpec.upto fnExactBitsFitSpec)

/-- 'laws.FnExactPutFix', WHERE WHAT IT READS IS OF BULK AT MOST 1048576: true; the input reads as it did. -/
def fnExactPutFixUptoRow : OpenClaim := { program := "ytdoiaddjeifckaa", sum := "555a47d7aa9e26841d737486ceb95bed3641da3745ee3a0deea5c8ac2ad94bd1", func := "loop.example/g00498/laws.FnExactPutFix", spec := "fnExactPutFix", apart := false, narrowed := true }
def FnExactPutFixUptoSaid : Prop := fnExactPutFixUptoRow.holds Try.pinned (OpenSpec.upto fnExactPutFixSpec)

/-- 'laws.FnExactGetFix', WHERE WHAT IT READS IS OF BULK AT MOST 1048576: true; the input reads as it did. -/
def fnExactGetFixUptoRow : OpenClaim := { program := "ytdoiaddjeifckaa", sum := "555a47d7aa9e26841d737486ceb95bed3641da3745ee3a0deea5c8ac2ad94bd1", func := "loop.example/g00498/laws.FnExactGetFix", spec := "fnExactGetFix", apart := false, narrowed := true }
def FnExactGetFixUptoSaid : Prop := fnExactGetFixUptoRow.holds Try.pinned (OpenSpec.upto fnExactGetFixSpec)

/-- 'laws.FnExactWireOf', WHERE WHAT IT READS IS OF BULK AT MOST 1048576: true; the input reads as it did. -/
def fnExactWireOfUptoRow : OpenClaim := { program := "ytdoiaddjeifckaa", sum := "555a47d7aa9e26841d737486ceb95bed3641da3745ee3a0deea5c8ac2ad94bd1", func := "loop.example/g00498/laws.FnExactWireOf", spec := "fnExactWireOf", apart := false, narrowed := true }
def FnExactWireOfUptoSaid : Prop := fnExactWireOfUptoRow.holds Try.pinned (OpenSpec.upto fnExactWireOfSpec)

/-- 'laws.FnExactFixByte', WHERE WHAT IT READS IS OF BULK AT MOST 1048576: true; the input reads as it did. -/
def fnExactFixByteUptoRow : OpenClaim := { program := "ytdoiaddjeifckaa", sum := "555a47d7aa9e26841d737486ceb95bed3641da3745ee3a0deea5c8ac2ad94bd1", func := "loop.example/g00498/laws.FnExactFixByte", spec := "fnExactFixByte", apart := false, narrowed := true }
def FnExactFixByteUptoSaid : Prop := fnExactFixByteUptoRow.holds Try.pinned (OpenSpec.upto fnExactFixByteSpec)

/-- 'laws.FnNumbers', WHERE WHAT IT READS IS OF BULK AT MOST 1048576: true; the input reads as it did. -/
def fnNumbersUptoRow : OpenClaim := { program := "ytdoiaddjeifckaa", sum := "555a47d7aa9e26841d737486ceb95bed3641da3745ee3a0deea5c8ac2ad94bd1", func := "loop.example/g00498/laws.FnNumbers", spec := "fnNumbers", apart := false, narrowed := true }
def FnNumbersUptoSaid : Prop := fnNumbersUptoRow.holds Try.pinned (OpenSpec.upto fnNumbersSpec)

/-- 'laws.FnZig', WHERE WHAT IT READS IS OF BULK AT MOST 1048576: true; the input reads as it did. -/
def fnZigUptoRow : OpenClaim := { program := "ytdoiaddjeifckaa", sum := "555a47d7aa9e26841d737486ceb95bed3641da3745ee3a0deea5c8ac2ad94bd1", func := "loop.example/g00498/laws.FnZig", spec := "fnZig", apart := false, narrowed := true }
def FnZigUptoSaid : Prop := fnZigUptoRow.holds Try.pinned (OpenSpec.upto fnZigSpec)

/-- 'laws.FnGetFix', WHERE WHAT IT READS IS OF BULK AT MOST 1048576: true; the input reads as it did. -/
def fnGetFixUptoRow : OpenClaim := { program := "ytdoiaddjeifckaa", sum := "555a47d7aa9e26841d737486ceb95bed3641da3745ee3a0deea5c8ac2ad94bd1", func := "loop.example/g00498/laws.FnGetFix", spec := "fnGetFix", apart := false, narrowed := true }
def FnGetFixUptoSaid : Prop := fnGetFixUptoRow.holds Try.pinned (OpenSpec.upto fnGetFixSpec)

/-- 'laws.FnTag', WHERE WHAT IT READS IS OF BULK AT MOST 1048576: true; the input reads as it did. -/
def fnTagUptoRow : OpenClaim := { program := "ytdoiaddjeifckaa", sum := "555a47d7aa9e26841d737486ceb95bed3641da3745ee3a0deea5c8ac2ad94bd1", func := "loop.example/g00498/laws.FnTag", spec := "fnTag", apart := false, narrowed := true }
def FnTagUptoSaid : Prop := fnTagUptoRow.holds Try.pinned (OpenSpec.upto fnTagSpec)

/-- 'laws.FnFix', WHERE WHAT IT READS IS OF BULK AT MOST 1048576: true; the input reads as it did. -/
def fnFixUptoRow : OpenClaim := { program := "ytdoiaddjeifckaa", sum := "555a47d7aa9e26841d737486ceb95bed3641da3745ee3a0deea5c8ac2ad94bd1", func := "loop.example/g00498/laws.FnFix", spec := "fnFix", apart := false, narrowed := true }
def FnFixUptoSaid : Prop := fnFixUptoRow.holds Try.pinned (OpenSpec.upto fnFixSpec)

/-- 'laws.FnKinds', WHERE WHAT IT READS IS OF BULK AT MOST 1048576: true; the input reads as it did. -/
def fnKindsUptoRow : OpenClaim := { program := "ytdoiaddjeifckaa", sum := "555a47d7aa9e26841d737486ceb95bed3641da3745ee3a0deea5c8ac2ad94bd1", func := "loop.example/g00498/laws.FnKinds", spec := "fnKinds", apart := false, narrowed := true }
def FnKindsUptoSaid : Prop := fnKindsUptoRow.holds Try.pinned (OpenSpec.upto fnKindsSpec)

end Rows
end Go.Proofs.Ytdoiaddjeifckaa
