/-
  No cell of these rows narrows 'for every input' (looked for: loops, veiled, ifaces, maps, wideKeys, modest, calm, conditions, laid).
  DERIVED. THE GIVEN ROWS OF THIS SEAT. 6 by the template 'for every input the law returns true; each argument reads behind the call as it read before'; 0 by the template 'total and deterministic' (their statements: YtcoghgpgfaifaaaTotals.lean).
  GIVEN WITH THE SEED: the statements are not yours to turn. If you find one false, say at which input.
  Laid BY PROGRAM, IN A SANDBOX (cutbox-rows.mjs): the forced cells as the released guide's own fill.sh prints them over the translation d69b26032427c85a… (all of the seat's roots in one cut). By AI agents, Wed Nov 11 2026. No macro, syntax, notation, axiom, sorry.
-/
import Derived.Test.YtcoghgpgfaifaaaChecked
import GoSem.Claim
import GoSem.ClaimJoined
import GoSem.ClaimMapViews
import Derived.JoinedTies
import Derived.KernelRfl
namespace Go.Proofs.Ytcoghgpgfaifaaa
/- THE CELL 'sum', in the pinned program and in every row, IS THE sha256 OF THE DUMP (.gsa) THAT YtcoghgpgfaifaaaProg.lean LOADS. Nothing in Lean hashes anything: it is a label: what it is worth is what the hold of that sum in a sandbox is worth. -/
noncomputable def Try.pinned : Pinned := { name := "ytcoghgpgfaifaaa", sum := "d69b26032427c85aeaf073eee846afc1648784b6febe6847d0cb8d68d193787f", checked := Try.checked }
namespace Rows
def none {H : Type} : Left H := { results := [], args := [] }

/-- 'laws.FnExactSameRaw': WHATEVER THE INPUT: true; the input reads as it did. -/
def fnExactSameRawSpec : ChangeSpec := { name := "fnExactSameRaw", fn := fun _ => fun
  | [d1, d2] => { results := [.lit (.bool true)], args := [d1, d2] }
  | _ => none }
def fnExactSameRawRow : OpenClaim := { program := "ytcoghgpgfaifaaa", sum := "d69b26032427c85aeaf073eee846afc1648784b6febe6847d0cb8d68d193787f", func := "loop.example/g00498/laws.FnExactSameRaw", spec := "fnExactSameRaw", unfollowed := true, recurses := true, apart := false }
def FnExactSameRawSaid : Prop := fnExactSameRawRow.holds Try.pinned (OpenSpec.ofChange fnExactSameRawSpec)

/-- ITS FALSE NEIGHBOUR: 'it returns false'. Refute it at one input. -/
def fnExactSameRawWrong : ChangeSpec := { name := "fnExactSameRaw", fn := fun _ => fun
  | [d1, d2] => { results := [.lit (.bool false)], args := [d1, d2] }
  | _ => none }
def FnExactSameRawWrongFalsely : Prop := fnExactSameRawRow.holds Try.pinned (OpenSpec.ofChange fnExactSameRawWrong)

/-- 'laws.FnExactMsgCode': WHATEVER THE INPUT: true; the input reads as it did. -/
def fnExactMsgCodeSpec : ChangeSpec := { name := "fnExactMsgCode", fn := fun _ => fun
  | [d1, d2] => { results := [.lit (.bool true)], args := [d1, d2] }
  | _ => none }
def fnExactMsgCodeRow : OpenClaim := { program := "ytcoghgpgfaifaaa", sum := "d69b26032427c85aeaf073eee846afc1648784b6febe6847d0cb8d68d193787f", func := "loop.example/g00498/laws.FnExactMsgCode", spec := "fnExactMsgCode", unfollowed := true, recurses := true, apart := false }
def FnExactMsgCodeSaid : Prop := fnExactMsgCodeRow.holds Try.pinned (OpenSpec.ofChange fnExactMsgCodeSpec)

/-- ITS FALSE NEIGHBOUR: 'it returns false'. Refute it at one input. -/
def fnExactMsgCodeWrong : ChangeSpec := { name := "fnExactMsgCode", fn := fun _ => fun
  | [d1, d2] => { results := [.lit (.bool false)], args := [d1, d2] }
  | _ => none }
def FnExactMsgCodeWrongFalsely : Prop := fnExactMsgCodeRow.holds Try.pinned (OpenSpec.ofChange fnExactMsgCodeWrong)

/-- 'laws.FnExactFieldCode': WHATEVER THE INPUT: true; the input reads as it did. -/
def fnExactFieldCodeSpec : ChangeSpec := { name := "fnExactFieldCode", fn := fun _ => fun
  | [d1, d2, d3] => { results := [.lit (.bool true)], args := [d1, d2, d3] }
  | _ => none }
def fnExactFieldCodeRow : OpenClaim := { program := "ytcoghgpgfaifaaa", sum := "d69b26032427c85aeaf073eee846afc1648784b6febe6847d0cb8d68d193787f", func := "loop.example/g00498/laws.FnExactFieldCode", spec := "fnExactFieldCode", unfollowed := true, recurses := true, apart := false }
def FnExactFieldCodeSaid : Prop := fnExactFieldCodeRow.holds Try.pinned (OpenSpec.ofChange fnExactFieldCodeSpec)

/-- ITS FALSE NEIGHBOUR: 'it returns false'. Refute it at one input. -/
def fnExactFieldCodeWrong : ChangeSpec := { name := "fnExactFieldCode", fn := fun _ => fun
  | [d1, d2, d3] => { results := [.lit (.bool false)], args := [d1, d2, d3] }
  | _ => none }
def FnExactFieldCodeWrongFalsely : Prop := fnExactFieldCodeRow.holds Try.pinned (OpenSpec.ofChange fnExactFieldCodeWrong)

/-- 'laws.FnFirst': WHATEVER THE INPUT: true; the input reads as it did. -/
def fnFirstSpec : ChangeSpec := { name := "fnFirst", fn := fun _ => fun
  | [d] => { results := [.lit (.bool true)], args := [d] }
  | _ => none }
def fnFirstRow : OpenClaim := { program := "ytcoghgpgfaifaaa", sum := "d69b26032427c85aeaf073eee846afc1648784b6febe6847d0cb8d68d193787f", func := "loop.example/g00498/laws.FnFirst", spec := "fnFirst", unfollowed := true, recurses := true, apart := false }
def FnFirstSaid : Prop := fnFirstRow.holds Try.pinned (OpenSpec.ofChange fnFirstSpec)

/-- ITS FALSE NEIGHBOUR: 'it returns false'. Refute it at one input. -/
def fnFirstWrong : ChangeSpec := { name := "fnFirst", fn := fun _ => fun
  | [d] => { results := [.lit (.bool false)], args := [d] }
  | _ => none }
def FnFirstWrongFalsely : Prop := fnFirstRow.holds Try.pinned (OpenSpec.ofChange fnFirstWrong)

/-- 'laws.FnExactRawOk': WHATEVER THE INPUT: true; the input reads as it did. -/
def fnExactRawOkSpec : ChangeSpec := { name := "fnExactRawOk", fn := fun _ => fun
  | [d] => { results := [.lit (.bool true)], args := [d] }
  | _ => none }
def fnExactRawOkRow : OpenClaim := { program := "ytcoghgpgfaifaaa", sum := "d69b26032427c85aeaf073eee846afc1648784b6febe6847d0cb8d68d193787f", func := "loop.example/g00498/laws.FnExactRawOk", spec := "fnExactRawOk", unfollowed := true, recurses := true, apart := false }
def FnExactRawOkSaid : Prop := fnExactRawOkRow.holds Try.pinned (OpenSpec.ofChange fnExactRawOkSpec)

/-- ITS FALSE NEIGHBOUR: 'it returns false'. Refute it at one input. -/
def fnExactRawOkWrong : ChangeSpec := { name := "fnExactRawOk", fn := fun _ => fun
  | [d] => { results := [.lit (.bool false)], args := [d] }
  | _ => none }
def FnExactRawOkWrongFalsely : Prop := fnExactRawOkRow.holds Try.pinned (OpenSpec.ofChange fnExactRawOkWrong)

/-- 'laws.FnExactFirstViolation': WHATEVER THE INPUT: true; the input reads as it did. -/
def fnExactFirstViolationSpec : ChangeSpec := { name := "fnExactFirstViolation", fn := fun _ => fun
  | [d] => { results := [.lit (.bool true)], args := [d] }
  | _ => none }
def fnExactFirstViolationRow : OpenClaim := { program := "ytcoghgpgfaifaaa", sum := "d69b26032427c85aeaf073eee846afc1648784b6febe6847d0cb8d68d193787f", func := "loop.example/g00498/laws.FnExactFirstViolation", spec := "fnExactFirstViolation", unfollowed := true, recurses := true, apart := false }
def FnExactFirstViolationSaid : Prop := fnExactFirstViolationRow.holds Try.pinned (OpenSpec.ofChange fnExactFirstViolationSpec)

/-- ITS FALSE NEIGHBOUR: 'it returns false'. Refute it at one input. -/
def fnExactFirstViolationWrong : ChangeSpec := { name := "fnExactFirstViolation", fn := fun _ => fun
  | [d] => { results := [.lit (.bool false)], args := [d] }
  | _ => none }
def FnExactFirstViolationWrongFalsely : Prop := fnExactFirstViolationRow.holds Try.pinned (OpenSpec.ofChange fnExactFirstViolationWrong)

/- THE SECOND FORM. 'bulk': how many values and letters a reading holds, each counted each time it is reached (what is shared counts as often as it is met; a slice's spare places count too). A statement '..UptoSaid' is the law's where the arguments, and the package variables that the reading takes, are together of bulk at most 1048576: NARROWER than '..Said'. Prove '..Said' where nothing that the law and all that it calls make is longer than what came in: it says more and counts as full. Else prove '..UptoSaid'. A law counts once. -/
mutual
def uptoBulk {H : Type} : DataW H → Nat
  | .lit (.string bytes) => bytes.length + 1
  | .lit _ => 1
  | .nil => 1
  | .ptr d => uptoBulk d + 1
  | .slice elems spare => uptoBulkAll elems + uptoBulkAll spare + 1
  | .agg parts => uptoBulkAll parts + 1
  | .iface _ d => uptoBulk d + 1
  | .map entries => uptoBulkEntries entries + 1
  | .held _ => 1
def uptoBulkAll {H : Type} : List (DataW H) → Nat
  | [] => 0
  | d :: r => uptoBulk d + uptoBulkAll r
def uptoBulkEntries {H : Type} : List (Lit × DataW H) → Nat
  | [] => 0
  | x :: r => uptoBulkEntry x + uptoBulkEntries r
def uptoBulkEntry {H : Type} : Lit × DataW H → Nat
  | (.string bytes, d) => bytes.length + uptoBulk d + 1
  | (_, d) => uptoBulk d + 1
 end
def uptoSmall : (H : Type) → List (DataW H) → Bool := fun _ ds => decide (uptoBulkAll ds ≤ 1048576)
def OpenSpec.upto (s : _root_.Go.ChangeSpec) : _root_.Go.OpenSpec := { _root_.Go.OpenSpec.ofChange s with cond := some uptoSmall }

/-- 'laws.FnExactSameRaw', WHERE WHAT IT READS IS OF BULK AT MOST 1048576: true; the input reads as it did. -/
def fnExactSameRawUptoRow : OpenClaim := { program := "ytcoghgpgfaifaaa", sum := "d69b26032427c85aeaf073eee846afc1648784b6febe6847d0cb8d68d193787f", func := "loop.example/g00498/laws.FnExactSameRaw", spec := "fnExactSameRaw", unfollowed := true, recurses := true, apart := false, narrowed := true }
def FnExactSameRawUptoSaid : Prop := fnExactSameRawUptoRow.holds Try.pinned (OpenSpec.upto fnExactSameRawSpec)

/-- 'laws.FnExactMsgCode', WHERE WHAT IT READS IS OF BULK AT MOST 1048576: true; the input reads as it did. -/
def fnExactMsgCodeUptoRow : OpenClaim := { program := "ytcoghgpgfaifaaa", sum := "d69b26032427c85aeaf073eee846afc1648784b6febe6847d0cb8d68d193787f", func := "loop.example/g00498/laws.FnExactMsgCode", spec := "fnExactMsgCode", unfollowed := true, recurses := true, apart := false, narrowed := true }
def FnExactMsgCodeUptoSaid : Prop := fnExactMsgCodeUptoRow.holds Try.pinned (OpenSpec.upto fnExactMsgCodeSpec)

/-- 'laws.FnExactFieldCode', WHERE WHAT IT READS IS OF BULK AT MOST 1048576: true; the input reads as it did. -/
def fnExactFieldCodeUptoRow : OpenClaim := { program := "ytcoghgpgfaifaaa", sum := "d69b26032427c85aeaf073eee846afc1648784b6febe6847d0cb8d68d193787f", func := "loop.example/g00498/laws.FnExactFieldCode", spec := "fnExactFieldCode", unfollowed := true, recurses := true, apart := false, narrowed := true }
def FnExactFieldCodeUptoSaid : Prop := fnExactFieldCodeUptoRow.holds Try.pinned (OpenSpec.upto fnExactFieldCodeSpec)

/-- 'laws.FnFirst', WHERE WHAT IT READS IS OF BULK AT MOST 1048576: true; the input reads as it did. -/
def fnFirstUptoRow : OpenClaim := { program := "ytcoghgpgfaifaaa", sum := "d69b26032427c85aeaf073eee846afc1648784b6febe6847d0cb8d68d193787f", func := "loop.example/g00498/laws.FnFirst", spec := "fnFirst", unfollowed := true, recurses := true, apart := false, narrowed := true }
def FnFirstUptoSaid : Prop := fnFirstUptoRow.holds Try.pinned (OpenSpec.upto fnFirstSpec)

/-- 'laws.FnExactRawOk', WHERE WHAT IT READS IS OF BULK AT MOST 1048576: true; the input reads as it did. -/
def fnExactRawOkUptoRow : OpenClaim := { program := "ytcoghgpgfaifaaa", sum := "d69b26032427c85aeaf073eee846afc1648784b6febe6847d0cb8d68d193787f", func := "loop.example/g00498/laws.FnExactRawOk", spec := "fnExactRawOk", unfollowed := true, recurses := true, apart := false, narrowed := true }
def FnExactRawOkUptoSaid : Prop := fnExactRawOkUptoRow.holds Try.pinned (OpenSpec.upto fnExactRawOkSpec)

/-- 'laws.FnExactFirstViolation', WHERE WHAT IT READS IS OF BULK AT MOST 1048576: true; the input reads as it did. -/
def fnExactFirstViolationUptoRow : OpenClaim := { program := "ytcoghgpgfaifaaa", sum := "d69b26032427c85aeaf073eee846afc1648784b6febe6847d0cb8d68d193787f", func := "loop.example/g00498/laws.FnExactFirstViolation", spec := "fnExactFirstViolation", unfollowed := true, recurses := true, apart := false, narrowed := true }
def FnExactFirstViolationUptoSaid : Prop := fnExactFirstViolationUptoRow.holds Try.pinned (OpenSpec.upto fnExactFirstViolationSpec)

end Rows
end Go.Proofs.Ytcoghgpgfaifaaa
