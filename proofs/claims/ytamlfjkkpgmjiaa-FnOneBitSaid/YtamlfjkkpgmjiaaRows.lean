/-
  No cell of these rows narrows 'for every input' (looked for: loops, veiled, ifaces, maps, wideKeys, modest, calm, conditions, laid).
  DERIVED. THE GIVEN ROWS OF THIS SEAT. 5 by the template 'for every input the law returns true; each argument reads behind the call as it read before'; 0 by the template 'total and deterministic' (their statements: YtamlfjkkpgmjiaaTotals.lean).
  GIVEN WITH THE SEED: the statements are not yours to turn. If you find one false, say at which input.
  Laid BY PROGRAM, IN A SANDBOX (cutbox-rows.mjs): the forced cells as the released guide's own fill.sh prints them over the translation 3c650e912a5d9874… (all of the seat's roots in one cut). By AI agents, Wed Nov 11 2026. No macro, syntax, notation, axiom, sorry.
-/
import Derived.Test.YtamlfjkkpgmjiaaChecked
import GoSem.Claim
import GoSem.ClaimJoined
import GoSem.ClaimMapViews
import Derived.JoinedTies
import Derived.KernelRfl
namespace Go.Proofs.Ytamlfjkkpgmjiaa
/- THE CELL 'sum', in the pinned program and in every row, IS THE sha256 OF THE DUMP (.gsa) THAT YtamlfjkkpgmjiaaProg.lean LOADS. Nothing in Lean hashes anything: it is a label: what it is worth is what the hold of that sum in a sandbox is worth. -/
noncomputable def Try.pinned : Pinned := { name := "ytamlfjkkpgmjiaa", sum := "3c650e912a5d9874909037bce47b9d589084eceeb89a7c8fa6d785f29b94613b", checked := Try.checked }
namespace Rows
def none {H : Type} : Left H := { results := [], args := [] }

/-- 'laws.FnExactPackCommand': WHATEVER THE INPUT: true; the input reads as it did. -/
def fnExactPackCommandSpec : ChangeSpec := { name := "fnExactPackCommand", fn := fun _ => fun
  | [d] => { results := [.lit (.bool true)], args := [d] }
  | _ => none }
def fnExactPackCommandRow : OpenClaim := { program := "ytamlfjkkpgmjiaa", sum := "3c650e912a5d9874909037bce47b9d589084eceeb89a7c8fa6d785f29b94613b", func := "loop.example/g00977/laws.FnExactPackCommand", spec := "fnExactPackCommand", apart := false }
def FnExactPackCommandSaid : Prop := fnExactPackCommandRow.holds Try.pinned (OpenSpec.ofChange fnExactPackCommandSpec)

/-- ITS FALSE NEIGHBOUR: 'it returns false'. Refute it at one input. -/
def fnExactPackCommandWrong : ChangeSpec := { name := "fnExactPackCommand", fn := fun _ => fun
  | [d] => { results := [.lit (.bool false)], args := [d] }
  | _ => none }
def FnExactPackCommandWrongFalsely : Prop := fnExactPackCommandRow.holds Try.pinned (OpenSpec.ofChange fnExactPackCommandWrong)

/-- 'laws.FnExactCommandOk': WHATEVER THE INPUT: true; the input reads as it did. -/
def fnExactCommandOkSpec : ChangeSpec := { name := "fnExactCommandOk", fn := fun _ => fun
  | [d1, d2] => { results := [.lit (.bool true)], args := [d1, d2] }
  | _ => none }
def fnExactCommandOkRow : OpenClaim := { program := "ytamlfjkkpgmjiaa", sum := "3c650e912a5d9874909037bce47b9d589084eceeb89a7c8fa6d785f29b94613b", func := "loop.example/g00977/laws.FnExactCommandOk", spec := "fnExactCommandOk", apart := false }
def FnExactCommandOkSaid : Prop := fnExactCommandOkRow.holds Try.pinned (OpenSpec.ofChange fnExactCommandOkSpec)

/-- ITS FALSE NEIGHBOUR: 'it returns false'. Refute it at one input. -/
def fnExactCommandOkWrong : ChangeSpec := { name := "fnExactCommandOk", fn := fun _ => fun
  | [d1, d2] => { results := [.lit (.bool false)], args := [d1, d2] }
  | _ => none }
def FnExactCommandOkWrongFalsely : Prop := fnExactCommandOkRow.holds Try.pinned (OpenSpec.ofChange fnExactCommandOkWrong)

/-- 'laws.FnExactFrameCommand': WHATEVER THE INPUT: true; the input reads as it did. -/
def fnExactFrameCommandSpec : ChangeSpec := { name := "fnExactFrameCommand", fn := fun _ => fun
  | [d] => { results := [.lit (.bool true)], args := [d] }
  | _ => none }
def fnExactFrameCommandRow : OpenClaim := { program := "ytamlfjkkpgmjiaa", sum := "3c650e912a5d9874909037bce47b9d589084eceeb89a7c8fa6d785f29b94613b", func := "loop.example/g00977/laws.FnExactFrameCommand", spec := "fnExactFrameCommand", apart := false }
def FnExactFrameCommandSaid : Prop := fnExactFrameCommandRow.holds Try.pinned (OpenSpec.ofChange fnExactFrameCommandSpec)

/-- ITS FALSE NEIGHBOUR: 'it returns false'. Refute it at one input. -/
def fnExactFrameCommandWrong : ChangeSpec := { name := "fnExactFrameCommand", fn := fun _ => fun
  | [d] => { results := [.lit (.bool false)], args := [d] }
  | _ => none }
def FnExactFrameCommandWrongFalsely : Prop := fnExactFrameCommandRow.holds Try.pinned (OpenSpec.ofChange fnExactFrameCommandWrong)

/-- 'laws.FnExactReadFrame': WHATEVER THE INPUT: true; the input reads as it did. -/
def fnExactReadFrameSpec : ChangeSpec := { name := "fnExactReadFrame", fn := fun _ => fun
  | [d] => { results := [.lit (.bool true)], args := [d] }
  | _ => none }
def fnExactReadFrameRow : OpenClaim := { program := "ytamlfjkkpgmjiaa", sum := "3c650e912a5d9874909037bce47b9d589084eceeb89a7c8fa6d785f29b94613b", func := "loop.example/g00977/laws.FnExactReadFrame", spec := "fnExactReadFrame", apart := false }
def FnExactReadFrameSaid : Prop := fnExactReadFrameRow.holds Try.pinned (OpenSpec.ofChange fnExactReadFrameSpec)

/-- ITS FALSE NEIGHBOUR: 'it returns false'. Refute it at one input. -/
def fnExactReadFrameWrong : ChangeSpec := { name := "fnExactReadFrame", fn := fun _ => fun
  | [d] => { results := [.lit (.bool false)], args := [d] }
  | _ => none }
def FnExactReadFrameWrongFalsely : Prop := fnExactReadFrameRow.holds Try.pinned (OpenSpec.ofChange fnExactReadFrameWrong)

/-- 'laws.FnOneBit': WHATEVER THE INPUT: true; the input reads as it did. -/
def fnOneBitSpec : ChangeSpec := { name := "fnOneBit", fn := fun _ => fun
  | [d] => { results := [.lit (.bool true)], args := [d] }
  | _ => none }
def fnOneBitRow : OpenClaim := { program := "ytamlfjkkpgmjiaa", sum := "3c650e912a5d9874909037bce47b9d589084eceeb89a7c8fa6d785f29b94613b", func := "loop.example/g00977/laws.FnOneBit", spec := "fnOneBit", apart := false }
def FnOneBitSaid : Prop := fnOneBitRow.holds Try.pinned (OpenSpec.ofChange fnOneBitSpec)

/-- ITS FALSE NEIGHBOUR: 'it returns false'. Refute it at one input. -/
def fnOneBitWrong : ChangeSpec := { name := "fnOneBit", fn := fun _ => fun
  | [d] => { results := [.lit (.bool false)], args := [d] }
  | _ => none }
def FnOneBitWrongFalsely : Prop := fnOneBitRow.holds Try.pinned (OpenSpec.ofChange fnOneBitWrong)

/- THE SECOND FORM. 'bulk': how many values and letters a reading holds, each counted each time it is reached (what is shared counts as often as it is met; a slice's spare places count too). A statement '..UptoSaid' is the law's where the arguments, and the package variables that the reading takes, are together of bulk at most 1048576: NARROWER than '..Said'. Prove '..Said' where nothing that the law and all that it calls make is longer than what came in: it says more and counts as full. Else prove '..UptoSaid'. A law counts once. -/
mutual
def uptoBulk {H : Type} : DataW H → Nat
  | .lit (.string bytes) => bytes.length + 1
  | .lit _ => 1
  | .nil => 1
  | .ptr d => uptoBulk d + 1
  | .slice elems spare => uptoBulkAll elems + uptoBulkAll spare + 1
  | .agg parts => uptoBulkAll parts + 1
  | .iface _ d => uptoBulk d + 1
  | .map entries => uptoBulkEntries entries + 1
  | .held _ => 1
def uptoBulkAll {H : Type} : List (DataW H) → Nat
  | [] => 0
  | d :: r => uptoBulk d + uptoBulkAll r
def uptoBulkEntries {H : Type} : List (Lit × DataW H) → Nat
  | [] => 0
  | x :: r => uptoBulkEntry x + uptoBulkEntries r
def uptoBulkEntry {H : Type} : Lit × DataW H → Nat
  | (.string bytes, d) => bytes.length + uptoBulk d + 1
  | (_, d) => uptoBulk d + 1
 end
def uptoSmall : (H : Type) → List (DataW H) → Bool := fun _ ds => decide (uptoBulkAll ds ≤ 1048576)
def OpenSpec.upto (s : _root_.Go.ChangeSpec) : _root_.Go.OpenSpec := { _root_.Go.OpenSpec.ofChange s with cond := some uptoSmall }

/-- 'laws.FnExactPackCommand', WHERE WHAT IT READS IS OF BULK AT MOST 1048576: true; the input reads as it did. -/
def fnExactPackCommandUptoRow : OpenClaim := { program := "ytamlfjkkpgmjiaa", sum := "3c650e912a5d9874909037bce47b9d589084eceeb89a7c8fa6d785f29b94613b", func := "loop.example/g00977/laws.FnExactPackCommand", spec := "fnExactPackCommand", apart := false, narrowed := true }
def FnExactPackCommandUptoSaid : Prop := fnExactPackCommandUptoRow.holds Try.pinned (OpenSpec.upto fnExactPackCommandSpec)

/-- 'laws.FnExactCommandOk', WHERE WHAT IT READS IS OF BULK AT MOST 1048576: true; the input reads as it did. -/
def fnExactCommandOkUptoRow : OpenClaim := { program := "ytamlfjkkpgmjiaa", sum := "3c650e912a5d9874909037bce47b9d589084eceeb89a7c8fa6d785f29b94613b", func := "loop.example/g00977/laws.FnExactCommandOk", spec := "fnExactCommandOk", apart := false, narrowed := true }
def FnExactCommandOkUptoSaid : Prop := fnExactCommandOkUptoRow.holds Try.pinned (OpenSpec.upto fnExactCommandOkSpec)

/-- 'laws.FnExactFrameCommand', WHERE WHAT IT READS IS OF BULK AT MOST 1048576: true; the input reads as it did. -/
def fnExactFrameCommandUptoRow : OpenClaim := { program := "ytamlfjkkpgmjiaa", sum := "3c650e912a5d9874909037bce47b9d589084eceeb89a7c8fa6d785f29b94613b", func := "loop.example/g00977/laws.FnExactFrameCommand", spec := "fnExactFrameCommand", apart := false, narrowed := true }
def FnExactFrameCommandUptoSaid : Prop := fnExactFrameCommandUptoRow.holds Try.pinned (OpenSpec.upto fnExactFrameCommandSpec)

/-- 'laws.FnExactReadFrame', WHERE WHAT IT READS IS OF BULK AT MOST 1048576: true; the input reads as it did. -/
def fnExactReadFrameUptoRow : OpenClaim := { program := "ytamlfjkkpgmjiaa", sum := "3c650e912a5d9874909037bce47b9d589084eceeb89a7c8fa6d785f29b94613b", func := "loop.example/g00977/laws.FnExactReadFrame", spec := "fnExactReadFrame", apart := false, narrowed := true }
def FnExactReadFrameUptoSaid : Prop := fnExactReadFrameUptoRow.holds Try.pinned (OpenSpec.upto fnExactReadFrameSpec)

/-- 'laws.FnOneBit', WHERE WHAT IT READS IS OF BULK AT MOST 1048576: true; the input reads as it did. -/
def fnOneBitUptoRow : OpenClaim := { program := "ytamlfjkkpgmjiaa", sum := "3c650e912a5d9874909037bce47b9d589084eceeb89a7c8fa6d785f29b94613b", func := "loop.example/g00977/laws.FnOneBit", spec := "fnOneBit", apart := false, narrowed := true }
def FnOneBitUptoSaid : Prop := fnOneBitUptoRow.holds Try.pinned (OpenSpec.upto fnOneBitSpec)

end Rows
end Go.Proofs.Ytamlfjkkpgmjiaa
