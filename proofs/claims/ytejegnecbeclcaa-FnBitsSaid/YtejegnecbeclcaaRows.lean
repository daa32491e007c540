/-
  No cell of these rows narrows 'for every input' (looked for: loops, veiled, ifaces, maps, wideKeys, modest, calm, conditions, laid).
  DERIVED. THE GIVEN ROWS OF THIS SEAT. 12 by the template 'for every input the law returns true; each argument reads behind the call as it read before'; 0 by the template 'total and deterministic' (their statements: YtejegnecbeclcaaTotals.lean).
  GIVEN WITH THE SEED: the statements are not yours to turn. If you find one false, say at which input.
  Laid BY PROGRAM, IN A SANDBOX (cutbox-rows.mjs): the forced cells as the released guide's own fill.sh prints them over the translation 90bf5e54f1da9a7b… (all of the seat's roots in one cut). By AI agents, Wed Nov 11 2026. No macro, syntax, notation, axiom, sorry.
-/
import Derived.Test.YtejegnecbeclcaaChecked
import GoSem.Claim
import GoSem.ClaimJoined
import GoSem.ClaimMapViews
import Derived.JoinedTies
import Derived.KernelRfl
namespace Go.Proofs.Ytejegnecbeclcaa
/- THE CELL 'sum', in the pinned program and in every row, IS THE sha256 OF THE DUMP (.gsa) THAT YtejegnecbeclcaaProg.lean LOADS. Nothing in Lean hashes anything: it is a label: what it is worth is what the hold of that sum in a sandbox is worth. -/
noncomputable def Try.pinned : Pinned := { name := "ytejegnecbeclcaa", sum := "90bf5e54f1da9a7b58aeabf3aa1087bc7ff84129b04f41b3933782ba0d3c4e82", checked := Try.checked }
namespace Rows
def none {H : Type} : Left H := { results := [], args := [] }

/-- 'laws.FnExactConstants': WHATEVER THE INPUT: true; the input reads as it did. -/
def fnExactConstantsSpec : ChangeSpec := { name := "fnExactConstants", fn := fun _ => fun
  | [] => { results := [.lit (.bool true)], args := [] }
  | _ => none }
def fnExactConstantsRow : OpenClaim := { program := "ytejegnecbeclcaa", sum := "90bf5e54f1da9a7b58aeabf3aa1087bc7ff84129b04f41b3933782ba0d3c4e82", func := "loop.example/g00977/laws.FnExactConstants", spec := "fnExactConstants", apart := false }
def FnExactConstantsSaid : Prop := fnExactConstantsRow.holds Try.pinned (OpenSpec.ofChange fnExactConstantsSpec)

/-- ITS FALSE NEIGHBOUR: 'it returns false'. Refute it at one input. -/
def fnExactConstantsWrong : ChangeSpec := { name := "fnExactConstants", fn := fun _ => fun
  | [] => { results := [.lit (.bool false)], args := [] }
  | _ => none }
def FnExactConstantsWrongFalsely : Prop := fnExactConstantsRow.holds Try.pinned (OpenSpec.ofChange fnExactConstantsWrong)

/-- 'laws.FnExactIsWord': WHATEVER THE INPUT: true; the input reads as it did. -/
def fnExactIsWordSpec : ChangeSpec := { name := "fnExactIsWord", fn := fun _ => fun
  | [d] => { results := [.lit (.bool true)], args := [d] }
  | _ => none }
def fnExactIsWordRow : OpenClaim := { program := "ytejegnecbeclcaa", sum := "90bf5e54f1da9a7b58aeabf3aa1087bc7ff84129b04f41b3933782ba0d3c4e82", func := "loop.example/g00977/laws.FnExactIsWord", spec := "fnExactIsWord", apart := false }
def FnExactIsWordSaid : Prop := fnExactIsWordRow.holds Try.pinned (OpenSpec.ofChange fnExactIsWordSpec)

/-- ITS FALSE NEIGHBOUR: 'it returns false'. Refute it at one input. -/
def fnExactIsWordWrong : ChangeSpec := { name := "fnExactIsWord", fn := fun _ => fun
  | [d] => { results := [.lit (.bool false)], args := [d] }
  | _ => none }
def FnExactIsWordWrongFalsely : Prop := fnExactIsWordRow.holds Try.pinned (OpenSpec.ofChange fnExactIsWordWrong)

/-- 'laws.FnExactMappingOk': WHATEVER THE INPUT: true; the input reads as it did. -/
def fnExactMappingOkSpec : ChangeSpec := { name := "fnExactMappingOk", fn := fun _ => fun
  | [d] => { results := [.lit (.bool true)], args := [d] }
  | _ => none }
def fnExactMappingOkRow : OpenClaim := { program := "ytejegnecbeclcaa", sum := "90bf5e54f1da9a7b58aeabf3aa1087bc7ff84129b04f41b3933782ba0d3c4e82", func := "loop.example/g00977/laws.FnExactMappingOk", spec := "fnExactMappingOk", apart := false }
def FnExactMappingOkSaid : Prop := fnExactMappingOkRow.holds Try.pinned (OpenSpec.ofChange fnExactMappingOkSpec)

/-- ITS FALSE NEIGHBOUR: 'it returns false'. Refute it at one input. -/
def fnExactMappingOkWrong : ChangeSpec := { name := "fnExactMappingOk", fn := fun _ => fun
  | [d] => { results := [.lit (.bool false)], args := [d] }
  | _ => none }
def FnExactMappingOkWrongFalsely : Prop := fnExactMappingOkRow.holds Try.pinned (OpenSpec.ofChange fnExactMappingOkWrong)

/-- 'laws.FnExactClamp': WHATEVER THE INPUT: true; the input reads as it did. -/
def fnExactClampSpec : ChangeSpec := { name := "fnExactClamp", fn := fun _ => fun
  | [d1, d2, d3] => { results := [.lit (.bool true)], args := [d1, d2, d3] }
  | _ => none }
def fnExactClampRow : OpenClaim := { program := "ytejegnecbeclcaa", sum := "90bf5e54f1da9a7b58aeabf3aa1087bc7ff84129b04f41b3933782ba0d3c4e82", func := "loop.example/g00977/laws.FnExactClamp", spec := "fnExactClamp", apart := false }
def FnExactClampSaid : Prop := fnExactClampRow.holds Try.pinned (OpenSpec.ofChange fnExactClampSpec)

/-- ITS FALSE NEIGHBOUR: 'it returns false'. Refute it at one input. -/
def fnExactClampWrong : ChangeSpec := { name := "fnExactClamp", fn := fun _ => fun
  | [d1, d2, d3] => { results := [.lit (.bool false)], args := [d1, d2, d3] }
  | _ => none }
def FnExactClampWrongFalsely : Prop := fnExactClampRow.holds Try.pinned (OpenSpec.ofChange fnExactClampWrong)

/-- 'laws.FnExactGeometryOk': WHATEVER THE INPUT: true; the input reads as it did. -/
def fnExactGeometryOkSpec : ChangeSpec := { name := "fnExactGeometryOk", fn := fun _ => fun
  | [d] => { results := [.lit (.bool true)], args := [d] }
  | _ => none }
def fnExactGeometryOkRow : OpenClaim := { program := "ytejegnecbeclcaa", sum := "90bf5e54f1da9a7b58aeabf3aa1087bc7ff84129b04f41b3933782ba0d3c4e82", func := "loop.example/g00977/laws.FnExactGeometryOk", spec := "fnExactGeometryOk", apart := false }
def FnExactGeometryOkSaid : Prop := fnExactGeometryOkRow.holds Try.pinned (OpenSpec.ofChange fnExactGeometryOkSpec)

/-- ITS FALSE NEIGHBOUR: 'it returns false'. Refute it at one input. -/
def fnExactGeometryOkWrong : ChangeSpec := { name := "fnExactGeometryOk", fn := fun _ => fun
  | [d] => { results := [.lit (.bool false)], args := [d] }
  | _ => none }
def FnExactGeometryOkWrongFalsely : Prop := fnExactGeometryOkRow.holds Try.pinned (OpenSpec.ofChange fnExactGeometryOkWrong)

/-- 'laws.FnExactBitOf': WHATEVER THE INPUT: true; the input reads as it did. -/
def fnExactBitOfSpec : ChangeSpec := { name := "fnExactBitOf", fn := fun _ => fun
  | [d1, d2] => { results := [.lit (.bool true)], args := [d1, d2] }
  | _ => none }
def fnExactBitOfRow : OpenClaim := { program := "ytejegnecbeclcaa", sum := "90bf5e54f1da9a7b58aeabf3aa1087bc7ff84129b04f41b3933782ba0d3c4e82", func := "loop.example/g00977/laws.FnExactBitOf", spec := "fnExactBitOf", apart := false }
def FnExactBitOfSaid : Prop := fnExactBitOfRow.holds Try.pinned (OpenSpec.ofChange fnExactBitOfSpec)

/-- ITS FALSE NEIGHBOUR: 'it returns false'. Refute it at one input. -/
def fnExactBitOfWrong : ChangeSpec := { name := "fnExactBitOf", fn := fun _ => fun
  | [d1, d2] => { results := [.lit (.bool false)], args := [d1, d2] }
  | _ => none }
def FnExactBitOfWrongFalsely : Prop := fnExactBitOfRow.holds Try.pinned (OpenSpec.ofChange fnExactBitOfWrong)

/-- 'laws.FnExactWithBit': WHATEVER THE INPUT: true; the input reads as it did. -/
def fnExactWithBitSpec : ChangeSpec := { name := "fnExactWithBit", fn := fun _ => fun
  | [d1, d2, d3] => { results := [.lit (.bool true)], args := [d1, d2, d3] }
  | _ => none }
def fnExactWithBitRow : OpenClaim := { program := "ytejegnecbeclcaa", sum := "90bf5e54f1da9a7b58aeabf3aa1087bc7ff84129b04f41b3933782ba0d3c4e82", func := "loop.example/g00977/laws.FnExactWithBit", spec := "fnExactWithBit", apart := false }
def FnExactWithBitSaid : Prop := fnExactWithBitRow.holds Try.pinned (OpenSpec.ofChange fnExactWithBitSpec)

/-- ITS FALSE NEIGHBOUR: 'it returns false'. Refute it at one input. -/
def fnExactWithBitWrong : ChangeSpec := { name := "fnExactWithBit", fn := fun _ => fun
  | [d1, d2, d3] => { results := [.lit (.bool false)], args := [d1, d2, d3] }
  | _ => none }
def FnExactWithBitWrongFalsely : Prop := fnExactWithBitRow.holds Try.pinned (OpenSpec.ofChange fnExactWithBitWrong)

/-- 'laws.FnExactMix': WHATEVER THE INPUT: true; the input reads as it did. -/
def fnExactMixSpec : ChangeSpec := { name := "fnExactMix", fn := fun _ => fun
  | [d] => { results := [.lit (.bool true)], args := [d] }
  | _ => none }
def fnExactMixRow : OpenClaim := { program := "ytejegnecbeclcaa", sum := "90bf5e54f1da9a7b58aeabf3aa1087bc7ff84129b04f41b3933782ba0d3c4e82", func := "loop.example/g00977/laws.FnExactMix", spec := "fnExactMix", apart := false }
def FnExactMixSaid : Prop := fnExactMixRow.holds Try.pinned (OpenSpec.ofChange fnExactMixSpec)

/-- ITS FALSE NEIGHBOUR: 'it returns false'. Refute it at one input. -/
def fnExactMixWrong : ChangeSpec := { name := "fnExactMix", fn := fun _ => fun
  | [d] => { results := [.lit (.bool false)], args := [d] }
  | _ => none }
def FnExactMixWrongFalsely : Prop := fnExactMixRow.holds Try.pinned (OpenSpec.ofChange fnExactMixWrong)

/-- 'laws.FnExactCountBits': WHATEVER THE INPUT: true; the input reads as it did. -/
def fnExactCountBitsSpec : ChangeSpec := { name := "fnExactCountBits", fn := fun _ => fun
  | [d] => { results := [.lit (.bool true)], args := [d] }
  | _ => none }
def fnExactCountBitsRow : OpenClaim := { program := "ytejegnecbeclcaa", sum := "90bf5e54f1da9a7b58aeabf3aa1087bc7ff84129b04f41b3933782ba0d3c4e82", func := "loop.example/g00977/laws.FnExactCountBits", spec := "fnExactCountBits", apart := false }
def FnExactCountBitsSaid : Prop := fnExactCountBitsRow.holds Try.pinned (OpenSpec.ofChange fnExactCountBitsSpec)

/-- ITS FALSE NEIGHBOUR: 'it returns false'. Refute it at one input. -/
def fnExactCountBitsWrong : ChangeSpec := { name := "fnExactCountBits", fn := fun _ => fun
  | [d] => { results := [.lit (.bool false)], args := [d] }
  | _ => none }
def FnExactCountBitsWrongFalsely : Prop := fnExactCountBitsRow.holds Try.pinned (OpenSpec.ofChange fnExactCountBitsWrong)

/-- 'laws.FnExactParityOf': WHATEVER THE INPUT: true; the input reads as it did. -/
def fnExactParityOfSpec : ChangeSpec := { name := "fnExactParityOf", fn := fun _ => fun
  | [d] => { results := [.lit (.bool true)], args := [d] }
  | _ => none }
def fnExactParityOfRow : OpenClaim := { program := "ytejegnecbeclcaa", sum := "90bf5e54f1da9a7b58aeabf3aa1087bc7ff84129b04f41b3933782ba0d3c4e82", func := "loop.example/g00977/laws.FnExactParityOf", spec := "fnExactParityOf", apart := false }
def FnExactParityOfSaid : Prop := fnExactParityOfRow.holds Try.pinned (OpenSpec.ofChange fnExactParityOfSpec)

/-- ITS FALSE NEIGHBOUR: 'it returns false'. Refute it at one input. -/
def fnExactParityOfWrong : ChangeSpec := { name := "fnExactParityOf", fn := fun _ => fun
  | [d] => { results := [.lit (.bool false)], args := [d] }
  | _ => none }
def FnExactParityOfWrongFalsely : Prop := fnExactParityOfRow.holds Try.pinned (OpenSpec.ofChange fnExactParityOfWrong)

/-- 'laws.FnMixed': WHATEVER THE INPUT: true; the input reads as it did. -/
def fnMixedSpec : ChangeSpec := { name := "fnMixed", fn := fun _ => fun
  | [d] => { results := [.lit (.bool true)], args := [d] }
  | _ => none }
def fnMixedRow : OpenClaim := { program := "ytejegnecbeclcaa", sum := "90bf5e54f1da9a7b58aeabf3aa1087bc7ff84129b04f41b3933782ba0d3c4e82", func := "loop.example/g00977/laws.FnMixed", spec := "fnMixed", apart := false }
def FnMixedSaid : Prop := fnMixedRow.holds Try.pinned (OpenSpec.ofChange fnMixedSpec)

/-- ITS FALSE NEIGHBOUR: 'it returns false'. Refute it at one input. -/
def fnMixedWrong : ChangeSpec := { name := "fnMixed", fn := fun _ => fun
  | [d] => { results := [.lit (.bool false)], args := [d] }
  | _ => none }
def FnMixedWrongFalsely : Prop := fnMixedRow.holds Try.pinned (OpenSpec.ofChange fnMixedWrong)

/-- 'laws.FnBits': WHATEVER THE INPUT: true; the input reads as it did. -/
def fnBitsSpec : ChangeSpec := { name := "fnBits", fn := fun _ => fun
  | [d] => { results := [.lit (.bool true)], args := [d] }
  | _ => none }
def fnBitsRow : OpenClaim := { program := "ytejegnecbeclcaa", sum := "90bf5e54f1da9a7b58aeabf3aa1087bc7ff84129b04f41b3933782ba0d3c4e82", func := "loop.example/g00977/laws.FnBits", spec := "fnBits", apart := false }
def FnBitsSaid : Prop := fnBitsRow.holds Try.pinned (OpenSpec.ofChange fnBitsSpec)

/-- ITS FALSE NEIGHBOUR: 'it returns false'. Refute it at one input. -/
def fnBitsWrong : ChangeSpec := { name := "fnBits", fn := fun _ => fun
  | [d] => { results := [.lit (.bool false)], args := [d] }
  | _ => none }
def FnBitsWrongFalsely : Prop := fnBitsRow.holds Try.pinned (OpenSpec.ofChange fnBitsWrong)

/- THE SECOND FORM. 'bulk': how many values and letters a reading holds, each counted each time it is reached (what is shared counts as often as it is met; a slice's spare places count too). A statement '..UptoSaid' is the law's where the arguments, and the package variables that the reading takes, are together of bulk at most 1048576: NARROWER than '..Said'. Prove '..Said' where nothing that the law and all that it calls make is longer than what came in: it says more and counts as full. Else prove '..UptoSaid'. A law counts once. -/
mutual
def uptoBulk {H : Type} : DataW H → Nat
  | .lit (.string bytes) => bytes.length + 1
  | .lit _ => 1
  | .nil => 1
  | .ptr d => uptoBulk d + 1
  | .slice elems spare => uptoBulkAll elems + uptoBulkAll spare + 1
  | .agg parts => uptoBulkAll parts + 1
  | .iface _ d => uptoBulk d + 1
  | .map entries => uptoBulkEntries entries + 1
  | .held _ => 1
def uptoBulkAll {H : Type} : List (DataW H) → Nat
  | [] => 0
  | d :: r => uptoBulk d + uptoBulkAll r
def uptoBulkEntries {H : Type} : List (Lit × DataW H) → Nat
  | [] => 0
  | x :: r => uptoBulkEntry x + uptoBulkEntries r
def uptoBulkEntry {H : Type} : Lit × DataW H → Nat
  | (.string bytes, d) => bytes.length + uptoBulk d + 1
  | (_, d) => uptoBulk d + 1
 end
def uptoSmall : (H : Type) → List (DataW H) → Bool := fun _ ds => decide (uptoBulkAll ds ≤ 1048576)
def OpenSpec.upto (s : _root_.Go.ChangeSpec) : _root_.Go.OpenSpec := { _root_.Go.OpenSpec.ofChange s with cond := some uptoSmall }

/-- 'laws.FnExactConstants', WHERE WHAT IT READS IS OF BULK AT MOST 1048576: true; the input reads as it did. -/
def fnExactConstantsUptoRow : OpenClaim := { program := "ytejegnecbeclcaa", sum := "90bf5e54f1da9a7b58aeabf3aa1087bc7ff84129b04f41b3933782ba0d3c4e82", func := "loop.example/g00977/laws.FnExactConstants", spec := "fnExactConstants", apart := false, narrowed := true }
def FnExactConstantsUptoSaid : Prop := fnExactConstantsUptoRow.holds Try.pinned (OpenSpec.upto fnExactConstantsSpec)

/-- 'laws.FnExactIsWord', WHERE WHAT IT READS IS OF BULK AT MOST 1048576: true; the input reads as it did. -/
def fnExactIsWordUptoRow : OpenClaim := { program := "ytejegnecbeclcaa", sum := "90bf5e54f1da9a7b58aeabf3aa1087bc7ff84129b04f41b3933782ba0d3c4e82", func := "loop.example/g00977/laws.FnExactIsWord", spec := "fnExactIsWord", apart := false, narrowed := true }
def FnExactIsWordUptoSaid : Prop := fnExactIsWordUptoRow.holds Try.pinned (OpenSpec.upto fnExactIsWordSpec)

/-- 'laws.FnExactMappingOk', WHERE WHAT IT READS IS OF BULK AT MOST 1048576: true; the input reads as it did. -/
def fnExactMappingOkUptoRow : OpenClaim := { program := "ytejegnecbeclcaa", sum := "90bf5e54f1da9a7b58aeabf3aa1087bc7ff84129b04f41b3933782ba0d3c4e82", func := "loop.example/g00977/laws.FnExactMappingOk", spec := "fnExactMappingOk", apart := false, narrowed := true }
def FnExactMappingOkUptoSaid : Prop := fnExactMappingOkUptoRow.holds Try.pinned (OpenSpec.upto fnExactMappingOkSpec)

/-- 'laws.FnExactClamp', WHERE WHAT IT READS IS OF BULK AT MOST 1048576: true; the input reads as it did. -/
def fnExactClampUptoRow : OpenClaim := { program := "ytejegnecbeclcaa", sum := "90bf5e54f1da9a7b58aeabf3aa1087bc7ff84129b04f41b3933782ba0d3c4e82", func := "loop.example/g00977/laws.FnExactClamp", spec := "fnExactClamp", apart := false, narrowed := true }
def FnExactClampUptoSaid : Prop := fnExactClampUptoRow.holds Try.pinned (OpenSpec.upto fnExactClampSpec)

/-- 'laws.FnExactGeometryOk', WHERE WHAT IT READS IS OF BULK AT MOST 1048576: true; the input reads as it did. -/
def fnExactGeometryOkUptoRow : OpenClaim := { program := "ytejegnecbeclcaa", sum := "90bf5e54f1da9a7b58aeabf3aa1087bc7ff84129b04f41b3933782ba0d3c4e82", func := "loop.example/g00977/laws.FnExactGeometryOk", spec := "fnExactGeometryOk", apart := false, narrowed := true }
def FnExactGeometryOkUptoSaid : Prop := fnExactGeometryOkUptoRow.holds Try.pinned (OpenSpec.upto fnExactGeometryOkSpec)

/-- 'laws.FnExactBitOf', WHERE WHAT IT READS IS OF BULK AT MOST 1048576: true; the input reads as it did. -/
def fnExactBitOfUptoRow : OpenClaim := { program := "ytejegnecbeclcaa", sum := "90bf5e54f1da9a7b58aeabf3aa1087bc7ff84129b04f41b3933782ba0d3c4e82", func := "loop.example/g00977/laws.FnExactBitOf", spec := "fnExactBitOf", apart := false, narrowed := true }
def FnExactBitOfUptoSaid : Prop := fnExactBitOfUptoRow.holds Try.pinned (OpenSpec.upto fnExactBitOfSpec)

/-- 'laws.FnExactWithBit', WHERE WHAT IT READS IS OF BULK AT MOST 1048576: true; the input reads as it did. -/
def fnExactWithBitUptoRow : OpenClaim := { program := "ytejegnecbeclcaa", sum := "90bf5e54f1da9a7b58aeabf3aa1087bc7ff84129b04f41b3933782ba0d3c4e82", func := "loop.example/g00977/laws.FnExactWithBit", spec := "fnExactWithBit", apart := false, narrowed := true }
def FnExactWithBitUptoSaid : Prop := fnExactWithBitUptoRow.holds Try.pinned (OpenSpec.upto fnExactWithBitSpec)

/-- 'laws.FnExactMix', WHERE WHAT IT READS IS OF BULK AT MOST 1048576: true; the input reads as it did. -/
def fnExactMixUptoRow : OpenClaim := { program := "ytejegnecbeclcaa", sum := "90bf5e54f1da9a7b58aeabf3aa1087bc7ff84129b04f41b3933782ba0d3c4e82", func := "loop.example/g00977/laws.FnExactMix", spec := "fnExactMix", apart := false, narrowed := true }
def FnExactMixUptoSaid : Prop := fnExactMixUptoRow.holds Try.pinned (OpenSpec.upto fnExactMixSpec)

/-- 'laws.FnExactCountBits', WHERE WHAT IT READS IS OF BULK AT MOST 1048576: true; the input reads as it did. -/
def fnExactCountBitsUptoRow : OpenClaim := { program := "ytejegnecbeclcaa", sum := "90bf5e54f1da9a7b58aeabf3aa1087bc7ff84129b04f41b3933782ba0d3c4e82", func := "loop.example/g00977/laws.FnExactCountBits", spec := "fnExactCountBits", apart := false, narrowed := true }
def FnExactCountBitsUptoSaid : Prop := fnExactCountBitsUptoRow.holds Try.pinned (OpenSpec.upto fnExactCountBitsSpec)

/-- 'laws.FnExactParityOf', WHERE WHAT IT READS IS OF BULK AT MOST 1048576: true; the input reads as it did. -/
def fnExactParityOfUptoRow : OpenClaim := { program := "ytejegnecbeclcaa", sum := "90bf5e54f1da9a7b58aeabf3aa1087bc7ff84129b04f41b3933782ba0d3c4e82", func := "loop.example/g00977/laws.FnExactParityOf", spec := "fnExactParityOf", apart := false, narrowed := true }
def FnExactParityOfUptoSaid : Prop := fnExactParityOfUptoRow.holds Try.pinned (OpenSpec.upto fnExactParityOfSpec)

/-- 'laws.FnMixed', WHERE WHAT IT READS IS OF BULK AT MOST 1048576: true; the input reads as it did. -/
def fnMixedUptoRow : OpenClaim := { program := "ytejegnecbeclcaa", sum := "90bf5e54f1da9a7b58aeabf3aa1087bc7ff84129b04f41b3933782ba0d3c4e82", func := "loop.example/g00977/laws.FnMixed", spec := "fnMixed", apart := false, narrowed := true }
def FnMixedUptoSaid : Prop := fnMixedUptoRow.holds Try.pinned (OpenSpec.upto fnMixedSpec)

/-- 'laws.FnBits', WHERE WHAT IT READS IS OF BULK AT MOST 1048576: true; the input reads as it did. -/
def fnBitsUptoRow : OpenClaim := { program := "ytejegnecbeclcaa", sum := "90bf5e54f1da9a7b58aeabf3aa1087bc7ff84129b04f41b3933782ba0d3c4e82", func := "loop.example/g00977/laws.FnBits", spec := "fnBits", apart := false, narrowed := true }
def FnBitsUptoSaid : Prop := fnBitsUptoRow.holds Try.pinned (OpenSpec.upto fnBitsSpec)

end Rows
end Go.Proofs.Ytejegnecbeclcaa
