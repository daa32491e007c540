/-
  No cell of these rows narrows 'for every input' (looked for: loops, veiled, ifaces, maps, wideKeys, modest, calm, conditions, laid).
  DERIVED. THE GIVEN ROWS OF THIS SEAT. 12 by the template 'for every input the law returns true; each argument reads behind the call as it read before'; 0 by the template 'total and deterministic' (their statements: YtlchejnjeeilpaaTotals.lean).
  GIVEN WITH THE SEED: the statements are not yours to turn. If you find one false, say at which input.
  Laid BY PROGRAM, IN A SANDBOX (cutbox-rows.mjs): the forced cells as the released guide's own fill.sh prints them over the translation d764339f47daa2c8… (all of the seat's roots in one cut). By AI agents, Wed Nov 11 2026. No macro, syntax, notation, axiom, sorry.
-/
import Derived.Test.YtlchejnjeeilpaaChecked
import GoSem.Claim
import GoSem.ClaimJoined
import GoSem.ClaimMapViews
import Derived.JoinedTies
import Derived.KernelRfl
namespace Go.Proofs.Ytlchejnjeeilpaa
/- THE CELL 'sum', in the pinned program and in every row, IS THE sha256 OF THE DUMP (.gsa) THAT YtlchejnjeeilpaaProg.lean LOADS. Nothing in Lean hashes anything: it is a label: what it is worth is what the hold of that sum in a sandbox is worth. -/
noncomputable def Try.pinned : Pinned := { name := "ytlchejnjeeilpaa", sum := "d764339f47daa2c8f82c158b80d0a065bb59a5a57af251c229a42f43b8707aff", checked := Try.checked }
namespace Rows
def none {H : Type} : Left H := { results := [], args := [] }

/-- 'laws.FnExactTimingOk': WHATEVER THE INPUT: true; the input reads as it did. -/
def fnExactTimingOkSpec : ChangeSpec := { name := "fnExactTimingOk", fn := fun _ => fun
  | [d] => { results := [.lit (.bool true)], args := [d] }
  | _ => none }
def fnExactTimingOkRow : OpenClaim := { program := "ytlchejnjeeilpaa", sum := "d764339f47daa2c8f82c158b80d0a065bb59a5a57af251c229a42f43b8707aff", func := "loop.example/g00977/laws.FnExactTimingOk", spec := "fnExactTimingOk", apart := false }
def FnExactTimingOkSaid : Prop := fnExactTimingOkRow.holds Try.pinned (OpenSpec.ofChange fnExactTimingOkSpec)

/-- ITS FALSE NEIGHBOUR: 'it returns false'. Refute it at one input. -/
def fnExactTimingOkWrong : ChangeSpec := { name := "fnExactTimingOk", fn := fun _ => fun
  | [d] => { results := [.lit (.bool false)], args := [d] }
  | _ => none }
def FnExactTimingOkWrongFalsely : Prop := fnExactTimingOkRow.holds Try.pinned (OpenSpec.ofChange fnExactTimingOkWrong)

/-- 'laws.FnExactFastTiming': WHATEVER THE INPUT: true; the input reads as it did. -/
def fnExactFastTimingSpec : ChangeSpec := { name := "fnExactFastTiming", fn := fun _ => fun
  | [] => { results := [.lit (.bool true)], args := [] }
  | _ => none }
def fnExactFastTimingRow : OpenClaim := { program := "ytlchejnjeeilpaa", sum := "d764339f47daa2c8f82c158b80d0a065bb59a5a57af251c229a42f43b8707aff", func := "loop.example/g00977/laws.FnExactFastTiming", spec := "fnExactFastTiming", apart := false }
def FnExactFastTimingSaid : Prop := fnExactFastTimingRow.holds Try.pinned (OpenSpec.ofChange fnExactFastTimingSpec)

/-- ITS FALSE NEIGHBOUR: 'it returns false'. Refute it at one input. -/
def fnExactFastTimingWrong : ChangeSpec := { name := "fnExactFastTiming", fn := fun _ => fun
  | [] => { results := [.lit (.bool false)], args := [] }
  | _ => none }
def FnExactFastTimingWrongFalsely : Prop := fnExactFastTimingRow.holds Try.pinned (OpenSpec.ofChange fnExactFastTimingWrong)

/-- 'laws.FnExactBankGap': WHATEVER THE INPUT: true; the input reads as it did. -/
def fnExactBankGapSpec : ChangeSpec := { name := "fnExactBankGap", fn := fun _ => fun
  | [d1, d2, d3] => { results := [.lit (.bool true)], args := [d1, d2, d3] }
  | _ => none }
def fnExactBankGapRow : OpenClaim := { program := "ytlchejnjeeilpaa", sum := "d764339f47daa2c8f82c158b80d0a065bb59a5a57af251c229a42f43b8707aff", func := "loop.example/g00977/laws.FnExactBankGap", spec := "fnExactBankGap", apart := false }
def FnExactBankGapSaid : Prop := fnExactBankGapRow.holds Try.pinned (OpenSpec.ofChange fnExactBankGapSpec)

/-- ITS FALSE NEIGHBOUR: 'it returns false'. Refute it at one input. -/
def fnExactBankGapWrong : ChangeSpec := { name := "fnExactBankGap", fn := fun _ => fun
  | [d1, d2, d3] => { results := [.lit (.bool false)], args := [d1, d2, d3] }
  | _ => none }
def FnExactBankGapWrongFalsely : Prop := fnExactBankGapRow.holds Try.pinned (OpenSpec.ofChange fnExactBankGapWrong)

/-- 'laws.FnExactFawOk': WHATEVER THE INPUT: true; the input reads as it did. -/
def fnExactFawOkSpec : ChangeSpec := { name := "fnExactFawOk", fn := fun _ => fun
  | [d1, d2] => { results := [.lit (.bool true)], args := [d1, d2] }
  | _ => none }
def fnExactFawOkRow : OpenClaim := { program := "ytlchejnjeeilpaa", sum := "d764339f47daa2c8f82c158b80d0a065bb59a5a57af251c229a42f43b8707aff", func := "loop.example/g00977/laws.FnExactFawOk", spec := "fnExactFawOk", apart := false }
def FnExactFawOkSaid : Prop := fnExactFawOkRow.holds Try.pinned (OpenSpec.ofChange fnExactFawOkSpec)

/-- ITS FALSE NEIGHBOUR: 'it returns false'. Refute it at one input. -/
def fnExactFawOkWrong : ChangeSpec := { name := "fnExactFawOk", fn := fun _ => fun
  | [d1, d2] => { results := [.lit (.bool false)], args := [d1, d2] }
  | _ => none }
def FnExactFawOkWrongFalsely : Prop := fnExactFawOkRow.holds Try.pinned (OpenSpec.ofChange fnExactFawOkWrong)

/-- 'laws.FnFour': WHATEVER THE INPUT: true; the input reads as it did. -/
def fnFourSpec : ChangeSpec := { name := "fnFour", fn := fun _ => fun
  | [d] => { results := [.lit (.bool true)], args := [d] }
  | _ => none }
def fnFourRow : OpenClaim := { program := "ytlchejnjeeilpaa", sum := "d764339f47daa2c8f82c158b80d0a065bb59a5a57af251c229a42f43b8707aff", func := "loop.example/g00977/laws.FnFour", spec := "fnFour", apart := false }
def FnFourSaid : Prop := fnFourRow.holds Try.pinned (OpenSpec.ofChange fnFourSpec)

/-- ITS FALSE NEIGHBOUR: 'it returns false'. Refute it at one input. -/
def fnFourWrong : ChangeSpec := { name := "fnFour", fn := fun _ => fun
  | [d] => { results := [.lit (.bool false)], args := [d] }
  | _ => none }
def FnFourWrongFalsely : Prop := fnFourRow.holds Try.pinned (OpenSpec.ofChange fnFourWrong)

/-- 'laws.FnExactPartitionOk': WHATEVER THE INPUT: true; the input reads as it did. -/
def fnExactPartitionOkSpec : ChangeSpec := { name := "fnExactPartitionOk", fn := fun _ => fun
  | [d1, d2] => { results := [.lit (.bool true)], args := [d1, d2] }
  | _ => none }
def fnExactPartitionOkRow : OpenClaim := { program := "ytlchejnjeeilpaa", sum := "d764339f47daa2c8f82c158b80d0a065bb59a5a57af251c229a42f43b8707aff", func := "loop.example/g00977/laws.FnExactPartitionOk", spec := "fnExactPartitionOk", apart := false }
def FnExactPartitionOkSaid : Prop := fnExactPartitionOkRow.holds Try.pinned (OpenSpec.ofChange fnExactPartitionOkSpec)

/-- ITS FALSE NEIGHBOUR: 'it returns false'. Refute it at one input. -/
def fnExactPartitionOkWrong : ChangeSpec := { name := "fnExactPartitionOk", fn := fun _ => fun
  | [d1, d2] => { results := [.lit (.bool false)], args := [d1, d2] }
  | _ => none }
def FnExactPartitionOkWrongFalsely : Prop := fnExactPartitionOkRow.holds Try.pinned (OpenSpec.ofChange fnExactPartitionOkWrong)

/-- 'laws.FnExactBanksOf': WHATEVER THE INPUT: true; the input reads as it did. -/
def fnExactBanksOfSpec : ChangeSpec := { name := "fnExactBanksOf", fn := fun _ => fun
  | [d1, d2] => { results := [.lit (.bool true)], args := [d1, d2] }
  | _ => none }
def fnExactBanksOfRow : OpenClaim := { program := "ytlchejnjeeilpaa", sum := "d764339f47daa2c8f82c158b80d0a065bb59a5a57af251c229a42f43b8707aff", func := "loop.example/g00977/laws.FnExactBanksOf", spec := "fnExactBanksOf", apart := false }
def FnExactBanksOfSaid : Prop := fnExactBanksOfRow.holds Try.pinned (OpenSpec.ofChange fnExactBanksOfSpec)

/-- ITS FALSE NEIGHBOUR: 'it returns false'. Refute it at one input. -/
def fnExactBanksOfWrong : ChangeSpec := { name := "fnExactBanksOf", fn := fun _ => fun
  | [d1, d2] => { results := [.lit (.bool false)], args := [d1, d2] }
  | _ => none }
def FnExactBanksOfWrongFalsely : Prop := fnExactBanksOfRow.holds Try.pinned (OpenSpec.ofChange fnExactBanksOfWrong)

/-- 'laws.FnExactTenantLines': WHATEVER THE INPUT: true; the input reads as it did. -/
def fnExactTenantLinesSpec : ChangeSpec := { name := "fnExactTenantLines", fn := fun _ => fun
  | [d1, d2, d3] => { results := [.lit (.bool true)], args := [d1, d2, d3] }
  | _ => none }
def fnExactTenantLinesRow : OpenClaim := { program := "ytlchejnjeeilpaa", sum := "d764339f47daa2c8f82c158b80d0a065bb59a5a57af251c229a42f43b8707aff", func := "loop.example/g00977/laws.FnExactTenantLines", spec := "fnExactTenantLines", apart := false }
def FnExactTenantLinesSaid : Prop := fnExactTenantLinesRow.holds Try.pinned (OpenSpec.ofChange fnExactTenantLinesSpec)

/-- ITS FALSE NEIGHBOUR: 'it returns false'. Refute it at one input. -/
def fnExactTenantLinesWrong : ChangeSpec := { name := "fnExactTenantLines", fn := fun _ => fun
  | [d1, d2, d3] => { results := [.lit (.bool false)], args := [d1, d2, d3] }
  | _ => none }
def FnExactTenantLinesWrongFalsely : Prop := fnExactTenantLinesRow.holds Try.pinned (OpenSpec.ofChange fnExactTenantLinesWrong)

/-- 'laws.FnExactTenantAddr': WHATEVER THE INPUT: true; the input reads as it did. -/
def fnExactTenantAddrSpec : ChangeSpec := { name := "fnExactTenantAddr", fn := fun _ => fun
  | [d1, d2, d3, d4] => { results := [.lit (.bool true)], args := [d1, d2, d3, d4] }
  | _ => none }
def fnExactTenantAddrRow : OpenClaim := { program := "ytlchejnjeeilpaa", sum := "d764339f47daa2c8f82c158b80d0a065bb59a5a57af251c229a42f43b8707aff", func := "loop.example/g00977/laws.FnExactTenantAddr", spec := "fnExactTenantAddr", apart := false }
def FnExactTenantAddrSaid : Prop := fnExactTenantAddrRow.holds Try.pinned (OpenSpec.ofChange fnExactTenantAddrSpec)

/-- ITS FALSE NEIGHBOUR: 'it returns false'. Refute it at one input. -/
def fnExactTenantAddrWrong : ChangeSpec := { name := "fnExactTenantAddr", fn := fun _ => fun
  | [d1, d2, d3, d4] => { results := [.lit (.bool false)], args := [d1, d2, d3, d4] }
  | _ => none }
def FnExactTenantAddrWrongFalsely : Prop := fnExactTenantAddrRow.holds Try.pinned (OpenSpec.ofChange fnExactTenantAddrWrong)

/-- 'laws.FnExactTenantLine': WHATEVER THE INPUT: true; the input reads as it did. -/
def fnExactTenantLineSpec : ChangeSpec := { name := "fnExactTenantLine", fn := fun _ => fun
  | [d1, d2, d3] => { results := [.lit (.bool true)], args := [d1, d2, d3] }
  | _ => none }
def fnExactTenantLineRow : OpenClaim := { program := "ytlchejnjeeilpaa", sum := "d764339f47daa2c8f82c158b80d0a065bb59a5a57af251c229a42f43b8707aff", func := "loop.example/g00977/laws.FnExactTenantLine", spec := "fnExactTenantLine", apart := false }
def FnExactTenantLineSaid : Prop := fnExactTenantLineRow.holds Try.pinned (OpenSpec.ofChange fnExactTenantLineSpec)

/-- ITS FALSE NEIGHBOUR: 'it returns false'. Refute it at one input. -/
def fnExactTenantLineWrong : ChangeSpec := { name := "fnExactTenantLine", fn := fun _ => fun
  | [d1, d2, d3] => { results := [.lit (.bool false)], args := [d1, d2, d3] }
  | _ => none }
def FnExactTenantLineWrongFalsely : Prop := fnExactTenantLineRow.holds Try.pinned (OpenSpec.ofChange fnExactTenantLineWrong)

/-- 'laws.FnApart': WHATEVER THE INPUT: true; the input reads as it did. -/
def fnApartSpec : ChangeSpec := { name := "fnApart", fn := fun _ => fun
  | [d] => { results := [.lit (.bool true)], args := [d] }
  | _ => none }
def fnApartRow : OpenClaim := { program := "ytlchejnjeeilpaa", sum := "d764339f47daa2c8f82c158b80d0a065bb59a5a57af251c229a42f43b8707aff", func := "loop.example/g00977/laws.FnApart", spec := "fnApart", apart := false }
def FnApartSaid : Prop := fnApartRow.holds Try.pinned (OpenSpec.ofChange fnApartSpec)

/-- ITS FALSE NEIGHBOUR: 'it returns false'. Refute it at one input. -/
def fnApartWrong : ChangeSpec := { name := "fnApart", fn := fun _ => fun
  | [d] => { results := [.lit (.bool false)], args := [d] }
  | _ => none }
def FnApartWrongFalsely : Prop := fnApartRow.holds Try.pinned (OpenSpec.ofChange fnApartWrong)

/-- 'laws.FnTenantLines': WHATEVER THE INPUT: true; the input reads as it did. -/
def fnTenantLinesSpec : ChangeSpec := { name := "fnTenantLines", fn := fun _ => fun
  | [d] => { results := [.lit (.bool true)], args := [d] }
  | _ => none }
def fnTenantLinesRow : OpenClaim := { program := "ytlchejnjeeilpaa", sum := "d764339f47daa2c8f82c158b80d0a065bb59a5a57af251c229a42f43b8707aff", func := "loop.example/g00977/laws.FnTenantLines", spec := "fnTenantLines", apart := false }
def FnTenantLinesSaid : Prop := fnTenantLinesRow.holds Try.pinned (OpenSpec.ofChange fnTenantLinesSpec)

/-- ITS FALSE NEIGHBOUR: 'it returns false'. Refute it at one input. -/
def fnTenantLinesWrong : ChangeSpec := { name := "fnTenantLines", fn := fun _ => fun
  | [d] => { results := [.lit (.bool false)], args := [d] }
  | _ => none }
def FnTenantLinesWrongFalsely : Prop := fnTenantLinesRow.holds Try.pinned (OpenSpec.ofChange fnTenantLinesWrong)

/- THE SECOND FORM. 'bulk': how many values and letters a reading holds, each counted each time it is reached (what is shared counts as often as it is met; a slice's spare places count too). A statement '..UptoSaid' is the law's where the arguments, and the package variables that the reading takes, are together of bulk at most 1048576: NARROWER than '..Said'. Prove '..Said' where nothing that the law and all that it calls make is longer than what came in: it says more and counts as full. Else prove '..UptoSaid'. A law counts once. -/
mutual
def uptoBulk {H : Type} : DataW H → Nat
  | .lit (.string bytes) => bytes.length + 1
  | .lit _ => 1
  | .nil => 1
  | .ptr d => uptoBulk d + 1
  | .slice elems spare => uptoBulkAll elems + uptoBulkAll spare + 1
  | .agg parts => uptoBulkAll parts + 1
  | .iface _ d => uptoBulk d + 1
  | .map entries => uptoBulkEntries entries + 1
  | .held _ => 1
def uptoBulkAll {H : Type} : List (DataW H) → Nat
  | [] => 0
  | d :: r => uptoBulk d + uptoBulkAll r
def uptoBulkEntries {H : Type} : List (Lit × DataW H) → Nat
  | [] => 0
  | x :: r => uptoBulkEntry x + uptoBulkEntries r
def uptoBulkEntry {H : Type} : Lit × DataW H → Nat
  | (.string bytes, d) => bytes.length + uptoBulk d + 1
  | (_, d) => uptoBulk d + 1
 end
def uptoSmall : (H : Type) → List (DataW H) → Bool := fun _ ds => decide (uptoBulkAll ds ≤ 1048576)
def OpenSpec.upto (s : _root_.Go.ChangeSpec) : _root_.Go.OpenSpec := { _root_.Go.OpenSpec.ofChange s with cond := some uptoSmall }

/-- 'laws.FnExactTimingOk', WHERE WHAT IT READS IS OF BULK AT MOST 1048576: true; the input reads as it did. -/
def fnExactTimingOkUptoRow : OpenClaim := { program := "ytlchejnjeeilpaa", sum := "d764339f47daa2c8f82c158b80d0a065bb59a5a57af251c229a42f43b8707aff", func := "loop.example/g00977/laws.FnExactTimingOk", spec := "fnExactTimingOk", apart := false, narrowed := true }
def FnExactTimingOkUptoSaid : Prop := fnExactTimingOkUptoRow.holds Try.pinned (OpenSpec.upto fnExactTimingOkSpec)

/-- 'laws.FnExactFastTiming', WHERE WHAT IT READS IS OF BULK AT MOST 1048576: true; the input reads as it did. -/
def fnExactFastTimingUptoRow : OpenClaim := { program := "ytlchejnjeeilpaa", sum := "d764339f47daa2c8f82c158b80d0a065bb59a5a57af251c229a42f43b8707aff", func := "loop.example/g00977/laws.FnExactFastTiming", spec := "fnExactFastTiming", apart := false, narrowed := true }
def FnExactFastTimingUptoSaid : Prop := fnExactFastTimingUptoRow.holds Try.pinned (OpenSpec.upto fnExactFastTimingSpec)

/-- 'laws.FnExactBankGap', WHERE WHAT IT READS IS OF BULK AT MOST 1048576: true; the input reads as it did. -/
def fnExactBankGapUptoRow : OpenClaim := { program := "ytlchejnjeeilpaa", sum := "d764339f47daa2c8f82c158b80d0a065bb59a5a57af251c229a42f43b8707aff", func := "loop.example/g00977/laws.FnExactBankGap", spec := "fnExactBankGap", apart := false, narrowed := true }
def FnExactBankGapUptoSaid : Prop := fnExactBankGapUptoRow.holds Try.pinned (OpenSpec.upto fnExactBankGapSpec)

/-- 'laws.FnExactFawOk', WHERE WHAT IT READS IS OF BULK AT MOST 1048576: true; the input reads as it did. -/
def fnExactFawOkUptoRow : OpenClaim := { program := "ytlchejnjeeilpaa", sum := "d764339f47daa2c8f82c158b80d0a065bb59a5a57af251c229a42f43b8707aff", func := "loop.example/g00977/laws.FnExactFawOk", spec := "fnExactFawOk", apart := false, narrowed := true }
def FnExactFawOkUptoSaid : Prop := fnExactFawOkUptoRow.holds Try.pinned (OpenSpec.upto fnExactFawOkSpec)

/-- 'laws.FnFour', WHERE WHAT IT READS IS OF BULK AT MOST 1048576: true; the input reads as it did. -/
def fnFourUptoRow : OpenClaim := { program := "ytlchejnjeeilpaa", sum := "d764339f47daa2c8f82c158b80d0a065bb59a5a57af251c229a42f43b8707aff", func := "loop.example/g00977/laws.FnFour", spec := "fnFour", apart := false, narrowed := true }
def FnFourUptoSaid : Prop := fnFourUptoRow.holds Try.pinned (OpenSpec.upto fnFourSpec)

/-- 'laws.FnExactPartitionOk', WHERE WHAT IT READS IS OF BULK AT MOST 1048576: true; the input reads as it did. -/
def fnExactPartitionOkUptoRow : OpenClaim := { program := "ytlchejnjeeilpaa", sum := "d764339f47daa2c8f82c158b80d0a065bb59a5a57af251c229a42f43b8707aff", func := "loop.example/g00977/laws.FnExactPartitionOk", spec := "fnExactPartitionOk", apart := false, narrowed := true }
def FnExactPartitionOkUptoSaid : Prop := fnExactPartitionOkUptoRow.holds Try.pinned (OpenSpec.upto fnExactPartitionOkSpec)

/-- 'laws.FnExactBanksOf', WHERE WHAT IT READS IS OF BULK AT MOST 1048576: true; the input reads as it did. -/
def fnExactBanksOfUptoRow : OpenClaim := { program := "ytlchejnjeeilpaa", sum := "d764339f47daa2c8f82c158b80d0a065bb59a5a57af251c229a42f43b8707aff", func := "loop.example/g00977/laws.FnExactBanksOf", spec := "fnExactBanksOf", apart := false, narrowed := true }
def FnExactBanksOfUptoSaid : Prop := fnExactBanksOfUptoRow.holds Try.pinned (OpenSpec.upto fnExactBanksOfSpec)

/-- 'laws.FnExactTenantLines', WHERE WHAT IT READS IS OF BULK AT MOST 1048576: true; the input reads as it did. -/
def fnExactTenantLinesUptoRow : OpenClaim := { program := "ytlchejnjeeilpaa", sum := "d764339f47daa2c8f82c158b80d0a065bb59a5a57af251c229a42f43b8707aff", func := "loop.example/g00977/laws.FnExactTenantLines", spec := "fnExactTenantLines", apart := false, narrowed := true }
def FnExactTenantLinesUptoSaid : Prop := fnExactTenantLinesUptoRow.holds Try.pinned (OpenSpec.upto fnExactTenantLinesSpec)

/-- 'laws.FnExactTenantAddr', WHERE WHAT IT READS IS OF BULK AT MOST 1048576: true; the input reads as it did. -/
def fnExactTenantAddrUptoRow : OpenClaim := { program := "ytlchejnjeeilpaa", sum := "d764339f47daa2c8f82c158b80d0a065bb59a5a57af251c229a42f43b8707aff", func := "loop.example/g00977/laws.FnExactTenantAddr", spec := "fnExactTenantAddr", apart := false, narrowed := true }
def FnExactTenantAddrUptoSaid : Prop := fnExactTenantAddrUptoRow.holds Try.pinned (OpenSpec.upto fnExactTenantAddrSpec)

/-- 'laws.FnExactTenantLine', WHERE WHAT IT READS IS OF BULK AT MOST 1048576: true; the input reads as it did. -/
def fnExactTenantLineUptoRow : OpenClaim := { program := "ytlchejnjeeilpaa", sum := "d764339f47daa2c8f82c158b80d0a065bb59a5a57af251c229a42f43b8707aff", func := "loop.example/g00977/laws.FnExactTenantLine", spec := "fnExactTenantLine", apart := false, narrowed := true }
def FnExactTenantLineUptoSaid : Prop := fnExactTenantLineUptoRow.holds Try.pinned (OpenSpec.upto fnExactTenantLineSpec)

/-- 'laws.FnApart', WHERE WHAT IT READS IS OF BULK AT MOST 1048576: true; the input reads as it did. -/
def fnApartUptoRow : OpenClaim := { program := "ytlchejnjeeilpaa", sum := "d764339f47daa2c8f82c158b80d0a065bb59a5a57af251c229a42f43b8707aff", func := "loop.example/g00977/laws.FnApart", spec := "fnApart", apart := false, narrowed := true }
def FnApartUptoSaid : Prop := fnApartUptoRow.holds Try.pinned (OpenSpec.upto fnApartSpec)

/-- 'laws.FnTenantLines', WHERE WHAT IT READS IS OF BULK AT MOST 1048576: true; the input reads as it did. -/
def fnTenantLinesUptoRow : OpenClaim := { program := "ytlchejnjeeilpaa", sum := "d764339f47daa2c8f82c158b80d0a065bb59a5a57af251c229a42f43b8707aff", func := "loop.example/g00977/laws.FnTenantLines", spec := "fnTenantLines", apart := false, narrowed := true }
def FnTenantLinesUptoSaid : Prop := fnTenantLinesUptoRow.holds Try.pinned (OpenSpec.upto fnTenantLinesSpec)

end Rows
end Go.Proofs.Ytlchejnjeeilpaa
