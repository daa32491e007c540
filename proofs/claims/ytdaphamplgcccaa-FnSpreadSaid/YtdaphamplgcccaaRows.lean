/-
  No cell of these rows narrows 'for every input' (looked for: loops, veiled, ifaces, maps, wideKeys, modest, calm, conditions, laid).
  DERIVED. THE GIVEN ROWS OF THIS SEAT. 13 by the template 'for every input the law returns true; each argument reads behind the call as it read before'; 0 by the template 'total and deterministic' (their statements: YtdaphamplgcccaaTotals.lean).
  GIVEN WITH THE SEED: the statements are not yours to turn. If you find one false, say at which input.
  Laid BY PROGRAM, IN A SANDBOX (cutbox-rows.mjs): the forced cells as the released guide's own fill.sh prints them over the translation bdede82319eac165… (all of the seat's roots in one cut). By AI agents, Wed Nov 11 2026. No macro, syntax, notation, axiom, sorry.
-/
import Derived.Test.YtdaphamplgcccaaChecked
import GoSem.Claim
import GoSem.ClaimJoined
import GoSem.ClaimMapViews
import Derived.JoinedTies
import Derived.KernelRfl
namespace Go.Proofs.Ytdaphamplgcccaa
/- THE CELL 'sum', in the pinned program and in every row, IS THE sha256 OF THE DUMP (.gsa) THAT YtdaphamplgcccaaProg.lean LOADS. Nothing in Lean hashes anything: it is a label: what it is worth is what the hold of that sum in a sandbox is worth. -/
noncomputable def Try.pinned : Pinned := { name := "ytdaphamplgcccaa", sum := "bdede82319eac1652c5900cc34e9f8cd2d9985522a598ba4be5e428ac988b6f4", checked := Try.checked }
namespace Rows
def none {H : Type} : Left H := { results := [], args := [] }

/-- 'laws.FnExactBankCount': WHATEVER THE INPUT: true; the input reads as it did. -/
def fnExactBankCountSpec : ChangeSpec := { name := "fnExactBankCount", fn := fun _ => fun
  | [d] => { results := [.lit (.bool true)], args := [d] }
  | _ => none }
def fnExactBankCountRow : OpenClaim := { program := "ytdaphamplgcccaa", sum := "bdede82319eac1652c5900cc34e9f8cd2d9985522a598ba4be5e428ac988b6f4", func := "loop.example/g00977/laws.FnExactBankCount", spec := "fnExactBankCount", apart := false }
def FnExactBankCountSaid : Prop := fnExactBankCountRow.holds Try.pinned (OpenSpec.ofChange fnExactBankCountSpec)

/-- ITS FALSE NEIGHBOUR: 'it returns false'. Refute it at one input. -/
def fnExactBankCountWrong : ChangeSpec := { name := "fnExactBankCount", fn := fun _ => fun
  | [d] => { results := [.lit (.bool false)], args := [d] }
  | _ => none }
def FnExactBankCountWrongFalsely : Prop := fnExactBankCountRow.holds Try.pinned (OpenSpec.ofChange fnExactBankCountWrong)

/-- 'laws.FnExactLineCount': WHATEVER THE INPUT: true; the input reads as it did. -/
def fnExactLineCountSpec : ChangeSpec := { name := "fnExactLineCount", fn := fun _ => fun
  | [d] => { results := [.lit (.bool true)], args := [d] }
  | _ => none }
def fnExactLineCountRow : OpenClaim := { program := "ytdaphamplgcccaa", sum := "bdede82319eac1652c5900cc34e9f8cd2d9985522a598ba4be5e428ac988b6f4", func := "loop.example/g00977/laws.FnExactLineCount", spec := "fnExactLineCount", apart := false }
def FnExactLineCountSaid : Prop := fnExactLineCountRow.holds Try.pinned (OpenSpec.ofChange fnExactLineCountSpec)

/-- ITS FALSE NEIGHBOUR: 'it returns false'. Refute it at one input. -/
def fnExactLineCountWrong : ChangeSpec := { name := "fnExactLineCount", fn := fun _ => fun
  | [d] => { results := [.lit (.bool false)], args := [d] }
  | _ => none }
def FnExactLineCountWrongFalsely : Prop := fnExactLineCountRow.holds Try.pinned (OpenSpec.ofChange fnExactLineCountWrong)

/-- 'laws.FnExactGroupOf': WHATEVER THE INPUT: true; the input reads as it did. -/
def fnExactGroupOfSpec : ChangeSpec := { name := "fnExactGroupOf", fn := fun _ => fun
  | [d1, d2] => { results := [.lit (.bool true)], args := [d1, d2] }
  | _ => none }
def fnExactGroupOfRow : OpenClaim := { program := "ytdaphamplgcccaa", sum := "bdede82319eac1652c5900cc34e9f8cd2d9985522a598ba4be5e428ac988b6f4", func := "loop.example/g00977/laws.FnExactGroupOf", spec := "fnExactGroupOf", apart := false }
def FnExactGroupOfSaid : Prop := fnExactGroupOfRow.holds Try.pinned (OpenSpec.ofChange fnExactGroupOfSpec)

/-- ITS FALSE NEIGHBOUR: 'it returns false'. Refute it at one input. -/
def fnExactGroupOfWrong : ChangeSpec := { name := "fnExactGroupOf", fn := fun _ => fun
  | [d1, d2] => { results := [.lit (.bool false)], args := [d1, d2] }
  | _ => none }
def FnExactGroupOfWrongFalsely : Prop := fnExactGroupOfRow.holds Try.pinned (OpenSpec.ofChange fnExactGroupOfWrong)

/-- 'laws.FnExactAddrOk': WHATEVER THE INPUT: true; the input reads as it did. -/
def fnExactAddrOkSpec : ChangeSpec := { name := "fnExactAddrOk", fn := fun _ => fun
  | [d1, d2] => { results := [.lit (.bool true)], args := [d1, d2] }
  | _ => none }
def fnExactAddrOkRow : OpenClaim := { program := "ytdaphamplgcccaa", sum := "bdede82319eac1652c5900cc34e9f8cd2d9985522a598ba4be5e428ac988b6f4", func := "loop.example/g00977/laws.FnExactAddrOk", spec := "fnExactAddrOk", apart := false }
def FnExactAddrOkSaid : Prop := fnExactAddrOkRow.holds Try.pinned (OpenSpec.ofChange fnExactAddrOkSpec)

/-- ITS FALSE NEIGHBOUR: 'it returns false'. Refute it at one input. -/
def fnExactAddrOkWrong : ChangeSpec := { name := "fnExactAddrOk", fn := fun _ => fun
  | [d1, d2] => { results := [.lit (.bool false)], args := [d1, d2] }
  | _ => none }
def FnExactAddrOkWrongFalsely : Prop := fnExactAddrOkRow.holds Try.pinned (OpenSpec.ofChange fnExactAddrOkWrong)

/-- 'laws.FnExactAddrIndex': WHATEVER THE INPUT: true; the input reads as it did. -/
def fnExactAddrIndexSpec : ChangeSpec := { name := "fnExactAddrIndex", fn := fun _ => fun
  | [d1, d2] => { results := [.lit (.bool true)], args := [d1, d2] }
  | _ => none }
def fnExactAddrIndexRow : OpenClaim := { program := "ytdaphamplgcccaa", sum := "bdede82319eac1652c5900cc34e9f8cd2d9985522a598ba4be5e428ac988b6f4", func := "loop.example/g00977/laws.FnExactAddrIndex", spec := "fnExactAddrIndex", apart := false }
def FnExactAddrIndexSaid : Prop := fnExactAddrIndexRow.holds Try.pinned (OpenSpec.ofChange fnExactAddrIndexSpec)

/-- ITS FALSE NEIGHBOUR: 'it returns false'. Refute it at one input. -/
def fnExactAddrIndexWrong : ChangeSpec := { name := "fnExactAddrIndex", fn := fun _ => fun
  | [d1, d2] => { results := [.lit (.bool false)], args := [d1, d2] }
  | _ => none }
def FnExactAddrIndexWrongFalsely : Prop := fnExactAddrIndexRow.holds Try.pinned (OpenSpec.ofChange fnExactAddrIndexWrong)

/-- 'laws.FnExactAddrAt': WHATEVER THE INPUT: true; the input reads as it did. -/
def fnExactAddrAtSpec : ChangeSpec := { name := "fnExactAddrAt", fn := fun _ => fun
  | [d1, d2] => { results := [.lit (.bool true)], args := [d1, d2] }
  | _ => none }
def fnExactAddrAtRow : OpenClaim := { program := "ytdaphamplgcccaa", sum := "bdede82319eac1652c5900cc34e9f8cd2d9985522a598ba4be5e428ac988b6f4", func := "loop.example/g00977/laws.FnExactAddrAt", spec := "fnExactAddrAt", apart := false }
def FnExactAddrAtSaid : Prop := fnExactAddrAtRow.holds Try.pinned (OpenSpec.ofChange fnExactAddrAtSpec)

/-- ITS FALSE NEIGHBOUR: 'it returns false'. Refute it at one input. -/
def fnExactAddrAtWrong : ChangeSpec := { name := "fnExactAddrAt", fn := fun _ => fun
  | [d1, d2] => { results := [.lit (.bool false)], args := [d1, d2] }
  | _ => none }
def FnExactAddrAtWrongFalsely : Prop := fnExactAddrAtRow.holds Try.pinned (OpenSpec.ofChange fnExactAddrAtWrong)

/-- 'laws.FnExactMapLine': WHATEVER THE INPUT: true; the input reads as it did. -/
def fnExactMapLineSpec : ChangeSpec := { name := "fnExactMapLine", fn := fun _ => fun
  | [d1, d2, d3] => { results := [.lit (.bool true)], args := [d1, d2, d3] }
  | _ => none }
def fnExactMapLineRow : OpenClaim := { program := "ytdaphamplgcccaa", sum := "bdede82319eac1652c5900cc34e9f8cd2d9985522a598ba4be5e428ac988b6f4", func := "loop.example/g00977/laws.FnExactMapLine", spec := "fnExactMapLine", apart := false }
def FnExactMapLineSaid : Prop := fnExactMapLineRow.holds Try.pinned (OpenSpec.ofChange fnExactMapLineSpec)

/-- ITS FALSE NEIGHBOUR: 'it returns false'. Refute it at one input. -/
def fnExactMapLineWrong : ChangeSpec := { name := "fnExactMapLine", fn := fun _ => fun
  | [d1, d2, d3] => { results := [.lit (.bool false)], args := [d1, d2, d3] }
  | _ => none }
def FnExactMapLineWrongFalsely : Prop := fnExactMapLineRow.holds Try.pinned (OpenSpec.ofChange fnExactMapLineWrong)

/-- 'laws.FnExactLineOf': WHATEVER THE INPUT: true; the input reads as it did. -/
def fnExactLineOfSpec : ChangeSpec := { name := "fnExactLineOf", fn := fun _ => fun
  | [d1, d2, d3] => { results := [.lit (.bool true)], args := [d1, d2, d3] }
  | _ => none }
def fnExactLineOfRow : OpenClaim := { program := "ytdaphamplgcccaa", sum := "bdede82319eac1652c5900cc34e9f8cd2d9985522a598ba4be5e428ac988b6f4", func := "loop.example/g00977/laws.FnExactLineOf", spec := "fnExactLineOf", apart := false }
def FnExactLineOfSaid : Prop := fnExactLineOfRow.holds Try.pinned (OpenSpec.ofChange fnExactLineOfSpec)

/-- ITS FALSE NEIGHBOUR: 'it returns false'. Refute it at one input. -/
def fnExactLineOfWrong : ChangeSpec := { name := "fnExactLineOf", fn := fun _ => fun
  | [d1, d2, d3] => { results := [.lit (.bool false)], args := [d1, d2, d3] }
  | _ => none }
def FnExactLineOfWrongFalsely : Prop := fnExactLineOfRow.holds Try.pinned (OpenSpec.ofChange fnExactLineOfWrong)

/-- 'laws.FnGroups': WHATEVER THE INPUT: true; the input reads as it did. -/
def fnGroupsSpec : ChangeSpec := { name := "fnGroups", fn := fun _ => fun
  | [d] => { results := [.lit (.bool true)], args := [d] }
  | _ => none }
def fnGroupsRow : OpenClaim := { program := "ytdaphamplgcccaa", sum := "bdede82319eac1652c5900cc34e9f8cd2d9985522a598ba4be5e428ac988b6f4", func := "loop.example/g00977/laws.FnGroups", spec := "fnGroups", apart := false }
def FnGroupsSaid : Prop := fnGroupsRow.holds Try.pinned (OpenSpec.ofChange fnGroupsSpec)

/-- ITS FALSE NEIGHBOUR: 'it returns false'. Refute it at one input. -/
def fnGroupsWrong : ChangeSpec := { name := "fnGroups", fn := fun _ => fun
  | [d] => { results := [.lit (.bool false)], args := [d] }
  | _ => none }
def FnGroupsWrongFalsely : Prop := fnGroupsRow.holds Try.pinned (OpenSpec.ofChange fnGroupsWrong)

/-- 'laws.FnAddresses': WHATEVER THE INPUT: true; the input reads as it did. -/
def fnAddressesSpec : ChangeSpec := { name := "fnAddresses", fn := fun _ => fun
  | [d] => { results := [.lit (.bool true)], args := [d] }
  | _ => none }
def fnAddressesRow : OpenClaim := { program := "ytdaphamplgcccaa", sum := "bdede82319eac1652c5900cc34e9f8cd2d9985522a598ba4be5e428ac988b6f4", func := "loop.example/g00977/laws.FnAddresses", spec := "fnAddresses", apart := false }
def FnAddressesSaid : Prop := fnAddressesRow.holds Try.pinned (OpenSpec.ofChange fnAddressesSpec)

/-- ITS FALSE NEIGHBOUR: 'it returns false'. Refute it at one input. -/
def fnAddressesWrong : ChangeSpec := { name := "fnAddresses", fn := fun _ => fun
  | [d] => { results := [.lit (.bool false)], args := [d] }
  | _ => none }
def FnAddressesWrongFalsely : Prop := fnAddressesRow.holds Try.pinned (OpenSpec.ofChange fnAddressesWrong)

/-- 'laws.FnMapping': WHATEVER THE INPUT: true; the input reads as it did. -/
def fnMappingSpec : ChangeSpec := { name := "fnMapping", fn := fun _ => fun
  | [d] => { results := [.lit (.bool true)], args := [d] }
  | _ => none }
def fnMappingRow : OpenClaim := { program := "ytdaphamplgcccaa", sum := "bdede82319eac1652c5900cc34e9f8cd2d9985522a598ba4be5e428ac988b6f4", func := "loop.example/g00977/laws.FnMapping", spec := "fnMapping", apart := false }
def FnMappingSaid : Prop := fnMappingRow.holds Try.pinned (OpenSpec.ofChange fnMappingSpec)

/-- ITS FALSE NEIGHBOUR: 'it returns false'. Refute it at one input. -/
def fnMappingWrong : ChangeSpec := { name := "fnMapping", fn := fun _ => fun
  | [d] => { results := [.lit (.bool false)], args := [d] }
  | _ => none }
def FnMappingWrongFalsely : Prop := fnMappingRow.holds Try.pinned (OpenSpec.ofChange fnMappingWrong)

/-- 'laws.FnExactBanksTouched': WHATEVER THE INPUT: true; the input reads as it did. -/
def fnExactBanksTouchedSpec : ChangeSpec := { name := "fnExactBanksTouched", fn := fun _ => fun
  | [d1, d2, d3, d4] => { results := [.lit (.bool true)], args := [d1, d2, d3, d4] }
  | _ => none }
def fnExactBanksTouchedRow : OpenClaim := { program := "ytdaphamplgcccaa", sum := "bdede82319eac1652c5900cc34e9f8cd2d9985522a598ba4be5e428ac988b6f4", func := "loop.example/g00977/laws.FnExactBanksTouched", spec := "fnExactBanksTouched", apart := false }
def FnExactBanksTouchedSaid : Prop := fnExactBanksTouchedRow.holds Try.pinned (OpenSpec.ofChange fnExactBanksTouchedSpec)

/-- ITS FALSE NEIGHBOUR: 'it returns false'. Refute it at one input. -/
def fnExactBanksTouchedWrong : ChangeSpec := { name := "fnExactBanksTouched", fn := fun _ => fun
  | [d1, d2, d3, d4] => { results := [.lit (.bool false)], args := [d1, d2, d3, d4] }
  | _ => none }
def FnExactBanksTouchedWrongFalsely : Prop := fnExactBanksTouchedRow.holds Try.pinned (OpenSpec.ofChange fnExactBanksTouchedWrong)

/-- 'laws.FnSpread': WHATEVER THE INPUT: true; the input reads as it did. -/
def fnSpreadSpec : ChangeSpec := { name := "fnSpread", fn := fun _ => fun
  | [d] => { results := [.lit (.bool true)], args := [d] }
  | _ => none }
def fnSpreadRow : OpenClaim := { program := "ytdaphamplgcccaa", sum := "bdede82319eac1652c5900cc34e9f8cd2d9985522a598ba4be5e428ac988b6f4", func := "loop.example/g00977/laws.FnSpread", spec := "fnSpread", apart := false }
def FnSpreadSaid : Prop := fnSpreadRow.holds Try.pinned (OpenSpec.ofChange fnSpreadSpec)

/-- ITS FALSE NEIGHBOUR: 'it returns false'. Refute it at one input. -/
def fnSpreadWrong : ChangeSpec := { name := "fnSpread", fn := fun _ => fun
  | [d] => { results := [.lit (.bool false)], args := [d] }
  | _ => none }
def FnSpreadWrongFalsely : Prop := fnSpreadRow.holds Try.pinned (OpenSpec.ofChange fnSpreadWrong)

/- THE SECOND FORM. 'bulk': how many values and letters a reading holds, each counted each time it is reached (what is shared counts as often as it is met; a slice's spare places count too). A statement '..UptoSaid' is the law's where the arguments, and the package variables that the reading takes, are together of bulk at most 1048576: NARROWER than '..Said'. Prove '..Said' where nothing that the law and all that it calls make is longer than what came in: it says more and counts as full. Else prove '..UptoSaid'. A law counts once. -/
mutual
def uptoBulk {H : Type} : DataW H → Nat
  | .lit (.string bytes) => bytes.length + 1
  | .lit _ => 1
  | .nil => 1
  | .ptr d => uptoBulk d + 1
  | .slice elems spare => uptoBulkAll elems + uptoBulkAll spare + 1
  | .agg parts => uptoBulkAll parts + 1
  | .iface _ d => uptoBulk d + 1
  | .map entries => uptoBulkEntries entries + 1
  | .held _ => 1
def uptoBulkAll {H : Type} : List (DataW H) → Nat
  | [] => 0
  | d :: r => uptoBulk d + uptoBulkAll r
def uptoBulkEntries {H : Type} : List (Lit × DataW H) → Nat
  | [] => 0
  | x :: r => uptoBulkEntry x + uptoBulkEntries r
def uptoBulkEntry {H : Type} : Lit × DataW H → Nat
  | (.string bytes, d) => bytes.length + uptoBulk d + 1
  | (_, d) => uptoBulk d + 1
 end
def uptoSmall : (H : Type) → List (DataW H) → Bool := fun _ ds => decide (uptoBulkAll ds ≤ 1048576)
def OpenSpec.upto (s : _root_.Go.ChangeSpec) : _root_.Go.OpenSpec := { _root_.Go.OpenSpec.ofChange s with cond := some uptoSmall }

/-- 'laws.FnExactBankCount', WHERE WHAT IT READS IS OF BULK AT MOST 1048576: true; the input reads as it did. -/
def fnExactBankCountUptoRow : OpenClaim := { program := "ytdaphamplgcccaa", sum := "bdede82319eac1652c5900cc34e9f8cd2d9985522a598ba4be5e428ac988b6f4", func := "loop.example/g00977/laws.FnExactBankCount", spec := "fnExactBankCount", apart := false, narrowed := true }
def FnExactBankCountUptoSaid : Prop := fnExactBankCountUptoRow.holds Try.pinned (OpenSpec.upto fnExactBankCountSpec)

/-- 'laws.FnExactLineCount', WHERE WHAT IT READS IS OF BULK AT MOST 1048576: true; the input reads as it did. -/
def fnExactLineCountUptoRow : OpenClaim := { program := "ytdaphamplgcccaa", sum := "bdede82319eac1652c5900cc34e9f8cd2d9985522a598ba4be5e428ac988b6f4", func := "loop.example/g00977/laws.FnExactLineCount", spec := "fnExactLineCount", apart := false, narrowed := true }
def FnExactLineCountUptoSaid : Prop := fnExactLineCountUptoRow.holds Try.pinned (OpenSpec.upto fnExactLineCountSpec)

/-- 'laws.FnExactGroupOf', WHERE WHAT IT READS IS OF BULK AT MOST 1048576: true; the input reads as it did. -/
def fnExactGroupOfUptoRow : OpenClaim := { program := "ytdaphamplgcccaa", sum := "bdede82319eac1652c5900cc34e9f8cd2d9985522a598ba4be5e428ac988b6f4", func := "loop.example/g00977/laws.FnExactGroupOf", spec := "fnExactGroupOf", apart := false, narrowed := true }
def FnExactGroupOfUptoSaid : Prop := fnExactGroupOfUptoRow.holds Try.pinned (OpenSpec.upto fnExactGroupOfSpec)

/-- 'laws.FnExactAddrOk', WHERE WHAT IT READS IS OF BULK AT MOST 1048576: true; the input reads as it did. -/
def fnExactAddrOkUptoRow : OpenClaim := { program := "ytdaphamplgcccaa", sum := "bdede82319eac1652c5900cc34e9f8cd2d9985522a598ba4be5e428ac988b6f4", func := "loop.example/g00977/laws.FnExactAddrOk", spec := "fnExactAddrOk", apart := false, narrowed := true }
def FnExactAddrOkUptoSaid : Prop := fnExactAddrOkUptoRow.holds Try.pinned (OpenSpec.upto fnExactAddrOkSpec)

/-- 'laws.FnExactAddrIndex', WHERE WHAT IT READS IS OF BULK AT MOST 1048576: true; the input reads as it did. -/
def fnExactAddrIndexUptoRow : OpenClaim := { program := "ytdaphamplgcccaa", sum := "bdede82319eac1652c5900cc34e9f8cd2d9985522a598ba4be5e428ac988b6f4", func := "loop.example/g00977/laws.FnExactAddrIndex", spec := "fnExactAddrIndex", apart := false, narrowed := true }
def FnExactAddrIndexUptoSaid : Prop := fnExactAddrIndexUptoRow.holds Try.pinned (OpenSpec.upto fnExactAddrIndexSpec)

/-- 'laws.FnExactAddrAt', WHERE WHAT IT READS IS OF BULK AT MOST 1048576: true; the input reads as it did. -/
def fnExactAddrAtUptoRow : OpenClaim := { program := "ytdaphamplgcccaa", sum := "bdede82319eac1652c5900cc34e9f8cd2d9985522a598ba4be5e428ac988b6f4", func := "loop.example/g00977/laws.FnExactAddrAt", spec := "fnExactAddrAt", apart := false, narrowed := true }
def FnExactAddrAtUptoSaid : Prop := fnExactAddrAtUptoRow.holds Try.pinned (OpenSpec.upto fnExactAddrAtSpec)

/-- 'laws.FnExactMapLine', WHERE WHAT IT READS IS OF BULK AT MOST 1048576: true; the input reads as it did. -/
def fnExactMapLineUptoRow : OpenClaim := { program := "ytdaphamplgcccaa", sum := "bdede82319eac1652c5900cc34e9f8cd2d9985522a598ba4be5e428ac988b6f4", func := "loop.example/g00977/laws.FnExactMapLine", spec := "fnExactMapLine", apart := false, narrowed := true }
def FnExactMapLineUptoSaid : Prop := fnExactMapLineUptoRow.holds Try.pinned (OpenSpec.upto fnExactMapLineSpec)

/-- 'laws.FnExactLineOf', WHERE WHAT IT READS IS OF BULK AT MOST 1048576: true; the input reads as it did. -/
def fnExactLineOfUptoRow : OpenClaim := { program := "ytdaphamplgcccaa", sum := "bdede82319eac1652c5900cc34e9f8cd2d9985522a598ba4be5e428ac988b6f4", func := "loop.example/g00977/laws.FnExactLineOf", spec := "fnExactLineOf", apart := false, narrowed := true }
def FnExactLineOfUptoSaid : Prop := fnExactLineOfUptoRow.holds Try.pinned (OpenSpec.upto fnExactLineOfSpec)

/-- 'laws.FnGroups', WHERE WHAT IT READS IS OF BULK AT MOST 1048576: true; the input reads as it did. -/
def fnGroupsUptoRow : OpenClaim := { program := "ytdaphamplgcccaa", sum := "bdede82319eac1652c5900cc34e9f8cd2d9985522a598ba4be5e428ac988b6f4", func := "loop.example/g00977/laws.FnGroups", spec := "fnGroups", apart := false, narrowed := true }
def FnGroupsUptoSaid : Prop := fnGroupsUptoRow.holds Try.pinned (OpenSpec.upto fnGroupsSpec)

/-- 'laws.FnAddresses', WHERE WHAT IT READS IS OF BULK AT MOST 1048576: true; the input reads as it did. -/
def fnAddressesUptoRow : OpenClaim := { program := "ytdaphamplgcccaa", sum := "bdede82319eac1652c5900cc34e9f8cd2d9985522a598ba4be5e428ac988b6f4", func := "loop.example/g00977/laws.FnAddresses", spec := "fnAddresses", apart := false, narrowed := true }
def FnAddressesUptoSaid : Prop := fnAddressesUptoRow.holds Try.pinned (OpenSpec.upto fnAddressesSpec)

/-- 'laws.FnMapping', WHERE WHAT IT READS IS OF BULK AT MOST 1048576: true; the input reads as it did. -/
def fnMappingUptoRow : OpenClaim := { program := "ytdaphamplgcccaa", sum := "bdede82319eac1652c5900cc34e9f8cd2d9985522a598ba4be5e428ac988b6f4", func := "loop.example/g00977/laws.FnMapping", spec := "fnMapping", apart := false, narrowed := true }
def FnMappingUptoSaid : Prop := fnMappingUptoRow.holds Try.pinned (OpenSpec.upto fnMappingSpec)

/-- 'laws.FnExactBanksTouched', WHERE WHAT IT READS IS OF BULK AT MOST 1048576: true; the input reads as it did. -/
def fnExactBanksTouchedUptoRow : OpenClaim := { program := "ytdaphamplgcccaa", sum := "bdede82319eac1652c5900cc34e9f8cd2d9985522a598ba4be5e428ac988b6f4", func := "loop.example/g00977/laws.FnExactBanksTouched", spec := "fnExactBanksTouched", apart := false, narrowed := true }
def FnExactBanksTouchedUptoSaid : Prop := fnExactBanksTouchedUptoRow.holds Try.pinned (OpenSpec.upto fnExactBanksTouchedSpec)

/-- 'laws.FnSpread', WHERE WHAT IT READS IS OF BULK AT MOST 1048576: true; the input reads as it did. -/
def fnSpreadUptoRow : OpenClaim := { program := "ytdaphamplgcccaa", sum := "bdede82319eac1652c5900cc34e9f8cd2d9985522a598ba4be5e428ac988b6f4", func := "loop.example/g00977/laws.FnSpread", spec := "fnSpread", apart := false, narrowed := true }
def FnSpreadUptoSaid : Prop := fnSpreadUptoRow.holds Try.pinned (OpenSpec.upto fnSpreadSpec)

end Rows
end Go.Proofs.Ytdaphamplgcccaa
