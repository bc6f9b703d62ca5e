/-
  NARROWER THAN 'FOR EVERY INPUT', by the rows' own cells (each row's printed sentence says how): PrepChecks: laid · PrepForms: laid · CnfClauses: laid · CnfExtends: laid · CnfMeans: laid · CnfOnly: laid · PrepAtoms: laid · CnfTidyMeans: laid.
  DERIVED. THE GIVEN ROWS OF THIS SEAT. 8 by the template 'for every input the law returns true; each argument reads behind the call as it read before'; 0 by the template 'total and deterministic' (their statements: YtnadmnhkfdkafaaGreatDoorTotals.lean).
  GIVEN WITH THE SEED: the statements are not yours to turn. If you find one false, say at which input.
  Laid BY PROGRAM, IN A SANDBOX (cutbox-rows.mjs): the forced cells as the released guide's own fill.sh prints them over the translation 08a130bbfb83f865… (all of the seat's roots in one cut). By AI agents, Wed Nov 11 2026. No macro, syntax, notation, axiom, sorry.
-/
import Derived.Test.YtnadmnhkfdkafaaGreatDoorChecked
import GoSem.PinnedTables
import GoSem.Claim
import GoSem.ClaimJoined
import GoSem.ClaimMapViews
import Derived.JoinedTies
import Derived.KernelRfl
namespace Go.Proofs.YtnadmnhkfdkafaaGreatDoor
/- THE CELL 'sum', in the pinned program and in every row, IS THE sha256 OF THE DUMP (.gsa) THAT YtnadmnhkfdkafaaGreatDoorProg.lean LOADS. Nothing in Lean hashes anything: it is a label: what it is worth is what the hold of that sum in a sandbox is worth. -/
noncomputable def Tryz.pinned : Pinned := { name := "ytnadmnhkfdkafaagreatdoor", sum := "08a130bbfb83f865d4ca57444427c313056632f2759878a152257fda9a769cd1", checked := Tryz.checked }
namespace Rows
def none {H : Type} : Left H := { results := [], args := [] }

/- WHAT THE LISTED PACKAGE-LEVEL VARIABLES READ AS WHEN THE CALL BEGINS. Each datum BY PROGRAM (the guide's laid-datum.mjs) off the statement by which the dump's own 'gosem.cut.vars' lays the variable. In a bare row this is a premise. The card (YtnadmnhkfdkafaaGreatDoorCards.lean) ties it to the program's text. -/
def laid_unicode_utf8_acceptRanges {H : Type} : DataW H := .agg [.agg [.lit (.int .u8 128), .lit (.int .u8 191)], .agg [.lit (.int .u8 160), .lit (.int .u8 191)], .agg [.lit (.int .u8 128), .lit (.int .u8 159)], .agg [.lit (.int .u8 144), .lit (.int .u8 191)], .agg [.lit (.int .u8 128), .lit (.int .u8 143)], .agg [.lit (.int .u8 0), .lit (.int .u8 0)], .agg [.lit (.int .u8 0), .lit (.int .u8 0)], .agg [.lit (.int .u8 0), .lit (.int .u8 0)], .agg [.lit (.int .u8 0), .lit (.int .u8 0)], .agg [.lit (.int .u8 0), .lit (.int .u8 0)], .agg [.lit (.int .u8 0), .lit (.int .u8 0)], .agg [.lit (.int .u8 0), .lit (.int .u8 0)], .agg [.lit (.int .u8 0), .lit (.int .u8 0)], .agg [.lit (.int .u8 0), .lit (.int .u8 0)], .agg [.lit (.int .u8 0), .lit (.int .u8 0)], .agg [.lit (.int .u8 0), .lit (.int .u8 0)]]
/-- One of Go's own tables, pinned by name: the form's constant. -/
def laid_unicode_utf8_first : DataW Unit := Go.Pinned.utf8First
def laid_math_bits_deBruijn32tab {H : Type} : DataW H := .agg [.lit (.int .u8 0), .lit (.int .u8 1), .lit (.int .u8 28), .lit (.int .u8 2), .lit (.int .u8 29), .lit (.int .u8 14), .lit (.int .u8 24), .lit (.int .u8 3), .lit (.int .u8 30), .lit (.int .u8 22), .lit (.int .u8 20), .lit (.int .u8 15), .lit (.int .u8 25), .lit (.int .u8 17), .lit (.int .u8 4), .lit (.int .u8 8), .lit (.int .u8 31), .lit (.int .u8 27), .lit (.int .u8 13), .lit (.int .u8 23), .lit (.int .u8 21), .lit (.int .u8 19), .lit (.int .u8 16), .lit (.int .u8 7), .lit (.int .u8 26), .lit (.int .u8 12), .lit (.int .u8 18), .lit (.int .u8 6), .lit (.int .u8 11), .lit (.int .u8 5), .lit (.int .u8 10), .lit (.int .u8 9)]
def laid_math_bits_deBruijn64tab {H : Type} : DataW H := .agg [.lit (.int .u8 0), .lit (.int .u8 1), .lit (.int .u8 56), .lit (.int .u8 2), .lit (.int .u8 57), .lit (.int .u8 49), .lit (.int .u8 28), .lit (.int .u8 3), .lit (.int .u8 61), .lit (.int .u8 58), .lit (.int .u8 42), .lit (.int .u8 50), .lit (.int .u8 38), .lit (.int .u8 29), .lit (.int .u8 17), .lit (.int .u8 4), .lit (.int .u8 62), .lit (.int .u8 47), .lit (.int .u8 59), .lit (.int .u8 36), .lit (.int .u8 45), .lit (.int .u8 43), .lit (.int .u8 51), .lit (.int .u8 22), .lit (.int .u8 53), .lit (.int .u8 39), .lit (.int .u8 33), .lit (.int .u8 30), .lit (.int .u8 24), .lit (.int .u8 18), .lit (.int .u8 12), .lit (.int .u8 5), .lit (.int .u8 63), .lit (.int .u8 55), .lit (.int .u8 48), .lit (.int .u8 27), .lit (.int .u8 60), .lit (.int .u8 41), .lit (.int .u8 37), .lit (.int .u8 16), .lit (.int .u8 46), .lit (.int .u8 35), .lit (.int .u8 44), .lit (.int .u8 21), .lit (.int .u8 52), .lit (.int .u8 32), .lit (.int .u8 23), .lit (.int .u8 11), .lit (.int .u8 54), .lit (.int .u8 26), .lit (.int .u8 40), .lit (.int .u8 15), .lit (.int .u8 34), .lit (.int .u8 20), .lit (.int .u8 31), .lit (.int .u8 10), .lit (.int .u8 25), .lit (.int .u8 14), .lit (.int .u8 19), .lit (.int .u8 9), .lit (.int .u8 13), .lit (.int .u8 8), .lit (.int .u8 7), .lit (.int .u8 6)]
def laid_internal_strconv_uint64pow10 {H : Type} : DataW H := .agg [.lit (.int .u64 1), .lit (.int .u64 10), .lit (.int .u64 100), .lit (.int .u64 1000), .lit (.int .u64 10000), .lit (.int .u64 100000), .lit (.int .u64 1000000), .lit (.int .u64 10000000), .lit (.int .u64 100000000), .lit (.int .u64 1000000000), .lit (.int .u64 10000000000), .lit (.int .u64 100000000000), .lit (.int .u64 1000000000000), .lit (.int .u64 10000000000000), .lit (.int .u64 100000000000000), .lit (.int .u64 1000000000000000), .lit (.int .u64 10000000000000000), .lit (.int .u64 100000000000000000), .lit (.int .u64 1000000000000000000), .lit (.int .u64 10000000000000000000)]
def laid_strconv_ErrRange {H : Type} : DataW H := .iface "*errors.errorString" (.ptr (.agg [.lit (.string [118, 97, 108, 117, 101, 32, 111, 117, 116, 32, 111, 102, 32, 114, 97, 110, 103, 101])]))
def laid_strconv_ErrSyntax {H : Type} : DataW H := .iface "*errors.errorString" (.ptr (.agg [.lit (.string [105, 110, 118, 97, 108, 105, 100, 32, 115, 121, 110, 116, 97, 120])]))

/-- 'arbiterlaw8.PrepChecks': WHATEVER THE INPUT: true; the input reads as it did. -/
def prepChecksSpec : ChangeSpec := { name := "prepChecks", fn := fun _ => fun
  | [d] => { results := [.lit (.bool true)], args := [d] }
  | _ => none }
def prepChecksRow : OpenClaim := { program := "ytnadmnhkfdkafaagreatdoor", sum := "08a130bbfb83f865d4ca57444427c313056632f2759878a152257fda9a769cd1", func := "arbiter/arbiterlaw8.PrepChecks", spec := "prepChecks", inPlace := ["internal/bytealg.IndexByteString", "internal/bytealg.IndexString"], unfollowed := true, recurses := true, named := ["internal/bytealg.MaxLen", "unicode/utf8.first", "unicode/utf8.acceptRanges"], apart := false, laid := [("unicode/utf8.acceptRanges", laid_unicode_utf8_acceptRanges), ("unicode/utf8.first", laid_unicode_utf8_first)] }
def PrepChecksSaid : Prop := prepChecksRow.holds Tryz.pinned (OpenSpec.ofChange prepChecksSpec)

/-- ITS FALSE NEIGHBOUR: 'it returns false'. Refute it at one input. -/
def prepChecksWrong : ChangeSpec := { name := "prepChecks", fn := fun _ => fun
  | [d] => { results := [.lit (.bool false)], args := [d] }
  | _ => none }
def PrepChecksWrongFalsely : Prop := prepChecksRow.holds Tryz.pinned (OpenSpec.ofChange prepChecksWrong)

/-- 'arbiterlaw8.PrepForms': WHATEVER THE INPUT: true; the input reads as it did. -/
def prepFormsSpec : ChangeSpec := { name := "prepForms", fn := fun _ => fun
  | [d1, d2] => { results := [.lit (.bool true)], args := [d1, d2] }
  | _ => none }
def prepFormsRow : OpenClaim := { program := "ytnadmnhkfdkafaagreatdoor", sum := "08a130bbfb83f865d4ca57444427c313056632f2759878a152257fda9a769cd1", func := "arbiter/arbiterlaw8.PrepForms", spec := "prepForms", inPlace := ["internal/bytealg.IndexByteString", "internal/bytealg.IndexString"], unfollowed := true, recurses := true, named := ["internal/bytealg.MaxLen", "unicode/utf8.first", "unicode/utf8.acceptRanges"], apart := false, laid := [("unicode/utf8.acceptRanges", laid_unicode_utf8_acceptRanges), ("unicode/utf8.first", laid_unicode_utf8_first)] }
def PrepFormsSaid : Prop := prepFormsRow.holds Tryz.pinned (OpenSpec.ofChange prepFormsSpec)

/-- ITS FALSE NEIGHBOUR: 'it returns false'. Refute it at one input. -/
def prepFormsWrong : ChangeSpec := { name := "prepForms", fn := fun _ => fun
  | [d1, d2] => { results := [.lit (.bool false)], args := [d1, d2] }
  | _ => none }
def PrepFormsWrongFalsely : Prop := prepFormsRow.holds Tryz.pinned (OpenSpec.ofChange prepFormsWrong)

/-- 'arbiterlaw9.CnfClauses': WHATEVER THE INPUT: true; the input reads as it did. -/
def cnfClausesSpec : ChangeSpec := { name := "cnfClauses", fn := fun _ => fun
  | [d] => { results := [.lit (.bool true)], args := [d] }
  | _ => none }
def cnfClausesRow : OpenClaim := { program := "ytnadmnhkfdkafaagreatdoor", sum := "08a130bbfb83f865d4ca57444427c313056632f2759878a152257fda9a769cd1", func := "arbiter/arbiterlaw9.CnfClauses", spec := "cnfClauses", inPlace := ["internal/bytealg.IndexByteString", "internal/bytealg.IndexString"], unfollowed := true, recurses := true, named := ["internal/bytealg.MaxLen", "unicode/utf8.first", "unicode/utf8.acceptRanges"], apart := false, laid := [("unicode/utf8.acceptRanges", laid_unicode_utf8_acceptRanges), ("unicode/utf8.first", laid_unicode_utf8_first)] }
def CnfClausesSaid : Prop := cnfClausesRow.holds Tryz.pinned (OpenSpec.ofChange cnfClausesSpec)

/-- ITS FALSE NEIGHBOUR: 'it returns false'. Refute it at one input. -/
def cnfClausesWrong : ChangeSpec := { name := "cnfClauses", fn := fun _ => fun
  | [d] => { results := [.lit (.bool false)], args := [d] }
  | _ => none }
def CnfClausesWrongFalsely : Prop := cnfClausesRow.holds Tryz.pinned (OpenSpec.ofChange cnfClausesWrong)

/-- 'arbiterlaw9.CnfExtends': WHATEVER THE INPUT: true; the input reads as it did. -/
def cnfExtendsSpec : ChangeSpec := { name := "cnfExtends", fn := fun _ => fun
  | [d1, d2] => { results := [.lit (.bool true)], args := [d1, d2] }
  | _ => none }
def cnfExtendsRow : OpenClaim := { program := "ytnadmnhkfdkafaagreatdoor", sum := "08a130bbfb83f865d4ca57444427c313056632f2759878a152257fda9a769cd1", func := "arbiter/arbiterlaw9.CnfExtends", spec := "cnfExtends", inPlace := ["internal/bytealg.IndexByteString", "internal/bytealg.IndexString"], unfollowed := true, recurses := true, named := ["internal/bytealg.MaxLen", "unicode/utf8.first", "unicode/utf8.acceptRanges"], apart := false, laid := [("unicode/utf8.acceptRanges", laid_unicode_utf8_acceptRanges), ("unicode/utf8.first", laid_unicode_utf8_first)] }
def CnfExtendsSaid : Prop := cnfExtendsRow.holds Tryz.pinned (OpenSpec.ofChange cnfExtendsSpec)

/-- ITS FALSE NEIGHBOUR: 'it returns false'. Refute it at one input. -/
def cnfExtendsWrong : ChangeSpec := { name := "cnfExtends", fn := fun _ => fun
  | [d1, d2] => { results := [.lit (.bool false)], args := [d1, d2] }
  | _ => none }
def CnfExtendsWrongFalsely : Prop := cnfExtendsRow.holds Tryz.pinned (OpenSpec.ofChange cnfExtendsWrong)

/-- 'arbiterlaw9.CnfMeans': WHATEVER THE INPUT: true; the input reads as it did. -/
def cnfMeansSpec : ChangeSpec := { name := "cnfMeans", fn := fun _ => fun
  | [d1, d2] => { results := [.lit (.bool true)], args := [d1, d2] }
  | _ => none }
def cnfMeansRow : OpenClaim := { program := "ytnadmnhkfdkafaagreatdoor", sum := "08a130bbfb83f865d4ca57444427c313056632f2759878a152257fda9a769cd1", func := "arbiter/arbiterlaw9.CnfMeans", spec := "cnfMeans", inPlace := ["internal/bytealg.IndexByteString", "internal/bytealg.IndexString"], unfollowed := true, recurses := true, named := ["internal/bytealg.MaxLen", "unicode/utf8.first", "unicode/utf8.acceptRanges"], apart := false, laid := [("unicode/utf8.acceptRanges", laid_unicode_utf8_acceptRanges), ("unicode/utf8.first", laid_unicode_utf8_first)] }
def CnfMeansSaid : Prop := cnfMeansRow.holds Tryz.pinned (OpenSpec.ofChange cnfMeansSpec)

/-- ITS FALSE NEIGHBOUR: 'it returns false'. Refute it at one input. -/
def cnfMeansWrong : ChangeSpec := { name := "cnfMeans", fn := fun _ => fun
  | [d1, d2] => { results := [.lit (.bool false)], args := [d1, d2] }
  | _ => none }
def CnfMeansWrongFalsely : Prop := cnfMeansRow.holds Tryz.pinned (OpenSpec.ofChange cnfMeansWrong)

/-- 'arbiterlaw9.CnfOnly': WHATEVER THE INPUT: true; the input reads as it did. -/
def cnfOnlySpec : ChangeSpec := { name := "cnfOnly", fn := fun _ => fun
  | [d1, d2, d3] => { results := [.lit (.bool true)], args := [d1, d2, d3] }
  | _ => none }
def cnfOnlyRow : OpenClaim := { program := "ytnadmnhkfdkafaagreatdoor", sum := "08a130bbfb83f865d4ca57444427c313056632f2759878a152257fda9a769cd1", func := "arbiter/arbiterlaw9.CnfOnly", spec := "cnfOnly", inPlace := ["internal/bytealg.IndexByteString", "internal/bytealg.IndexString"], unfollowed := true, recurses := true, named := ["internal/bytealg.MaxLen", "unicode/utf8.first", "unicode/utf8.acceptRanges"], apart := false, laid := [("unicode/utf8.acceptRanges", laid_unicode_utf8_acceptRanges), ("unicode/utf8.first", laid_unicode_utf8_first)] }
def CnfOnlySaid : Prop := cnfOnlyRow.holds Tryz.pinned (OpenSpec.ofChange cnfOnlySpec)

/-- ITS FALSE NEIGHBOUR: 'it returns false'. Refute it at one input. -/
def cnfOnlyWrong : ChangeSpec := { name := "cnfOnly", fn := fun _ => fun
  | [d1, d2, d3] => { results := [.lit (.bool false)], args := [d1, d2, d3] }
  | _ => none }
def CnfOnlyWrongFalsely : Prop := cnfOnlyRow.holds Tryz.pinned (OpenSpec.ofChange cnfOnlyWrong)

/-- 'arbiterlaw8.PrepAtoms': WHATEVER THE INPUT: true; the input reads as it did. -/
def prepAtomsSpec : ChangeSpec := { name := "prepAtoms", fn := fun _ => fun
  | [d1, d2] => { results := [.lit (.bool true)], args := [d1, d2] }
  | _ => none }
def prepAtomsRow : OpenClaim := { program := "ytnadmnhkfdkafaagreatdoor", sum := "08a130bbfb83f865d4ca57444427c313056632f2759878a152257fda9a769cd1", func := "arbiter/arbiterlaw8.PrepAtoms", spec := "prepAtoms", inPlace := ["internal/bytealg.IndexByteString", "internal/bytealg.IndexString"], unfollowed := true, recurses := true, named := ["internal/bytealg.MaxLen", "unicode/utf8.first", "unicode/utf8.acceptRanges"], apart := false, laid := [("unicode/utf8.acceptRanges", laid_unicode_utf8_acceptRanges), ("unicode/utf8.first", laid_unicode_utf8_first)] }
def PrepAtomsSaid : Prop := prepAtomsRow.holds Tryz.pinned (OpenSpec.ofChange prepAtomsSpec)

/-- ITS FALSE NEIGHBOUR: 'it returns false'. Refute it at one input. -/
def prepAtomsWrong : ChangeSpec := { name := "prepAtoms", fn := fun _ => fun
  | [d1, d2] => { results := [.lit (.bool false)], args := [d1, d2] }
  | _ => none }
def PrepAtomsWrongFalsely : Prop := prepAtomsRow.holds Tryz.pinned (OpenSpec.ofChange prepAtomsWrong)

/-- 'arbiterlaw9.CnfTidyMeans': WHATEVER THE INPUT: true; the input reads as it did. -/
def cnfTidyMeansSpec : ChangeSpec := { name := "cnfTidyMeans", fn := fun _ => fun
  | [d1, d2] => { results := [.lit (.bool true)], args := [d1, d2] }
  | _ => none }
def cnfTidyMeansRow : OpenClaim := { program := "ytnadmnhkfdkafaagreatdoor", sum := "08a130bbfb83f865d4ca57444427c313056632f2759878a152257fda9a769cd1", func := "arbiter/arbiterlaw9.CnfTidyMeans", spec := "cnfTidyMeans", inPlace := ["internal/bytealg.IndexByteString", "internal/bytealg.IndexString", "internal/abi.NoEscape"], unfollowed := true, recurses := true, named := ["unicode/utf8.first", "unicode/utf8.acceptRanges", "strconv.ErrSyntax", "strconv.ErrRange", "internal/strconv.uint64pow10", "math/bits.deBruijn32tab", "math/bits.deBruijn64tab", "internal/bytealg.MaxLen"], apart := false, laid := [("math/bits.deBruijn32tab", laid_math_bits_deBruijn32tab), ("math/bits.deBruijn64tab", laid_math_bits_deBruijn64tab), ("internal/strconv.uint64pow10", laid_internal_strconv_uint64pow10), ("unicode/utf8.acceptRanges", laid_unicode_utf8_acceptRanges), ("strconv.ErrRange", laid_strconv_ErrRange), ("strconv.ErrSyntax", laid_strconv_ErrSyntax), ("unicode/utf8.first", laid_unicode_utf8_first)] }
def CnfTidyMeansSaid : Prop := cnfTidyMeansRow.holds Tryz.pinned (OpenSpec.ofChange cnfTidyMeansSpec)

/-- ITS FALSE NEIGHBOUR: 'it returns false'. Refute it at one input. -/
def cnfTidyMeansWrong : ChangeSpec := { name := "cnfTidyMeans", fn := fun _ => fun
  | [d1, d2] => { results := [.lit (.bool false)], args := [d1, d2] }
  | _ => none }
def CnfTidyMeansWrongFalsely : Prop := cnfTidyMeansRow.holds Tryz.pinned (OpenSpec.ofChange cnfTidyMeansWrong)

/- THE SECOND FORM. 'bulk': how many values and letters a reading holds, each counted each time it is reached (what is shared counts as often as it is met; a slice's spare places count too). A statement '..UptoSaid' is the law's where the arguments, and the package variables that the reading takes, are together of bulk at most 1048576: NARROWER than '..Said'. Prove '..Said' where nothing that the law and all that it calls make is longer than what came in: it says more and counts as full. Else prove '..UptoSaid'. A law counts once. -/
mutual
def uptoBulk {H : Type} : DataW H → Nat
  | .lit (.string bytes) => bytes.length + 1
  | .lit _ => 1
  | .nil => 1
  | .ptr d => uptoBulk d + 1
  | .slice elems spare => uptoBulkAll elems + uptoBulkAll spare + 1
  | .agg parts => uptoBulkAll parts + 1
  | .iface _ d => uptoBulk d + 1
  | .map entries => uptoBulkEntries entries + 1
  | .held _ => 1
def uptoBulkAll {H : Type} : List (DataW H) → Nat
  | [] => 0
  | d :: r => uptoBulk d + uptoBulkAll r
def uptoBulkEntries {H : Type} : List (Lit × DataW H) → Nat
  | [] => 0
  | x :: r => uptoBulkEntry x + uptoBulkEntries r
def uptoBulkEntry {H : Type} : Lit × DataW H → Nat
  | (.string bytes, d) => bytes.length + uptoBulk d + 1
  | (_, d) => uptoBulk d + 1
 end
def uptoSmall : (H : Type) → List (DataW H) → Bool := fun _ ds => decide (uptoBulkAll ds ≤ 1048576)
def OpenSpec.upto (s : _root_.Go.ChangeSpec) : _root_.Go.OpenSpec := { _root_.Go.OpenSpec.ofChange s with cond := some uptoSmall }

/-- 'arbiterlaw8.PrepChecks', WHERE WHAT IT READS IS OF BULK AT MOST 1048576: true; the input reads as it did. -/
def prepChecksUptoRow : OpenClaim := { program := "ytnadmnhkfdkafaagreatdoor", sum := "08a130bbfb83f865d4ca57444427c313056632f2759878a152257fda9a769cd1", func := "arbiter/arbiterlaw8.PrepChecks", spec := "prepChecks", inPlace := ["internal/bytealg.IndexByteString", "internal/bytealg.IndexString"], unfollowed := true, recurses := true, named := ["internal/bytealg.MaxLen", "unicode/utf8.first", "unicode/utf8.acceptRanges"], apart := false, laid := [("unicode/utf8.acceptRanges", laid_unicode_utf8_acceptRanges), ("unicode/utf8.first", laid_unicode_utf8_first)], narrowed := true }
def PrepChecksUptoSaid : Prop := prepChecksUptoRow.holds Tryz.pinned (OpenSpec.upto prepChecksSpec)

/-- 'arbiterlaw8.PrepForms', WHERE WHAT IT READS IS OF BULK AT MOST 1048576: true; the input reads as it did. -/
def prepFormsUptoRow : OpenClaim := { program := "ytnadmnhkfdkafaagreatdoor", sum := "08a130bbfb83f865d4ca57444427c313056632f2759878a152257fda9a769cd1", func := "arbiter/arbiterlaw8.PrepForms", spec := "prepForms", inPlace := ["internal/bytealg.IndexByteString", "internal/bytealg.IndexString"], unfollowed := true, recurses := true, named := ["internal/bytealg.MaxLen", "unicode/utf8.first", "unicode/utf8.acceptRanges"], apart := false, laid := [("unicode/utf8.acceptRanges", laid_unicode_utf8_acceptRanges), ("unicode/utf8.first", laid_unicode_utf8_first)], narrowed := true }
def PrepFormsUptoSaid : Prop := prepFormsUptoRow.holds Tryz.pinned (OpenSpec.upto prepFormsSpec)

/-- 'arbiterlaw9.CnfClauses', WHERE WHAT IT READS IS OF BULK AT MOST 1048576: true; the input reads as it did. -/
def cnfClausesUptoRow : OpenClaim := { program := "ytnadmnhkfdkafaagreatdoor", sum := "08a130bbfb83f865d4ca57444427c313056632f2759878a152257fda9a769cd1", func := "arbiter/arbiterlaw9.CnfClauses", spec := "cnfClauses", inPlace := ["internal/bytealg.IndexByteString", "internal/bytealg.IndexString"], unfollowed := true, recurses := true, named := ["internal/bytealg.MaxLen", "unicode/utf8.first", "unicode/utf8.acceptRanges"], apart := false, laid := [("unicode/utf8.acceptRanges", laid_unicode_utf8_acceptRanges), ("unicode/utf8.first", laid_unicode_utf8_first)], narrowed := true }
def CnfClausesUptoSaid : Prop := cnfClausesUptoRow.holds Tryz.pinned (OpenSpec.upto cnfClausesSpec)

/-- 'arbiterlaw9.CnfExtends', WHERE WHAT IT READS IS OF BULK AT MOST 1048576: true; the input reads as it did. -/
def cnfExtendsUptoRow : OpenClaim := { program := "ytnadmnhkfdkafaagreatdoor", sum := "08a130bbfb83f865d4ca57444427c313056632f2759878a152257fda9a769cd1", func := "arbiter/arbiterlaw9.CnfExtends", spec := "cnfExtends", inPlace := ["internal/bytealg.IndexByteString", "internal/bytealg.IndexString"], unfollowed := true, recurses := true, named := ["internal/bytealg.MaxLen", "unicode/utf8.first", "unicode/utf8.acceptRanges"], apart := false, laid := [("unicode/utf8.acceptRanges", laid_unicode_utf8_acceptRanges), ("unicode/utf8.first", laid_unicode_utf8_first)], narrowed := true }
def CnfExtendsUptoSaid : Prop := cnfExtendsUptoRow.holds Tryz.pinned (OpenSpec.upto cnfExtendsSpec)

/-- 'arbiterlaw9.CnfMeans', WHERE WHAT IT READS IS OF BULK AT MOST 1048576: true; the input reads as it did. -/
def cnfMeansUptoRow : OpenClaim := { program := "ytnadmnhkfdkafaagreatdoor", sum := "08a130bbfb83f865d4ca57444427c313056632f2759878a152257fda9a769cd1", func := "arbiter/arbiterlaw9.CnfMeans", spec := "cnfMeans", inPlace := ["internal/bytealg.IndexByteString", "internal/bytealg.IndexString"], unfollowed := true, recurses := true, named := ["internal/bytealg.MaxLen", "unicode/utf8.first", "unicode/utf8.acceptRanges"], apart := false, laid := [("unicode/utf8.acceptRanges", laid_unicode_utf8_acceptRanges), ("unicode/utf8.first", laid_unicode_utf8_first)], narrowed := true }
def CnfMeansUptoSaid : Prop := cnfMeansUptoRow.holds Tryz.pinned (OpenSpec.upto cnfMeansSpec)

/-- 'arbiterlaw9.CnfOnly', WHERE WHAT IT READS IS OF BULK AT MOST 1048576: true; the input reads as it did. -/
def cnfOnlyUptoRow : OpenClaim := { program := "ytnadmnhkfdkafaagreatdoor", sum := "08a130bbfb83f865d4ca57444427c313056632f2759878a152257fda9a769cd1", func := "arbiter/arbiterlaw9.CnfOnly", spec := "cnfOnly", inPlace := ["internal/bytealg.IndexByteString", "internal/bytealg.IndexString"], unfollowed := true, recurses := true, named := ["internal/bytealg.MaxLen", "unicode/utf8.first", "unicode/utf8.acceptRanges"], apart := false, laid := [("unicode/utf8.acceptRanges", laid_unicode_utf8_acceptRanges), ("unicode/utf8.first", laid_unicode_utf8_first)], narrowed := true }
def CnfOnlyUptoSaid : Prop := cnfOnlyUptoRow.holds Tryz.pinned (OpenSpec.upto cnfOnlySpec)

/-- 'arbiterlaw8.PrepAtoms', WHERE WHAT IT READS IS OF BULK AT MOST 1048576: true; the input reads as it did. -/
def prepAtomsUptoRow : OpenClaim := { program := "ytnadmnhkfdkafaagreatdoor", sum := "08a130bbfb83f865d4ca57444427c313056632f2759878a152257fda9a769cd1", func := "arbiter/arbiterlaw8.PrepAtoms", spec := "prepAtoms", inPlace := ["internal/bytealg.IndexByteString", "internal/bytealg.IndexString"], unfollowed := true, recurses := true, named := ["internal/bytealg.MaxLen", "unicode/utf8.first", "unicode/utf8.acceptRanges"], apart := false, laid := [("unicode/utf8.acceptRanges", laid_unicode_utf8_acceptRanges), ("unicode/utf8.first", laid_unicode_utf8_first)], narrowed := true }
def PrepAtomsUptoSaid : Prop := prepAtomsUptoRow.holds Tryz.pinned (OpenSpec.upto prepAtomsSpec)

/-- 'arbiterlaw9.CnfTidyMeans', WHERE WHAT IT READS IS OF BULK AT MOST 1048576: true; the input reads as it did. -/
def cnfTidyMeansUptoRow : OpenClaim := { program := "ytnadmnhkfdkafaagreatdoor", sum := "08a130bbfb83f865d4ca57444427c313056632f2759878a152257fda9a769cd1", func := "arbiter/arbiterlaw9.CnfTidyMeans", spec := "cnfTidyMeans", inPlace := ["internal/bytealg.IndexByteString", "internal/bytealg.IndexString", "internal/abi.NoEscape"], unfollowed := true, recurses := true, named := ["unicode/utf8.first", "unicode/utf8.acceptRanges", "strconv.ErrSyntax", "strconv.ErrRange", "internal/strconv.uint64pow10", "math/bits.deBruijn32tab", "math/bits.deBruijn64tab", "internal/bytealg.MaxLen"], apart := false, laid := [("math/bits.deBruijn32tab", laid_math_bits_deBruijn32tab), ("math/bits.deBruijn64tab", laid_math_bits_deBruijn64tab), ("internal/strconv.uint64pow10", laid_internal_strconv_uint64pow10), ("unicode/utf8.acceptRanges", laid_unicode_utf8_acceptRanges), ("strconv.ErrRange", laid_strconv_ErrRange), ("strconv.ErrSyntax", laid_strconv_ErrSyntax), ("unicode/utf8.first", laid_unicode_utf8_first)], narrowed := true }
def CnfTidyMeansUptoSaid : Prop := cnfTidyMeansUptoRow.holds Tryz.pinned (OpenSpec.upto cnfTidyMeansSpec)

end Rows
end Go.Proofs.YtnadmnhkfdkafaaGreatDoor
