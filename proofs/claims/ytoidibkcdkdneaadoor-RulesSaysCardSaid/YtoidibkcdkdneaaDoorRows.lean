/-
  NARROWER THAN 'FOR EVERY INPUT', by the rows' own cells (each row's printed sentence says how): RulesSays: laid · RulesBack: laid · RulesWhy: laid · RulesBelow: laid.
  DERIVED. THE GIVEN ROWS OF THIS SEAT. 4 by the template 'for every input the law returns true; each argument reads behind the call as it read before'; 0 by the template 'total and deterministic' (their statements: YtoidibkcdkdneaaDoorTotals.lean).
  GIVEN WITH THE SEED: the statements are not yours to turn. If you find one false, say at which input.
  Laid BY PROGRAM, IN A SANDBOX (cutbox-rows.mjs): the forced cells as the released guide's own fill.sh prints them over the translation 1a1962029271ce0f… (all of the seat's roots in one cut). By AI agents, Wed Nov 11 2026. No macro, syntax, notation, axiom, sorry.
-/
import Derived.Test.YtoidibkcdkdneaaDoorChecked
import GoSem.PinnedTables
import GoSem.Claim
import GoSem.ClaimJoined
import GoSem.ClaimMapViews
import Derived.JoinedTies
import Derived.KernelRfl
namespace Go.Proofs.YtoidibkcdkdneaaDoor
/- THE CELL 'sum', in the pinned program and in every row, IS THE sha256 OF THE DUMP (.gsa) THAT YtoidibkcdkdneaaDoorProg.lean LOADS. Nothing in Lean hashes anything: it is a label: what it is worth is what the hold of that sum in a sandbox is worth. -/
noncomputable def Tryd.pinned : Pinned := { name := "ytoidibkcdkdneaadoor", sum := "1a1962029271ce0f38f2883b15f44c74ffcc512c6c14f495d719ff8a157bd98f", checked := Tryd.checked }
namespace Rows
def none {H : Type} : Left H := { results := [], args := [] }

/- WHAT THE LISTED PACKAGE-LEVEL VARIABLES READ AS WHEN THE CALL BEGINS. Each datum BY PROGRAM (the guide's laid-datum.mjs) off the statement by which the dump's own 'gosem.cut.vars' lays the variable. In a bare row this is a premise. The card (YtoidibkcdkdneaaDoorCards.lean) ties it to the program's text. -/
def laid_unicode_utf8_acceptRanges {H : Type} : DataW H := .agg [.agg [.lit (.int .u8 128), .lit (.int .u8 191)], .agg [.lit (.int .u8 160), .lit (.int .u8 191)], .agg [.lit (.int .u8 128), .lit (.int .u8 159)], .agg [.lit (.int .u8 144), .lit (.int .u8 191)], .agg [.lit (.int .u8 128), .lit (.int .u8 143)], .agg [.lit (.int .u8 0), .lit (.int .u8 0)], .agg [.lit (.int .u8 0), .lit (.int .u8 0)], .agg [.lit (.int .u8 0), .lit (.int .u8 0)], .agg [.lit (.int .u8 0), .lit (.int .u8 0)], .agg [.lit (.int .u8 0), .lit (.int .u8 0)], .agg [.lit (.int .u8 0), .lit (.int .u8 0)], .agg [.lit (.int .u8 0), .lit (.int .u8 0)], .agg [.lit (.int .u8 0), .lit (.int .u8 0)], .agg [.lit (.int .u8 0), .lit (.int .u8 0)], .agg [.lit (.int .u8 0), .lit (.int .u8 0)], .agg [.lit (.int .u8 0), .lit (.int .u8 0)]]
def laid_twine_rules_heads {H : Type} : DataW H := .slice [.agg [.lit (.int .i64 1), .lit (.string [115, 107, 105, 112, 32])], .agg [.lit (.int .i64 2), .lit (.string [112, 114, 101, 102, 101, 114, 32, 97, 32])], .agg [.lit (.int .i64 3), .lit (.string [112, 114, 101, 102, 101, 114, 32, 98, 32])]] []
/-- One of Go's own tables, pinned by name: the form's constant. -/
def laid_unicode_utf8_first : DataW Unit := Go.Pinned.utf8First

/-- 'twinelaw11.RulesSays': WHATEVER THE INPUT: true; the input reads as it did. -/
def rulesSaysSpec : ChangeSpec := { name := "rulesSays", fn := fun _ => fun
  | [d1, d2] => { results := [.lit (.bool true)], args := [d1, d2] }
  | _ => none }
def rulesSaysRow : OpenClaim := { program := "ytoidibkcdkdneaadoor", sum := "1a1962029271ce0f38f2883b15f44c74ffcc512c6c14f495d719ff8a157bd98f", func := "twine/twinelaw11.RulesSays", spec := "rulesSays", inPlace := ["internal/bytealg.CountString", "internal/bytealg.IndexByteString", "internal/bytealg.IndexString"], unfollowed := true, recurses := true, named := ["unicode/utf8.first", "unicode/utf8.acceptRanges", "internal/bytealg.MaxLen", "twine/rules.heads"], apart := false, laid := [("unicode/utf8.acceptRanges", laid_unicode_utf8_acceptRanges), ("twine/rules.heads", laid_twine_rules_heads), ("unicode/utf8.first", laid_unicode_utf8_first)] }
def RulesSaysSaid : Prop := rulesSaysRow.holds Tryd.pinned (OpenSpec.ofChange rulesSaysSpec)

/-- ITS FALSE NEIGHBOUR: 'it returns false'. Refute it at one input. -/
def rulesSaysWrong : ChangeSpec := { name := "rulesSays", fn := fun _ => fun
  | [d1, d2] => { results := [.lit (.bool false)], args := [d1, d2] }
  | _ => none }
def RulesSaysWrongFalsely : Prop := rulesSaysRow.holds Tryd.pinned (OpenSpec.ofChange rulesSaysWrong)

/-- 'twinelaw11.RulesBack': WHATEVER THE INPUT: true; the input reads as it did. -/
def rulesBackSpec : ChangeSpec := { name := "rulesBack", fn := fun _ => fun
  | [d] => { results := [.lit (.bool true)], args := [d] }
  | _ => none }
def rulesBackRow : OpenClaim := { program := "ytoidibkcdkdneaadoor", sum := "1a1962029271ce0f38f2883b15f44c74ffcc512c6c14f495d719ff8a157bd98f", func := "twine/twinelaw11.RulesBack", spec := "rulesBack", inPlace := ["internal/bytealg.CountString", "internal/bytealg.IndexByteString", "internal/bytealg.IndexString", "internal/abi.NoEscape", "internal/bytealg.MakeNoZero"], unfollowed := true, recurses := true, named := ["unicode/utf8.first", "unicode/utf8.acceptRanges", "internal/bytealg.MaxLen", "twine/rules.heads"], apart := false, laid := [("unicode/utf8.acceptRanges", laid_unicode_utf8_acceptRanges), ("twine/rules.heads", laid_twine_rules_heads), ("unicode/utf8.first", laid_unicode_utf8_first)] }
def RulesBackSaid : Prop := rulesBackRow.holds Tryd.pinned (OpenSpec.ofChange rulesBackSpec)

/-- ITS FALSE NEIGHBOUR: 'it returns false'. Refute it at one input. -/
def rulesBackWrong : ChangeSpec := { name := "rulesBack", fn := fun _ => fun
  | [d] => { results := [.lit (.bool false)], args := [d] }
  | _ => none }
def RulesBackWrongFalsely : Prop := rulesBackRow.holds Tryd.pinned (OpenSpec.ofChange rulesBackWrong)

/-- 'twinelaw11.RulesWhy': WHATEVER THE INPUT: true; the input reads as it did. -/
def rulesWhySpec : ChangeSpec := { name := "rulesWhy", fn := fun _ => fun
  | [d1, d2] => { results := [.lit (.bool true)], args := [d1, d2] }
  | _ => none }
def rulesWhyRow : OpenClaim := { program := "ytoidibkcdkdneaadoor", sum := "1a1962029271ce0f38f2883b15f44c74ffcc512c6c14f495d719ff8a157bd98f", func := "twine/twinelaw11.RulesWhy", spec := "rulesWhy", inPlace := ["internal/bytealg.CountString", "internal/bytealg.IndexByteString", "internal/bytealg.IndexString", "internal/abi.NoEscape", "internal/bytealg.MakeNoZero"], unfollowed := true, recurses := true, named := ["unicode/utf8.first", "unicode/utf8.acceptRanges", "internal/bytealg.MaxLen", "twine/rules.heads"], apart := false, laid := [("unicode/utf8.acceptRanges", laid_unicode_utf8_acceptRanges), ("twine/rules.heads", laid_twine_rules_heads), ("unicode/utf8.first", laid_unicode_utf8_first)] }
def RulesWhySaid : Prop := rulesWhyRow.holds Tryd.pinned (OpenSpec.ofChange rulesWhySpec)

/-- ITS FALSE NEIGHBOUR: 'it returns false'. Refute it at one input. -/
def rulesWhyWrong : ChangeSpec := { name := "rulesWhy", fn := fun _ => fun
  | [d1, d2] => { results := [.lit (.bool false)], args := [d1, d2] }
  | _ => none }
def RulesWhyWrongFalsely : Prop := rulesWhyRow.holds Tryd.pinned (OpenSpec.ofChange rulesWhyWrong)

/-- 'twinelaw11.RulesBelow': WHATEVER THE INPUT: true; the input reads as it did. -/
def rulesBelowSpec : ChangeSpec := { name := "rulesBelow", fn := fun _ => fun
  | [d1, d2, d3] => { results := [.lit (.bool true)], args := [d1, d2, d3] }
  | _ => none }
def rulesBelowRow : OpenClaim := { program := "ytoidibkcdkdneaadoor", sum := "1a1962029271ce0f38f2883b15f44c74ffcc512c6c14f495d719ff8a157bd98f", func := "twine/twinelaw11.RulesBelow", spec := "rulesBelow", inPlace := ["internal/bytealg.CountString", "internal/bytealg.IndexByteString", "internal/bytealg.IndexString", "internal/abi.NoEscape", "internal/bytealg.MakeNoZero"], unfollowed := true, recurses := true, named := ["unicode/utf8.first", "unicode/utf8.acceptRanges", "internal/bytealg.MaxLen", "twine/rules.heads"], apart := false, laid := [("unicode/utf8.acceptRanges", laid_unicode_utf8_acceptRanges), ("twine/rules.heads", laid_twine_rules_heads), ("unicode/utf8.first", laid_unicode_utf8_first)] }
def RulesBelowSaid : Prop := rulesBelowRow.holds Tryd.pinned (OpenSpec.ofChange rulesBelowSpec)

/-- ITS FALSE NEIGHBOUR: 'it returns false'. Refute it at one input. -/
def rulesBelowWrong : ChangeSpec := { name := "rulesBelow", fn := fun _ => fun
  | [d1, d2, d3] => { results := [.lit (.bool false)], args := [d1, d2, d3] }
  | _ => none }
def RulesBelowWrongFalsely : Prop := rulesBelowRow.holds Tryd.pinned (OpenSpec.ofChange rulesBelowWrong)

/- THE SECOND FORM. 'bulk': how many values and letters a reading holds, each counted each time it is reached (what is shared counts as often as it is met; a slice's spare places count too). A statement '..UptoSaid' is the law's where the arguments, and the package variables that the reading takes, are together of bulk at most 1048576: NARROWER than '..Said'. Prove '..Said' where nothing that the law and all that it calls make is longer than what came in: it says more and counts as full. Else prove '..UptoSaid'. A law counts once. -/
mutual
def uptoBulk {H : Type} : DataW H → Nat
  | .lit (.string bytes) => bytes.length + 1
  | .lit _ => 1
  | .nil => 1
  | .ptr d => uptoBulk d + 1
  | .slice elems spare => uptoBulkAll elems + uptoBulkAll spare + 1
  | .agg parts => uptoBulkAll parts + 1
  | .iface _ d => uptoBulk d + 1
  | .map entries => uptoBulkEntries entries + 1
  | .held _ => 1
def uptoBulkAll {H : Type} : List (DataW H) → Nat
  | [] => 0
  | d :: r => uptoBulk d + uptoBulkAll r
def uptoBulkEntries {H : Type} : List (Lit × DataW H) → Nat
  | [] => 0
  | x :: r => uptoBulkEntry x + uptoBulkEntries r
def uptoBulkEntry {H : Type} : Lit × DataW H → Nat
  | (.string bytes, d) => bytes.length + uptoBulk d + 1
  | (_, d) => uptoBulk d + 1
 end
def uptoSmall : (H : Type) → List (DataW H) → Bool := fun _ ds => decide (uptoBulkAll ds ≤ 1048576)
def OpenSpec.upto (s : _root_.Go.ChangeSpec) : _root_.Go.OpenSpec := { _root_.Go.OpenSpec.ofChange s with cond := some uptoSmall }

/-- 'twinelaw11.RulesSays', WHERE WHAT IT READS IS OF BULK AT MOST 1048576: true; the input reads as it did. -/
def rulesSaysUptoRow : OpenClaim := { program := "ytoidibkcdkdneaadoor", sum := "1a1962029271ce0f38f2883b15f44c74ffcc512c6c14f495d719ff8a157bd98f", func := "twine/twinelaw11.RulesSays", spec := "rulesSays", inPlace := ["internal/bytealg.CountString", "internal/bytealg.IndexByteString", "internal/bytealg.IndexString"], unfollowed := true, recurses := true, named := ["unicode/utf8.first", "unicode/utf8.acceptRanges", "internal/bytealg.MaxLen", "twine/rules.heads"], apart := false, laid := [("unicode/utf8.acceptRanges", laid_unicode_utf8_acceptRanges), ("twine/rules.heads", laid_twine_rules_heads), ("unicode/utf8.first", laid_unicode_utf8_first)], narrowed := true }
def RulesSaysUptoSaid : Prop := rulesSaysUptoRow.holds Tryd.pinned (OpenSpec.upto rulesSaysSpec)

/-- 'twinelaw11.RulesBack', WHERE WHAT IT READS IS OF BULK AT MOST 1048576: true; the input reads as it did. -/
def rulesBackUptoRow : OpenClaim := { program := "ytoidibkcdkdneaadoor", sum := "1a1962029271ce0f38f2883b15f44c74ffcc512c6c14f495d719ff8a157bd98f", func := "twine/twinelaw11.RulesBack", spec := "rulesBack", inPlace := ["internal/bytealg.CountString", "internal/bytealg.IndexByteString", "internal/bytealg.IndexString", "internal/abi.NoEscape", "internal/bytealg.MakeNoZero"], unfollowed := true, recurses := true, named := ["unicode/utf8.first", "unicode/utf8.acceptRanges", "internal/bytealg.MaxLen", "twine/rules.heads"], apart := false, laid := [("unicode/utf8.acceptRanges", laid_unicode_utf8_acceptRanges), ("twine/rules.heads", laid_twine_rules_heads), ("unicode/utf8.first", laid_unicode_utf8_first)], narrowed := true }
def RulesBackUptoSaid : Prop := rulesBackUptoRow.holds Tryd.pinned (OpenSpec.upto rulesBackSpec)

/-- 'twinelaw11.RulesWhy', WHERE WHAT IT READS IS OF BULK AT MOST 1048576: true; the input reads as it did. -/
def rulesWhyUptoRow : OpenClaim := { program := "ytoidibkcdkdneaadoor", sum := "1a1962029271ce0f38f2883b15f44c74ffcc512c6c14f495d719ff8a157bd98f", func := "twine/twinelaw11.RulesWhy", spec := "rulesWhy", inPlace := ["internal/bytealg.CountString", "internal/bytealg.IndexByteString", "internal/bytealg.IndexString", "internal/abi.NoEscape", "internal/bytealg.MakeNoZero"], unfollowed := true, recurses := true, named := ["unicode/utf8.first", "unicode/utf8.acceptRanges", "internal/bytealg.MaxLen", "twine/rules.heads"], apart := false, laid := [("unicode/utf8.acceptRanges", laid_unicode_utf8_acceptRanges), ("twine/rules.heads", laid_twine_rules_heads), ("unicode/utf8.first", laid_unicode_utf8_first)], narrowed := true }
def RulesWhyUptoSaid : Prop := rulesWhyUptoRow.holds Tryd.pinned (OpenSpec.upto rulesWhySpec)

/-- 'twinelaw11.RulesBelow', WHERE WHAT IT READS IS OF BULK AT MOST 1048576: true; the input reads as it did. -/
def rulesBelowUptoRow : OpenClaim := { program := "ytoidibkcdkdneaadoor", sum := "1a1962029271ce0f38f2883b15f44c74ffcc512c6c14f495d719ff8a157bd98f", func := "twine/twinelaw11.RulesBelow", spec := "rulesBelow", inPlace := ["internal/bytealg.CountString", "internal/bytealg.IndexByteString", "internal/bytealg.IndexString", "internal/abi.NoEscape", "internal/bytealg.MakeNoZero"], unfollowed := true, recurses := true, named := ["unicode/utf8.first", "unicode/utf8.acceptRanges", "internal/bytealg.MaxLen", "twine/rules.heads"], apart := false, laid := [("unicode/utf8.acceptRanges", laid_unicode_utf8_acceptRanges), ("twine/rules.heads", laid_twine_rules_heads), ("unicode/utf8.first", laid_unicode_utf8_first)], narrowed := true }
def RulesBelowUptoSaid : Prop := rulesBelowUptoRow.holds Tryd.pinned (OpenSpec.upto rulesBelowSpec)

end Rows
end Go.Proofs.YtoidibkcdkdneaaDoor
