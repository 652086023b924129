/-
  DERIVED. GIVEN WITH THE SEED: THE CARDS: each row of YtoidibkcdkdneaaDoorRows.lean that lists a variable, with what it lists TIED to the program's text (the seventh form; the later family's looks); each row that meets fmt, with fmt's text TOLD by the authors' own Lean function (tested against real Go, not proved from fmt's source: count such statements apart). THE CARD IS WHAT COUNTS. Prove the row's statement (the work); the ties are given (YtoidibkcdkdneaaDoorTie.lean); close each card by the builder's one call (the guide's Derived/Test/ToyasCard.lean, 'card_holds'). Laid BY PROGRAM, IN A SANDBOX (cutbox-door.mjs). By AI agents, Wed Nov 11 2026. No macro, syntax, notation, axiom, sorry.
-/
import Derived.Test.YtoidibkcdkdneaaDoorRows
import GoSem.ClaimSeven
namespace Go.Proofs.YtoidibkcdkdneaaDoor
namespace Rows

/-- THE TIED CARD OF 'twinelaw11.RulesSays'. -/
def rulesSaysCard : Claim7 := { stood := { row := rulesSaysRow, standIns := [], harness := (true, "0d3e15d43b276ef2201fa72e83176da106cc8e8e39cb8df289768ec603414409"), looks := false }, kinds := [], alts := [], laidByText := true, laidKinds := [.data, .data, .pinned], laidTests := true, laidLooks := .later }
def RulesSaysCardSaid : Prop := Claim7.holds Tryd.pinned (.plain (OpenSpec.ofChange rulesSaysSpec)) rulesSaysCard

/-- THE TIED CARD OF 'twinelaw11.RulesBack'. -/
def rulesBackCard : Claim7 := { stood := { row := rulesBackRow, standIns := [], harness := (true, "0d3e15d43b276ef2201fa72e83176da106cc8e8e39cb8df289768ec603414409"), looks := false }, kinds := [], alts := [], laidByText := true, laidKinds := [.data, .data, .pinned], laidTests := true, laidLooks := .later }
def RulesBackCardSaid : Prop := Claim7.holds Tryd.pinned (.plain (OpenSpec.ofChange rulesBackSpec)) rulesBackCard

/-- THE TIED CARD OF 'twinelaw11.RulesWhy'. -/
def rulesWhyCard : Claim7 := { stood := { row := rulesWhyRow, standIns := [], harness := (true, "0d3e15d43b276ef2201fa72e83176da106cc8e8e39cb8df289768ec603414409"), looks := false }, kinds := [], alts := [], laidByText := true, laidKinds := [.data, .data, .pinned], laidTests := true, laidLooks := .later }
def RulesWhyCardSaid : Prop := Claim7.holds Tryd.pinned (.plain (OpenSpec.ofChange rulesWhySpec)) rulesWhyCard

/-- THE TIED CARD OF 'twinelaw11.RulesBelow'. -/
def rulesBelowCard : Claim7 := { stood := { row := rulesBelowRow, standIns := [], harness := (true, "0d3e15d43b276ef2201fa72e83176da106cc8e8e39cb8df289768ec603414409"), looks := false }, kinds := [], alts := [], laidByText := true, laidKinds := [.data, .data, .pinned], laidTests := true, laidLooks := .later }
def RulesBelowCardSaid : Prop := Claim7.holds Tryd.pinned (.plain (OpenSpec.ofChange rulesBelowSpec)) rulesBelowCard

/-- THE SECOND FORM's CARD OF 'twinelaw11.RulesSays'. -/
def rulesSaysUptoCard : Claim7 := { stood := { row := rulesSaysUptoRow, standIns := [], harness := (true, "0d3e15d43b276ef2201fa72e83176da106cc8e8e39cb8df289768ec603414409"), looks := false }, kinds := [], alts := [], laidByText := true, laidKinds := [.data, .data, .pinned], laidTests := true, laidLooks := .later }
def RulesSaysUptoCardSaid : Prop := Claim7.holds Tryd.pinned (.plain (OpenSpec.upto rulesSaysSpec)) rulesSaysUptoCard

/-- THE SECOND FORM's CARD OF 'twinelaw11.RulesBack'. -/
def rulesBackUptoCard : Claim7 := { stood := { row := rulesBackUptoRow, standIns := [], harness := (true, "0d3e15d43b276ef2201fa72e83176da106cc8e8e39cb8df289768ec603414409"), looks := false }, kinds := [], alts := [], laidByText := true, laidKinds := [.data, .data, .pinned], laidTests := true, laidLooks := .later }
def RulesBackUptoCardSaid : Prop := Claim7.holds Tryd.pinned (.plain (OpenSpec.upto rulesBackSpec)) rulesBackUptoCard

/-- THE SECOND FORM's CARD OF 'twinelaw11.RulesWhy'. -/
def rulesWhyUptoCard : Claim7 := { stood := { row := rulesWhyUptoRow, standIns := [], harness := (true, "0d3e15d43b276ef2201fa72e83176da106cc8e8e39cb8df289768ec603414409"), looks := false }, kinds := [], alts := [], laidByText := true, laidKinds := [.data, .data, .pinned], laidTests := true, laidLooks := .later }
def RulesWhyUptoCardSaid : Prop := Claim7.holds Tryd.pinned (.plain (OpenSpec.upto rulesWhySpec)) rulesWhyUptoCard

/-- THE SECOND FORM's CARD OF 'twinelaw11.RulesBelow'. -/
def rulesBelowUptoCard : Claim7 := { stood := { row := rulesBelowUptoRow, standIns := [], harness := (true, "0d3e15d43b276ef2201fa72e83176da106cc8e8e39cb8df289768ec603414409"), looks := false }, kinds := [], alts := [], laidByText := true, laidKinds := [.data, .data, .pinned], laidTests := true, laidLooks := .later }
def RulesBelowUptoCardSaid : Prop := Claim7.holds Tryd.pinned (.plain (OpenSpec.upto rulesBelowSpec)) rulesBelowUptoCard
end Rows
end Go.Proofs.YtoidibkcdkdneaaDoor
