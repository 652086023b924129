/-
  No cell of these rows narrows 'for every input' (looked for: loops, veiled, ifaces, maps, wideKeys, modest, calm, conditions, laid).
  DERIVED. THE GIVEN ROWS OF THIS SEAT. 6 by the template 'for every input the law returns true; each argument reads behind the call as it read before'; 0 by the template 'total and deterministic' (their statements: YtljamcgngojaeaaTotals.lean).
  GIVEN WITH THE SEED: the statements are not yours to turn. If you find one false, say at which input.
  Laid BY PROGRAM, IN A SANDBOX (cutbox-rows.mjs): the forced cells as the released guide's own fill.sh prints them over the translation ec3016aab82dbb7c… (all of the seat's roots in one cut). By AI agents, Wed Nov 11 2026. No macro, syntax, notation, axiom, sorry.
-/
import Derived.Test.YtljamcgngojaeaaChecked
import GoSem.Claim
import GoSem.ClaimJoined
import GoSem.ClaimMapViews
import Derived.JoinedTies
import Derived.KernelRfl
namespace Go.Proofs.Ytljamcgngojaeaa
/- THE CELL 'sum', in the pinned program and in every row, IS THE sha256 OF THE DUMP (.gsa) THAT YtljamcgngojaeaaProg.lean LOADS. Nothing in Lean hashes anything: it is a label: what it is worth is what the hold of that sum in a sandbox is worth. -/
noncomputable def Try.pinned : Pinned := { name := "ytljamcgngojaeaa", sum := "ec3016aab82dbb7cd99ccddf316ce43f479cd6b7d33d9a18e4360b97de97f391", checked := Try.checked }
namespace Rows
def none {H : Type} : Left H := { results := [], args := [] }

/-- 'twinelaw15.PlanNames': WHATEVER THE INPUT: true; the input reads as it did. -/
def planNamesSpec : ChangeSpec := { name := "planNames", fn := fun _ => fun
  | [] => { results := [.lit (.bool true)], args := [] }
  | _ => none }
def planNamesRow : OpenClaim := { program := "ytljamcgngojaeaa", sum := "ec3016aab82dbb7cd99ccddf316ce43f479cd6b7d33d9a18e4360b97de97f391", func := "twine/twinelaw15.PlanNames", spec := "planNames", apart := false }
def PlanNamesSaid : Prop := planNamesRow.holds Try.pinned (OpenSpec.ofChange planNamesSpec)

/-- ITS FALSE NEIGHBOUR: 'it returns false'. Refute it at one input. -/
def planNamesWrong : ChangeSpec := { name := "planNames", fn := fun _ => fun
  | [] => { results := [.lit (.bool false)], args := [] }
  | _ => none }
def PlanNamesWrongFalsely : Prop := planNamesRow.holds Try.pinned (OpenSpec.ofChange planNamesWrong)

/-- 'twinelaw15.PlanLeft': WHATEVER THE INPUT: true; the input reads as it did. -/
def planLeftSpec : ChangeSpec := { name := "planLeft", fn := fun _ => fun
  | [d1, d2] => { results := [.lit (.bool true)], args := [d1, d2] }
  | _ => none }
def planLeftRow : OpenClaim := { program := "ytljamcgngojaeaa", sum := "ec3016aab82dbb7cd99ccddf316ce43f479cd6b7d33d9a18e4360b97de97f391", func := "twine/twinelaw15.PlanLeft", spec := "planLeft", apart := false }
def PlanLeftSaid : Prop := planLeftRow.holds Try.pinned (OpenSpec.ofChange planLeftSpec)

/-- ITS FALSE NEIGHBOUR: 'it returns false'. Refute it at one input. -/
def planLeftWrong : ChangeSpec := { name := "planLeft", fn := fun _ => fun
  | [d1, d2] => { results := [.lit (.bool false)], args := [d1, d2] }
  | _ => none }
def PlanLeftWrongFalsely : Prop := planLeftRow.holds Try.pinned (OpenSpec.ofChange planLeftWrong)

/-- 'twinelaw15.PlanRoom': WHATEVER THE INPUT: true; the input reads as it did. -/
def planRoomSpec : ChangeSpec := { name := "planRoom", fn := fun _ => fun
  | [d1, d2] => { results := [.lit (.bool true)], args := [d1, d2] }
  | _ => none }
def planRoomRow : OpenClaim := { program := "ytljamcgngojaeaa", sum := "ec3016aab82dbb7cd99ccddf316ce43f479cd6b7d33d9a18e4360b97de97f391", func := "twine/twinelaw15.PlanRoom", spec := "planRoom", apart := false }
def PlanRoomSaid : Prop := planRoomRow.holds Try.pinned (OpenSpec.ofChange planRoomSpec)

/-- ITS FALSE NEIGHBOUR: 'it returns false'. Refute it at one input. -/
def planRoomWrong : ChangeSpec := { name := "planRoom", fn := fun _ => fun
  | [d1, d2] => { results := [.lit (.bool false)], args := [d1, d2] }
  | _ => none }
def PlanRoomWrongFalsely : Prop := planRoomRow.holds Try.pinned (OpenSpec.ofChange planRoomWrong)

/-- 'twinelaw15.PlanLong': WHATEVER THE INPUT: true; the input reads as it did. -/
def planLongSpec : ChangeSpec := { name := "planLong", fn := fun _ => fun
  | [d1, d2, d3] => { results := [.lit (.bool true)], args := [d1, d2, d3] }
  | _ => none }
def planLongRow : OpenClaim := { program := "ytljamcgngojaeaa", sum := "ec3016aab82dbb7cd99ccddf316ce43f479cd6b7d33d9a18e4360b97de97f391", func := "twine/twinelaw15.PlanLong", spec := "planLong", apart := false }
def PlanLongSaid : Prop := planLongRow.holds Try.pinned (OpenSpec.ofChange planLongSpec)

/-- ITS FALSE NEIGHBOUR: 'it returns false'. Refute it at one input. -/
def planLongWrong : ChangeSpec := { name := "planLong", fn := fun _ => fun
  | [d1, d2, d3] => { results := [.lit (.bool false)], args := [d1, d2, d3] }
  | _ => none }
def PlanLongWrongFalsely : Prop := planLongRow.holds Try.pinned (OpenSpec.ofChange planLongWrong)

/-- 'twinelaw15.PlanSides': WHATEVER THE INPUT: true; the input reads as it did. -/
def planSidesSpec : ChangeSpec := { name := "planSides", fn := fun _ => fun
  | [d1, d2] => { results := [.lit (.bool true)], args := [d1, d2] }
  | _ => none }
def planSidesRow : OpenClaim := { program := "ytljamcgngojaeaa", sum := "ec3016aab82dbb7cd99ccddf316ce43f479cd6b7d33d9a18e4360b97de97f391", func := "twine/twinelaw15.PlanSides", spec := "planSides", apart := false }
def PlanSidesSaid : Prop := planSidesRow.holds Try.pinned (OpenSpec.ofChange planSidesSpec)

/-- ITS FALSE NEIGHBOUR: 'it returns false'. Refute it at one input. -/
def planSidesWrong : ChangeSpec := { name := "planSides", fn := fun _ => fun
  | [d1, d2] => { results := [.lit (.bool false)], args := [d1, d2] }
  | _ => none }
def PlanSidesWrongFalsely : Prop := planSidesRow.holds Try.pinned (OpenSpec.ofChange planSidesWrong)

/-- 'twinelaw15.PlanFits': WHATEVER THE INPUT: true; the input reads as it did. -/
def planFitsSpec : ChangeSpec := { name := "planFits", fn := fun _ => fun
  | [d1, d2, d3, d4] => { results := [.lit (.bool true)], args := [d1, d2, d3, d4] }
  | _ => none }
def planFitsRow : OpenClaim := { program := "ytljamcgngojaeaa", sum := "ec3016aab82dbb7cd99ccddf316ce43f479cd6b7d33d9a18e4360b97de97f391", func := "twine/twinelaw15.PlanFits", spec := "planFits", apart := false }
def PlanFitsSaid : Prop := planFitsRow.holds Try.pinned (OpenSpec.ofChange planFitsSpec)

/-- ITS FALSE NEIGHBOUR: 'it returns false'. Refute it at one input. -/
def planFitsWrong : ChangeSpec := { name := "planFits", fn := fun _ => fun
  | [d1, d2, d3, d4] => { results := [.lit (.bool false)], args := [d1, d2, d3, d4] }
  | _ => none }
def PlanFitsWrongFalsely : Prop := planFitsRow.holds Try.pinned (OpenSpec.ofChange planFitsWrong)

/- THE SECOND FORM. 'bulk': how many values and letters a reading holds, each counted each time it is reached (what is shared counts as often as it is met; a slice's spare places count too). A statement '..UptoSaid' is the law's where the arguments, and the package variables that the reading takes, are together of bulk at most 1048576: NARROWER than '..Said'. Prove '..Said' where nothing that the law and all that it calls make is longer than what came in: it says more and counts as full. Else prove '..UptoSaid'. A law counts once. -/
mutual
def uptoBulk {H : Type} : DataW H → Nat
  | .lit (.string bytes) => bytes.length + 1
  | .lit _ => 1
  | .nil => 1
  | .ptr d => uptoBulk d + 1
  | .slice elems spare => uptoBulkAll elems + uptoBulkAll spare + 1
  | .agg parts => uptoBulkAll parts + 1
  | .iface _ d => uptoBulk d + 1
  | .map entries => uptoBulkEntries entries + 1
  | .held _ => 1
def uptoBulkAll {H : Type} : List (DataW H) → Nat
  | [] => 0
  | d :: r => uptoBulk d + uptoBulkAll r
def uptoBulkEntries {H : Type} : List (Lit × DataW H) → Nat
  | [] => 0
  | x :: r => uptoBulkEntry x + uptoBulkEntries r
def uptoBulkEntry {H : Type} : Lit × DataW H → Nat
  | (.string bytes, d) => bytes.length + uptoBulk d + 1
  | (_, d) => uptoBulk d + 1
 end
def uptoSmall : (H : Type) → List (DataW H) → Bool := fun _ ds => decide (uptoBulkAll ds ≤ 1048576)
def OpenSpec.upto (s : _root_.Go.ChangeSpec) : _root_.Go.OpenSpec := { _root_.Go.OpenSpec.ofChange s with cond := some uptoSmall }

/-- 'twinelaw15.PlanNames', WHERE WHAT IT READS IS OF BULK AT MOST 1048576: true; the input reads as it did. -/
def planNamesUptoRow : OpenClaim := { program := "ytljamcgngojaeaa", sum := "ec3016aab82dbb7cd99ccddf316ce43f479cd6b7d33d9a18e4360b97de97f391", func := "twine/twinelaw15.PlanNames", spec := "planNames", apart := false, narrowed := true }
def PlanNamesUptoSaid : Prop := planNamesUptoRow.holds Try.pinned (OpenSpec.upto planNamesSpec)

/-- 'twinelaw15.PlanLeft', WHERE WHAT IT READS IS OF BULK AT MOST 1048576: true; the input reads as it did. -/
def planLeftUptoRow : OpenClaim := { program := "ytljamcgngojaeaa", sum := "ec3016aab82dbb7cd99ccddf316ce43f479cd6b7d33d9a18e4360b97de97f391", func := "twine/twinelaw15.PlanLeft", spec := "planLeft", apart := false, narrowed := true }
def PlanLeftUptoSaid : Prop := planLeftUptoRow.holds Try.pinned (OpenSpec.upto planLeftSpec)

/-- 'twinelaw15.PlanRoom', WHERE WHAT IT READS IS OF BULK AT MOST 1048576: true; the input reads as it did. -/
def planRoomUptoRow : OpenClaim := { program := "ytljamcgngojaeaa", sum := "ec3016aab82dbb7cd99ccddf316ce43f479cd6b7d33d9a18e4360b97de97f391", func := "twine/twinelaw15.PlanRoom", spec := "planRoom", apart := false, narrowed := true }
def PlanRoomUptoSaid : Prop := planRoomUptoRow.holds Try.pinned (OpenSpec.upto planRoomSpec)

/-- 'twinelaw15.PlanLong', WHERE WHAT IT READS IS OF BULK AT MOST 1048576: true; the input reads as it did. -/
def planLongUptoRow : OpenClaim := { program := "ytljamcgngojaeaa", sum := "ec3016aab82dbb7cd99ccddf316ce43f479cd6b7d33d9a18e4360b97de97f391", func := "twine/twinelaw15.PlanLong", spec := "planLong", apart := false, narrowed := true }
def PlanLongUptoSaid : Prop := planLongUptoRow.holds Try.pinned (OpenSpec.upto planLongSpec)

/-- 'twinelaw15.PlanSides', WHERE WHAT IT READS IS OF BULK AT MOST 1048576: true; the input reads as it did. -/
def planSidesUptoRow : OpenClaim := { program := "ytljamcgngojaeaa", sum := "ec3016aab82dbb7cd99ccddf316ce43f479cd6b7d33d9a18e4360b97de97f391", func := "twine/twinelaw15.PlanSides", spec := "planSides", apart := false, narrowed := true }
def PlanSidesUptoSaid : Prop := planSidesUptoRow.holds Try.pinned (OpenSpec.upto planSidesSpec)

/-- 'twinelaw15.PlanFits', WHERE WHAT IT READS IS OF BULK AT MOST 1048576: true; the input reads as it did. -/
def planFitsUptoRow : OpenClaim := { program := "ytljamcgngojaeaa", sum := "ec3016aab82dbb7cd99ccddf316ce43f479cd6b7d33d9a18e4360b97de97f391", func := "twine/twinelaw15.PlanFits", spec := "planFits", apart := false, narrowed := true }
def PlanFitsUptoSaid : Prop := planFitsUptoRow.holds Try.pinned (OpenSpec.upto planFitsSpec)

end Rows
end Go.Proofs.Ytljamcgngojaeaa
