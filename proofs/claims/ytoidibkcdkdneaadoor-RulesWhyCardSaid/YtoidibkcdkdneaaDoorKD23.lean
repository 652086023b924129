/- The last of 24 texts that prove the statement of RowWhy; it holds without conditions beyond the statement's own. -/
import Derived.Laws.AppendOwn
import Derived.Laws.OwnMore
import Derived.Deep.MidRow
import Derived.Calls
import Derived.Deep.AppendSrc
import Derived.Maps.AppendAt
import Derived.IntWalk
import Derived.Tactics
import Derived.Laws.StructEq
import Derived.Orders
import Derived.Scope
import Derived.Deep.LoopGhost
import GoSem.Core.Utf8
import Derived.Laws.RangeAny
import Derived.Below
import Derived.Deep.Draws
import Derived.Deep.AppendLies
import Derived.OwnWalk
import Derived.Laws.BytesArg
import Derived.Laws.MakeOwn
import Derived.Deep.OwnRows
import Derived.Lib.ConvBytes
import Derived.Laws.Slices
import Derived.WalkKit
import Derived.KernelRfl
import Derived.RowKit3
import Derived.Deep.QuietTactic
import Derived.BigQuiet
import Derived.WideLaws
import Derived.Deep.DeepCutAuto
import Derived.Deep.CutBlock
import Derived.Deep.RegionHeld3
import Derived.Laws.Rows
import Derived.Lib.AppendStr
import Derived.ArgAppend
import Derived.Laws.IdiomCopy
import Derived.RowKit
import Derived.OrdersHeld
import Derived.Laws.BitsLemmas
import Derived.Test.YtoidibkcdkdneaaDoorProg
import Derived.Lib.OthersKept
import Derived.WalkSmall
import Derived.Shelf.Strings.Builder1
import Derived.Shelf.Strings.Builder2
import Derived.Shelf.Strings.OnBuilder
import Derived.Shelf.Small.Wraps
import Derived.Shelf.Strings.Search1
import Derived.Shelf.Strings.Search2
import Derived.Shelf.Strings.Search3
import Derived.Shelf.Strings.Count
import Derived.Shelf.LaysM
import Derived.Shelf.Strings.Shaped
import Derived.Shelf.Strings.LastIndex
import Derived.Shelf.Strings.Prefix
import Derived.Shelf.Strings.Split
import Derived.Shelf.Unicode.DecodeSlow
import Derived.WalkLawsBesides
import Derived.StillTailTactics
import Derived.Lib.Split
import Derived.Lib.LastIndexByte
import Derived.Lib.Join
import Derived.Shelf.Vars
import Derived.ChangeArms
import Derived.Test.YtoidibkcdkdneaaDoorRows
import Derived.ProofKit
import Derived.ChangeMaps5
import Derived.ChangeOld
import Derived.ChangeSame
import Derived.Carry
import Derived.SizedLaws
import Derived.Lay
import Derived.LaidLaws
import Derived.MakeChecks
import Derived.Lib.LaidTab
import Derived.SevenTiedAt
import Derived.OpenShut
import Derived.Test.YtoidibkcdkdneaaDoorTie
import Derived.Test.YtoidibkcdkdneaaDoorCards
import Derived.Test.YtoidibkcdkdneaaDoorKD21
import Derived.Test.YtoidibkcdkdneaaDoorKD22
namespace Foot
end Foot
namespace Go.Proofs
end Go.Proofs
namespace Go.Proofs.YtoidibkcdkdneaaDoor
end Go.Proofs.YtoidibkcdkdneaaDoor
namespace Go.Proofs.YtoidibkcdkdneaaDoor.E
end Go.Proofs.YtoidibkcdkdneaaDoor.E
namespace Go.Proofs.YtoidibkcdkdneaaDoor.Hand
end Go.Proofs.YtoidibkcdkdneaaDoor.Hand
namespace Go.Proofs.YtoidibkcdkdneaaDoor.MPat
end Go.Proofs.YtoidibkcdkdneaaDoor.MPat
namespace Go.Proofs.YtoidibkcdkdneaaDoor.MStr
end Go.Proofs.YtoidibkcdkdneaaDoor.MStr
namespace Go.Proofs.YtoidibkcdkdneaaDoor.PRead
end Go.Proofs.YtoidibkcdkdneaaDoor.PRead
namespace Go.Proofs.YtoidibkcdkdneaaDoor.PSplit
end Go.Proofs.YtoidibkcdkdneaaDoor.PSplit
namespace Go.Proofs.YtoidibkcdkdneaaDoor.R
end Go.Proofs.YtoidibkcdkdneaaDoor.R
namespace Go.Proofs.YtoidibkcdkdneaaDoor.T
end Go.Proofs.YtoidibkcdkdneaaDoor.T
namespace Go.Proofs.YtoidibkcdkdneaaDoor.TR
end Go.Proofs.YtoidibkcdkdneaaDoor.TR
namespace Go.Proofs.YtoidibkcdkdneaaDoor.TrulesWhy
end Go.Proofs.YtoidibkcdkdneaaDoor.TrulesWhy
namespace Go.Proofs.YtoidibkcdkdneaaDoorW.PrintLast
end Go.Proofs.YtoidibkcdkdneaaDoorW.PrintLast
namespace Go.Proofs.YtoidibkcdkdneaaDoorW.PrintMore
end Go.Proofs.YtoidibkcdkdneaaDoorW.PrintMore
namespace Go.Proofs.YtoidibkcdkdneaaDoorW.PrintWords
end Go.Proofs.YtoidibkcdkdneaaDoorW.PrintWords
namespace Kd
end Kd
section
namespace Go.Proofs.YtoidibkcdkdneaaDoor.TrulesWhy
open Go.ChangeMaps Go.ChangeShapes Go.WideShapes Go.ChangeAt Go.RowKit Go.Proofs.YtoidibkcdkdneaaDoor.E Go.Proofs.YtoidibkcdkdneaaDoor.T Go.Proofs.YtoidibkcdkdneaaDoor.TR
set_option maxRecDepth 100000
set_option linter.unusedVariables false
set_option linter.unusedSimpArgs false
theorem func : Tryd.prog.funcs[5]? = some Tryd.f5 := by kernel_rfl
theorem params : Tryd.f5.params = #[9, 9] := rfl
theorem lifted (os : Os) (started : os.Started) (H : Type) (enc : TypeId × Value → H) :
    ReturnsInHanded {} Tryd.checked os 5 .any (fun w args => (Rows.rulesWhySpec.pre enc Tryd.prog Tryd.f5 [] false w args ∧ laidMetH Tryd.prog laid w) ∧ sizedMet enc Tryd.prog Tryd.f5 (OpenSpec.ofChange Rows.rulesWhySpec) false w args)
      (Rows.rulesWhySpec.post enc Tryd.prog Tryd.f5 false true false false) := by
  refine rih (C := Tryd.checked) (X := fun w _ => laidMetH Tryd.prog laid w) (fun _ _ _ hh h => h.of_heap hh) own started (by kernel_rfl) func
    (ChangeSpec.witness_shaped (enc := enc) (C := Tryd.checked) (os := os) (X := fun w _ => laidMetH Tryd.prog laid w) false (World.laidAll Tryd.prog os laid) #[.string ⟨#[]⟩, .string ⟨#[]⟩] 8 (World.laidAll_os _ _ _) (World.shaped_of_ZipB (by kernel_rfl) (by kernel_rfl)) (by kernel_rfl) (by kernel_rfl) (by kernel_rfl)
      (by show laidMetH _ _ _; rw [MakeChecks.laidMetH_plain _ _ _ (by kernel_rfl)]; exact laidMet_laidAll _ (by kernel_rfl) (by kernel_rfl))) ?_
  intro W base args ds gs before hsh hval0 hW hL
  have hval : ∀ (j : Nat) t v, Tryd.f5.params[j]? = some t → args[j]? = some v → Value.okWide Tryd.prog W .any base t v := hval0
  have hW' := hW
  obtain ⟨p, q, hA0, hV, rfl, hfz, hnd⟩ := hW
  have hA : DataW.TrodAll enc Tryd.prog W 0 (fun _ => true) true Tryd.f5.params.toList args.toList ds p := hA0
  rw [params] at hA hval
  obtain ⟨v0, vs0, d0, ds0, p0, q0, hargs, rfl, rfl, h0, r0⟩ := trodAll_cons hA
  obtain ⟨v1, vs1, d1, ds1, p1, q1, rfl, rfl, rfl, h1, r1⟩ := trodAll_cons r0
  obtain ⟨rfl, rfl, rfl⟩ := trodAll_nil r1
  obtain rfl : args = #[v0, v1] := by cases args; simp_all
  obtain ⟨rfl, rfl⟩ := trodVars_none hV
  obtain ⟨a0, rfl, rfl, rfl, w0⟩ := open_string us (hval 0 9 v0 rfl rfl) h0
  obtain ⟨a1, rfl, rfl, rfl, w1⟩ := open_string us (hval 1 9 v1 rfl rfl) h1
  clear hA0 hval0
  obtain ⟨t, ht⟩ := lies hsh hL
  have hc := (whyL_ok a0 a1 t (bagT t)).calls ht.has (fun _ => ⟨0, 0, 0, false, 0⟩) W [.string a0, .string a1] (Go.Proofs.YtoidibkcdkdneaaDoor.TR.start ht)
    ⟨rfl, rfl, trivial⟩ (fun y hy => by
      have hy : y ∈ ([strv a0, strv a1] : List VV) := hy
      simp only [List.mem_cons, List.not_mem_nil, or_false] at hy
      rcases hy with rfl | rfl <;> exact lt_of_nm rfl)
  refine hc.mono fun e W' he => ?_
  obtain ⟨v', rfl, r', vv, H', ⟨ψ, hE, rfl, rfl⟩, hv, _, _, _, _, hst⟩ := he
  have hv' : v' = .bool true := hv
  subst hv'
  have bel : Below W.heap.size W W' := below_of ht hE hst
  exact ⟨_, rfl, _, _, _, [], _, [], hW', trodAll_mk1 (shut_bool ub _), (trodAll_cons_mk (shut_string us w0) (trodAll_cons_mk (shut_string us w1) trodAll_mk0)), rfl, bel.frame _, fun h => by cases h⟩
theorem over : Rows.rulesWhyRow.holds Tryd.pinned (OpenSpec.ofChange Rows.rulesWhySpec) :=
  OpenClaim.holds_of_wide 5 Tryd.f5 rfl rfl rfl rfl rfl rfl rfl ⟨rfl, rfl, rfl, rfl, rfl⟩ rfl rfl rfl rfl rfl (by kernel_rfl) func (by kernel_rfl)
    (of_decide_eq_true (by kernel_rfl)) (by unfold Func.isWrapper; first | (rw [if_pos (by decide +kernel)]; kernel_rfl) | (rw [if_neg (by decide +kernel)]; exact ⟨rfl, rfl⟩))
    (fun os started H enc _ => lifted os started H enc)
theorem card : Rows.RulesWhyCardSaid :=
  Claim7.holds_tied_plain_at .later [] [.data, .data, .pinned] true (true, "0d3e15d43b276ef2201fa72e83176da106cc8e8e39cb8df289768ec603414409") false
    over (fun _ h => by cases h) (by kernel_rfl) (fun _ h => by cases h) rulesWhy_row_tie rfl ⟨rfl, rfl⟩ (by kernel_rfl) rfl
    (fun f fn hf hfn => by
      obtain rfl : f = 5 := Option.some.inj ((show Tryd.prog.funcNamed "twine/twinelaw11.RulesWhy" = some 5 by kernel_rfl).symm.trans hf) |>.symm
      obtain rfl : fn = Tryd.f5 := (Option.some.inj (func.symm.trans hfn)).symm
      exact ⟨by kernel_rfl, fun j t ht => by
        rw [params] at ht
        have hm : t ∈ [9, 9] := by simpa using Array.mem_of_getElem? ht
        have hall : ([9, 9].all fun u => !Tryd.prog.wantsStandIn u) = true := by kernel_rfl
        exact (show Tryd.prog.wantsStandIn t = false by simpa using List.all_eq_true.1 hall t hm)⟩)
    (by kernel_rfl)
end Go.Proofs.YtoidibkcdkdneaaDoor.TrulesWhy
namespace Go.Proofs.YtoidibkcdkdneaaDoor
theorem rulesWhy_holds : Rows.RulesWhyCardSaid := TrulesWhy.card
#print axioms rulesWhy_holds
end Go.Proofs.YtoidibkcdkdneaaDoor
end
