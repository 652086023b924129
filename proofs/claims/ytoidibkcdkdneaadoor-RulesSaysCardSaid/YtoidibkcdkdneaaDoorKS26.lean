/- The last of 27 texts that prove the statement of RowSays; it holds without conditions beyond the statement's own. -/
import Derived.Laws.AppendOwn
import Derived.Laws.OwnMore
import Derived.Deep.MidRow
import Derived.Calls
import Derived.Deep.AppendSrc
import Derived.Maps.AppendAt
import Derived.IntWalk
import Derived.Tactics
import Derived.Laws.StructEq
import Derived.Orders
import Derived.Scope
import Derived.Deep.LoopGhost
import GoSem.Core.Utf8
import Derived.Laws.RangeAny
import Derived.Below
import Derived.Deep.Draws
import Derived.Deep.AppendLies
import Derived.OwnWalk
import Derived.Laws.BytesArg
import Derived.Laws.MakeOwn
import Derived.Deep.OwnRows
import Derived.Lib.ConvBytes
import Derived.Laws.Slices
import Derived.WalkKit
import Derived.KernelRfl
import Derived.RowKit3
import Derived.Deep.QuietTactic
import Derived.BigQuiet
import Derived.WideLaws
import Derived.Deep.DeepCutAuto
import Derived.Deep.CutBlock
import Derived.Deep.RegionHeld3
import Derived.Laws.Rows
import Derived.Lib.AppendStr
import Derived.ArgAppend
import Derived.Laws.IdiomCopy
import Derived.RowKit
import Derived.OrdersHeld
import Derived.Laws.BitsLemmas
import Derived.Test.YtoidibkcdkdneaaDoorProg
import Derived.Lib.OthersKept
import Derived.WalkSmall
import Derived.Shelf.Strings.Builder1
import Derived.Shelf.Strings.Builder2
import Derived.Shelf.Strings.OnBuilder
import Derived.Shelf.Small.Wraps
import Derived.Shelf.Strings.Search1
import Derived.Shelf.Strings.Search2
import Derived.Shelf.Strings.Search3
import Derived.Shelf.Strings.Count
import Derived.Shelf.LaysM
import Derived.Shelf.Strings.Shaped
import Derived.Shelf.Strings.LastIndex
import Derived.Shelf.Strings.Prefix
import Derived.Shelf.Strings.Split
import Derived.Shelf.Unicode.DecodeSlow
import Derived.WalkLawsBesides
import Derived.StillTailTactics
import Derived.Lib.Split
import Derived.Lib.LastIndexByte
import Derived.Lib.Join
import Derived.Shelf.Vars
import Derived.ChangeArms
import Derived.Test.YtoidibkcdkdneaaDoorRows
import Derived.ProofKit
import Derived.ChangeMaps5
import Derived.ChangeOld
import Derived.ChangeSame
import Derived.Carry
import Derived.SizedLaws
import Derived.Lay
import Derived.LaidLaws
import Derived.MakeChecks
import Derived.Lib.LaidTab
import Derived.SevenTiedAt
import Derived.OpenShut
import Derived.SliceStrings
import Derived.Test.YtoidibkcdkdneaaDoorTie
import Derived.Test.YtoidibkcdkdneaaDoorCards
import Derived.ChangeSlices
import Derived.Test.YtoidibkcdkdneaaDoorKS23
import Derived.Test.YtoidibkcdkdneaaDoorKS25
namespace Foot
end Foot
namespace Go.Proofs
end Go.Proofs
namespace Go.Proofs.YtoidibkcdkdneaaDoor
end Go.Proofs.YtoidibkcdkdneaaDoor
namespace Go.Proofs.YtoidibkcdkdneaaDoor.E
end Go.Proofs.YtoidibkcdkdneaaDoor.E
namespace Go.Proofs.YtoidibkcdkdneaaDoor.Hand
end Go.Proofs.YtoidibkcdkdneaaDoor.Hand
namespace Go.Proofs.YtoidibkcdkdneaaDoor.MPat
end Go.Proofs.YtoidibkcdkdneaaDoor.MPat
namespace Go.Proofs.YtoidibkcdkdneaaDoor.MStr
end Go.Proofs.YtoidibkcdkdneaaDoor.MStr
namespace Go.Proofs.YtoidibkcdkdneaaDoor.PRead
end Go.Proofs.YtoidibkcdkdneaaDoor.PRead
namespace Go.Proofs.YtoidibkcdkdneaaDoor.PSplit
end Go.Proofs.YtoidibkcdkdneaaDoor.PSplit
namespace Go.Proofs.YtoidibkcdkdneaaDoor.R
end Go.Proofs.YtoidibkcdkdneaaDoor.R
namespace Go.Proofs.YtoidibkcdkdneaaDoor.T
end Go.Proofs.YtoidibkcdkdneaaDoor.T
namespace Go.Proofs.YtoidibkcdkdneaaDoor.TR
end Go.Proofs.YtoidibkcdkdneaaDoor.TR
namespace Go.Proofs.YtoidibkcdkdneaaDoor.TrulesSays
end Go.Proofs.YtoidibkcdkdneaaDoor.TrulesSays
namespace Go.Proofs.YtoidibkcdkdneaaDoorW.PrintLast
end Go.Proofs.YtoidibkcdkdneaaDoorW.PrintLast
namespace Go.Proofs.YtoidibkcdkdneaaDoorW.PrintMore
end Go.Proofs.YtoidibkcdkdneaaDoorW.PrintMore
namespace Go.Proofs.YtoidibkcdkdneaaDoorW.PrintWords
end Go.Proofs.YtoidibkcdkdneaaDoorW.PrintWords
namespace Kd
end Kd
section
namespace Go.Proofs.YtoidibkcdkdneaaDoor.TrulesSays
open Go.ChangeMaps Go.ChangeShapes Go.WideShapes Go.ChangeAt Go.RowKit Go.Proofs.YtoidibkcdkdneaaDoor.E Go.Proofs.YtoidibkcdkdneaaDoor.T Go.Proofs.YtoidibkcdkdneaaDoor.TR
set_option maxRecDepth 100000
set_option linter.unusedVariables false
set_option linter.unusedSimpArgs false
theorem func : Tryd.prog.funcs[3]? = some Tryd.f3 := by kernel_rfl
theorem params : Tryd.f3.params = #[9, 22] := rfl
theorem laidOut : laidOutB Tryd.prog = true := by kernel_rfl
theorem lifted (os : Os) (started : os.Started) (H : Type) (enc : TypeId × Value → H) :
    ReturnsInHanded {} Tryd.checked os 3 .any (fun w args => (Rows.rulesSaysSpec.pre enc Tryd.prog Tryd.f3 [] false w args ∧ laidMetH Tryd.prog laid w) ∧ sizedMet enc Tryd.prog Tryd.f3 (OpenSpec.ofChange Rows.rulesSaysSpec) false w args)
      (Rows.rulesSaysSpec.post enc Tryd.prog Tryd.f3 false true false false) := by
  refine rih (C := Tryd.checked) (X := fun w _ => laidMetH Tryd.prog laid w) (fun _ _ _ hh h => h.of_heap hh) own started (by kernel_rfl) func
    (ChangeSpec.witness_shaped (enc := enc) (C := Tryd.checked) (os := os) (X := fun w _ => laidMetH Tryd.prog laid w) false (World.laidAll Tryd.prog os laid) #[.string ⟨#[]⟩, .slice none 0 0] 8 (World.laidAll_os _ _ _) (World.shaped_of_ZipB (by kernel_rfl) (by kernel_rfl)) (by kernel_rfl) (by kernel_rfl) (by kernel_rfl)
      (by show laidMetH _ _ _; rw [MakeChecks.laidMetH_plain _ _ _ (by kernel_rfl)]; exact laidMet_laidAll _ (by kernel_rfl) (by kernel_rfl))) ?_
  intro W base args ds gs before hsh hval0 hW hL
  have hval : ∀ (j : Nat) t v, Tryd.f3.params[j]? = some t → args[j]? = some v → Value.okWide Tryd.prog W .any base t v := hval0
  have hW' := hW
  obtain ⟨p, q, hA0, hV, rfl, hfz, hnd⟩ := hW
  have hA : DataW.TrodAll enc Tryd.prog W 0 (fun _ => true) true Tryd.f3.params.toList args.toList ds p := hA0
  rw [params] at hA hval
  obtain ⟨v0, vs0, d0, ds0, p0, q0, hargs, rfl, rfl, h0, r0⟩ := trodAll_cons hA
  obtain ⟨v1, vs1, d1, ds1, p1, q1, rfl, rfl, rfl, h1, r1⟩ := trodAll_cons r0
  obtain ⟨rfl, rfl, rfl⟩ := trodAll_nil r1
  obtain rfl : args = #[v0, v1] := by cases args; simp_all
  obtain ⟨rfl, rfl⟩ := trodVars_none hV
  obtain ⟨a0, rfl, rfl, rfl, w0⟩ := open_string us (hval 0 9 v0 rfl rfl) h0
  have k1 := h1
  have lt1 : ∀ x ∈ p1, x.block < W.heap.size := by obtain ⟨m, hm⟩ := k1; exact DataW.trod_lt m _ _ _ hm
  have hv1 : Value.okWide Tryd.prog W .any base 22 v1 := hval 1 22 v1 rfl rfl
  clear hA0 hval0
  obtain ⟨t, ht⟩ := lies hsh hL
  have hs0 : a0.size ≤ 9223372036854775807 := by
    have := w0
    unfold maxLen at this
    omega
  suffices hc : Calls Tryd.prog 3 #[.string a0, v1] W fun e W' => e = .returned (.bool true) ∧ Below W.heap.size W W' by
    refine hc.mono fun e W' he => ?_
    obtain ⟨rfl, bel⟩ := he
    exact ⟨_, rfl, _, _, _, [], _, [], hW', trodAll_mk1 (shut_bool ub _), (trodAll_cons_mk (shut_string us w0) (trodAll_cons_mk (Below.trod laidOut (by kernel_rfl) (of_decide_eq_true (by kernel_rfl)) k1 bel lt1) trodAll_mk0)), rfl, bel.frame _, fun h => by cases h⟩
  rcases open_paths hv1 h1 with ⟨x, hx, hsl⟩ | ⟨l, blk, off, c, ob, hP, rfl, hll, hls⟩
  · have hc := (says_ok a0 [] t (bagT t)).calls ⟨ht.has, hs0, Nat.zero_le _, fun x hx => by cases hx⟩ (fun _ => x) W [.string a0, v1] (startE ht.ok hx)
      ⟨rfl, hsl, trivial⟩ (fun y hy => by
        have hy : y ∈ ([strv a0, .one (.c (.slc 1 0 0 none))] : List VV) := hy
        simp only [List.mem_cons, List.not_mem_nil, or_false] at hy
        rcases hy with rfl | rfl <;> (intro n hn; simp [C.nm] at hn <;> (subst hn; exact Nat.one_lt_two)))
    refine hc.mono fun e W' he => ?_
    obtain ⟨v', rfl, r', vv, H', ⟨ψ, hE, rfl, rfl⟩, hv, _, _, _, _, hst⟩ := he
    have hv' : v' = .bool true := hv
    subst hv'
    exact ⟨rfl, belowB (A := [.ro Kd.str ([] : List ByteArray)]) (B := [.gone]) (fixedT t) ht.ok hE (fun n b hb => by
      match n, hb with
      | 0, _ => rfl
      | 1, hb => exact hb.elim
      | n + 2, hb => exact (show False from by rw [blkOf, at_ge (by show 2 ≤ n + 2; omega)] at hb; exact hb).elim) hst⟩
  · obtain ⟨hT, hV⟩ := hasP hP ht
    have hc := (saysL_ok a0 l blk off c ob t (bagP t l blk off ob)).calls ⟨hT, hV, hs0, hll, hls⟩ (fun _ => rz) W [.string a0, .slice (some ⟨blk, off, none⟩) l.length c] (startB (okP hP ht))
      ⟨rfl, rfl, trivial⟩ (fun y hy => by
        have hy : y ∈ ([strv a0, .one (.c (.ls 9 blk off l.length c))] : List VV) := hy
        simp only [List.mem_cons, List.not_mem_nil, or_false] at hy
        rcases hy with rfl | rfl <;> exact lt_of_nm rfl)
    refine hc.mono fun e W' he => ?_
    obtain ⟨v', rfl, r', vv, H', ⟨ψ, hE, rfl, rfl⟩, hv, _, _, _, _, hst⟩ := he
    have hv' : v' = .bool true := hv
    subst hv'
    exact ⟨rfl, belowB (A := []) (B := []) (fixedP t l blk off ob) (okP hP ht) hE (fun n b hb => by
      match n, hb with
      | 0, _ => rfl
      | n + 1, hb => exact (show False from by rw [blkOf, at_ge (by show 1 ≤ n + 1; omega)] at hb; exact hb).elim) hst⟩
theorem over : Rows.rulesSaysRow.holds Tryd.pinned (OpenSpec.ofChange Rows.rulesSaysSpec) :=
  OpenClaim.holds_of_wide 3 Tryd.f3 rfl rfl rfl rfl rfl rfl rfl ⟨rfl, rfl, rfl, rfl, rfl⟩ rfl rfl rfl rfl rfl (by kernel_rfl) func (by kernel_rfl)
    (of_decide_eq_true (by kernel_rfl)) (by unfold Func.isWrapper; first | (rw [if_pos (by decide +kernel)]; kernel_rfl) | (rw [if_neg (by decide +kernel)]; exact ⟨rfl, rfl⟩))
    (fun os started H enc _ => lifted os started H enc)
theorem card : Rows.RulesSaysCardSaid :=
  Claim7.holds_tied_plain_at .later [] [.data, .data, .pinned] true (true, "0d3e15d43b276ef2201fa72e83176da106cc8e8e39cb8df289768ec603414409") false
    over (fun _ h => by cases h) (by kernel_rfl) (fun _ h => by cases h) rulesSays_row_tie rfl ⟨rfl, rfl⟩ (by kernel_rfl) rfl
    (fun f fn hf hfn => by
      obtain rfl : f = 3 := Option.some.inj ((show Tryd.prog.funcNamed "twine/twinelaw11.RulesSays" = some 3 by kernel_rfl).symm.trans hf) |>.symm
      obtain rfl : fn = Tryd.f3 := (Option.some.inj (func.symm.trans hfn)).symm
      exact ⟨by kernel_rfl, fun j t ht => by
        rw [params] at ht
        have hm : t ∈ [9, 22] := by simpa using Array.mem_of_getElem? ht
        have hall : ([9, 22].all fun u => !Tryd.prog.wantsStandIn u) = true := by kernel_rfl
        exact (show Tryd.prog.wantsStandIn t = false by simpa using List.all_eq_true.1 hall t hm)⟩)
    (by kernel_rfl)
end Go.Proofs.YtoidibkcdkdneaaDoor.TrulesSays
namespace Go.Proofs.YtoidibkcdkdneaaDoor
theorem rulesSays_holds : Rows.RulesSaysCardSaid := TrulesSays.card
#print axioms rulesSays_holds
end Go.Proofs.YtoidibkcdkdneaaDoor
end
