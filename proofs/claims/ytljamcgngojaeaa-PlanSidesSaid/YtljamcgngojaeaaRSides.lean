/- The row of the law PlanSides: whatever its arguments, it returns true and leaves what was there as it was. Conditions: none. -/
import Derived.Test.YtljamcgngojaeaaRows
import Derived.Test.YtljamcgngojaeaaPw
import Derived.Test.YtljamcgngojaeaaPn
import Derived.WalkKit
import Derived.ProofKit
import Derived.OpenShut
import Derived.ChangeOld
import Derived.Below
import Derived.SizedLaws
namespace Go.Proofs.Ytljamcgngojaeaa.TplanSides
open Go.ChangeShapes Go.WideShapes Go.ChangeAt Go.RowKit Go.Proofs.Ytljamcgngojaeaa.E Go.Proofs.Ytljamcgngojaeaa.T
set_option linter.unusedVariables false
set_option linter.unusedSimpArgs false
theorem own : ownKnob Try.prog.godebug = none := by kernel_rfl
theorem laidOut : laidOutB Try.prog = true := by kernel_rfl
theorem func : Try.prog.funcs[7]? = some Try.f7 := by kernel_rfl
theorem params : Try.f7.params = #[25, 3] := rfl
theorem u4 : Try.prog.underlying 4 = some .bool := by kernel_rfl
theorem i64_of {z : Int} (h : wfB z) : i64ok z := by
  simp only [wfB, Lit.wf, Bool.and_eq_true, decide_eq_true_eq] at h
  have e1 : IntKind.i64.min = -9223372036854775808 := by kernel_rfl
  have e2 : IntKind.i64.max = 9223372036854775807 := by kernel_rfl
  rw [e1, e2] at h
  exact h
theorem cells_of {l : List Cell} (h : ∀ c ∈ l, CellWf c) : Cells l := fun c hc => by
  have := h c hc
  exact ⟨i64_of this.what, i64_of this.side, i64_of this.mode, i64_of this.keep, i64_of this.take, i64_of this.names, i64_of this.bytes, i64_of this.hadN, i64_of this.hadB⟩
theorem paths_of {l : List Cell} (h : ∀ c ∈ l, CellWf c) (hl : l.length ≤ maxLen) : Paths l := by
  unfold maxLen at hl
  refine ⟨by unfold i64ok; omega, fun c hc => ?_⟩
  have := (h c hc).path
  unfold maxLen at this
  unfold i64ok
  omega
theorem start {W : World} {x : Ref} {l : List Cell} {s : Value} (hs : ∀ r : Nat → Ref, r 0 = x → (C.slc 0 0 l.length none).is r s) (ho : ∀ r : Nat → Ref, (Atom.ro (K := KK) .cell l).ok r x W) :
    HeapOK (Ours (fun _ => x) ([.ro .cell l] : VH KK)) W (fun _ => x) ([.ro .cell l] : VH KK) W := by
  have nb : ∀ n b, blkOf (fun _ => x) ([.ro .cell l] : VH KK) n ≠ some b := fun n b => by
    cases n with
    | zero => simp [blkOf, at_, Atom.blk]
    | succ n => simp [blkOf, at_, Atom.blk]
  refine ⟨fun n => ?_, fun n => ?_, fun n m b _ h => absurd h (nb n b), fun n b h => absurd h (nb n b), fun n m b _ => nb m b, ⟨rfl, rfl, rfl, Nat.le_refl _, fun _ _ _ => rfl⟩⟩
  · cases n with
    | zero => exact ho _
    | succ n => simp [at_, Atom.ok]
  · cases n with
    | zero => trivial
    | succ n => simp [at_, Atom.lt]
set_option maxRecDepth 100000 in
theorem lifted (os : Os) (started : os.Started) (H : Type) (enc : TypeId × Value → H) :
    ReturnsInHanded {} Try.checked os 7 .any (Rows.planSidesSpec.pre6 enc Try.prog Try.f7 Rows.planSidesRow.domain false) (Rows.planSidesSpec.post enc Try.prog Try.f7 false true false false) := by
  refine returnsInHanded_of_change_sized (C := Try.checked) own started (by kernel_rfl) func
    (ChangeSpec.witness6 (enc := enc) (C := Try.checked) false ⟨#[], #[.agg #[.slice none 0 0], .int .i64 0], []⟩ 8 (by kernel_rfl) (by kernel_rfl) (by kernel_rfl) (by kernel_rfl)) ?_
  intro W base args ds gs before hval0 hW hcnd hsz0 _
  have hval : ∀ (j : Nat) t v, Try.f7.params[j]? = some t → args[j]? = some v → Value.okWide Try.prog W .any base t v := hval0
  have hW' := hW
  obtain ⟨p, q, hA0, hV, rfl, hfz, hnd⟩ := hW
  have hA : DataW.TrodAll enc Try.prog W 0 (fun _ => true) true Try.f7.params.toList args.toList ds p := hA0
  rw [params] at hA hval
  obtain ⟨v0, vs0, d0, ds0, p0, q0, hargs, rfl, rfl, h0, r0⟩ := trodAll_cons hA
  obtain ⟨v1, vs1, d1, ds1, p1, q1, rfl, rfl, rfl, h1, r1⟩ := trodAll_cons r0
  obtain ⟨rfl, rfl, rfl⟩ := trodAll_nil r1
  obtain rfl : args = #[v0, v1] := by cases args; simp_all
  obtain ⟨rfl, rfl⟩ := trodVars_none hV
  have k0 := h0
  have lt0 : ∀ x ∈ p0, x.block < W.heap.size := by obtain ⟨m, hm⟩ := k0; exact DataW.trod_lt m _ _ _ hm
  obtain ⟨x, l, s, rfl, hwf, hlen, hs, ho⟩ := open_merge (hval 0 25 v0 rfl rfl) h0
  obtain ⟨most, rfl, rfl, rfl, w1⟩ := open_int u3 (hval 1 3 v1 rfl rfl) h1
  clear hA0 hval0 hsz0
  have hc := (planSides_ok l most).calls ⟨cells_of hwf, paths_of hwf hlen, i64_of w1⟩ (fun _ => x) W [.agg #[s], .int .i64 most] (start hs ho)
    ⟨⟨[s], rfl, hs _ rfl, trivial⟩, rfl, trivial⟩ (fun y hy => by
      simp only [ct_planSides, List.mem_cons, List.not_mem_nil, or_false] at hy
      rcases hy with rfl | rfl
      · intro c hc; simp only [List.mem_cons, List.not_mem_nil, or_false] at hc; subst hc; intro n hn; simp [C.nm] at hn; subst hn; exact Nat.zero_lt_one
      · intro n hn; simp [C.nm] at hn)
  refine hc.mono fun e W' he => ?_
  obtain ⟨v', rfl, r', vv, H', ⟨_, _, rfl, _⟩, hv, _, _, _, _, hst⟩ := he
  have hv' : v' = .bool true := hv
  subst hv'
  have bel : Below W.heap.size W W' := ⟨hst.out.os, hst.out.tape, hst.out.output, hst.out.size, fun k hk => hst.out.block k hk fun hS => by
    obtain ⟨m, hm⟩ := hS
    cases m with
    | zero => simp [blkOf, at_, Atom.blk, ct_planSides] at hm
    | succ m => simp [blkOf, at_, Atom.blk, ct_planSides] at hm⟩
  exact ⟨_, rfl, _, _, _, [], _, [], hW', trodAll_mk1 (shut_bool u4 _), (trodAll_cons_mk (Below.trod laidOut (by kernel_rfl) (of_decide_eq_true (by kernel_rfl)) k0 bel lt0) (trodAll_cons_mk (shut_int u3 w1) trodAll_mk0)), rfl, bel.frame _, fun h => by cases h⟩
theorem over : Rows.planSidesRow.holds Try.pinned (OpenSpec.ofChange Rows.planSidesSpec) :=
  OpenClaim.holds_of_wide 7 Try.f7 rfl rfl rfl rfl rfl rfl rfl ⟨rfl, rfl, rfl, rfl, rfl⟩ rfl rfl rfl rfl rfl (by kernel_rfl) func (by kernel_rfl)
    (of_decide_eq_true (by kernel_rfl)) (by unfold Func.isWrapper; first | (rw [if_pos (by decide +kernel)]; kernel_rfl) | (rw [if_neg (by decide +kernel)]; exact ⟨rfl, rfl⟩))
    (fun os started H enc _ => lifted os started H enc)
end Go.Proofs.Ytljamcgngojaeaa.TplanSides
namespace Go.Proofs.Ytljamcgngojaeaa
theorem planSides_holds : Rows.PlanSidesSaid := TplanSides.over
end Go.Proofs.Ytljamcgngojaeaa
