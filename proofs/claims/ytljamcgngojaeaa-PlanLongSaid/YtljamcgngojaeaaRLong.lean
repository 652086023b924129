/- The row of the law PlanLong: whatever its arguments, it returns true and leaves what was there as it was. Conditions: none. -/
import Derived.Test.YtljamcgngojaeaaRows
import Derived.Test.YtljamcgngojaeaaSd
import Derived.Test.YtljamcgngojaeaaPn
import Derived.WalkKit
import Derived.ProofKit
import Derived.OpenShut
import Derived.ChangeOld
import Derived.Below
import Derived.SizedLaws
namespace Go.Proofs.Ytljamcgngojaeaa.TplanLong
open Go.ChangeShapes Go.WideShapes Go.ChangeAt Go.RowKit Go.Proofs.Ytljamcgngojaeaa.E Go.Proofs.Ytljamcgngojaeaa.T
set_option linter.unusedVariables false
set_option linter.unusedSimpArgs false
theorem own : ownKnob Try.prog.godebug = none := by kernel_rfl
theorem laidOut : laidOutB Try.prog = true := by kernel_rfl
theorem func : Try.prog.funcs[6]? = some Try.f6 := by kernel_rfl
theorem params : Try.f6.params = #[3, 3, 3] := rfl
theorem u4 : Try.prog.underlying 4 = some .bool := by kernel_rfl
theorem i64_of {z : Int} (h : wfB z) : i64ok z := by
  simp only [wfB, Lit.wf, Bool.and_eq_true, decide_eq_true_eq] at h
  have e1 : IntKind.i64.min = -9223372036854775808 := by kernel_rfl
  have e2 : IntKind.i64.max = 9223372036854775807 := by kernel_rfl
  rw [e1, e2] at h
  exact h
theorem start (W : World) : HeapOK (Ours (fun _ => ⟨0, 0, 0, false, 0⟩) ([] : VH KK)) W (fun _ => ⟨0, 0, 0, false, 0⟩) ([] : VH KK) W := by
  have nb : ∀ n b, blkOf (fun _ => ⟨0, 0, 0, false, 0⟩) ([] : VH KK) n ≠ some b := fun n b => by simp [blkOf, at_, Atom.blk]
  refine ⟨fun n => ?_, fun n => ?_, fun n m b _ h => absurd h (nb n b), fun n b h => absurd h (nb n b), fun n m b _ => nb m b, ⟨rfl, rfl, rfl, Nat.le_refl _, fun _ _ _ => rfl⟩⟩
  · simp [at_, Atom.ok]
  · simp [at_, Atom.lt]
set_option maxRecDepth 100000 in
theorem lifted (os : Os) (started : os.Started) (H : Type) (enc : TypeId × Value → H) :
    ReturnsInHanded {} Try.checked os 6 .any (Rows.planLongSpec.pre6 enc Try.prog Try.f6 Rows.planLongRow.domain false) (Rows.planLongSpec.post enc Try.prog Try.f6 false true false false) := by
  refine returnsInHanded_of_change_sized (C := Try.checked) own started (by kernel_rfl) func
    (ChangeSpec.witness6 (enc := enc) (C := Try.checked) false ⟨#[], #[.int .i64 0, .int .i64 0, .int .i64 0], []⟩ 8 (by kernel_rfl) (by kernel_rfl) (by kernel_rfl) (by kernel_rfl)) ?_
  intro W base args ds gs before hval0 hW hcnd hsz0 _
  have hval : ∀ (j : Nat) t v, Try.f6.params[j]? = some t → args[j]? = some v → Value.okWide Try.prog W .any base t v := hval0
  have hW' := hW
  obtain ⟨p, q, hA0, hV, rfl, hfz, hnd⟩ := hW
  have hA : DataW.TrodAll enc Try.prog W 0 (fun _ => true) true Try.f6.params.toList args.toList ds p := hA0
  rw [params] at hA hval
  obtain ⟨v0, vs0, d0, ds0, p0, q0, hargs, rfl, rfl, h0, r0⟩ := trodAll_cons hA
  obtain ⟨v1, vs1, d1, ds1, p1, q1, rfl, rfl, rfl, h1, r1⟩ := trodAll_cons r0
  obtain ⟨v2, vs2, d2, ds2, p2, q2, rfl, rfl, rfl, h2, r2⟩ := trodAll_cons r1
  obtain ⟨rfl, rfl, rfl⟩ := trodAll_nil r2
  obtain rfl : args = #[v0, v1, v2] := by cases args; simp_all
  obtain ⟨rfl, rfl⟩ := trodVars_none hV
  obtain ⟨a0, rfl, rfl, rfl, w0⟩ := open_int u3 (hval 0 3 v0 rfl rfl) h0
  obtain ⟨a1, rfl, rfl, rfl, w1⟩ := open_int u3 (hval 1 3 v1 rfl rfl) h1
  obtain ⟨a2, rfl, rfl, rfl, w2⟩ := open_int u3 (hval 2 3 v2 rfl rfl) h2
  clear hA0 hval0 hsz0
  have hc := (planLong_ok a0 a1 a2).calls ⟨i64_of w0, i64_of w1, i64_of w2⟩ (fun _ => ⟨0, 0, 0, false, 0⟩) W [.int .i64 a0, .int .i64 a1, .int .i64 a2] (start W)
    ⟨rfl, rfl, rfl, trivial⟩ (fun y hy => by
      simp only [ct_planLong, List.mem_cons, List.not_mem_nil, or_false] at hy
      rcases hy with rfl | rfl | rfl <;> (intro n hn; simp [C.nm] at hn))
  refine hc.mono fun e W' he => ?_
  obtain ⟨v', rfl, r', vv, H', ⟨_, _, rfl, _⟩, hv, _, _, _, _, hst⟩ := he
  have hv' : v' = .bool true := hv
  subst hv'
  have bel : Below W.heap.size W W' := ⟨hst.out.os, hst.out.tape, hst.out.output, hst.out.size, fun k hk => hst.out.block k hk fun hS => by
    obtain ⟨m, hm⟩ := hS
    simp [blkOf, at_, Atom.blk, ct_planLong] at hm⟩
  exact ⟨_, rfl, _, _, _, [], _, [], hW', trodAll_mk1 (shut_bool u4 _), (trodAll_cons_mk (shut_int u3 w0) (trodAll_cons_mk (shut_int u3 w1) (trodAll_cons_mk (shut_int u3 w2) trodAll_mk0))), rfl, bel.frame _, fun h => by cases h⟩
theorem over : Rows.planLongRow.holds Try.pinned (OpenSpec.ofChange Rows.planLongSpec) :=
  OpenClaim.holds_of_wide 6 Try.f6 rfl rfl rfl rfl rfl rfl rfl ⟨rfl, rfl, rfl, rfl, rfl⟩ rfl rfl rfl rfl rfl (by kernel_rfl) func (by kernel_rfl)
    (of_decide_eq_true (by kernel_rfl)) (by unfold Func.isWrapper; first | (rw [if_pos (by decide +kernel)]; kernel_rfl) | (rw [if_neg (by decide +kernel)]; exact ⟨rfl, rfl⟩))
    (fun os started H enc _ => lifted os started H enc)
end Go.Proofs.Ytljamcgngojaeaa.TplanLong
namespace Go.Proofs.Ytljamcgngojaeaa
theorem planLong_holds : Rows.PlanLongSaid := TplanLong.over
end Go.Proofs.Ytljamcgngojaeaa
