/- The row of the law PlanFits: whatever its arguments, it returns true and leaves what was there as it was. Conditions: none. -/
import Derived.Test.YtljamcgngojaeaaRows
import Derived.Test.YtljamcgngojaeaaQb
import Derived.Test.YtljamcgngojaeaaPn
import Derived.WalkKit
import Derived.ProofKit
import Derived.OpenShut
import Derived.ChangeOld
import Derived.Below
import Derived.SizedLaws
namespace Go.Proofs.Ytljamcgngojaeaa.TplanFits
open Go.ChangeShapes Go.WideShapes Go.ChangeAt Go.RowKit Go.Proofs.Ytljamcgngojaeaa.E Go.Proofs.Ytljamcgngojaeaa.T
set_option linter.unusedVariables false
set_option linter.unusedSimpArgs false
theorem own : ownKnob Try.prog.godebug = none := by kernel_rfl
theorem laidOut : laidOutB Try.prog = true := by kernel_rfl
theorem func : Try.prog.funcs[8]? = some Try.f8 := by kernel_rfl
theorem params : Try.f8.params = #[25, 3, 32, 32] := rfl
theorem u4 : Try.prog.underlying 4 = some .bool := by kernel_rfl
theorem i64_of {z : Int} (h : wfB z) : i64ok z := by
  simp only [wfB, Lit.wf, Bool.and_eq_true, decide_eq_true_eq] at h
  have e1 : IntKind.i64.min = -9223372036854775808 := by kernel_rfl
  have e2 : IntKind.i64.max = 9223372036854775807 := by kernel_rfl
  rw [e1, e2] at h
  exact h
theorem cells_of {l : List Cell} (h : ∀ c ∈ l, CellWf c) : Cells l := fun c hc => by
  have := h c hc
  exact ⟨i64_of this.what, i64_of this.side, i64_of this.mode, i64_of this.keep, i64_of this.take, i64_of this.names, i64_of this.bytes, i64_of this.hadN, i64_of this.hadB⟩
theorem paths_of {l : List Cell} (h : ∀ c ∈ l, CellWf c) (hl : l.length ≤ maxLen) : Paths l := by
  unfold maxLen at hl
  refine ⟨by unfold i64ok; omega, fun c hc => ?_⟩
  have := (h c hc).path
  unfold maxLen at this
  unfold i64ok
  omega
theorem u32 : ∃ d, Try.prog.underlying 32 = some (.array 2 d) := ⟨31, by kernel_rfl⟩
theorem c32 : Try.prog.cellsOf 32 = 4 := by kernel_rfl
theorem open_rooms {W : World} {base : Nat} {v : Value} (h : Value.okWide Try.prog W .any base 32 v) : ∃ a b c d : Int, v = .agg #[.int .i64 a, .int .i64 b, .int .i64 c, .int .i64 d] := by
  obtain ⟨d, hd⟩ := u32
  obtain ⟨cs, rfl, hsz, ts, ht, _, hrow⟩ : ∃ cs, v = .agg cs ∧ cs.size = Try.prog.cellsOf 32 ∧ Row.okWide Try.prog W .any base 32 cs := by
    simp only [Value.okWide, hd] at h
    exact h
  rw [c32] at hsz
  have e : Try.prog.cellTypes Try.prog.depth 32 = some [3, 3, 3, 3] := by kernel_rfl
  rw [e] at ht
  obtain rfl := Option.some.inj ht
  have cell : ∀ i x, i < 4 → cs[i]? = some x → ∃ n, x = .int .i64 n := fun i x hi hx => by
    obtain ⟨u, hu, hok⟩ := hrow i x hx
    have eu : u = 3 := by
      rcases (by omega : i = 0 ∨ i = 1 ∨ i = 2 ∨ i = 3) with rfl | rfl | rfl | rfl <;> simpa using hu.symm
    subst eu
    exact okWide_int u3 (by simpa only [Value.okWide, u3] using hok)
  cases cs with
  | mk l =>
    match l, hsz with
    | [v0, v1, v2, v3], _ =>
      obtain ⟨a, rfl⟩ := cell 0 v0 (by decide) rfl
      obtain ⟨b, rfl⟩ := cell 1 v1 (by decide) rfl
      obtain ⟨c, rfl⟩ := cell 2 v2 (by decide) rfl
      obtain ⟨d, rfl⟩ := cell 3 v3 (by decide) rfl
      exact ⟨a, b, c, d, rfl⟩
theorem start {W : World} {x : Ref} {l : List Cell} {s : Value} (hs : ∀ r : Nat → Ref, r 0 = x → (C.slc 0 0 l.length none).is r s) (ho : ∀ r : Nat → Ref, (Atom.ro (K := KK) .cell l).ok r x W) :
    HeapOK (Ours (fun _ => x) ([.ro .cell l] : VH KK)) W (fun _ => x) ([.ro .cell l] : VH KK) W := by
  have nb : ∀ n b, blkOf (fun _ => x) ([.ro .cell l] : VH KK) n ≠ some b := fun n b => by
    cases n with
    | zero => simp [blkOf, at_, Atom.blk]
    | succ n => simp [blkOf, at_, Atom.blk]
  refine ⟨fun n => ?_, fun n => ?_, fun n m b _ h => absurd h (nb n b), fun n b h => absurd h (nb n b), fun n m b _ => nb m b, ⟨rfl, rfl, rfl, Nat.le_refl _, fun _ _ _ => rfl⟩⟩
  · cases n with
    | zero => exact ho _
    | succ n => simp [at_, Atom.ok]
  · cases n with
    | zero => trivial
    | succ n => simp [at_, Atom.lt]
set_option maxRecDepth 100000 in
theorem lifted (os : Os) (started : os.Started) (H : Type) (enc : TypeId × Value → H) :
    ReturnsInHanded {} Try.checked os 8 .any (Rows.planFitsSpec.pre6 enc Try.prog Try.f8 Rows.planFitsRow.domain false) (Rows.planFitsSpec.post enc Try.prog Try.f8 false true false false) := by
  refine returnsInHanded_of_change_sized (C := Try.checked) own started (by kernel_rfl) func
    (ChangeSpec.witness6 (enc := enc) (C := Try.checked) false ⟨#[], #[.agg #[.slice none 0 0], .int .i64 0, .agg #[.int .i64 0, .int .i64 0, .int .i64 0, .int .i64 0], .agg #[.int .i64 0, .int .i64 0, .int .i64 0, .int .i64 0]], []⟩ 8 (by kernel_rfl) (by kernel_rfl) (by kernel_rfl) (by kernel_rfl)) ?_
  intro W base args ds gs before hval0 hW hcnd hsz0 _
  have hval : ∀ (j : Nat) t v, Try.f8.params[j]? = some t → args[j]? = some v → Value.okWide Try.prog W .any base t v := hval0
  have hW' := hW
  obtain ⟨p, q, hA0, hV, rfl, hfz, hnd⟩ := hW
  have hA : DataW.TrodAll enc Try.prog W 0 (fun _ => true) true Try.f8.params.toList args.toList ds p := hA0
  rw [params] at hA hval
  obtain ⟨v0, vs0, d0, ds0, p0, q0, hargs, rfl, rfl, h0, r0⟩ := trodAll_cons hA
  obtain ⟨v1, vs1, d1, ds1, p1, q1, rfl, rfl, rfl, h1, r1⟩ := trodAll_cons r0
  obtain ⟨v2, vs2, d2, ds2, p2, q2, rfl, rfl, rfl, h2, r2⟩ := trodAll_cons r1
  obtain ⟨v3, vs3, d3, ds3, p3, q3, rfl, rfl, rfl, h3, r3⟩ := trodAll_cons r2
  obtain ⟨rfl, rfl, rfl⟩ := trodAll_nil r3
  obtain rfl : args = #[v0, v1, v2, v3] := by cases args; simp_all
  obtain ⟨rfl, rfl⟩ := trodVars_none hV
  have k0 := h0
  have lt0 : ∀ x ∈ p0, x.block < W.heap.size := by obtain ⟨m, hm⟩ := k0; exact DataW.trod_lt m _ _ _ hm
  obtain ⟨x, l, s, rfl, hwf, hlen, hs, ho⟩ := open_merge (hval 0 25 v0 rfl rfl) h0
  have k2 := h2
  have lt2 : ∀ x ∈ p2, x.block < W.heap.size := by obtain ⟨m, hm⟩ := k2; exact DataW.trod_lt m _ _ _ hm
  have k3 := h3
  have lt3 : ∀ x ∈ p3, x.block < W.heap.size := by obtain ⟨m, hm⟩ := k3; exact DataW.trod_lt m _ _ _ hm
  obtain ⟨most, rfl, rfl, rfl, w1⟩ := open_int u3 (hval 1 3 v1 rfl rfl) h1
  obtain ⟨f0, f1, f2, f3, rfl⟩ := open_rooms (hval 2 32 v2 rfl rfl)
  obtain ⟨g0, g1, g2, g3, rfl⟩ := open_rooms (hval 3 32 v3 rfl rfl)
  clear hA0 hval0 hsz0
  have hc := (planFits_ok l most ⟨f0, f1, f2, f3⟩ ⟨g0, g1, g2, g3⟩).calls ⟨cells_of hwf, paths_of hwf hlen, i64_of w1⟩ (fun _ => x) W [.agg #[s], .int .i64 most, .agg #[.int .i64 f0, .int .i64 f1, .int .i64 f2, .int .i64 f3], .agg #[.int .i64 g0, .int .i64 g1, .int .i64 g2, .int .i64 g3]] (start hs ho)
    ⟨⟨[s], rfl, hs _ rfl, trivial⟩, rfl, ⟨[.int .i64 f0, .int .i64 f1, .int .i64 f2, .int .i64 f3], rfl, rfl, rfl, rfl, rfl, trivial⟩, ⟨[.int .i64 g0, .int .i64 g1, .int .i64 g2, .int .i64 g3], rfl, rfl, rfl, rfl, rfl, trivial⟩, trivial⟩ (fun y hy => by
      simp only [ct_planFits, List.mem_cons, List.not_mem_nil, or_false] at hy
      rcases hy with rfl | rfl | rfl | rfl
      · intro c hc; simp only [List.mem_cons, List.not_mem_nil, or_false] at hc; subst hc; intro n hn; simp [C.nm] at hn; subst hn; exact Nat.zero_lt_one
      · intro n hn; simp [C.nm] at hn
      · intro c hc; simp only [List.mem_cons, List.not_mem_nil, or_false] at hc; rcases hc with rfl | rfl | rfl | rfl <;> (intro n hn; simp [C.nm] at hn)
      · intro c hc; simp only [List.mem_cons, List.not_mem_nil, or_false] at hc; rcases hc with rfl | rfl | rfl | rfl <;> (intro n hn; simp [C.nm] at hn))
  refine hc.mono fun e W' he => ?_
  obtain ⟨v', rfl, r', vv, H', ⟨_, _, rfl, _⟩, hv, _, _, _, _, hst⟩ := he
  have hv' : v' = .bool true := hv
  subst hv'
  have bel : Below W.heap.size W W' := ⟨hst.out.os, hst.out.tape, hst.out.output, hst.out.size, fun k hk => hst.out.block k hk fun hS => by
    obtain ⟨m, hm⟩ := hS
    cases m with
    | zero => simp [blkOf, at_, Atom.blk, ct_planFits] at hm
    | succ m => simp [blkOf, at_, Atom.blk, ct_planFits] at hm⟩
  exact ⟨_, rfl, _, _, _, [], _, [], hW', trodAll_mk1 (shut_bool u4 _), (trodAll_cons_mk (Below.trod laidOut (by kernel_rfl) (of_decide_eq_true (by kernel_rfl)) k0 bel lt0) (trodAll_cons_mk (shut_int u3 w1) (trodAll_cons_mk (Below.trod laidOut (by kernel_rfl) (of_decide_eq_true (by kernel_rfl)) k2 bel lt2) (trodAll_cons_mk (Below.trod laidOut (by kernel_rfl) (of_decide_eq_true (by kernel_rfl)) k3 bel lt3) trodAll_mk0)))), rfl, bel.frame _, fun h => by cases h⟩
theorem over : Rows.planFitsRow.holds Try.pinned (OpenSpec.ofChange Rows.planFitsSpec) :=
  OpenClaim.holds_of_wide 8 Try.f8 rfl rfl rfl rfl rfl rfl rfl ⟨rfl, rfl, rfl, rfl, rfl⟩ rfl rfl rfl rfl rfl (by kernel_rfl) func (by kernel_rfl)
    (of_decide_eq_true (by kernel_rfl)) (by unfold Func.isWrapper; first | (rw [if_pos (by decide +kernel)]; kernel_rfl) | (rw [if_neg (by decide +kernel)]; exact ⟨rfl, rfl⟩))
    (fun os started H enc _ => lifted os started H enc)
end Go.Proofs.Ytljamcgngojaeaa.TplanFits
namespace Go.Proofs.Ytljamcgngojaeaa
theorem planFits_holds : Rows.PlanFitsSaid := TplanFits.over
end Go.Proofs.Ytljamcgngojaeaa
