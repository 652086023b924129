/- The row of the law PathJoins: whatever its argument, it returns true and leaves what was there as it was. Conditions: none. -/
import Derived.Test.YtnmidichehjbgaaRows
import Derived.Test.YtnmidichehjbgaaTm
import Derived.WalkKit
import Derived.ProofKit
import Derived.OpenShut
import Derived.ShutString
import Derived.SliceStrings
import Derived.ChangeOld
import Derived.ChangeSame
import Derived.Carry
import Derived.Below
import Derived.SizedLaws
namespace Go.Proofs.Ytnmidichehjbgaa.TpathJoins
open Go.ChangeShapes Go.WideShapes Go.ChangeAt Go.RowKit Go.Proofs.Ytnmidichehjbgaa.E Go.Proofs.Ytnmidichehjbgaa.T
set_option maxRecDepth 100000
set_option linter.unusedVariables false
set_option linter.unusedSimpArgs false
theorem own : ownKnob Try.prog.godebug = none := by kernel_rfl
theorem laidOut : laidOutB Try.prog = true := by kernel_rfl
theorem func : Try.prog.funcs[3]? = some Try.f3 := by kernel_rfl
theorem params : Try.f3.params = #[22] := rfl
theorem u4 : Try.prog.underlying 4 = some .bool := by kernel_rfl
theorem u9 : Try.prog.underlying 9 = some .string := by kernel_rfl
theorem u22 : Try.prog.underlying 22 = some (.slice 9) := by kernel_rfl
theorem open_texts {H : Type} {enc : TypeId × Value → H} {W : World} {base : Nat} {v : Value} {d : DataW H} {ps : List MemPlace} (hval : Value.okWide Try.prog W .any base 22 v) (h : DataW.Trod enc Try.prog W 0 (fun _ => true) true 22 v d ps) :
    ∃ (x : Ref) (l : List ByteArray), (∀ s ∈ l, s.size ≤ maxLen) ∧ l.length ≤ maxLen ∧ (∀ r : Nat → Ref, r 0 = x → (C.slc 0 0 l.length none).is r v) ∧ ∀ r : Nat → Ref, (Atom.ro (K := KK) Kd.str l).ok r x W := by
  obtain ⟨fuel, hf⟩ := h
  rcases open_strings u22 u9 (by kernel_rfl) hf with ⟨hcs, _⟩ | ⟨a, len, cap, ss, hcs, _, hl, hm, hz, _, hcell, hws⟩
  · obtain ⟨A, n, c, rfl⟩ := okWide_slice u22 hval
    simp [Value.cells] at hcs
    obtain ⟨rfl, rfl, rfl⟩ := hcs
    exact ⟨⟨0, 1, 0, true, 0⟩, [], fun s hs => (by cases hs), Nat.zero_le _, fun r hr => ⟨none, by simp [hr], .inr (by simp [hr])⟩, fun r => ⟨rfl, Nat.le_refl _, fun _ => rfl, fun h => absurd rfl h⟩⟩
  · obtain ⟨A, n, c, rfl⟩ := okWide_slice u22 hval
    simp [Value.cells] at hcs
    obtain ⟨rfl, rfl, rfl⟩ := hcs
    have hsp : a.spot = none := by
      simp only [Value.okWide, Cell.okWide, u22, Cell.ok] at hval
      exact hval.2.2.2.1
    obtain ⟨blk, off, spot⟩ := a
    simp only at hsp
    subst hsp
    simp only [if_true] at hz
    have hlen : (ss.take n).length = n := by rw [List.length_take]; omega
    have hc' : ∀ j y, (ss.take n)[j]? = some y → W.cell? ⟨blk, off + j, none⟩ = some (.string y) := fun j y hj => by
      have hjl : j < n := by have := (List.getElem?_eq_some_iff.1 hj).1; omega
      have h1 := hcell j (by omega)
      rw [List.getElem?_take, if_pos hjl] at hj
      rw [List.getD_eq_getElem?_getD, hj, Option.getD_some] at h1
      simpa [Addr.add_lit] using h1
    refine ⟨⟨blk, 1, c, false, off⟩, ss.take n, fun s hs => hws s (List.mem_of_mem_take hs), by rw [hlen]; omega, fun r hr => ?_, fun r => ⟨rfl, ?_, fun h => (by cases h), fun hne => ⟨?_, fun j u hj => ?_⟩⟩⟩
    · rw [hlen]
      exact ⟨some ⟨blk, off, none⟩, by simp [hr], .inr (by simp [hr])⟩
    · show (ss.take n).length ≤ c
      omega
    · show blk < W.heap.size
      cases hs : ss.take n with
      | nil => exact absurd hs hne
      | cons y t =>
        have h1 := hc' 0 y (by rw [hs]; rfl)
        unfold World.cell? at h1
        cases e : W.heap[blk]? with
        | none => simp [e] at h1
        | some o => exact (Array.getElem?_eq_some_iff.1 e).1
    · rw [flat_str, List.getElem?_map] at hj
      cases hq : (ss.take n)[j]? with
      | none => rw [hq] at hj; cases hj
      | some y =>
        rw [hq] at hj
        obtain rfl := Option.some.inj hj
        exact hc' j y hq
theorem start {W : World} {x : Ref} {l : List ByteArray} (ho : ∀ r : Nat → Ref, (Atom.ro (K := KK) Kd.str l).ok r x W) :
    HeapOK (Ours (fun _ => x) (ct_law l).pre) W (fun _ => x) (ct_law l).pre W := by
  have off : ∀ n, n ≠ 0 → n ≠ 1 → at_ (ct_law l).pre n = .gone := fun n h0 h1 => at_ge (by show 2 ≤ n; omega)
  have nb : ∀ n b, ¬ blkOf (fun _ => x) (ct_law l).pre n b := fun n b h => by
    by_cases h0 : n = 0
    · subst h0; exact h
    · by_cases h1 : n = 1
      · subst h1; obtain ⟨i, hi⟩ := h; cases hi
      · rw [blkOf, off n h0 h1] at h; exact h
  refine ⟨fun n => ?_, fun n => ?_, fun n m b _ h => absurd h (nb n b), fun n b h => absurd h (nb n b), fun n m b _ => nb m b, ⟨rfl, rfl, rfl, Nat.le_refl _, fun _ _ _ => rfl⟩⟩
  · by_cases h0 : n = 0
    · subst h0; exact ho _
    · by_cases h1 : n = 1
      · subst h1; intro b i hi; cases hi
      · rw [off n h0 h1]; trivial
  · by_cases h0 : n = 0
    · subst h0; trivial
    · by_cases h1 : n = 1
      · subst h1; trivial
      · rw [off n h0 h1]; trivial
set_option maxRecDepth 100000 in
theorem lifted (os : Os) (started : os.Started) (H : Type) (enc : TypeId × Value → H) :
    ReturnsInHanded {} Try.checked os 3 .any (Rows.pathJoinsSpec.pre6 enc Try.prog Try.f3 Rows.pathJoinsRow.domain false) (Rows.pathJoinsSpec.post enc Try.prog Try.f3 false true false false) := by
  refine returnsInHanded_of_change_sized (C := Try.checked) own started (by kernel_rfl) func
    (ChangeSpec.witness6 (enc := enc) (C := Try.checked) false ⟨#[], #[.slice none 0 0], []⟩ 8 (by kernel_rfl) (by kernel_rfl) (by kernel_rfl) (by kernel_rfl)) ?_
  intro W base args ds gs before hval0 hW hcnd hsz0 _
  have hval : ∀ (j : Nat) t v, Try.f3.params[j]? = some t → args[j]? = some v → Value.okWide Try.prog W .any base t v := hval0
  have hW' := hW
  obtain ⟨p, q, hA0, hV, rfl, hfz, hnd⟩ := hW
  have hA : DataW.TrodAll enc Try.prog W 0 (fun _ => true) true Try.f3.params.toList args.toList ds p := hA0
  rw [params] at hA hval
  obtain ⟨v0, vs0, d0, ds0, p0, q0, hargs, rfl, rfl, h0, r0⟩ := trodAll_cons hA
  obtain ⟨rfl, rfl, rfl⟩ := trodAll_nil r0
  obtain rfl : args = #[v0] := by cases args; simp_all
  obtain ⟨rfl, rfl⟩ := trodVars_none hV
  have k0 := h0
  have lt0 : ∀ x ∈ p0, x.block < W.heap.size := by obtain ⟨m, hm⟩ := k0; exact DataW.trod_lt m _ _ _ hm
  obtain ⟨x, l, hws, hlen, hs, ho⟩ := open_texts (hval 0 22 v0 rfl rfl) h0
  clear hA0 hval0 hsz0
  have hc := (law_ok l).calls ⟨hlen, hws⟩ (fun _ => x) W [v0] (start ho) ⟨(hs (fun _ => x) rfl : (C.slc 0 0 l.length none).is (fun _ => x) v0), trivial⟩ (fun y hy => by
      simp only [ct_law, List.mem_cons, List.not_mem_nil, or_false] at hy
      subst hy
      intro n hn; simp [C.nm] at hn; subst hn; exact Nat.zero_lt_two)
  refine hc.mono fun e W' he => ?_
  obtain ⟨v', rfl, r', vv, H', ⟨_, _, rfl, _⟩, hv, _, _, _, _, hst⟩ := he
  have hv' : v' = .bool true := hv
  subst hv'
  have bel : Below W.heap.size W W' := ⟨hst.out.os, hst.out.tape, hst.out.output, hst.out.size, fun k hk => hst.out.block k hk fun hS => by
    obtain ⟨m, hm⟩ := hS
    by_cases h0 : m = 0
    · subst h0; exact hm
    · by_cases h1 : m = 1
      · subst h1; obtain ⟨i, hi⟩ := hm; cases hi
      · rw [blkOf, at_ge (by show 2 ≤ m; omega)] at hm; exact hm⟩
  exact ⟨_, rfl, _, _, _, [], _, [], hW', trodAll_mk1 (shut_bool u4 _), (trodAll_cons_mk (Below.trod laidOut (by kernel_rfl) (of_decide_eq_true (by kernel_rfl)) k0 bel lt0) trodAll_mk0), rfl, bel.frame _, fun h => by cases h⟩
theorem over : Rows.pathJoinsRow.holds Try.pinned (OpenSpec.ofChange Rows.pathJoinsSpec) :=
  OpenClaim.holds_of_wide 3 Try.f3 rfl rfl rfl rfl rfl rfl rfl ⟨rfl, rfl, rfl, rfl, rfl⟩ rfl rfl rfl rfl rfl (by kernel_rfl) func (by kernel_rfl)
    (of_decide_eq_true (by kernel_rfl)) (by unfold Func.isWrapper; first | (rw [if_pos (by decide +kernel)]; kernel_rfl) | (rw [if_neg (by decide +kernel)]; exact ⟨rfl, rfl⟩))
    (fun os started H enc _ => lifted os started H enc)
end Go.Proofs.Ytnmidichehjbgaa.TpathJoins
namespace Go.Proofs.Ytnmidichehjbgaa
theorem pathJoins_holds : Rows.PathJoinsSaid := TpathJoins.over
end Go.Proofs.Ytnmidichehjbgaa
