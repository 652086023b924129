/- The row and the card of the law WirePuts: whatever its arguments, it returns true and leaves what was there as it was. Conditions: the listed tables hold what the program's text lays in them (the card's tie). -/
import Derived.Test.YtndlpbheifalhaaGreatDoorTie
import Derived.Test.YtndlpbheifalhaaGreatDoorCards
import Derived.Test.YtndlpbheifalhaaGreatDoorWf
import Derived.WalkKit
import Derived.ProofKit
import Derived.ChangeMaps5
import Derived.ChangeOld
import Derived.ChangeSame
import Derived.Carry
import Derived.Below
import Derived.SizedLaws
import Derived.Lay
import Derived.LaidLaws
import Derived.MakeChecks
import Derived.Lib.LaidTab
import Derived.SevenTiedAt
import Derived.OpenShut
import Derived.ChangeSlices
namespace Go.Proofs.YtndlpbheifalhaaGreatDoor.TwirePuts
open Go.ChangeMaps Go.ChangeShapes Go.WideShapes Go.ChangeAt Go.RowKit Go.Proofs.YtndlpbheifalhaaGreatDoor.E Go.Proofs.YtndlpbheifalhaaGreatDoor.T
set_option maxRecDepth 100000
set_option linter.unusedVariables false
set_option linter.unusedSimpArgs false
abbrev laid : List (String × DataW Unit) := Rows.wirePutsRow.laid
theorem own : ownKnob Tryz.prog.godebug = none := by kernel_rfl
theorem func : Tryz.prog.funcs[3]? = some Tryz.f3 := by kernel_rfl
theorem params : Tryz.f3.params = #[22, 23, 9] := rfl
theorem u4 : Tryz.prog.underlying 4 = some .bool := by kernel_rfl
theorem u3 : Tryz.prog.underlying 3 = some (.int .i64) := by kernel_rfl
theorem u9 : Tryz.prog.underlying 9 = some .string := by kernel_rfl
theorem u23 : Tryz.prog.underlying 23 = some (.int .u64) := by kernel_rfl
theorem u5 : Tryz.prog.underlying 5 = some (.int .u8) := by kernel_rfl
theorem u22 : Tryz.prog.underlying 22 = some (.slice 5) := by kernel_rfl
theorem laidOut : laidOutB Tryz.prog = true := by kernel_rfl
/-- The change's form, what is listed and the world's shape told besides. -/
theorem rih {H : Type} {enc : TypeId × Value → H} {C : Checked} {os : Os} {f : FuncId} {fn : Func} {s : ChangeSpec} {X : World → Array Value → Prop}
    (hX : ∀ (w w' : World) (args : Array Value), w.heap = w'.heap → X w args → X w' args)
    (own : ownKnob C.prog.godebug = none) (started : os.Started) (noInit : C.prog.inits.idxOf? f = none) (hfn : C.prog.funcs[f]? = some fn)
    (witness : ∃ (w : World) (tape : Tape) (i : Input), w.os = os ∧ (w.forCall tape i).Shaped C.prog ∧ i.vars = [] ∧ Input.okWide C.prog (w.forCall tape i) .any w.heap.size f i ∧
      ((s.pre enc C.prog fn [] false (w.forCall tape i).memory i.args ∧ X (w.forCall tape i).memory i.args) ∧ sizedMet enc C.prog fn (OpenSpec.ofChange s) false (w.forCall tape i).memory i.args) ∧ ({} : Assume).holds C.prog (lone (Frame.enter C.prog f i.args .normal) [] (w.forCall tape i)))
    (contract : ∀ (W : World) (base : Nat) (args : Array Value) (ds gs : List (DataW H)) (before : List MemPlace), W.ShapedOpen C.prog →
      (∀ (j : Nat) t v, fn.params[j]? = some t → args[j]? = some v → Value.okWide C.prog W .any base t v) →
      DataW.Whole enc C.prog fn.params.toList s.vars false W args.toList ds gs before → X W args →
      Calls C.prog f args W fun e W' => ∃ v, e = .returned v ∧ s.post enc C.prog fn false true false false W args v W') :
    ReturnsInHanded {} C os f .any (fun w args => (s.pre enc C.prog fn [] false w args ∧ X w args) ∧ sizedMet enc C.prog fn (OpenSpec.ofChange s) false w args) (s.post enc C.prog fn false true false false) := by
  refine returnsInHanded_of_calls own started noInit witness ?_
  intro w tape i _ hsh _ hok hpre hholds
  obtain ⟨_, _, _, fn', hfn', _, _, _, _, hval⟩ := hok
  have e : fn' = fn := Option.some.inj (hfn'.symm.trans hfn)
  subst e
  obtain ⟨⟨⟨ds, gs, before, hw, hc⟩, hx⟩, hz⟩ := hpre
  have hw' := DataW.Whole.of_heap (w' := w.forCall tape i) (by rfl) hw
  refine (contract (w.forCall tape i) w.heap.size i.args ds gs before hsh hval hw' (hX _ _ _ (by rfl) hx)).mono fun e W' ⟨v, he, hp⟩ => ?_
  subst he
  exact ChangeSpec.post_blind hp
theorem u64_of {z : Int} (h : (Lit.int .u64 z).wf = true) : 0 ≤ z ∧ z < 18446744073709551616 := by
  simp only [Lit.wf, Bool.and_eq_true, decide_eq_true_eq] at h
  have e1 : IntKind.u64.min = 0 := by kernel_rfl
  have e2 : IntKind.u64.max = 18446744073709551615 := by kernel_rfl
  rw [e1, e2] at h
  omega
theorem open_bytes {H : Type} {enc : TypeId × Value → H} {W : World} {base : Nat} {v : Value} {d : DataW H} {ps : List MemPlace} (hval : Value.okWide Tryz.prog W .any base 22 v) (h : DataW.Trod enc Tryz.prog W 0 (fun _ => true) true 22 v d ps) :
    ∃ (x : Ref) (l : List Int), (∀ r : Nat → Ref, r 0 = x → (C.slc 0 0 l.length none).is r v) ∧ ∀ r : Nat → Ref, (Atom.ro (K := KK) Kd.u8 l).ok r x W := by
  obtain ⟨fuel, hf⟩ := h
  rcases open_ints u22 u5 (by kernel_rfl) hf with ⟨hcs, _⟩ | ⟨a, len, cap, ss, hcs, _, hl, hm, hz, _, hcell, hws⟩
  · obtain ⟨A, n, c, rfl⟩ := okWide_slice u22 hval
    simp [Value.cells] at hcs
    obtain ⟨rfl, rfl, rfl⟩ := hcs
    exact ⟨⟨0, 1, 0, true, 0⟩, [], fun r hr => ⟨none, by simp [hr], .inr (by simp [hr])⟩, fun r => ⟨rfl, Nat.le_refl _, fun _ => rfl, fun h => absurd rfl h⟩⟩
  · obtain ⟨A, n, c, rfl⟩ := okWide_slice u22 hval
    simp [Value.cells] at hcs
    obtain ⟨rfl, rfl, rfl⟩ := hcs
    have hsp : a.spot = none := by
      simp only [Value.okWide, Cell.okWide, u22, Cell.ok] at hval
      exact hval.2.2.2.1
    obtain ⟨blk, off, spot⟩ := a
    simp only at hsp
    subst hsp
    simp only [if_true] at hz
    have hlen : (ss.take n).length = n := by rw [List.length_take]; omega
    have hc' : ∀ j y, (ss.take n)[j]? = some y → W.cell? ⟨blk, off + j, none⟩ = some (.int .u8 y) := fun j y hj => by
      have hjl : j < n := by have := (List.getElem?_eq_some_iff.1 hj).1; omega
      have h1 := hcell j (by omega)
      rw [List.getElem?_take, if_pos hjl] at hj
      rw [List.getD_eq_getElem?_getD, hj, Option.getD_some] at h1
      simpa [Addr.add_lit] using h1
    refine ⟨⟨blk, 1, c, false, off⟩, ss.take n, fun r hr => ?_, fun r => ⟨rfl, ?_, fun h => (by cases h), fun hne => ⟨?_, fun j u hj => ?_⟩⟩⟩
    · rw [hlen]
      exact ⟨some ⟨blk, off, none⟩, by simp [hr], .inr (by simp [hr])⟩
    · show (ss.take n).length ≤ c
      omega
    · show blk < W.heap.size
      cases hs : ss.take n with
      | nil => exact absurd hs hne
      | cons y t =>
        have h1 := hc' 0 y (by rw [hs]; rfl)
        unfold World.cell? at h1
        cases e : W.heap[blk]? with
        | none => simp [e] at h1
        | some o => exact (Array.getElem?_eq_some_iff.1 e).1
    · rw [flat_u8, List.map_map, List.getElem?_map] at hj
      cases hq : (ss.take n)[j]? with
      | none => rw [hq] at hj; cases hj
      | some y =>
        rw [hq] at hj
        obtain rfl := Option.some.inj hj
        exact hc' j y hq
def bag0 : Bag KK := fun _ => none
theorem start {W : World} {x : Ref} {l : List Int} (ho : ∀ r : Nat → Ref, (Atom.ro (K := KK) Kd.u8 l).ok r x W) :
    HeapOK (Ours (fun _ => x) ([.ro .u8 l, .bag bag0] : VH KK)) W (fun _ => x) ([.ro .u8 l, .bag bag0] : VH KK) W := by
  have off : ∀ n, n ≠ 0 → n ≠ 1 → at_ ([.ro .u8 l, .bag bag0] : VH KK) n = .gone := fun n h0 h1 => at_ge (by show 2 ≤ n; omega)
  have nb : ∀ n b, ¬ blkOf (fun _ => x) ([.ro .u8 l, .bag bag0] : VH KK) n b := fun n b h => by
    by_cases h0 : n = 0
    · subst h0; exact h
    · by_cases h1 : n = 1
      · subst h1; obtain ⟨i, hi⟩ := h; cases hi
      · rw [blkOf, off n h0 h1] at h; exact h
  refine ⟨fun n => ?_, fun n => ?_, fun n m b _ h => absurd h (nb n b), fun n b h => absurd h (nb n b), fun n m b _ => nb m b, ⟨rfl, rfl, rfl, Nat.le_refl _, fun _ _ _ => rfl⟩⟩
  · by_cases h0 : n = 0
    · subst h0; exact ho _
    · by_cases h1 : n = 1
      · subst h1; intro b i hi; cases hi
      · rw [off n h0 h1]; trivial
  · by_cases h0 : n = 0
    · subst h0; trivial
    · by_cases h1 : n = 1
      · subst h1; trivial
      · rw [off n h0 h1]; trivial
set_option maxRecDepth 100000 in
theorem lifted (os : Os) (started : os.Started) (H : Type) (enc : TypeId × Value → H) :
    ReturnsInHanded {} Tryz.checked os 3 .any (fun w args => (Rows.wirePutsSpec.pre enc Tryz.prog Tryz.f3 [] false w args ∧ laidMetH Tryz.prog laid w) ∧ sizedMet enc Tryz.prog Tryz.f3 (OpenSpec.ofChange Rows.wirePutsSpec) false w args)
      (Rows.wirePutsSpec.post enc Tryz.prog Tryz.f3 false true false false) := by
  refine rih (C := Tryz.checked) (X := fun w _ => laidMetH Tryz.prog laid w) (fun _ _ _ hh h => h.of_heap hh) own started (by kernel_rfl) func
    (ChangeSpec.witness_shaped (enc := enc) (C := Tryz.checked) (os := os) (X := fun w _ => laidMetH Tryz.prog laid w) false (World.laidAll Tryz.prog os laid) #[.slice none 0 0, .int .u64 0, .string ⟨#[]⟩] 8 (World.laidAll_os _ _ _) (World.shaped_of_ZipB (by kernel_rfl) (by kernel_rfl)) (by kernel_rfl) (by kernel_rfl) (by kernel_rfl)
      (by show laidMetH _ _ _; rw [MakeChecks.laidMetH_plain _ _ _ (by kernel_rfl)]; exact laidMet_laidAll _ (by kernel_rfl) (by kernel_rfl))) ?_
  intro W base args ds gs before hsh hval0 hW hL
  have hval : ∀ (j : Nat) t v, Tryz.f3.params[j]? = some t → args[j]? = some v → Value.okWide Tryz.prog W .any base t v := hval0
  have hW' := hW
  obtain ⟨p, q, hA0, hV, rfl, hfz, hnd⟩ := hW
  have hA : DataW.TrodAll enc Tryz.prog W 0 (fun _ => true) true Tryz.f3.params.toList args.toList ds p := hA0
  rw [params] at hA hval
  obtain ⟨v0, vs0, d0, ds0, p0, q0, hargs, rfl, rfl, h0, r0⟩ := trodAll_cons hA
  obtain ⟨v1, vs1, d1, ds1, p1, q1, rfl, rfl, rfl, h1, r1⟩ := trodAll_cons r0
  obtain ⟨v2, vs2, d2, ds2, p2, q2, rfl, rfl, rfl, h2, r2⟩ := trodAll_cons r1
  obtain ⟨rfl, rfl, rfl⟩ := trodAll_nil r2
  obtain rfl : args = #[v0, v1, v2] := by cases args; simp_all
  obtain ⟨rfl, rfl⟩ := trodVars_none hV
  have k0 := h0
  have lt0 : ∀ x ∈ p0, x.block < W.heap.size := by obtain ⟨m, hm⟩ := k0; exact DataW.trod_lt m _ _ _ hm
  obtain ⟨x, l, hs, ho⟩ := open_bytes (hval 0 22 v0 rfl rfl) h0
  obtain ⟨a1, rfl, rfl, rfl, w1⟩ := open_int u23 (hval 1 23 v1 rfl rfl) h1
  obtain ⟨a2, rfl, rfl, rfl, w2⟩ := open_string u9 (hval 2 9 v2 rfl rfl) h2
  clear hA0 hval0
  have hc := (puts_ok l a1 a2 bag0).calls (u64_of w1) (fun _ => x) W [v0, .int .u64 a1, .string a2] (start ho)
    ⟨(hs (fun _ => x) rfl : (C.slc 0 0 l.length none).is (fun _ => x) v0), rfl, rfl, trivial⟩ (fun y hy => by
      simp only [ct_puts, List.mem_cons, List.not_mem_nil, or_false] at hy
      rcases hy with rfl | rfl | rfl <;> (intro n hn; simp [C.nm] at hn <;> (subst hn; exact Nat.zero_lt_two)))
  refine hc.mono fun e W' he => ?_
  obtain ⟨v', rfl, r', vv, H', ⟨ψ, _, rfl, rfl⟩, hv, _, _, _, _, hst⟩ := he
  have hv' : v' = .bool true := hv
  subst hv'
  have bel : Below W.heap.size W W' := ⟨hst.out.os, hst.out.tape, hst.out.output, hst.out.size, fun k hk => hst.out.block k hk fun hS => by
    obtain ⟨m, hm⟩ := hS
    by_cases h0 : m = 0
    · subst h0; exact hm
    · by_cases h1 : m = 1
      · subst h1; obtain ⟨i, hi⟩ := hm; cases hi
      · rw [blkOf, at_ge (by show 2 ≤ m; omega)] at hm; exact hm⟩
  exact ⟨_, rfl, _, _, _, [], _, [], hW', trodAll_mk1 (shut_bool u4 _), (trodAll_cons_mk (Below.trod laidOut (by kernel_rfl) (of_decide_eq_true (by kernel_rfl)) k0 bel lt0) (trodAll_cons_mk (shut_int u23 w1) (trodAll_cons_mk (shut_string u9 w2) trodAll_mk0))), rfl, bel.frame _, fun h => by cases h⟩
theorem over : Rows.wirePutsRow.holds Tryz.pinned (OpenSpec.ofChange Rows.wirePutsSpec) :=
  OpenClaim.holds_of_wide 3 Tryz.f3 rfl rfl rfl rfl rfl rfl rfl ⟨rfl, rfl, rfl, rfl, rfl⟩ rfl rfl rfl rfl rfl (by kernel_rfl) func (by kernel_rfl)
    (of_decide_eq_true (by kernel_rfl)) (by unfold Func.isWrapper; first | (rw [if_pos (by decide +kernel)]; kernel_rfl) | (rw [if_neg (by decide +kernel)]; exact ⟨rfl, rfl⟩))
    (fun os started H enc _ => lifted os started H enc)
theorem card : Rows.WirePutsCardSaid :=
  Claim7.holds_tied_plain_at .later [] [.data, .data, .data] true (true, "bc2cc15cdbbd6351664b77a110f1f58cd1333c61b4e49819b8f4c52fb5182b84") true
    over (fun _ h => by cases h) (by kernel_rfl) (fun _ h => by cases h) wirePuts_row_tie rfl ⟨rfl, rfl⟩ (by kernel_rfl) rfl
    (fun f fn hf hfn => by
      obtain rfl : f = 3 := Option.some.inj ((show Tryz.prog.funcNamed "twine/twinelaw1.WirePuts" = some 3 by kernel_rfl).symm.trans hf) |>.symm
      obtain rfl : fn = Tryz.f3 := (Option.some.inj (func.symm.trans hfn)).symm
      exact ⟨by kernel_rfl, fun j t ht => by
        rw [params] at ht
        have hm : t ∈ [22, 23, 9] := by simpa using Array.mem_of_getElem? ht
        have hall : ([22, 23, 9].all fun u => !Tryz.prog.wantsStandIn u) = true := by kernel_rfl
        exact (show Tryz.prog.wantsStandIn t = false by simpa using List.all_eq_true.1 hall t hm)⟩)
    (by kernel_rfl)
end Go.Proofs.YtndlpbheifalhaaGreatDoor.TwirePuts
namespace Go.Proofs.YtndlpbheifalhaaGreatDoor
theorem wirePuts_holds : Rows.WirePutsCardSaid := TwirePuts.card
#print axioms wirePuts_holds
end Go.Proofs.YtndlpbheifalhaaGreatDoor
