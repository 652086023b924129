/- The row and the card of the law PathSplits: whatever its arguments, it returns true and leaves what was there as it was. Conditions: the listed tables hold what the program's text lays in them (the card's tie). -/
import Derived.Test.YtnnpjkpmankeiaaDoorTie
import Derived.Test.YtnnpjkpmankeiaaDoorCards
import Derived.Test.YtnnpjkpmankeiaaDoorSd
import Derived.WalkKit
import Derived.ProofKit
import Derived.ChangeMaps5
import Derived.ChangeOld
import Derived.ChangeSame
import Derived.Carry
import Derived.Below
import Derived.SizedLaws
import Derived.Lay
import Derived.LaidLaws
import Derived.MakeChecks
import Derived.Lib.LaidTab
import Derived.SevenTiedAt
import Derived.OpenShut
namespace Go.Proofs.YtnnpjkpmankeiaaDoor.TpathSplits
open Go.ChangeMaps Go.ChangeShapes Go.WideShapes Go.ChangeAt Go.RowKit Go.Proofs.YtnnpjkpmankeiaaDoor.E Go.Proofs.YtnnpjkpmankeiaaDoor.T
set_option maxRecDepth 100000
set_option linter.unusedVariables false
set_option linter.unusedSimpArgs false
abbrev laid : List (String × DataW Unit) := Rows.pathSplitsRow.laid
theorem own : ownKnob Tryd.prog.godebug = none := by kernel_rfl
theorem func : Tryd.prog.funcs[3]? = some Tryd.f3 := by kernel_rfl
theorem params : Tryd.f3.params = #[9, 3] := rfl
theorem u4 : Tryd.prog.underlying 4 = some .bool := by kernel_rfl
theorem u3 : Tryd.prog.underlying 3 = some (.int .i64) := by kernel_rfl
theorem u9 : Tryd.prog.underlying 9 = some .string := by kernel_rfl
theorem lowG : ∃ zero, ((begin Tryd.prog (fun _ _ => 0) default).world.heap[0]?).bind Obj.row? = some (zero, 131) := by
  have h : (((begin Tryd.prog (fun _ _ => 0) default).world.heap[0]?).bind Obj.row?).map (·.2) = some 131 := by kernel_rfl
  obtain ⟨⟨z, t⟩, h1, h2⟩ := Option.map_eq_some_iff.1 h
  simp only at h2
  subst h2
  exact ⟨z, h1⟩
/-- The change's form, what is listed and the world's shape told besides. -/
theorem rih {H : Type} {enc : TypeId × Value → H} {C : Checked} {os : Os} {f : FuncId} {fn : Func} {s : ChangeSpec} {X : World → Array Value → Prop}
    (hX : ∀ (w w' : World) (args : Array Value), w.heap = w'.heap → X w args → X w' args)
    (own : ownKnob C.prog.godebug = none) (started : os.Started) (noInit : C.prog.inits.idxOf? f = none) (hfn : C.prog.funcs[f]? = some fn)
    (witness : ∃ (w : World) (tape : Tape) (i : Input), w.os = os ∧ (w.forCall tape i).Shaped C.prog ∧ i.vars = [] ∧ Input.okWide C.prog (w.forCall tape i) .any w.heap.size f i ∧
      ((s.pre enc C.prog fn [] false (w.forCall tape i).memory i.args ∧ X (w.forCall tape i).memory i.args) ∧ sizedMet enc C.prog fn (OpenSpec.ofChange s) false (w.forCall tape i).memory i.args) ∧ ({} : Assume).holds C.prog (lone (Frame.enter C.prog f i.args .normal) [] (w.forCall tape i)))
    (contract : ∀ (W : World) (base : Nat) (args : Array Value) (ds gs : List (DataW H)) (before : List MemPlace), W.ShapedOpen C.prog →
      (∀ (j : Nat) t v, fn.params[j]? = some t → args[j]? = some v → Value.okWide C.prog W .any base t v) →
      DataW.Whole enc C.prog fn.params.toList s.vars false W args.toList ds gs before → X W args →
      Calls C.prog f args W fun e W' => ∃ v, e = .returned v ∧ s.post enc C.prog fn false true false false W args v W') :
    ReturnsInHanded {} C os f .any (fun w args => (s.pre enc C.prog fn [] false w args ∧ X w args) ∧ sizedMet enc C.prog fn (OpenSpec.ofChange s) false w args) (s.post enc C.prog fn false true false false) := by
  refine returnsInHanded_of_calls own started noInit witness ?_
  intro w tape i _ hsh _ hok hpre hholds
  obtain ⟨_, _, _, fn', hfn', _, _, _, _, hval⟩ := hok
  have e : fn' = fn := Option.some.inj (hfn'.symm.trans hfn)
  subst e
  obtain ⟨⟨⟨ds, gs, before, hw, hc⟩, hx⟩, hz⟩ := hpre
  have hw' := DataW.Whole.of_heap (w' := w.forCall tape i) (by rfl) hw
  refine (contract (w.forCall tape i) w.heap.size i.args ds gs before hsh hval hw' (hX _ _ _ (by rfl) hx)).mono fun e W' ⟨v, he, hp⟩ => ?_
  subst he
  exact ChangeSpec.post_blind hp
theorem i64_of {z : Int} (h : (Lit.int .i64 z).wf = true) : i64ok z := by
  simp only [Lit.wf, Bool.and_eq_true, decide_eq_true_eq] at h
  have e1 : IntKind.i64.min = -9223372036854775808 := by kernel_rfl
  have e2 : IntKind.i64.max = 9223372036854775807 := by kernel_rfl
  rw [e1, e2] at h
  exact h
/-- The table, as it lies in memory. -/
theorem tab_of {W : World} (hsh : W.ShapedOpen Tryd.prog) (h : laidMetH Tryd.prog laid W) : W.heap[0]? = some (.cells (tabC.map C.plain).toArray 131 (0, 0)) := by
  rw [MakeChecks.laidMetH_plain _ _ _ (by kernel_rfl)] at h
  obtain ⟨ps, ⟨g0, t0, cs0, f0, p0, q0, hg0, ht0, hv0, hd0, ⟨g1, t1, cs1, f1, p1, q1, hg1, ht1, hv1, hd1, ⟨g2, t2, cs2, f2, p2, q2, hg2, ht2, hv2, hd2, _, _⟩, _⟩, _⟩, _, _⟩ := h
  have hg : Tryd.prog.globalNamed "internal/strconv.uint64pow10" = some 0 := by kernel_rfl
  have hty : (Tryd.prog.globals[0]?).map (·.type) = some 131 := by kernel_rfl
  obtain rfl := Option.some.inj (hg.symm.trans hg2)
  obtain rfl := Option.some.inj (hty.symm.trans ht2)
  have hcs := Lib.cells_of_tab (n := 20) (k := .u64) (zs := Lib.pow10Tab) (by kernel_rfl) (show Tryd.prog.underlying 125 = some (.int .u64) by kernel_rfl) (by kernel_rfl) (by kernel_rfl) hd2
  obtain ⟨zero, hz⟩ := lowG
  obtain ⟨cs, hc, _⟩ := hsh.1 0 zero 131 (of_decide_eq_true (by kernel_rfl)) hz
  unfold World.var? at hv2
  rw [hg, Option.bind_some, hc] at hv2
  have e : cs = cs2 := by simpa using hv2
  have e2 : cs2 = (Lib.pow10Tab.map fun z => Value.int .u64 z).toArray := by rw [← hcs]
  rw [hc, e, e2]
  simp [tabC, List.map_map, Function.comp_def, C.plain]
def bag0 : Bag KK := fun b => if b = 0 then some (.tab 131 (0, 0) tabC) else none
theorem start {W : World} (ht : W.heap[0]? = some (.cells (tabC.map C.plain).toArray 131 (0, 0))) :
    HeapOK (Ours (fun _ => ⟨0, 0, 0, false, 0⟩) ([.bag bag0] : VH KK)) W (fun _ => ⟨0, 0, 0, false, 0⟩) ([.bag bag0] : VH KK) W := by
  have off : ∀ n, n ≠ 0 → at_ ([.bag bag0] : VH KK) n = .gone := fun n h0 => at_ge (by show 1 ≤ n; omega)
  have z0 : ∀ n b, blkOf (fun _ => ⟨0, 0, 0, false, 0⟩) ([.bag bag0] : VH KK) n b → n = 0 := fun n b h => by
    by_cases h0 : n = 0
    · exact h0
    · rw [blkOf, off n h0] at h; exact h.elim
  refine ⟨fun n => ?_, fun n => ?_, fun n m b hne h h' => hne ((z0 n b h).trans (z0 m b h').symm), fun n b h => .inl ⟨n, h⟩, fun n m b h => ?_, ⟨rfl, rfl, rfl, Nat.le_refl _, fun _ _ _ => rfl⟩⟩
  · by_cases h0 : n = 0
    · subst h0
      intro b i hi
      unfold bag0 at hi
      split at hi
      · rename_i e
        injection hi with hi
        subst e hi
        exact ⟨fun c hc => by
          have : (tabC.all fun c => c.nm.isNone && c.one) = true := by kernel_rfl
          have := List.all_eq_true.1 this c hc
          simpa using this, ht⟩
      · cases hi
    · rw [off n h0]; trivial
  · by_cases h0 : n = 0
    · subst h0; trivial
    · rw [off n h0]; trivial
  · by_cases h0 : n = 0
    · subst h0; simp [rbOf, at_, Atom.rb] at h
    · rw [rbOf, off n h0] at h; simp [Atom.rb] at h
set_option maxRecDepth 100000 in
theorem lifted (os : Os) (started : os.Started) (H : Type) (enc : TypeId × Value → H) :
    ReturnsInHanded {} Tryd.checked os 3 .any (fun w args => (Rows.pathSplitsSpec.pre enc Tryd.prog Tryd.f3 [] false w args ∧ laidMetH Tryd.prog laid w) ∧ sizedMet enc Tryd.prog Tryd.f3 (OpenSpec.ofChange Rows.pathSplitsSpec) false w args)
      (Rows.pathSplitsSpec.post enc Tryd.prog Tryd.f3 false true false false) := by
  refine rih (C := Tryd.checked) (X := fun w _ => laidMetH Tryd.prog laid w) (fun _ _ _ hh h => h.of_heap hh) own started (by kernel_rfl) func
    (ChangeSpec.witness_shaped (enc := enc) (C := Tryd.checked) (os := os) (X := fun w _ => laidMetH Tryd.prog laid w) false (World.laidAll Tryd.prog os laid) #[.string ⟨#[]⟩, .int .i64 0] 8 (World.laidAll_os _ _ _) (World.shaped_of_ZipB (by kernel_rfl) (by kernel_rfl)) (by kernel_rfl) (by kernel_rfl) (by kernel_rfl)
      (by show laidMetH _ _ _; rw [MakeChecks.laidMetH_plain _ _ _ (by kernel_rfl)]; exact laidMet_laidAll _ (by kernel_rfl) (by kernel_rfl))) ?_
  intro W base args ds gs before hsh hval0 hW hL
  have hval : ∀ (j : Nat) t v, Tryd.f3.params[j]? = some t → args[j]? = some v → Value.okWide Tryd.prog W .any base t v := hval0
  have hW' := hW
  obtain ⟨p, q, hA0, hV, rfl, hfz, hnd⟩ := hW
  have hA : DataW.TrodAll enc Tryd.prog W 0 (fun _ => true) true Tryd.f3.params.toList args.toList ds p := hA0
  rw [params] at hA hval
  obtain ⟨v0, vs0, d0, ds0, p0, q0, hargs, rfl, rfl, h0, r0⟩ := trodAll_cons hA
  obtain ⟨v1, vs1, d1, ds1, p1, q1, rfl, rfl, rfl, h1, r1⟩ := trodAll_cons r0
  obtain ⟨rfl, rfl, rfl⟩ := trodAll_nil r1
  obtain rfl : args = #[v0, v1] := by cases args; simp_all
  obtain ⟨rfl, rfl⟩ := trodVars_none hV
  obtain ⟨a0, rfl, rfl, rfl, w0⟩ := open_string u9 (hval 0 9 v0 rfl rfl) h0
  obtain ⟨a1, rfl, rfl, rfl, w1⟩ := open_int u3 (hval 1 3 v1 rfl rfl) h1
  clear hA0 hval0
  have ht := tab_of hsh hL
  have hc := (law_ok a0 a1 bag0).calls ⟨i64_of w1, if_pos rfl⟩ (fun _ => ⟨0, 0, 0, false, 0⟩) W [.string a0, .int .i64 a1] (start ht)
    ⟨rfl, rfl, trivial⟩ (fun y hy => by
      simp only [ct_law, List.mem_cons, List.not_mem_nil, or_false] at hy
      rcases hy with rfl | rfl <;> (intro n hn; simp [C.nm] at hn))
  refine hc.mono fun e W' he => ?_
  obtain ⟨v', rfl, r', vv, H', ⟨ψ, htab, rfl, rfl⟩, hv, _, _, _, _, hst⟩ := he
  have hv' : v' = .bool true := hv
  subst hv'
  have hG := (hst.ok 0 0 _ htab).2
  have bel : Below W.heap.size W W' := ⟨hst.out.os, hst.out.tape, hst.out.output, hst.out.size, fun k hk => by
    by_cases hkG : k = 0
    · subst hkG; rw [hG, ht]
    · refine hst.out.block k hk fun hS => ?_
      obtain ⟨m, hm⟩ := hS
      by_cases h0 : m = 0
      · subst h0
        obtain ⟨i, hi⟩ := hm
        have : bag0 k = some i := hi
        rw [bag0, if_neg hkG] at this; cases this
      · rw [blkOf, at_ge (by show 1 ≤ m; omega)] at hm; exact hm⟩
  exact ⟨_, rfl, _, _, _, [], _, [], hW', trodAll_mk1 (shut_bool u4 _), (trodAll_cons_mk (shut_string u9 w0) (trodAll_cons_mk (shut_int u3 w1) trodAll_mk0)), rfl, bel.frame _, fun h => by cases h⟩
theorem over : Rows.pathSplitsRow.holds Tryd.pinned (OpenSpec.ofChange Rows.pathSplitsSpec) :=
  OpenClaim.holds_of_wide 3 Tryd.f3 rfl rfl rfl rfl rfl rfl rfl ⟨rfl, rfl, rfl, rfl, rfl⟩ rfl rfl rfl rfl rfl (by kernel_rfl) func (by kernel_rfl)
    (of_decide_eq_true (by kernel_rfl)) (by unfold Func.isWrapper; first | (rw [if_pos (by decide +kernel)]; kernel_rfl) | (rw [if_neg (by decide +kernel)]; exact ⟨rfl, rfl⟩))
    (fun os started H enc _ => lifted os started H enc)
theorem card : Rows.PathSplitsCardSaid :=
  Claim7.holds_tied_plain_at .later [] [.data, .data, .data] true (true, "4c5b60f65e50dffd44dd5494115db43d9ce6b4162e2218eae1d99b2c9193206e") false
    over (fun _ h => by cases h) (by kernel_rfl) (fun _ h => by cases h) pathSplits_row_tie rfl ⟨rfl, rfl⟩ (by kernel_rfl) rfl
    (fun f fn hf hfn => by
      obtain rfl : f = 3 := Option.some.inj ((show Tryd.prog.funcNamed "twine/twinelaw3.PathSplits" = some 3 by kernel_rfl).symm.trans hf) |>.symm
      obtain rfl : fn = Tryd.f3 := (Option.some.inj (func.symm.trans hfn)).symm
      exact ⟨by kernel_rfl, fun j t ht => by
        rw [params] at ht
        have hm : t ∈ [9, 3] := by simpa using Array.mem_of_getElem? ht
        have hall : ([9, 3].all fun u => !Tryd.prog.wantsStandIn u) = true := by kernel_rfl
        exact (show Tryd.prog.wantsStandIn t = false by simpa using List.all_eq_true.1 hall t hm)⟩)
    (by kernel_rfl)
end Go.Proofs.YtnnpjkpmankeiaaDoor.TpathSplits
namespace Go.Proofs.YtnnpjkpmankeiaaDoor
theorem pathSplits_holds : Rows.PathSplitsCardSaid := TpathSplits.card
#print axioms pathSplits_holds
end Go.Proofs.YtnnpjkpmankeiaaDoor
