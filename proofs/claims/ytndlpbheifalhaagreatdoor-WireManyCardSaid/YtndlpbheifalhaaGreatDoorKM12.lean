/- The last of 13 texts that prove the statement of Vx; it holds without conditions beyond the statement's own. -/
import Derived.Laws.AppendOwn
import Derived.Laws.OwnMore
import Derived.Deep.MidRow
import Derived.Calls
import Derived.Deep.AppendSrc
import Derived.Maps.AppendAt
import Derived.IntWalk
import Derived.Tactics
import Derived.Laws.StructEq
import Derived.Laws.BytesString
import Derived.Orders
import Derived.Scope
import Derived.Deep.LoopGhost
import Derived.Recover
import Derived.Test.YtndlpbheifalhaaGreatDoorProg
import Derived.KernelRfl
import Derived.Deep.Slices
import Derived.ChangeSame
import Derived.ChangeSlices
import Derived.Carry
import Derived.RowKit
import Derived.Test.YtndlpbheifalhaaGreatDoorTie
import Derived.Test.YtndlpbheifalhaaGreatDoorCards
import Derived.WalkKit
import Derived.ProofKit
import Derived.ChangeMaps5
import Derived.ChangeOld
import Derived.Below
import Derived.SizedLaws
import Derived.Lay
import Derived.LaidLaws
import Derived.MakeChecks
import Derived.Lib.LaidTab
import Derived.SevenTiedAt
import Derived.OpenShut
import Derived.Test.YtndlpbheifalhaaGreatDoorKM11
set_option linter.unusedSimpArgs false
set_option linter.unusedVariables false
namespace Go.Proofs.YtndlpbheifalhaaGreatDoor
end Go.Proofs.YtndlpbheifalhaaGreatDoor
namespace Go.Proofs.YtndlpbheifalhaaGreatDoor.E
end Go.Proofs.YtndlpbheifalhaaGreatDoor.E
namespace Go.Proofs.YtndlpbheifalhaaGreatDoor.T
end Go.Proofs.YtndlpbheifalhaaGreatDoor.T
namespace Go.Proofs.YtndlpbheifalhaaGreatDoor.TwireMany
end Go.Proofs.YtndlpbheifalhaaGreatDoor.TwireMany
namespace Go.Proofs.YtndlpbheifalhaaGreatDoor.V
end Go.Proofs.YtndlpbheifalhaaGreatDoor.V
section
namespace Go.Proofs.YtndlpbheifalhaaGreatDoor.TwireMany
open Go.ChangeMaps Go.ChangeShapes Go.WideShapes Go.ChangeAt Go.RowKit Go.Proofs.YtndlpbheifalhaaGreatDoor.E Go.Proofs.YtndlpbheifalhaaGreatDoor.T
set_option maxRecDepth 100000
set_option linter.unusedVariables false
set_option linter.unusedSimpArgs false
abbrev laid : List (String × DataW Unit) := Rows.wireManyRow.laid
theorem own : ownKnob Tryz.prog.godebug = none := by kernel_rfl
theorem func : Tryz.prog.funcs[5]? = some Tryz.f5 := by kernel_rfl
theorem params : Tryz.f5.params = #[22, 3, 57] := rfl
theorem laidOut : laidOutB Tryz.prog = true := by kernel_rfl
/-- The change's form, what is listed and the world's shape told besides. -/
theorem rih {H : Type} {enc : TypeId × Value → H} {C : Checked} {os : Os} {f : FuncId} {fn : Func} {s : ChangeSpec} {X : World → Array Value → Prop}
    (hX : ∀ (w w' : World) (args : Array Value), w.heap = w'.heap → X w args → X w' args)
    (own : ownKnob C.prog.godebug = none) (started : os.Started) (noInit : C.prog.inits.idxOf? f = none) (hfn : C.prog.funcs[f]? = some fn)
    (witness : ∃ (w : World) (tape : Tape) (i : Input), w.os = os ∧ (w.forCall tape i).Shaped C.prog ∧ i.vars = [] ∧ Input.okWide C.prog (w.forCall tape i) .any w.heap.size f i ∧
      ((s.pre enc C.prog fn [] false (w.forCall tape i).memory i.args ∧ X (w.forCall tape i).memory i.args) ∧ sizedMet enc C.prog fn (OpenSpec.ofChange s) false (w.forCall tape i).memory i.args) ∧ ({} : Assume).holds C.prog (lone (Frame.enter C.prog f i.args .normal) [] (w.forCall tape i)))
    (contract : ∀ (W : World) (base : Nat) (args : Array Value) (ds gs : List (DataW H)) (before : List MemPlace), W.ShapedOpen C.prog →
      (∀ (j : Nat) t v, fn.params[j]? = some t → args[j]? = some v → Value.okWide C.prog W .any base t v) →
      DataW.Whole enc C.prog fn.params.toList s.vars false W args.toList ds gs before → X W args →
      Calls C.prog f args W fun e W' => ∃ v, e = .returned v ∧ s.post enc C.prog fn false true false false W args v W') :
    ReturnsInHanded {} C os f .any (fun w args => (s.pre enc C.prog fn [] false w args ∧ X w args) ∧ sizedMet enc C.prog fn (OpenSpec.ofChange s) false w args) (s.post enc C.prog fn false true false false) := by
  refine returnsInHanded_of_calls own started noInit witness ?_
  intro w tape i _ hsh _ hok hpre hholds
  obtain ⟨_, _, _, fn', hfn', _, _, _, _, hval⟩ := hok
  have e : fn' = fn := Option.some.inj (hfn'.symm.trans hfn)
  subst e
  obtain ⟨⟨⟨ds, gs, before, hw, hc⟩, hx⟩, hz⟩ := hpre
  have hw' := DataW.Whole.of_heap (w' := w.forCall tape i) (by rfl) hw
  refine (contract (w.forCall tape i) w.heap.size i.args ds gs before hsh hval hw' (hX _ _ _ (by rfl) hx)).mono fun e W' ⟨v, he, hp⟩ => ?_
  subst he
  exact ChangeSpec.post_blind hp
def bag0 : Bag KK := fun _ => none
def two (x y : Ref) : Nat → Ref := fun n => if n = 1 then y else x
theorem start {W : World} {x y : Ref} {l : List Int} {sc : List OpT} (ho : ∀ r : Nat → Ref, (Atom.ro (K := KK) Kd.u8 l).ok r x W) (hp : ∀ r : Nat → Ref, (Atom.ro (K := KK) Kd.op sc).ok r y W) :
    HeapOK (Ours (two x y) ([.ro .u8 l, .ro .op sc, .bag bag0] : VH KK)) W (two x y) ([.ro .u8 l, .ro .op sc, .bag bag0] : VH KK) W := by
  have off : ∀ n, n ≠ 0 → n ≠ 1 → n ≠ 2 → at_ ([.ro .u8 l, .ro .op sc, .bag bag0] : VH KK) n = .gone := fun n h0 h1 h2 => at_ge (by show 3 ≤ n; omega)
  have nb : ∀ n b, ¬ blkOf (two x y) ([.ro .u8 l, .ro .op sc, .bag bag0] : VH KK) n b := fun n b h => by
    by_cases h0 : n = 0
    · subst h0; exact h
    · by_cases h1 : n = 1
      · subst h1; exact h
      · by_cases h2 : n = 2
        · subst h2; obtain ⟨i, hi⟩ := h; cases hi
        · rw [blkOf, off n h0 h1 h2] at h; exact h
  refine ⟨fun n => ?_, fun n => ?_, fun n m b _ h => absurd h (nb n b), fun n b h => absurd h (nb n b), fun n m b _ => nb m b, ⟨rfl, rfl, rfl, Nat.le_refl _, fun _ _ _ => rfl⟩⟩
  · by_cases h0 : n = 0
    · subst h0; exact ho _
    · by_cases h1 : n = 1
      · subst h1; exact hp _
      · by_cases h2 : n = 2
        · subst h2; intro b i hi; cases hi
        · rw [off n h0 h1 h2]; trivial
  · by_cases h0 : n = 0
    · subst h0; trivial
    · by_cases h1 : n = 1
      · subst h1; trivial
      · by_cases h2 : n = 2
        · subst h2; trivial
        · rw [off n h0 h1 h2]; trivial
set_option maxRecDepth 100000 in
theorem lifted (os : Os) (started : os.Started) (H : Type) (enc : TypeId × Value → H) :
    ReturnsInHanded {} Tryz.checked os 5 .any (fun w args => (Rows.wireManySpec.pre enc Tryz.prog Tryz.f5 [] false w args ∧ laidMetH Tryz.prog laid w) ∧ sizedMet enc Tryz.prog Tryz.f5 (OpenSpec.ofChange Rows.wireManySpec) false w args)
      (Rows.wireManySpec.post enc Tryz.prog Tryz.f5 false true false false) := by
  refine rih (C := Tryz.checked) (X := fun w _ => laidMetH Tryz.prog laid w) (fun _ _ _ hh h => h.of_heap hh) own started (by kernel_rfl) func
    (ChangeSpec.witness_shaped (enc := enc) (C := Tryz.checked) (os := os) (X := fun w _ => laidMetH Tryz.prog laid w) false (World.laidAll Tryz.prog os laid) #[.slice none 0 0, .int .i64 0, .slice none 0 0] 8 (World.laidAll_os _ _ _) (World.shaped_of_ZipB (by kernel_rfl) (by kernel_rfl)) (by kernel_rfl) (by kernel_rfl) (by kernel_rfl)
      (by show laidMetH _ _ _; rw [MakeChecks.laidMetH_plain _ _ _ (by kernel_rfl)]; exact laidMet_laidAll _ (by kernel_rfl) (by kernel_rfl))) ?_
  intro W base args ds gs before hsh hval0 hW hL
  have hval : ∀ (j : Nat) t v, Tryz.f5.params[j]? = some t → args[j]? = some v → Value.okWide Tryz.prog W .any base t v := hval0
  have hW' := hW
  obtain ⟨p, q, hA0, hV, rfl, hfz, hnd⟩ := hW
  have hA : DataW.TrodAll enc Tryz.prog W 0 (fun _ => true) true Tryz.f5.params.toList args.toList ds p := hA0
  rw [params] at hA hval
  obtain ⟨v0, vs0, d0, ds0, p0, q0, hargs, rfl, rfl, h0, r0⟩ := trodAll_cons hA
  obtain ⟨v1, vs1, d1, ds1, p1, q1, rfl, rfl, rfl, h1, r1⟩ := trodAll_cons r0
  obtain ⟨v2, vs2, d2, ds2, p2, q2, rfl, rfl, rfl, h2, r2⟩ := trodAll_cons r1
  obtain ⟨rfl, rfl, rfl⟩ := trodAll_nil r2
  obtain rfl : args = #[v0, v1, v2] := by cases args; simp_all
  obtain ⟨rfl, rfl⟩ := trodVars_none hV
  have k0 := h0
  have k2 := h2
  have lt0 : ∀ x ∈ p0, x.block < W.heap.size := by obtain ⟨m, hm⟩ := k0; exact DataW.trod_lt m _ _ _ hm
  have lt2 : ∀ x ∈ p2, x.block < W.heap.size := by obtain ⟨m, hm⟩ := k2; exact DataW.trod_lt m _ _ _ hm
  obtain ⟨x, l, hs, hby, ho⟩ := open_bytesW (hval 0 22 v0 rfl rfl) h0
  obtain ⟨a1, rfl, rfl, rfl, w1⟩ := open_int u3 (hval 1 3 v1 rfl rfl) h1
  obtain ⟨y, sc, hs2, hop, ho2⟩ := open_ops (hval 2 57 v2 rfl rfl) h2
  clear hA0 hval0
  have hc := (many_ok l a1 sc bag0).calls ⟨hby, hop⟩ (two x y) W [v0, .int .i64 a1, v2] (start ho ho2)
    ⟨(hs (two x y) rfl : (C.slc 0 0 l.length none).is (two x y) v0), rfl, (hs2 (two x y) rfl : (C.slc 1 0 sc.length none).is (two x y) v2), trivial⟩ (fun y hy => by
      simp only [ct_many, List.mem_cons, List.not_mem_nil, or_false] at hy
      rcases hy with rfl | rfl | rfl <;> (intro n hn; simp [C.nm] at hn <;> (subst hn; first | exact (by decide : 0 < 3) | exact (by decide : 1 < 3))))
  refine hc.mono fun e W' he => ?_
  obtain ⟨v', rfl, r', vv, H', ⟨ψ, _, rfl, rfl⟩, hv, _, _, _, _, hst⟩ := he
  have hv' : v' = .bool true := hv
  subst hv'
  have bel : Below W.heap.size W W' := ⟨hst.out.os, hst.out.tape, hst.out.output, hst.out.size, fun k hk => hst.out.block k hk fun hS => by
    obtain ⟨m, hm⟩ := hS
    by_cases h0 : m = 0
    · subst h0; exact hm
    · by_cases h1 : m = 1
      · subst h1; exact hm
      · by_cases h2 : m = 2
        · subst h2; obtain ⟨i, hi⟩ := hm; cases hi
        · rw [blkOf, at_ge (by show 3 ≤ m; omega)] at hm; exact hm⟩
  exact ⟨_, rfl, _, _, _, [], _, [], hW', trodAll_mk1 (shut_bool u4 _), (trodAll_cons_mk (Below.trod laidOut (by kernel_rfl) (of_decide_eq_true (by kernel_rfl)) k0 bel lt0) (trodAll_cons_mk (shut_int u3 w1) (trodAll_cons_mk (Below.trod laidOut (by kernel_rfl) (of_decide_eq_true (by kernel_rfl)) k2 bel lt2) trodAll_mk0))), rfl, bel.frame _, fun h => by cases h⟩
theorem over : Rows.wireManyRow.holds Tryz.pinned (OpenSpec.ofChange Rows.wireManySpec) :=
  OpenClaim.holds_of_wide 5 Tryz.f5 rfl rfl rfl rfl rfl rfl rfl ⟨rfl, rfl, rfl, rfl, rfl⟩ rfl rfl rfl rfl rfl (by kernel_rfl) func (by kernel_rfl)
    (of_decide_eq_true (by kernel_rfl)) (by unfold Func.isWrapper; first | (rw [if_pos (by decide +kernel)]; kernel_rfl) | (rw [if_neg (by decide +kernel)]; exact ⟨rfl, rfl⟩))
    (fun os started H enc _ => lifted os started H enc)
theorem card : Rows.WireManyCardSaid :=
  Claim7.holds_tied_plain_at .later [] [.data, .data, .data] true (true, "bc2cc15cdbbd6351664b77a110f1f58cd1333c61b4e49819b8f4c52fb5182b84") true
    over (fun _ h => by cases h) (by kernel_rfl) (fun _ h => by cases h) wireMany_row_tie rfl ⟨rfl, rfl⟩ (by kernel_rfl) rfl
    (fun f fn hf hfn => by
      obtain rfl : f = 5 := Option.some.inj ((show Tryz.prog.funcNamed "twine/twinelaw1.WireMany" = some 5 by kernel_rfl).symm.trans hf) |>.symm
      obtain rfl : fn = Tryz.f5 := (Option.some.inj (func.symm.trans hfn)).symm
      exact ⟨by kernel_rfl, fun j t ht => by
        rw [params] at ht
        have hm : t ∈ [22, 3, 57] := by simpa using Array.mem_of_getElem? ht
        have hall : ([22, 3, 57].all fun u => !Tryz.prog.wantsStandIn u) = true := by kernel_rfl
        exact (show Tryz.prog.wantsStandIn t = false by simpa using List.all_eq_true.1 hall t hm)⟩)
    (by kernel_rfl)
end Go.Proofs.YtndlpbheifalhaaGreatDoor.TwireMany
namespace Go.Proofs.YtndlpbheifalhaaGreatDoor
theorem wireMany_holds : Rows.WireManyCardSaid := TwireMany.card
#print axioms wireMany_holds
end Go.Proofs.YtndlpbheifalhaaGreatDoor
end
