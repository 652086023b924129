/- Text 25 of 26 texts that prove the statement of RowParses; it holds without conditions beyond the statement's own. -/
import Derived.Laws.AppendOwn
import Derived.Laws.OwnMore
import Derived.Deep.MidRow
import Derived.Calls
import Derived.Deep.AppendSrc
import Derived.Maps.AppendAt
import Derived.IntWalk
import Derived.Tactics
import Derived.Laws.StructEq
import Derived.Orders
import Derived.Scope
import Derived.Deep.LoopGhost
import GoSem.Core.Utf8
import Derived.Laws.RangeAny
import Derived.Below
import Derived.Deep.Draws
import Derived.Deep.AppendLies
import Derived.OwnWalk
import Derived.Laws.BytesArg
import Derived.Laws.MakeOwn
import Derived.Deep.OwnRows
import Derived.Lib.ConvBytes
import Derived.Laws.Slices
import Derived.WalkKit
import Derived.KernelRfl
import Derived.RowKit3
import Derived.Deep.QuietTactic
import Derived.BigQuiet
import Derived.WideLaws
import Derived.Deep.DeepCutAuto
import Derived.Deep.CutBlock
import Derived.Deep.RegionHeld3
import Derived.Laws.Rows
import Derived.Lib.AppendStr
import Derived.ArgAppend
import Derived.Laws.IdiomCopy
import Derived.RowKit
import Derived.OrdersHeld
import Derived.Laws.BitsLemmas
import Derived.Test.YtoidibkcdkdneaaGreatDoorProg
import Derived.Lib.OthersKept
import Derived.WalkSmall
import Derived.Shelf.Strings.Builder1
import Derived.Shelf.Strings.Builder2
import Derived.Shelf.Strings.OnBuilder
import Derived.Shelf.Small.Wraps
import Derived.Shelf.Strings.Search1
import Derived.Shelf.Strings.Search2
import Derived.Shelf.Strings.Search3
import Derived.Shelf.Strings.Count
import Derived.Shelf.LaysM
import Derived.Shelf.Strings.Shaped
import Derived.Shelf.Strings.Prefix
import Derived.Shelf.Strings.Split
import Derived.Shelf.Unicode.DecodeSlow
import Derived.WalkLawsBesides
import Derived.StillTailTactics
import Derived.Lib.Split
import Derived.Lib.LastIndexByte
import Derived.Lib.Join
import Derived.Shelf.Vars
import Derived.ChangeArms
import Derived.Test.YtoidibkcdkdneaaGreatDoorRows
import Derived.ProofKit
import Derived.ChangeMaps5
import Derived.ChangeOld
import Derived.ChangeSame
import Derived.Carry
import Derived.SizedLaws
import Derived.Lay
import Derived.LaidLaws
import Derived.MakeChecks
import Derived.Lib.LaidTab
import Derived.SevenTiedAt
import Derived.OpenShut
import Derived.Test.YtoidibkcdkdneaaGreatDoorKP21
namespace Foot
end Foot
namespace Go.Proofs
end Go.Proofs
namespace Go.Proofs.YtoidibkcdkdneaaGreatDoor
end Go.Proofs.YtoidibkcdkdneaaGreatDoor
namespace Go.Proofs.YtoidibkcdkdneaaGreatDoor.E
end Go.Proofs.YtoidibkcdkdneaaGreatDoor.E
namespace Go.Proofs.YtoidibkcdkdneaaGreatDoor.Hand
end Go.Proofs.YtoidibkcdkdneaaGreatDoor.Hand
namespace Go.Proofs.YtoidibkcdkdneaaGreatDoor.MPat
end Go.Proofs.YtoidibkcdkdneaaGreatDoor.MPat
namespace Go.Proofs.YtoidibkcdkdneaaGreatDoor.MStr
end Go.Proofs.YtoidibkcdkdneaaGreatDoor.MStr
namespace Go.Proofs.YtoidibkcdkdneaaGreatDoor.PRead
end Go.Proofs.YtoidibkcdkdneaaGreatDoor.PRead
namespace Go.Proofs.YtoidibkcdkdneaaGreatDoor.PSplit
end Go.Proofs.YtoidibkcdkdneaaGreatDoor.PSplit
namespace Go.Proofs.YtoidibkcdkdneaaGreatDoor.R
end Go.Proofs.YtoidibkcdkdneaaGreatDoor.R
namespace Go.Proofs.YtoidibkcdkdneaaGreatDoor.T
end Go.Proofs.YtoidibkcdkdneaaGreatDoor.T
namespace Go.Proofs.YtoidibkcdkdneaaGreatDoor.TR
end Go.Proofs.YtoidibkcdkdneaaGreatDoor.TR
namespace Go.Proofs.YtoidibkcdkdneaaGreatDoor.TrulesParses
end Go.Proofs.YtoidibkcdkdneaaGreatDoor.TrulesParses
namespace Go.Proofs.YtoidibkcdkdneaaGreatDoorW.PrintLast
end Go.Proofs.YtoidibkcdkdneaaGreatDoorW.PrintLast
namespace Go.Proofs.YtoidibkcdkdneaaGreatDoorW.PrintMore
end Go.Proofs.YtoidibkcdkdneaaGreatDoorW.PrintMore
namespace Go.Proofs.YtoidibkcdkdneaaGreatDoorW.PrintWords
end Go.Proofs.YtoidibkcdkdneaaGreatDoorW.PrintWords
namespace Kd
end Kd
section
namespace Go.Proofs.YtoidibkcdkdneaaGreatDoor.TR
open Go.ChangeMaps Go.ChangeShapes Go.WideShapes Go.ChangeAt Go.RowKit Go.Proofs.YtoidibkcdkdneaaGreatDoor.E Go.Proofs.YtoidibkcdkdneaaGreatDoor.T
set_option maxRecDepth 100000
set_option linter.unusedVariables false
set_option linter.unusedSimpArgs false
abbrev laid : List (String × DataW Unit) := Rows.rulesParsesRow.laid
theorem own : ownKnob Tryz.prog.godebug = none := by kernel_rfl
theorem ub : Tryz.prog.underlying 4 = some .bool := by kernel_rfl
theorem ui : Tryz.prog.underlying 3 = some (.int .i64) := by kernel_rfl
theorem us : Tryz.prog.underlying 9 = some .string := by kernel_rfl
/-- The change's form, what is listed and the world's shape told besides. -/
theorem rih {H : Type} {enc : TypeId × Value → H} {C : Checked} {os : Os} {f : FuncId} {fn : Func} {s : ChangeSpec} {X : World → Array Value → Prop}
    (hX : ∀ (w w' : World) (args : Array Value), w.heap = w'.heap → X w args → X w' args)
    (own : ownKnob C.prog.godebug = none) (started : os.Started) (noInit : C.prog.inits.idxOf? f = none) (hfn : C.prog.funcs[f]? = some fn)
    (witness : ∃ (w : World) (tape : Tape) (i : Input), w.os = os ∧ (w.forCall tape i).Shaped C.prog ∧ i.vars = [] ∧ Input.okWide C.prog (w.forCall tape i) .any w.heap.size f i ∧
      ((s.pre enc C.prog fn [] false (w.forCall tape i).memory i.args ∧ X (w.forCall tape i).memory i.args) ∧ sizedMet enc C.prog fn (OpenSpec.ofChange s) false (w.forCall tape i).memory i.args) ∧ ({} : Assume).holds C.prog (lone (Frame.enter C.prog f i.args .normal) [] (w.forCall tape i)))
    (contract : ∀ (W : World) (base : Nat) (args : Array Value) (ds gs : List (DataW H)) (before : List MemPlace), W.ShapedOpen C.prog →
      (∀ (j : Nat) t v, fn.params[j]? = some t → args[j]? = some v → Value.okWide C.prog W .any base t v) →
      DataW.Whole enc C.prog fn.params.toList s.vars false W args.toList ds gs before → X W args →
      Calls C.prog f args W fun e W' => ∃ v, e = .returned v ∧ s.post enc C.prog fn false true false false W args v W') :
    ReturnsInHanded {} C os f .any (fun w args => (s.pre enc C.prog fn [] false w args ∧ X w args) ∧ sizedMet enc C.prog fn (OpenSpec.ofChange s) false w args) (s.post enc C.prog fn false true false false) := by
  refine returnsInHanded_of_calls own started noInit witness ?_
  intro w tape i _ hsh _ hok hpre hholds
  obtain ⟨_, _, _, fn', hfn', _, _, _, _, hval⟩ := hok
  have e : fn' = fn := Option.some.inj (hfn'.symm.trans hfn)
  subst e
  obtain ⟨⟨⟨ds, gs, before, hw, hc⟩, hx⟩, hz⟩ := hpre
  have hw' := DataW.Whole.of_heap (w' := w.forCall tape i) (by rfl) hw
  refine (contract (w.forCall tape i) w.heap.size i.args ds gs before hsh hval hw' (hX _ _ _ (by rfl) hx)).mono fun e W' ⟨v, he, hp⟩ => ?_
  subst he
  exact ChangeSpec.post_blind hp
theorem uh : Tryz.prog.underlying 84 = some (.slice 83) := by kernel_rfl
theorem ur : ∃ fs, Tryz.prog.underlying 83 = some (.struct fs) ∧ (∃ f0, fs[0]? = some f0 ∧ f0.type = 3 ∧ f0.offset = 0) ∧ (∃ f1, fs[1]? = some f1 ∧ f1.type = 9 ∧ f1.offset = 1) := by
  have h : (match Tryz.prog.underlying 83 with
    | some (.struct fs) => (match fs[0]?, fs[1]? with | some f0, some f1 => f0.type == 3 && f0.offset == 0 && f1.type == 9 && f1.offset == 1 | _, _ => false)
    | _ => false) = true := by kernel_rfl
  split at h
  · rename_i fs hfs
    split at h
    · rename_i f0 f1 h0 h1
      simp only [Bool.and_eq_true, beq_iff_eq] at h
      exact ⟨fs, hfs, ⟨f0, h0, h.1.1.1, h.1.1.2⟩, ⟨f1, h1, h.1.2, h.2⟩⟩
    · cases h
  · cases h
theorem c2 : Tryz.prog.cellsOf 83 = 2 := by kernel_rfl
theorem ci : Tryz.prog.cellsOf 3 = 1 := by kernel_rfl
theorem cs1 : Tryz.prog.cellsOf 9 = 1 := by kernel_rfl
theorem add_at {w : World} {a : Addr} {v : Value} (h : w.cell? (a.add 0) = some v) : a = ⟨a.block, a.off, none⟩ := by
  obtain ⟨b, o, s⟩ := a
  simp only [Addr.add, if_true] at h
  unfold World.cell? at h
  split at h
  · cases s with
    | none => rfl
    | some s => simp at h
  · cases h
theorem add_val (b o n : Nat) : (⟨b, o, none⟩ : Addr).add n = ⟨b, o + n, none⟩ := by
  unfold Addr.add
  split
  · rename_i h; subst h; rfl
  · rfl
/-- One head, read. -/
theorem head_of {W : World} {fuel : Nat} {a : Addr} {w : Int} {s : List UInt8} {p : List MemPlace} (h : (W.cells? 0 a 2).bind (DataW.trod (fun _ => ()) Tryz.prog W 0 (fun _ => true) false fuel 83) = some (.agg [.lit (.int .i64 w), .lit (.string s)], p)) :
    W.cell? (a.add 0) = some (.int .i64 w) ∧ W.cell? (a.add 1) = some (.string ⟨s.toArray⟩) := by
  obtain ⟨cs, hc, h⟩ := Option.bind_eq_some_iff.1 h
  obtain ⟨fs, hfs, ⟨f0, hf0, ht0, ho0⟩, ⟨f1, hf1, ht1, ho1⟩⟩ := ur
  obtain ⟨xs, n, rfl, hx, hl, hxl, hf⟩ := DataW.trod_struct hfs h
  have g0 := hf 0 f0 hf0
  have g1 := hf 1 f1 hf1
  rw [ht0, ho0, ci] at g0
  rw [ht1, ho1, cs1] at g1
  simp only [World.cells?, Nat.zero_le, if_true] at hc
  have hr : List.range 2 = [0, 1] := rfl
  rw [hr] at hc
  simp only [List.mapM_cons, List.mapM_nil, Option.bind_eq_bind, Option.pure_def, Option.bind_eq_some_iff, Option.some.injEq] at hc
  obtain ⟨v0, h0, t0, ⟨v1, h1, t1, rfl, rfl⟩, rfl⟩ := hc
  have hx' := congrArg Prod.fst hx
  simp only [DataW.agg.injEq] at hx'
  match xs, hx', hxl with
  | [x0, x1], hx', _ =>
    simp only [List.map_cons, List.map_nil, List.cons.injEq, and_true] at hx'
    obtain ⟨e0, e1⟩ := hx'
    simp at g0 g1
    obtain ⟨z, hz, hz2, _⟩ := DataW.trod_int ui g0
    obtain ⟨y, hy, hy2, _⟩ := DataW.trod_string us g1
    simp only [List.cons.injEq, and_true] at hz hy
    subst hz hy
    rw [hz2] at e0
    rw [hy2] at e1
    simp at e0 e1
    subst e0 e1
    exact ⟨h0, by rw [h1]⟩
  | [], hx', _ => simp at hx'
  | [_], hx', _ => simp at hx'
  | _ :: _ :: _ :: _, hx', _ => simp at hx'
theorem lowH : ∃ zero, ((begin Tryz.prog (fun _ _ => 0) default).world.heap[0]?).bind Obj.row? = some (zero, 84) ∧ zero.size = 1 := by
  have h : (((begin Tryz.prog (fun _ _ => 0) default).world.heap[0]?).bind Obj.row?).map (fun x => (x.2, x.1.size)) = some (84, 1) := by kernel_rfl
  obtain ⟨⟨z, t⟩, h1, h2⟩ := Option.map_eq_some_iff.1 h
  simp only [Prod.mk.injEq] at h2
  obtain ⟨rfl, h3⟩ := h2
  exact ⟨z, h1, h3⟩
theorem lowM : ∃ zero, ((begin Tryz.prog (fun _ _ => 0) default).world.heap[1]?).bind Obj.row? = some (zero, 3) ∧ zero.size = 1 := by
  have h : (((begin Tryz.prog (fun _ _ => 0) default).world.heap[1]?).bind Obj.row?).map (fun x => (x.2, x.1.size)) = some (3, 1) := by kernel_rfl
  obtain ⟨⟨z, t⟩, h1, h2⟩ := Option.map_eq_some_iff.1 h
  simp only [Prod.mk.injEq] at h2
  obtain ⟨rfl, h3⟩ := h2
  exact ⟨z, h1, h3⟩
/-- The tables, as a bag. -/
def bagT (t : Tb) : Bag KK := fun b => if b = 0 then some (.tab t.T0 t.p0 [headsC t]) else if b = 1 then some (.tab t.T1 t.p1 [.int .i64 t.m]) else if b = t.hb then some (.lay [⟨t.ho, Kd.hd, headsL⟩] t.ob) else none
structure Lies (t : Tb) (W : World) : Prop where
  hd : W.heap[0]? = some (.cells ([headsC t].map C.plain).toArray t.T0 t.p0)
  mx : W.heap[1]? = some (.cells (([.int .i64 t.m] : List C).map C.plain).toArray t.T1 t.p1)
  ar : W.heap[t.hb]? = some t.ob
  cs : ∀ j u, ((flat (K := KK) Kd.hd headsL).map C.plain)[j]? = some u → W.cell? ⟨t.hb, t.ho + j, none⟩ = some u
  ne0 : t.hb ≠ 0
  ne1 : t.hb ≠ 1
theorem Lies.has {t : Tb} {W : World} (h : Lies t W) : HasT t (bagT t) := ⟨if_pos rfl, by unfold bagT; rw [if_neg (by decide), if_pos rfl], ⟨_, by unfold bagT; rw [if_neg h.ne0, if_neg h.ne1, if_pos rfl], List.mem_singleton.2 rfl⟩⟩
theorem Lies.ok {t : Tb} {W : World} (h : Lies t W) : ∀ b i, bagT t b = some i → i.ok b W := fun b i hi => by
  unfold bagT at hi
  split at hi
  · rename_i e; subst e
    injection hi with hi; subst hi
    exact ⟨fun c hc => by simp only [List.mem_singleton] at hc; subst hc; exact ⟨rfl, rfl⟩, h.hd⟩
  · split at hi
    · rename_i e; subst e
      injection hi with hi; subst hi
      exact ⟨fun c hc => by simp only [List.mem_singleton] at hc; subst hc; exact ⟨rfl, rfl⟩, h.mx⟩
    · split at hi
      · rename_i e; subst e
        injection hi with hi; subst hi
        exact ⟨h.ar, fun v hv => by rw [List.mem_singleton.1 hv]; exact h.cs⟩
      · cases hi
theorem lies {W : World} (hsh : W.ShapedOpen Tryz.prog) (h : laidMetH Tryz.prog laid W) : ∃ t : Tb, Lies t W := by
  rw [MakeChecks.laidMetH_plain _ _ _ (by kernel_rfl)] at h
  obtain ⟨ps, ⟨_, _, _, _, _, _, _, _, _, _, ⟨_, _, _, _, _, _, _, _, _, _, ⟨_, _, _, _, _, _, _, _, _, _, ⟨_, _, _, _, _, _, _, _, _, _, ⟨g1, t1, cs1', f1, p1, q1, hg1, ht1, hv1, hd1, _, _⟩, _⟩, _⟩, _⟩, _⟩, _, _⟩ := h
  have hg : Tryz.prog.globalNamed "twine/rules.heads" = some 0 := by kernel_rfl
  have hty : (Tryz.prog.globals[0]?).map (·.type) = some 84 := by kernel_rfl
  obtain rfl := Option.some.inj (hg.symm.trans hg1)
  obtain rfl := Option.some.inj (hty.symm.trans ht1)
  obtain ⟨zero, hz, hzs⟩ := lowH
  obtain ⟨cs, hc, hcs, _⟩ := hsh.1 0 zero 84 (of_decide_eq_true (by kernel_rfl)) hz
  have hcv : cs1' = cs := by
    unfold World.var? at hv1
    rw [hg, Option.bind_some, hc] at hv1
    exact (by simpa using hv1.symm)
  subst hcv
  obtain ⟨zeroM, hzM, hzsM⟩ := lowM
  obtain ⟨csM, hcM, hcsM, _⟩ := hsh.1 1 zeroM 3 (of_decide_eq_true (by kernel_rfl)) hzM
  obtain ⟨m, hm⟩ := cell_of_shapedOpen_int (k := .i64) hsh (of_decide_eq_true (by kernel_rfl)) hzM hzsM (by kernel_rfl) (by kernel_rfl) ui
  have hd1 : DataW.trod (fun _ => ()) Tryz.prog W 0 (fun _ => true) false f1 84 cs1'.toList = some (Rows.laid_twine_rules_heads, p1) := hd1
  rcases DataW.trod_slice uh hd1 with ⟨_, hx⟩ | ⟨a, len, cap, elems, rest, n, rfl, hcl, hx, _, hle, _, hel, hat, hrest, _⟩
  · have := congrArg Prod.fst hx; simp [Rows.laid_twine_rules_heads] at this
  · have hx1 := congrArg Prod.fst hx
    simp only [Rows.laid_twine_rules_heads, DataW.slice.injEq] at hx1
    obtain ⟨he, hr⟩ := hx1
    have hel3 : elems.length = 3 := by have := congrArg List.length he; simpa using this.symm
    have hrl : rest.length = 0 := by have := congrArg List.length hr; simpa using this.symm
    have hlen : len = 3 := by omega
    have hcap : cap = 3 := by have := (hrest rfl).1; omega
    subst hlen hcap
    rw [c2] at hat
    match elems, he, hel3 with
    | [x0, x1, x2], he, _ =>
      simp only [List.map_cons, List.map_nil, List.cons.injEq, and_true] at he
      obtain ⟨e0, e1, e2⟩ := he
      have a0 := hat 0 (by decide)
      have a1 := hat 1 (by decide)
      have a2 := hat 2 (by decide)
      simp only [List.getElem?_cons_zero, List.getElem?_cons_succ] at a0 a1 a2
      obtain ⟨b0, c0⟩ := head_of (p := x0.2) (by rw [a0]; exact congrArg some (Prod.ext e0.symm rfl))
      obtain ⟨b1, c1⟩ := head_of (p := x1.2) (by rw [a1]; exact congrArg some (Prod.ext e1.symm rfl))
      obtain ⟨b2, c2'⟩ := head_of (p := x2.2) (by rw [a2]; exact congrArg some (Prod.ext e2.symm rfl))
      have ha : a = ⟨a.block, a.off, none⟩ := add_at (v := .int .i64 1) (by simpa [Addr.add] using b0)
      generalize a.block = hb at ha
      generalize a.off = ho at ha
      subst ha
      simp only [add_val, Nat.zero_mul, Nat.add_zero, Nat.one_mul] at b0 b1 b2 c0 c1 c2'
      have hob : ∃ ob, W.heap[hb]? = some ob := by
        unfold World.cell? at b0
        split at b0
        · rename_i hh; exact ⟨_, hh⟩
        · cases b0
      obtain ⟨ob, hob⟩ := hob
      have big : ∀ c T f, W.heap[hb]? = some (.cells c T f) → 5 < c.size := fun c T f hh => by
        unfold World.cell? at c2'
        simp only [hh] at c2'
        have := (Array.getElem?_eq_some_iff.1 (by simpa using c2')).1
        omega
      refine ⟨⟨hb, ob, ho, m, 84, 3, (0, 0), (0, 0)⟩, ?_, ?_, hob, ?_, ?_, ?_⟩
      · rw [hc]
        have : cs1' = #[.slice (some ⟨hb, ho, none⟩) 3 3] := by apply Array.ext'; simpa using hcl
        rw [this]
        rfl
      · rw [hcM]
        have h1 : csM = #[.int .i64 m] := by
          unfold World.cell? at hm
          simp only [hcM] at hm
          apply Array.ext
          · simp; omega
          · intro i hi1 hi2
            have hi0 : i = 0 := by simp at hi2; omega
            subst hi0
            have h2 : csM[0]? = some (.int .i64 m) := by simpa using hm
            exact (Array.getElem?_eq_some_iff.1 h2).2
        rw [h1]
        rfl
      · intro j u hj
        have hfl : (flat (K := KK) Kd.hd headsL).map C.plain = [.int .i64 1, .string ⟨#[115, 107, 105, 112, 32]⟩, .int .i64 2, .string ⟨#[112, 114, 101, 102, 101, 114, 32, 97, 32]⟩, .int .i64 3, .string ⟨#[112, 114, 101, 102, 101, 114, 32, 98, 32]⟩] := rfl
        rw [hfl] at hj
        match j, hj with
        | 0, hj => simp at hj; subst hj; exact b0
        | 1, hj => simp at hj; subst hj; exact c0
        | 2, hj => simp at hj; subst hj; exact b1
        | 3, hj => simp at hj; subst hj; exact c1
        | 4, hj => simp at hj; subst hj; exact b2
        | 5, hj => simp at hj; subst hj; exact c2'
        | j + 6, hj => simp at hj
      · rintro rfl
        have := big _ _ _ hc
        omega
      · rintro rfl
        have := big _ _ _ hcM
        omega
    | [], _, h => simp at h
    | [_], _, h => simp at h
    | [_, _], _, h => simp at h
    | _ :: _ :: _ :: _ :: _, _, h => simp at h
theorem start {t : Tb} {W : World} (ht : Lies t W) :
    HeapOK (Ours (fun _ => ⟨0, 0, 0, false, 0⟩) ([.bag (bagT t)] : VH KK)) W (fun _ => ⟨0, 0, 0, false, 0⟩) ([.bag (bagT t)] : VH KK) W := by
  have off : ∀ n, n ≠ 0 → at_ ([.bag (bagT t)] : VH KK) n = .gone := fun n h0 => at_ge (by show 1 ≤ n; omega)
  have z0 : ∀ n b, blkOf (fun _ => ⟨0, 0, 0, false, 0⟩) ([.bag (bagT t)] : VH KK) n b → n = 0 := fun n b h => by
    by_cases h0 : n = 0
    · exact h0
    · rw [blkOf, off n h0] at h; exact h.elim
  refine ⟨fun n => ?_, fun n => ?_, fun n m b hne h h' => hne ((z0 n b h).trans (z0 m b h').symm), fun n b h => .inl ⟨n, h⟩, fun n m b h => ?_, ⟨rfl, rfl, rfl, Nat.le_refl _, fun _ _ _ => rfl⟩⟩
  · by_cases h0 : n = 0
    · subst h0
      exact ht.ok
    · rw [off n h0]; trivial
  · by_cases h0 : n = 0
    · subst h0; trivial
    · rw [off n h0]; trivial
  · by_cases h0 : n = 0
    · subst h0; simp [rbOf, at_, Atom.rb] at h
    · rw [rbOf, off n h0] at h; simp [Atom.rb] at h
/-- What a law leaves: all that was there. -/
theorem below_of {t : Tb} {W W' : World} {r' : Nat → Ref} {ψ : Bag KK} (ht : Lies t W) (hE : Ext (bagT t) ψ) (hst : HeapOK (Ours (fun _ => ⟨0, 0, 0, false, 0⟩) ([.bag (bagT t)] : VH KK)) W r' [.bag ψ] W') : Below W.heap.size W W' := by
  refine ⟨hst.out.os, hst.out.tape, hst.out.output, hst.out.size, fun k hk => ?_⟩
  have h1 := ht.has
  have o0 := (hst.ok 0 _ _ (hE _ _ h1.1)).2
  have o1 := (hst.ok 0 _ _ (hE _ _ h1.2.1)).2
  obtain ⟨vs, hv2, _⟩ := h1.2.2
  have o2 := (hst.ok 0 _ _ (hE _ _ hv2)).1
  by_cases e0 : k = 0
  · subst e0; rw [o0, ht.hd]
  · by_cases e1 : k = 1
    · subst e1; rw [o1, ht.mx]
    · by_cases e2 : k = t.hb
      · subst e2; rw [o2, ht.ar]
      · refine hst.out.block k hk fun hS => ?_
        obtain ⟨m, hm⟩ := hS
        by_cases h0 : m = 0
        · subst h0
          obtain ⟨i, hi⟩ := hm
          have : bagT t k = some i := hi
          unfold bagT at this
          rw [if_neg e0, if_neg e1, if_neg e2] at this
          cases this
        · rw [blkOf, at_ge (by show 1 ≤ m; omega)] at hm; exact hm
end Go.Proofs.YtoidibkcdkdneaaGreatDoor.TR
end
