/- Text 26 of 27 texts that prove the statement of RowSays; it holds without conditions beyond the statement's own. -/
import Derived.Laws.AppendOwn
import Derived.Laws.OwnMore
import Derived.Deep.MidRow
import Derived.Calls
import Derived.Deep.AppendSrc
import Derived.Maps.AppendAt
import Derived.IntWalk
import Derived.Tactics
import Derived.Laws.StructEq
import Derived.Orders
import Derived.Scope
import Derived.Deep.LoopGhost
import GoSem.Core.Utf8
import Derived.Laws.RangeAny
import Derived.Below
import Derived.Deep.Draws
import Derived.Deep.AppendLies
import Derived.OwnWalk
import Derived.Laws.BytesArg
import Derived.Laws.MakeOwn
import Derived.Deep.OwnRows
import Derived.Lib.ConvBytes
import Derived.Laws.Slices
import Derived.WalkKit
import Derived.KernelRfl
import Derived.RowKit3
import Derived.Deep.QuietTactic
import Derived.BigQuiet
import Derived.WideLaws
import Derived.Deep.DeepCutAuto
import Derived.Deep.CutBlock
import Derived.Deep.RegionHeld3
import Derived.Laws.Rows
import Derived.Lib.AppendStr
import Derived.ArgAppend
import Derived.Laws.IdiomCopy
import Derived.RowKit
import Derived.OrdersHeld
import Derived.Laws.BitsLemmas
import Derived.Test.YtoidibkcdkdneaaDoorProg
import Derived.Lib.OthersKept
import Derived.WalkSmall
import Derived.Shelf.Strings.Builder1
import Derived.Shelf.Strings.Builder2
import Derived.Shelf.Strings.OnBuilder
import Derived.Shelf.Small.Wraps
import Derived.Shelf.Strings.Search1
import Derived.Shelf.Strings.Search2
import Derived.Shelf.Strings.Search3
import Derived.Shelf.Strings.Count
import Derived.Shelf.LaysM
import Derived.Shelf.Strings.Shaped
import Derived.Shelf.Strings.LastIndex
import Derived.Shelf.Strings.Prefix
import Derived.Shelf.Strings.Split
import Derived.Shelf.Unicode.DecodeSlow
import Derived.WalkLawsBesides
import Derived.StillTailTactics
import Derived.Lib.Split
import Derived.Lib.LastIndexByte
import Derived.Lib.Join
import Derived.Shelf.Vars
import Derived.ChangeArms
import Derived.Test.YtoidibkcdkdneaaDoorRows
import Derived.ProofKit
import Derived.ChangeMaps5
import Derived.ChangeOld
import Derived.ChangeSame
import Derived.Carry
import Derived.SizedLaws
import Derived.Lay
import Derived.LaidLaws
import Derived.MakeChecks
import Derived.Lib.LaidTab
import Derived.SevenTiedAt
import Derived.OpenShut
import Derived.SliceStrings
import Derived.Test.YtoidibkcdkdneaaDoorKS24
namespace Foot
end Foot
namespace Go.Proofs
end Go.Proofs
namespace Go.Proofs.YtoidibkcdkdneaaDoor
end Go.Proofs.YtoidibkcdkdneaaDoor
namespace Go.Proofs.YtoidibkcdkdneaaDoor.E
end Go.Proofs.YtoidibkcdkdneaaDoor.E
namespace Go.Proofs.YtoidibkcdkdneaaDoor.Hand
end Go.Proofs.YtoidibkcdkdneaaDoor.Hand
namespace Go.Proofs.YtoidibkcdkdneaaDoor.MPat
end Go.Proofs.YtoidibkcdkdneaaDoor.MPat
namespace Go.Proofs.YtoidibkcdkdneaaDoor.MStr
end Go.Proofs.YtoidibkcdkdneaaDoor.MStr
namespace Go.Proofs.YtoidibkcdkdneaaDoor.PRead
end Go.Proofs.YtoidibkcdkdneaaDoor.PRead
namespace Go.Proofs.YtoidibkcdkdneaaDoor.PSplit
end Go.Proofs.YtoidibkcdkdneaaDoor.PSplit
namespace Go.Proofs.YtoidibkcdkdneaaDoor.R
end Go.Proofs.YtoidibkcdkdneaaDoor.R
namespace Go.Proofs.YtoidibkcdkdneaaDoor.T
end Go.Proofs.YtoidibkcdkdneaaDoor.T
namespace Go.Proofs.YtoidibkcdkdneaaDoor.TR
end Go.Proofs.YtoidibkcdkdneaaDoor.TR
namespace Go.Proofs.YtoidibkcdkdneaaDoor.TrulesSays
end Go.Proofs.YtoidibkcdkdneaaDoor.TrulesSays
namespace Go.Proofs.YtoidibkcdkdneaaDoorW.PrintLast
end Go.Proofs.YtoidibkcdkdneaaDoorW.PrintLast
namespace Go.Proofs.YtoidibkcdkdneaaDoorW.PrintMore
end Go.Proofs.YtoidibkcdkdneaaDoorW.PrintMore
namespace Go.Proofs.YtoidibkcdkdneaaDoorW.PrintWords
end Go.Proofs.YtoidibkcdkdneaaDoorW.PrintWords
namespace Kd
end Kd
section
namespace Go.Proofs.YtoidibkcdkdneaaDoor.TR
open Go.ChangeMaps Go.ChangeShapes Go.WideShapes Go.ChangeAt Go.RowKit Go.Proofs.YtoidibkcdkdneaaDoor.E Go.Proofs.YtoidibkcdkdneaaDoor.T
set_option maxRecDepth 100000
set_option linter.unusedVariables false
set_option linter.unusedSimpArgs false
abbrev rz : Ref := ⟨0, 0, 0, false, 0⟩
/-- What a bag tells of its blocks tells all of them. -/
def Fixed (φ : Bag KK) : Prop := ∀ k i, φ k = some i → ∃ X : Obj, ∀ w : World, i.ok k w → w.heap[k]? = some X
theorem startB {φ : Bag KK} {W : World} (h : ∀ b i, φ b = some i → i.ok b W) :
    HeapOK (Ours (fun _ => rz) ([.bag φ] : VH KK)) W (fun _ => rz) ([.bag φ] : VH KK) W := by
  have off : ∀ n, n ≠ 0 → at_ ([.bag φ] : VH KK) n = .gone := fun n h0 => at_ge (by show 1 ≤ n; omega)
  have z0 : ∀ n b, blkOf (fun _ => rz) ([.bag φ] : VH KK) n b → n = 0 := fun n b h => by
    by_cases h0 : n = 0
    · exact h0
    · rw [blkOf, off n h0] at h; exact h.elim
  refine ⟨fun n => ?_, fun n => ?_, fun n m b hne h h' => hne ((z0 n b h).trans (z0 m b h').symm), fun n b h => .inl ⟨n, h⟩, fun n m b h => ?_, ⟨rfl, rfl, rfl, Nat.le_refl _, fun _ _ _ => rfl⟩⟩
  · by_cases h0 : n = 0
    · subst h0; exact h
    · rw [off n h0]; trivial
  · by_cases h0 : n = 0
    · subst h0; trivial
    · rw [off n h0]; trivial
  · by_cases h0 : n = 0
    · subst h0; simp [rbOf, at_, Atom.rb] at h
    · rw [rbOf, off n h0] at h; simp [Atom.rb] at h
/-- The same, and an empty list besides. -/
theorem startE {φ : Bag KK} {W : World} {x : Ref} (h : ∀ b i, φ b = some i → i.ok b W) (hx : x.sz = 1 ∧ (x.nl = true → x.cap = 0)) :
    HeapOK (Ours (fun _ => x) ([.bag φ, .ro Kd.str ([] : List ByteArray)] : VH KK)) W (fun _ => x) ([.bag φ, .ro Kd.str ([] : List ByteArray)] : VH KK) W := by
  have off : ∀ n, n ≠ 0 → n ≠ 1 → at_ ([.bag φ, .ro Kd.str ([] : List ByteArray)] : VH KK) n = .gone := fun n h0 h1 => at_ge (by show 2 ≤ n; omega)
  have z0 : ∀ n b, blkOf (fun _ => x) ([.bag φ, .ro Kd.str ([] : List ByteArray)] : VH KK) n b → n = 0 := fun n b h => by
    by_cases h0 : n = 0
    · exact h0
    · by_cases h1 : n = 1
      · subst h1; exact h.elim
      · rw [blkOf, off n h0 h1] at h; exact h.elim
  refine ⟨fun n => ?_, fun n => ?_, fun n m b hne h h' => hne ((z0 n b h).trans (z0 m b h').symm), fun n b h => .inl ⟨n, h⟩, fun n m b h => ?_, ⟨rfl, rfl, rfl, Nat.le_refl _, fun _ _ _ => rfl⟩⟩
  · by_cases h0 : n = 0
    · subst h0; exact h
    · by_cases h1 : n = 1
      · subst h1; exact ⟨hx.1, Nat.zero_le _, hx.2, fun e => absurd rfl e⟩
      · rw [off n h0 h1]; trivial
  · by_cases h0 : n = 0
    · subst h0; trivial
    · by_cases h1 : n = 1
      · subst h1; trivial
      · rw [off n h0 h1]; trivial
  · by_cases h0 : n = 0
    · subst h0; simp [rbOf, at_, Atom.rb] at h
    · by_cases h1 : n = 1
      · subst h1; simp [rbOf, at_, Atom.rb] at h
      · rw [rbOf, off n h0 h1] at h; simp [Atom.rb] at h
theorem belowB {φ ψ : Bag KK} {W W' : World} {r r' : Nat → Ref} {A B : VH KK} (hF : Fixed φ) (h : ∀ b i, φ b = some i → i.ok b W) (hE : Ext φ ψ)
    (hA : ∀ n b, blkOf r (.bag φ :: A) n b → n = 0)
    (hst : HeapOK (Ours r (.bag φ :: A)) W r' (.bag ψ :: B) W') : Below W.heap.size W W' := by
  refine ⟨hst.out.os, hst.out.tape, hst.out.output, hst.out.size, fun k hk => ?_⟩
  cases hi : φ k with
  | some i =>
    obtain ⟨X, hX⟩ := hF k i hi
    rw [hX W (h k i hi), hX W' (hst.ok 0 _ _ (hE _ _ hi))]
  | none =>
    refine hst.out.block k hk fun hS => ?_
    obtain ⟨m, hm⟩ := hS
    have h0 := hA m k hm
    subst h0
    obtain ⟨i, hi'⟩ := hm
    have hi' : φ k = some i := hi'
    rw [hi] at hi'
    cases hi'
theorem fixedT (t : Tb) : Fixed (bagT t) := fun k i hi => by
  unfold bagT at hi
  split at hi
  · injection hi with hi; subst hi; exact ⟨_, fun w h => h.2⟩
  · split at hi
    · injection hi with hi; subst hi; exact ⟨_, fun w h => h.2⟩
    · split at hi
      · injection hi with hi; subst hi; exact ⟨_, fun w h => h.1⟩
      · cases hi
/-- The tables, and a list of texts. -/
def bagP (t : Tb) (l : List ByteArray) (blk off : Nat) (ob : Obj) : Bag KK := fun b => if b = 0 then some (.tab t.T0 t.p0 [headsC t]) else if b = 1 then some (.tab t.T1 t.p1 [.int .i64 t.m]) else if b = t.hb then some (.lay (⟨t.ho, Kd.hd, headsL⟩ :: if blk = t.hb then [⟨off, Kd.str, l⟩] else []) t.ob) else if b = blk then some (.lay [⟨off, Kd.str, l⟩] ob) else none
theorem fixedP (t : Tb) (l : List ByteArray) (blk off : Nat) (ob : Obj) : Fixed (bagP t l blk off ob) := fun k i hi => by
  unfold bagP at hi
  split at hi
  · injection hi with hi; subst hi; exact ⟨_, fun w h => h.2⟩
  · split at hi
    · injection hi with hi; subst hi; exact ⟨_, fun w h => h.2⟩
    · split at hi
      · injection hi with hi; subst hi; exact ⟨_, fun w h => h.1⟩
      · split at hi
        · injection hi with hi; subst hi; exact ⟨_, fun w h => h.1⟩
        · cases hi
/-- A list of texts lies there. -/
structure LiesP (W : World) (l : List ByteArray) (blk off : Nat) (ob : Obj) : Prop where
  ar : W.heap[blk]? = some ob
  cs : ∀ j u, ((flat (K := KK) Kd.str l).map C.plain)[j]? = some u → W.cell? ⟨blk, off + j, none⟩ = some u
  ne : l ≠ []
theorem LiesP.first {W : World} {l : List ByteArray} {blk off : Nat} {ob : Obj} (h : LiesP W l blk off ob) : ∃ s, W.cell? ⟨blk, off, none⟩ = some (.string s) := by
  cases l with
  | nil => exact absurd rfl h.ne
  | cons a r => exact ⟨a, h.cs 0 (.string a) rfl⟩
theorem LiesP.ne0 {t : Tb} {W : World} {l : List ByteArray} {blk off : Nat} {ob : Obj} (h : LiesP W l blk off ob) (ht : Lies t W) : blk ≠ 0 := fun e => by
  obtain ⟨s, hs⟩ := h.first
  rw [e] at hs
  unfold World.cell? at hs
  simp only [ht.hd] at hs
  match off, hs with
  | 0, hs => simp [headsC, C.plain] at hs
  | n + 1, hs => simp at hs
theorem LiesP.ne1 {t : Tb} {W : World} {l : List ByteArray} {blk off : Nat} {ob : Obj} (h : LiesP W l blk off ob) (ht : Lies t W) : blk ≠ 1 := fun e => by
  obtain ⟨s, hs⟩ := h.first
  rw [e] at hs
  unfold World.cell? at hs
  simp only [ht.mx] at hs
  match off, hs with
  | 0, hs => simp [C.plain] at hs
  | n + 1, hs => simp at hs
theorem hasP {t : Tb} {W : World} {l : List ByteArray} {blk off : Nat} {ob : Obj} (h : LiesP W l blk off ob) (ht : Lies t W) : HasT t (bagP t l blk off ob) ∧ HasV (bagP t l blk off ob) blk off Kd.str l ob := by
  refine ⟨⟨if_pos rfl, by unfold bagP; rw [if_neg (by decide), if_pos rfl], ⟨_, by unfold bagP; rw [if_neg ht.ne0, if_neg ht.ne1, if_pos rfl], List.mem_cons_self ..⟩⟩, ?_⟩
  by_cases e : blk = t.hb
  · have eo : t.ob = ob := by
      have h1 := ht.ar
      rw [← e, h.ar] at h1
      exact (Option.some.inj h1).symm
    refine ⟨_, by unfold bagP; rw [if_neg (h.ne0 ht), if_neg (h.ne1 ht), if_pos e, eo], ?_⟩
    rw [if_pos e]
    simp
  · exact ⟨_, by unfold bagP; rw [if_neg (h.ne0 ht), if_neg (h.ne1 ht), if_neg e, if_pos rfl], List.mem_singleton.2 rfl⟩
theorem okP {t : Tb} {W : World} {l : List ByteArray} {blk off : Nat} {ob : Obj} (h : LiesP W l blk off ob) (ht : Lies t W) : ∀ b i, bagP t l blk off ob b = some i → i.ok b W := fun b i hi => by
  unfold bagP at hi
  split at hi
  · rename_i e; subst e
    injection hi with hi; subst hi
    exact ⟨fun c hc => by simp only [List.mem_singleton] at hc; subst hc; exact ⟨rfl, rfl⟩, ht.hd⟩
  · split at hi
    · rename_i e; subst e
      injection hi with hi; subst hi
      exact ⟨fun c hc => by simp only [List.mem_singleton] at hc; subst hc; exact ⟨rfl, rfl⟩, ht.mx⟩
    · split at hi
      · rename_i e
        injection hi with hi; subst hi
        refine ⟨by rw [e]; exact ht.ar, fun v hv => ?_⟩
        rcases List.mem_cons.1 hv with rfl | hv
        · rw [e]; exact ht.cs
        · split at hv
          · rename_i e2
            rw [List.mem_singleton.1 hv, e, ← e2]
            exact h.cs
          · cases hv
      · split at hi
        · rename_i e; subst e
          injection hi with hi; subst hi
          exact ⟨h.ar, fun v hv => by rw [List.mem_singleton.1 hv]; exact h.cs⟩
        · cases hi
theorem uss : Tryd.prog.underlying 22 = some (.slice 9) := by kernel_rfl
theorem flat_str (l : List ByteArray) : flat (K := KK) Kd.str l = l.map C.str := by
  unfold flat
  induction l with
  | nil => rfl
  | cons a t ih => exact congrArg (fun x => C.str a :: x) ih
/-- A parameter that is a list of texts: empty, or it lies somewhere. -/
theorem open_paths {H : Type} {enc : TypeId × Value → H} {W : World} {base : Nat} {v : Value} {d : DataW H} {ps : List MemPlace} (hval : Value.okWide Tryd.prog W .any base 22 v) (h : DataW.Trod enc Tryd.prog W 0 (fun _ => true) true 22 v d ps) :
    (∃ x : Ref, (x.sz = 1 ∧ (x.nl = true → x.cap = 0)) ∧ (C.slc 1 0 0 none).is (fun _ => x) v) ∨
    ∃ (l : List ByteArray) (blk off c : Nat) (ob : Obj), LiesP W l blk off ob ∧ v = .slice (some ⟨blk, off, none⟩) l.length c ∧ l.length ≤ 9223372036854775807 ∧ ∀ x ∈ l, x.size ≤ 9223372036854775807 := by
  obtain ⟨fuel, hf⟩ := h
  rcases open_strings uss us (by kernel_rfl) hf with ⟨hcs, _⟩ | ⟨a, len, cap, ss, hcs, _, hl, hm, hz, _, hcell, hws⟩
  · obtain ⟨A, n, c, rfl⟩ := okWide_slice uss hval
    simp [Value.cells] at hcs
    obtain ⟨rfl, rfl, rfl⟩ := hcs
    exact .inl ⟨⟨0, 1, 0, true, 0⟩, ⟨rfl, fun _ => rfl⟩, ⟨none, rfl, .inr rfl⟩⟩
  · obtain ⟨A, n, c, rfl⟩ := okWide_slice uss hval
    simp [Value.cells] at hcs
    obtain ⟨rfl, rfl, rfl⟩ := hcs
    have hsp : a.spot = none := by
      simp only [Value.okWide, Cell.okWide, uss, Cell.ok] at hval
      exact hval.2.2.2.1
    obtain ⟨blk, off, spot⟩ := a
    simp only at hsp
    subst hsp
    simp only [if_true] at hz
    have hlen : (ss.take n).length = n := by rw [List.length_take]; omega
    by_cases h0 : n = 0
    · subst h0
      refine .inl ⟨⟨blk, 1, c, false, off⟩, ⟨rfl, fun h => by cases h⟩, ⟨some ⟨blk, off, none⟩, rfl, .inr (by simp)⟩⟩
    · have hc' : ∀ j y, (ss.take n)[j]? = some y → W.cell? ⟨blk, off + j, none⟩ = some (.string y) := fun j y hj => by
        have hjl : j < n := by have := (List.getElem?_eq_some_iff.1 hj).1; omega
        have h1 := hcell j (by omega)
        rw [List.getElem?_take, if_pos hjl] at hj
        rw [List.getD_eq_getElem?_getD, hj, Option.getD_some] at h1
        simpa [Addr.add_lit] using h1
      have hob : ∃ ob, W.heap[blk]? = some ob := by
        cases hs : ss.take n with
        | nil => rw [hs] at hlen; exact absurd hlen.symm h0
        | cons y t =>
          have h1 := hc' 0 y (by rw [hs]; rfl)
          unfold World.cell? at h1
          cases e : W.heap[blk]? with
          | none => simp [e] at h1
          | some o => exact ⟨o, rfl⟩
      obtain ⟨ob, hob⟩ := hob
      unfold maxLen at hm hws
      refine .inr ⟨ss.take n, blk, off, c, ob, ⟨hob, fun j u hj => ?_, fun e => by rw [e] at hlen; exact h0 hlen.symm⟩, by rw [hlen], by omega, fun x hx => hws x (List.mem_of_mem_take hx)⟩
      rw [flat_str, List.map_map, List.getElem?_map] at hj
      cases hq : (ss.take n)[j]? with
      | none => rw [hq] at hj; cases hj
      | some y =>
        rw [hq] at hj
        obtain rfl := Option.some.inj hj
        exact hc' j y hq
end Go.Proofs.YtoidibkcdkdneaaDoor.TR
end
