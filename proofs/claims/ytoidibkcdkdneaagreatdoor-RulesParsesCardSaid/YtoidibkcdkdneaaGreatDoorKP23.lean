/- Text 24 of 26 texts that prove the statement of RowParses; it holds without conditions beyond the statement's own. -/
import Derived.Laws.AppendOwn
import Derived.Laws.OwnMore
import Derived.Deep.MidRow
import Derived.Calls
import Derived.Deep.AppendSrc
import Derived.Maps.AppendAt
import Derived.IntWalk
import Derived.Tactics
import Derived.Laws.StructEq
import Derived.Orders
import Derived.Scope
import Derived.Deep.LoopGhost
import GoSem.Core.Utf8
import Derived.Laws.RangeAny
import Derived.Below
import Derived.Deep.Draws
import Derived.Deep.AppendLies
import Derived.OwnWalk
import Derived.Laws.BytesArg
import Derived.Laws.MakeOwn
import Derived.Deep.OwnRows
import Derived.Lib.ConvBytes
import Derived.Laws.Slices
import Derived.WalkKit
import Derived.KernelRfl
import Derived.RowKit3
import Derived.Deep.QuietTactic
import Derived.BigQuiet
import Derived.WideLaws
import Derived.Deep.DeepCutAuto
import Derived.Deep.CutBlock
import Derived.Deep.RegionHeld3
import Derived.Laws.Rows
import Derived.Lib.AppendStr
import Derived.ArgAppend
import Derived.Laws.IdiomCopy
import Derived.RowKit
import Derived.OrdersHeld
import Derived.Laws.BitsLemmas
import Derived.Test.YtoidibkcdkdneaaGreatDoorProg
import Derived.Lib.OthersKept
import Derived.WalkSmall
import Derived.Shelf.Strings.Builder1
import Derived.Shelf.Strings.Builder2
import Derived.Shelf.Strings.OnBuilder
import Derived.Shelf.Small.Wraps
import Derived.Shelf.Strings.Search1
import Derived.Shelf.Strings.Search2
import Derived.Shelf.Strings.Search3
import Derived.Shelf.Strings.Count
import Derived.Shelf.LaysM
import Derived.Shelf.Strings.Shaped
import Derived.Shelf.Strings.Prefix
import Derived.Shelf.Strings.Split
import Derived.Shelf.Unicode.DecodeSlow
import Derived.WalkLawsBesides
import Derived.StillTailTactics
import Derived.Lib.Split
import Derived.Lib.LastIndexByte
import Derived.Lib.Join
import Derived.Test.YtoidibkcdkdneaaGreatDoorKP20
import Derived.Test.YtoidibkcdkdneaaGreatDoorKP22
namespace Foot
end Foot
namespace Go.Proofs
end Go.Proofs
namespace Go.Proofs.YtoidibkcdkdneaaGreatDoor
end Go.Proofs.YtoidibkcdkdneaaGreatDoor
namespace Go.Proofs.YtoidibkcdkdneaaGreatDoor.E
end Go.Proofs.YtoidibkcdkdneaaGreatDoor.E
namespace Go.Proofs.YtoidibkcdkdneaaGreatDoor.Hand
end Go.Proofs.YtoidibkcdkdneaaGreatDoor.Hand
namespace Go.Proofs.YtoidibkcdkdneaaGreatDoor.MPat
end Go.Proofs.YtoidibkcdkdneaaGreatDoor.MPat
namespace Go.Proofs.YtoidibkcdkdneaaGreatDoor.MStr
end Go.Proofs.YtoidibkcdkdneaaGreatDoor.MStr
namespace Go.Proofs.YtoidibkcdkdneaaGreatDoor.PRead
end Go.Proofs.YtoidibkcdkdneaaGreatDoor.PRead
namespace Go.Proofs.YtoidibkcdkdneaaGreatDoor.PSplit
end Go.Proofs.YtoidibkcdkdneaaGreatDoor.PSplit
namespace Go.Proofs.YtoidibkcdkdneaaGreatDoor.R
end Go.Proofs.YtoidibkcdkdneaaGreatDoor.R
namespace Go.Proofs.YtoidibkcdkdneaaGreatDoor.T
end Go.Proofs.YtoidibkcdkdneaaGreatDoor.T
namespace Go.Proofs.YtoidibkcdkdneaaGreatDoor.TR
end Go.Proofs.YtoidibkcdkdneaaGreatDoor.TR
namespace Go.Proofs.YtoidibkcdkdneaaGreatDoor.TrulesParses
end Go.Proofs.YtoidibkcdkdneaaGreatDoor.TrulesParses
namespace Go.Proofs.YtoidibkcdkdneaaGreatDoorW.PrintLast
end Go.Proofs.YtoidibkcdkdneaaGreatDoorW.PrintLast
namespace Go.Proofs.YtoidibkcdkdneaaGreatDoorW.PrintMore
end Go.Proofs.YtoidibkcdkdneaaGreatDoorW.PrintMore
namespace Go.Proofs.YtoidibkcdkdneaaGreatDoorW.PrintWords
end Go.Proofs.YtoidibkcdkdneaaGreatDoorW.PrintWords
namespace Kd
end Kd
section
namespace Go.Proofs.YtoidibkcdkdneaaGreatDoor.T
open Go.Proofs.YtoidibkcdkdneaaGreatDoor.E Go.Proofs.YtoidibkcdkdneaaGreatDoor.MStr Go.Proofs.YtoidibkcdkdneaaGreatDoor.R
set_option maxRecDepth 100000
set_option linter.unusedVariables false
set_option linter.unusedSimpArgs false
set_option linter.unusedSimpArgs false
/-- The book that stands at a name; one that is new has no lists yet. -/
def getBk (q : Nat) (H : VH KK) : Option (BS × List Kd × List Nat) := match at_ H q with
  | .cells _ (_ :: _ :: .int _ turn :: .int _ deep :: cs) => match cs.drop 81 with
    | .slc a _ _ _ :: .slc b _ _ _ :: .slc c _ _ _ :: .slc d _ _ _ :: .slc e _ _ _ :: .slc f _ _ _ :: .slc g _ _ _ :: .slc h _ _ _ :: .int _ seen :: _ =>
      match at_ H a, at_ H b, at_ H c, at_ H d, at_ H e, at_ H f, at_ H g, at_ H h with
      | .arr .rrule o, .arr .rrule t, .arr .rrule w, .arr .rrule n, .arr .rrule fr, .arr .int m, .arr .int du, .arr .int r => some (⟨turn, deep, o, t, w, n, fr, m, du, r, seen⟩, [], [q, a, b, c, d, e, f, g, h])
      | _, _, _, _, _, _, _, _ => none
    | .nils :: .nils :: .nils :: .nils :: .nils :: .nils :: .nils :: .nils :: .int _ seen :: _ => some (⟨turn, deep, [], [], [], [], [], [], [], [], seen⟩, [.rrule, .rrule, .rrule, .rrule, .rrule, .int, .int, .int], [q, H.length, H.length + 1, H.length + 2, H.length + 3, H.length + 4, H.length + 5, H.length + 6, H.length + 7])
    | _ => none
  | _ => none
def getRo (off : Nat) (q : Nat) (H : VH KK) : Option (List Ln × List Kd × Nat) := match at_ H q with
  | .cells _ [.slc a _ _ _] => match at_ H a with
    | .arr .line xs => some (xs, [], a)
    | _ => none
  | .cells _ [.nils] => some ([], [.line], off)
  | _ => none
def lstN (off : Nat) (x : VV) : Option (List Kd × Nat) := match x with
  | .one (.c (.slc c 0 _ none)) => some ([], c)
  | .one (.c .nils) => some ([.rule], off)
  | _ => none
def pickTl (t : Tb) (b r : Nat) (l : VV) (m : Int) (φ : Bag KK) (H : VH KK) : Option (Ct KK × List Kd × List Nat) := match getBk b H with
  | some (B, k1, τ) => match getRo (H.length + k1.length) r H with
    | some (xs, k2, a) => match lstN (H.length + k1.length + k2.length) l with
      | some (k3, c) => some (ct_tells t xs m B φ, k1 ++ (k2 ++ k3), τ ++ [0, r, a, c])
      | none => none
    | none => none
  | none => none
theorem pickTl_ok {t : Tb} {b r : Nat} {l : VV} {m : Int} {φ : Bag KK} {H : VH KK} {ct ks τ} (h : pickTl t b r l m φ H = some (ct, ks, τ)) : CtOk Tryz.prog 6 ct := by
  unfold pickTl at h
  split at h
  · split at h
    · split at h
      · cases h; exact tells_ok _ _ _ _ _
      · cases h
    · cases h
  · cases h
def pickMir (q : Nat) (φ : Bag KK) (H : VH KK) : Option (Ct KK × List Kd × List Nat) := match getR q H with
  | some (xs, ks, a) => some (ct_mirror φ xs, ks, [0, q, a])
  | none => none
theorem pickMir_ok (t : Tb) {q : Nat} {φ : Bag KK} {H : VH KK} {ct ks τ} (h : pickMir q φ H = some (ct, ks, τ)) : CtOk Tryz.prog 8 ct := by
  unfold pickMir at h
  split at h
  · cases h; exact mirror_ok t _ _
  · cases h
def pickRm (a : Nat) (H : VH KK) : Option (Ct KK × List Kd × List Nat) := match at_ H a with
  | .arr .rule l => some (ct_rmir l, [], [a])
  | _ => none
theorem pickRm_ok {a : Nat} {H : VH KK} {ct ks τ} (h : pickRm a H = some (ct, ks, τ)) : CtOk Tryz.prog 9 ct := by
  unfold pickRm at h
  split at h
  · cases h; exact rmir_ok _
  · cases h
def pickHd (b : Nat) (φ : Bag KK) (H : VH KK) : Option (Ct KK × List Kd × List Nat) := match getBk b H with
  | some (B, ks, τ) => some (ct_bHold B φ, ks, τ ++ [0])
  | none => none
theorem pickHd_ok {b : Nat} {φ : Bag KK} {H : VH KK} {ct ks τ} (h : pickHd b φ H = some (ct, ks, τ)) : CtOk Tryz.prog 10 ct := by
  unfold pickHd at h
  split at h
  · cases h; exact bHold_ok _ _
  · cases h
def pickTs (t : Tb) (args : List VV) (H : VH KK) : Option (Ct KK × List Kd × List Nat) := match args, at_ H 0 with
  | [.one (.c (.ptr b _ _)), .one (.c (.ptr r _ _)), .one (.c l), .one (.c (.int _ m))], .bag φ => pickTl t b r (.one (.c l)) m φ H
  | _, _ => none
theorem pickTs_ok {t : Tb} {args : List VV} {H : VH KK} {ct ks τ} (h : pickTs t args H = some (ct, ks, τ)) : CtOk Tryz.prog 6 ct := by
  unfold pickTs at h
  split at h
  · exact pickTl_ok h
  · cases h
def pickLw (t : Tb) (g : Bool) (f : FuncId) (args : List VV) (H : VH KK) : Option (Ct KK × List Kd × List Nat) := match f, args, at_ H 0 with
  | 4, [.one (.c (.str s))], _ => some (ct_rparse s, [], [])
  | 5, [], _ => some (ct_none, [], [])
  | 7, [.one (.c (.str s))], .bag φ => some (ct_parse s t φ g, [], [0])
  | 8, [.one (.c (.ptr q _ _))], .bag φ => pickMir q φ H
  | 9, [.one (.c (.slc a 0 _ none))], _ => pickRm a H
  | 10, [.one (.c (.ptr b _ _))], .bag φ => pickHd b φ H
  | _, _, _ => none
theorem pickLw_ok {t : Tb} {g : Bool} {f : FuncId} {args : List VV} {H : VH KK} {ct ks τ} (h : pickLw t g f args H = some (ct, ks, τ)) : CtOk Tryz.prog f ct := by
  unfold pickLw at h
  split at h
  · cases h; exact rparse_ok _
  · cases h; exact none_ok
  · cases h; exact parse_ok _ _ _ _
  · exact pickMir_ok t h
  · exact pickRm_ok h
  · exact pickHd_ok h
  · cases h
def pickAl (t : Tb) (g : Bool) (f : FuncId) (args : List VV) (H : VH KK) : Option (Ct KK × List Kd × List Nat) := match f with
  | 6 => pickTs t args H
  | f => pickLw t g f args H
theorem pickAl_ok {t : Tb} {g : Bool} {f : FuncId} {args : List VV} {H : VH KK} {ct ks τ} (h : pickAl t g f args H = some (ct, ks, τ)) : CtOk Tryz.prog f ct := by
  unfold pickAl at h
  split at h
  · exact pickTs_ok h
  · exact pickLw_ok h
def tabLw (t : Tb) (g : Bool) : Tab Tryz.prog KK := ⟨base t, pickAl t g, fun _ _ _ _ _ _ h => pickAl_ok h⟩
def ct_parses (s : ByteArray) (t : Tb) (φ : Bag KK) : Ct KK := { need := HasT t φ, pre := [.bag φ], args := [strv s], Y := Bag KK, ok := fun ψ => Kp φ ψ, ret := fun _ => boolv true, post := fun ψ => [.bag ψ] }
def lawH (s : ByteArray) (B : BS) (φ : Bag KK) : VH KK := [.bag φ, .arr .rule (goodOf (parseB s)), .cells 44 (bookC false false B.turn B.deep [.slc 3 0 B.o.length none, .slc 4 0 B.t.length none, .slc 5 0 B.w.length none, .slc 6 0 B.n.length none, .slc 7 0 B.f.length none, .slc 8 0 B.m.length none, .slc 9 0 B.d.length none, .slc 10 0 B.r.length none, .int .i64 B.seen]),
  .arr .rrule B.o, .arr .rrule B.t, .arr .rrule B.w, .arr .rrule B.n, .arr .rrule B.f, .arr .int B.m, .arr .int B.d, .arr .int B.r]
def lawOk (φ : Bag KK) (z : Nat × BS × Bag KK) : Prop := z.1 ≤ 2 ∧ RestOk z.2.2 z.2.1 ∧ z.2.1.seen ≤ 2 + 6 * z.1 ∧ Kp φ z.2.2
def inv_parses (s : ByteArray) (φ : Bag KK) : Inv KK := { X := Nat × BS × Bag KK, fr := fun z => [strv s, .any, .any, .c (.slc 1 0 (goodOf (parseB s)).length none), i64 (badOf (parseB s)).1, i64 (badOf (parseB s)).2, .c (.ptr 2 0 0), .any, i64 z.1] ++ anys 88, H := fun z => lawH s z.2.1 z.2.2, ok := fun z => lawOk φ z, meas := fun z => 2 - z.1 }
def ann_parses (s : ByteArray) (φ : Bag KK) : Ann KK := { loop := fun _ _ _ => some (inv_parses s φ), cut := fun _ _ _ => none, keep := some 9 }
theorem vc_parsesB (s : ByteArray) (t : Tb) (φ : Bag KK) : evFn (tabLw t false) (ann_parses s φ) Tryz.f3 (ct_parses s t φ) = ( ite2 (decide ((16384 : Int) < (↑s.size : Int))) (EndsAs 1 (ct_parses s t φ) (boolv true) [Atom.bag φ]) (s.size ≤ 1000000 ∧ Into (K := KK) 0 [] [] [VV.one (V1.c (C.str s))] [Atom.bag φ] [VV.one (V1.c (C.str
 s))] [] ∧ ∀ (y : Unit), True → True ∧ Into (K := KK) 0 [] [] [] [Atom.bag φ, Atom.arr Kd.rule (goodOf (parseB s)), Atom.cells 44 [C.bool false, C.bool false, C.int .i64 (0 : Int), C.int .i64 (0 : Int),
 C.nils, C.nils, C.nils, C.nils, C.nils, C.nils, C.nils, C.nils, C.int .i64 (0 : Int), C.nils, C.nils, C.nils, C.nils, C.nils, C.nils, C.nils, C.nils, C.int .i64 (0 : Int), C.nils, C.nils, C.nils, C.nils,
 C.nils, C.nils, C.nils, C.nils, C.int .i64 (0 : Int), C.nils, C.nils, C.nils, C.nils, C.nils, C.nils, C.nils, C.nils, C.int .i64 (0 : Int), C.nils, C.nils, C.nils, C.nils, C.nils, C.nils, C.nils, C.nils,
 C.int .i64 (0 : Int), C.nils, C.nils, C.nils, C.nils, C.nils, C.nils, C.nils, C.nils, C.int .i64 (0 : Int), C.nils, C.nils, C.nils, C.nils, C.nils, C.nils, C.nils, C.nils, C.int .i64 (0 : Int), C.nils,
 C.nils, C.nils, C.nils, C.nils, C.nils, C.nils, C.nils, C.int .i64 (0 : Int), C.nils, C.nils, C.nils, C.nils, C.nils, C.nils, C.nils, C.nils, C.int .i64 (0 : Int), C.nils, C.nils, C.nils, C.nils, C.nils,
 C.nils, C.nils, C.nils, C.int .i64 (0 : Int), C.nils, C.nils, C.nils, C.nils, C.nils, C.nils, C.nils, C.nils, C.int .i64 (0 : Int), C.nils, C.nils, C.nils, C.nils, C.nils, C.nils, C.nils, C.nils, C.int
 .i64 (0 : Int), C.nils, C.nils, C.nils, C.nils, C.nils, C.nils, C.nils, C.nils, C.int .i64 (0 : Int), C.nils, C.nils, C.nils, C.nils, C.nils, C.nils, C.nils, C.nils, C.int .i64 (0 : Int), C.nils, C.nils,
 C.nils, C.nils, C.nils, C.nils, C.nils, C.nils, C.int .i64 (0 : Int), C.nils, C.nils, C.nils, C.nils, C.nils, C.nils, C.nils, C.nils, C.int .i64 (0 : Int)]] [] [] ∧ ∀ (y : Unit), True → (RestOk φ (BS.mk
 ((0 : Int)) ((0 : Int)) ([]) ([]) ([]) ([]) ([]) ([]) ([]) ([]) ((0 : Int))) ∧ HasT t φ ∧ Good3 [] ∧ ((0 : Int) ≤ (7 : Int) ∧ (7 : Int) ≤ (1000000 : Int)) ∧ (0 : Int) ≤ (1000 : Int)) ∧ Into (K := KK) 0
 [Kd.rrule, Kd.rrule, Kd.rrule, Kd.rrule, Kd.rrule, Kd.int, Kd.int, Kd.int, Kd.line, Kd.rule] [2, 3 + 1, 3 + 1 + 1, 3 + 1 + 1 + 1, 3 + 1 + 1 + 1 + 1, 3 + 1 + 1 + 1 + 1 + 1, 3 + 1 + 1 + 1 + 1 + 1 + 1, 3
 + 1 + 1 + 1 + 1 + 1 + 1 + 1, 3 + 1 + 1 + 1 + 1 + 1 + 1 + 1 + 1, 0, 3, 3 + 1 + 1 + 1 + 1 + 1 + 1 + 1 + 1 + 1, 3 + 1 + 1 + 1 + 1 + 1 + 1 + 1 + 1 + 1 + 1] [VV.one (V1.c (C.ptr 2 0 0)), VV.one (V1.c (C.ptr
 3 0 0)), VV.one (V1.c C.nils), i64 (7 : Int)] [Atom.bag φ, Atom.arr Kd.rule (goodOf (parseB s)), Atom.cells 44 [C.bool false, C.bool false, C.int .i64 (0 : Int), C.int .i64 (0 : Int), C.nils, C.nils, C.nils,
 C.nils, C.nils, C.nils, C.nils, C.nils, C.int .i64 (0 : Int), C.nils, C.nils, C.nils, C.nils, C.nils, C.nils, C.nils, C.nils, C.int .i64 (0 : Int), C.nils, C.nils, C.nils, C.nils, C.nils, C.nils, C.nils,
 C.nils, C.int .i64 (0 : Int), C.nils, C.nils, C.nils, C.nils, C.nils, C.nils, C.nils, C.nils, C.int .i64 (0 : Int), C.nils, C.nils, C.nils, C.nils, C.nils, C.nils, C.nils, C.nils, C.int .i64 (0 : Int),
 C.nils, C.nils, C.nils, C.nils, C.nils, C.nils, C.nils, C.nils, C.int .i64 (0 : Int), C.nils, C.nils, C.nils, C.nils, C.nils, C.nils, C.nils, C.nils, C.int .i64 (0 : Int), C.nils, C.nils, C.nils, C.nils,
 C.nils, C.nils, C.nils, C.nils, C.int .i64 (0 : Int), C.nils, C.nils, C.nils, C.nils, C.nils, C.nils, C.nils, C.nils, C.int .i64 (0 : Int), C.nils, C.nils, C.nils, C.nils, C.nils, C.nils, C.nils, C.nils,
 C.int .i64 (0 : Int), C.nils, C.nils, C.nils, C.nils, C.nils, C.nils, C.nils, C.nils, C.int .i64 (0 : Int), C.nils, C.nils, C.nils, C.nils, C.nils, C.nils, C.nils, C.nils, C.int .i64 (0 : Int), C.nils,
 C.nils, C.nils, C.nils, C.nils, C.nils, C.nils, C.nils, C.int .i64 (0 : Int), C.nils, C.nils, C.nils, C.nils, C.nils, C.nils, C.nils, C.nils, C.int .i64 (0 : Int), C.nils, C.nils, C.nils, C.nils, C.nils,
 C.nils, C.nils, C.nils, C.int .i64 (0 : Int), C.nils, C.nils, C.nils, C.nils, C.nils, C.nils, C.nils, C.nils, C.int .i64 (0 : Int)], Atom.cells 64 [C.nils]] [VV.one (V1.c (C.ptr 0 0 0)), VV.one (V1.c (C.ptr
 10 0 0)), VV.one (V1.c (C.slc 12 0 0 none)), i64 (7 : Int)] [Atom.cells 44 [C.bool false, C.bool false, C.int .i64 (0 : Int), C.int .i64 (0 : Int), C.nils, C.nils, C.nils, C.nils, C.nils, C.nils, C.nils,
 C.nils, C.int .i64 (0 : Int), C.nils, C.nils, C.nils, C.nils, C.nils, C.nils, C.nils, C.nils, C.int .i64 (0 : Int), C.nils, C.nils, C.nils, C.nils, C.nils, C.nils, C.nils, C.nils, C.int .i64 (0 : Int),
 C.nils, C.nils, C.nils, C.nils, C.nils, C.nils, C.nils, C.nils, C.int .i64 (0 : Int), C.nils, C.nils, C.nils, C.nils, C.nils, C.nils, C.nils, C.nils, C.int .i64 (0 : Int), C.nils, C.nils, C.nils, C.nils,
 C.nils, C.nils, C.nils, C.nils, C.int .i64 (0 : Int), C.nils, C.nils, C.nils, C.nils, C.nils, C.nils, C.nils, C.nils, C.int .i64 (0 : Int), C.nils, C.nils, C.nils, C.nils, C.nils, C.nils, C.nils, C.nils,
 C.int .i64 (0 : Int), C.nils, C.nils, C.nils, C.nils, C.nils, C.nils, C.nils, C.nils, C.int .i64 (0 : Int), C.slc 1 0 0 none, C.slc 2 0 0 none, C.slc 3 0 0 none, C.slc 4 0 0 none, C.slc 5 0 0 none, C.slc
 6 0 0 none, C.slc 7 0 0 none, C.slc 8 0 0 none, C.int .i64 (0 : Int), C.nils, C.nils, C.nils, C.nils, C.nils, C.nils, C.nils, C.nils, C.int .i64 (0 : Int), C.nils, C.nils, C.nils, C.nils, C.nils, C.nils,
 C.nils, C.nils, C.int .i64 (0 : Int), C.nils, C.nils, C.nils, C.nils, C.nils, C.nils, C.nils, C.nils, C.int .i64 (0 : Int), C.nils, C.nils, C.nils, C.nils, C.nils, C.nils, C.nils, C.nils, C.int .i64 (0
 : Int), C.nils, C.nils, C.nils, C.nils, C.nils, C.nils, C.nils, C.nils, C.int .i64 (0 : Int), C.nils, C.nils, C.nils, C.nils, C.nils, C.nils, C.nils, C.nils, C.int .i64 (0 : Int)], Atom.arr Kd.rrule [],
 Atom.arr Kd.rrule [], Atom.arr Kd.rrule [], Atom.arr Kd.rrule [], Atom.arr Kd.rrule [], Atom.arr Kd.int [], Atom.arr Kd.int [], Atom.arr Kd.int [], Atom.bag φ, Atom.cells 64 [C.slc 11 0 0 none], Atom.arr
 Kd.line [], Atom.ro Kd.rule (LL [])] ∧ ∀ (y : BS × Bag KK), RestOk y.snd y.fst ∧ y.fst.seen = (2 : Int) ∧ Kp φ y.snd → Enter 1 (inv_parses s φ) (fun (x : Nat × BS × Bag KK) => True) ([VV.one (V1.c (C.str
 s)), VV.any, boolv false, VV.one (V1.c (C.slc 1 0 (goodOf (parseB s)).length none)), i64 (badOf (parseB s)).fst, i64 (badOf (parseB s)).snd, VV.one (V1.c (C.ptr 2 0 0)), VV.one (V1.c (C.ptr 3 0 0)), i64
 (0 : Int)] ++ anys 88) [Atom.bag y.snd, Atom.arr Kd.rule (goodOf (parseB s)), Atom.cells 44 [C.bool false, C.bool false, C.int .i64 y.fst.turn, C.int .i64 y.fst.deep, C.nils, C.nils, C.nils, C.nils, C.nils,
 C.nils, C.nils, C.nils, C.int .i64 (0 : Int), C.nils, C.nils, C.nils, C.nils, C.nils, C.nils, C.nils, C.nils, C.int .i64 (0 : Int), C.nils, C.nils, C.nils, C.nils, C.nils, C.nils, C.nils, C.nils, C.int
 .i64 (0 : Int), C.nils, C.nils, C.nils, C.nils, C.nils, C.nils, C.nils, C.nils, C.int .i64 (0 : Int), C.nils, C.nils, C.nils, C.nils, C.nils, C.nils, C.nils, C.nils, C.int .i64 (0 : Int), C.nils, C.nils,
 C.nils, C.nils, C.nils, C.nils, C.nils, C.nils, C.int .i64 (0 : Int), C.nils, C.nils, C.nils, C.nils, C.nils, C.nils, C.nils, C.nils, C.int .i64 (0 : Int), C.nils, C.nils, C.nils, C.nils, C.nils, C.nils,
 C.nils, C.nils, C.int .i64 (0 : Int), C.nils, C.nils, C.nils, C.nils, C.nils, C.nils, C.nils, C.nils, C.int .i64 (0 : Int), C.slc 14 0 y.fst.o.length none, C.slc 15 0 y.fst.t.length none, C.slc 16 0 y.fst.w.length
 none, C.slc 17 0 y.fst.n.length none, C.slc 18 0 y.fst.f.length none, C.slc 19 0 y.fst.m.length none, C.slc 20 0 y.fst.d.length none, C.slc 21 0 y.fst.r.length none, C.int .i64 y.fst.seen, C.nils, C.nils,
 C.nils, C.nils, C.nils, C.nils, C.nils, C.nils, C.int .i64 (0 : Int), C.nils, C.nils, C.nils, C.nils, C.nils, C.nils, C.nils, C.nils, C.int .i64 (0 : Int), C.nils, C.nils, C.nils, C.nils, C.nils, C.nils,
 C.nils, C.nils, C.int .i64 (0 : Int), C.nils, C.nils, C.nils, C.nils, C.nils, C.nils, C.nils, C.nils, C.int .i64 (0 : Int), C.nils, C.nils, C.nils, C.nils, C.nils, C.nils, C.nils, C.nils, C.int .i64 (0
 : Int), C.nils, C.nils, C.nils, C.nils, C.nils, C.nils, C.nils, C.nils, C.int .i64 (0 : Int)], Atom.cells 64 [C.slc 12 0 0 none], Atom.gone, Atom.gone, Atom.gone, Atom.gone, Atom.gone, Atom.gone, Atom.gone,
 Atom.gone, Atom.arr Kd.line [], Atom.arr Kd.rule [], Atom.arr Kd.rrule y.fst.o, Atom.arr Kd.rrule y.fst.t, Atom.arr Kd.rrule y.fst.w, Atom.arr Kd.rrule y.fst.n, Atom.arr Kd.rrule y.fst.f, Atom.arr Kd.int
 y.fst.m, Atom.arr Kd.int y.fst.d, Atom.arr Kd.int y.fst.r] ∧ ∀ (z : Nat × BS × Bag KK), lawOk φ z → ite2 (decide ((↑z.fst : Int) < (2 : Int))) ((s.size ≤ 1000000 ∧ HasT t z.snd.snd ∧ isGood (parseB s)
 = false) ∧ Into (K := KK) 0 [] [0] [VV.one (V1.c (C.str s))] [Atom.bag z.snd.snd, Atom.arr Kd.rule (goodOf (parseB s)), Atom.cells 44 [C.bool false, C.bool false, C.int .i64 z.snd.fst.turn, C.int .i64
 z.snd.fst.deep, C.nils, C.nils, C.nils, C.nils, C.nils, C.nils, C.nils, C.nils, C.int .i64 (0 : Int), C.nils, C.nils, C.nils, C.nils, C.nils, C.nils, C.nils, C.nils, C.int .i64 (0 : Int), C.nils, C.nils,
 C.nils, C.nils, C.nils, C.nils, C.nils, C.nils, C.int .i64 (0 : Int), C.nils, C.nils, C.nils, C.nils, C.nils, C.nils, C.nils, C.nils, C.int .i64 (0 : Int), C.nils, C.nils, C.nils, C.nils, C.nils, C.nils,
 C.nils, C.nils, C.int .i64 (0 : Int), C.nils, C.nils, C.nils, C.nils, C.nils, C.nils, C.nils, C.nils, C.int .i64 (0 : Int), C.nils, C.nils, C.nils, C.nils, C.nils, C.nils, C.nils, C.nils, C.int .i64 (0
 : Int), C.nils, C.nils, C.nils, C.nils, C.nils, C.nils, C.nils, C.nils, C.int .i64 (0 : Int), C.nils, C.nils, C.nils, C.nils, C.nils, C.nils, C.nils, C.nils, C.int .i64 (0 : Int), C.slc 3 0 z.snd.fst.o.length
 none, C.slc 4 0 z.snd.fst.t.length none, C.slc 5 0 z.snd.fst.w.length none, C.slc 6 0 z.snd.fst.n.length none, C.slc 7 0 z.snd.fst.f.length none, C.slc 8 0 z.snd.fst.m.length none, C.slc 9 0 z.snd.fst.d.length
 none, C.slc 10 0 z.snd.fst.r.length none, C.int .i64 z.snd.fst.seen, C.nils, C.nils, C.nils, C.nils, C.nils, C.nils, C.nils, C.nils, C.int .i64 (0 : Int), C.nils, C.nils, C.nils, C.nils, C.nils, C.nils,
 C.nils, C.nils, C.int .i64 (0 : Int), C.nils, C.nils, C.nils, C.nils, C.nils, C.nils, C.nils, C.nils, C.int .i64 (0 : Int), C.nils, C.nils, C.nils, C.nils, C.nils, C.nils, C.nils, C.nils, C.int .i64 (0
 : Int), C.nils, C.nils, C.nils, C.nils, C.nils, C.nils, C.nils, C.nils, C.int .i64 (0 : Int), C.nils, C.nils, C.nils, C.nils, C.nils, C.nils, C.nils, C.nils, C.int .i64 (0 : Int)], Atom.arr Kd.rrule z.snd.fst.o,
 Atom.arr Kd.rrule z.snd.fst.t, Atom.arr Kd.rrule z.snd.fst.w, Atom.arr Kd.rrule z.snd.fst.n, Atom.arr Kd.rrule z.snd.fst.f, Atom.arr Kd.int z.snd.fst.m, Atom.arr Kd.int z.snd.fst.d, Atom.arr Kd.int z.snd.fst.r]
 [VV.one (V1.c (C.str s))] [Atom.bag z.snd.snd] ∧ ∀ (y : Bag KK × List Ln), Ext z.snd.snd y.fst ∧ (false = true → GoodL y.fst y.snd ∧ LL y.snd = goodOf (parseB s)) → ite2 (decide ((badOf (parseB s)).fst
 = (badOf (parseB s)).fst)) (ite2 (decide ((badOf (parseB s)).snd = (badOf (parseB s)).snd)) (ite2 (decide ((badOf (parseB s)).snd = (0 : Int))) (EndsAs 1 (ct_parses s t φ) (boolv false) [Atom.bag y.fst,
 Atom.arr Kd.rule (goodOf (parseB s)), Atom.cells 44 [C.bool false, C.bool false, C.int .i64 z.snd.fst.turn, C.int .i64 z.snd.fst.deep, C.nils, C.nils, C.nils, C.nils, C.nils, C.nils, C.nils, C.nils, C.int
 .i64 (0 : Int), C.nils, C.nils, C.nils, C.nils, C.nils, C.nils, C.nils, C.nils, C.int .i64 (0 : Int), C.nils, C.nils, C.nils, C.nils, C.nils, C.nils, C.nils, C.nils, C.int .i64 (0 : Int), C.nils, C.nils,
 C.nils, C.nils, C.nils, C.nils, C.nils, C.nils, C.int .i64 (0 : Int), C.nils, C.nils, C.nils, C.nils, C.nils, C.nils, C.nils, C.nils, C.int .i64 (0 : Int), C.nils, C.nils, C.nils, C.nils, C.nils, C.nils,
 C.nils, C.nils, C.int .i64 (0 : Int), C.nils, C.nils, C.nils, C.nils, C.nils, C.nils, C.nils, C.nils, C.int .i64 (0 : Int), C.nils, C.nils, C.nils, C.nils, C.nils, C.nils, C.nils, C.nils, C.int .i64 (0
 : Int), C.nils, C.nils, C.nils, C.nils, C.nils, C.nils, C.nils, C.nils, C.int .i64 (0 : Int), C.slc 3 0 z.snd.fst.o.length none, C.slc 4 0 z.snd.fst.t.length none, C.slc 5 0 z.snd.fst.w.length none, C.slc
 6 0 z.snd.fst.n.length none, C.slc 7 0 z.snd.fst.f.length none, C.slc 8 0 z.snd.fst.m.length none, C.slc 9 0 z.snd.fst.d.length none, C.slc 10 0 z.snd.fst.r.length none, C.int .i64 z.snd.fst.seen, C.nils,
 C.nils, C.nils, C.nils, C.nils, C.nils, C.nils, C.nils, C.int .i64 (0 : Int), C.nils, C.nils, C.nils, C.nils, C.nils, C.nils, C.nils, C.nils, C.int .i64 (0 : Int), C.nils, C.nils, C.nils, C.nils, C.nils,
 C.nils, C.nils, C.nils, C.int .i64 (0 : Int), C.nils, C.nils, C.nils, C.nils, C.nils, C.nils, C.nils, C.nils, C.int .i64 (0 : Int), C.nils, C.nils, C.nils, C.nils, C.nils, C.nils, C.nils, C.nils, C.int
 .i64 (0 : Int), C.nils, C.nils, C.nils, C.nils, C.nils, C.nils, C.nils, C.nils, C.int .i64 (0 : Int)], Atom.arr Kd.rrule z.snd.fst.o, Atom.arr Kd.rrule z.snd.fst.t, Atom.arr Kd.rrule z.snd.fst.w, Atom.arr
 Kd.rrule z.snd.fst.n, Atom.arr Kd.rrule z.snd.fst.f, Atom.arr Kd.int z.snd.fst.m, Atom.arr Kd.int z.snd.fst.d, Atom.arr Kd.int z.snd.fst.r]) (i64ok ((↑z.fst : Int) + (1 : Int)) ∧ Enter 1 (inv_parses s
 φ) (fun (z' : Nat × BS × Bag KK) => 2 - z'.fst < 2 - z.fst) ([VV.one (V1.c (C.str s)), VV.any, VV.any, VV.one (V1.c (C.slc 1 0 (goodOf (parseB s)).length none)), i64 (badOf (parseB s)).fst, i64 (badOf
 (parseB s)).snd, VV.one (V1.c (C.ptr 2 0 0)), VV.any, i64 ((↑z.fst : Int) + (1 : Int))] ++ anys 88) [Atom.bag y.fst, Atom.arr Kd.rule (goodOf (parseB s)), Atom.cells 44 [C.bool false, C.bool false, C.int
 .i64 z.snd.fst.turn, C.int .i64 z.snd.fst.deep, C.nils, C.nils, C.nils, C.nils, C.nils, C.nils, C.nils, C.nils, C.int .i64 (0 : Int), C.nils, C.nils, C.nils, C.nils, C.nils, C.nils, C.nils, C.nils, C.int
 .i64 (0 : Int), C.nils, C.nils, C.nils, C.nils, C.nils, C.nils, C.nils, C.nils, C.int .i64 (0 : Int), C.nils, C.nils, C.nils, C.nils, C.nils, C.nils, C.nils, C.nils, C.int .i64 (0 : Int), C.nils, C.nils,
 C.nils, C.nils, C.nils, C.nils, C.nils, C.nils, C.int .i64 (0 : Int), C.nils, C.nils, C.nils, C.nils, C.nils, C.nils, C.nils, C.nils, C.int .i64 (0 : Int), C.nils, C.nils, C.nils, C.nils, C.nils, C.nils,
 C.nils, C.nils, C.int .i64 (0 : Int), C.nils, C.nils, C.nils, C.nils, C.nils, C.nils, C.nils, C.nils, C.int .i64 (0 : Int), C.nils, C.nils, C.nils, C.nils, C.nils, C.nils, C.nils, C.nils, C.int .i64 (0
 : Int), C.slc 3 0 z.snd.fst.o.length none, C.slc 4 0 z.snd.fst.t.length none, C.slc 5 0 z.snd.fst.w.length none, C.slc 6 0 z.snd.fst.n.length none, C.slc 7 0 z.snd.fst.f.length none, C.slc 8 0 z.snd.fst.m.length
 none, C.slc 9 0 z.snd.fst.d.length none, C.slc 10 0 z.snd.fst.r.length none, C.int .i64 z.snd.fst.seen, C.nils, C.nils, C.nils, C.nils, C.nils, C.nils, C.nils, C.nils, C.int .i64 (0 : Int), C.nils, C.nils,
 C.nils, C.nils, C.nils, C.nils, C.nils, C.nils, C.int .i64 (0 : Int), C.nils, C.nils, C.nils, C.nils, C.nils, C.nils, C.nils, C.nils, C.int .i64 (0 : Int), C.nils, C.nils, C.nils, C.nils, C.nils, C.nils,
 C.nils, C.nils, C.int .i64 (0 : Int), C.nils, C.nils, C.nils, C.nils, C.nils, C.nils, C.nils, C.nils, C.int .i64 (0 : Int), C.nils, C.nils, C.nils, C.nils, C.nils, C.nils, C.nils, C.nils, C.int .i64 (0
 : Int)], Atom.arr Kd.rrule z.snd.fst.o, Atom.arr Kd.rrule z.snd.fst.t, Atom.arr Kd.rrule z.snd.fst.w, Atom.arr Kd.rrule z.snd.fst.n, Atom.arr Kd.rrule z.snd.fst.f, Atom.arr Kd.int z.snd.fst.m, Atom.arr
 Kd.int z.snd.fst.d, Atom.arr Kd.int z.snd.fst.r])) (EndsAs 1 (ct_parses s t φ) (boolv false) [Atom.bag y.fst, Atom.arr Kd.rule (goodOf (parseB s)), Atom.cells 44 [C.bool false, C.bool false, C.int .i64
 z.snd.fst.turn, C.int .i64 z.snd.fst.deep, C.nils, C.nils, C.nils, C.nils, C.nils, C.nils, C.nils, C.nils, C.int .i64 (0 : Int), C.nils, C.nils, C.nils, C.nils, C.nils, C.nils, C.nils, C.nils, C.int .i64
 (0 : Int), C.nils, C.nils, C.nils, C.nils, C.nils, C.nils, C.nils, C.nils, C.int .i64 (0 : Int), C.nils, C.nils, C.nils, C.nils, C.nils, C.nils, C.nils, C.nils, C.int .i64 (0 : Int), C.nils, C.nils, C.nils,
 C.nils, C.nils, C.nils, C.nils, C.nils, C.int .i64 (0 : Int), C.nils, C.nils, C.nils, C.nils, C.nils, C.nils, C.nils, C.nils, C.int .i64 (0 : Int), C.nils, C.nils, C.nils, C.nils, C.nils, C.nils, C.nils,
 C.nils, C.int .i64 (0 : Int), C.nils, C.nils, C.nils, C.nils, C.nils, C.nils, C.nils, C.nils, C.int .i64 (0 : Int), C.nils, C.nils, C.nils, C.nils, C.nils, C.nils, C.nils, C.nils, C.int .i64 (0 : Int),
 C.slc 3 0 z.snd.fst.o.length none, C.slc 4 0 z.snd.fst.t.length none, C.slc 5 0 z.snd.fst.w.length none, C.slc 6 0 z.snd.fst.n.length none, C.slc 7 0 z.snd.fst.f.length none, C.slc 8 0 z.snd.fst.m.length
 none, C.slc 9 0 z.snd.fst.d.length none, C.slc 10 0 z.snd.fst.r.length none, C.int .i64 z.snd.fst.seen, C.nils, C.nils, C.nils, C.nils, C.nils, C.nils, C.nils, C.nils, C.int .i64 (0 : Int), C.nils, C.nils,
 C.nils, C.nils, C.nils, C.nils, C.nils, C.nils, C.int .i64 (0 : Int), C.nils, C.nils, C.nils, C.nils, C.nils, C.nils, C.nils, C.nils, C.int .i64 (0 : Int), C.nils, C.nils, C.nils, C.nils, C.nils, C.nils,
 C.nils, C.nils, C.int .i64 (0 : Int), C.nils, C.nils, C.nils, C.nils, C.nils, C.nils, C.nils, C.nils, C.int .i64 (0 : Int), C.nils, C.nils, C.nils, C.nils, C.nils, C.nils, C.nils, C.nils, C.int .i64 (0
 : Int)], Atom.arr Kd.rrule z.snd.fst.o, Atom.arr Kd.rrule z.snd.fst.t, Atom.arr Kd.rrule z.snd.fst.w, Atom.arr Kd.rrule z.snd.fst.n, Atom.arr Kd.rrule z.snd.fst.f, Atom.arr Kd.int z.snd.fst.m, Atom.arr
 Kd.int z.snd.fst.d, Atom.arr Kd.int z.snd.fst.r])) (EndsAs 1 (ct_parses s t φ) (boolv false) [Atom.bag y.fst, Atom.arr Kd.rule (goodOf (parseB s)), Atom.cells 44 [C.bool false, C.bool false, C.int .i64
 z.snd.fst.turn, C.int .i64 z.snd.fst.deep, C.nils, C.nils, C.nils, C.nils, C.nils, C.nils, C.nils, C.nils, C.int .i64 (0 : Int), C.nils, C.nils, C.nils, C.nils, C.nils, C.nils, C.nils, C.nils, C.int .i64
 (0 : Int), C.nils, C.nils, C.nils, C.nils, C.nils, C.nils, C.nils, C.nils, C.int .i64 (0 : Int), C.nils, C.nils, C.nils, C.nils, C.nils, C.nils, C.nils, C.nils, C.int .i64 (0 : Int), C.nils, C.nils, C.nils,
 C.nils, C.nils, C.nils, C.nils, C.nils, C.int .i64 (0 : Int), C.nils, C.nils, C.nils, C.nils, C.nils, C.nils, C.nils, C.nils, C.int .i64 (0 : Int), C.nils, C.nils, C.nils, C.nils, C.nils, C.nils, C.nils,
 C.nils, C.int .i64 (0 : Int), C.nils, C.nils, C.nils, C.nils, C.nils, C.nils, C.nils, C.nils, C.int .i64 (0 : Int), C.nils, C.nils, C.nils, C.nils, C.nils, C.nils, C.nils, C.nils, C.int .i64 (0 : Int),
 C.slc 3 0 z.snd.fst.o.length none, C.slc 4 0 z.snd.fst.t.length none, C.slc 5 0 z.snd.fst.w.length none, C.slc 6 0 z.snd.fst.n.length none, C.slc 7 0 z.snd.fst.f.length none, C.slc 8 0 z.snd.fst.m.length
 none, C.slc 9 0 z.snd.fst.d.length none, C.slc 10 0 z.snd.fst.r.length none, C.int .i64 z.snd.fst.seen, C.nils, C.nils, C.nils, C.nils, C.nils, C.nils, C.nils, C.nils, C.int .i64 (0 : Int), C.nils, C.nils,
 C.nils, C.nils, C.nils, C.nils, C.nils, C.nils, C.int .i64 (0 : Int), C.nils, C.nils, C.nils, C.nils, C.nils, C.nils, C.nils, C.nils, C.int .i64 (0 : Int), C.nils, C.nils, C.nils, C.nils, C.nils, C.nils,
 C.nils, C.nils, C.int .i64 (0 : Int), C.nils, C.nils, C.nils, C.nils, C.nils, C.nils, C.nils, C.nils, C.int .i64 (0 : Int), C.nils, C.nils, C.nils, C.nils, C.nils, C.nils, C.nils, C.nils, C.int .i64 (0
 : Int)], Atom.arr Kd.rrule z.snd.fst.o, Atom.arr Kd.rrule z.snd.fst.t, Atom.arr Kd.rrule z.snd.fst.w, Atom.arr Kd.rrule z.snd.fst.n, Atom.arr Kd.rrule z.snd.fst.f, Atom.arr Kd.int z.snd.fst.m, Atom.arr
 Kd.int z.snd.fst.d, Atom.arr Kd.int z.snd.fst.r])) (BookOk z.snd.snd (BS.mk (z.snd.fst.turn) (z.snd.fst.deep) (z.snd.fst.o) (z.snd.fst.t) (z.snd.fst.w) (z.snd.fst.n) (z.snd.fst.f) (z.snd.fst.m) (z.snd.fst.d)
 (z.snd.fst.r) (z.snd.fst.seen)) ∧ Into (K := KK) 0 [] [2, 3, 4, 5, 6, 7, 8, 9, 10, 0] [VV.one (V1.c (C.ptr 2 0 0))] [Atom.bag z.snd.snd, Atom.arr Kd.rule (goodOf (parseB s)), Atom.cells 44 [C.bool false,
 C.bool false, C.int .i64 z.snd.fst.turn, C.int .i64 z.snd.fst.deep, C.nils, C.nils, C.nils, C.nils, C.nils, C.nils, C.nils, C.nils, C.int .i64 (0 : Int), C.nils, C.nils, C.nils, C.nils, C.nils, C.nils,
 C.nils, C.nils, C.int .i64 (0 : Int), C.nils, C.nils, C.nils, C.nils, C.nils, C.nils, C.nils, C.nils, C.int .i64 (0 : Int), C.nils, C.nils, C.nils, C.nils, C.nils, C.nils, C.nils, C.nils, C.int .i64 (0
 : Int), C.nils, C.nils, C.nils, C.nils, C.nils, C.nils, C.nils, C.nils, C.int .i64 (0 : Int), C.nils, C.nils, C.nils, C.nils, C.nils, C.nils, C.nils, C.nils, C.int .i64 (0 : Int), C.nils, C.nils, C.nils,
 C.nils, C.nils, C.nils, C.nils, C.nils, C.int .i64 (0 : Int), C.nils, C.nils, C.nils, C.nils, C.nils, C.nils, C.nils, C.nils, C.int .i64 (0 : Int), C.nils, C.nils, C.nils, C.nils, C.nils, C.nils, C.nils,
 C.nils, C.int .i64 (0 : Int), C.slc 3 0 z.snd.fst.o.length none, C.slc 4 0 z.snd.fst.t.length none, C.slc 5 0 z.snd.fst.w.length none, C.slc 6 0 z.snd.fst.n.length none, C.slc 7 0 z.snd.fst.f.length none,
 C.slc 8 0 z.snd.fst.m.length none, C.slc 9 0 z.snd.fst.d.length none, C.slc 10 0 z.snd.fst.r.length none, C.int .i64 z.snd.fst.seen, C.nils, C.nils, C.nils, C.nils, C.nils, C.nils, C.nils, C.nils, C.int
 .i64 (0 : Int), C.nils, C.nils, C.nils, C.nils, C.nils, C.nils, C.nils, C.nils, C.int .i64 (0 : Int), C.nils, C.nils, C.nils, C.nils, C.nils, C.nils, C.nils, C.nils, C.int .i64 (0 : Int), C.nils, C.nils,
 C.nils, C.nils, C.nils, C.nils, C.nils, C.nils, C.int .i64 (0 : Int), C.nils, C.nils, C.nils, C.nils, C.nils, C.nils, C.nils, C.nils, C.int .i64 (0 : Int), C.nils, C.nils, C.nils, C.nils, C.nils, C.nils,
 C.nils, C.nils, C.int .i64 (0 : Int)], Atom.arr Kd.rrule z.snd.fst.o, Atom.arr Kd.rrule z.snd.fst.t, Atom.arr Kd.rrule z.snd.fst.w, Atom.arr Kd.rrule z.snd.fst.n, Atom.arr Kd.rrule z.snd.fst.f, Atom.arr
 Kd.int z.snd.fst.m, Atom.arr Kd.int z.snd.fst.d, Atom.arr Kd.int z.snd.fst.r] [VV.one (V1.c (C.ptr 0 0 0))] [Atom.cells 44 [C.bool false, C.bool false, C.int .i64 z.snd.fst.turn, C.int .i64 z.snd.fst.deep,
 C.nils, C.nils, C.nils, C.nils, C.nils, C.nils, C.nils, C.nils, C.int .i64 (0 : Int), C.nils, C.nils, C.nils, C.nils, C.nils, C.nils, C.nils, C.nils, C.int .i64 (0 : Int), C.nils, C.nils, C.nils, C.nils,
 C.nils, C.nils, C.nils, C.nils, C.int .i64 (0 : Int), C.nils, C.nils, C.nils, C.nils, C.nils, C.nils, C.nils, C.nils, C.int .i64 (0 : Int), C.nils, C.nils, C.nils, C.nils, C.nils, C.nils, C.nils, C.nils,
 C.int .i64 (0 : Int), C.nils, C.nils, C.nils, C.nils, C.nils, C.nils, C.nils, C.nils, C.int .i64 (0 : Int), C.nils, C.nils, C.nils, C.nils, C.nils, C.nils, C.nils, C.nils, C.int .i64 (0 : Int), C.nils,
 C.nils, C.nils, C.nils, C.nils, C.nils, C.nils, C.nils, C.int .i64 (0 : Int), C.nils, C.nils, C.nils, C.nils, C.nils, C.nils, C.nils, C.nils, C.int .i64 (0 : Int), C.slc 1 0 z.snd.fst.o.length none, C.slc
 2 0 z.snd.fst.t.length none, C.slc 3 0 z.snd.fst.w.length none, C.slc 4 0 z.snd.fst.n.length none, C.slc 5 0 z.snd.fst.f.length none, C.slc 6 0 z.snd.fst.m.length none, C.slc 7 0 z.snd.fst.d.length none,
 C.slc 8 0 z.snd.fst.r.length none, C.int .i64 z.snd.fst.seen, C.nils, C.nils, C.nils, C.nils, C.nils, C.nils, C.nils, C.nils, C.int .i64 (0 : Int), C.nils, C.nils, C.nils, C.nils, C.nils, C.nils, C.nils,
 C.nils, C.int .i64 (0 : Int), C.nils, C.nils, C.nils, C.nils, C.nils, C.nils, C.nils, C.nils, C.int .i64 (0 : Int), C.nils, C.nils, C.nils, C.nils, C.nils, C.nils, C.nils, C.nils, C.int .i64 (0 : Int),
 C.nils, C.nils, C.nils, C.nils, C.nils, C.nils, C.nils, C.nils, C.int .i64 (0 : Int), C.nils, C.nils, C.nils, C.nils, C.nils, C.nils, C.nils, C.nils, C.int .i64 (0 : Int)], Atom.arr Kd.rrule z.snd.fst.o,
 Atom.arr Kd.rrule z.snd.fst.t, Atom.arr Kd.rrule z.snd.fst.w, Atom.arr Kd.rrule z.snd.fst.n, Atom.arr Kd.rrule z.snd.fst.f, Atom.arr Kd.int z.snd.fst.m, Atom.arr Kd.int z.snd.fst.d, Atom.arr Kd.int z.snd.fst.r,
 Atom.bag z.snd.snd] ∧ ∀ (y : Unit), True → EndsAs 1 (ct_parses s t φ) (boolv true) [Atom.bag z.snd.snd, Atom.arr Kd.rule (goodOf (parseB s)), Atom.cells 44 [C.bool false, C.bool false, C.int .i64 z.snd.fst.turn,
 C.int .i64 z.snd.fst.deep, C.nils, C.nils, C.nils, C.nils, C.nils, C.nils, C.nils, C.nils, C.int .i64 (0 : Int), C.nils, C.nils, C.nils, C.nils, C.nils, C.nils, C.nils, C.nils, C.int .i64 (0 : Int), C.nils,
 C.nils, C.nils, C.nils, C.nils, C.nils, C.nils, C.nils, C.int .i64 (0 : Int), C.nils, C.nils, C.nils, C.nils, C.nils, C.nils, C.nils, C.nils, C.int .i64 (0 : Int), C.nils, C.nils, C.nils, C.nils, C.nils,
 C.nils, C.nils, C.nils, C.int .i64 (0 : Int), C.nils, C.nils, C.nils, C.nils, C.nils, C.nils, C.nils, C.nils, C.int .i64 (0 : Int), C.nils, C.nils, C.nils, C.nils, C.nils, C.nils, C.nils, C.nils, C.int
 .i64 (0 : Int), C.nils, C.nils, C.nils, C.nils, C.nils, C.nils, C.nils, C.nils, C.int .i64 (0 : Int), C.nils, C.nils, C.nils, C.nils, C.nils, C.nils, C.nils, C.nils, C.int .i64 (0 : Int), C.slc 3 0 z.snd.fst.o.length
 none, C.slc 4 0 z.snd.fst.t.length none, C.slc 5 0 z.snd.fst.w.length none, C.slc 6 0 z.snd.fst.n.length none, C.slc 7 0 z.snd.fst.f.length none, C.slc 8 0 z.snd.fst.m.length none, C.slc 9 0 z.snd.fst.d.length
 none, C.slc 10 0 z.snd.fst.r.length none, C.int .i64 z.snd.fst.seen, C.nils, C.nils, C.nils, C.nils, C.nils, C.nils, C.nils, C.nils, C.int .i64 (0 : Int), C.nils, C.nils, C.nils, C.nils, C.nils, C.nils,
 C.nils, C.nils, C.int .i64 (0 : Int), C.nils, C.nils, C.nils, C.nils, C.nils, C.nils, C.nils, C.nils, C.int .i64 (0 : Int), C.nils, C.nils, C.nils, C.nils, C.nils, C.nils, C.nils, C.nils, C.int .i64 (0
 : Int), C.nils, C.nils, C.nils, C.nils, C.nils, C.nils, C.nils, C.nils, C.int .i64 (0 : Int), C.nils, C.nils, C.nils, C.nils, C.nils, C.nils, C.nils, C.nils, C.int .i64 (0 : Int)], Atom.arr Kd.rrule z.snd.fst.o,
 Atom.arr Kd.rrule z.snd.fst.t, Atom.arr Kd.rrule z.snd.fst.w, Atom.arr Kd.rrule z.snd.fst.n, Atom.arr Kd.rrule z.snd.fst.f, Atom.arr Kd.int z.snd.fst.m, Atom.arr Kd.int z.snd.fst.d, Atom.arr Kd.int z.snd.fst.r]))) := by kernel_rfl
theorem vc_parsesG (s : ByteArray) (t : Tb) (φ : Bag KK) : evFn (tabLw t true) (ann_parses s φ) Tryz.f3 (ct_parses s t φ) = ( ite2 (decide ((16384 : Int) < (↑s.size : Int))) (EndsAs 1 (ct_parses s t φ) (boolv true) [Atom.bag φ]) (s.size ≤ 1000000 ∧ Into (K := KK) 0 [] [] [VV.one (V1.c (C.str s))] [Atom.bag φ] [VV.one (V1.c (C.str
 s))] [] ∧ ∀ (y : Unit), True → True ∧ Into (K := KK) 0 [] [] [] [Atom.bag φ, Atom.arr Kd.rule (goodOf (parseB s)), Atom.cells 44 [C.bool false, C.bool false, C.int .i64 (0 : Int), C.int .i64 (0 : Int),
 C.nils, C.nils, C.nils, C.nils, C.nils, C.nils, C.nils, C.nils, C.int .i64 (0 : Int), C.nils, C.nils, C.nils, C.nils, C.nils, C.nils, C.nils, C.nils, C.int .i64 (0 : Int), C.nils, C.nils, C.nils, C.nils,
 C.nils, C.nils, C.nils, C.nils, C.int .i64 (0 : Int), C.nils, C.nils, C.nils, C.nils, C.nils, C.nils, C.nils, C.nils, C.int .i64 (0 : Int), C.nils, C.nils, C.nils, C.nils, C.nils, C.nils, C.nils, C.nils,
 C.int .i64 (0 : Int), C.nils, C.nils, C.nils, C.nils, C.nils, C.nils, C.nils, C.nils, C.int .i64 (0 : Int), C.nils, C.nils, C.nils, C.nils, C.nils, C.nils, C.nils, C.nils, C.int .i64 (0 : Int), C.nils,
 C.nils, C.nils, C.nils, C.nils, C.nils, C.nils, C.nils, C.int .i64 (0 : Int), C.nils, C.nils, C.nils, C.nils, C.nils, C.nils, C.nils, C.nils, C.int .i64 (0 : Int), C.nils, C.nils, C.nils, C.nils, C.nils,
 C.nils, C.nils, C.nils, C.int .i64 (0 : Int), C.nils, C.nils, C.nils, C.nils, C.nils, C.nils, C.nils, C.nils, C.int .i64 (0 : Int), C.nils, C.nils, C.nils, C.nils, C.nils, C.nils, C.nils, C.nils, C.int
 .i64 (0 : Int), C.nils, C.nils, C.nils, C.nils, C.nils, C.nils, C.nils, C.nils, C.int .i64 (0 : Int), C.nils, C.nils, C.nils, C.nils, C.nils, C.nils, C.nils, C.nils, C.int .i64 (0 : Int), C.nils, C.nils,
 C.nils, C.nils, C.nils, C.nils, C.nils, C.nils, C.int .i64 (0 : Int), C.nils, C.nils, C.nils, C.nils, C.nils, C.nils, C.nils, C.nils, C.int .i64 (0 : Int)]] [] [] ∧ ∀ (y : Unit), True → (RestOk φ (BS.mk
 ((0 : Int)) ((0 : Int)) ([]) ([]) ([]) ([]) ([]) ([]) ([]) ([]) ((0 : Int))) ∧ HasT t φ ∧ Good3 [] ∧ ((0 : Int) ≤ (7 : Int) ∧ (7 : Int) ≤ (1000000 : Int)) ∧ (0 : Int) ≤ (1000 : Int)) ∧ Into (K := KK) 0
 [Kd.rrule, Kd.rrule, Kd.rrule, Kd.rrule, Kd.rrule, Kd.int, Kd.int, Kd.int, Kd.line, Kd.rule] [2, 3 + 1, 3 + 1 + 1, 3 + 1 + 1 + 1, 3 + 1 + 1 + 1 + 1, 3 + 1 + 1 + 1 + 1 + 1, 3 + 1 + 1 + 1 + 1 + 1 + 1, 3
 + 1 + 1 + 1 + 1 + 1 + 1 + 1, 3 + 1 + 1 + 1 + 1 + 1 + 1 + 1 + 1, 0, 3, 3 + 1 + 1 + 1 + 1 + 1 + 1 + 1 + 1 + 1, 3 + 1 + 1 + 1 + 1 + 1 + 1 + 1 + 1 + 1 + 1] [VV.one (V1.c (C.ptr 2 0 0)), VV.one (V1.c (C.ptr
 3 0 0)), VV.one (V1.c C.nils), i64 (7 : Int)] [Atom.bag φ, Atom.arr Kd.rule (goodOf (parseB s)), Atom.cells 44 [C.bool false, C.bool false, C.int .i64 (0 : Int), C.int .i64 (0 : Int), C.nils, C.nils, C.nils,
 C.nils, C.nils, C.nils, C.nils, C.nils, C.int .i64 (0 : Int), C.nils, C.nils, C.nils, C.nils, C.nils, C.nils, C.nils, C.nils, C.int .i64 (0 : Int), C.nils, C.nils, C.nils, C.nils, C.nils, C.nils, C.nils,
 C.nils, C.int .i64 (0 : Int), C.nils, C.nils, C.nils, C.nils, C.nils, C.nils, C.nils, C.nils, C.int .i64 (0 : Int), C.nils, C.nils, C.nils, C.nils, C.nils, C.nils, C.nils, C.nils, C.int .i64 (0 : Int),
 C.nils, C.nils, C.nils, C.nils, C.nils, C.nils, C.nils, C.nils, C.int .i64 (0 : Int), C.nils, C.nils, C.nils, C.nils, C.nils, C.nils, C.nils, C.nils, C.int .i64 (0 : Int), C.nils, C.nils, C.nils, C.nils,
 C.nils, C.nils, C.nils, C.nils, C.int .i64 (0 : Int), C.nils, C.nils, C.nils, C.nils, C.nils, C.nils, C.nils, C.nils, C.int .i64 (0 : Int), C.nils, C.nils, C.nils, C.nils, C.nils, C.nils, C.nils, C.nils,
 C.int .i64 (0 : Int), C.nils, C.nils, C.nils, C.nils, C.nils, C.nils, C.nils, C.nils, C.int .i64 (0 : Int), C.nils, C.nils, C.nils, C.nils, C.nils, C.nils, C.nils, C.nils, C.int .i64 (0 : Int), C.nils,
 C.nils, C.nils, C.nils, C.nils, C.nils, C.nils, C.nils, C.int .i64 (0 : Int), C.nils, C.nils, C.nils, C.nils, C.nils, C.nils, C.nils, C.nils, C.int .i64 (0 : Int), C.nils, C.nils, C.nils, C.nils, C.nils,
 C.nils, C.nils, C.nils, C.int .i64 (0 : Int), C.nils, C.nils, C.nils, C.nils, C.nils, C.nils, C.nils, C.nils, C.int .i64 (0 : Int)], Atom.cells 64 [C.nils]] [VV.one (V1.c (C.ptr 0 0 0)), VV.one (V1.c (C.ptr
 10 0 0)), VV.one (V1.c (C.slc 12 0 0 none)), i64 (7 : Int)] [Atom.cells 44 [C.bool false, C.bool false, C.int .i64 (0 : Int), C.int .i64 (0 : Int), C.nils, C.nils, C.nils, C.nils, C.nils, C.nils, C.nils,
 C.nils, C.int .i64 (0 : Int), C.nils, C.nils, C.nils, C.nils, C.nils, C.nils, C.nils, C.nils, C.int .i64 (0 : Int), C.nils, C.nils, C.nils, C.nils, C.nils, C.nils, C.nils, C.nils, C.int .i64 (0 : Int),
 C.nils, C.nils, C.nils, C.nils, C.nils, C.nils, C.nils, C.nils, C.int .i64 (0 : Int), C.nils, C.nils, C.nils, C.nils, C.nils, C.nils, C.nils, C.nils, C.int .i64 (0 : Int), C.nils, C.nils, C.nils, C.nils,
 C.nils, C.nils, C.nils, C.nils, C.int .i64 (0 : Int), C.nils, C.nils, C.nils, C.nils, C.nils, C.nils, C.nils, C.nils, C.int .i64 (0 : Int), C.nils, C.nils, C.nils, C.nils, C.nils, C.nils, C.nils, C.nils,
 C.int .i64 (0 : Int), C.nils, C.nils, C.nils, C.nils, C.nils, C.nils, C.nils, C.nils, C.int .i64 (0 : Int), C.slc 1 0 0 none, C.slc 2 0 0 none, C.slc 3 0 0 none, C.slc 4 0 0 none, C.slc 5 0 0 none, C.slc
 6 0 0 none, C.slc 7 0 0 none, C.slc 8 0 0 none, C.int .i64 (0 : Int), C.nils, C.nils, C.nils, C.nils, C.nils, C.nils, C.nils, C.nils, C.int .i64 (0 : Int), C.nils, C.nils, C.nils, C.nils, C.nils, C.nils,
 C.nils, C.nils, C.int .i64 (0 : Int), C.nils, C.nils, C.nils, C.nils, C.nils, C.nils, C.nils, C.nils, C.int .i64 (0 : Int), C.nils, C.nils, C.nils, C.nils, C.nils, C.nils, C.nils, C.nils, C.int .i64 (0
 : Int), C.nils, C.nils, C.nils, C.nils, C.nils, C.nils, C.nils, C.nils, C.int .i64 (0 : Int), C.nils, C.nils, C.nils, C.nils, C.nils, C.nils, C.nils, C.nils, C.int .i64 (0 : Int)], Atom.arr Kd.rrule [],
 Atom.arr Kd.rrule [], Atom.arr Kd.rrule [], Atom.arr Kd.rrule [], Atom.arr Kd.rrule [], Atom.arr Kd.int [], Atom.arr Kd.int [], Atom.arr Kd.int [], Atom.bag φ, Atom.cells 64 [C.slc 11 0 0 none], Atom.arr
 Kd.line [], Atom.ro Kd.rule (LL [])] ∧ ∀ (y : BS × Bag KK), RestOk y.snd y.fst ∧ y.fst.seen = (2 : Int) ∧ Kp φ y.snd → Enter 1 (inv_parses s φ) (fun (x : Nat × BS × Bag KK) => True) ([VV.one (V1.c (C.str
 s)), VV.any, boolv false, VV.one (V1.c (C.slc 1 0 (goodOf (parseB s)).length none)), i64 (badOf (parseB s)).fst, i64 (badOf (parseB s)).snd, VV.one (V1.c (C.ptr 2 0 0)), VV.one (V1.c (C.ptr 3 0 0)), i64
 (0 : Int)] ++ anys 88) [Atom.bag y.snd, Atom.arr Kd.rule (goodOf (parseB s)), Atom.cells 44 [C.bool false, C.bool false, C.int .i64 y.fst.turn, C.int .i64 y.fst.deep, C.nils, C.nils, C.nils, C.nils, C.nils,
 C.nils, C.nils, C.nils, C.int .i64 (0 : Int), C.nils, C.nils, C.nils, C.nils, C.nils, C.nils, C.nils, C.nils, C.int .i64 (0 : Int), C.nils, C.nils, C.nils, C.nils, C.nils, C.nils, C.nils, C.nils, C.int
 .i64 (0 : Int), C.nils, C.nils, C.nils, C.nils, C.nils, C.nils, C.nils, C.nils, C.int .i64 (0 : Int), C.nils, C.nils, C.nils, C.nils, C.nils, C.nils, C.nils, C.nils, C.int .i64 (0 : Int), C.nils, C.nils,
 C.nils, C.nils, C.nils, C.nils, C.nils, C.nils, C.int .i64 (0 : Int), C.nils, C.nils, C.nils, C.nils, C.nils, C.nils, C.nils, C.nils, C.int .i64 (0 : Int), C.nils, C.nils, C.nils, C.nils, C.nils, C.nils,
 C.nils, C.nils, C.int .i64 (0 : Int), C.nils, C.nils, C.nils, C.nils, C.nils, C.nils, C.nils, C.nils, C.int .i64 (0 : Int), C.slc 14 0 y.fst.o.length none, C.slc 15 0 y.fst.t.length none, C.slc 16 0 y.fst.w.length
 none, C.slc 17 0 y.fst.n.length none, C.slc 18 0 y.fst.f.length none, C.slc 19 0 y.fst.m.length none, C.slc 20 0 y.fst.d.length none, C.slc 21 0 y.fst.r.length none, C.int .i64 y.fst.seen, C.nils, C.nils,
 C.nils, C.nils, C.nils, C.nils, C.nils, C.nils, C.int .i64 (0 : Int), C.nils, C.nils, C.nils, C.nils, C.nils, C.nils, C.nils, C.nils, C.int .i64 (0 : Int), C.nils, C.nils, C.nils, C.nils, C.nils, C.nils,
 C.nils, C.nils, C.int .i64 (0 : Int), C.nils, C.nils, C.nils, C.nils, C.nils, C.nils, C.nils, C.nils, C.int .i64 (0 : Int), C.nils, C.nils, C.nils, C.nils, C.nils, C.nils, C.nils, C.nils, C.int .i64 (0
 : Int), C.nils, C.nils, C.nils, C.nils, C.nils, C.nils, C.nils, C.nils, C.int .i64 (0 : Int)], Atom.cells 64 [C.slc 12 0 0 none], Atom.gone, Atom.gone, Atom.gone, Atom.gone, Atom.gone, Atom.gone, Atom.gone,
 Atom.gone, Atom.arr Kd.line [], Atom.arr Kd.rule [], Atom.arr Kd.rrule y.fst.o, Atom.arr Kd.rrule y.fst.t, Atom.arr Kd.rrule y.fst.w, Atom.arr Kd.rrule y.fst.n, Atom.arr Kd.rrule y.fst.f, Atom.arr Kd.int
 y.fst.m, Atom.arr Kd.int y.fst.d, Atom.arr Kd.int y.fst.r] ∧ ∀ (z : Nat × BS × Bag KK), lawOk φ z → ite2 (decide ((↑z.fst : Int) < (2 : Int))) ((s.size ≤ 1000000 ∧ HasT t z.snd.snd ∧ isGood (parseB s)
 = true) ∧ Into (K := KK) 0 [] [0] [VV.one (V1.c (C.str s))] [Atom.bag z.snd.snd, Atom.arr Kd.rule (goodOf (parseB s)), Atom.cells 44 [C.bool false, C.bool false, C.int .i64 z.snd.fst.turn, C.int .i64 z.snd.fst.deep,
 C.nils, C.nils, C.nils, C.nils, C.nils, C.nils, C.nils, C.nils, C.int .i64 (0 : Int), C.nils, C.nils, C.nils, C.nils, C.nils, C.nils, C.nils, C.nils, C.int .i64 (0 : Int), C.nils, C.nils, C.nils, C.nils,
 C.nils, C.nils, C.nils, C.nils, C.int .i64 (0 : Int), C.nils, C.nils, C.nils, C.nils, C.nils, C.nils, C.nils, C.nils, C.int .i64 (0 : Int), C.nils, C.nils, C.nils, C.nils, C.nils, C.nils, C.nils, C.nils,
 C.int .i64 (0 : Int), C.nils, C.nils, C.nils, C.nils, C.nils, C.nils, C.nils, C.nils, C.int .i64 (0 : Int), C.nils, C.nils, C.nils, C.nils, C.nils, C.nils, C.nils, C.nils, C.int .i64 (0 : Int), C.nils,
 C.nils, C.nils, C.nils, C.nils, C.nils, C.nils, C.nils, C.int .i64 (0 : Int), C.nils, C.nils, C.nils, C.nils, C.nils, C.nils, C.nils, C.nils, C.int .i64 (0 : Int), C.slc 3 0 z.snd.fst.o.length none, C.slc
 4 0 z.snd.fst.t.length none, C.slc 5 0 z.snd.fst.w.length none, C.slc 6 0 z.snd.fst.n.length none, C.slc 7 0 z.snd.fst.f.length none, C.slc 8 0 z.snd.fst.m.length none, C.slc 9 0 z.snd.fst.d.length none,
 C.slc 10 0 z.snd.fst.r.length none, C.int .i64 z.snd.fst.seen, C.nils, C.nils, C.nils, C.nils, C.nils, C.nils, C.nils, C.nils, C.int .i64 (0 : Int), C.nils, C.nils, C.nils, C.nils, C.nils, C.nils, C.nils,
 C.nils, C.int .i64 (0 : Int), C.nils, C.nils, C.nils, C.nils, C.nils, C.nils, C.nils, C.nils, C.int .i64 (0 : Int), C.nils, C.nils, C.nils, C.nils, C.nils, C.nils, C.nils, C.nils, C.int .i64 (0 : Int),
 C.nils, C.nils, C.nils, C.nils, C.nils, C.nils, C.nils, C.nils, C.int .i64 (0 : Int), C.nils, C.nils, C.nils, C.nils, C.nils, C.nils, C.nils, C.nils, C.int .i64 (0 : Int)], Atom.arr Kd.rrule z.snd.fst.o,
 Atom.arr Kd.rrule z.snd.fst.t, Atom.arr Kd.rrule z.snd.fst.w, Atom.arr Kd.rrule z.snd.fst.n, Atom.arr Kd.rrule z.snd.fst.f, Atom.arr Kd.int z.snd.fst.m, Atom.arr Kd.int z.snd.fst.d, Atom.arr Kd.int z.snd.fst.r]
 [VV.one (V1.c (C.str s))] [Atom.bag z.snd.snd] ∧ ∀ (y : Bag KK × List Ln), Ext z.snd.snd y.fst ∧ (true = true → GoodL y.fst y.snd ∧ LL y.snd = goodOf (parseB s)) → ite2 (decide ((0 : Int) = (badOf (parseB
 s)).fst)) (ite2 (decide ((0 : Int) = (badOf (parseB s)).snd)) (ite2 (decide ((badOf (parseB s)).snd = (0 : Int))) (y.snd.length ≤ 1000 ∧ Into (K := KK) 0 [] [0, 11, 12] [VV.one (V1.c (C.ptr 11 0 0))] [Atom.bag
 y.fst, Atom.arr Kd.rule (goodOf (parseB s)), Atom.cells 44 [C.bool false, C.bool false, C.int .i64 z.snd.fst.turn, C.int .i64 z.snd.fst.deep, C.nils, C.nils, C.nils, C.nils, C.nils, C.nils, C.nils, C.nils,
 C.int .i64 (0 : Int), C.nils, C.nils, C.nils, C.nils, C.nils, C.nils, C.nils, C.nils, C.int .i64 (0 : Int), C.nils, C.nils, C.nils, C.nils, C.nils, C.nils, C.nils, C.nils, C.int .i64 (0 : Int), C.nils,
 C.nils, C.nils, C.nils, C.nils, C.nils, C.nils, C.nils, C.int .i64 (0 : Int), C.nils, C.nils, C.nils, C.nils, C.nils, C.nils, C.nils, C.nils, C.int .i64 (0 : Int), C.nils, C.nils, C.nils, C.nils, C.nils,
 C.nils, C.nils, C.nils, C.int .i64 (0 : Int), C.nils, C.nils, C.nils, C.nils, C.nils, C.nils, C.nils, C.nils, C.int .i64 (0 : Int), C.nils, C.nils, C.nils, C.nils, C.nils, C.nils, C.nils, C.nils, C.int
 .i64 (0 : Int), C.nils, C.nils, C.nils, C.nils, C.nils, C.nils, C.nils, C.nils, C.int .i64 (0 : Int), C.slc 3 0 z.snd.fst.o.length none, C.slc 4 0 z.snd.fst.t.length none, C.slc 5 0 z.snd.fst.w.length
 none, C.slc 6 0 z.snd.fst.n.length none, C.slc 7 0 z.snd.fst.f.length none, C.slc 8 0 z.snd.fst.m.length none, C.slc 9 0 z.snd.fst.d.length none, C.slc 10 0 z.snd.fst.r.length none, C.int .i64 z.snd.fst.seen,
 C.nils, C.nils, C.nils, C.nils, C.nils, C.nils, C.nils, C.nils, C.int .i64 (0 : Int), C.nils, C.nils, C.nils, C.nils, C.nils, C.nils, C.nils, C.nils, C.int .i64 (0 : Int), C.nils, C.nils, C.nils, C.nils,
 C.nils, C.nils, C.nils, C.nils, C.int .i64 (0 : Int), C.nils, C.nils, C.nils, C.nils, C.nils, C.nils, C.nils, C.nils, C.int .i64 (0 : Int), C.nils, C.nils, C.nils, C.nils, C.nils, C.nils, C.nils, C.nils,
 C.int .i64 (0 : Int), C.nils, C.nils, C.nils, C.nils, C.nils, C.nils, C.nils, C.nils, C.int .i64 (0 : Int)], Atom.arr Kd.rrule z.snd.fst.o, Atom.arr Kd.rrule z.snd.fst.t, Atom.arr Kd.rrule z.snd.fst.w,
 Atom.arr Kd.rrule z.snd.fst.n, Atom.arr Kd.rrule z.snd.fst.f, Atom.arr Kd.int z.snd.fst.m, Atom.arr Kd.int z.snd.fst.d, Atom.arr Kd.int z.snd.fst.r, Atom.cells 64 [C.slc 12 0 y.snd.length none], Atom.arr
 Kd.line y.snd] [VV.one (V1.c (C.ptr 1 0 0))] [Atom.bag y.fst, Atom.cells 64 [C.slc 2 0 y.snd.length none], Atom.arr Kd.line y.snd] ∧ ∀ (y_1 : Bag KK × List Ln), Ext y.fst y_1.fst ∧ GoodL y_1.fst y_1.snd
 ∧ LL y_1.snd = mirB (LL y.snd) → i64ok ((1000 : Int) * (↑z.fst : Int)) ∧ i64ok ((1000 : Int) * (↑z.fst : Int) + (100 : Int)) ∧ (RestOk y_1.fst (BS.mk (z.snd.fst.turn) (z.snd.fst.deep) (z.snd.fst.o) (z.snd.fst.t)
 (z.snd.fst.w) (z.snd.fst.n) (z.snd.fst.f) (z.snd.fst.m) (z.snd.fst.d) (z.snd.fst.r) (z.snd.fst.seen)) ∧ HasT t y_1.fst ∧ Good3 y.snd ∧ ((0 : Int) ≤ (1000 : Int) * (↑z.fst : Int) + (100 : Int) ∧ (1000 :
 Int) * (↑z.fst : Int) + (100 : Int) ≤ (1000000 : Int)) ∧ z.snd.fst.seen ≤ (1000 : Int)) ∧ Into (K := KK) 0 [] [2, 3, 4, 5, 6, 7, 8, 9, 10, 0, 11, 12, 1] [VV.one (V1.c (C.ptr 2 0 0)), VV.one (V1.c (C.ptr
 11 0 0)), VV.one (V1.c (C.slc 1 0 (goodOf (parseB s)).length none)), i64 ((1000 : Int) * (↑z.fst : Int) + (100 : Int))] [Atom.bag y_1.fst, Atom.arr Kd.rule (goodOf (parseB s)), Atom.cells 44 [C.bool false,
 C.bool false, C.int .i64 z.snd.fst.turn, C.int .i64 z.snd.fst.deep, C.nils, C.nils, C.nils, C.nils, C.nils, C.nils, C.nils, C.nils, C.int .i64 (0 : Int), C.nils, C.nils, C.nils, C.nils, C.nils, C.nils,
 C.nils, C.nils, C.int .i64 (0 : Int), C.nils, C.nils, C.nils, C.nils, C.nils, C.nils, C.nils, C.nils, C.int .i64 (0 : Int), C.nils, C.nils, C.nils, C.nils, C.nils, C.nils, C.nils, C.nils, C.int .i64 (0
 : Int), C.nils, C.nils, C.nils, C.nils, C.nils, C.nils, C.nils, C.nils, C.int .i64 (0 : Int), C.nils, C.nils, C.nils, C.nils, C.nils, C.nils, C.nils, C.nils, C.int .i64 (0 : Int), C.nils, C.nils, C.nils,
 C.nils, C.nils, C.nils, C.nils, C.nils, C.int .i64 (0 : Int), C.nils, C.nils, C.nils, C.nils, C.nils, C.nils, C.nils, C.nils, C.int .i64 (0 : Int), C.nils, C.nils, C.nils, C.nils, C.nils, C.nils, C.nils,
 C.nils, C.int .i64 (0 : Int), C.slc 3 0 z.snd.fst.o.length none, C.slc 4 0 z.snd.fst.t.length none, C.slc 5 0 z.snd.fst.w.length none, C.slc 6 0 z.snd.fst.n.length none, C.slc 7 0 z.snd.fst.f.length none,
 C.slc 8 0 z.snd.fst.m.length none, C.slc 9 0 z.snd.fst.d.length none, C.slc 10 0 z.snd.fst.r.length none, C.int .i64 z.snd.fst.seen, C.nils, C.nils, C.nils, C.nils, C.nils, C.nils, C.nils, C.nils, C.int
 .i64 (0 : Int), C.nils, C.nils, C.nils, C.nils, C.nils, C.nils, C.nils, C.nils, C.int .i64 (0 : Int), C.nils, C.nils, C.nils, C.nils, C.nils, C.nils, C.nils, C.nils, C.int .i64 (0 : Int), C.nils, C.nils,
 C.nils, C.nils, C.nils, C.nils, C.nils, C.nils, C.int .i64 (0 : Int), C.nils, C.nils, C.nils, C.nils, C.nils, C.nils, C.nils, C.nils, C.int .i64 (0 : Int), C.nils, C.nils, C.nils, C.nils, C.nils, C.nils,
 C.nils, C.nils, C.int .i64 (0 : Int)], Atom.arr Kd.rrule z.snd.fst.o, Atom.arr Kd.rrule z.snd.fst.t, Atom.arr Kd.rrule z.snd.fst.w, Atom.arr Kd.rrule z.snd.fst.n, Atom.arr Kd.rrule z.snd.fst.f, Atom.arr
 Kd.int z.snd.fst.m, Atom.arr Kd.int z.snd.fst.d, Atom.arr Kd.int z.snd.fst.r, Atom.cells 64 [C.slc 12 0 y.snd.length none], Atom.arr Kd.line y.snd, Atom.cells 64 [C.slc 14 0 y_1.snd.length none], Atom.arr
 Kd.line y_1.snd] [VV.one (V1.c (C.ptr 0 0 0)), VV.one (V1.c (C.ptr 10 0 0)), VV.one (V1.c (C.slc 12 0 (LL y.snd).length none)), i64 ((1000 : Int) * (↑z.fst : Int) + (100 : Int))] [Atom.cells 44 [C.bool
 false, C.bool false, C.int .i64 z.snd.fst.turn, C.int .i64 z.snd.fst.deep, C.nils, C.nils, C.nils, C.nils, C.nils, C.nils, C.nils, C.nils, C.int .i64 (0 : Int), C.nils, C.nils, C.nils, C.nils, C.nils,
 C.nils, C.nils, C.nils, C.int .i64 (0 : Int), C.nils, C.nils, C.nils, C.nils, C.nils, C.nils, C.nils, C.nils, C.int .i64 (0 : Int), C.nils, C.nils, C.nils, C.nils, C.nils, C.nils, C.nils, C.nils, C.int
 .i64 (0 : Int), C.nils, C.nils, C.nils, C.nils, C.nils, C.nils, C.nils, C.nils, C.int .i64 (0 : Int), C.nils, C.nils, C.nils, C.nils, C.nils, C.nils, C.nils, C.nils, C.int .i64 (0 : Int), C.nils, C.nils,
 C.nils, C.nils, C.nils, C.nils, C.nils, C.nils, C.int .i64 (0 : Int), C.nils, C.nils, C.nils, C.nils, C.nils, C.nils, C.nils, C.nils, C.int .i64 (0 : Int), C.nils, C.nils, C.nils, C.nils, C.nils, C.nils,
 C.nils, C.nils, C.int .i64 (0 : Int), C.slc 1 0 z.snd.fst.o.length none, C.slc 2 0 z.snd.fst.t.length none, C.slc 3 0 z.snd.fst.w.length none, C.slc 4 0 z.snd.fst.n.length none, C.slc 5 0 z.snd.fst.f.length
 none, C.slc 6 0 z.snd.fst.m.length none, C.slc 7 0 z.snd.fst.d.length none, C.slc 8 0 z.snd.fst.r.length none, C.int .i64 z.snd.fst.seen, C.nils, C.nils, C.nils, C.nils, C.nils, C.nils, C.nils, C.nils,
 C.int .i64 (0 : Int), C.nils, C.nils, C.nils, C.nils, C.nils, C.nils, C.nils, C.nils, C.int .i64 (0 : Int), C.nils, C.nils, C.nils, C.nils, C.nils, C.nils, C.nils, C.nils, C.int .i64 (0 : Int), C.nils,
 C.nils, C.nils, C.nils, C.nils, C.nils, C.nils, C.nils, C.int .i64 (0 : Int), C.nils, C.nils, C.nils, C.nils, C.nils, C.nils, C.nils, C.nils, C.int .i64 (0 : Int), C.nils, C.nils, C.nils, C.nils, C.nils,
 C.nils, C.nils, C.nils, C.int .i64 (0 : Int)], Atom.arr Kd.rrule z.snd.fst.o, Atom.arr Kd.rrule z.snd.fst.t, Atom.arr Kd.rrule z.snd.fst.w, Atom.arr Kd.rrule z.snd.fst.n, Atom.arr Kd.rrule z.snd.fst.f,
 Atom.arr Kd.int z.snd.fst.m, Atom.arr Kd.int z.snd.fst.d, Atom.arr Kd.int z.snd.fst.r, Atom.bag y_1.fst, Atom.cells 64 [C.slc 11 0 y.snd.length none], Atom.arr Kd.line y.snd, Atom.ro Kd.rule (LL y.snd)]
 ∧ ∀ (y_2 : BS × Bag KK), RestOk y_2.snd y_2.fst ∧ y_2.fst.seen = z.snd.fst.seen + (2 : Int) ∧ Kp y_1.fst y_2.snd → (goodOf (parseB s)).length ≤ 1000 ∧ Into (K := KK) 0 [] [1] [VV.one (V1.c (C.slc 1 0 (goodOf
 (parseB s)).length none))] [Atom.bag y_2.snd, Atom.arr Kd.rule (goodOf (parseB s)), Atom.cells 44 [C.bool false, C.bool false, C.int .i64 y_2.fst.turn, C.int .i64 y_2.fst.deep, C.nils, C.nils, C.nils,
 C.nils, C.nils, C.nils, C.nils, C.nils, C.int .i64 (0 : Int), C.nils, C.nils, C.nils, C.nils, C.nils, C.nils, C.nils, C.nils, C.int .i64 (0 : Int), C.nils, C.nils, C.nils, C.nils, C.nils, C.nils, C.nils,
 C.nils, C.int .i64 (0 : Int), C.nils, C.nils, C.nils, C.nils, C.nils, C.nils, C.nils, C.nils, C.int .i64 (0 : Int), C.nils, C.nils, C.nils, C.nils, C.nils, C.nils, C.nils, C.nils, C.int .i64 (0 : Int),
 C.nils, C.nils, C.nils, C.nils, C.nils, C.nils, C.nils, C.nils, C.int .i64 (0 : Int), C.nils, C.nils, C.nils, C.nils, C.nils, C.nils, C.nils, C.nils, C.int .i64 (0 : Int), C.nils, C.nils, C.nils, C.nils,
 C.nils, C.nils, C.nils, C.nils, C.int .i64 (0 : Int), C.nils, C.nils, C.nils, C.nils, C.nils, C.nils, C.nils, C.nils, C.int .i64 (0 : Int), C.slc 15 0 y_2.fst.o.length none, C.slc 16 0 y_2.fst.t.length
 none, C.slc 17 0 y_2.fst.w.length none, C.slc 18 0 y_2.fst.n.length none, C.slc 19 0 y_2.fst.f.length none, C.slc 20 0 y_2.fst.m.length none, C.slc 21 0 y_2.fst.d.length none, C.slc 22 0 y_2.fst.r.length
 none, C.int .i64 y_2.fst.seen, C.nils, C.nils, C.nils, C.nils, C.nils, C.nils, C.nils, C.nils, C.int .i64 (0 : Int), C.nils, C.nils, C.nils, C.nils, C.nils, C.nils, C.nils, C.nils, C.int .i64 (0 : Int),
 C.nils, C.nils, C.nils, C.nils, C.nils, C.nils, C.nils, C.nils, C.int .i64 (0 : Int), C.nils, C.nils, C.nils, C.nils, C.nils, C.nils, C.nils, C.nils, C.int .i64 (0 : Int), C.nils, C.nils, C.nils, C.nils,
 C.nils, C.nils, C.nils, C.nils, C.int .i64 (0 : Int), C.nils, C.nils, C.nils, C.nils, C.nils, C.nils, C.nils, C.nils, C.int .i64 (0 : Int)], Atom.gone, Atom.gone, Atom.gone, Atom.gone, Atom.gone, Atom.gone,
 Atom.gone, Atom.gone, Atom.cells 64 [C.slc 12 0 y.snd.length none], Atom.arr Kd.line y.snd, Atom.cells 64 [C.slc 14 0 y_1.snd.length none], Atom.arr Kd.line y_1.snd, Atom.arr Kd.rrule y_2.fst.o, Atom.arr
 Kd.rrule y_2.fst.t, Atom.arr Kd.rrule y_2.fst.w, Atom.arr Kd.rrule y_2.fst.n, Atom.arr Kd.rrule y_2.fst.f, Atom.arr Kd.int y_2.fst.m, Atom.arr Kd.int y_2.fst.d, Atom.arr Kd.int y_2.fst.r] [VV.one (V1.c
 (C.slc 0 0 (goodOf (parseB s)).length none))] [Atom.ro Kd.rule (goodOf (parseB s))] ∧ ∀ (y_3 : Unit), True → i64ok ((1000 : Int) * (↑z.fst : Int)) ∧ i64ok ((1000 : Int) * (↑z.fst : Int) + (200 : Int))
 ∧ (RestOk y_2.snd (BS.mk (y_2.fst.turn) (y_2.fst.deep) (y_2.fst.o) (y_2.fst.t) (y_2.fst.w) (y_2.fst.n) (y_2.fst.f) (y_2.fst.m) (y_2.fst.d) (y_2.fst.r) (y_2.fst.seen)) ∧ HasT t y_2.snd ∧ Good3 y_1.snd ∧
 ((0 : Int) ≤ (1000 : Int) * (↑z.fst : Int) + (200 : Int) ∧ (1000 : Int) * (↑z.fst : Int) + (200 : Int) ≤ (1000000 : Int)) ∧ y_2.fst.seen ≤ (1000 : Int)) ∧ Into (K := KK) 0 [] [2, 15, 16, 17, 18, 19, 20,
 21, 22, 0, 13, 14, 23] [VV.one (V1.c (C.ptr 2 0 0)), VV.one (V1.c (C.ptr 13 0 0)), VV.one (V1.c (C.slc 23 0 (mirB (goodOf (parseB s))).length none)), VV.one (V1.c (C.int .i64 ((1000 : Int) * (↑z.fst :
 Int) + (200 : Int))))] [Atom.bag y_2.snd, Atom.arr Kd.rule (goodOf (parseB s)), Atom.cells 44 [C.bool false, C.bool false, C.int .i64 y_2.fst.turn, C.int .i64 y_2.fst.deep, C.nils, C.nils, C.nils, C.nils,
 C.nils, C.nils, C.nils, C.nils, C.int .i64 (0 : Int), C.nils, C.nils, C.nils, C.nils, C.nils, C.nils, C.nils, C.nils, C.int .i64 (0 : Int), C.nils, C.nils, C.nils, C.nils, C.nils, C.nils, C.nils, C.nils,
 C.int .i64 (0 : Int), C.nils, C.nils, C.nils, C.nils, C.nils, C.nils, C.nils, C.nils, C.int .i64 (0 : Int), C.nils, C.nils, C.nils, C.nils, C.nils, C.nils, C.nils, C.nils, C.int .i64 (0 : Int), C.nils,
 C.nils, C.nils, C.nils, C.nils, C.nils, C.nils, C.nils, C.int .i64 (0 : Int), C.nils, C.nils, C.nils, C.nils, C.nils, C.nils, C.nils, C.nils, C.int .i64 (0 : Int), C.nils, C.nils, C.nils, C.nils, C.nils,
 C.nils, C.nils, C.nils, C.int .i64 (0 : Int), C.nils, C.nils, C.nils, C.nils, C.nils, C.nils, C.nils, C.nils, C.int .i64 (0 : Int), C.slc 15 0 y_2.fst.o.length none, C.slc 16 0 y_2.fst.t.length none, C.slc
 17 0 y_2.fst.w.length none, C.slc 18 0 y_2.fst.n.length none, C.slc 19 0 y_2.fst.f.length none, C.slc 20 0 y_2.fst.m.length none, C.slc 21 0 y_2.fst.d.length none, C.slc 22 0 y_2.fst.r.length none, C.int
 .i64 y_2.fst.seen, C.nils, C.nils, C.nils, C.nils, C.nils, C.nils, C.nils, C.nils, C.int .i64 (0 : Int), C.nils, C.nils, C.nils, C.nils, C.nils, C.nils, C.nils, C.nils, C.int .i64 (0 : Int), C.nils, C.nils,
 C.nils, C.nils, C.nils, C.nils, C.nils, C.nils, C.int .i64 (0 : Int), C.nils, C.nils, C.nils, C.nils, C.nils, C.nils, C.nils, C.nils, C.int .i64 (0 : Int), C.nils, C.nils, C.nils, C.nils, C.nils, C.nils,
 C.nils, C.nils, C.int .i64 (0 : Int), C.nils, C.nils, C.nils, C.nils, C.nils, C.nils, C.nils, C.nils, C.int .i64 (0 : Int)], Atom.gone, Atom.gone, Atom.gone, Atom.gone, Atom.gone, Atom.gone, Atom.gone,
 Atom.gone, Atom.cells 64 [C.slc 12 0 y.snd.length none], Atom.arr Kd.line y.snd, Atom.cells 64 [C.slc 14 0 y_1.snd.length none], Atom.arr Kd.line y_1.snd, Atom.arr Kd.rrule y_2.fst.o, Atom.arr Kd.rrule
 y_2.fst.t, Atom.arr Kd.rrule y_2.fst.w, Atom.arr Kd.rrule y_2.fst.n, Atom.arr Kd.rrule y_2.fst.f, Atom.arr Kd.int y_2.fst.m, Atom.arr Kd.int y_2.fst.d, Atom.arr Kd.int y_2.fst.r, Atom.arr Kd.rule (mirB
 (goodOf (parseB s)))] [VV.one (V1.c (C.ptr 0 0 0)), VV.one (V1.c (C.ptr 10 0 0)), VV.one (V1.c (C.slc 12 0 (LL y_1.snd).length none)), VV.one (V1.c (C.int .i64 ((1000 : Int) * (↑z.fst : Int) + (200 : Int))))]
 [Atom.cells 44 [C.bool false, C.bool false, C.int .i64 y_2.fst.turn, C.int .i64 y_2.fst.deep, C.nils, C.nils, C.nils, C.nils, C.nils, C.nils, C.nils, C.nils, C.int .i64 (0 : Int), C.nils, C.nils, C.nils,
 C.nils, C.nils, C.nils, C.nils, C.nils, C.int .i64 (0 : Int), C.nils, C.nils, C.nils, C.nils, C.nils, C.nils, C.nils, C.nils, C.int .i64 (0 : Int), C.nils, C.nils, C.nils, C.nils, C.nils, C.nils, C.nils,
 C.nils, C.int .i64 (0 : Int), C.nils, C.nils, C.nils, C.nils, C.nils, C.nils, C.nils, C.nils, C.int .i64 (0 : Int), C.nils, C.nils, C.nils, C.nils, C.nils, C.nils, C.nils, C.nils, C.int .i64 (0 : Int),
 C.nils, C.nils, C.nils, C.nils, C.nils, C.nils, C.nils, C.nils, C.int .i64 (0 : Int), C.nils, C.nils, C.nils, C.nils, C.nils, C.nils, C.nils, C.nils, C.int .i64 (0 : Int), C.nils, C.nils, C.nils, C.nils,
 C.nils, C.nils, C.nils, C.nils, C.int .i64 (0 : Int), C.slc 1 0 y_2.fst.o.length none, C.slc 2 0 y_2.fst.t.length none, C.slc 3 0 y_2.fst.w.length none, C.slc 4 0 y_2.fst.n.length none, C.slc 5 0 y_2.fst.f.length
 none, C.slc 6 0 y_2.fst.m.length none, C.slc 7 0 y_2.fst.d.length none, C.slc 8 0 y_2.fst.r.length none, C.int .i64 y_2.fst.seen, C.nils, C.nils, C.nils, C.nils, C.nils, C.nils, C.nils, C.nils, C.int .i64
 (0 : Int), C.nils, C.nils, C.nils, C.nils, C.nils, C.nils, C.nils, C.nils, C.int .i64 (0 : Int), C.nils, C.nils, C.nils, C.nils, C.nils, C.nils, C.nils, C.nils, C.int .i64 (0 : Int), C.nils, C.nils, C.nils,
 C.nils, C.nils, C.nils, C.nils, C.nils, C.int .i64 (0 : Int), C.nils, C.nils, C.nils, C.nils, C.nils, C.nils, C.nils, C.nils, C.int .i64 (0 : Int), C.nils, C.nils, C.nils, C.nils, C.nils, C.nils, C.nils,
 C.nils, C.int .i64 (0 : Int)], Atom.arr Kd.rrule y_2.fst.o, Atom.arr Kd.rrule y_2.fst.t, Atom.arr Kd.rrule y_2.fst.w, Atom.arr Kd.rrule y_2.fst.n, Atom.arr Kd.rrule y_2.fst.f, Atom.arr Kd.int y_2.fst.m,
 Atom.arr Kd.int y_2.fst.d, Atom.arr Kd.int y_2.fst.r, Atom.bag y_2.snd, Atom.cells 64 [C.slc 11 0 y_1.snd.length none], Atom.arr Kd.line y_1.snd, Atom.ro Kd.rule (LL y_1.snd)] ∧ ∀ (y_4 : BS × Bag KK),
 RestOk y_4.snd y_4.fst ∧ y_4.fst.seen = y_2.fst.seen + (2 : Int) ∧ Kp y_2.snd y_4.snd → i64ok ((1000 : Int) * (↑z.fst : Int)) ∧ i64ok ((1000 : Int) * (↑z.fst : Int) + (300 : Int)) ∧ (RestOk y_4.snd (BS.mk
 (y_4.fst.turn) (y_4.fst.deep) (y_4.fst.o) (y_4.fst.t) (y_4.fst.w) (y_4.fst.n) (y_4.fst.f) (y_4.fst.m) (y_4.fst.d) (y_4.fst.r) (y_4.fst.seen)) ∧ HasT t y_4.snd ∧ Good3 y.snd ∧ ((0 : Int) ≤ (1000 : Int)
 * (↑z.fst : Int) + (300 : Int) ∧ (1000 : Int) * (↑z.fst : Int) + (300 : Int) ≤ (1000000 : Int)) ∧ y_4.fst.seen ≤ (1000 : Int)) ∧ Into (K := KK) 0 [] [2, 24, 25, 26, 27, 28, 29, 30, 31, 0, 11, 12, 1] [VV.one
 (V1.c (C.ptr 2 0 0)), VV.one (V1.c (C.ptr 11 0 0)), VV.one (V1.c (C.slc 1 0 (goodOf (parseB s)).length none)), VV.one (V1.c (C.int .i64 ((1000 : Int) * (↑z.fst : Int) + (300 : Int))))] [Atom.bag y_4.snd,
 Atom.arr Kd.rule (goodOf (parseB s)), Atom.cells 44 [C.bool false, C.bool false, C.int .i64 y_4.fst.turn, C.int .i64 y_4.fst.deep, C.nils, C.nils, C.nils, C.nils, C.nils, C.nils, C.nils, C.nils, C.int
 .i64 (0 : Int), C.nils, C.nils, C.nils, C.nils, C.nils, C.nils, C.nils, C.nils, C.int .i64 (0 : Int), C.nils, C.nils, C.nils, C.nils, C.nils, C.nils, C.nils, C.nils, C.int .i64 (0 : Int), C.nils, C.nils,
 C.nils, C.nils, C.nils, C.nils, C.nils, C.nils, C.int .i64 (0 : Int), C.nils, C.nils, C.nils, C.nils, C.nils, C.nils, C.nils, C.nils, C.int .i64 (0 : Int), C.nils, C.nils, C.nils, C.nils, C.nils, C.nils,
 C.nils, C.nils, C.int .i64 (0 : Int), C.nils, C.nils, C.nils, C.nils, C.nils, C.nils, C.nils, C.nils, C.int .i64 (0 : Int), C.nils, C.nils, C.nils, C.nils, C.nils, C.nils, C.nils, C.nils, C.int .i64 (0
 : Int), C.nils, C.nils, C.nils, C.nils, C.nils, C.nils, C.nils, C.nils, C.int .i64 (0 : Int), C.slc 24 0 y_4.fst.o.length none, C.slc 25 0 y_4.fst.t.length none, C.slc 26 0 y_4.fst.w.length none, C.slc
 27 0 y_4.fst.n.length none, C.slc 28 0 y_4.fst.f.length none, C.slc 29 0 y_4.fst.m.length none, C.slc 30 0 y_4.fst.d.length none, C.slc 31 0 y_4.fst.r.length none, C.int .i64 y_4.fst.seen, C.nils, C.nils,
 C.nils, C.nils, C.nils, C.nils, C.nils, C.nils, C.int .i64 (0 : Int), C.nils, C.nils, C.nils, C.nils, C.nils, C.nils, C.nils, C.nils, C.int .i64 (0 : Int), C.nils, C.nils, C.nils, C.nils, C.nils, C.nils,
 C.nils, C.nils, C.int .i64 (0 : Int), C.nils, C.nils, C.nils, C.nils, C.nils, C.nils, C.nils, C.nils, C.int .i64 (0 : Int), C.nils, C.nils, C.nils, C.nils, C.nils, C.nils, C.nils, C.nils, C.int .i64 (0
 : Int), C.nils, C.nils, C.nils, C.nils, C.nils, C.nils, C.nils, C.nils, C.int .i64 (0 : Int)], Atom.gone, Atom.gone, Atom.gone, Atom.gone, Atom.gone, Atom.gone, Atom.gone, Atom.gone, Atom.cells 64 [C.slc
 12 0 y.snd.length none], Atom.arr Kd.line y.snd, Atom.cells 64 [C.slc 14 0 y_1.snd.length none], Atom.arr Kd.line y_1.snd, Atom.gone, Atom.gone, Atom.gone, Atom.gone, Atom.gone, Atom.gone, Atom.gone, Atom.gone,
 Atom.arr Kd.rule (mirB (goodOf (parseB s))), Atom.arr Kd.rrule y_4.fst.o, Atom.arr Kd.rrule y_4.fst.t, Atom.arr Kd.rrule y_4.fst.w, Atom.arr Kd.rrule y_4.fst.n, Atom.arr Kd.rrule y_4.fst.f, Atom.arr Kd.int
 y_4.fst.m, Atom.arr Kd.int y_4.fst.d, Atom.arr Kd.int y_4.fst.r] [VV.one (V1.c (C.ptr 0 0 0)), VV.one (V1.c (C.ptr 10 0 0)), VV.one (V1.c (C.slc 12 0 (LL y.snd).length none)), VV.one (V1.c (C.int .i64
 ((1000 : Int) * (↑z.fst : Int) + (300 : Int))))] [Atom.cells 44 [C.bool false, C.bool false, C.int .i64 y_4.fst.turn, C.int .i64 y_4.fst.deep, C.nils, C.nils, C.nils, C.nils, C.nils, C.nils, C.nils, C.nils,
 C.int .i64 (0 : Int), C.nils, C.nils, C.nils, C.nils, C.nils, C.nils, C.nils, C.nils, C.int .i64 (0 : Int), C.nils, C.nils, C.nils, C.nils, C.nils, C.nils, C.nils, C.nils, C.int .i64 (0 : Int), C.nils,
 C.nils, C.nils, C.nils, C.nils, C.nils, C.nils, C.nils, C.int .i64 (0 : Int), C.nils, C.nils, C.nils, C.nils, C.nils, C.nils, C.nils, C.nils, C.int .i64 (0 : Int), C.nils, C.nils, C.nils, C.nils, C.nils,
 C.nils, C.nils, C.nils, C.int .i64 (0 : Int), C.nils, C.nils, C.nils, C.nils, C.nils, C.nils, C.nils, C.nils, C.int .i64 (0 : Int), C.nils, C.nils, C.nils, C.nils, C.nils, C.nils, C.nils, C.nils, C.int
 .i64 (0 : Int), C.nils, C.nils, C.nils, C.nils, C.nils, C.nils, C.nils, C.nils, C.int .i64 (0 : Int), C.slc 1 0 y_4.fst.o.length none, C.slc 2 0 y_4.fst.t.length none, C.slc 3 0 y_4.fst.w.length none,
 C.slc 4 0 y_4.fst.n.length none, C.slc 5 0 y_4.fst.f.length none, C.slc 6 0 y_4.fst.m.length none, C.slc 7 0 y_4.fst.d.length none, C.slc 8 0 y_4.fst.r.length none, C.int .i64 y_4.fst.seen, C.nils, C.nils,
 C.nils, C.nils, C.nils, C.nils, C.nils, C.nils, C.int .i64 (0 : Int), C.nils, C.nils, C.nils, C.nils, C.nils, C.nils, C.nils, C.nils, C.int .i64 (0 : Int), C.nils, C.nils, C.nils, C.nils, C.nils, C.nils,
 C.nils, C.nils, C.int .i64 (0 : Int), C.nils, C.nils, C.nils, C.nils, C.nils, C.nils, C.nils, C.nils, C.int .i64 (0 : Int), C.nils, C.nils, C.nils, C.nils, C.nils, C.nils, C.nils, C.nils, C.int .i64 (0
 : Int), C.nils, C.nils, C.nils, C.nils, C.nils, C.nils, C.nils, C.nils, C.int .i64 (0 : Int)], Atom.arr Kd.rrule y_4.fst.o, Atom.arr Kd.rrule y_4.fst.t, Atom.arr Kd.rrule y_4.fst.w, Atom.arr Kd.rrule y_4.fst.n,
 Atom.arr Kd.rrule y_4.fst.f, Atom.arr Kd.int y_4.fst.m, Atom.arr Kd.int y_4.fst.d, Atom.arr Kd.int y_4.fst.r, Atom.bag y_4.snd, Atom.cells 64 [C.slc 11 0 y.snd.length none], Atom.arr Kd.line y.snd, Atom.ro
 Kd.rule (LL y.snd)] ∧ ∀ (y_5 : BS × Bag KK), RestOk y_5.snd y_5.fst ∧ y_5.fst.seen = y_4.fst.seen + (2 : Int) ∧ Kp y_4.snd y_5.snd → i64ok ((↑z.fst : Int) + (1 : Int)) ∧ Enter 1 (inv_parses s φ) (fun (z'
 : Nat × BS × Bag KK) => 2 - z'.fst < 2 - z.fst) ([VV.one (V1.c (C.str s)), VV.any, VV.any, VV.one (V1.c (C.slc 1 0 (goodOf (parseB s)).length none)), VV.one (V1.c (C.int .i64 (badOf (parseB s)).fst)),
 VV.one (V1.c (C.int .i64 (badOf (parseB s)).snd)), VV.one (V1.c (C.ptr 2 0 0)), VV.any, VV.one (V1.c (C.int .i64 ((↑z.fst : Int) + (1 : Int))))] ++ anys 88) [Atom.bag y_5.snd, Atom.arr Kd.rule (goodOf
 (parseB s)), Atom.cells 44 [C.bool false, C.bool false, C.int .i64 y_5.fst.turn, C.int .i64 y_5.fst.deep, C.nils, C.nils, C.nils, C.nils, C.nils, C.nils, C.nils, C.nils, C.int .i64 (0 : Int), C.nils, C.nils,
 C.nils, C.nils, C.nils, C.nils, C.nils, C.nils, C.int .i64 (0 : Int), C.nils, C.nils, C.nils, C.nils, C.nils, C.nils, C.nils, C.nils, C.int .i64 (0 : Int), C.nils, C.nils, C.nils, C.nils, C.nils, C.nils,
 C.nils, C.nils, C.int .i64 (0 : Int), C.nils, C.nils, C.nils, C.nils, C.nils, C.nils, C.nils, C.nils, C.int .i64 (0 : Int), C.nils, C.nils, C.nils, C.nils, C.nils, C.nils, C.nils, C.nils, C.int .i64 (0
 : Int), C.nils, C.nils, C.nils, C.nils, C.nils, C.nils, C.nils, C.nils, C.int .i64 (0 : Int), C.nils, C.nils, C.nils, C.nils, C.nils, C.nils, C.nils, C.nils, C.int .i64 (0 : Int), C.nils, C.nils, C.nils,
 C.nils, C.nils, C.nils, C.nils, C.nils, C.int .i64 (0 : Int), C.slc 32 0 y_5.fst.o.length none, C.slc 33 0 y_5.fst.t.length none, C.slc 34 0 y_5.fst.w.length none, C.slc 35 0 y_5.fst.n.length none, C.slc
 36 0 y_5.fst.f.length none, C.slc 37 0 y_5.fst.m.length none, C.slc 38 0 y_5.fst.d.length none, C.slc 39 0 y_5.fst.r.length none, C.int .i64 y_5.fst.seen, C.nils, C.nils, C.nils, C.nils, C.nils, C.nils,
 C.nils, C.nils, C.int .i64 (0 : Int), C.nils, C.nils, C.nils, C.nils, C.nils, C.nils, C.nils, C.nils, C.int .i64 (0 : Int), C.nils, C.nils, C.nils, C.nils, C.nils, C.nils, C.nils, C.nils, C.int .i64 (0
 : Int), C.nils, C.nils, C.nils, C.nils, C.nils, C.nils, C.nils, C.nils, C.int .i64 (0 : Int), C.nils, C.nils, C.nils, C.nils, C.nils, C.nils, C.nils, C.nils, C.int .i64 (0 : Int), C.nils, C.nils, C.nils,
 C.nils, C.nils, C.nils, C.nils, C.nils, C.int .i64 (0 : Int)], Atom.gone, Atom.gone, Atom.gone, Atom.gone, Atom.gone, Atom.gone, Atom.gone, Atom.gone, Atom.cells 64 [C.slc 12 0 y.snd.length none], Atom.arr
 Kd.line y.snd, Atom.cells 64 [C.slc 14 0 y_1.snd.length none], Atom.arr Kd.line y_1.snd, Atom.gone, Atom.gone, Atom.gone, Atom.gone, Atom.gone, Atom.gone, Atom.gone, Atom.gone, Atom.arr Kd.rule (mirB (goodOf
 (parseB s))), Atom.gone, Atom.gone, Atom.gone, Atom.gone, Atom.gone, Atom.gone, Atom.gone, Atom.gone, Atom.arr Kd.rrule y_5.fst.o, Atom.arr Kd.rrule y_5.fst.t, Atom.arr Kd.rrule y_5.fst.w, Atom.arr Kd.rrule
 y_5.fst.n, Atom.arr Kd.rrule y_5.fst.f, Atom.arr Kd.int y_5.fst.m, Atom.arr Kd.int y_5.fst.d, Atom.arr Kd.int y_5.fst.r]) (EndsAs 1 (ct_parses s t φ) (boolv false) [Atom.bag y.fst, Atom.arr Kd.rule (goodOf
 (parseB s)), Atom.cells 44 [C.bool false, C.bool false, C.int .i64 z.snd.fst.turn, C.int .i64 z.snd.fst.deep, C.nils, C.nils, C.nils, C.nils, C.nils, C.nils, C.nils, C.nils, C.int .i64 (0 : Int), C.nils,
 C.nils, C.nils, C.nils, C.nils, C.nils, C.nils, C.nils, C.int .i64 (0 : Int), C.nils, C.nils, C.nils, C.nils, C.nils, C.nils, C.nils, C.nils, C.int .i64 (0 : Int), C.nils, C.nils, C.nils, C.nils, C.nils,
 C.nils, C.nils, C.nils, C.int .i64 (0 : Int), C.nils, C.nils, C.nils, C.nils, C.nils, C.nils, C.nils, C.nils, C.int .i64 (0 : Int), C.nils, C.nils, C.nils, C.nils, C.nils, C.nils, C.nils, C.nils, C.int
 .i64 (0 : Int), C.nils, C.nils, C.nils, C.nils, C.nils, C.nils, C.nils, C.nils, C.int .i64 (0 : Int), C.nils, C.nils, C.nils, C.nils, C.nils, C.nils, C.nils, C.nils, C.int .i64 (0 : Int), C.nils, C.nils,
 C.nils, C.nils, C.nils, C.nils, C.nils, C.nils, C.int .i64 (0 : Int), C.slc 3 0 z.snd.fst.o.length none, C.slc 4 0 z.snd.fst.t.length none, C.slc 5 0 z.snd.fst.w.length none, C.slc 6 0 z.snd.fst.n.length
 none, C.slc 7 0 z.snd.fst.f.length none, C.slc 8 0 z.snd.fst.m.length none, C.slc 9 0 z.snd.fst.d.length none, C.slc 10 0 z.snd.fst.r.length none, C.int .i64 z.snd.fst.seen, C.nils, C.nils, C.nils, C.nils,
 C.nils, C.nils, C.nils, C.nils, C.int .i64 (0 : Int), C.nils, C.nils, C.nils, C.nils, C.nils, C.nils, C.nils, C.nils, C.int .i64 (0 : Int), C.nils, C.nils, C.nils, C.nils, C.nils, C.nils, C.nils, C.nils,
 C.int .i64 (0 : Int), C.nils, C.nils, C.nils, C.nils, C.nils, C.nils, C.nils, C.nils, C.int .i64 (0 : Int), C.nils, C.nils, C.nils, C.nils, C.nils, C.nils, C.nils, C.nils, C.int .i64 (0 : Int), C.nils,
 C.nils, C.nils, C.nils, C.nils, C.nils, C.nils, C.nils, C.int .i64 (0 : Int)], Atom.arr Kd.rrule z.snd.fst.o, Atom.arr Kd.rrule z.snd.fst.t, Atom.arr Kd.rrule z.snd.fst.w, Atom.arr Kd.rrule z.snd.fst.n,
 Atom.arr Kd.rrule z.snd.fst.f, Atom.arr Kd.int z.snd.fst.m, Atom.arr Kd.int z.snd.fst.d, Atom.arr Kd.int z.snd.fst.r, Atom.cells 64 [C.slc 12 0 y.snd.length none], Atom.arr Kd.line y.snd])) (EndsAs 1 (ct_parses
 s t φ) (boolv false) [Atom.bag y.fst, Atom.arr Kd.rule (goodOf (parseB s)), Atom.cells 44 [C.bool false, C.bool false, C.int .i64 z.snd.fst.turn, C.int .i64 z.snd.fst.deep, C.nils, C.nils, C.nils, C.nils,
 C.nils, C.nils, C.nils, C.nils, C.int .i64 (0 : Int), C.nils, C.nils, C.nils, C.nils, C.nils, C.nils, C.nils, C.nils, C.int .i64 (0 : Int), C.nils, C.nils, C.nils, C.nils, C.nils, C.nils, C.nils, C.nils,
 C.int .i64 (0 : Int), C.nils, C.nils, C.nils, C.nils, C.nils, C.nils, C.nils, C.nils, C.int .i64 (0 : Int), C.nils, C.nils, C.nils, C.nils, C.nils, C.nils, C.nils, C.nils, C.int .i64 (0 : Int), C.nils,
 C.nils, C.nils, C.nils, C.nils, C.nils, C.nils, C.nils, C.int .i64 (0 : Int), C.nils, C.nils, C.nils, C.nils, C.nils, C.nils, C.nils, C.nils, C.int .i64 (0 : Int), C.nils, C.nils, C.nils, C.nils, C.nils,
 C.nils, C.nils, C.nils, C.int .i64 (0 : Int), C.nils, C.nils, C.nils, C.nils, C.nils, C.nils, C.nils, C.nils, C.int .i64 (0 : Int), C.slc 3 0 z.snd.fst.o.length none, C.slc 4 0 z.snd.fst.t.length none,
 C.slc 5 0 z.snd.fst.w.length none, C.slc 6 0 z.snd.fst.n.length none, C.slc 7 0 z.snd.fst.f.length none, C.slc 8 0 z.snd.fst.m.length none, C.slc 9 0 z.snd.fst.d.length none, C.slc 10 0 z.snd.fst.r.length
 none, C.int .i64 z.snd.fst.seen, C.nils, C.nils, C.nils, C.nils, C.nils, C.nils, C.nils, C.nils, C.int .i64 (0 : Int), C.nils, C.nils, C.nils, C.nils, C.nils, C.nils, C.nils, C.nils, C.int .i64 (0 : Int),
 C.nils, C.nils, C.nils, C.nils, C.nils, C.nils, C.nils, C.nils, C.int .i64 (0 : Int), C.nils, C.nils, C.nils, C.nils, C.nils, C.nils, C.nils, C.nils, C.int .i64 (0 : Int), C.nils, C.nils, C.nils, C.nils,
 C.nils, C.nils, C.nils, C.nils, C.int .i64 (0 : Int), C.nils, C.nils, C.nils, C.nils, C.nils, C.nils, C.nils, C.nils, C.int .i64 (0 : Int)], Atom.arr Kd.rrule z.snd.fst.o, Atom.arr Kd.rrule z.snd.fst.t,
 Atom.arr Kd.rrule z.snd.fst.w, Atom.arr Kd.rrule z.snd.fst.n, Atom.arr Kd.rrule z.snd.fst.f, Atom.arr Kd.int z.snd.fst.m, Atom.arr Kd.int z.snd.fst.d, Atom.arr Kd.int z.snd.fst.r, Atom.cells 64 [C.slc
 12 0 y.snd.length none], Atom.arr Kd.line y.snd])) (EndsAs 1 (ct_parses s t φ) (boolv false) [Atom.bag y.fst, Atom.arr Kd.rule (goodOf (parseB s)), Atom.cells 44 [C.bool false, C.bool false, C.int .i64
 z.snd.fst.turn, C.int .i64 z.snd.fst.deep, C.nils, C.nils, C.nils, C.nils, C.nils, C.nils, C.nils, C.nils, C.int .i64 (0 : Int), C.nils, C.nils, C.nils, C.nils, C.nils, C.nils, C.nils, C.nils, C.int .i64
 (0 : Int), C.nils, C.nils, C.nils, C.nils, C.nils, C.nils, C.nils, C.nils, C.int .i64 (0 : Int), C.nils, C.nils, C.nils, C.nils, C.nils, C.nils, C.nils, C.nils, C.int .i64 (0 : Int), C.nils, C.nils, C.nils,
 C.nils, C.nils, C.nils, C.nils, C.nils, C.int .i64 (0 : Int), C.nils, C.nils, C.nils, C.nils, C.nils, C.nils, C.nils, C.nils, C.int .i64 (0 : Int), C.nils, C.nils, C.nils, C.nils, C.nils, C.nils, C.nils,
 C.nils, C.int .i64 (0 : Int), C.nils, C.nils, C.nils, C.nils, C.nils, C.nils, C.nils, C.nils, C.int .i64 (0 : Int), C.nils, C.nils, C.nils, C.nils, C.nils, C.nils, C.nils, C.nils, C.int .i64 (0 : Int),
 C.slc 3 0 z.snd.fst.o.length none, C.slc 4 0 z.snd.fst.t.length none, C.slc 5 0 z.snd.fst.w.length none, C.slc 6 0 z.snd.fst.n.length none, C.slc 7 0 z.snd.fst.f.length none, C.slc 8 0 z.snd.fst.m.length
 none, C.slc 9 0 z.snd.fst.d.length none, C.slc 10 0 z.snd.fst.r.length none, C.int .i64 z.snd.fst.seen, C.nils, C.nils, C.nils, C.nils, C.nils, C.nils, C.nils, C.nils, C.int .i64 (0 : Int), C.nils, C.nils,
 C.nils, C.nils, C.nils, C.nils, C.nils, C.nils, C.int .i64 (0 : Int), C.nils, C.nils, C.nils, C.nils, C.nils, C.nils, C.nils, C.nils, C.int .i64 (0 : Int), C.nils, C.nils, C.nils, C.nils, C.nils, C.nils,
 C.nils, C.nils, C.int .i64 (0 : Int), C.nils, C.nils, C.nils, C.nils, C.nils, C.nils, C.nils, C.nils, C.int .i64 (0 : Int), C.nils, C.nils, C.nils, C.nils, C.nils, C.nils, C.nils, C.nils, C.int .i64 (0
 : Int)], Atom.arr Kd.rrule z.snd.fst.o, Atom.arr Kd.rrule z.snd.fst.t, Atom.arr Kd.rrule z.snd.fst.w, Atom.arr Kd.rrule z.snd.fst.n, Atom.arr Kd.rrule z.snd.fst.f, Atom.arr Kd.int z.snd.fst.m, Atom.arr
 Kd.int z.snd.fst.d, Atom.arr Kd.int z.snd.fst.r, Atom.cells 64 [C.slc 12 0 y.snd.length none], Atom.arr Kd.line y.snd])) (BookOk z.snd.snd (BS.mk (z.snd.fst.turn) (z.snd.fst.deep) (z.snd.fst.o) (z.snd.fst.t)
 (z.snd.fst.w) (z.snd.fst.n) (z.snd.fst.f) (z.snd.fst.m) (z.snd.fst.d) (z.snd.fst.r) (z.snd.fst.seen)) ∧ Into (K := KK) 0 [] [2, 3, 4, 5, 6, 7, 8, 9, 10, 0] [VV.one (V1.c (C.ptr 2 0 0))] [Atom.bag z.snd.snd,
 Atom.arr Kd.rule (goodOf (parseB s)), Atom.cells 44 [C.bool false, C.bool false, C.int .i64 z.snd.fst.turn, C.int .i64 z.snd.fst.deep, C.nils, C.nils, C.nils, C.nils, C.nils, C.nils, C.nils, C.nils, C.int
 .i64 (0 : Int), C.nils, C.nils, C.nils, C.nils, C.nils, C.nils, C.nils, C.nils, C.int .i64 (0 : Int), C.nils, C.nils, C.nils, C.nils, C.nils, C.nils, C.nils, C.nils, C.int .i64 (0 : Int), C.nils, C.nils,
 C.nils, C.nils, C.nils, C.nils, C.nils, C.nils, C.int .i64 (0 : Int), C.nils, C.nils, C.nils, C.nils, C.nils, C.nils, C.nils, C.nils, C.int .i64 (0 : Int), C.nils, C.nils, C.nils, C.nils, C.nils, C.nils,
 C.nils, C.nils, C.int .i64 (0 : Int), C.nils, C.nils, C.nils, C.nils, C.nils, C.nils, C.nils, C.nils, C.int .i64 (0 : Int), C.nils, C.nils, C.nils, C.nils, C.nils, C.nils, C.nils, C.nils, C.int .i64 (0
 : Int), C.nils, C.nils, C.nils, C.nils, C.nils, C.nils, C.nils, C.nils, C.int .i64 (0 : Int), C.slc 3 0 z.snd.fst.o.length none, C.slc 4 0 z.snd.fst.t.length none, C.slc 5 0 z.snd.fst.w.length none, C.slc
 6 0 z.snd.fst.n.length none, C.slc 7 0 z.snd.fst.f.length none, C.slc 8 0 z.snd.fst.m.length none, C.slc 9 0 z.snd.fst.d.length none, C.slc 10 0 z.snd.fst.r.length none, C.int .i64 z.snd.fst.seen, C.nils,
 C.nils, C.nils, C.nils, C.nils, C.nils, C.nils, C.nils, C.int .i64 (0 : Int), C.nils, C.nils, C.nils, C.nils, C.nils, C.nils, C.nils, C.nils, C.int .i64 (0 : Int), C.nils, C.nils, C.nils, C.nils, C.nils,
 C.nils, C.nils, C.nils, C.int .i64 (0 : Int), C.nils, C.nils, C.nils, C.nils, C.nils, C.nils, C.nils, C.nils, C.int .i64 (0 : Int), C.nils, C.nils, C.nils, C.nils, C.nils, C.nils, C.nils, C.nils, C.int
 .i64 (0 : Int), C.nils, C.nils, C.nils, C.nils, C.nils, C.nils, C.nils, C.nils, C.int .i64 (0 : Int)], Atom.arr Kd.rrule z.snd.fst.o, Atom.arr Kd.rrule z.snd.fst.t, Atom.arr Kd.rrule z.snd.fst.w, Atom.arr
 Kd.rrule z.snd.fst.n, Atom.arr Kd.rrule z.snd.fst.f, Atom.arr Kd.int z.snd.fst.m, Atom.arr Kd.int z.snd.fst.d, Atom.arr Kd.int z.snd.fst.r] [VV.one (V1.c (C.ptr 0 0 0))] [Atom.cells 44 [C.bool false, C.bool
 false, C.int .i64 z.snd.fst.turn, C.int .i64 z.snd.fst.deep, C.nils, C.nils, C.nils, C.nils, C.nils, C.nils, C.nils, C.nils, C.int .i64 (0 : Int), C.nils, C.nils, C.nils, C.nils, C.nils, C.nils, C.nils,
 C.nils, C.int .i64 (0 : Int), C.nils, C.nils, C.nils, C.nils, C.nils, C.nils, C.nils, C.nils, C.int .i64 (0 : Int), C.nils, C.nils, C.nils, C.nils, C.nils, C.nils, C.nils, C.nils, C.int .i64 (0 : Int),
 C.nils, C.nils, C.nils, C.nils, C.nils, C.nils, C.nils, C.nils, C.int .i64 (0 : Int), C.nils, C.nils, C.nils, C.nils, C.nils, C.nils, C.nils, C.nils, C.int .i64 (0 : Int), C.nils, C.nils, C.nils, C.nils,
 C.nils, C.nils, C.nils, C.nils, C.int .i64 (0 : Int), C.nils, C.nils, C.nils, C.nils, C.nils, C.nils, C.nils, C.nils, C.int .i64 (0 : Int), C.nils, C.nils, C.nils, C.nils, C.nils, C.nils, C.nils, C.nils,
 C.int .i64 (0 : Int), C.slc 1 0 z.snd.fst.o.length none, C.slc 2 0 z.snd.fst.t.length none, C.slc 3 0 z.snd.fst.w.length none, C.slc 4 0 z.snd.fst.n.length none, C.slc 5 0 z.snd.fst.f.length none, C.slc
 6 0 z.snd.fst.m.length none, C.slc 7 0 z.snd.fst.d.length none, C.slc 8 0 z.snd.fst.r.length none, C.int .i64 z.snd.fst.seen, C.nils, C.nils, C.nils, C.nils, C.nils, C.nils, C.nils, C.nils, C.int .i64
 (0 : Int), C.nils, C.nils, C.nils, C.nils, C.nils, C.nils, C.nils, C.nils, C.int .i64 (0 : Int), C.nils, C.nils, C.nils, C.nils, C.nils, C.nils, C.nils, C.nils, C.int .i64 (0 : Int), C.nils, C.nils, C.nils,
 C.nils, C.nils, C.nils, C.nils, C.nils, C.int .i64 (0 : Int), C.nils, C.nils, C.nils, C.nils, C.nils, C.nils, C.nils, C.nils, C.int .i64 (0 : Int), C.nils, C.nils, C.nils, C.nils, C.nils, C.nils, C.nils,
 C.nils, C.int .i64 (0 : Int)], Atom.arr Kd.rrule z.snd.fst.o, Atom.arr Kd.rrule z.snd.fst.t, Atom.arr Kd.rrule z.snd.fst.w, Atom.arr Kd.rrule z.snd.fst.n, Atom.arr Kd.rrule z.snd.fst.f, Atom.arr Kd.int
 z.snd.fst.m, Atom.arr Kd.int z.snd.fst.d, Atom.arr Kd.int z.snd.fst.r, Atom.bag z.snd.snd] ∧ ∀ (y : Unit), True → EndsAs 1 (ct_parses s t φ) (boolv true) [Atom.bag z.snd.snd, Atom.arr Kd.rule (goodOf (parseB
 s)), Atom.cells 44 [C.bool false, C.bool false, C.int .i64 z.snd.fst.turn, C.int .i64 z.snd.fst.deep, C.nils, C.nils, C.nils, C.nils, C.nils, C.nils, C.nils, C.nils, C.int .i64 (0 : Int), C.nils, C.nils,
 C.nils, C.nils, C.nils, C.nils, C.nils, C.nils, C.int .i64 (0 : Int), C.nils, C.nils, C.nils, C.nils, C.nils, C.nils, C.nils, C.nils, C.int .i64 (0 : Int), C.nils, C.nils, C.nils, C.nils, C.nils, C.nils,
 C.nils, C.nils, C.int .i64 (0 : Int), C.nils, C.nils, C.nils, C.nils, C.nils, C.nils, C.nils, C.nils, C.int .i64 (0 : Int), C.nils, C.nils, C.nils, C.nils, C.nils, C.nils, C.nils, C.nils, C.int .i64 (0
 : Int), C.nils, C.nils, C.nils, C.nils, C.nils, C.nils, C.nils, C.nils, C.int .i64 (0 : Int), C.nils, C.nils, C.nils, C.nils, C.nils, C.nils, C.nils, C.nils, C.int .i64 (0 : Int), C.nils, C.nils, C.nils,
 C.nils, C.nils, C.nils, C.nils, C.nils, C.int .i64 (0 : Int), C.slc 3 0 z.snd.fst.o.length none, C.slc 4 0 z.snd.fst.t.length none, C.slc 5 0 z.snd.fst.w.length none, C.slc 6 0 z.snd.fst.n.length none,
 C.slc 7 0 z.snd.fst.f.length none, C.slc 8 0 z.snd.fst.m.length none, C.slc 9 0 z.snd.fst.d.length none, C.slc 10 0 z.snd.fst.r.length none, C.int .i64 z.snd.fst.seen, C.nils, C.nils, C.nils, C.nils, C.nils,
 C.nils, C.nils, C.nils, C.int .i64 (0 : Int), C.nils, C.nils, C.nils, C.nils, C.nils, C.nils, C.nils, C.nils, C.int .i64 (0 : Int), C.nils, C.nils, C.nils, C.nils, C.nils, C.nils, C.nils, C.nils, C.int
 .i64 (0 : Int), C.nils, C.nils, C.nils, C.nils, C.nils, C.nils, C.nils, C.nils, C.int .i64 (0 : Int), C.nils, C.nils, C.nils, C.nils, C.nils, C.nils, C.nils, C.nils, C.int .i64 (0 : Int), C.nils, C.nils,
 C.nils, C.nils, C.nils, C.nils, C.nils, C.nils, C.int .i64 (0 : Int)], Atom.arr Kd.rrule z.snd.fst.o, Atom.arr Kd.rrule z.snd.fst.t, Atom.arr Kd.rrule z.snd.fst.w, Atom.arr Kd.rrule z.snd.fst.n, Atom.arr
 Kd.rrule z.snd.fst.f, Atom.arr Kd.int z.snd.fst.m, Atom.arr Kd.int z.snd.fst.d, Atom.arr Kd.int z.snd.fst.r]))) := by kernel_rfl
end Go.Proofs.YtoidibkcdkdneaaGreatDoor.T
end
section
namespace Go.Proofs.YtoidibkcdkdneaaGreatDoor.T
open Go.Proofs.YtoidibkcdkdneaaGreatDoor.E Go.Proofs.YtoidibkcdkdneaaGreatDoor.MStr Go.Proofs.YtoidibkcdkdneaaGreatDoor.R
set_option maxRecDepth 100000
set_option linter.unusedVariables false
set_option linter.unusedSimpArgs false
set_option linter.unusedSimpArgs false
theorem parseL_bad : ∀ (ls : List ByteArray) (i : Nat) (acc : List Rl) (k e : Int), parseL i acc ls = .bad k e → e ≠ 0
  | [], i, acc, k, e, h => by simp [parseL] at h
  | s :: t, i, acc, k, e, h => by
    rw [parseL] at h
    split at h
    · exact parseL_bad t _ _ _ _ h
    · split at h
      · injection h with _ h; subst h; decide
      · split at h
        · injection h with _ h; subst h; decide
        · split at h
          · injection h with _ h; subst h; decide
          · exact parseL_bad t _ _ _ _ h
theorem bad_ne {s : ByteArray} (h : isGood (parseB s) = false) : (badOf (parseB s)).2 ≠ 0 := by
  cases hp : parseB s with
  | good l => rw [hp] at h; cases h
  | bad k e =>
    show e ≠ 0
    unfold parseB at hp
    split at hp
    · injection hp with _ hp; subst hp; decide
    · exact parseL_bad _ _ _ _ _ hp
theorem good_of {s : ByteArray} (h : isGood (parseB s) = true) : parseB s = .good (goodOf (parseB s)) := by
  cases hp : parseB s with
  | good l => rfl
  | bad k e => rw [hp] at h; cases h
theorem hd_mir (w : Int) : (R.hd (mirW w)).length = (R.hd w).length := by
  unfold mirW R.hd
  split <;> (try split) <;> (try split) <;> (try split) <;> (try split) <;> first | rfl | omega
theorem lsum_mir (l : List Rl) : lsum (mirB l) = lsum l := by
  unfold lsum mirB
  rw [List.map_map]
  congr 1
  apply List.map_congr_left
  intro r _
  show (lineL (mirR r)).length + 1 = (lineL r).length + 1
  unfold lineL
  rw [List.length_append, List.length_append]
  show (R.hd (mirW r.1)).length + _ + 1 = _
  rw [hd_mir]
  rfl
theorem good3_of {ys : List Ln} {l : List Rl} (h : LL ys = l) (hw : Wf l) (h64 : l.length ≤ 64) (hs : lsum l ≤ 100000) : Good3 ys := by
  subst h
  rw [LL_len] at h64
  refine ⟨by omega, fun x hx => ?_, by omega⟩
  have := (hw _ (List.mem_map_of_mem (f := rl) hx)).1
  have e : (rl x).1 = x.1 := rfl
  rw [e] at this
  omega
theorem parses_ok (s : ByteArray) (t : Tb) (φ : Bag KK) : CtOk Tryz.prog 3 (ct_parses s t φ) := by
  have fin : ∀ (ψ : Bag KK) (A : VH KK), Kp φ ψ → EndsAs 1 (ct_parses s t φ) (boolv true) (.bag ψ :: A) := fun ψ A hE => ⟨ψ, [], [0], hE, by (repeat' first | exact trivial | exact rfl | apply And.intro)⟩
  have start : ∀ y : BS × Bag KK, (RestOk y.2 y.1 ∧ y.1.seen = 2 ∧ Kp φ y.2) → lawOk φ ((0 : Nat), y.1, y.2) := fun y h => ⟨Nat.zero_le _, h.1, by show y.1.seen ≤ 2 + 6 * ((0 : Nat) : Int); rw [h.2.1]; decide, h.2.2⟩
  have none3 : Good3 [] := ⟨by decide, fun x hx => (by cases hx), by decide⟩
  have hq0 : LL [] = ([] : List Rl) := rfl
  cases hg : isGood (parseB s) with
  | false =>
    refine CtOk_of KK_ok (tabLw t false) (ann_parses s φ) (fn := Tryz.f3) rfl (fun _ _ => rfl) fun hn => ?_
    have hT : HasT t φ := hn
    rw [vc_parsesB]
    simp only [Int.toNat_natCast]
    refine ite2_decide (fun _ => fin φ _ (Kp.refl _)) (fun hsz => ⟨by omega, into_mk (by kernel_rfl) (by (repeat' first | exact trivial | exact rfl | apply And.intro)) (by (repeat' first | exact trivial | exact rfl | apply And.intro)), fun _ _ => ⟨trivial, into_mk (by kernel_rfl) (by (repeat' first | exact trivial | exact rfl | apply And.intro)) (by (repeat' first | exact trivial | exact rfl | apply And.intro)), fun _ _ => ⟨⟨RestOk.new φ, hT, none3, ⟨by decide, by decide⟩, by decide⟩, into_mk (by kernel_rfl) (by (repeat' first | exact trivial | exact rfl | apply And.intro)) (by (repeat' first | exact trivial | exact rfl | apply And.intro)), fun y hy => ⟨⟨((0 : Nat), y.1, y.2), [], [0, 1, 2, 14, 15, 16, 17, 18, 19, 20, 21], start y hy, trivial, into_mk (by kernel_rfl) (by (repeat' first | exact trivial | exact rfl | apply And.intro)) (by (repeat' first | exact trivial | exact rfl | apply And.intro))⟩, ?_⟩⟩⟩⟩)
    rintro ⟨i, B, ψ⟩ ⟨hi, hB, hsn, hk⟩
    have hi : i ≤ 2 := hi
    have hB : RestOk ψ B := hB
    have hsn : B.seen ≤ 2 + 6 * (i : Int) := hsn
    have hk : Kp φ ψ := hk
    dsimp only
    refine ite2_decide (fun hl => ?_) (fun hl => ⟨hB.ok, into_mk (by kernel_rfl) (by (repeat' first | exact trivial | exact rfl | apply And.intro)) (by (repeat' first | exact trivial | exact rfl | apply And.intro)), fun _ _ => fin ψ _ hk⟩)
    have hli : i < 2 := by omega
    refine ⟨⟨by omega, hk.hasT hT, hg⟩, into_mk (by kernel_rfl) (by (repeat' first | exact trivial | exact rfl | apply And.intro)) (by (repeat' first | exact trivial | exact rfl | apply And.intro)), fun y hy => ite2_decide (fun _ => ite2_decide (fun _ => ite2_decide (fun h => absurd h (bad_ne hg)) (fun _ => ⟨by unfold i64ok; omega, ((i + 1 : Nat), B, y.1), [], [0, 1, 2, 3, 4, 5, 6, 7, 8, 9, 10], ⟨hli, hB.ext hy.1, by show B.seen ≤ 2 + 6 * ((i + 1 : Nat) : Int); omega, hk.trans (Kp.ext hy.1)⟩, by show 2 - (i + 1) < 2 - i; omega, into_mk (by kernel_rfl) (by (repeat' first | exact trivial | exact rfl | apply And.intro)) (by (repeat' first | exact trivial | exact rfl | apply And.intro))⟩)) (fun h => absurd trivial h)) (fun h => absurd trivial h)⟩
  | true =>
    have hgd := good_of hg
    obtain ⟨w1, w2, w3, w4⟩ := parse_good hgd
    have hb1 : (badOf (parseB s)).1 = 0 := by rw [hgd]; rfl
    have hb2 : (badOf (parseB s)).2 = 0 := by rw [hgd]; rfl
    refine CtOk_of KK_ok (tabLw t true) (ann_parses s φ) (fn := Tryz.f3) rfl (fun _ _ => rfl) fun hn => ?_
    have hT : HasT t φ := hn
    rw [vc_parsesG]
    simp only [Int.toNat_natCast]
    refine ite2_decide (fun _ => fin φ _ (Kp.refl _)) (fun hsz => ⟨by omega, into_mk (by kernel_rfl) (by (repeat' first | exact trivial | exact rfl | apply And.intro)) (by (repeat' first | exact trivial | exact rfl | apply And.intro)), fun _ _ => ⟨trivial, into_mk (by kernel_rfl) (by (repeat' first | exact trivial | exact rfl | apply And.intro)) (by (repeat' first | exact trivial | exact rfl | apply And.intro)), fun _ _ => ⟨⟨RestOk.new φ, hT, none3, ⟨by decide, by decide⟩, by decide⟩, into_mk (by kernel_rfl) (by (repeat' first | exact trivial | exact rfl | apply And.intro)) (by (repeat' first | exact trivial | exact rfl | apply And.intro)), fun y hy => ⟨⟨((0 : Nat), y.1, y.2), [], [0, 1, 2, 14, 15, 16, 17, 18, 19, 20, 21], start y hy, trivial, into_mk (by kernel_rfl) (by (repeat' first | exact trivial | exact rfl | apply And.intro)) (by (repeat' first | exact trivial | exact rfl | apply And.intro))⟩, ?_⟩⟩⟩⟩)
    rintro ⟨i, B, ψ⟩ ⟨hi, hB, hsn, hk⟩
    have hi : i ≤ 2 := hi
    have hB : RestOk ψ B := hB
    have hsn : B.seen ≤ 2 + 6 * (i : Int) := hsn
    have hk : Kp φ ψ := hk
    dsimp only
    refine ite2_decide (fun hl => ?_) (fun hl => ⟨hB.ok, into_mk (by kernel_rfl) (by (repeat' first | exact trivial | exact rfl | apply And.intro)) (by (repeat' first | exact trivial | exact rfl | apply And.intro)), fun _ _ => fin ψ _ hk⟩)
    have hli : i < 2 := by omega
    have g1 : lsum (goodOf (parseB s)) ≤ 100000 := by omega
    refine ⟨⟨by omega, hk.hasT hT, hg⟩, into_mk (by kernel_rfl) (by (repeat' first | exact trivial | exact rfl | apply And.intro)) (by (repeat' first | exact trivial | exact rfl | apply And.intro)), fun y hy => ?_⟩
    obtain ⟨hE1, hy2⟩ := hy
    obtain ⟨hG1, hl1⟩ := hy2 trivial
    have G1 : Good3 y.2 := good3_of hl1 w1 w2 g1
    have k1 : Kp φ y.1 := hk.trans (Kp.ext hE1)
    refine ite2_decide (fun _ => ite2_decide (fun _ => ite2_decide (fun _ => ?_) (fun h => absurd hb2 h)) (fun h => absurd hb2.symm h)) (fun h => absurd hb1.symm h)
    refine ⟨G1.1, into_mk (by kernel_rfl) (by (repeat' first | exact trivial | exact rfl | apply And.intro)) (by (repeat' first | exact trivial | exact rfl | apply And.intro)), fun m hm => ?_⟩
    obtain ⟨hE2, hG2, hl2⟩ := hm
    have G2 : Good3 m.2 := good3_of hl2 (wf_mir (hl1 ▸ w1)) (by unfold mirB; rw [List.length_map, hl1]; exact w2) (by rw [lsum_mir, hl1]; exact g1)
    have k2 : Kp φ m.1 := k1.trans (Kp.ext hE2)
    have hq1 : goodOf (parseB s) = LL y.2 := hl1.symm
    have hq2 : (goodOf (parseB s)).length = (LL y.2).length := by rw [hl1]
    have hq3 : mirB (goodOf (parseB s)) = LL m.2 := by rw [hl2, hl1]
    have hq4 : (mirB (goodOf (parseB s))).length = (LL m.2).length := by rw [hl2, hl1]
    have b1 : i64ok (1000 * (i : Int)) := by unfold i64ok; omega
    have bn : ∀ k : Int, 0 ≤ k → k ≤ 300 → i64ok (1000 * (i : Int) + k) ∧ (0 ≤ 1000 * (i : Int) + k ∧ 1000 * (i : Int) + k ≤ 1000000) := fun k h1 h2 => by unfold i64ok; omega
    refine ⟨b1, (bn 100 (by decide) (by decide)).1, ⟨(hB.ext hE1).ext hE2, k2.hasT hT, G1, (bn 100 (by decide) (by decide)).2, by omega⟩, into_mk (by kernel_rfl) (by (repeat' first | exact trivial | exact rfl | exact hq1 | exact hq2 | exact hq3 | exact hq4 | apply And.intro)) (by (repeat' first | exact trivial | exact rfl | exact hq1 | exact hq2 | exact hq3 | exact hq4 | apply And.intro)), fun y2 hy2 => ?_⟩
    obtain ⟨r2, s2, c2⟩ := hy2
    have s2 : y2.1.seen = B.seen + 2 := s2
    have k3 : Kp φ y2.2 := k2.trans c2
    refine ⟨by omega, into_mk (by kernel_rfl) (by (repeat' first | exact trivial | exact rfl | apply And.intro)) (by (repeat' first | exact trivial | exact rfl | apply And.intro)), fun _ _ => ⟨b1, (bn 200 (by decide) (by decide)).1, ⟨r2, k3.hasT hT, G2, (bn 200 (by decide) (by decide)).2, by omega⟩, into_mk (by kernel_rfl) (by (repeat' first | exact trivial | exact rfl | exact hq1 | exact hq2 | exact hq3 | exact hq4 | apply And.intro)) (by (repeat' first | exact trivial | exact rfl | exact hq1 | exact hq2 | exact hq3 | exact hq4 | apply And.intro)), fun y4 hy4 => ?_⟩⟩
    obtain ⟨r4, s4, c4⟩ := hy4
    have s4 : y4.1.seen = y2.1.seen + 2 := s4
    have k4 : Kp φ y4.2 := k3.trans c4
    refine ⟨b1, (bn 300 (by decide) (by decide)).1, ⟨r4, k4.hasT hT, G1, (bn 300 (by decide) (by decide)).2, by omega⟩, into_mk (by kernel_rfl) (by (repeat' first | exact trivial | exact rfl | exact hq1 | exact hq2 | exact hq3 | exact hq4 | apply And.intro)) (by (repeat' first | exact trivial | exact rfl | exact hq1 | exact hq2 | exact hq3 | exact hq4 | apply And.intro)), fun y5 hy5 => ?_⟩
    obtain ⟨r5, s5, c5⟩ := hy5
    have s5 : y5.1.seen = y4.1.seen + 2 := s5
    exact ⟨by unfold i64ok; omega, ((i + 1 : Nat), y5.1, y5.2), [], [0, 1, 2, 32, 33, 34, 35, 36, 37, 38, 39], ⟨hli, r5, by show y5.1.seen ≤ 2 + 6 * ((i + 1 : Nat) : Int); omega, k4.trans c5⟩, by show 2 - (i + 1) < 2 - i; omega, into_mk (by kernel_rfl) (by (repeat' first | exact trivial | exact rfl | apply And.intro)) (by (repeat' first | exact trivial | exact rfl | apply And.intro))⟩
end Go.Proofs.YtoidibkcdkdneaaGreatDoor.T
end
