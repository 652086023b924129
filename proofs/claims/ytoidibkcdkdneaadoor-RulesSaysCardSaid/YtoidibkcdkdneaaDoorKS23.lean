/- Text 24 of 27 texts that prove the statement of RowSays; it holds without conditions beyond the statement's own. -/
import Derived.Laws.AppendOwn
import Derived.Laws.OwnMore
import Derived.Deep.MidRow
import Derived.Calls
import Derived.Deep.AppendSrc
import Derived.Maps.AppendAt
import Derived.IntWalk
import Derived.Tactics
import Derived.Laws.StructEq
import Derived.Orders
import Derived.Scope
import Derived.Deep.LoopGhost
import GoSem.Core.Utf8
import Derived.Laws.RangeAny
import Derived.Below
import Derived.Deep.Draws
import Derived.Deep.AppendLies
import Derived.OwnWalk
import Derived.Laws.BytesArg
import Derived.Laws.MakeOwn
import Derived.Deep.OwnRows
import Derived.Lib.ConvBytes
import Derived.Laws.Slices
import Derived.WalkKit
import Derived.KernelRfl
import Derived.RowKit3
import Derived.Deep.QuietTactic
import Derived.BigQuiet
import Derived.WideLaws
import Derived.Deep.DeepCutAuto
import Derived.Deep.CutBlock
import Derived.Deep.RegionHeld3
import Derived.Laws.Rows
import Derived.Lib.AppendStr
import Derived.ArgAppend
import Derived.Laws.IdiomCopy
import Derived.RowKit
import Derived.OrdersHeld
import Derived.Laws.BitsLemmas
import Derived.Test.YtoidibkcdkdneaaDoorProg
import Derived.Lib.OthersKept
import Derived.WalkSmall
import Derived.Shelf.Strings.Builder1
import Derived.Shelf.Strings.Builder2
import Derived.Shelf.Strings.OnBuilder
import Derived.Shelf.Small.Wraps
import Derived.Shelf.Strings.Search1
import Derived.Shelf.Strings.Search2
import Derived.Shelf.Strings.Search3
import Derived.Shelf.Strings.Count
import Derived.Shelf.LaysM
import Derived.Shelf.Strings.Shaped
import Derived.Shelf.Strings.LastIndex
import Derived.Shelf.Strings.Prefix
import Derived.Shelf.Strings.Split
import Derived.Shelf.Unicode.DecodeSlow
import Derived.WalkLawsBesides
import Derived.StillTailTactics
import Derived.Lib.Split
import Derived.Lib.LastIndexByte
import Derived.Lib.Join
import Derived.Test.YtoidibkcdkdneaaDoorKS22
namespace Foot
end Foot
namespace Go.Proofs
end Go.Proofs
namespace Go.Proofs.YtoidibkcdkdneaaDoor
end Go.Proofs.YtoidibkcdkdneaaDoor
namespace Go.Proofs.YtoidibkcdkdneaaDoor.E
end Go.Proofs.YtoidibkcdkdneaaDoor.E
namespace Go.Proofs.YtoidibkcdkdneaaDoor.Hand
end Go.Proofs.YtoidibkcdkdneaaDoor.Hand
namespace Go.Proofs.YtoidibkcdkdneaaDoor.MPat
end Go.Proofs.YtoidibkcdkdneaaDoor.MPat
namespace Go.Proofs.YtoidibkcdkdneaaDoor.MStr
end Go.Proofs.YtoidibkcdkdneaaDoor.MStr
namespace Go.Proofs.YtoidibkcdkdneaaDoor.PRead
end Go.Proofs.YtoidibkcdkdneaaDoor.PRead
namespace Go.Proofs.YtoidibkcdkdneaaDoor.PSplit
end Go.Proofs.YtoidibkcdkdneaaDoor.PSplit
namespace Go.Proofs.YtoidibkcdkdneaaDoor.R
end Go.Proofs.YtoidibkcdkdneaaDoor.R
namespace Go.Proofs.YtoidibkcdkdneaaDoor.T
end Go.Proofs.YtoidibkcdkdneaaDoor.T
namespace Go.Proofs.YtoidibkcdkdneaaDoor.TR
end Go.Proofs.YtoidibkcdkdneaaDoor.TR
namespace Go.Proofs.YtoidibkcdkdneaaDoor.TrulesSays
end Go.Proofs.YtoidibkcdkdneaaDoor.TrulesSays
namespace Go.Proofs.YtoidibkcdkdneaaDoorW.PrintLast
end Go.Proofs.YtoidibkcdkdneaaDoorW.PrintLast
namespace Go.Proofs.YtoidibkcdkdneaaDoorW.PrintMore
end Go.Proofs.YtoidibkcdkdneaaDoorW.PrintMore
namespace Go.Proofs.YtoidibkcdkdneaaDoorW.PrintWords
end Go.Proofs.YtoidibkcdkdneaaDoorW.PrintWords
namespace Kd
end Kd
section
namespace Go.Proofs.YtoidibkcdkdneaaDoor.T
open Go.Proofs.YtoidibkcdkdneaaDoor.E Go.Proofs.YtoidibkcdkdneaaDoor.MStr Go.Proofs.YtoidibkcdkdneaaDoor.R
set_option maxRecDepth 100000
set_option linter.unusedVariables false
set_option linter.unusedSimpArgs false
def tabSL (t : Tb) (g : Bool) (l : List ByteArray) (ob : Obj) : Tab Tryd.prog KK := ⟨base t, fun f args H => match f, args, at_ H 0 with
  | 9, [.one (.c (.ptr q 0 0)), .one (.c (.ls _ b o _ c))], .bag φ => match at_ H q with
    | .cells 57 [.int _ n] => some (ct_ctextsL n l b o c ob φ, [], [0, q])
    | _ => none
  | _, _, _ => (tabS t g).pick f args H, fun f args H ct ks τ h => by
    split at h
    · split at h
      · cases h; exact ctextsL_ok _ _ _ _ _ _ _
      · cases h
    · exact (tabS t g).ok _ _ _ _ _ _ h⟩
def ct_saysL (s : ByteArray) (l : List ByteArray) (b o c : Nat) (ob : Obj) (t : Tb) (φ : Bag KK) : Ct KK := { need := HasT t φ ∧ HasV φ b o Kd.str l ob ∧ s.size ≤ 9223372036854775807 ∧ l.length ≤ 9223372036854775807 ∧ ∀ x ∈ l, x.size ≤ 9223372036854775807, pre := [.bag φ], args := [strv s, .c (.ls 9 b o l.length c)], Y := Bag KK, ok := fun ψ => Ext φ ψ, ret := fun _ => boolv true, post := fun ψ => [.bag ψ] }
theorem vc_saysLB (s : ByteArray) (l : List ByteArray) (b o c : Nat) (ob : Obj) (t : Tb) (φ : Bag KK) : evFn (tabSL t false l ob) (ann_says l.length) Tryd.f3 (ct_saysL s l b o c ob t φ) = ( i64ok (16384 : Int) ∧ Into (K := KK) 0 [] [] [i64 (16384 : Int)] [Atom.bag φ] [i64 (16384 : Int)] [] ∧ ∀ (y : Unit), True → (okN (16384 : Int) ∧ s.size ≤ 9223372036854775807) ∧ Into (K := KK) 0 [] [1]
 [VV.one (V1.c (C.ptr 1 0 0)), VV.one (V1.c (C.str s))] [Atom.bag φ, Atom.cells 57 [C.int .i64 (16384 : Int)]] [VV.one (V1.c (C.ptr 0 0 0)), VV.one (V1.c (C.str s))] [Atom.cells 57 [C.int .i64 (16384 :
 Int)]] ∧ ∀ (y : Unit), True → (okN (textC (16384 : Int) s) ∧ (l.length ≤ 9223372036854775807 ∧ ∀ (x : ByteArray), List.Mem x l → x.size ≤ 9223372036854775807) ∧ HasV φ b o Kd.str l ob) ∧ Into (K := KK)
 0 [] [0, 1] [VV.one (V1.c (C.ptr 1 0 0)), VV.one (V1.c (C.ls 9 b o l.length c))] [Atom.bag φ, Atom.cells 57 [C.int .i64 (textC (16384 : Int) s)]] [VV.one (V1.c (C.ptr 1 0 0)), VV.one (V1.c (C.ls 9 b o
 l.length c))] [Atom.bag φ, Atom.cells 57 [C.int .i64 (textC (16384 : Int) s)]] ∧ ∀ (y : Unit), True → True ∧ Into (K := KK) 0 [] [1] [VV.one (V1.c (C.ptr 1 0 0))] [Atom.bag φ, Atom.cells 57 [C.int .i64
 (textsC (textC (16384 : Int) s) l)]] [VV.one (V1.c (C.ptr 0 0 0))] [Atom.cells 57 [C.int .i64 (textsC (textC (16384 : Int) s) l)]] ∧ ∀ (y : Unit), True → ite2 (decide ((0 : Int) ≤ textsC (textC (16384
 : Int) s) l)) (ite2 (decide ((40 : Int) < (↑l.length : Int))) (EndsAs 1 (ct_saysL s l b o c ob t φ) (boolv true) [Atom.bag φ, Atom.cells 57 [C.int .i64 (textsC (textC (16384 : Int) s) l)]]) (s.size ≤ 1000000
 ∧ Into (K := KK) 0 [] [] [VV.one (V1.c (C.str s))] [Atom.bag φ, Atom.cells 57 [C.int .i64 (textsC (textC (16384 : Int) s) l)]] [VV.one (V1.c (C.str s))] [] ∧ ∀ (y : Unit), True → (s.size ≤ 1000000 ∧ HasT
 t φ ∧ isGood (parseB s) = false) ∧ Into (K := KK) 0 [] [0] [VV.one (V1.c (C.str s))] [Atom.bag φ, Atom.cells 57 [C.int .i64 (textsC (textC (16384 : Int) s) l)], Atom.arr Kd.rule (goodOf (parseB s))] [VV.one
 (V1.c (C.str s))] [Atom.bag φ] ∧ ∀ (y : Bag KK × List Ln), Ext φ y.fst ∧ (false = true → GoodL y.fst y.snd ∧ LL y.snd = goodOf (parseB s)) → ite2 (decide ((badOf (parseB s)).snd = (badOf (parseB s)).snd))
 (ite2 (decide ((badOf (parseB s)).snd = (0 : Int))) (EndsAs 1 (ct_saysL s l b o c ob t φ) (boolv false) [Atom.bag y.fst, Atom.cells 57 [C.int .i64 (textsC (textC (16384 : Int) s) l)], Atom.arr Kd.rule
 (goodOf (parseB s))]) (True ∧ Into (K := KK) 0 [] [] [] [Atom.bag y.fst, Atom.cells 57 [C.int .i64 (textsC (textC (16384 : Int) s) l)], Atom.arr Kd.rule (goodOf (parseB s))] [] [] ∧ ∀ (y_1 : Unit), True
 → 0 ≤ 1000 ∧ Into (K := KK) 0 [Kd.line] [0, 3, 2 + 1 + 1] [VV.one (V1.c (C.ptr 3 0 0))] [Atom.bag y.fst, Atom.cells 57 [C.int .i64 (textsC (textC (16384 : Int) s) l)], Atom.arr Kd.rule (goodOf (parseB
 s)), Atom.cells 67 [C.nils]] [VV.one (V1.c (C.ptr 1 0 0))] [Atom.bag y.fst, Atom.cells 67 [C.slc 2 0 0 none], Atom.arr Kd.line []] ∧ ∀ (y_2 : Bag KK × List Ln), Ext y.fst y_2.fst ∧ GoodL y_2.fst y_2.snd
 ∧ LL y_2.snd = mirB (LL []) → Enter 1 (inv_stay 13 3 ([VV.one (V1.c (C.str s)), VV.one (V1.c (C.ls 9 b o l.length c)), VV.any, VV.any, boolv false, VV.one (V1.c (C.ptr 1 0 0)), VV.one (V1.c (C.slc 2 0
 (goodOf (parseB s)).length none)), i64 (badOf (parseB s)).fst, i64 (badOf (parseB s)).snd, VV.one (V1.c (C.ptr 3 0 0)), i64 (badOf (parseB s)).fst, i64 (badOf (parseB s)).snd, VV.one (V1.c (C.ptr 5 0 0)),
 i64 (0 : Int), VV.any, VV.any, VV.any, VV.any, VV.any, VV.any, VV.any, VV.any, VV.one (V1.c (C.ptr 1 0 0)), VV.one (V1.c (C.ptr 1 0 0)), VV.one (V1.c (C.str s)), VV.tup [], VV.one (V1.c (C.ptr 1 0 0)),
 VV.one (V1.c (C.ls 9 b o l.length c)), VV.tup [], VV.one (V1.c (C.ptr 1 0 0)), VV.one (V1.c (C.bool (decide ((0 : Int) ≤ textsC (textC (16384 : Int) s) l)))), boolv false, boolv false, VV.one (V1.c (C.ls
 9 b o l.length c)), i64 (↑l.length : Int), boolv false, boolv false, VV.tup [V1.c (C.slc 2 0 (goodOf (parseB s)).length none), V1.c (C.int .i64 (badOf (parseB s)).fst), V1.c (C.int .i64 (badOf (parseB
 s)).snd)], VV.one (V1.c (C.str s)), VV.tup [V1.c (C.slc 2 0 (goodOf (parseB s)).length none), V1.c (C.int .i64 (badOf (parseB s)).fst), V1.c (C.int .i64 (badOf (parseB s)).snd)], VV.one (V1.c (C.slc 2
 0 (goodOf (parseB s)).length none)), i64 (badOf (parseB s)).fst, i64 (badOf (parseB s)).snd, VV.tup [V1.c C.nilp, V1.c (C.int .i64 (badOf (parseB s)).fst), V1.c (C.int .i64 (badOf (parseB s)).snd)], VV.one
 (V1.c (C.str s)), VV.tup [V1.c C.nilp, V1.c (C.int .i64 (badOf (parseB s)).fst), V1.c (C.int .i64 (badOf (parseB s)).snd)], VV.one (V1.c C.nilp), i64 (badOf (parseB s)).fst, i64 (badOf (parseB s)).snd,
 i64 (badOf (parseB s)).snd, i64 (badOf (parseB s)).snd, boolv false, boolv false, VV.one (V1.c C.nilp), boolv false, i64 (badOf (parseB s)).snd, boolv false, boolv false, boolv false, VV.one (V1.c C.nilp),
 boolv true, VV.one (V1.c (C.ptr 3 0 0)), VV.one (V1.c (C.ptr 3 0 0)), VV.one (V1.c (C.ptr 5 0 0)), VV.one (V1.c (C.ptr 5 0 0)), boolv false] ++ anys 85) [Atom.bag y_2.fst, Atom.cells 57 [C.int .i64 (textsC
 (textC (16384 : Int) s) l)], Atom.arr Kd.rule (goodOf (parseB s)), Atom.cells 67 [C.slc 4 0 0 none], Atom.arr Kd.line [], Atom.cells 67 [C.slc 6 0 y_2.snd.length none], Atom.arr Kd.line y_2.snd]) (fun
 (x : Nat) => True) ([VV.one (V1.c (C.str s)), VV.one (V1.c (C.ls 9 b o l.length c)), VV.any, VV.any, boolv false, VV.one (V1.c (C.ptr 1 0 0)), VV.one (V1.c (C.slc 2 0 (goodOf (parseB s)).length none)),
 i64 (badOf (parseB s)).fst, i64 (badOf (parseB s)).snd, VV.one (V1.c (C.ptr 3 0 0)), i64 (badOf (parseB s)).fst, i64 (badOf (parseB s)).snd, VV.one (V1.c (C.ptr 5 0 0)), i64 (0 : Int)] ++ anys 137) [Atom.bag
 y_2.fst, Atom.cells 57 [C.int .i64 (textsC (textC (16384 : Int) s) l)], Atom.arr Kd.rule (goodOf (parseB s)), Atom.cells 67 [C.slc 4 0 0 none], Atom.arr Kd.line [], Atom.cells 67 [C.slc 6 0 y_2.snd.length
 none], Atom.arr Kd.line y_2.snd] ∧ ∀ (z : Nat), z ≤ 3 → ite2 (decide ((↑z : Int) < (3 : Int))) (Enter 1 (inv_stay 14 l.length ([VV.one (V1.c (C.str s)), VV.one (V1.c (C.ls 9 b o l.length c)), VV.any, VV.any,
 boolv false, VV.one (V1.c (C.ptr 1 0 0)), VV.one (V1.c (C.slc 2 0 (goodOf (parseB s)).length none)), i64 (badOf (parseB s)).fst, i64 (badOf (parseB s)).snd, VV.one (V1.c (C.ptr 3 0 0)), i64 (badOf (parseB
 s)).fst, i64 (badOf (parseB s)).snd, VV.one (V1.c (C.ptr 5 0 0)), i64 (↑z : Int), i64 (0 : Int), VV.any, VV.any, VV.any, VV.any, VV.any, VV.any, VV.any, VV.any, VV.any, VV.any, VV.any, VV.any, VV.any,
 VV.any, VV.any, VV.any, VV.any, VV.any, VV.any, VV.any, VV.any, VV.any, VV.any, VV.any, VV.any, VV.any, VV.any, VV.any, VV.any, VV.any, VV.any, VV.any, VV.any, VV.any, VV.any, VV.any, VV.any, VV.any, VV.any,
 VV.any, VV.any, VV.any, VV.any, VV.any, VV.any, VV.any, VV.any, VV.any, VV.any, VV.any, VV.any, i64 (↑z : Int), boolv true] ++ anys 83) [Atom.bag y_2.fst, Atom.cells 57 [C.int .i64 (textsC (textC (16384
 : Int) s) l)], Atom.arr Kd.rule (goodOf (parseB s)), Atom.cells 67 [C.slc 4 0 0 none], Atom.arr Kd.line [], Atom.cells 67 [C.slc 6 0 y_2.snd.length none], Atom.arr Kd.line y_2.snd]) (fun (x : Nat) => True)
 ([VV.one (V1.c (C.str s)), VV.one (V1.c (C.ls 9 b o l.length c)), VV.any, VV.any, boolv false, VV.one (V1.c (C.ptr 1 0 0)), VV.one (V1.c (C.slc 2 0 (goodOf (parseB s)).length none)), i64 (badOf (parseB
 s)).fst, i64 (badOf (parseB s)).snd, VV.one (V1.c (C.ptr 3 0 0)), i64 (badOf (parseB s)).fst, i64 (badOf (parseB s)).snd, VV.one (V1.c (C.ptr 5 0 0)), i64 (↑z : Int), i64 (0 : Int)] ++ anys 136) [Atom.bag
 y_2.fst, Atom.cells 57 [C.int .i64 (textsC (textC (16384 : Int) s) l)], Atom.arr Kd.rule (goodOf (parseB s)), Atom.cells 67 [C.slc 4 0 0 none], Atom.arr Kd.line [], Atom.cells 67 [C.slc 6 0 y_2.snd.length
 none], Atom.arr Kd.line y_2.snd] ∧ ∀ (z_1 : Nat), z_1 ≤ l.length → ite2 (decide ((↑z_1 : Int) < (↑l.length : Int))) (((0 : Int) ≤ (↑z_1 : Int) ∧ (↑z_1 : Int) < (↑l.length : Int)) ∧ ∃ (xs : List (KK.α Kd.str)),
 ∃ (ob_1 : Obj), HasV y_2.fst b o Kd.str xs ob_1 ∧ (↑z_1 : Int).toNat < xs.length ∧ (GoodL y_2.fst [] ∧ ByteArray.size (rd xs (↑z_1 : Int).toNat (ByteArray.mk (#[]))) ≤ 1000000000 ∧ 0 ≤ 1000) ∧ Into (K
 := KK) 0 [] [0, 3, 4] [VV.one (V1.c (C.ptr 3 0 0)), VV.one (V1.c (C.str (rd xs (↑z_1 : Int).toNat (ByteArray.mk (#[])))))] [Atom.bag y_2.fst, Atom.cells 57 [C.int .i64 (textsC (textC (16384 : Int) s) l)],
 Atom.arr Kd.rule (goodOf (parseB s)), Atom.cells 67 [C.slc 4 0 0 none], Atom.arr Kd.line [], Atom.cells 67 [C.slc 6 0 y_2.snd.length none], Atom.arr Kd.line y_2.snd] [VV.one (V1.c (C.ptr 1 0 0)), VV.one
 (V1.c (C.str (rd xs (↑z_1 : Int).toNat (ByteArray.mk (#[])))))] [Atom.bag y_2.fst, Atom.cells 67 [C.slc 2 0 0 none], Atom.arr Kd.line []] ∧ ∀ (y : Unit), True → (GoodL y_2.fst y_2.snd ∧ ByteArray.size
 (rd xs (↑z_1 : Int).toNat (ByteArray.mk (#[]))) ≤ 1000000000 ∧ y_2.snd.length ≤ 1000) ∧ Into (K := KK) 0 [] [0, 5, 6] [VV.one (V1.c (C.ptr 5 0 0)), VV.one (V1.c (C.str (rd xs (↑z_1 : Int).toNat (ByteArray.mk
 (#[])))))] [Atom.bag y_2.fst, Atom.cells 57 [C.int .i64 (textsC (textC (16384 : Int) s) l)], Atom.arr Kd.rule (goodOf (parseB s)), Atom.cells 67 [C.slc 4 0 0 none], Atom.arr Kd.line [], Atom.cells 67 [C.slc
 6 0 y_2.snd.length none], Atom.arr Kd.line y_2.snd] [VV.one (V1.c (C.ptr 1 0 0)), VV.one (V1.c (C.str (rd xs (↑z_1 : Int).toNat (ByteArray.mk (#[])))))] [Atom.bag y_2.fst, Atom.cells 67 [C.slc 2 0 y_2.snd.length
 none], Atom.arr Kd.line y_2.snd] ∧ ∀ (y : Unit), True → (Fine (goodOf (parseB s)) ∧ ByteArray.size (rd xs (↑z_1 : Int).toNat (ByteArray.mk (#[]))) ≤ 999999) ∧ Into (K := KK) 0 [] [2] [VV.one (V1.c (C.slc
 2 0 (goodOf (parseB s)).length none)), VV.one (V1.c (C.str (rd xs (↑z_1 : Int).toNat (ByteArray.mk (#[])))))] [Atom.bag y_2.fst, Atom.cells 57 [C.int .i64 (textsC (textC (16384 : Int) s) l)], Atom.arr
 Kd.rule (goodOf (parseB s)), Atom.cells 67 [C.slc 4 0 0 none], Atom.arr Kd.line [], Atom.cells 67 [C.slc 6 0 y_2.snd.length none], Atom.arr Kd.line y_2.snd] [VV.one (V1.c (C.slc 0 0 (goodOf (parseB s)).length
 none)), VV.one (V1.c (C.str (rd xs (↑z_1 : Int).toNat (ByteArray.mk (#[])))))] [Atom.ro Kd.rule (goodOf (parseB s))] ∧ ∀ (y : Unit), True → ite2 (decide ((whyB (LL []) (rd xs (↑z_1 : Int).toNat (ByteArray.mk
 (#[])))).fst = (whyB (goodOf (parseB s)) (rd xs (↑z_1 : Int).toNat (ByteArray.mk (#[])))).fst)) (ite2 (decide ((whyB (LL []) (rd xs (↑z_1 : Int).toNat (ByteArray.mk (#[])))).snd = (whyB (goodOf (parseB
 s)) (rd xs (↑z_1 : Int).toNat (ByteArray.mk (#[])))).snd)) (ite2 (decide ((whyB (LL y_2.snd) (rd xs (↑z_1 : Int).toNat (ByteArray.mk (#[])))).fst = (whyB (goodOf (parseB s)) (rd xs (↑z_1 : Int).toNat (ByteArray.mk
 (#[])))).fst)) (ite2 (decide ((whyB (LL y_2.snd) (rd xs (↑z_1 : Int).toNat (ByteArray.mk (#[])))).snd = (whyB (goodOf (parseB s)) (rd xs (↑z_1 : Int).toNat (ByteArray.mk (#[])))).snd)) ((GoodL y_2.fst
 [] ∧ ByteArray.size (rd xs (↑z_1 : Int).toNat (ByteArray.mk (#[]))) ≤ 1000000000 ∧ 0 ≤ 1000) ∧ Into (K := KK) 0 [] [0, 3, 4] [VV.one (V1.c (C.ptr 3 0 0)), VV.one (V1.c (C.str (rd xs (↑z_1 : Int).toNat
 (ByteArray.mk (#[])))))] [Atom.bag y_2.fst, Atom.cells 57 [C.int .i64 (textsC (textC (16384 : Int) s) l)], Atom.arr Kd.rule (goodOf (parseB s)), Atom.cells 67 [C.slc 4 0 0 none], Atom.arr Kd.line [], Atom.cells
 67 [C.slc 6 0 y_2.snd.length none], Atom.arr Kd.line y_2.snd] [VV.one (V1.c (C.ptr 1 0 0)), VV.one (V1.c (C.str (rd xs (↑z_1 : Int).toNat (ByteArray.mk (#[])))))] [Atom.bag y_2.fst, Atom.cells 67 [C.slc
 2 0 0 none], Atom.arr Kd.line []] ∧ ∀ (y : Unit), True → (Fine (goodOf (parseB s)) ∧ ByteArray.size (rd xs (↑z_1 : Int).toNat (ByteArray.mk (#[]))) ≤ (999999 : Nat)) ∧ Into (K := KK) 0 [] [2] [VV.one (V1.c
 (C.slc (2 : Nat) (0 : Nat) (goodOf (parseB s)).length none)), VV.one (V1.c (C.str (rd xs (↑z_1 : Int).toNat (ByteArray.mk (#[])))))] [Atom.bag y_2.fst, Atom.cells 57 [C.int .i64 (textsC (textC (16384 :
 Int) s) l)], Atom.arr Kd.rule (goodOf (parseB s)), Atom.cells 67 [C.slc (4 : Nat) (0 : Nat) (0 : Nat) none], Atom.arr Kd.line [], Atom.cells 67 [C.slc (6 : Nat) (0 : Nat) y_2.snd.length none], Atom.arr
 Kd.line y_2.snd] [VV.one (V1.c (C.slc (0 : Nat) (0 : Nat) (goodOf (parseB s)).length none)), VV.one (V1.c (C.str (rd xs (↑z_1 : Int).toNat (ByteArray.mk (#[])))))] [Atom.ro Kd.rule (goodOf (parseB s))]
 ∧ ∀ (y : Unit), True → ite2 (decide (skipB (LL []) (rd xs (↑z_1 : Int).toNat (ByteArray.mk (#[]))) = skipB (goodOf (parseB s)) (rd xs (↑z_1 : Int).toNat (ByteArray.mk (#[]))))) ((GoodL y_2.fst [] ∧ ByteArray.size
 (rd xs (↑z_1 : Int).toNat (ByteArray.mk (#[]))) ≤ (1000000000 : Nat) ∧ (0 : Nat) ≤ (1000 : Nat)) ∧ Into (0 : Nat) [] [(0 : Nat), (3 : Nat), (4 : Nat)] [VV.one (V1.c (C.ptr (3 : Nat) (0 : Nat) (0 : Nat))),
 VV.one (V1.c (C.str (rd xs (↑z_1 : Int).toNat (ByteArray.mk (#[])))))] [Atom.bag y_2.fst, Atom.cells 57 [C.int .i64 (textsC (textC (16384 : Int) s) l)], Atom.arr Kd.rule (goodOf (parseB s)), Atom.cells
 67 [C.slc (4 : Nat) (0 : Nat) (0 : Nat) none], Atom.arr Kd.line [], Atom.cells 67 [C.slc (6 : Nat) (0 : Nat) y_2.snd.length none], Atom.arr Kd.line y_2.snd] [VV.one (V1.c (C.ptr (1 : Nat) (0 : Nat) (0
 : Nat))), VV.one (V1.c (C.str (rd xs (↑z_1 : Int).toNat (ByteArray.mk (#[])))))] [Atom.bag y_2.fst, Atom.cells 67 [C.slc (2 : Nat) (0 : Nat) (0 : Nat) none], Atom.arr Kd.line []] ∧ ∀ (y : Unit), True →
 (Fine (goodOf (parseB s)) ∧ ByteArray.size (rd xs (↑z_1 : Int).toNat (ByteArray.mk (#[]))) ≤ (999999 : Nat)) ∧ Into (0 : Nat) [] [(2 : Nat)] [VV.one (V1.c (C.slc (2 : Nat) (0 : Nat) (goodOf (parseB s)).length
 none)), VV.one (V1.c (C.str (rd xs (↑z_1 : Int).toNat (ByteArray.mk (#[])))))] [Atom.bag y_2.fst, Atom.cells 57 [C.int .i64 (textsC (textC (16384 : Int) s) l)], Atom.arr Kd.rule (goodOf (parseB s)), Atom.cells
 67 [C.slc (4 : Nat) (0 : Nat) (0 : Nat) none], Atom.arr Kd.line [], Atom.cells 67 [C.slc (6 : Nat) (0 : Nat) y_2.snd.length none], Atom.arr Kd.line y_2.snd] [VV.one (V1.c (C.slc (0 : Nat) (0 : Nat) (goodOf
 (parseB s)).length none)), VV.one (V1.c (C.str (rd xs (↑z_1 : Int).toNat (ByteArray.mk (#[])))))] [Atom.ro Kd.rule (goodOf (parseB s))] ∧ ∀ (y : Unit), True → ite2 (decide (preferB (LL []) (rd xs (↑z_1
 : Int).toNat (ByteArray.mk (#[]))) = preferB (goodOf (parseB s)) (rd xs (↑z_1 : Int).toNat (ByteArray.mk (#[]))))) ((GoodL y_2.fst y_2.snd ∧ ByteArray.size (rd xs (↑z_1 : Int).toNat (ByteArray.mk (#[])))
 ≤ (1000000000 : Nat) ∧ y_2.snd.length ≤ (1000 : Nat)) ∧ Into (0 : Nat) [] [(0 : Nat), (5 : Nat), (6 : Nat)] [VV.one (V1.c (C.ptr (5 : Nat) (0 : Nat) (0 : Nat))), VV.one (V1.c (C.str (rd xs (↑z_1 : Int).toNat
 (ByteArray.mk (#[])))))] [Atom.bag y_2.fst, Atom.cells 57 [C.int .i64 (textsC (textC (16384 : Int) s) l)], Atom.arr Kd.rule (goodOf (parseB s)), Atom.cells 67 [C.slc (4 : Nat) (0 : Nat) (0 : Nat) none],
 Atom.arr Kd.line [], Atom.cells 67 [C.slc (6 : Nat) (0 : Nat) y_2.snd.length none], Atom.arr Kd.line y_2.snd] [VV.one (V1.c (C.ptr (1 : Nat) (0 : Nat) (0 : Nat))), VV.one (V1.c (C.str (rd xs (↑z_1 : Int).toNat
 (ByteArray.mk (#[])))))] [Atom.bag y_2.fst, Atom.cells 67 [C.slc (2 : Nat) (0 : Nat) y_2.snd.length none], Atom.arr Kd.line y_2.snd] ∧ ∀ (y : Unit), True → (Fine (goodOf (parseB s)) ∧ ByteArray.size (rd
 xs (↑z_1 : Int).toNat (ByteArray.mk (#[]))) ≤ (999999 : Nat)) ∧ Into (0 : Nat) [] [(2 : Nat)] [VV.one (V1.c (C.slc (2 : Nat) (0 : Nat) (goodOf (parseB s)).length none)), VV.one (V1.c (C.str (rd xs (↑z_1
 : Int).toNat (ByteArray.mk (#[])))))] [Atom.bag y_2.fst, Atom.cells 57 [C.int .i64 (textsC (textC (16384 : Int) s) l)], Atom.arr Kd.rule (goodOf (parseB s)), Atom.cells 67 [C.slc (4 : Nat) (0 : Nat) (0
 : Nat) none], Atom.arr Kd.line [], Atom.cells 67 [C.slc (6 : Nat) (0 : Nat) y_2.snd.length none], Atom.arr Kd.line y_2.snd] [VV.one (V1.c (C.slc (0 : Nat) (0 : Nat) (goodOf (parseB s)).length none)), VV.one
 (V1.c (C.str (rd xs (↑z_1 : Int).toNat (ByteArray.mk (#[])))))] [Atom.ro Kd.rule (goodOf (parseB s))] ∧ ∀ (y : Unit), True → ite2 (decide (skipB (LL y_2.snd) (rd xs (↑z_1 : Int).toNat (ByteArray.mk (#[])))
 = skipB (goodOf (parseB s)) (rd xs (↑z_1 : Int).toNat (ByteArray.mk (#[]))))) ((GoodL y_2.fst y_2.snd ∧ ByteArray.size (rd xs (↑z_1 : Int).toNat (ByteArray.mk (#[]))) ≤ (1000000000 : Nat) ∧ y_2.snd.length
 ≤ (1000 : Nat)) ∧ Into (0 : Nat) [] [(0 : Nat), (5 : Nat), (6 : Nat)] [VV.one (V1.c (C.ptr (5 : Nat) (0 : Nat) (0 : Nat))), VV.one (V1.c (C.str (rd xs (↑z_1 : Int).toNat (ByteArray.mk (#[])))))] [Atom.bag
 y_2.fst, Atom.cells 57 [C.int .i64 (textsC (textC (16384 : Int) s) l)], Atom.arr Kd.rule (goodOf (parseB s)), Atom.cells 67 [C.slc (4 : Nat) (0 : Nat) (0 : Nat) none], Atom.arr Kd.line [], Atom.cells 67
 [C.slc (6 : Nat) (0 : Nat) y_2.snd.length none], Atom.arr Kd.line y_2.snd] [VV.one (V1.c (C.ptr (1 : Nat) (0 : Nat) (0 : Nat))), VV.one (V1.c (C.str (rd xs (↑z_1 : Int).toNat (ByteArray.mk (#[])))))] [Atom.bag
 y_2.fst, Atom.cells 67 [C.slc (2 : Nat) (0 : Nat) y_2.snd.length none], Atom.arr Kd.line y_2.snd] ∧ ∀ (y : Unit), True → (goodOf (parseB s)).length ≤ (1000 : Nat) ∧ Into (0 : Nat) [] [(2 : Nat)] [VV.one
 (V1.c (C.slc (2 : Nat) (0 : Nat) (goodOf (parseB s)).length none))] [Atom.bag y_2.fst, Atom.cells 57 [C.int .i64 (textsC (textC (16384 : Int) s) l)], Atom.arr Kd.rule (goodOf (parseB s)), Atom.cells 67
 [C.slc (4 : Nat) (0 : Nat) (0 : Nat) none], Atom.arr Kd.line [], Atom.cells 67 [C.slc (6 : Nat) (0 : Nat) y_2.snd.length none], Atom.arr Kd.line y_2.snd] [VV.one (V1.c (C.slc (0 : Nat) (0 : Nat) (goodOf
 (parseB s)).length none))] [Atom.ro Kd.rule (goodOf (parseB s))] ∧ ∀ (y : Unit), True → (Fine (mirB (goodOf (parseB s))) ∧ ByteArray.size (rd xs (↑z_1 : Int).toNat (ByteArray.mk (#[]))) ≤ (999999 : Nat))
 ∧ Into (0 : Nat) [] [(7 : Nat)] [VV.one (V1.c (C.slc (7 : Nat) (0 : Nat) (mirB (goodOf (parseB s))).length none)), VV.one (V1.c (C.str (rd xs (↑z_1 : Int).toNat (ByteArray.mk (#[])))))] [Atom.bag y_2.fst,
 Atom.cells 57 [C.int .i64 (textsC (textC (16384 : Int) s) l)], Atom.arr Kd.rule (goodOf (parseB s)), Atom.cells 67 [C.slc (4 : Nat) (0 : Nat) (0 : Nat) none], Atom.arr Kd.line [], Atom.cells 67 [C.slc
 (6 : Nat) (0 : Nat) y_2.snd.length none], Atom.arr Kd.line y_2.snd, Atom.arr Kd.rule (mirB (goodOf (parseB s)))] [VV.one (V1.c (C.slc (0 : Nat) (0 : Nat) (mirB (goodOf (parseB s))).length none)), VV.one
 (V1.c (C.str (rd xs (↑z_1 : Int).toNat (ByteArray.mk (#[])))))] [Atom.ro Kd.rule (mirB (goodOf (parseB s)))] ∧ ∀ (y : Unit), True → ite2 (decide (preferB (LL y_2.snd) (rd xs (↑z_1 : Int).toNat (ByteArray.mk
 (#[]))) = preferB (mirB (goodOf (parseB s))) (rd xs (↑z_1 : Int).toNat (ByteArray.mk (#[]))))) (i64ok ((↑z_1 : Int) + (1 : Int)) ∧ Enter (1 : Nat) (inv_stay (14 : Nat) l.length ([VV.one (V1.c (C.str s)),
 VV.one (V1.c (C.ls 9 b o l.length c)), VV.any, VV.any, VV.one (V1.c (C.bool false)), VV.one (V1.c (C.ptr (1 : Nat) (0 : Nat) (0 : Nat))), VV.one (V1.c (C.slc (2 : Nat) (0 : Nat) (goodOf (parseB s)).length
 none)), VV.one (V1.c (C.int .i64 (badOf (parseB s)).fst)), VV.one (V1.c (C.int .i64 (badOf (parseB s)).snd)), VV.one (V1.c (C.ptr (3 : Nat) (0 : Nat) (0 : Nat))), VV.one (V1.c (C.int .i64 (badOf (parseB
 s)).fst)), VV.one (V1.c (C.int .i64 (badOf (parseB s)).snd)), VV.one (V1.c (C.ptr (5 : Nat) (0 : Nat) (0 : Nat))), VV.one (V1.c (C.int .i64 (↑z : Int))), VV.one (V1.c (C.int .i64 (0 : Int))), VV.any, VV.any,
 VV.any, VV.any, VV.any, VV.any, VV.any, VV.any, VV.any, VV.any, VV.any, VV.any, VV.any, VV.any, VV.any, VV.any, VV.any, VV.any, VV.any, VV.any, VV.any, VV.any, VV.any, VV.any, VV.any, VV.any, VV.any, VV.any,
 VV.any, VV.any, VV.any, VV.any, VV.any, VV.any, VV.any, VV.any, VV.any, VV.any, VV.any, VV.any, VV.any, VV.any, VV.any, VV.any, VV.any, VV.any, VV.any, VV.any, VV.any, VV.any, VV.any, VV.one (V1.c (C.int
 .i64 (↑z : Int))), VV.one (V1.c (C.bool true))] ++ anys 83) [Atom.bag y_2.fst, Atom.cells 57 [C.int .i64 (textsC (textC (16384 : Int) s) l)], Atom.arr Kd.rule (goodOf (parseB s)), Atom.cells 67 [C.slc
 (4 : Nat) (0 : Nat) (0 : Nat) none], Atom.arr Kd.line [], Atom.cells 67 [C.slc (6 : Nat) (0 : Nat) y_2.snd.length none], Atom.arr Kd.line y_2.snd]) (fun (z' : Nat) => l.length - z' < l.length - z_1) ([VV.one
 (V1.c (C.str s)), VV.one (V1.c (C.ls 9 b o l.length c)), VV.any, VV.any, VV.one (V1.c (C.bool false)), VV.one (V1.c (C.ptr (1 : Nat) (0 : Nat) (0 : Nat))), VV.one (V1.c (C.slc (2 : Nat) (0 : Nat) (goodOf
 (parseB s)).length none)), VV.one (V1.c (C.int .i64 (badOf (parseB s)).fst)), VV.one (V1.c (C.int .i64 (badOf (parseB s)).snd)), VV.one (V1.c (C.ptr (3 : Nat) (0 : Nat) (0 : Nat))), VV.one (V1.c (C.int
 .i64 (badOf (parseB s)).fst)), VV.one (V1.c (C.int .i64 (badOf (parseB s)).snd)), VV.one (V1.c (C.ptr (5 : Nat) (0 : Nat) (0 : Nat))), VV.one (V1.c (C.int .i64 (↑z : Int))), VV.one (V1.c (C.int .i64 ((↑z_1
 : Int) + (1 : Int))))] ++ anys 136) [Atom.bag y_2.fst, Atom.cells 57 [C.int .i64 (textsC (textC (16384 : Int) s) l)], Atom.arr Kd.rule (goodOf (parseB s)), Atom.cells 67 [C.slc (4 : Nat) (0 : Nat) (0 :
 Nat) none], Atom.arr Kd.line [], Atom.cells 67 [C.slc (6 : Nat) (0 : Nat) y_2.snd.length none], Atom.arr Kd.line y_2.snd, Atom.arr Kd.rule (mirB (goodOf (parseB s)))]) (EndsAs (1 : Nat) (ct_saysL s l b
 o c ob t φ) (VV.one (V1.c (C.bool false))) [Atom.bag y_2.fst, Atom.cells 57 [C.int .i64 (textsC (textC (16384 : Int) s) l)], Atom.arr Kd.rule (goodOf (parseB s)), Atom.cells 67 [C.slc (4 : Nat) (0 : Nat)
 (0 : Nat) none], Atom.arr Kd.line [], Atom.cells 67 [C.slc (6 : Nat) (0 : Nat) y_2.snd.length none], Atom.arr Kd.line y_2.snd, Atom.arr Kd.rule (mirB (goodOf (parseB s)))])) (EndsAs (1 : Nat) (ct_saysL
 s l b o c ob t φ) (VV.one (V1.c (C.bool false))) [Atom.bag y_2.fst, Atom.cells 57 [C.int .i64 (textsC (textC (16384 : Int) s) l)], Atom.arr Kd.rule (goodOf (parseB s)), Atom.cells 67 [C.slc (4 : Nat) (0
 : Nat) (0 : Nat) none], Atom.arr Kd.line [], Atom.cells 67 [C.slc (6 : Nat) (0 : Nat) y_2.snd.length none], Atom.arr Kd.line y_2.snd])) (EndsAs (1 : Nat) (ct_saysL s l b o c ob t φ) (VV.one (V1.c (C.bool
 false))) [Atom.bag y_2.fst, Atom.cells 57 [C.int .i64 (textsC (textC (16384 : Int) s) l)], Atom.arr Kd.rule (goodOf (parseB s)), Atom.cells 67 [C.slc (4 : Nat) (0 : Nat) (0 : Nat) none], Atom.arr Kd.line
 [], Atom.cells 67 [C.slc (6 : Nat) (0 : Nat) y_2.snd.length none], Atom.arr Kd.line y_2.snd])) (EndsAs (1 : Nat) (ct_saysL s l b o c ob t φ) (VV.one (V1.c (C.bool false))) [Atom.bag y_2.fst, Atom.cells
 57 [C.int .i64 (textsC (textC (16384 : Int) s) l)], Atom.arr Kd.rule (goodOf (parseB s)), Atom.cells 67 [C.slc (4 : Nat) (0 : Nat) (0 : Nat) none], Atom.arr Kd.line [], Atom.cells 67 [C.slc (6 : Nat) (0
 : Nat) y_2.snd.length none], Atom.arr Kd.line y_2.snd])) (EndsAs 1 (ct_saysL s l b o c ob t φ) (VV.one (V1.c (C.bool false))) [Atom.bag y_2.fst, Atom.cells 57 [C.int .i64 (textsC (textC (16384 : Int) s)
 l)], Atom.arr Kd.rule (goodOf (parseB s)), Atom.cells 67 [C.slc 4 0 0 none], Atom.arr Kd.line [], Atom.cells 67 [C.slc 6 0 y_2.snd.length none], Atom.arr Kd.line y_2.snd])) (EndsAs 1 (ct_saysL s l b o
 c ob t φ) (VV.one (V1.c (C.bool false))) [Atom.bag y_2.fst, Atom.cells 57 [C.int .i64 (textsC (textC (16384 : Int) s) l)], Atom.arr Kd.rule (goodOf (parseB s)), Atom.cells 67 [C.slc 4 0 0 none], Atom.arr
 Kd.line [], Atom.cells 67 [C.slc 6 0 y_2.snd.length none], Atom.arr Kd.line y_2.snd])) (EndsAs 1 (ct_saysL s l b o c ob t φ) (boolv false) [Atom.bag y_2.fst, Atom.cells 57 [C.int .i64 (textsC (textC (16384
 : Int) s) l)], Atom.arr Kd.rule (goodOf (parseB s)), Atom.cells 67 [C.slc 4 0 0 none], Atom.arr Kd.line [], Atom.cells 67 [C.slc 6 0 y_2.snd.length none], Atom.arr Kd.line y_2.snd])) (EndsAs 1 (ct_saysL
 s l b o c ob t φ) (boolv false) [Atom.bag y_2.fst, Atom.cells 57 [C.int .i64 (textsC (textC (16384 : Int) s) l)], Atom.arr Kd.rule (goodOf (parseB s)), Atom.cells 67 [C.slc 4 0 0 none], Atom.arr Kd.line
 [], Atom.cells 67 [C.slc 6 0 y_2.snd.length none], Atom.arr Kd.line y_2.snd])) (i64ok ((↑z : Int) + (1 : Int)) ∧ Enter 1 (inv_stay 13 3 ([VV.one (V1.c (C.str s)), VV.one (V1.c (C.ls 9 b o l.length c)),
 VV.any, VV.any, boolv false, VV.one (V1.c (C.ptr 1 0 0)), VV.one (V1.c (C.slc 2 0 (goodOf (parseB s)).length none)), i64 (badOf (parseB s)).fst, i64 (badOf (parseB s)).snd, VV.one (V1.c (C.ptr 3 0 0)),
 i64 (badOf (parseB s)).fst, i64 (badOf (parseB s)).snd, VV.one (V1.c (C.ptr 5 0 0)), i64 (0 : Int), VV.any, VV.any, VV.any, VV.any, VV.any, VV.any, VV.any, VV.any, VV.one (V1.c (C.ptr 1 0 0)), VV.one (V1.c
 (C.ptr 1 0 0)), VV.one (V1.c (C.str s)), VV.tup [], VV.one (V1.c (C.ptr 1 0 0)), VV.one (V1.c (C.ls 9 b o l.length c)), VV.tup [], VV.one (V1.c (C.ptr 1 0 0)), VV.one (V1.c (C.bool (decide ((0 : Int) ≤
 textsC (textC (16384 : Int) s) l)))), boolv false, boolv false, VV.one (V1.c (C.ls 9 b o l.length c)), i64 (↑l.length : Int), boolv false, boolv false, VV.tup [V1.c (C.slc 2 0 (goodOf (parseB s)).length
 none), V1.c (C.int .i64 (badOf (parseB s)).fst), V1.c (C.int .i64 (badOf (parseB s)).snd)], VV.one (V1.c (C.str s)), VV.tup [V1.c (C.slc 2 0 (goodOf (parseB s)).length none), V1.c (C.int .i64 (badOf (parseB
 s)).fst), V1.c (C.int .i64 (badOf (parseB s)).snd)], VV.one (V1.c (C.slc 2 0 (goodOf (parseB s)).length none)), i64 (badOf (parseB s)).fst, i64 (badOf (parseB s)).snd, VV.tup [V1.c C.nilp, V1.c (C.int
 .i64 (badOf (parseB s)).fst), V1.c (C.int .i64 (badOf (parseB s)).snd)], VV.one (V1.c (C.str s)), VV.tup [V1.c C.nilp, V1.c (C.int .i64 (badOf (parseB s)).fst), V1.c (C.int .i64 (badOf (parseB s)).snd)],
 VV.one (V1.c C.nilp), i64 (badOf (parseB s)).fst, i64 (badOf (parseB s)).snd, i64 (badOf (parseB s)).snd, i64 (badOf (parseB s)).snd, boolv false, boolv false, VV.one (V1.c C.nilp), boolv false, i64 (badOf
 (parseB s)).snd, boolv false, boolv false, boolv false, VV.one (V1.c C.nilp), boolv true, VV.one (V1.c (C.ptr 3 0 0)), VV.one (V1.c (C.ptr 3 0 0)), VV.one (V1.c (C.ptr 5 0 0)), VV.one (V1.c (C.ptr 5 0
 0)), boolv false] ++ anys 85) [Atom.bag y_2.fst, Atom.cells 57 [C.int .i64 (textsC (textC (16384 : Int) s) l)], Atom.arr Kd.rule (goodOf (parseB s)), Atom.cells 67 [C.slc 4 0 0 none], Atom.arr Kd.line
 [], Atom.cells 67 [C.slc 6 0 y_2.snd.length none], Atom.arr Kd.line y_2.snd]) (fun (z' : Nat) => 3 - z' < 3 - z) ([VV.one (V1.c (C.str s)), VV.one (V1.c (C.ls 9 b o l.length c)), VV.any, VV.any, boolv
 false, VV.one (V1.c (C.ptr 1 0 0)), VV.one (V1.c (C.slc 2 0 (goodOf (parseB s)).length none)), i64 (badOf (parseB s)).fst, i64 (badOf (parseB s)).snd, VV.one (V1.c (C.ptr 3 0 0)), i64 (badOf (parseB s)).fst,
 i64 (badOf (parseB s)).snd, VV.one (V1.c (C.ptr 5 0 0)), i64 ((↑z : Int) + (1 : Int)), i64 (↑z_1 : Int)] ++ anys 136) [Atom.bag y_2.fst, Atom.cells 57 [C.int .i64 (textsC (textC (16384 : Int) s) l)], Atom.arr
 Kd.rule (goodOf (parseB s)), Atom.cells 67 [C.slc 4 0 0 none], Atom.arr Kd.line [], Atom.cells 67 [C.slc 6 0 y_2.snd.length none], Atom.arr Kd.line y_2.snd])) (EndsAs 1 (ct_saysL s l b o c ob t φ) (boolv
 true) [Atom.bag y_2.fst, Atom.cells 57 [C.int .i64 (textsC (textC (16384 : Int) s) l)], Atom.arr Kd.rule (goodOf (parseB s)), Atom.cells 67 [C.slc 4 0 0 none], Atom.arr Kd.line [], Atom.cells 67 [C.slc
 6 0 y_2.snd.length none], Atom.arr Kd.line y_2.snd]))) (EndsAs 1 (ct_saysL s l b o c ob t φ) (boolv false) [Atom.bag y.fst, Atom.cells 57 [C.int .i64 (textsC (textC (16384 : Int) s) l)], Atom.arr Kd.rule
 (goodOf (parseB s))]))) (EndsAs 1 (ct_saysL s l b o c ob t φ) (boolv true) [Atom.bag φ, Atom.cells 57 [C.int .i64 (textsC (textC (16384 : Int) s) l)]])) := by kernel_rfl
theorem vc_saysLG (s : ByteArray) (l : List ByteArray) (b o c : Nat) (ob : Obj) (t : Tb) (φ : Bag KK) : evFn (tabSL t true l ob) (ann_says l.length) Tryd.f3 (ct_saysL s l b o c ob t φ) = ( i64ok (16384 : Int) ∧ Into (K := KK) 0 [] [] [i64 (16384 : Int)] [Atom.bag φ] [i64 (16384 : Int)] [] ∧ ∀ (y : Unit), True → (okN (16384 : Int) ∧ s.size ≤ 9223372036854775807) ∧ Into (K := KK) 0 [] [1]
 [VV.one (V1.c (C.ptr 1 0 0)), VV.one (V1.c (C.str s))] [Atom.bag φ, Atom.cells 57 [C.int .i64 (16384 : Int)]] [VV.one (V1.c (C.ptr 0 0 0)), VV.one (V1.c (C.str s))] [Atom.cells 57 [C.int .i64 (16384 :
 Int)]] ∧ ∀ (y : Unit), True → (okN (textC (16384 : Int) s) ∧ (l.length ≤ 9223372036854775807 ∧ ∀ (x : ByteArray), List.Mem x l → x.size ≤ 9223372036854775807) ∧ HasV φ b o Kd.str l ob) ∧ Into (K := KK)
 0 [] [0, 1] [VV.one (V1.c (C.ptr 1 0 0)), VV.one (V1.c (C.ls 9 b o l.length c))] [Atom.bag φ, Atom.cells 57 [C.int .i64 (textC (16384 : Int) s)]] [VV.one (V1.c (C.ptr 1 0 0)), VV.one (V1.c (C.ls 9 b o
 l.length c))] [Atom.bag φ, Atom.cells 57 [C.int .i64 (textC (16384 : Int) s)]] ∧ ∀ (y : Unit), True → True ∧ Into (K := KK) 0 [] [1] [VV.one (V1.c (C.ptr 1 0 0))] [Atom.bag φ, Atom.cells 57 [C.int .i64
 (textsC (textC (16384 : Int) s) l)]] [VV.one (V1.c (C.ptr 0 0 0))] [Atom.cells 57 [C.int .i64 (textsC (textC (16384 : Int) s) l)]] ∧ ∀ (y : Unit), True → ite2 (decide ((0 : Int) ≤ textsC (textC (16384
 : Int) s) l)) (ite2 (decide ((40 : Int) < (↑l.length : Int))) (EndsAs 1 (ct_saysL s l b o c ob t φ) (boolv true) [Atom.bag φ, Atom.cells 57 [C.int .i64 (textsC (textC (16384 : Int) s) l)]]) (s.size ≤ 1000000
 ∧ Into (K := KK) 0 [] [] [VV.one (V1.c (C.str s))] [Atom.bag φ, Atom.cells 57 [C.int .i64 (textsC (textC (16384 : Int) s) l)]] [VV.one (V1.c (C.str s))] [] ∧ ∀ (y : Unit), True → (s.size ≤ 1000000 ∧ HasT
 t φ ∧ isGood (parseB s) = true) ∧ Into (K := KK) 0 [] [0] [VV.one (V1.c (C.str s))] [Atom.bag φ, Atom.cells 57 [C.int .i64 (textsC (textC (16384 : Int) s) l)], Atom.arr Kd.rule (goodOf (parseB s))] [VV.one
 (V1.c (C.str s))] [Atom.bag φ] ∧ ∀ (y : Bag KK × List Ln), Ext φ y.fst ∧ (true = true → GoodL y.fst y.snd ∧ LL y.snd = goodOf (parseB s)) → ite2 (decide ((0 : Int) = (badOf (parseB s)).snd)) (ite2 (decide
 ((badOf (parseB s)).snd = (0 : Int))) (y.snd.length ≤ 1000 ∧ Into (K := KK) 0 [] [0, 3, 4] [VV.one (V1.c (C.ptr 3 0 0))] [Atom.bag y.fst, Atom.cells 57 [C.int .i64 (textsC (textC (16384 : Int) s) l)],
 Atom.arr Kd.rule (goodOf (parseB s)), Atom.cells 67 [C.slc 4 0 y.snd.length none], Atom.arr Kd.line y.snd] [VV.one (V1.c (C.ptr 1 0 0))] [Atom.bag y.fst, Atom.cells 67 [C.slc 2 0 y.snd.length none], Atom.arr
 Kd.line y.snd] ∧ ∀ (y_1 : Bag KK × List Ln), Ext y.fst y_1.fst ∧ GoodL y_1.fst y_1.snd ∧ LL y_1.snd = mirB (LL y.snd) → Enter 1 (inv_stay 13 3 ([VV.one (V1.c (C.str s)), VV.one (V1.c (C.ls 9 b o l.length
 c)), VV.any, VV.any, boolv false, VV.one (V1.c (C.ptr 1 0 0)), VV.one (V1.c (C.slc 2 0 (goodOf (parseB s)).length none)), i64 (badOf (parseB s)).fst, i64 (badOf (parseB s)).snd, VV.one (V1.c (C.ptr 3 0
 0)), i64 (0 : Int), i64 (0 : Int), VV.one (V1.c (C.ptr 5 0 0)), i64 (0 : Int), VV.any, VV.any, VV.any, VV.any, VV.any, VV.any, VV.any, VV.any, VV.one (V1.c (C.ptr 1 0 0)), VV.one (V1.c (C.ptr 1 0 0)),
 VV.one (V1.c (C.str s)), VV.tup [], VV.one (V1.c (C.ptr 1 0 0)), VV.one (V1.c (C.ls 9 b o l.length c)), VV.tup [], VV.one (V1.c (C.ptr 1 0 0)), boolv (decide ((0 : Int) ≤ textsC (textC (16384 : Int) s)
 l)), boolv false, boolv false, VV.one (V1.c (C.ls 9 b o l.length c)), i64 (↑l.length : Int), boolv false, boolv false, VV.tup [V1.c (C.slc 2 0 (goodOf (parseB s)).length none), V1.c (C.int .i64 (badOf
 (parseB s)).fst), V1.c (C.int .i64 (badOf (parseB s)).snd)], VV.one (V1.c (C.str s)), VV.tup [V1.c (C.slc 2 0 (goodOf (parseB s)).length none), V1.c (C.int .i64 (badOf (parseB s)).fst), V1.c (C.int .i64
 (badOf (parseB s)).snd)], VV.one (V1.c (C.slc 2 0 (goodOf (parseB s)).length none)), i64 (badOf (parseB s)).fst, i64 (badOf (parseB s)).snd, VV.tup [V1.c (C.ptr 3 0 0), V1.c (C.int .i64 (0 : Int)), V1.c
 (C.int .i64 (0 : Int))], VV.one (V1.c (C.str s)), VV.tup [V1.c (C.ptr 3 0 0), V1.c (C.int .i64 (0 : Int)), V1.c (C.int .i64 (0 : Int))], VV.one (V1.c (C.ptr 3 0 0)), i64 (0 : Int), i64 (0 : Int), i64 (0
 : Int), i64 (badOf (parseB s)).snd, boolv false, boolv false, VV.one (V1.c (C.ptr 3 0 0)), boolv true, i64 (badOf (parseB s)).snd, boolv true, boolv false, boolv false, VV.one (V1.c (C.ptr 3 0 0)), boolv
 false, VV.any, VV.one (V1.c (C.ptr 3 0 0)), VV.one (V1.c (C.ptr 5 0 0)), VV.one (V1.c (C.ptr 5 0 0)), boolv false] ++ anys 85) [Atom.bag y_1.fst, Atom.cells 57 [C.int .i64 (textsC (textC (16384 : Int)
 s) l)], Atom.arr Kd.rule (goodOf (parseB s)), Atom.cells 67 [C.slc 4 0 y.snd.length none], Atom.arr Kd.line y.snd, Atom.cells 67 [C.slc 6 0 y_1.snd.length none], Atom.arr Kd.line y_1.snd]) (fun (x : Nat)
 => True) ([VV.one (V1.c (C.str s)), VV.one (V1.c (C.ls 9 b o l.length c)), VV.any, VV.any, boolv false, VV.one (V1.c (C.ptr 1 0 0)), VV.one (V1.c (C.slc 2 0 (goodOf (parseB s)).length none)), i64 (badOf
 (parseB s)).fst, i64 (badOf (parseB s)).snd, VV.one (V1.c (C.ptr 3 0 0)), i64 (0 : Int), i64 (0 : Int), VV.one (V1.c (C.ptr 5 0 0)), i64 (0 : Int)] ++ anys 137) [Atom.bag y_1.fst, Atom.cells 57 [C.int
 .i64 (textsC (textC (16384 : Int) s) l)], Atom.arr Kd.rule (goodOf (parseB s)), Atom.cells 67 [C.slc 4 0 y.snd.length none], Atom.arr Kd.line y.snd, Atom.cells 67 [C.slc 6 0 y_1.snd.length none], Atom.arr
 Kd.line y_1.snd] ∧ ∀ (z : Nat), z ≤ 3 → ite2 (decide ((↑z : Int) < (3 : Int))) (Enter 1 (inv_stay 14 l.length ([VV.one (V1.c (C.str s)), VV.one (V1.c (C.ls 9 b o l.length c)), VV.any, VV.any, boolv false,
 VV.one (V1.c (C.ptr 1 0 0)), VV.one (V1.c (C.slc 2 0 (goodOf (parseB s)).length none)), i64 (badOf (parseB s)).fst, i64 (badOf (parseB s)).snd, VV.one (V1.c (C.ptr 3 0 0)), i64 (0 : Int), i64 (0 : Int),
 VV.one (V1.c (C.ptr 5 0 0)), i64 (↑z : Int), i64 (0 : Int), VV.any, VV.any, VV.any, VV.any, VV.any, VV.any, VV.any, VV.any, VV.any, VV.any, VV.any, VV.any, VV.any, VV.any, VV.any, VV.any, VV.any, VV.any,
 VV.any, VV.any, VV.any, VV.any, VV.any, VV.any, VV.any, VV.any, VV.any, VV.any, VV.any, VV.any, VV.any, VV.any, VV.any, VV.any, VV.any, VV.any, VV.any, VV.any, VV.any, VV.any, VV.any, VV.any, VV.any, VV.any,
 VV.any, VV.any, VV.any, VV.any, VV.any, VV.any, VV.any, i64 (↑z : Int), boolv true] ++ anys 83) [Atom.bag y_1.fst, Atom.cells 57 [C.int .i64 (textsC (textC (16384 : Int) s) l)], Atom.arr Kd.rule (goodOf
 (parseB s)), Atom.cells 67 [C.slc 4 0 y.snd.length none], Atom.arr Kd.line y.snd, Atom.cells 67 [C.slc 6 0 y_1.snd.length none], Atom.arr Kd.line y_1.snd]) (fun (x : Nat) => True) ([VV.one (V1.c (C.str
 s)), VV.one (V1.c (C.ls 9 b o l.length c)), VV.any, VV.any, boolv false, VV.one (V1.c (C.ptr 1 0 0)), VV.one (V1.c (C.slc 2 0 (goodOf (parseB s)).length none)), i64 (badOf (parseB s)).fst, i64 (badOf (parseB
 s)).snd, VV.one (V1.c (C.ptr 3 0 0)), i64 (0 : Int), i64 (0 : Int), VV.one (V1.c (C.ptr 5 0 0)), i64 (↑z : Int), i64 (0 : Int)] ++ anys 136) [Atom.bag y_1.fst, Atom.cells 57 [C.int .i64 (textsC (textC
 (16384 : Int) s) l)], Atom.arr Kd.rule (goodOf (parseB s)), Atom.cells 67 [C.slc 4 0 y.snd.length none], Atom.arr Kd.line y.snd, Atom.cells 67 [C.slc 6 0 y_1.snd.length none], Atom.arr Kd.line y_1.snd]
 ∧ ∀ (z_1 : Nat), z_1 ≤ l.length → ite2 (decide ((↑z_1 : Int) < (↑l.length : Int))) (((0 : Int) ≤ (↑z_1 : Int) ∧ (↑z_1 : Int) < (↑l.length : Int)) ∧ ∃ (xs : List (KK.α Kd.str)), ∃ (ob_1 : Obj), HasV y_1.fst
 b o Kd.str xs ob_1 ∧ (↑z_1 : Int).toNat < xs.length ∧ (GoodL y_1.fst y.snd ∧ ByteArray.size (rd xs (↑z_1 : Int).toNat (ByteArray.mk (#[]))) ≤ 1000000000 ∧ y.snd.length ≤ 1000) ∧ Into (K := KK) 0 [] [0,
 3, 4] [VV.one (V1.c (C.ptr 3 0 0)), VV.one (V1.c (C.str (rd xs (↑z_1 : Int).toNat (ByteArray.mk (#[])))))] [Atom.bag y_1.fst, Atom.cells 57 [C.int .i64 (textsC (textC (16384 : Int) s) l)], Atom.arr Kd.rule
 (goodOf (parseB s)), Atom.cells 67 [C.slc 4 0 y.snd.length none], Atom.arr Kd.line y.snd, Atom.cells 67 [C.slc 6 0 y_1.snd.length none], Atom.arr Kd.line y_1.snd] [VV.one (V1.c (C.ptr 1 0 0)), VV.one (V1.c
 (C.str (rd xs (↑z_1 : Int).toNat (ByteArray.mk (#[])))))] [Atom.bag y_1.fst, Atom.cells 67 [C.slc 2 0 y.snd.length none], Atom.arr Kd.line y.snd] ∧ ∀ (y_2 : Unit), True → (GoodL y_1.fst y_1.snd ∧ ByteArray.size
 (rd xs (↑z_1 : Int).toNat (ByteArray.mk (#[]))) ≤ 1000000000 ∧ y_1.snd.length ≤ 1000) ∧ Into (K := KK) 0 [] [0, 5, 6] [VV.one (V1.c (C.ptr 5 0 0)), VV.one (V1.c (C.str (rd xs (↑z_1 : Int).toNat (ByteArray.mk
 (#[])))))] [Atom.bag y_1.fst, Atom.cells 57 [C.int .i64 (textsC (textC (16384 : Int) s) l)], Atom.arr Kd.rule (goodOf (parseB s)), Atom.cells 67 [C.slc 4 0 y.snd.length none], Atom.arr Kd.line y.snd, Atom.cells
 67 [C.slc 6 0 y_1.snd.length none], Atom.arr Kd.line y_1.snd] [VV.one (V1.c (C.ptr 1 0 0)), VV.one (V1.c (C.str (rd xs (↑z_1 : Int).toNat (ByteArray.mk (#[])))))] [Atom.bag y_1.fst, Atom.cells 67 [C.slc
 2 0 y_1.snd.length none], Atom.arr Kd.line y_1.snd] ∧ ∀ (y_3 : Unit), True → (Fine (goodOf (parseB s)) ∧ ByteArray.size (rd xs (↑z_1 : Int).toNat (ByteArray.mk (#[]))) ≤ 999999) ∧ Into (K := KK) 0 [] [2]
 [VV.one (V1.c (C.slc 2 0 (goodOf (parseB s)).length none)), VV.one (V1.c (C.str (rd xs (↑z_1 : Int).toNat (ByteArray.mk (#[])))))] [Atom.bag y_1.fst, Atom.cells 57 [C.int .i64 (textsC (textC (16384 : Int)
 s) l)], Atom.arr Kd.rule (goodOf (parseB s)), Atom.cells 67 [C.slc 4 0 y.snd.length none], Atom.arr Kd.line y.snd, Atom.cells 67 [C.slc 6 0 y_1.snd.length none], Atom.arr Kd.line y_1.snd] [VV.one (V1.c
 (C.slc 0 0 (goodOf (parseB s)).length none)), VV.one (V1.c (C.str (rd xs (↑z_1 : Int).toNat (ByteArray.mk (#[])))))] [Atom.ro Kd.rule (goodOf (parseB s))] ∧ ∀ (y_4 : Unit), True → ite2 (decide ((whyB (LL
 y.snd) (rd xs (↑z_1 : Int).toNat (ByteArray.mk (#[])))).fst = (whyB (goodOf (parseB s)) (rd xs (↑z_1 : Int).toNat (ByteArray.mk (#[])))).fst)) (ite2 (decide ((whyB (LL y.snd) (rd xs (↑z_1 : Int).toNat
 (ByteArray.mk (#[])))).snd = (whyB (goodOf (parseB s)) (rd xs (↑z_1 : Int).toNat (ByteArray.mk (#[])))).snd)) (ite2 (decide ((whyB (LL y_1.snd) (rd xs (↑z_1 : Int).toNat (ByteArray.mk (#[])))).fst = (whyB
 (goodOf (parseB s)) (rd xs (↑z_1 : Int).toNat (ByteArray.mk (#[])))).fst)) (ite2 (decide ((whyB (LL y_1.snd) (rd xs (↑z_1 : Int).toNat (ByteArray.mk (#[])))).snd = (whyB (goodOf (parseB s)) (rd xs (↑z_1
 : Int).toNat (ByteArray.mk (#[])))).snd)) ((GoodL y_1.fst y.snd ∧ ByteArray.size (rd xs (↑z_1 : Int).toNat (ByteArray.mk (#[]))) ≤ 1000000000 ∧ y.snd.length ≤ 1000) ∧ Into (K := KK) 0 [] [0, 3, 4] [VV.one
 (V1.c (C.ptr 3 0 0)), VV.one (V1.c (C.str (rd xs (↑z_1 : Int).toNat (ByteArray.mk (#[])))))] [Atom.bag y_1.fst, Atom.cells 57 [C.int .i64 (textsC (textC (16384 : Int) s) l)], Atom.arr Kd.rule (goodOf (parseB
 s)), Atom.cells 67 [C.slc 4 0 y.snd.length none], Atom.arr Kd.line y.snd, Atom.cells 67 [C.slc 6 0 y_1.snd.length none], Atom.arr Kd.line y_1.snd] [VV.one (V1.c (C.ptr 1 0 0)), VV.one (V1.c (C.str (rd
 xs (↑z_1 : Int).toNat (ByteArray.mk (#[])))))] [Atom.bag y_1.fst, Atom.cells 67 [C.slc 2 0 y.snd.length none], Atom.arr Kd.line y.snd] ∧ ∀ (y_5 : Unit), True → (Fine (goodOf (parseB s)) ∧ ByteArray.size
 (rd xs (↑z_1 : Int).toNat (ByteArray.mk (#[]))) ≤ 999999) ∧ Into (K := KK) 0 [] [2] [VV.one (V1.c (C.slc 2 0 (goodOf (parseB s)).length none)), VV.one (V1.c (C.str (rd xs (↑z_1 : Int).toNat (ByteArray.mk
 (#[])))))] [Atom.bag y_1.fst, Atom.cells 57 [C.int .i64 (textsC (textC (16384 : Int) s) l)], Atom.arr Kd.rule (goodOf (parseB s)), Atom.cells 67 [C.slc 4 0 y.snd.length none], Atom.arr Kd.line y.snd, Atom.cells
 67 [C.slc 6 0 y_1.snd.length none], Atom.arr Kd.line y_1.snd] [VV.one (V1.c (C.slc 0 0 (goodOf (parseB s)).length none)), VV.one (V1.c (C.str (rd xs (↑z_1 : Int).toNat (ByteArray.mk (#[])))))] [Atom.ro
 Kd.rule (goodOf (parseB s))] ∧ ∀ (y_6 : Unit), True → ite2 (decide (skipB (LL y.snd) (rd xs (↑z_1 : Int).toNat (ByteArray.mk (#[]))) = skipB (goodOf (parseB s)) (rd xs (↑z_1 : Int).toNat (ByteArray.mk
 (#[]))))) ((GoodL y_1.fst y.snd ∧ ByteArray.size (rd xs (↑z_1 : Int).toNat (ByteArray.mk (#[]))) ≤ (1000000000 : Nat) ∧ y.snd.length ≤ (1000 : Nat)) ∧ Into (K := KK) 0 [] [0, 3, 4] [VV.one (V1.c (C.ptr
 (3 : Nat) (0 : Nat) (0 : Nat))), VV.one (V1.c (C.str (rd xs (↑z_1 : Int).toNat (ByteArray.mk (#[])))))] [Atom.bag y_1.fst, Atom.cells 57 [C.int .i64 (textsC (textC (16384 : Int) s) l)], Atom.arr Kd.rule
 (goodOf (parseB s)), Atom.cells 67 [C.slc (4 : Nat) (0 : Nat) y.snd.length none], Atom.arr Kd.line y.snd, Atom.cells 67 [C.slc (6 : Nat) (0 : Nat) y_1.snd.length none], Atom.arr Kd.line y_1.snd] [VV.one
 (V1.c (C.ptr (1 : Nat) (0 : Nat) (0 : Nat))), VV.one (V1.c (C.str (rd xs (↑z_1 : Int).toNat (ByteArray.mk (#[])))))] [Atom.bag y_1.fst, Atom.cells 67 [C.slc (2 : Nat) (0 : Nat) y.snd.length none], Atom.arr
 Kd.line y.snd] ∧ ∀ (y_7 : Unit), True → (Fine (goodOf (parseB s)) ∧ ByteArray.size (rd xs (↑z_1 : Int).toNat (ByteArray.mk (#[]))) ≤ (999999 : Nat)) ∧ Into (0 : Nat) [] [(2 : Nat)] [VV.one (V1.c (C.slc
 (2 : Nat) (0 : Nat) (goodOf (parseB s)).length none)), VV.one (V1.c (C.str (rd xs (↑z_1 : Int).toNat (ByteArray.mk (#[])))))] [Atom.bag y_1.fst, Atom.cells 57 [C.int .i64 (textsC (textC (16384 : Int) s)
 l)], Atom.arr Kd.rule (goodOf (parseB s)), Atom.cells 67 [C.slc (4 : Nat) (0 : Nat) y.snd.length none], Atom.arr Kd.line y.snd, Atom.cells 67 [C.slc (6 : Nat) (0 : Nat) y_1.snd.length none], Atom.arr Kd.line
 y_1.snd] [VV.one (V1.c (C.slc (0 : Nat) (0 : Nat) (goodOf (parseB s)).length none)), VV.one (V1.c (C.str (rd xs (↑z_1 : Int).toNat (ByteArray.mk (#[])))))] [Atom.ro Kd.rule (goodOf (parseB s))] ∧ ∀ (y_8
 : Unit), True → ite2 (decide (preferB (LL y.snd) (rd xs (↑z_1 : Int).toNat (ByteArray.mk (#[]))) = preferB (goodOf (parseB s)) (rd xs (↑z_1 : Int).toNat (ByteArray.mk (#[]))))) ((GoodL y_1.fst y_1.snd
 ∧ ByteArray.size (rd xs (↑z_1 : Int).toNat (ByteArray.mk (#[]))) ≤ (1000000000 : Nat) ∧ y_1.snd.length ≤ (1000 : Nat)) ∧ Into (0 : Nat) [] [(0 : Nat), (5 : Nat), (6 : Nat)] [VV.one (V1.c (C.ptr (5 : Nat)
 (0 : Nat) (0 : Nat))), VV.one (V1.c (C.str (rd xs (↑z_1 : Int).toNat (ByteArray.mk (#[])))))] [Atom.bag y_1.fst, Atom.cells 57 [C.int .i64 (textsC (textC (16384 : Int) s) l)], Atom.arr Kd.rule (goodOf
 (parseB s)), Atom.cells 67 [C.slc (4 : Nat) (0 : Nat) y.snd.length none], Atom.arr Kd.line y.snd, Atom.cells 67 [C.slc (6 : Nat) (0 : Nat) y_1.snd.length none], Atom.arr Kd.line y_1.snd] [VV.one (V1.c
 (C.ptr (1 : Nat) (0 : Nat) (0 : Nat))), VV.one (V1.c (C.str (rd xs (↑z_1 : Int).toNat (ByteArray.mk (#[])))))] [Atom.bag y_1.fst, Atom.cells 67 [C.slc (2 : Nat) (0 : Nat) y_1.snd.length none], Atom.arr
 Kd.line y_1.snd] ∧ ∀ (y_9 : Unit), True → (Fine (goodOf (parseB s)) ∧ ByteArray.size (rd xs (↑z_1 : Int).toNat (ByteArray.mk (#[]))) ≤ (999999 : Nat)) ∧ Into (0 : Nat) [] [(2 : Nat)] [VV.one (V1.c (C.slc
 (2 : Nat) (0 : Nat) (goodOf (parseB s)).length none)), VV.one (V1.c (C.str (rd xs (↑z_1 : Int).toNat (ByteArray.mk (#[])))))] [Atom.bag y_1.fst, Atom.cells 57 [C.int .i64 (textsC (textC (16384 : Int) s)
 l)], Atom.arr Kd.rule (goodOf (parseB s)), Atom.cells 67 [C.slc (4 : Nat) (0 : Nat) y.snd.length none], Atom.arr Kd.line y.snd, Atom.cells 67 [C.slc (6 : Nat) (0 : Nat) y_1.snd.length none], Atom.arr Kd.line
 y_1.snd] [VV.one (V1.c (C.slc (0 : Nat) (0 : Nat) (goodOf (parseB s)).length none)), VV.one (V1.c (C.str (rd xs (↑z_1 : Int).toNat (ByteArray.mk (#[])))))] [Atom.ro Kd.rule (goodOf (parseB s))] ∧ ∀ (y_10
 : Unit), True → ite2 (decide (skipB (LL y_1.snd) (rd xs (↑z_1 : Int).toNat (ByteArray.mk (#[]))) = skipB (goodOf (parseB s)) (rd xs (↑z_1 : Int).toNat (ByteArray.mk (#[]))))) ((GoodL y_1.fst y_1.snd ∧
 ByteArray.size (rd xs (↑z_1 : Int).toNat (ByteArray.mk (#[]))) ≤ (1000000000 : Nat) ∧ y_1.snd.length ≤ (1000 : Nat)) ∧ Into (0 : Nat) [] [(0 : Nat), (5 : Nat), (6 : Nat)] [VV.one (V1.c (C.ptr (5 : Nat)
 (0 : Nat) (0 : Nat))), VV.one (V1.c (C.str (rd xs (↑z_1 : Int).toNat (ByteArray.mk (#[])))))] [Atom.bag y_1.fst, Atom.cells 57 [C.int .i64 (textsC (textC (16384 : Int) s) l)], Atom.arr Kd.rule (goodOf
 (parseB s)), Atom.cells 67 [C.slc (4 : Nat) (0 : Nat) y.snd.length none], Atom.arr Kd.line y.snd, Atom.cells 67 [C.slc (6 : Nat) (0 : Nat) y_1.snd.length none], Atom.arr Kd.line y_1.snd] [VV.one (V1.c
 (C.ptr (1 : Nat) (0 : Nat) (0 : Nat))), VV.one (V1.c (C.str (rd xs (↑z_1 : Int).toNat (ByteArray.mk (#[])))))] [Atom.bag y_1.fst, Atom.cells 67 [C.slc (2 : Nat) (0 : Nat) y_1.snd.length none], Atom.arr
 Kd.line y_1.snd] ∧ ∀ (y_11 : Unit), True → (goodOf (parseB s)).length ≤ (1000 : Nat) ∧ Into (0 : Nat) [] [(2 : Nat)] [VV.one (V1.c (C.slc (2 : Nat) (0 : Nat) (goodOf (parseB s)).length none))] [Atom.bag
 y_1.fst, Atom.cells 57 [C.int .i64 (textsC (textC (16384 : Int) s) l)], Atom.arr Kd.rule (goodOf (parseB s)), Atom.cells 67 [C.slc (4 : Nat) (0 : Nat) y.snd.length none], Atom.arr Kd.line y.snd, Atom.cells
 67 [C.slc (6 : Nat) (0 : Nat) y_1.snd.length none], Atom.arr Kd.line y_1.snd] [VV.one (V1.c (C.slc (0 : Nat) (0 : Nat) (goodOf (parseB s)).length none))] [Atom.ro Kd.rule (goodOf (parseB s))] ∧ ∀ (y_12
 : Unit), True → (Fine (mirB (goodOf (parseB s))) ∧ ByteArray.size (rd xs (↑z_1 : Int).toNat (ByteArray.mk (#[]))) ≤ (999999 : Nat)) ∧ Into (0 : Nat) [] [(7 : Nat)] [VV.one (V1.c (C.slc (7 : Nat) (0 : Nat)
 (mirB (goodOf (parseB s))).length none)), VV.one (V1.c (C.str (rd xs (↑z_1 : Int).toNat (ByteArray.mk (#[])))))] [Atom.bag y_1.fst, Atom.cells 57 [C.int .i64 (textsC (textC (16384 : Int) s) l)], Atom.arr
 Kd.rule (goodOf (parseB s)), Atom.cells 67 [C.slc (4 : Nat) (0 : Nat) y.snd.length none], Atom.arr Kd.line y.snd, Atom.cells 67 [C.slc (6 : Nat) (0 : Nat) y_1.snd.length none], Atom.arr Kd.line y_1.snd,
 Atom.arr Kd.rule (mirB (goodOf (parseB s)))] [VV.one (V1.c (C.slc (0 : Nat) (0 : Nat) (mirB (goodOf (parseB s))).length none)), VV.one (V1.c (C.str (rd xs (↑z_1 : Int).toNat (ByteArray.mk (#[])))))] [Atom.ro
 Kd.rule (mirB (goodOf (parseB s)))] ∧ ∀ (y_13 : Unit), True → ite2 (decide (preferB (LL y_1.snd) (rd xs (↑z_1 : Int).toNat (ByteArray.mk (#[]))) = preferB (mirB (goodOf (parseB s))) (rd xs (↑z_1 : Int).toNat
 (ByteArray.mk (#[]))))) (i64ok ((↑z_1 : Int) + (1 : Int)) ∧ Enter (1 : Nat) (inv_stay (14 : Nat) l.length ([VV.one (V1.c (C.str s)), VV.one (V1.c (C.ls 9 b o l.length c)), VV.any, VV.any, VV.one (V1.c
 (C.bool false)), VV.one (V1.c (C.ptr (1 : Nat) (0 : Nat) (0 : Nat))), VV.one (V1.c (C.slc (2 : Nat) (0 : Nat) (goodOf (parseB s)).length none)), VV.one (V1.c (C.int .i64 (badOf (parseB s)).fst)), VV.one
 (V1.c (C.int .i64 (badOf (parseB s)).snd)), VV.one (V1.c (C.ptr (3 : Nat) (0 : Nat) (0 : Nat))), VV.one (V1.c (C.int .i64 (0 : Int))), VV.one (V1.c (C.int .i64 (0 : Int))), VV.one (V1.c (C.ptr (5 : Nat)
 (0 : Nat) (0 : Nat))), VV.one (V1.c (C.int .i64 (↑z : Int))), VV.one (V1.c (C.int .i64 (0 : Int))), VV.any, VV.any, VV.any, VV.any, VV.any, VV.any, VV.any, VV.any, VV.any, VV.any, VV.any, VV.any, VV.any,
 VV.any, VV.any, VV.any, VV.any, VV.any, VV.any, VV.any, VV.any, VV.any, VV.any, VV.any, VV.any, VV.any, VV.any, VV.any, VV.any, VV.any, VV.any, VV.any, VV.any, VV.any, VV.any, VV.any, VV.any, VV.any, VV.any,
 VV.any, VV.any, VV.any, VV.any, VV.any, VV.any, VV.any, VV.any, VV.any, VV.any, VV.any, VV.any, VV.one (V1.c (C.int .i64 (↑z : Int))), VV.one (V1.c (C.bool true))] ++ anys 83) [Atom.bag y_1.fst, Atom.cells
 57 [C.int .i64 (textsC (textC (16384 : Int) s) l)], Atom.arr Kd.rule (goodOf (parseB s)), Atom.cells 67 [C.slc (4 : Nat) (0 : Nat) y.snd.length none], Atom.arr Kd.line y.snd, Atom.cells 67 [C.slc (6 :
 Nat) (0 : Nat) y_1.snd.length none], Atom.arr Kd.line y_1.snd]) (fun (z' : Nat) => l.length - z' < l.length - z_1) ([VV.one (V1.c (C.str s)), VV.one (V1.c (C.ls 9 b o l.length c)), VV.any, VV.any, VV.one
 (V1.c (C.bool false)), VV.one (V1.c (C.ptr (1 : Nat) (0 : Nat) (0 : Nat))), VV.one (V1.c (C.slc (2 : Nat) (0 : Nat) (goodOf (parseB s)).length none)), VV.one (V1.c (C.int .i64 (badOf (parseB s)).fst)),
 VV.one (V1.c (C.int .i64 (badOf (parseB s)).snd)), VV.one (V1.c (C.ptr (3 : Nat) (0 : Nat) (0 : Nat))), VV.one (V1.c (C.int .i64 (0 : Int))), VV.one (V1.c (C.int .i64 (0 : Int))), VV.one (V1.c (C.ptr (5
 : Nat) (0 : Nat) (0 : Nat))), VV.one (V1.c (C.int .i64 (↑z : Int))), VV.one (V1.c (C.int .i64 ((↑z_1 : Int) + (1 : Int))))] ++ anys 136) [Atom.bag y_1.fst, Atom.cells 57 [C.int .i64 (textsC (textC (16384
 : Int) s) l)], Atom.arr Kd.rule (goodOf (parseB s)), Atom.cells 67 [C.slc (4 : Nat) (0 : Nat) y.snd.length none], Atom.arr Kd.line y.snd, Atom.cells 67 [C.slc (6 : Nat) (0 : Nat) y_1.snd.length none],
 Atom.arr Kd.line y_1.snd, Atom.arr Kd.rule (mirB (goodOf (parseB s)))]) (EndsAs (1 : Nat) (ct_saysL s l b o c ob t φ) (VV.one (V1.c (C.bool false))) [Atom.bag y_1.fst, Atom.cells 57 [C.int .i64 (textsC
 (textC (16384 : Int) s) l)], Atom.arr Kd.rule (goodOf (parseB s)), Atom.cells 67 [C.slc (4 : Nat) (0 : Nat) y.snd.length none], Atom.arr Kd.line y.snd, Atom.cells 67 [C.slc (6 : Nat) (0 : Nat) y_1.snd.length
 none], Atom.arr Kd.line y_1.snd, Atom.arr Kd.rule (mirB (goodOf (parseB s)))])) (EndsAs (1 : Nat) (ct_saysL s l b o c ob t φ) (VV.one (V1.c (C.bool false))) [Atom.bag y_1.fst, Atom.cells 57 [C.int .i64
 (textsC (textC (16384 : Int) s) l)], Atom.arr Kd.rule (goodOf (parseB s)), Atom.cells 67 [C.slc (4 : Nat) (0 : Nat) y.snd.length none], Atom.arr Kd.line y.snd, Atom.cells 67 [C.slc (6 : Nat) (0 : Nat)
 y_1.snd.length none], Atom.arr Kd.line y_1.snd])) (EndsAs (1 : Nat) (ct_saysL s l b o c ob t φ) (VV.one (V1.c (C.bool false))) [Atom.bag y_1.fst, Atom.cells 57 [C.int .i64 (textsC (textC (16384 : Int)
 s) l)], Atom.arr Kd.rule (goodOf (parseB s)), Atom.cells 67 [C.slc (4 : Nat) (0 : Nat) y.snd.length none], Atom.arr Kd.line y.snd, Atom.cells 67 [C.slc (6 : Nat) (0 : Nat) y_1.snd.length none], Atom.arr
 Kd.line y_1.snd])) (EndsAs 1 (ct_saysL s l b o c ob t φ) (VV.one (V1.c (C.bool false))) [Atom.bag y_1.fst, Atom.cells 57 [C.int .i64 (textsC (textC (16384 : Int) s) l)], Atom.arr Kd.rule (goodOf (parseB
 s)), Atom.cells 67 [C.slc (4 : Nat) (0 : Nat) y.snd.length none], Atom.arr Kd.line y.snd, Atom.cells 67 [C.slc (6 : Nat) (0 : Nat) y_1.snd.length none], Atom.arr Kd.line y_1.snd])) (EndsAs 1 (ct_saysL
 s l b o c ob t φ) (boolv false) [Atom.bag y_1.fst, Atom.cells 57 [C.int .i64 (textsC (textC (16384 : Int) s) l)], Atom.arr Kd.rule (goodOf (parseB s)), Atom.cells 67 [C.slc 4 0 y.snd.length none], Atom.arr
 Kd.line y.snd, Atom.cells 67 [C.slc 6 0 y_1.snd.length none], Atom.arr Kd.line y_1.snd])) (EndsAs 1 (ct_saysL s l b o c ob t φ) (boolv false) [Atom.bag y_1.fst, Atom.cells 57 [C.int .i64 (textsC (textC
 (16384 : Int) s) l)], Atom.arr Kd.rule (goodOf (parseB s)), Atom.cells 67 [C.slc 4 0 y.snd.length none], Atom.arr Kd.line y.snd, Atom.cells 67 [C.slc 6 0 y_1.snd.length none], Atom.arr Kd.line y_1.snd]))
 (EndsAs 1 (ct_saysL s l b o c ob t φ) (boolv false) [Atom.bag y_1.fst, Atom.cells 57 [C.int .i64 (textsC (textC (16384 : Int) s) l)], Atom.arr Kd.rule (goodOf (parseB s)), Atom.cells 67 [C.slc 4 0 y.snd.length
 none], Atom.arr Kd.line y.snd, Atom.cells 67 [C.slc 6 0 y_1.snd.length none], Atom.arr Kd.line y_1.snd])) (EndsAs 1 (ct_saysL s l b o c ob t φ) (boolv false) [Atom.bag y_1.fst, Atom.cells 57 [C.int .i64
 (textsC (textC (16384 : Int) s) l)], Atom.arr Kd.rule (goodOf (parseB s)), Atom.cells 67 [C.slc 4 0 y.snd.length none], Atom.arr Kd.line y.snd, Atom.cells 67 [C.slc 6 0 y_1.snd.length none], Atom.arr Kd.line
 y_1.snd])) (i64ok ((↑z : Int) + (1 : Int)) ∧ Enter 1 (inv_stay 13 3 ([VV.one (V1.c (C.str s)), VV.one (V1.c (C.ls 9 b o l.length c)), VV.any, VV.any, boolv false, VV.one (V1.c (C.ptr 1 0 0)), VV.one (V1.c
 (C.slc 2 0 (goodOf (parseB s)).length none)), i64 (badOf (parseB s)).fst, i64 (badOf (parseB s)).snd, VV.one (V1.c (C.ptr 3 0 0)), i64 (0 : Int), i64 (0 : Int), VV.one (V1.c (C.ptr 5 0 0)), i64 (0 : Int),
 VV.any, VV.any, VV.any, VV.any, VV.any, VV.any, VV.any, VV.any, VV.one (V1.c (C.ptr 1 0 0)), VV.one (V1.c (C.ptr 1 0 0)), VV.one (V1.c (C.str s)), VV.tup [], VV.one (V1.c (C.ptr 1 0 0)), VV.one (V1.c (C.ls
 9 b o l.length c)), VV.tup [], VV.one (V1.c (C.ptr 1 0 0)), VV.one (V1.c (C.bool (decide ((0 : Int) ≤ textsC (textC (16384 : Int) s) l)))), boolv false, boolv false, VV.one (V1.c (C.ls 9 b o l.length c)),
 i64 (↑l.length : Int), boolv false, boolv false, VV.tup [V1.c (C.slc 2 0 (goodOf (parseB s)).length none), V1.c (C.int .i64 (badOf (parseB s)).fst), V1.c (C.int .i64 (badOf (parseB s)).snd)], VV.one (V1.c
 (C.str s)), VV.tup [V1.c (C.slc 2 0 (goodOf (parseB s)).length none), V1.c (C.int .i64 (badOf (parseB s)).fst), V1.c (C.int .i64 (badOf (parseB s)).snd)], VV.one (V1.c (C.slc 2 0 (goodOf (parseB s)).length
 none)), i64 (badOf (parseB s)).fst, i64 (badOf (parseB s)).snd, VV.tup [V1.c (C.ptr 3 0 0), V1.c (C.int .i64 (0 : Int)), V1.c (C.int .i64 (0 : Int))], VV.one (V1.c (C.str s)), VV.tup [V1.c (C.ptr 3 0 0),
 V1.c (C.int .i64 (0 : Int)), V1.c (C.int .i64 (0 : Int))], VV.one (V1.c (C.ptr 3 0 0)), i64 (0 : Int), i64 (0 : Int), i64 (0 : Int), i64 (badOf (parseB s)).snd, boolv false, boolv false, VV.one (V1.c (C.ptr
 3 0 0)), boolv true, i64 (badOf (parseB s)).snd, boolv true, boolv false, boolv false, VV.one (V1.c (C.ptr 3 0 0)), boolv false, VV.any, VV.one (V1.c (C.ptr 3 0 0)), VV.one (V1.c (C.ptr 5 0 0)), VV.one
 (V1.c (C.ptr 5 0 0)), boolv false] ++ anys 85) [Atom.bag y_1.fst, Atom.cells 57 [C.int .i64 (textsC (textC (16384 : Int) s) l)], Atom.arr Kd.rule (goodOf (parseB s)), Atom.cells 67 [C.slc 4 0 y.snd.length
 none], Atom.arr Kd.line y.snd, Atom.cells 67 [C.slc 6 0 y_1.snd.length none], Atom.arr Kd.line y_1.snd]) (fun (z' : Nat) => 3 - z' < 3 - z) ([VV.one (V1.c (C.str s)), VV.one (V1.c (C.ls 9 b o l.length
 c)), VV.any, VV.any, boolv false, VV.one (V1.c (C.ptr 1 0 0)), VV.one (V1.c (C.slc 2 0 (goodOf (parseB s)).length none)), i64 (badOf (parseB s)).fst, i64 (badOf (parseB s)).snd, VV.one (V1.c (C.ptr 3 0
 0)), i64 (0 : Int), i64 (0 : Int), VV.one (V1.c (C.ptr 5 0 0)), i64 ((↑z : Int) + (1 : Int)), i64 (↑z_1 : Int)] ++ anys 136) [Atom.bag y_1.fst, Atom.cells 57 [C.int .i64 (textsC (textC (16384 : Int) s)
 l)], Atom.arr Kd.rule (goodOf (parseB s)), Atom.cells 67 [C.slc 4 0 y.snd.length none], Atom.arr Kd.line y.snd, Atom.cells 67 [C.slc 6 0 y_1.snd.length none], Atom.arr Kd.line y_1.snd])) (EndsAs 1 (ct_saysL
 s l b o c ob t φ) (boolv true) [Atom.bag y_1.fst, Atom.cells 57 [C.int .i64 (textsC (textC (16384 : Int) s) l)], Atom.arr Kd.rule (goodOf (parseB s)), Atom.cells 67 [C.slc 4 0 y.snd.length none], Atom.arr
 Kd.line y.snd, Atom.cells 67 [C.slc 6 0 y_1.snd.length none], Atom.arr Kd.line y_1.snd])) (EndsAs 1 (ct_saysL s l b o c ob t φ) (boolv false) [Atom.bag y.fst, Atom.cells 57 [C.int .i64 (textsC (textC (16384
 : Int) s) l)], Atom.arr Kd.rule (goodOf (parseB s)), Atom.cells 67 [C.slc 4 0 y.snd.length none], Atom.arr Kd.line y.snd])) (EndsAs 1 (ct_saysL s l b o c ob t φ) (boolv false) [Atom.bag y.fst, Atom.cells
 57 [C.int .i64 (textsC (textC (16384 : Int) s) l)], Atom.arr Kd.rule (goodOf (parseB s)), Atom.cells 67 [C.slc 4 0 y.snd.length none], Atom.arr Kd.line y.snd]))) (EndsAs 1 (ct_saysL s l b o c ob t φ) (boolv
 true) [Atom.bag φ, Atom.cells 57 [C.int .i64 (textsC (textC (16384 : Int) s) l)]])) := by kernel_rfl
theorem saysL_okG (s : ByteArray) (l : List ByteArray) (b o c : Nat) (ob : Obj) (t : Tb) (φ : Bag KK) (hg : isGood (parseB s) = true) : CtOk Tryd.prog 3 (ct_saysL s l b o c ob t φ) := CtOk_of KK_ok (tabSL t true l ob) (ann_says l.length) (fn := Tryd.f3) rfl (fun _ _ => rfl) fun hn => by
  obtain ⟨hT, hV, hs, hl, hx⟩ := hn
  have fin : ∀ (ψ : Bag KK) (A : VH KK), Ext φ ψ → EndsAs 1 (ct_saysL s l b o c ob t φ) (boolv true) (.bag ψ :: A) := fun ψ A hE => ⟨ψ, [], [0], hE, by (repeat' first | exact trivial | exact rfl | apply And.intro)⟩
  rw [vc_saysLG]
  refine ⟨by unfold i64ok; omega, into_mk (by kernel_rfl) (by (repeat' first | exact trivial | exact rfl | apply And.intro)) (by (repeat' first | exact trivial | exact rfl | apply And.intro)), fun _ _ => ⟨⟨n16, hs⟩, into_mk (by kernel_rfl) (by (repeat' first | exact trivial | exact rfl | apply And.intro)) (by (repeat' first | exact trivial | exact rfl | apply And.intro)), fun _ _ => ⟨⟨(textC_ok n16 hs).1, ⟨hl, hx⟩, hV⟩, into_mk (by kernel_rfl) (by (repeat' first | exact trivial | exact rfl | apply And.intro)) (by (repeat' first | exact trivial | exact rfl | apply And.intro)), fun _ _ => ⟨trivial, into_mk (by kernel_rfl) (by (repeat' first | exact trivial | exact rfl | apply And.intro)) (by (repeat' first | exact trivial | exact rfl | apply And.intro)), fun _ _ => ite2_decide (fun h1 => ite2_decide (fun h2 => fin _ _ (Ext.refl _)) (fun h2 => ?_)) (fun h1 => fin _ _ (Ext.refl _))⟩⟩⟩⟩
  have hxs := texts_le l _ h1
  have hts : 0 ≤ textC 16384 s := by
    by_cases e : 0 ≤ textC 16384 s
    · exact e
    · rw [texts_neg l _ e] at h1; exact h1
  have hss := textC_le hts
  have htl := (textC_ok n16 hs).2
  have hsz : ∀ i, i < l.length → (rd l i (ByteArray.mk #[])).size ≤ 16384 := fun i hi => by
    have := hxs _ (rd_inB l i (ByteArray.mk #[]) hi)
    omega
  refine ⟨by omega, into_mk (by kernel_rfl) (by (repeat' first | exact trivial | exact rfl | apply And.intro)) (by (repeat' first | exact trivial | exact rfl | apply And.intro)), fun _ _ => ⟨⟨by omega, hT, hg⟩, into_mk (by kernel_rfl) (by (repeat' first | exact trivial | exact rfl | apply And.intro)) (by (repeat' first | exact trivial | exact rfl | apply And.intro)), ?_⟩⟩
  rintro ⟨ψ, ys⟩ ⟨hE, hG⟩
  obtain ⟨hG, hL⟩ := hG rfl
  dsimp only at hE hG hL ⊢
  have hp := good_of hg
  obtain ⟨hw, h64, hsum, h4⟩ := parse_good hp
  obtain ⟨f1, f2⟩ := fine_of hw h64 hsum (by omega)
  have he : (badOf (parseB s)).2 = 0 := by rw [hp]; rfl
  have hly : ys.length ≤ 64 := by rw [← LL_len, hL]; exact h64
  refine ite2_decide (fun _ => ite2_decide (fun _ => ?_) (fun h => absurd he h)) (fun h => absurd he.symm h)
  refine ⟨by omega, into_mk (by kernel_rfl) (by (repeat' first | exact trivial | exact rfl | apply And.intro)) (by (repeat' first | exact trivial | exact rfl | apply And.intro)), ?_⟩
  rintro ⟨χ, zs⟩ ⟨hE2, hG2, hL2⟩
  dsimp only at hE2 hG2 hL2 ⊢
  have hlz : zs.length ≤ 64 := by rw [← LL_len, hL2]; unfold mirB; rw [List.length_map, LL_len]; exact hly
  have hGy := hG.ext hE2
  have hEE := hE.trans hE2
  refine ⟨⟨(0 : Nat), [], [0, 1, 2, 3, 4, 5, 6], Nat.zero_le _, trivial, into_mk (by kernel_rfl) (by (repeat' first | exact trivial | exact rfl | apply And.intro)) (by (repeat' first | exact trivial | exact rfl | apply And.intro))⟩, ?_⟩
  intro n hn
  have hn : n ≤ 3 := hn
  refine ite2_decide (fun hl3 => ?_) (fun _ => fin _ _ hEE)
  refine ⟨⟨(0 : Nat), [], [0, 1, 2, 3, 4, 5, 6], Nat.zero_le _, trivial, into_mk (by kernel_rfl) (by (repeat' first | exact trivial | exact rfl | apply And.intro)) (by (repeat' first | exact trivial | exact rfl | apply And.intro))⟩, ?_⟩
  intro i hi
  have hi : i ≤ l.length := hi
  simp only [Int.toNat_natCast]
  refine ite2_decide (fun hil => ?_) (fun hil => ?_)
  · have hi1 : i < l.length := by omega
    have hr := hsz i hi1
    refine ⟨⟨by omega, hil⟩, l, ob, HasV.ext' hV hEE, hi1, ⟨hGy, by omega, by omega⟩, into_mk (by kernel_rfl) (by (repeat' first | exact trivial | exact rfl | apply And.intro)) (by (repeat' first | exact trivial | exact rfl | apply And.intro)), fun _ _ => ⟨⟨hG2, by omega, by omega⟩, into_mk (by kernel_rfl) (by (repeat' first | exact trivial | exact rfl | apply And.intro)) (by (repeat' first | exact trivial | exact rfl | apply And.intro)), fun _ _ => ⟨⟨f1, by omega⟩, into_mk (by kernel_rfl) (by (repeat' first | exact trivial | exact rfl | apply And.intro)) (by (repeat' first | exact trivial | exact rfl | apply And.intro)), fun _ _ => ite2_decide (fun _ => ite2_decide (fun _ => ite2_decide (fun _ => ite2_decide (fun _ => ?_) (fun h => absurd (by rw [hL2, why_mir, hL]) h)) (fun h => absurd (by rw [hL2, why_mir, hL]) h)) (fun h => absurd (by rw [hL]) h)) (fun h => absurd (by rw [hL]) h)⟩⟩⟩
    refine ⟨⟨hGy, by omega, by omega⟩, into_mk (by kernel_rfl) (by (repeat' first | exact trivial | exact rfl | apply And.intro)) (by (repeat' first | exact trivial | exact rfl | apply And.intro)), fun _ _ => ⟨⟨f1, by omega⟩, into_mk (by kernel_rfl) (by (repeat' first | exact trivial | exact rfl | apply And.intro)) (by (repeat' first | exact trivial | exact rfl | apply And.intro)), fun _ _ => ite2_decide (fun _ => ?_) (fun h => absurd (by rw [hL]) h)⟩⟩
    refine ⟨⟨hGy, by omega, by omega⟩, into_mk (by kernel_rfl) (by (repeat' first | exact trivial | exact rfl | apply And.intro)) (by (repeat' first | exact trivial | exact rfl | apply And.intro)), fun _ _ => ⟨⟨f1, by omega⟩, into_mk (by kernel_rfl) (by (repeat' first | exact trivial | exact rfl | apply And.intro)) (by (repeat' first | exact trivial | exact rfl | apply And.intro)), fun _ _ => ite2_decide (fun _ => ?_) (fun h => absurd (by rw [hL]) h)⟩⟩
    refine ⟨⟨hG2, by omega, by omega⟩, into_mk (by kernel_rfl) (by (repeat' first | exact trivial | exact rfl | apply And.intro)) (by (repeat' first | exact trivial | exact rfl | apply And.intro)), fun _ _ => ⟨⟨f1, by omega⟩, into_mk (by kernel_rfl) (by (repeat' first | exact trivial | exact rfl | apply And.intro)) (by (repeat' first | exact trivial | exact rfl | apply And.intro)), fun _ _ => ite2_decide (fun _ => ?_) (fun h => absurd (by rw [hL2, skip_mir, hL]) h)⟩⟩
    refine ⟨⟨hG2, by omega, by omega⟩, into_mk (by kernel_rfl) (by (repeat' first | exact trivial | exact rfl | apply And.intro)) (by (repeat' first | exact trivial | exact rfl | apply And.intro)), fun _ _ => ⟨f1.1, into_mk (by kernel_rfl) (by (repeat' first | exact trivial | exact rfl | apply And.intro)) (by (repeat' first | exact trivial | exact rfl | apply And.intro)), fun _ _ => ⟨⟨f2, by omega⟩, into_mk (by kernel_rfl) (by (repeat' first | exact trivial | exact rfl | apply And.intro)) (by (repeat' first | exact trivial | exact rfl | apply And.intro)), fun _ _ => ite2_decide (fun _ => ?_) (fun h => absurd (by rw [hL2, hL]) h)⟩⟩⟩
    exact ⟨by unfold i64ok; omega, (i + 1 : Nat), [], [0, 1, 2, 3, 4, 5, 6], hi1, (show l.length - (i + 1) < l.length - i by omega), into_mk (by kernel_rfl) (by (repeat' first | exact trivial | exact rfl | apply And.intro)) (by (repeat' first | exact trivial | exact rfl | apply And.intro))⟩
  · exact ⟨by unfold i64ok; omega, (n + 1 : Nat), [], [0, 1, 2, 3, 4, 5, 6], (show n + 1 ≤ 3 by omega), (show 3 - (n + 1) < 3 - n by omega), into_mk (by kernel_rfl) (by (repeat' first | exact trivial | exact rfl | apply And.intro)) (by (repeat' first | exact trivial | exact rfl | apply And.intro))⟩
theorem saysL_okB (s : ByteArray) (l : List ByteArray) (b o c : Nat) (ob : Obj) (t : Tb) (φ : Bag KK) (hg : isGood (parseB s) = false) : CtOk Tryd.prog 3 (ct_saysL s l b o c ob t φ) := CtOk_of KK_ok (tabSL t false l ob) (ann_says l.length) (fn := Tryd.f3) rfl (fun _ _ => rfl) fun hn => by
  obtain ⟨hT, hV, hs, hl, hx⟩ := hn
  have fin : ∀ (ψ : Bag KK) (A : VH KK), Ext φ ψ → EndsAs 1 (ct_saysL s l b o c ob t φ) (boolv true) (.bag ψ :: A) := fun ψ A hE => ⟨ψ, [], [0], hE, by (repeat' first | exact trivial | exact rfl | apply And.intro)⟩
  rw [vc_saysLB]
  refine ⟨by unfold i64ok; omega, into_mk (by kernel_rfl) (by (repeat' first | exact trivial | exact rfl | apply And.intro)) (by (repeat' first | exact trivial | exact rfl | apply And.intro)), fun _ _ => ⟨⟨n16, hs⟩, into_mk (by kernel_rfl) (by (repeat' first | exact trivial | exact rfl | apply And.intro)) (by (repeat' first | exact trivial | exact rfl | apply And.intro)), fun _ _ => ⟨⟨(textC_ok n16 hs).1, ⟨hl, hx⟩, hV⟩, into_mk (by kernel_rfl) (by (repeat' first | exact trivial | exact rfl | apply And.intro)) (by (repeat' first | exact trivial | exact rfl | apply And.intro)), fun _ _ => ⟨trivial, into_mk (by kernel_rfl) (by (repeat' first | exact trivial | exact rfl | apply And.intro)) (by (repeat' first | exact trivial | exact rfl | apply And.intro)), fun _ _ => ite2_decide (fun h1 => ite2_decide (fun h2 => fin _ _ (Ext.refl _)) (fun h2 => ?_)) (fun h1 => fin _ _ (Ext.refl _))⟩⟩⟩⟩
  have hxs := texts_le l _ h1
  have hts : 0 ≤ textC 16384 s := by
    by_cases e : 0 ≤ textC 16384 s
    · exact e
    · rw [texts_neg l _ e] at h1; exact h1
  have hss := textC_le hts
  have htl := (textC_ok n16 hs).2
  have hsz : ∀ i, i < l.length → (rd l i (ByteArray.mk #[])).size ≤ 16384 := fun i hi => by
    have := hxs _ (rd_inB l i (ByteArray.mk #[]) hi)
    omega
  refine ⟨by omega, into_mk (by kernel_rfl) (by (repeat' first | exact trivial | exact rfl | apply And.intro)) (by (repeat' first | exact trivial | exact rfl | apply And.intro)), fun _ _ => ⟨⟨by omega, hT, hg⟩, into_mk (by kernel_rfl) (by (repeat' first | exact trivial | exact rfl | apply And.intro)) (by (repeat' first | exact trivial | exact rfl | apply And.intro)), ?_⟩⟩
  rintro ⟨ψ, ys⟩ ⟨hE, _⟩
  dsimp only at hE ⊢
  have he : (badOf (parseB s)).2 ≠ 0 := bad_ne hg
  have hL : LL [] = goodOf (parseB s) := by
    cases hp : parseB s with
    | good l => rw [hp] at hg; cases hg
    | bad k e => rfl
  have f1 : Fine (goodOf (parseB s)) := by rw [← hL]; exact ⟨Nat.zero_le _, fun r hr => by cases hr⟩
  have f2 : Fine (mirB (goodOf (parseB s))) := by rw [← hL]; exact ⟨Nat.zero_le _, fun r hr => by cases hr⟩
  refine ite2_decide (fun _ => ite2_decide (fun h => absurd h he) (fun _ => ?_)) (fun h => absurd rfl h)
  refine ⟨trivial, into_mk (by kernel_rfl) (by (repeat' first | exact trivial | exact rfl | apply And.intro)) (by (repeat' first | exact trivial | exact rfl | apply And.intro)), fun _ _ => ⟨by omega, into_mk (by kernel_rfl) (by (repeat' first | exact trivial | exact rfl | apply And.intro)) (by (repeat' first | exact trivial | exact rfl | apply And.intro)), ?_⟩⟩
  rintro ⟨χ, zs⟩ ⟨hE2, hG2, hL2⟩
  dsimp only at hE2 hG2 hL2 ⊢
  have hlz : zs.length ≤ 64 := by rw [← LL_len, hL2]; exact Nat.zero_le _
  have hGy : GoodL χ [] := fun x hx => by cases hx
  have hEE := hE.trans hE2
  refine ⟨⟨(0 : Nat), [], [0, 1, 2, 3, 4, 5, 6], Nat.zero_le _, trivial, into_mk (by kernel_rfl) (by (repeat' first | exact trivial | exact rfl | apply And.intro)) (by (repeat' first | exact trivial | exact rfl | apply And.intro))⟩, ?_⟩
  intro n hn
  have hn : n ≤ 3 := hn
  refine ite2_decide (fun hl3 => ?_) (fun _ => fin _ _ hEE)
  refine ⟨⟨(0 : Nat), [], [0, 1, 2, 3, 4, 5, 6], Nat.zero_le _, trivial, into_mk (by kernel_rfl) (by (repeat' first | exact trivial | exact rfl | apply And.intro)) (by (repeat' first | exact trivial | exact rfl | apply And.intro))⟩, ?_⟩
  intro i hi
  have hi : i ≤ l.length := hi
  simp only [Int.toNat_natCast]
  refine ite2_decide (fun hil => ?_) (fun hil => ?_)
  · have hi1 : i < l.length := by omega
    have hr := hsz i hi1
    refine ⟨⟨by omega, hil⟩, l, ob, HasV.ext' hV hEE, hi1, ⟨hGy, by omega, by omega⟩, into_mk (by kernel_rfl) (by (repeat' first | exact trivial | exact rfl | apply And.intro)) (by (repeat' first | exact trivial | exact rfl | apply And.intro)), fun _ _ => ⟨⟨hG2, by omega, by omega⟩, into_mk (by kernel_rfl) (by (repeat' first | exact trivial | exact rfl | apply And.intro)) (by (repeat' first | exact trivial | exact rfl | apply And.intro)), fun _ _ => ⟨⟨f1, by omega⟩, into_mk (by kernel_rfl) (by (repeat' first | exact trivial | exact rfl | apply And.intro)) (by (repeat' first | exact trivial | exact rfl | apply And.intro)), fun _ _ => ite2_decide (fun _ => ite2_decide (fun _ => ite2_decide (fun _ => ite2_decide (fun _ => ?_) (fun h => absurd (by rw [hL2, why_mir, hL]) h)) (fun h => absurd (by rw [hL2, why_mir, hL]) h)) (fun h => absurd (by rw [hL]) h)) (fun h => absurd (by rw [hL]) h)⟩⟩⟩
    refine ⟨⟨hGy, by omega, by omega⟩, into_mk (by kernel_rfl) (by (repeat' first | exact trivial | exact rfl | apply And.intro)) (by (repeat' first | exact trivial | exact rfl | apply And.intro)), fun _ _ => ⟨⟨f1, by omega⟩, into_mk (by kernel_rfl) (by (repeat' first | exact trivial | exact rfl | apply And.intro)) (by (repeat' first | exact trivial | exact rfl | apply And.intro)), fun _ _ => ite2_decide (fun _ => ?_) (fun h => absurd (by rw [hL]) h)⟩⟩
    refine ⟨⟨hGy, by omega, by omega⟩, into_mk (by kernel_rfl) (by (repeat' first | exact trivial | exact rfl | apply And.intro)) (by (repeat' first | exact trivial | exact rfl | apply And.intro)), fun _ _ => ⟨⟨f1, by omega⟩, into_mk (by kernel_rfl) (by (repeat' first | exact trivial | exact rfl | apply And.intro)) (by (repeat' first | exact trivial | exact rfl | apply And.intro)), fun _ _ => ite2_decide (fun _ => ?_) (fun h => absurd (by rw [hL]) h)⟩⟩
    refine ⟨⟨hG2, by omega, by omega⟩, into_mk (by kernel_rfl) (by (repeat' first | exact trivial | exact rfl | apply And.intro)) (by (repeat' first | exact trivial | exact rfl | apply And.intro)), fun _ _ => ⟨⟨f1, by omega⟩, into_mk (by kernel_rfl) (by (repeat' first | exact trivial | exact rfl | apply And.intro)) (by (repeat' first | exact trivial | exact rfl | apply And.intro)), fun _ _ => ite2_decide (fun _ => ?_) (fun h => absurd (by rw [hL2, skip_mir, hL]) h)⟩⟩
    refine ⟨⟨hG2, by omega, by omega⟩, into_mk (by kernel_rfl) (by (repeat' first | exact trivial | exact rfl | apply And.intro)) (by (repeat' first | exact trivial | exact rfl | apply And.intro)), fun _ _ => ⟨f1.1, into_mk (by kernel_rfl) (by (repeat' first | exact trivial | exact rfl | apply And.intro)) (by (repeat' first | exact trivial | exact rfl | apply And.intro)), fun _ _ => ⟨⟨f2, by omega⟩, into_mk (by kernel_rfl) (by (repeat' first | exact trivial | exact rfl | apply And.intro)) (by (repeat' first | exact trivial | exact rfl | apply And.intro)), fun _ _ => ite2_decide (fun _ => ?_) (fun h => absurd (by rw [hL2, hL]) h)⟩⟩⟩
    exact ⟨by unfold i64ok; omega, (i + 1 : Nat), [], [0, 1, 2, 3, 4, 5, 6], hi1, (show l.length - (i + 1) < l.length - i by omega), into_mk (by kernel_rfl) (by (repeat' first | exact trivial | exact rfl | apply And.intro)) (by (repeat' first | exact trivial | exact rfl | apply And.intro))⟩
  · exact ⟨by unfold i64ok; omega, (n + 1 : Nat), [], [0, 1, 2, 3, 4, 5, 6], (show n + 1 ≤ 3 by omega), (show 3 - (n + 1) < 3 - n by omega), into_mk (by kernel_rfl) (by (repeat' first | exact trivial | exact rfl | apply And.intro)) (by (repeat' first | exact trivial | exact rfl | apply And.intro))⟩
theorem saysL_ok (s : ByteArray) (l : List ByteArray) (b o c : Nat) (ob : Obj) (t : Tb) (φ : Bag KK) : CtOk Tryd.prog 3 (ct_saysL s l b o c ob t φ) := by
  cases hg : isGood (parseB s) with
  | true => exact saysL_okG s l b o c ob t φ hg
  | false => exact saysL_okB s l b o c ob t φ hg
end Go.Proofs.YtoidibkcdkdneaaDoor.T
end
