/- Text 23 of 26 texts that prove the statement of RowParses; it holds without conditions beyond the statement's own. -/
import Derived.Laws.AppendOwn
import Derived.Laws.OwnMore
import Derived.Deep.MidRow
import Derived.Calls
import Derived.Deep.AppendSrc
import Derived.Maps.AppendAt
import Derived.IntWalk
import Derived.Tactics
import Derived.Laws.StructEq
import Derived.Orders
import Derived.Scope
import Derived.Deep.LoopGhost
import GoSem.Core.Utf8
import Derived.Laws.RangeAny
import Derived.Below
import Derived.Deep.Draws
import Derived.Deep.AppendLies
import Derived.OwnWalk
import Derived.Laws.BytesArg
import Derived.Laws.MakeOwn
import Derived.Deep.OwnRows
import Derived.Lib.ConvBytes
import Derived.Laws.Slices
import Derived.WalkKit
import Derived.KernelRfl
import Derived.RowKit3
import Derived.Deep.QuietTactic
import Derived.BigQuiet
import Derived.WideLaws
import Derived.Deep.DeepCutAuto
import Derived.Deep.CutBlock
import Derived.Deep.RegionHeld3
import Derived.Laws.Rows
import Derived.Lib.AppendStr
import Derived.ArgAppend
import Derived.Laws.IdiomCopy
import Derived.RowKit
import Derived.OrdersHeld
import Derived.Laws.BitsLemmas
import Derived.Test.YtoidibkcdkdneaaGreatDoorProg
import Derived.Lib.OthersKept
import Derived.WalkSmall
import Derived.Shelf.Strings.Builder1
import Derived.Shelf.Strings.Builder2
import Derived.Shelf.Strings.OnBuilder
import Derived.Shelf.Small.Wraps
import Derived.Shelf.Strings.Search1
import Derived.Shelf.Strings.Search2
import Derived.Shelf.Strings.Search3
import Derived.Shelf.Strings.Count
import Derived.Shelf.LaysM
import Derived.Shelf.Strings.Shaped
import Derived.Shelf.Strings.Prefix
import Derived.Shelf.Strings.Split
import Derived.Shelf.Unicode.DecodeSlow
import Derived.WalkLawsBesides
import Derived.StillTailTactics
import Derived.Lib.Split
import Derived.Lib.LastIndexByte
import Derived.Lib.Join
import Derived.Test.YtoidibkcdkdneaaGreatDoorKP21
namespace Foot
end Foot
namespace Go.Proofs
end Go.Proofs
namespace Go.Proofs.YtoidibkcdkdneaaGreatDoor
end Go.Proofs.YtoidibkcdkdneaaGreatDoor
namespace Go.Proofs.YtoidibkcdkdneaaGreatDoor.E
end Go.Proofs.YtoidibkcdkdneaaGreatDoor.E
namespace Go.Proofs.YtoidibkcdkdneaaGreatDoor.Hand
end Go.Proofs.YtoidibkcdkdneaaGreatDoor.Hand
namespace Go.Proofs.YtoidibkcdkdneaaGreatDoor.MPat
end Go.Proofs.YtoidibkcdkdneaaGreatDoor.MPat
namespace Go.Proofs.YtoidibkcdkdneaaGreatDoor.MStr
end Go.Proofs.YtoidibkcdkdneaaGreatDoor.MStr
namespace Go.Proofs.YtoidibkcdkdneaaGreatDoor.PRead
end Go.Proofs.YtoidibkcdkdneaaGreatDoor.PRead
namespace Go.Proofs.YtoidibkcdkdneaaGreatDoor.PSplit
end Go.Proofs.YtoidibkcdkdneaaGreatDoor.PSplit
namespace Go.Proofs.YtoidibkcdkdneaaGreatDoor.R
end Go.Proofs.YtoidibkcdkdneaaGreatDoor.R
namespace Go.Proofs.YtoidibkcdkdneaaGreatDoor.T
end Go.Proofs.YtoidibkcdkdneaaGreatDoor.T
namespace Go.Proofs.YtoidibkcdkdneaaGreatDoor.TR
end Go.Proofs.YtoidibkcdkdneaaGreatDoor.TR
namespace Go.Proofs.YtoidibkcdkdneaaGreatDoor.TrulesParses
end Go.Proofs.YtoidibkcdkdneaaGreatDoor.TrulesParses
namespace Go.Proofs.YtoidibkcdkdneaaGreatDoorW.PrintLast
end Go.Proofs.YtoidibkcdkdneaaGreatDoorW.PrintLast
namespace Go.Proofs.YtoidibkcdkdneaaGreatDoorW.PrintMore
end Go.Proofs.YtoidibkcdkdneaaGreatDoorW.PrintMore
namespace Go.Proofs.YtoidibkcdkdneaaGreatDoorW.PrintWords
end Go.Proofs.YtoidibkcdkdneaaGreatDoorW.PrintWords
namespace Kd
end Kd
section
namespace Go.Proofs.YtoidibkcdkdneaaGreatDoor.T
open Go.Proofs.YtoidibkcdkdneaaGreatDoor.E
set_option maxRecDepth 100000
set_option linter.unusedVariables false
set_option linter.unusedSimpArgs false
/-- What a book's cells hold beside the lists of the kinds that it was not told of. -/
structure BS where
  turn : Int
  deep : Int
  o : List RS
  t : List RS
  w : List RS
  n : List RS
  f : List RS
  m : List Int
  d : List Int
  r : List Int
  seen : Int
def noneK : List C := [.nils, .nils, .nils, .nils, .nils, .nils, .nils, .nils, .int .i64 0]
def noK : Nat → List C
  | 0 => []
  | n + 1 => noneK ++ noK n
def bookC (now bad : Bool) (turn deep : Int) (mid : List C) : List C := [.bool now, .bool bad, .int .i64 turn, .int .i64 deep] ++ (noK 9 ++ (mid ++ noK 6))
def midC (B : BS) : List C := [.slc 1 0 B.o.length none, .slc 2 0 B.t.length none, .slc 3 0 B.w.length none, .slc 4 0 B.n.length none, .slc 5 0 B.f.length none, .slc 6 0 B.m.length none, .slc 7 0 B.d.length none, .slc 8 0 B.r.length none, .int .i64 B.seen]
def bookH (B : BS) : VH KK := [.cells 44 (bookC false false B.turn B.deep (midC B)), .arr .rrule B.o, .arr .rrule B.t, .arr .rrule B.w, .arr .rrule B.n, .arr .rrule B.f, .arr .int B.m, .arr .int B.d, .arr .int B.r]
abbrev bookN : List Nat := [0, 1, 2, 3, 4, 5, 6, 7, 8]
def ct_b (B : BS) (v : VV) : Ct KK := { need := True, pre := bookH B, args := [.c (.ptr 0 0 0)], Y := Unit, ok := fun _ => True, ret := fun _ => v, post := fun _ => bookH B }
def inv_b (B : BS) (fr : List VV) : Inv KK := { X := Unit, fr := fun _ => fr, H := fun _ => bookH B, ok := fun _ => True, meas := fun _ => 0 }
def ann_h (B : BS) (n : Nat) : Ann KK := { loop := fun id _ _ => match id with | 2 => some (inv_b B ([.c (.ptr 0 0 0), .any, .any, i64 0] ++ anys (n - 4))) | _ => some (inv_b B ([.c (.ptr 0 0 0), .any, .any, .any, i64 0] ++ anys (n - 5))), cut := fun _ _ _ => none }
theorem vc_mBytes (B : BS) : evFn tab0 ann0 Tryz.f94 (ct_b B (.tup [])) = ( EndsAs 9 (ct_b B (VV.tup [])) (VV.tup []) (bookH B)) := by kernel_rfl
theorem vc_gBytes (B : BS) : evFn tab0 (ann1 (inv_b B ([.c (.ptr 0 0 0), .any, i64 0] ++ anys (Tryz.f110.ntmps - 3)))) Tryz.f110 (ct_b B (.tup [])) = ( Enter 9 (inv_b B ([VV.c (C.ptr 0 0 0), VV.any, i64 (0 : Int)] ++ anys (Tryz.f110.ntmps - 3))) (fun (x : Unit) => True) ([VV.one (V1.c (C.ptr 0 0 0)), VV.any, i64 (0 : Int)] ++ anys 67) (bookH B) ∧ ∀ (z
 : Unit), True → EndsAs 9 (ct_b B (VV.tup [])) (VV.tup []) (bookH B)) := by kernel_rfl
theorem vc_hBytes (B : BS) : evFn tab0 (ann_h B Tryz.f23.ntmps) Tryz.f23 (ct_b B (boolv true)) = ( Enter 9 (inv_b B ([VV.c (C.ptr 0 0 0), VV.any, VV.any, i64 (0 : Int)] ++ anys (Tryz.f23.ntmps - 4))) (fun (x : Unit) => True) ([VV.one (V1.c (C.ptr 0 0 0)), VV.any, boolv false, i64 (0 : Int)] ++ anys
 51) (bookH B) ∧ ∀ (z : Unit), True → Enter 9 (inv_b B ([VV.c (C.ptr 0 0 0), VV.any, VV.any, VV.any, i64 (0 : Int)] ++ anys (Tryz.f23.ntmps - 5))) (fun (x : Unit) => True) ([VV.one (V1.c (C.ptr 0 0 0)),
 VV.any, VV.any, i64 (0 : Int), i64 (0 : Int), i64 (0 : Int), VV.one (V1.c (C.ptr 0 0 0)), VV.one (V1.c (C.ptr 0 0 0)), VV.one (V1.c (C.ptr 0 0 4)), VV.one (V1.c C.nils), i64 (0 : Int), boolv false] ++
 anys 43) (bookH B) ∧ ∀ (z : Unit), True → EndsAs 9 (ct_b B (boolv true)) (boolv true) (bookH B)) := by kernel_rfl
theorem vc_mInts (B : BS) : evFn tab0 ann0 Tryz.f95 (ct_b B (.tup [])) = ( EndsAs 9 (ct_b B (VV.tup [])) (VV.tup []) (bookH B)) := by kernel_rfl
theorem vc_gInts (B : BS) : evFn tab0 (ann1 (inv_b B ([.c (.ptr 0 0 0), .any, i64 0] ++ anys (Tryz.f111.ntmps - 3)))) Tryz.f111 (ct_b B (.tup [])) = ( Enter 9 (inv_b B ([VV.c (C.ptr 0 0 0), VV.any, i64 (0 : Int)] ++ anys (Tryz.f111.ntmps - 3))) (fun (x : Unit) => True) ([VV.one (V1.c (C.ptr 0 0 0)), VV.any, i64 (0 : Int)] ++ anys 66) (bookH B) ∧ ∀ (z
 : Unit), True → EndsAs 9 (ct_b B (VV.tup [])) (VV.tup []) (bookH B)) := by kernel_rfl
theorem vc_hInts (B : BS) : evFn tab0 (ann_h B Tryz.f24.ntmps) Tryz.f24 (ct_b B (boolv true)) = ( Enter 9 (inv_b B ([VV.c (C.ptr 0 0 0), VV.any, VV.any, i64 (0 : Int)] ++ anys (Tryz.f24.ntmps - 4))) (fun (x : Unit) => True) ([VV.one (V1.c (C.ptr 0 0 0)), VV.any, boolv false, i64 (0 : Int)] ++ anys
 51) (bookH B) ∧ ∀ (z : Unit), True → Enter 9 (inv_b B ([VV.c (C.ptr 0 0 0), VV.any, VV.any, VV.any, i64 (0 : Int)] ++ anys (Tryz.f24.ntmps - 5))) (fun (x : Unit) => True) ([VV.one (V1.c (C.ptr 0 0 0)),
 VV.any, VV.any, i64 (0 : Int), i64 (0 : Int), i64 (0 : Int), VV.one (V1.c (C.ptr 0 0 0)), VV.one (V1.c (C.ptr 0 0 0)), VV.one (V1.c (C.ptr 0 0 13)), VV.one (V1.c C.nils), i64 (0 : Int), boolv false] ++
 anys 43) (bookH B) ∧ ∀ (z : Unit), True → EndsAs 9 (ct_b B (boolv true)) (boolv true) (bookH B)) := by kernel_rfl
theorem vc_mTexts (B : BS) : evFn tab0 ann0 Tryz.f96 (ct_b B (.tup [])) = ( EndsAs 9 (ct_b B (VV.tup [])) (VV.tup []) (bookH B)) := by kernel_rfl
theorem vc_gTexts (B : BS) : evFn tab0 (ann1 (inv_b B ([.c (.ptr 0 0 0), .any, i64 0] ++ anys (Tryz.f112.ntmps - 3)))) Tryz.f112 (ct_b B (.tup [])) = ( Enter 9 (inv_b B ([VV.c (C.ptr 0 0 0), VV.any, i64 (0 : Int)] ++ anys (Tryz.f112.ntmps - 3))) (fun (x : Unit) => True) ([VV.one (V1.c (C.ptr 0 0 0)), VV.any, i64 (0 : Int)] ++ anys 67) (bookH B) ∧ ∀ (z
 : Unit), True → EndsAs 9 (ct_b B (VV.tup [])) (VV.tup []) (bookH B)) := by kernel_rfl
theorem vc_hTexts (B : BS) : evFn tab0 (ann_h B Tryz.f25.ntmps) Tryz.f25 (ct_b B (boolv true)) = ( Enter 9 (inv_b B ([VV.c (C.ptr 0 0 0), VV.any, VV.any, i64 (0 : Int)] ++ anys (Tryz.f25.ntmps - 4))) (fun (x : Unit) => True) ([VV.one (V1.c (C.ptr 0 0 0)), VV.any, boolv false, i64 (0 : Int)] ++ anys
 51) (bookH B) ∧ ∀ (z : Unit), True → Enter 9 (inv_b B ([VV.c (C.ptr 0 0 0), VV.any, VV.any, VV.any, i64 (0 : Int)] ++ anys (Tryz.f25.ntmps - 5))) (fun (x : Unit) => True) ([VV.one (V1.c (C.ptr 0 0 0)),
 VV.any, VV.any, i64 (0 : Int), i64 (0 : Int), i64 (0 : Int), VV.one (V1.c (C.ptr 0 0 0)), VV.one (V1.c (C.ptr 0 0 0)), VV.one (V1.c (C.ptr 0 0 22)), VV.one (V1.c C.nils), i64 (0 : Int), boolv false] ++
 anys 43) (bookH B) ∧ ∀ (z : Unit), True → EndsAs 9 (ct_b B (boolv true)) (boolv true) (bookH B)) := by kernel_rfl
theorem vc_mLosts (B : BS) : evFn tab0 ann0 Tryz.f97 (ct_b B (.tup [])) = ( EndsAs 9 (ct_b B (VV.tup [])) (VV.tup []) (bookH B)) := by kernel_rfl
theorem vc_gLosts (B : BS) : evFn tab0 (ann1 (inv_b B ([.c (.ptr 0 0 0), .any, i64 0] ++ anys (Tryz.f113.ntmps - 3)))) Tryz.f113 (ct_b B (.tup [])) = ( Enter 9 (inv_b B ([VV.c (C.ptr 0 0 0), VV.any, i64 (0 : Int)] ++ anys (Tryz.f113.ntmps - 3))) (fun (x : Unit) => True) ([VV.one (V1.c (C.ptr 0 0 0)), VV.any, i64 (0 : Int)] ++ anys 68) (bookH B) ∧ ∀ (z
 : Unit), True → EndsAs 9 (ct_b B (VV.tup [])) (VV.tup []) (bookH B)) := by kernel_rfl
theorem vc_hLosts (B : BS) : evFn tab0 (ann_h B Tryz.f26.ntmps) Tryz.f26 (ct_b B (boolv true)) = ( Enter 9 (inv_b B ([VV.c (C.ptr 0 0 0), VV.any, VV.any, i64 (0 : Int)] ++ anys (Tryz.f26.ntmps - 4))) (fun (x : Unit) => True) ([VV.one (V1.c (C.ptr 0 0 0)), VV.any, boolv false, i64 (0 : Int)] ++ anys
 51) (bookH B) ∧ ∀ (z : Unit), True → Enter 9 (inv_b B ([VV.c (C.ptr 0 0 0), VV.any, VV.any, VV.any, i64 (0 : Int)] ++ anys (Tryz.f26.ntmps - 5))) (fun (x : Unit) => True) ([VV.one (V1.c (C.ptr 0 0 0)),
 VV.any, VV.any, i64 (0 : Int), i64 (0 : Int), i64 (0 : Int), VV.one (V1.c (C.ptr 0 0 0)), VV.one (V1.c (C.ptr 0 0 0)), VV.one (V1.c (C.ptr 0 0 31)), VV.one (V1.c C.nils), i64 (0 : Int), boolv false] ++
 anys 43) (bookH B) ∧ ∀ (z : Unit), True → EndsAs 9 (ct_b B (boolv true)) (boolv true) (bookH B)) := by kernel_rfl
theorem vc_mChanges (B : BS) : evFn tab0 ann0 Tryz.f98 (ct_b B (.tup [])) = ( EndsAs 9 (ct_b B (VV.tup [])) (VV.tup []) (bookH B)) := by kernel_rfl
theorem vc_gChanges (B : BS) : evFn tab0 (ann1 (inv_b B ([.c (.ptr 0 0 0), .any, i64 0] ++ anys (Tryz.f114.ntmps - 3)))) Tryz.f114 (ct_b B (.tup [])) = ( Enter 9 (inv_b B ([VV.c (C.ptr 0 0 0), VV.any, i64 (0 : Int)] ++ anys (Tryz.f114.ntmps - 3))) (fun (x : Unit) => True) ([VV.one (V1.c (C.ptr 0 0 0)), VV.any, i64 (0 : Int)] ++ anys 68) (bookH B) ∧ ∀ (z
 : Unit), True → EndsAs 9 (ct_b B (VV.tup [])) (VV.tup []) (bookH B)) := by kernel_rfl
theorem vc_hChanges (B : BS) : evFn tab0 (ann_h B Tryz.f27.ntmps) Tryz.f27 (ct_b B (boolv true)) = ( Enter 9 (inv_b B ([VV.c (C.ptr 0 0 0), VV.any, VV.any, i64 (0 : Int)] ++ anys (Tryz.f27.ntmps - 4))) (fun (x : Unit) => True) ([VV.one (V1.c (C.ptr 0 0 0)), VV.any, boolv false, i64 (0 : Int)] ++ anys
 51) (bookH B) ∧ ∀ (z : Unit), True → Enter 9 (inv_b B ([VV.c (C.ptr 0 0 0), VV.any, VV.any, VV.any, i64 (0 : Int)] ++ anys (Tryz.f27.ntmps - 5))) (fun (x : Unit) => True) ([VV.one (V1.c (C.ptr 0 0 0)),
 VV.any, VV.any, i64 (0 : Int), i64 (0 : Int), i64 (0 : Int), VV.one (V1.c (C.ptr 0 0 0)), VV.one (V1.c (C.ptr 0 0 0)), VV.one (V1.c (C.ptr 0 0 40)), VV.one (V1.c C.nils), i64 (0 : Int), boolv false] ++
 anys 43) (bookH B) ∧ ∀ (z : Unit), True → EndsAs 9 (ct_b B (boolv true)) (boolv true) (bookH B)) := by kernel_rfl
theorem vc_mCells (B : BS) : evFn tab0 ann0 Tryz.f99 (ct_b B (.tup [])) = ( EndsAs 9 (ct_b B (VV.tup [])) (VV.tup []) (bookH B)) := by kernel_rfl
theorem vc_gCells (B : BS) : evFn tab0 (ann1 (inv_b B ([.c (.ptr 0 0 0), .any, i64 0] ++ anys (Tryz.f115.ntmps - 3)))) Tryz.f115 (ct_b B (.tup [])) = ( Enter 9 (inv_b B ([VV.c (C.ptr 0 0 0), VV.any, i64 (0 : Int)] ++ anys (Tryz.f115.ntmps - 3))) (fun (x : Unit) => True) ([VV.one (V1.c (C.ptr 0 0 0)), VV.any, i64 (0 : Int)] ++ anys 67) (bookH B) ∧ ∀ (z
 : Unit), True → EndsAs 9 (ct_b B (VV.tup [])) (VV.tup []) (bookH B)) := by kernel_rfl
theorem vc_hCells (B : BS) : evFn tab0 (ann_h B Tryz.f28.ntmps) Tryz.f28 (ct_b B (boolv true)) = ( Enter 9 (inv_b B ([VV.c (C.ptr 0 0 0), VV.any, VV.any, i64 (0 : Int)] ++ anys (Tryz.f28.ntmps - 4))) (fun (x : Unit) => True) ([VV.one (V1.c (C.ptr 0 0 0)), VV.any, boolv false, i64 (0 : Int)] ++ anys
 51) (bookH B) ∧ ∀ (z : Unit), True → Enter 9 (inv_b B ([VV.c (C.ptr 0 0 0), VV.any, VV.any, VV.any, i64 (0 : Int)] ++ anys (Tryz.f28.ntmps - 5))) (fun (x : Unit) => True) ([VV.one (V1.c (C.ptr 0 0 0)),
 VV.any, VV.any, i64 (0 : Int), i64 (0 : Int), i64 (0 : Int), VV.one (V1.c (C.ptr 0 0 0)), VV.one (V1.c (C.ptr 0 0 0)), VV.one (V1.c (C.ptr 0 0 49)), VV.one (V1.c C.nils), i64 (0 : Int), boolv false] ++
 anys 43) (bookH B) ∧ ∀ (z : Unit), True → EndsAs 9 (ct_b B (boolv true)) (boolv true) (bookH B)) := by kernel_rfl
theorem vc_mItems (B : BS) : evFn tab0 ann0 Tryz.f100 (ct_b B (.tup [])) = ( EndsAs 9 (ct_b B (VV.tup [])) (VV.tup []) (bookH B)) := by kernel_rfl
theorem vc_gItems (B : BS) : evFn tab0 (ann1 (inv_b B ([.c (.ptr 0 0 0), .any, i64 0] ++ anys (Tryz.f116.ntmps - 3)))) Tryz.f116 (ct_b B (.tup [])) = ( Enter 9 (inv_b B ([VV.c (C.ptr 0 0 0), VV.any, i64 (0 : Int)] ++ anys (Tryz.f116.ntmps - 3))) (fun (x : Unit) => True) ([VV.one (V1.c (C.ptr 0 0 0)), VV.any, i64 (0 : Int)] ++ anys 67) (bookH B) ∧ ∀ (z
 : Unit), True → EndsAs 9 (ct_b B (VV.tup [])) (VV.tup []) (bookH B)) := by kernel_rfl
theorem vc_hItems (B : BS) : evFn tab0 (ann_h B Tryz.f29.ntmps) Tryz.f29 (ct_b B (boolv true)) = ( Enter 9 (inv_b B ([VV.c (C.ptr 0 0 0), VV.any, VV.any, i64 (0 : Int)] ++ anys (Tryz.f29.ntmps - 4))) (fun (x : Unit) => True) ([VV.one (V1.c (C.ptr 0 0 0)), VV.any, boolv false, i64 (0 : Int)] ++ anys
 51) (bookH B) ∧ ∀ (z : Unit), True → Enter 9 (inv_b B ([VV.c (C.ptr 0 0 0), VV.any, VV.any, VV.any, i64 (0 : Int)] ++ anys (Tryz.f29.ntmps - 5))) (fun (x : Unit) => True) ([VV.one (V1.c (C.ptr 0 0 0)),
 VV.any, VV.any, i64 (0 : Int), i64 (0 : Int), i64 (0 : Int), VV.one (V1.c (C.ptr 0 0 0)), VV.one (V1.c (C.ptr 0 0 0)), VV.one (V1.c (C.ptr 0 0 58)), VV.one (V1.c C.nils), i64 (0 : Int), boolv false] ++
 anys 43) (bookH B) ∧ ∀ (z : Unit), True → EndsAs 9 (ct_b B (boolv true)) (boolv true) (bookH B)) := by kernel_rfl
theorem vc_mEntries (B : BS) : evFn tab0 ann0 Tryz.f101 (ct_b B (.tup [])) = ( EndsAs 9 (ct_b B (VV.tup [])) (VV.tup []) (bookH B)) := by kernel_rfl
theorem vc_gEntries (B : BS) : evFn tab0 (ann1 (inv_b B ([.c (.ptr 0 0 0), .any, i64 0] ++ anys (Tryz.f117.ntmps - 3)))) Tryz.f117 (ct_b B (.tup [])) = ( Enter 9 (inv_b B ([VV.c (C.ptr 0 0 0), VV.any, i64 (0 : Int)] ++ anys (Tryz.f117.ntmps - 3))) (fun (x : Unit) => True) ([VV.one (V1.c (C.ptr 0 0 0)), VV.any, i64 (0 : Int)] ++ anys 67) (bookH B) ∧ ∀ (z
 : Unit), True → EndsAs 9 (ct_b B (VV.tup [])) (VV.tup []) (bookH B)) := by kernel_rfl
theorem vc_hEntries (B : BS) : evFn tab0 (ann_h B Tryz.f30.ntmps) Tryz.f30 (ct_b B (boolv true)) = ( Enter 9 (inv_b B ([VV.c (C.ptr 0 0 0), VV.any, VV.any, i64 (0 : Int)] ++ anys (Tryz.f30.ntmps - 4))) (fun (x : Unit) => True) ([VV.one (V1.c (C.ptr 0 0 0)), VV.any, boolv false, i64 (0 : Int)] ++ anys
 51) (bookH B) ∧ ∀ (z : Unit), True → Enter 9 (inv_b B ([VV.c (C.ptr 0 0 0), VV.any, VV.any, VV.any, i64 (0 : Int)] ++ anys (Tryz.f30.ntmps - 5))) (fun (x : Unit) => True) ([VV.one (V1.c (C.ptr 0 0 0)),
 VV.any, VV.any, i64 (0 : Int), i64 (0 : Int), i64 (0 : Int), VV.one (V1.c (C.ptr 0 0 0)), VV.one (V1.c (C.ptr 0 0 0)), VV.one (V1.c (C.ptr 0 0 67)), VV.one (V1.c C.nils), i64 (0 : Int), boolv false] ++
 anys 43) (bookH B) ∧ ∀ (z : Unit), True → EndsAs 9 (ct_b B (boolv true)) (boolv true) (bookH B)) := by kernel_rfl
theorem vc_mPlaceds (B : BS) : evFn tab0 ann0 Tryz.f102 (ct_b B (.tup [])) = ( EndsAs 9 (ct_b B (VV.tup [])) (VV.tup []) (bookH B)) := by kernel_rfl
theorem vc_gPlaceds (B : BS) : evFn tab0 (ann1 (inv_b B ([.c (.ptr 0 0 0), .any, i64 0] ++ anys (Tryz.f118.ntmps - 3)))) Tryz.f118 (ct_b B (.tup [])) = ( Enter 9 (inv_b B ([VV.c (C.ptr 0 0 0), VV.any, i64 (0 : Int)] ++ anys (Tryz.f118.ntmps - 3))) (fun (x : Unit) => True) ([VV.one (V1.c (C.ptr 0 0 0)), VV.any, i64 (0 : Int)] ++ anys 67) (bookH B) ∧ ∀ (z
 : Unit), True → EndsAs 9 (ct_b B (VV.tup [])) (VV.tup []) (bookH B)) := by kernel_rfl
theorem vc_hPlaceds (B : BS) : evFn tab0 (ann_h B Tryz.f31.ntmps) Tryz.f31 (ct_b B (boolv true)) = ( Enter 9 (inv_b B ([VV.c (C.ptr 0 0 0), VV.any, VV.any, i64 (0 : Int)] ++ anys (Tryz.f31.ntmps - 4))) (fun (x : Unit) => True) ([VV.one (V1.c (C.ptr 0 0 0)), VV.any, boolv false, i64 (0 : Int)] ++ anys
 51) (bookH B) ∧ ∀ (z : Unit), True → Enter 9 (inv_b B ([VV.c (C.ptr 0 0 0), VV.any, VV.any, VV.any, i64 (0 : Int)] ++ anys (Tryz.f31.ntmps - 5))) (fun (x : Unit) => True) ([VV.one (V1.c (C.ptr 0 0 0)),
 VV.any, VV.any, i64 (0 : Int), i64 (0 : Int), i64 (0 : Int), VV.one (V1.c (C.ptr 0 0 0)), VV.one (V1.c (C.ptr 0 0 0)), VV.one (V1.c (C.ptr 0 0 76)), VV.one (V1.c C.nils), i64 (0 : Int), boolv false] ++
 anys 43) (bookH B) ∧ ∀ (z : Unit), True → EndsAs 9 (ct_b B (boolv true)) (boolv true) (bookH B)) := by kernel_rfl
theorem vc_mFaults (B : BS) : evFn tab0 ann0 Tryz.f104 (ct_b B (.tup [])) = ( EndsAs 9 (ct_b B (VV.tup [])) (VV.tup []) (bookH B)) := by kernel_rfl
theorem vc_gFaults (B : BS) : evFn tab0 (ann1 (inv_b B ([.c (.ptr 0 0 0), .any, i64 0] ++ anys (Tryz.f120.ntmps - 3)))) Tryz.f120 (ct_b B (.tup [])) = ( Enter 9 (inv_b B ([VV.c (C.ptr 0 0 0), VV.any, i64 (0 : Int)] ++ anys (Tryz.f120.ntmps - 3))) (fun (x : Unit) => True) ([VV.one (V1.c (C.ptr 0 0 0)), VV.any, i64 (0 : Int)] ++ anys 67) (bookH B) ∧ ∀ (z
 : Unit), True → EndsAs 9 (ct_b B (VV.tup [])) (VV.tup []) (bookH B)) := by kernel_rfl
theorem vc_hFaults (B : BS) : evFn tab0 (ann_h B Tryz.f33.ntmps) Tryz.f33 (ct_b B (boolv true)) = ( Enter 9 (inv_b B ([VV.c (C.ptr 0 0 0), VV.any, VV.any, i64 (0 : Int)] ++ anys (Tryz.f33.ntmps - 4))) (fun (x : Unit) => True) ([VV.one (V1.c (C.ptr 0 0 0)), VV.any, boolv false, i64 (0 : Int)] ++ anys
 51) (bookH B) ∧ ∀ (z : Unit), True → Enter 9 (inv_b B ([VV.c (C.ptr 0 0 0), VV.any, VV.any, VV.any, i64 (0 : Int)] ++ anys (Tryz.f33.ntmps - 5))) (fun (x : Unit) => True) ([VV.one (V1.c (C.ptr 0 0 0)),
 VV.any, VV.any, i64 (0 : Int), i64 (0 : Int), i64 (0 : Int), VV.one (V1.c (C.ptr 0 0 0)), VV.one (V1.c (C.ptr 0 0 0)), VV.one (V1.c (C.ptr 0 0 94)), VV.one (V1.c C.nils), i64 (0 : Int), boolv false] ++
 anys 43) (bookH B) ∧ ∀ (z : Unit), True → EndsAs 9 (ct_b B (boolv true)) (boolv true) (bookH B)) := by kernel_rfl
theorem vc_mChunks (B : BS) : evFn tab0 ann0 Tryz.f105 (ct_b B (.tup [])) = ( EndsAs 9 (ct_b B (VV.tup [])) (VV.tup []) (bookH B)) := by kernel_rfl
theorem vc_gChunks (B : BS) : evFn tab0 (ann1 (inv_b B ([.c (.ptr 0 0 0), .any, i64 0] ++ anys (Tryz.f121.ntmps - 3)))) Tryz.f121 (ct_b B (.tup [])) = ( Enter 9 (inv_b B ([VV.c (C.ptr 0 0 0), VV.any, i64 (0 : Int)] ++ anys (Tryz.f121.ntmps - 3))) (fun (x : Unit) => True) ([VV.one (V1.c (C.ptr 0 0 0)), VV.any, i64 (0 : Int)] ++ anys 68) (bookH B) ∧ ∀ (z
 : Unit), True → EndsAs 9 (ct_b B (VV.tup [])) (VV.tup []) (bookH B)) := by kernel_rfl
theorem vc_hChunks (B : BS) : evFn tab0 (ann_h B Tryz.f34.ntmps) Tryz.f34 (ct_b B (boolv true)) = ( Enter 9 (inv_b B ([VV.c (C.ptr 0 0 0), VV.any, VV.any, i64 (0 : Int)] ++ anys (Tryz.f34.ntmps - 4))) (fun (x : Unit) => True) ([VV.one (V1.c (C.ptr 0 0 0)), VV.any, boolv false, i64 (0 : Int)] ++ anys
 51) (bookH B) ∧ ∀ (z : Unit), True → Enter 9 (inv_b B ([VV.c (C.ptr 0 0 0), VV.any, VV.any, VV.any, i64 (0 : Int)] ++ anys (Tryz.f34.ntmps - 5))) (fun (x : Unit) => True) ([VV.one (V1.c (C.ptr 0 0 0)),
 VV.any, VV.any, i64 (0 : Int), i64 (0 : Int), i64 (0 : Int), VV.one (V1.c (C.ptr 0 0 0)), VV.one (V1.c (C.ptr 0 0 0)), VV.one (V1.c (C.ptr 0 0 103)), VV.one (V1.c C.nils), i64 (0 : Int), boolv false] ++
 anys 43) (bookH B) ∧ ∀ (z : Unit), True → EndsAs 9 (ct_b B (boolv true)) (boolv true) (bookH B)) := by kernel_rfl
theorem vc_mThings (B : BS) : evFn tab0 ann0 Tryz.f106 (ct_b B (.tup [])) = ( EndsAs 9 (ct_b B (VV.tup [])) (VV.tup []) (bookH B)) := by kernel_rfl
theorem vc_gThings (B : BS) : evFn tab0 (ann1 (inv_b B ([.c (.ptr 0 0 0), .any, i64 0] ++ anys (Tryz.f122.ntmps - 3)))) Tryz.f122 (ct_b B (.tup [])) = ( Enter 9 (inv_b B ([VV.c (C.ptr 0 0 0), VV.any, i64 (0 : Int)] ++ anys (Tryz.f122.ntmps - 3))) (fun (x : Unit) => True) ([VV.one (V1.c (C.ptr 0 0 0)), VV.any, i64 (0 : Int)] ++ anys 67) (bookH B) ∧ ∀ (z
 : Unit), True → EndsAs 9 (ct_b B (VV.tup [])) (VV.tup []) (bookH B)) := by kernel_rfl
theorem vc_hThings (B : BS) : evFn tab0 (ann_h B Tryz.f35.ntmps) Tryz.f35 (ct_b B (boolv true)) = ( Enter 9 (inv_b B ([VV.c (C.ptr 0 0 0), VV.any, VV.any, i64 (0 : Int)] ++ anys (Tryz.f35.ntmps - 4))) (fun (x : Unit) => True) ([VV.one (V1.c (C.ptr 0 0 0)), VV.any, boolv false, i64 (0 : Int)] ++ anys
 51) (bookH B) ∧ ∀ (z : Unit), True → Enter 9 (inv_b B ([VV.c (C.ptr 0 0 0), VV.any, VV.any, VV.any, i64 (0 : Int)] ++ anys (Tryz.f35.ntmps - 5))) (fun (x : Unit) => True) ([VV.one (V1.c (C.ptr 0 0 0)),
 VV.any, VV.any, i64 (0 : Int), i64 (0 : Int), i64 (0 : Int), VV.one (V1.c (C.ptr 0 0 0)), VV.one (V1.c (C.ptr 0 0 0)), VV.one (V1.c (C.ptr 0 0 112)), VV.one (V1.c C.nils), i64 (0 : Int), boolv false] ++
 anys 43) (bookH B) ∧ ∀ (z : Unit), True → EndsAs 9 (ct_b B (boolv true)) (boolv true) (bookH B)) := by kernel_rfl
theorem vc_mDones (B : BS) : evFn tab0 ann0 Tryz.f107 (ct_b B (.tup [])) = ( EndsAs 9 (ct_b B (VV.tup [])) (VV.tup []) (bookH B)) := by kernel_rfl
theorem vc_gDones (B : BS) : evFn tab0 (ann1 (inv_b B ([.c (.ptr 0 0 0), .any, i64 0] ++ anys (Tryz.f123.ntmps - 3)))) Tryz.f123 (ct_b B (.tup [])) = ( Enter 9 (inv_b B ([VV.c (C.ptr 0 0 0), VV.any, i64 (0 : Int)] ++ anys (Tryz.f123.ntmps - 3))) (fun (x : Unit) => True) ([VV.one (V1.c (C.ptr 0 0 0)), VV.any, i64 (0 : Int)] ++ anys 67) (bookH B) ∧ ∀ (z
 : Unit), True → EndsAs 9 (ct_b B (VV.tup [])) (VV.tup []) (bookH B)) := by kernel_rfl
theorem vc_hDones (B : BS) : evFn tab0 (ann_h B Tryz.f36.ntmps) Tryz.f36 (ct_b B (boolv true)) = ( Enter 9 (inv_b B ([VV.c (C.ptr 0 0 0), VV.any, VV.any, i64 (0 : Int)] ++ anys (Tryz.f36.ntmps - 4))) (fun (x : Unit) => True) ([VV.one (V1.c (C.ptr 0 0 0)), VV.any, boolv false, i64 (0 : Int)] ++ anys
 51) (bookH B) ∧ ∀ (z : Unit), True → Enter 9 (inv_b B ([VV.c (C.ptr 0 0 0), VV.any, VV.any, VV.any, i64 (0 : Int)] ++ anys (Tryz.f36.ntmps - 5))) (fun (x : Unit) => True) ([VV.one (V1.c (C.ptr 0 0 0)),
 VV.any, VV.any, i64 (0 : Int), i64 (0 : Int), i64 (0 : Int), VV.one (V1.c (C.ptr 0 0 0)), VV.one (V1.c (C.ptr 0 0 0)), VV.one (V1.c (C.ptr 0 0 121)), VV.one (V1.c C.nils), i64 (0 : Int), boolv false] ++
 anys 43) (bookH B) ∧ ∀ (z : Unit), True → EndsAs 9 (ct_b B (boolv true)) (boolv true) (bookH B)) := by kernel_rfl
theorem vc_mNodes (B : BS) : evFn tab0 ann0 Tryz.f108 (ct_b B (.tup [])) = ( EndsAs 9 (ct_b B (VV.tup [])) (VV.tup []) (bookH B)) := by kernel_rfl
theorem vc_gNodes (B : BS) : evFn tab0 (ann1 (inv_b B ([.c (.ptr 0 0 0), .any, i64 0] ++ anys (Tryz.f124.ntmps - 3)))) Tryz.f124 (ct_b B (.tup [])) = ( Enter 9 (inv_b B ([VV.c (C.ptr 0 0 0), VV.any, i64 (0 : Int)] ++ anys (Tryz.f124.ntmps - 3))) (fun (x : Unit) => True) ([VV.one (V1.c (C.ptr 0 0 0)), VV.any, i64 (0 : Int)] ++ anys 68) (bookH B) ∧ ∀ (z
 : Unit), True → EndsAs 9 (ct_b B (VV.tup [])) (VV.tup []) (bookH B)) := by kernel_rfl
theorem vc_hNodes (B : BS) : evFn tab0 (ann_h B Tryz.f37.ntmps) Tryz.f37 (ct_b B (boolv true)) = ( Enter 9 (inv_b B ([VV.c (C.ptr 0 0 0), VV.any, VV.any, i64 (0 : Int)] ++ anys (Tryz.f37.ntmps - 4))) (fun (x : Unit) => True) ([VV.one (V1.c (C.ptr 0 0 0)), VV.any, boolv false, i64 (0 : Int)] ++ anys
 51) (bookH B) ∧ ∀ (z : Unit), True → Enter 9 (inv_b B ([VV.c (C.ptr 0 0 0), VV.any, VV.any, VV.any, i64 (0 : Int)] ++ anys (Tryz.f37.ntmps - 5))) (fun (x : Unit) => True) ([VV.one (V1.c (C.ptr 0 0 0)),
 VV.any, VV.any, i64 (0 : Int), i64 (0 : Int), i64 (0 : Int), VV.one (V1.c (C.ptr 0 0 0)), VV.one (V1.c (C.ptr 0 0 0)), VV.one (V1.c (C.ptr 0 0 130)), VV.one (V1.c C.nils), i64 (0 : Int), boolv false] ++
 anys 43) (bookH B) ∧ ∀ (z : Unit), True → EndsAs 9 (ct_b B (boolv true)) (boolv true) (bookH B)) := by kernel_rfl
theorem vc_mSteps (B : BS) : evFn tab0 ann0 Tryz.f109 (ct_b B (.tup [])) = ( EndsAs 9 (ct_b B (VV.tup [])) (VV.tup []) (bookH B)) := by kernel_rfl
theorem vc_gSteps (B : BS) : evFn tab0 (ann1 (inv_b B ([.c (.ptr 0 0 0), .any, i64 0] ++ anys (Tryz.f125.ntmps - 3)))) Tryz.f125 (ct_b B (.tup [])) = ( Enter 9 (inv_b B ([VV.c (C.ptr 0 0 0), VV.any, i64 (0 : Int)] ++ anys (Tryz.f125.ntmps - 3))) (fun (x : Unit) => True) ([VV.one (V1.c (C.ptr 0 0 0)), VV.any, i64 (0 : Int)] ++ anys 67) (bookH B) ∧ ∀ (z
 : Unit), True → EndsAs 9 (ct_b B (VV.tup [])) (VV.tup []) (bookH B)) := by kernel_rfl
theorem vc_hSteps (B : BS) : evFn tab0 (ann_h B Tryz.f38.ntmps) Tryz.f38 (ct_b B (boolv true)) = ( Enter 9 (inv_b B ([VV.c (C.ptr 0 0 0), VV.any, VV.any, i64 (0 : Int)] ++ anys (Tryz.f38.ntmps - 4))) (fun (x : Unit) => True) ([VV.one (V1.c (C.ptr 0 0 0)), VV.any, boolv false, i64 (0 : Int)] ++ anys
 51) (bookH B) ∧ ∀ (z : Unit), True → Enter 9 (inv_b B ([VV.c (C.ptr 0 0 0), VV.any, VV.any, VV.any, i64 (0 : Int)] ++ anys (Tryz.f38.ntmps - 5))) (fun (x : Unit) => True) ([VV.one (V1.c (C.ptr 0 0 0)),
 VV.any, VV.any, i64 (0 : Int), i64 (0 : Int), i64 (0 : Int), VV.one (V1.c (C.ptr 0 0 0)), VV.one (V1.c (C.ptr 0 0 0)), VV.one (V1.c (C.ptr 0 0 139)), VV.one (V1.c C.nils), i64 (0 : Int), boolv false] ++
 anys 43) (bookH B) ∧ ∀ (z : Unit), True → EndsAs 9 (ct_b B (boolv true)) (boolv true) (bookH B)) := by kernel_rfl
theorem mBytes_ok (B : BS) : CtOk Tryz.prog 94 (ct_b B (.tup [])) := CtOk_of KK_ok tab0 ann0 (fn := Tryz.f94) rfl (fun _ _ => rfl) fun hn => by
  rw [vc_mBytes]
  exact ⟨(), [], bookN, trivial, by (repeat' first | exact trivial | exact rfl | apply And.intro)⟩
theorem gBytes_ok (B : BS) : CtOk Tryz.prog 110 (ct_b B (.tup [])) := CtOk_of KK_ok tab0 (ann1 (inv_b B ([.c (.ptr 0 0 0), .any, i64 0] ++ anys (Tryz.f110.ntmps - 3)))) (fn := Tryz.f110) rfl (fun _ _ => rfl) fun hn => by
  rw [vc_gBytes]
  exact ⟨⟨(), [], bookN, trivial, trivial, into_mk (by kernel_rfl) (by (repeat' first | exact trivial | exact rfl | apply And.intro)) (by (repeat' first | exact trivial | exact rfl | apply And.intro))⟩, fun _ _ => ⟨(), [], bookN, trivial, by (repeat' first | exact trivial | exact rfl | apply And.intro)⟩⟩
theorem hBytes_ok (B : BS) : CtOk Tryz.prog 23 (ct_b B (boolv true)) := CtOk_of KK_ok tab0 (ann_h B Tryz.f23.ntmps) (fn := Tryz.f23) rfl (fun _ _ => rfl) fun hn => by
  rw [vc_hBytes]
  exact ⟨⟨(), [], bookN, trivial, trivial, into_mk (by kernel_rfl) (by (repeat' first | exact trivial | exact rfl | apply And.intro)) (by (repeat' first | exact trivial | exact rfl | apply And.intro))⟩, fun _ _ => ⟨⟨(), [], bookN, trivial, trivial, into_mk (by kernel_rfl) (by (repeat' first | exact trivial | exact rfl | apply And.intro)) (by (repeat' first | exact trivial | exact rfl | apply And.intro))⟩, fun _ _ => ⟨(), [], bookN, trivial, by (repeat' first | exact trivial | exact rfl | apply And.intro)⟩⟩⟩
theorem mInts_ok (B : BS) : CtOk Tryz.prog 95 (ct_b B (.tup [])) := CtOk_of KK_ok tab0 ann0 (fn := Tryz.f95) rfl (fun _ _ => rfl) fun hn => by
  rw [vc_mInts]
  exact ⟨(), [], bookN, trivial, by (repeat' first | exact trivial | exact rfl | apply And.intro)⟩
theorem gInts_ok (B : BS) : CtOk Tryz.prog 111 (ct_b B (.tup [])) := CtOk_of KK_ok tab0 (ann1 (inv_b B ([.c (.ptr 0 0 0), .any, i64 0] ++ anys (Tryz.f111.ntmps - 3)))) (fn := Tryz.f111) rfl (fun _ _ => rfl) fun hn => by
  rw [vc_gInts]
  exact ⟨⟨(), [], bookN, trivial, trivial, into_mk (by kernel_rfl) (by (repeat' first | exact trivial | exact rfl | apply And.intro)) (by (repeat' first | exact trivial | exact rfl | apply And.intro))⟩, fun _ _ => ⟨(), [], bookN, trivial, by (repeat' first | exact trivial | exact rfl | apply And.intro)⟩⟩
theorem hInts_ok (B : BS) : CtOk Tryz.prog 24 (ct_b B (boolv true)) := CtOk_of KK_ok tab0 (ann_h B Tryz.f24.ntmps) (fn := Tryz.f24) rfl (fun _ _ => rfl) fun hn => by
  rw [vc_hInts]
  exact ⟨⟨(), [], bookN, trivial, trivial, into_mk (by kernel_rfl) (by (repeat' first | exact trivial | exact rfl | apply And.intro)) (by (repeat' first | exact trivial | exact rfl | apply And.intro))⟩, fun _ _ => ⟨⟨(), [], bookN, trivial, trivial, into_mk (by kernel_rfl) (by (repeat' first | exact trivial | exact rfl | apply And.intro)) (by (repeat' first | exact trivial | exact rfl | apply And.intro))⟩, fun _ _ => ⟨(), [], bookN, trivial, by (repeat' first | exact trivial | exact rfl | apply And.intro)⟩⟩⟩
theorem mTexts_ok (B : BS) : CtOk Tryz.prog 96 (ct_b B (.tup [])) := CtOk_of KK_ok tab0 ann0 (fn := Tryz.f96) rfl (fun _ _ => rfl) fun hn => by
  rw [vc_mTexts]
  exact ⟨(), [], bookN, trivial, by (repeat' first | exact trivial | exact rfl | apply And.intro)⟩
theorem gTexts_ok (B : BS) : CtOk Tryz.prog 112 (ct_b B (.tup [])) := CtOk_of KK_ok tab0 (ann1 (inv_b B ([.c (.ptr 0 0 0), .any, i64 0] ++ anys (Tryz.f112.ntmps - 3)))) (fn := Tryz.f112) rfl (fun _ _ => rfl) fun hn => by
  rw [vc_gTexts]
  exact ⟨⟨(), [], bookN, trivial, trivial, into_mk (by kernel_rfl) (by (repeat' first | exact trivial | exact rfl | apply And.intro)) (by (repeat' first | exact trivial | exact rfl | apply And.intro))⟩, fun _ _ => ⟨(), [], bookN, trivial, by (repeat' first | exact trivial | exact rfl | apply And.intro)⟩⟩
theorem hTexts_ok (B : BS) : CtOk Tryz.prog 25 (ct_b B (boolv true)) := CtOk_of KK_ok tab0 (ann_h B Tryz.f25.ntmps) (fn := Tryz.f25) rfl (fun _ _ => rfl) fun hn => by
  rw [vc_hTexts]
  exact ⟨⟨(), [], bookN, trivial, trivial, into_mk (by kernel_rfl) (by (repeat' first | exact trivial | exact rfl | apply And.intro)) (by (repeat' first | exact trivial | exact rfl | apply And.intro))⟩, fun _ _ => ⟨⟨(), [], bookN, trivial, trivial, into_mk (by kernel_rfl) (by (repeat' first | exact trivial | exact rfl | apply And.intro)) (by (repeat' first | exact trivial | exact rfl | apply And.intro))⟩, fun _ _ => ⟨(), [], bookN, trivial, by (repeat' first | exact trivial | exact rfl | apply And.intro)⟩⟩⟩
theorem mLosts_ok (B : BS) : CtOk Tryz.prog 97 (ct_b B (.tup [])) := CtOk_of KK_ok tab0 ann0 (fn := Tryz.f97) rfl (fun _ _ => rfl) fun hn => by
  rw [vc_mLosts]
  exact ⟨(), [], bookN, trivial, by (repeat' first | exact trivial | exact rfl | apply And.intro)⟩
theorem gLosts_ok (B : BS) : CtOk Tryz.prog 113 (ct_b B (.tup [])) := CtOk_of KK_ok tab0 (ann1 (inv_b B ([.c (.ptr 0 0 0), .any, i64 0] ++ anys (Tryz.f113.ntmps - 3)))) (fn := Tryz.f113) rfl (fun _ _ => rfl) fun hn => by
  rw [vc_gLosts]
  exact ⟨⟨(), [], bookN, trivial, trivial, into_mk (by kernel_rfl) (by (repeat' first | exact trivial | exact rfl | apply And.intro)) (by (repeat' first | exact trivial | exact rfl | apply And.intro))⟩, fun _ _ => ⟨(), [], bookN, trivial, by (repeat' first | exact trivial | exact rfl | apply And.intro)⟩⟩
theorem hLosts_ok (B : BS) : CtOk Tryz.prog 26 (ct_b B (boolv true)) := CtOk_of KK_ok tab0 (ann_h B Tryz.f26.ntmps) (fn := Tryz.f26) rfl (fun _ _ => rfl) fun hn => by
  rw [vc_hLosts]
  exact ⟨⟨(), [], bookN, trivial, trivial, into_mk (by kernel_rfl) (by (repeat' first | exact trivial | exact rfl | apply And.intro)) (by (repeat' first | exact trivial | exact rfl | apply And.intro))⟩, fun _ _ => ⟨⟨(), [], bookN, trivial, trivial, into_mk (by kernel_rfl) (by (repeat' first | exact trivial | exact rfl | apply And.intro)) (by (repeat' first | exact trivial | exact rfl | apply And.intro))⟩, fun _ _ => ⟨(), [], bookN, trivial, by (repeat' first | exact trivial | exact rfl | apply And.intro)⟩⟩⟩
theorem mChanges_ok (B : BS) : CtOk Tryz.prog 98 (ct_b B (.tup [])) := CtOk_of KK_ok tab0 ann0 (fn := Tryz.f98) rfl (fun _ _ => rfl) fun hn => by
  rw [vc_mChanges]
  exact ⟨(), [], bookN, trivial, by (repeat' first | exact trivial | exact rfl | apply And.intro)⟩
theorem gChanges_ok (B : BS) : CtOk Tryz.prog 114 (ct_b B (.tup [])) := CtOk_of KK_ok tab0 (ann1 (inv_b B ([.c (.ptr 0 0 0), .any, i64 0] ++ anys (Tryz.f114.ntmps - 3)))) (fn := Tryz.f114) rfl (fun _ _ => rfl) fun hn => by
  rw [vc_gChanges]
  exact ⟨⟨(), [], bookN, trivial, trivial, into_mk (by kernel_rfl) (by (repeat' first | exact trivial | exact rfl | apply And.intro)) (by (repeat' first | exact trivial | exact rfl | apply And.intro))⟩, fun _ _ => ⟨(), [], bookN, trivial, by (repeat' first | exact trivial | exact rfl | apply And.intro)⟩⟩
theorem hChanges_ok (B : BS) : CtOk Tryz.prog 27 (ct_b B (boolv true)) := CtOk_of KK_ok tab0 (ann_h B Tryz.f27.ntmps) (fn := Tryz.f27) rfl (fun _ _ => rfl) fun hn => by
  rw [vc_hChanges]
  exact ⟨⟨(), [], bookN, trivial, trivial, into_mk (by kernel_rfl) (by (repeat' first | exact trivial | exact rfl | apply And.intro)) (by (repeat' first | exact trivial | exact rfl | apply And.intro))⟩, fun _ _ => ⟨⟨(), [], bookN, trivial, trivial, into_mk (by kernel_rfl) (by (repeat' first | exact trivial | exact rfl | apply And.intro)) (by (repeat' first | exact trivial | exact rfl | apply And.intro))⟩, fun _ _ => ⟨(), [], bookN, trivial, by (repeat' first | exact trivial | exact rfl | apply And.intro)⟩⟩⟩
theorem mCells_ok (B : BS) : CtOk Tryz.prog 99 (ct_b B (.tup [])) := CtOk_of KK_ok tab0 ann0 (fn := Tryz.f99) rfl (fun _ _ => rfl) fun hn => by
  rw [vc_mCells]
  exact ⟨(), [], bookN, trivial, by (repeat' first | exact trivial | exact rfl | apply And.intro)⟩
theorem gCells_ok (B : BS) : CtOk Tryz.prog 115 (ct_b B (.tup [])) := CtOk_of KK_ok tab0 (ann1 (inv_b B ([.c (.ptr 0 0 0), .any, i64 0] ++ anys (Tryz.f115.ntmps - 3)))) (fn := Tryz.f115) rfl (fun _ _ => rfl) fun hn => by
  rw [vc_gCells]
  exact ⟨⟨(), [], bookN, trivial, trivial, into_mk (by kernel_rfl) (by (repeat' first | exact trivial | exact rfl | apply And.intro)) (by (repeat' first | exact trivial | exact rfl | apply And.intro))⟩, fun _ _ => ⟨(), [], bookN, trivial, by (repeat' first | exact trivial | exact rfl | apply And.intro)⟩⟩
theorem hCells_ok (B : BS) : CtOk Tryz.prog 28 (ct_b B (boolv true)) := CtOk_of KK_ok tab0 (ann_h B Tryz.f28.ntmps) (fn := Tryz.f28) rfl (fun _ _ => rfl) fun hn => by
  rw [vc_hCells]
  exact ⟨⟨(), [], bookN, trivial, trivial, into_mk (by kernel_rfl) (by (repeat' first | exact trivial | exact rfl | apply And.intro)) (by (repeat' first | exact trivial | exact rfl | apply And.intro))⟩, fun _ _ => ⟨⟨(), [], bookN, trivial, trivial, into_mk (by kernel_rfl) (by (repeat' first | exact trivial | exact rfl | apply And.intro)) (by (repeat' first | exact trivial | exact rfl | apply And.intro))⟩, fun _ _ => ⟨(), [], bookN, trivial, by (repeat' first | exact trivial | exact rfl | apply And.intro)⟩⟩⟩
theorem mItems_ok (B : BS) : CtOk Tryz.prog 100 (ct_b B (.tup [])) := CtOk_of KK_ok tab0 ann0 (fn := Tryz.f100) rfl (fun _ _ => rfl) fun hn => by
  rw [vc_mItems]
  exact ⟨(), [], bookN, trivial, by (repeat' first | exact trivial | exact rfl | apply And.intro)⟩
theorem gItems_ok (B : BS) : CtOk Tryz.prog 116 (ct_b B (.tup [])) := CtOk_of KK_ok tab0 (ann1 (inv_b B ([.c (.ptr 0 0 0), .any, i64 0] ++ anys (Tryz.f116.ntmps - 3)))) (fn := Tryz.f116) rfl (fun _ _ => rfl) fun hn => by
  rw [vc_gItems]
  exact ⟨⟨(), [], bookN, trivial, trivial, into_mk (by kernel_rfl) (by (repeat' first | exact trivial | exact rfl | apply And.intro)) (by (repeat' first | exact trivial | exact rfl | apply And.intro))⟩, fun _ _ => ⟨(), [], bookN, trivial, by (repeat' first | exact trivial | exact rfl | apply And.intro)⟩⟩
theorem hItems_ok (B : BS) : CtOk Tryz.prog 29 (ct_b B (boolv true)) := CtOk_of KK_ok tab0 (ann_h B Tryz.f29.ntmps) (fn := Tryz.f29) rfl (fun _ _ => rfl) fun hn => by
  rw [vc_hItems]
  exact ⟨⟨(), [], bookN, trivial, trivial, into_mk (by kernel_rfl) (by (repeat' first | exact trivial | exact rfl | apply And.intro)) (by (repeat' first | exact trivial | exact rfl | apply And.intro))⟩, fun _ _ => ⟨⟨(), [], bookN, trivial, trivial, into_mk (by kernel_rfl) (by (repeat' first | exact trivial | exact rfl | apply And.intro)) (by (repeat' first | exact trivial | exact rfl | apply And.intro))⟩, fun _ _ => ⟨(), [], bookN, trivial, by (repeat' first | exact trivial | exact rfl | apply And.intro)⟩⟩⟩
theorem mEntries_ok (B : BS) : CtOk Tryz.prog 101 (ct_b B (.tup [])) := CtOk_of KK_ok tab0 ann0 (fn := Tryz.f101) rfl (fun _ _ => rfl) fun hn => by
  rw [vc_mEntries]
  exact ⟨(), [], bookN, trivial, by (repeat' first | exact trivial | exact rfl | apply And.intro)⟩
theorem gEntries_ok (B : BS) : CtOk Tryz.prog 117 (ct_b B (.tup [])) := CtOk_of KK_ok tab0 (ann1 (inv_b B ([.c (.ptr 0 0 0), .any, i64 0] ++ anys (Tryz.f117.ntmps - 3)))) (fn := Tryz.f117) rfl (fun _ _ => rfl) fun hn => by
  rw [vc_gEntries]
  exact ⟨⟨(), [], bookN, trivial, trivial, into_mk (by kernel_rfl) (by (repeat' first | exact trivial | exact rfl | apply And.intro)) (by (repeat' first | exact trivial | exact rfl | apply And.intro))⟩, fun _ _ => ⟨(), [], bookN, trivial, by (repeat' first | exact trivial | exact rfl | apply And.intro)⟩⟩
theorem hEntries_ok (B : BS) : CtOk Tryz.prog 30 (ct_b B (boolv true)) := CtOk_of KK_ok tab0 (ann_h B Tryz.f30.ntmps) (fn := Tryz.f30) rfl (fun _ _ => rfl) fun hn => by
  rw [vc_hEntries]
  exact ⟨⟨(), [], bookN, trivial, trivial, into_mk (by kernel_rfl) (by (repeat' first | exact trivial | exact rfl | apply And.intro)) (by (repeat' first | exact trivial | exact rfl | apply And.intro))⟩, fun _ _ => ⟨⟨(), [], bookN, trivial, trivial, into_mk (by kernel_rfl) (by (repeat' first | exact trivial | exact rfl | apply And.intro)) (by (repeat' first | exact trivial | exact rfl | apply And.intro))⟩, fun _ _ => ⟨(), [], bookN, trivial, by (repeat' first | exact trivial | exact rfl | apply And.intro)⟩⟩⟩
theorem mPlaceds_ok (B : BS) : CtOk Tryz.prog 102 (ct_b B (.tup [])) := CtOk_of KK_ok tab0 ann0 (fn := Tryz.f102) rfl (fun _ _ => rfl) fun hn => by
  rw [vc_mPlaceds]
  exact ⟨(), [], bookN, trivial, by (repeat' first | exact trivial | exact rfl | apply And.intro)⟩
theorem gPlaceds_ok (B : BS) : CtOk Tryz.prog 118 (ct_b B (.tup [])) := CtOk_of KK_ok tab0 (ann1 (inv_b B ([.c (.ptr 0 0 0), .any, i64 0] ++ anys (Tryz.f118.ntmps - 3)))) (fn := Tryz.f118) rfl (fun _ _ => rfl) fun hn => by
  rw [vc_gPlaceds]
  exact ⟨⟨(), [], bookN, trivial, trivial, into_mk (by kernel_rfl) (by (repeat' first | exact trivial | exact rfl | apply And.intro)) (by (repeat' first | exact trivial | exact rfl | apply And.intro))⟩, fun _ _ => ⟨(), [], bookN, trivial, by (repeat' first | exact trivial | exact rfl | apply And.intro)⟩⟩
theorem hPlaceds_ok (B : BS) : CtOk Tryz.prog 31 (ct_b B (boolv true)) := CtOk_of KK_ok tab0 (ann_h B Tryz.f31.ntmps) (fn := Tryz.f31) rfl (fun _ _ => rfl) fun hn => by
  rw [vc_hPlaceds]
  exact ⟨⟨(), [], bookN, trivial, trivial, into_mk (by kernel_rfl) (by (repeat' first | exact trivial | exact rfl | apply And.intro)) (by (repeat' first | exact trivial | exact rfl | apply And.intro))⟩, fun _ _ => ⟨⟨(), [], bookN, trivial, trivial, into_mk (by kernel_rfl) (by (repeat' first | exact trivial | exact rfl | apply And.intro)) (by (repeat' first | exact trivial | exact rfl | apply And.intro))⟩, fun _ _ => ⟨(), [], bookN, trivial, by (repeat' first | exact trivial | exact rfl | apply And.intro)⟩⟩⟩
theorem mFaults_ok (B : BS) : CtOk Tryz.prog 104 (ct_b B (.tup [])) := CtOk_of KK_ok tab0 ann0 (fn := Tryz.f104) rfl (fun _ _ => rfl) fun hn => by
  rw [vc_mFaults]
  exact ⟨(), [], bookN, trivial, by (repeat' first | exact trivial | exact rfl | apply And.intro)⟩
theorem gFaults_ok (B : BS) : CtOk Tryz.prog 120 (ct_b B (.tup [])) := CtOk_of KK_ok tab0 (ann1 (inv_b B ([.c (.ptr 0 0 0), .any, i64 0] ++ anys (Tryz.f120.ntmps - 3)))) (fn := Tryz.f120) rfl (fun _ _ => rfl) fun hn => by
  rw [vc_gFaults]
  exact ⟨⟨(), [], bookN, trivial, trivial, into_mk (by kernel_rfl) (by (repeat' first | exact trivial | exact rfl | apply And.intro)) (by (repeat' first | exact trivial | exact rfl | apply And.intro))⟩, fun _ _ => ⟨(), [], bookN, trivial, by (repeat' first | exact trivial | exact rfl | apply And.intro)⟩⟩
theorem hFaults_ok (B : BS) : CtOk Tryz.prog 33 (ct_b B (boolv true)) := CtOk_of KK_ok tab0 (ann_h B Tryz.f33.ntmps) (fn := Tryz.f33) rfl (fun _ _ => rfl) fun hn => by
  rw [vc_hFaults]
  exact ⟨⟨(), [], bookN, trivial, trivial, into_mk (by kernel_rfl) (by (repeat' first | exact trivial | exact rfl | apply And.intro)) (by (repeat' first | exact trivial | exact rfl | apply And.intro))⟩, fun _ _ => ⟨⟨(), [], bookN, trivial, trivial, into_mk (by kernel_rfl) (by (repeat' first | exact trivial | exact rfl | apply And.intro)) (by (repeat' first | exact trivial | exact rfl | apply And.intro))⟩, fun _ _ => ⟨(), [], bookN, trivial, by (repeat' first | exact trivial | exact rfl | apply And.intro)⟩⟩⟩
theorem mChunks_ok (B : BS) : CtOk Tryz.prog 105 (ct_b B (.tup [])) := CtOk_of KK_ok tab0 ann0 (fn := Tryz.f105) rfl (fun _ _ => rfl) fun hn => by
  rw [vc_mChunks]
  exact ⟨(), [], bookN, trivial, by (repeat' first | exact trivial | exact rfl | apply And.intro)⟩
theorem gChunks_ok (B : BS) : CtOk Tryz.prog 121 (ct_b B (.tup [])) := CtOk_of KK_ok tab0 (ann1 (inv_b B ([.c (.ptr 0 0 0), .any, i64 0] ++ anys (Tryz.f121.ntmps - 3)))) (fn := Tryz.f121) rfl (fun _ _ => rfl) fun hn => by
  rw [vc_gChunks]
  exact ⟨⟨(), [], bookN, trivial, trivial, into_mk (by kernel_rfl) (by (repeat' first | exact trivial | exact rfl | apply And.intro)) (by (repeat' first | exact trivial | exact rfl | apply And.intro))⟩, fun _ _ => ⟨(), [], bookN, trivial, by (repeat' first | exact trivial | exact rfl | apply And.intro)⟩⟩
theorem hChunks_ok (B : BS) : CtOk Tryz.prog 34 (ct_b B (boolv true)) := CtOk_of KK_ok tab0 (ann_h B Tryz.f34.ntmps) (fn := Tryz.f34) rfl (fun _ _ => rfl) fun hn => by
  rw [vc_hChunks]
  exact ⟨⟨(), [], bookN, trivial, trivial, into_mk (by kernel_rfl) (by (repeat' first | exact trivial | exact rfl | apply And.intro)) (by (repeat' first | exact trivial | exact rfl | apply And.intro))⟩, fun _ _ => ⟨⟨(), [], bookN, trivial, trivial, into_mk (by kernel_rfl) (by (repeat' first | exact trivial | exact rfl | apply And.intro)) (by (repeat' first | exact trivial | exact rfl | apply And.intro))⟩, fun _ _ => ⟨(), [], bookN, trivial, by (repeat' first | exact trivial | exact rfl | apply And.intro)⟩⟩⟩
theorem mThings_ok (B : BS) : CtOk Tryz.prog 106 (ct_b B (.tup [])) := CtOk_of KK_ok tab0 ann0 (fn := Tryz.f106) rfl (fun _ _ => rfl) fun hn => by
  rw [vc_mThings]
  exact ⟨(), [], bookN, trivial, by (repeat' first | exact trivial | exact rfl | apply And.intro)⟩
theorem gThings_ok (B : BS) : CtOk Tryz.prog 122 (ct_b B (.tup [])) := CtOk_of KK_ok tab0 (ann1 (inv_b B ([.c (.ptr 0 0 0), .any, i64 0] ++ anys (Tryz.f122.ntmps - 3)))) (fn := Tryz.f122) rfl (fun _ _ => rfl) fun hn => by
  rw [vc_gThings]
  exact ⟨⟨(), [], bookN, trivial, trivial, into_mk (by kernel_rfl) (by (repeat' first | exact trivial | exact rfl | apply And.intro)) (by (repeat' first | exact trivial | exact rfl | apply And.intro))⟩, fun _ _ => ⟨(), [], bookN, trivial, by (repeat' first | exact trivial | exact rfl | apply And.intro)⟩⟩
theorem hThings_ok (B : BS) : CtOk Tryz.prog 35 (ct_b B (boolv true)) := CtOk_of KK_ok tab0 (ann_h B Tryz.f35.ntmps) (fn := Tryz.f35) rfl (fun _ _ => rfl) fun hn => by
  rw [vc_hThings]
  exact ⟨⟨(), [], bookN, trivial, trivial, into_mk (by kernel_rfl) (by (repeat' first | exact trivial | exact rfl | apply And.intro)) (by (repeat' first | exact trivial | exact rfl | apply And.intro))⟩, fun _ _ => ⟨⟨(), [], bookN, trivial, trivial, into_mk (by kernel_rfl) (by (repeat' first | exact trivial | exact rfl | apply And.intro)) (by (repeat' first | exact trivial | exact rfl | apply And.intro))⟩, fun _ _ => ⟨(), [], bookN, trivial, by (repeat' first | exact trivial | exact rfl | apply And.intro)⟩⟩⟩
theorem mDones_ok (B : BS) : CtOk Tryz.prog 107 (ct_b B (.tup [])) := CtOk_of KK_ok tab0 ann0 (fn := Tryz.f107) rfl (fun _ _ => rfl) fun hn => by
  rw [vc_mDones]
  exact ⟨(), [], bookN, trivial, by (repeat' first | exact trivial | exact rfl | apply And.intro)⟩
theorem gDones_ok (B : BS) : CtOk Tryz.prog 123 (ct_b B (.tup [])) := CtOk_of KK_ok tab0 (ann1 (inv_b B ([.c (.ptr 0 0 0), .any, i64 0] ++ anys (Tryz.f123.ntmps - 3)))) (fn := Tryz.f123) rfl (fun _ _ => rfl) fun hn => by
  rw [vc_gDones]
  exact ⟨⟨(), [], bookN, trivial, trivial, into_mk (by kernel_rfl) (by (repeat' first | exact trivial | exact rfl | apply And.intro)) (by (repeat' first | exact trivial | exact rfl | apply And.intro))⟩, fun _ _ => ⟨(), [], bookN, trivial, by (repeat' first | exact trivial | exact rfl | apply And.intro)⟩⟩
theorem hDones_ok (B : BS) : CtOk Tryz.prog 36 (ct_b B (boolv true)) := CtOk_of KK_ok tab0 (ann_h B Tryz.f36.ntmps) (fn := Tryz.f36) rfl (fun _ _ => rfl) fun hn => by
  rw [vc_hDones]
  exact ⟨⟨(), [], bookN, trivial, trivial, into_mk (by kernel_rfl) (by (repeat' first | exact trivial | exact rfl | apply And.intro)) (by (repeat' first | exact trivial | exact rfl | apply And.intro))⟩, fun _ _ => ⟨⟨(), [], bookN, trivial, trivial, into_mk (by kernel_rfl) (by (repeat' first | exact trivial | exact rfl | apply And.intro)) (by (repeat' first | exact trivial | exact rfl | apply And.intro))⟩, fun _ _ => ⟨(), [], bookN, trivial, by (repeat' first | exact trivial | exact rfl | apply And.intro)⟩⟩⟩
theorem mNodes_ok (B : BS) : CtOk Tryz.prog 108 (ct_b B (.tup [])) := CtOk_of KK_ok tab0 ann0 (fn := Tryz.f108) rfl (fun _ _ => rfl) fun hn => by
  rw [vc_mNodes]
  exact ⟨(), [], bookN, trivial, by (repeat' first | exact trivial | exact rfl | apply And.intro)⟩
theorem gNodes_ok (B : BS) : CtOk Tryz.prog 124 (ct_b B (.tup [])) := CtOk_of KK_ok tab0 (ann1 (inv_b B ([.c (.ptr 0 0 0), .any, i64 0] ++ anys (Tryz.f124.ntmps - 3)))) (fn := Tryz.f124) rfl (fun _ _ => rfl) fun hn => by
  rw [vc_gNodes]
  exact ⟨⟨(), [], bookN, trivial, trivial, into_mk (by kernel_rfl) (by (repeat' first | exact trivial | exact rfl | apply And.intro)) (by (repeat' first | exact trivial | exact rfl | apply And.intro))⟩, fun _ _ => ⟨(), [], bookN, trivial, by (repeat' first | exact trivial | exact rfl | apply And.intro)⟩⟩
theorem hNodes_ok (B : BS) : CtOk Tryz.prog 37 (ct_b B (boolv true)) := CtOk_of KK_ok tab0 (ann_h B Tryz.f37.ntmps) (fn := Tryz.f37) rfl (fun _ _ => rfl) fun hn => by
  rw [vc_hNodes]
  exact ⟨⟨(), [], bookN, trivial, trivial, into_mk (by kernel_rfl) (by (repeat' first | exact trivial | exact rfl | apply And.intro)) (by (repeat' first | exact trivial | exact rfl | apply And.intro))⟩, fun _ _ => ⟨⟨(), [], bookN, trivial, trivial, into_mk (by kernel_rfl) (by (repeat' first | exact trivial | exact rfl | apply And.intro)) (by (repeat' first | exact trivial | exact rfl | apply And.intro))⟩, fun _ _ => ⟨(), [], bookN, trivial, by (repeat' first | exact trivial | exact rfl | apply And.intro)⟩⟩⟩
theorem mSteps_ok (B : BS) : CtOk Tryz.prog 109 (ct_b B (.tup [])) := CtOk_of KK_ok tab0 ann0 (fn := Tryz.f109) rfl (fun _ _ => rfl) fun hn => by
  rw [vc_mSteps]
  exact ⟨(), [], bookN, trivial, by (repeat' first | exact trivial | exact rfl | apply And.intro)⟩
theorem gSteps_ok (B : BS) : CtOk Tryz.prog 125 (ct_b B (.tup [])) := CtOk_of KK_ok tab0 (ann1 (inv_b B ([.c (.ptr 0 0 0), .any, i64 0] ++ anys (Tryz.f125.ntmps - 3)))) (fn := Tryz.f125) rfl (fun _ _ => rfl) fun hn => by
  rw [vc_gSteps]
  exact ⟨⟨(), [], bookN, trivial, trivial, into_mk (by kernel_rfl) (by (repeat' first | exact trivial | exact rfl | apply And.intro)) (by (repeat' first | exact trivial | exact rfl | apply And.intro))⟩, fun _ _ => ⟨(), [], bookN, trivial, by (repeat' first | exact trivial | exact rfl | apply And.intro)⟩⟩
theorem hSteps_ok (B : BS) : CtOk Tryz.prog 38 (ct_b B (boolv true)) := CtOk_of KK_ok tab0 (ann_h B Tryz.f38.ntmps) (fn := Tryz.f38) rfl (fun _ _ => rfl) fun hn => by
  rw [vc_hSteps]
  exact ⟨⟨(), [], bookN, trivial, trivial, into_mk (by kernel_rfl) (by (repeat' first | exact trivial | exact rfl | apply And.intro)) (by (repeat' first | exact trivial | exact rfl | apply And.intro))⟩, fun _ _ => ⟨⟨(), [], bookN, trivial, trivial, into_mk (by kernel_rfl) (by (repeat' first | exact trivial | exact rfl | apply And.intro)) (by (repeat' first | exact trivial | exact rfl | apply And.intro))⟩, fun _ _ => ⟨(), [], bookN, trivial, by (repeat' first | exact trivial | exact rfl | apply And.intro)⟩⟩⟩
end Go.Proofs.YtoidibkcdkdneaaGreatDoor.T
end
section
namespace Go.Proofs.YtoidibkcdkdneaaGreatDoor.T
open Go.Proofs.YtoidibkcdkdneaaGreatDoor.E
set_option maxRecDepth 100000
set_option linter.unusedVariables false
set_option linter.unusedSimpArgs false
def HasTab (_ : Bag KK) : Prop := True
theorem HasTab.ext {φ ψ : Bag KK} (h : HasTab φ) (e : Ext φ ψ) : HasTab ψ := trivial
theorem le_lim {n : Nat} (h : n ≤ 1000150) : n * 24 ≤ 140737488355328 := by omega
theorem le_big {n : Nat} (h : n ≤ 1000150) : n ≤ 1000000000 := by omega
theorem le_150 {n : Nat} (h : n ≤ 1000000) : n ≤ 1000150 := by omega
theorem rl_eq {a b : Int × ByteArray} (h : a = b) (hf : (decide (a.1 = b.1) && (decide (a.2.data = b.2.data) && true)) = false) : False := by subst h; simp at hf
def ct_sameT (x y : RS) (φ : Bag KK) : Ct KK := { need := RS.Alike φ Kd.rule 1000000000 x y, pre := [.bag φ], args := [.c (.rs 57 2 x), .c (.rs 57 2 y)], Y := Unit, ok := fun _ => True, ret := fun _ => boolv true, post := fun _ => [.bag φ] }
def inv_sameT (x y : RS) (φ : Bag KK) : Inv KK := { X := Nat, fr := fun i => [.c (.rs 57 2 x), .c (.rs 57 2 y), .any, .any, .any, i64 i] ++ anys 24, H := fun _ => [.bag φ], ok := fun i => i ≤ x.len, meas := fun i : Nat => x.len - i }
def ct_due (B : BS) (n : Int) : Ct KK := { need := (0 ≤ B.turn ∧ B.turn ≤ 1000000) ∧ 0 ≤ n ∧ n ≤ 1000000, pre := bookH B, args := [.c (.ptr 0 0 0), i64 n], Y := Int, ok := fun y => 0 ≤ y ∧ y ≤ 2000000, ret := fun y => i64 y, post := fun _ => bookH B }
theorem vc_sameT (x y : RS) (φ : Bag KK) : evFn tab0 (ann1 (inv_sameT x y φ)) Tryz.f64 (ct_sameT x y φ) = ( ite2 (decide ((↑x.len : Int) = (↑y.len : Int))) (Enter 1 (inv_sameT x y φ) (fun (x : Nat) => True) ([VV.one (V1.c (C.rs 57 2 x)), VV.one (V1.c (C.rs 57 2 y)), VV.any, VV.any, boolv false, i64 (0 : Int),
 VV.any, VV.any, VV.one (V1.c (C.rs 57 2 x)), i64 (↑x.len : Int), VV.one (V1.c (C.rs 57 2 y)), i64 (↑y.len : Int), boolv false] ++ anys 17) [Atom.bag φ] ∧ ∀ (z : Nat), z ≤ x.len → ite2 (decide ((↑z : Int)
 < (↑x.len : Int))) (((0 : Int) ≤ (↑z : Int) ∧ (↑z : Int) < (↑x.len : Int)) ∧ ∃ (cap : Nat), ∃ (xs : List (KK.α Kd.rule)), φ x.blk = some (BI.row Kd.rule cap xs) ∧ x.lo + (↑z : Int).toNat < xs.length ∧
 ((0 : Int) ≤ (↑z : Int) ∧ (↑z : Int) < (↑y.len : Int)) ∧ ∃ (cap : Nat), ∃ (xs_1 : List (KK.α Kd.rule)), φ y.blk = some (BI.row Kd.rule cap xs_1) ∧ y.lo + (↑z : Int).toNat < xs_1.length ∧ ite2 (decide ((rd
 xs (x.lo + (↑z : Int).toNat) (KK.dflt Kd.rule)).fst = (rd xs_1 (y.lo + (↑z : Int).toNat) (KK.dflt Kd.rule)).fst) && (decide ((rd xs (x.lo + (↑z : Int).toNat) (KK.dflt Kd.rule)).snd.data = (rd xs_1 (y.lo
 + (↑z : Int).toNat) (KK.dflt Kd.rule)).snd.data) && true)) (i64ok ((↑z : Int) + (1 : Int)) ∧ Enter 1 (inv_sameT x y φ) (fun (z' : Nat) => x.len - z' < x.len - z) [VV.one (V1.c (C.rs 57 2 x)), VV.one (V1.c
 (C.rs 57 2 y)), VV.any, VV.any, VV.any, i64 ((↑z : Int) + (1 : Int)), VV.one (V1.c (C.ptr 1 0 0)), VV.one (V1.c (C.ptr 2 0 0)), VV.any, VV.any, VV.any, VV.any, VV.any, i64 (↑z : Int), VV.one (V1.c (C.rs
 57 2 x)), i64 (↑x.len : Int), boolv true, i64 (↑z : Int), i64 ((↑z : Int) + (1 : Int)), VV.one (V1.c (C.rs 57 2 x)), i64 (↑z : Int), VV.one (V1.c (C.rp 57 2 x.blk (x.lo + (↑z : Int).toNat) 0)), VV.one
 (V1.agg [C.int .i64 (rd xs (x.lo + (↑z : Int).toNat) (KK.dflt Kd.rule)).fst, C.str (rd xs (x.lo + (↑z : Int).toNat) (KK.dflt Kd.rule)).snd]), VV.one (V1.c (C.rs 57 2 y)), i64 (↑z : Int), VV.one (V1.c (C.rp
 57 2 y.blk (y.lo + (↑z : Int).toNat) 0)), VV.one (V1.agg [C.int .i64 (rd xs_1 (y.lo + (↑z : Int).toNat) (KK.dflt Kd.rule)).fst, C.str (rd xs_1 (y.lo + (↑z : Int).toNat) (KK.dflt Kd.rule)).snd]), VV.one
 (V1.agg [C.int .i64 (rd xs (x.lo + (↑z : Int).toNat) (KK.dflt Kd.rule)).fst, C.str (rd xs (x.lo + (↑z : Int).toNat) (KK.dflt Kd.rule)).snd]), VV.one (V1.agg [C.int .i64 (rd xs_1 (y.lo + (↑z : Int).toNat)
 (KK.dflt Kd.rule)).fst, C.str (rd xs_1 (y.lo + (↑z : Int).toNat) (KK.dflt Kd.rule)).snd]), boolv false] [Atom.bag φ, Atom.cells 57 [C.int .i64 (rd xs (x.lo + (↑z : Int).toNat) (KK.dflt Kd.rule)).fst, C.str
 (rd xs (x.lo + (↑z : Int).toNat) (KK.dflt Kd.rule)).snd], Atom.cells 57 [C.int .i64 (rd xs_1 (y.lo + (↑z : Int).toNat) (KK.dflt Kd.rule)).fst, C.str (rd xs_1 (y.lo + (↑z : Int).toNat) (KK.dflt Kd.rule)).snd]])
 (EndsAs 1 (ct_sameT x y φ) (boolv false) [Atom.bag φ, Atom.cells 57 [C.int .i64 (rd xs (x.lo + (↑z : Int).toNat) (KK.dflt Kd.rule)).fst, C.str (rd xs (x.lo + (↑z : Int).toNat) (KK.dflt Kd.rule)).snd],
 Atom.cells 57 [C.int .i64 (rd xs_1 (y.lo + (↑z : Int).toNat) (KK.dflt Kd.rule)).fst, C.str (rd xs_1 (y.lo + (↑z : Int).toNat) (KK.dflt Kd.rule)).snd]])) (EndsAs 1 (ct_sameT x y φ) (boolv true) [Atom.bag
 φ])) (EndsAs 1 (ct_sameT x y φ) (boolv false) [Atom.bag φ])) := by kernel_rfl
theorem vc_due (B : BS) (n : Int) : evFn tab0 ann0 Tryz.f44 (ct_due B n) = ( (3 : Int) ≠ (0 : Int) ∧ ite2 (decide (n.tmod (3 : Int) = (0 : Int))) (EndsAs 9 (ct_due B n) (i64 B.turn) (bookH B)) ((3 : Int) ≠ (0 : Int) ∧ ite2 (decide (n.tmod (3 : Int) = (1 : Int))) (i64ok (B.turn
 + (1 : Int)) ∧ (3 : Int) ≠ (0 : Int) ∧ i64ok (n.tdiv (3 : Int)) ∧ (8 : Int) ≠ (0 : Int) ∧ i64ok (B.turn + (1 : Int) + (n.tdiv (3 : Int)).tmod (8 : Int)) ∧ EndsAs 9 (ct_due B n) (i64 (B.turn + (1 : Int)
 + (n.tdiv (3 : Int)).tmod (8 : Int))) (bookH B)) (i64ok (B.turn + (1 : Int)) ∧ EndsAs 9 (ct_due B n) (i64 (B.turn + (1 : Int))) (bookH B)))) := by kernel_rfl
theorem sameT_ok (x y : RS) (φ : Bag KK) : CtOk Tryz.prog 64 (ct_sameT x y φ) := CtOk_of KK_ok tab0 (ann1 (inv_sameT x y φ)) (fn := Tryz.f64) rfl (fun _ _ => rfl) fun hn => by
  obtain ⟨(xs : List (Int × ByteArray)), h1, h2, h3⟩ := hn
  have h3 : xs.length ≤ 1000000000 := h3
  have l1 : xs.length = x.len := RS.row_len h1
  have l2 : xs.length = y.len := RS.row_len h2
  have hxy : ((x.len : Nat) : Int) = y.len := by omega
  rw [vc_sameT]
  simp only [Int.toNat_natCast, Nat.zero_add]
  refine ite2_decide (fun _ => ⟨⟨(0 : Nat), [], [0], Nat.zero_le _, trivial, into_mk (by kernel_rfl) (by (repeat' first | exact trivial | exact rfl | apply And.intro)) (by (repeat' first | exact trivial | exact rfl | apply And.intro))⟩, fun z hz => ite2_decide (fun hl => ?_) (fun hl => ⟨(), [], [0], trivial, by (repeat' first | exact trivial | exact rfl | apply And.intro)⟩)⟩) (fun h => absurd hxy h)
  have hz1 : z < x.len := by omega
  have hz2 : z < y.len := by omega
  obtain ⟨c1, u1, e1, e2, e3⟩ := RS.rd h1 hz1 ((0 : Int), ByteArray.empty)
  obtain ⟨c2, u2, f1, f2, f3⟩ := RS.rd h2 hz2 ((0 : Int), ByteArray.empty)
  refine ⟨⟨by omega, by omega⟩, c1, u1, e1, e2, ⟨by omega, by omega⟩, c2, u2, f1, f2, ite2_mk (fun _ => ⟨by unfold i64ok; omega, (z + 1 : Nat), [], [0], by show z + 1 ≤ x.len; omega, by omega, into_mk (by kernel_rfl) (by (repeat' first | exact trivial | exact rfl | apply And.intro)) (by (repeat' first | exact trivial | exact rfl | apply And.intro))⟩) (fun h => (rl_eq (e3.trans f3.symm) h).elim)⟩
theorem due_ok (B : BS) (n : Int) : CtOk Tryz.prog 44 (ct_due B n) := CtOk_of KK_ok tab0 ann0 (fn := Tryz.f44) rfl (fun _ _ => rfl) fun hn => by
  obtain ⟨⟨h1, h2⟩, h3, h4⟩ := hn
  rw [vc_due]
  have e : ∀ y : Int, 0 ≤ y ∧ y ≤ 2000000 → EndsAs 9 (ct_due B n) (i64 y) (bookH B) := fun y hy => ⟨y, [], bookN, hy, by (repeat' first | exact trivial | exact rfl | apply And.intro)⟩
  have q := Int.tdiv_nonneg h3 (show (0 : Int) ≤ 3 by decide)
  have q2 : n.tdiv 3 ≤ n := Int.tdiv_le_self _ h3
  have q3 : 0 ≤ (n.tdiv 3).tmod 8 := Int.tmod_nonneg _ q
  have q4 : (n.tdiv 3).tmod 8 < 8 := Int.tmod_lt_of_pos _ (by decide)
  have rest : (3 : Int) ≠ 0 := by decide
  refine ⟨rest, ite2_decide (fun _ => e _ ⟨h1, by omega⟩) (fun _ => ⟨rest, ite2_decide (fun _ => ⟨by unfold i64ok; omega, rest, by unfold i64ok; omega, by decide, by unfold i64ok; omega, e _ ⟨by omega, by omega⟩⟩) (fun _ => ⟨by unfold i64ok; omega, e _ ⟨by omega, by omega⟩⟩)⟩)⟩
end Go.Proofs.YtoidibkcdkdneaaGreatDoor.T
end
section
namespace Go.Proofs.YtoidibkcdkdneaaGreatDoor.T
open Go.Proofs.YtoidibkcdkdneaaGreatDoor.E
set_option maxRecDepth 100000
set_option linter.unusedVariables false
set_option linter.unusedSimpArgs false
abbrev BS.bk (B : BS) : Bk := ⟨B.o, B.t, B.w, B.n, B.f⟩
structure BookOk (φ : Bag KK) (B : BS) : Prop where
  good : BkOk φ Kd.rule 1000000 B.bk
  tab : HasTab φ
  lm : B.m.length = B.w.length
  ld : B.d.length = B.w.length
  lr : B.r.length = B.f.length
  mb : ∀ x ∈ B.m, -1000000000000 ≤ x ∧ x ≤ 1000000000000
  rb : ∀ x ∈ B.r, -1000000000000 ≤ x ∧ x ≤ 1000000000000
  cnt : (B.o.length : Int) + 2 * B.w.length + B.f.length = 2 * B.seen
  few : B.seen ≤ 100000
  turn : 0 ≤ B.turn ∧ B.turn ≤ 1000000
def SameB (B B' : BS) : Prop := B'.turn = B.turn ∧ B'.deep = B.deep ∧ B'.seen = B.seen
/-- The book, its lists told anew. -/
def bookM (B : BS) (φ : Bag KK) : VH KK := [.cells 44 (bookC false false B.turn B.deep [.slc 10 0 B.o.length none, .slc 11 0 B.t.length none, .slc 12 0 B.w.length none, .slc 13 0 B.n.length none, .slc 14 0 B.f.length none, .slc 15 0 B.m.length none, .slc 16 0 B.d.length none, .slc 17 0 B.r.length none, .int .i64 B.seen]),
  .gone, .gone, .gone, .gone, .gone, .gone, .gone, .gone, .bag φ, .arr .rrule B.o, .arr .rrule B.t, .arr .rrule B.w, .arr .rrule B.n, .arr .rrule B.f, .arr .int B.m, .arr .int B.d, .arr .int B.r]
def ct_mT (B : BS) (φ : Bag KK) : Ct KK := { need := BookOk φ B, pre := bookH B ++ [.bag φ], args := [.c (.ptr 0 0 0)], Y := BS × Bag KK, ok := fun y => BookOk y.2 y.1 ∧ SameB B y.1 ∧ Stays φ B.bk y.2 y.1.bk, ret := fun _ => .tup [], post := fun y => bookM y.1 y.2 }
/-- The book while its waiting lists (ws, ..) are gone through. -/
def mkH (B : BS) (ws ns : List RS) (ms ds : List Int) (φ : Bag KK) : VH KK :=
  [.cells 44 (bookC false false B.turn B.deep [.slc 10 0 B.o.length none, .slc 11 0 B.t.length none, .slc 18 0 B.w.length none, .slc 19 0 B.n.length none, .slc 12 0 B.f.length none, .slc 20 0 B.m.length none, .slc 21 0 B.d.length none, .slc 13 0 B.r.length none, .int .i64 B.seen]),
   .gone, .gone, .gone, .gone, .gone, .gone, .gone, .gone, .bag φ, .arr .rrule B.o, .arr .rrule B.t, .arr .rrule B.f, .arr .int B.r, .arr .rrule ws, .arr .rrule ns, .arr .int ms, .arr .int ds, .arr .rrule B.w, .arr .rrule B.n, .arr .int B.m, .arr .int B.d]
def mkFr (ws ns : List RS) (ms ds : List Int) (k : Int) : List VV := [.c (.ptr 0 0 0), .any, .c (.slc 14 0 ws.length none), .c (.slc 15 0 ns.length none), .c (.slc 16 0 ms.length none), .c (.slc 17 0 ds.length none), i64 k]
def BS.rest (B : BS) (ws ns : List RS) (ms ds : List Int) (k : Nat) : BS := { B with w := B.w ++ ws.drop k, n := B.n ++ ns.drop k, m := B.m ++ ms.drop k, d := B.d ++ ds.drop k }
def inv_mT (B : BS) (φ : Bag KK) : Inv KK := { X := BS × Bag KK × Nat, fr := fun z => mkFr B.w B.n B.m B.d z.2.2 ++ anys 182, H := fun z => mkH z.1 B.w B.n B.m B.d z.2.1, ok := fun z => z.2.2 ≤ B.w.length ∧ BookOk z.2.1 (z.1.rest B.w B.n B.m B.d z.2.2) ∧ z.1.w.length = z.1.n.length ∧ z.1.m.length = z.1.w.length ∧ z.1.d.length = z.1.w.length ∧ SameB B z.1 ∧ Stays φ B.bk z.2.1 (z.1.rest B.w B.n B.m B.d z.2.2).bk, meas := fun z => B.w.length - z.2.2 }
def inv_mTi (B : BS) (ws ns : List RS) (ms ds : List Int) (k : Int) (x : RS) (mark : Int) (φ : Bag KK) : Inv KK := { X := Nat × Bag KK, fr := fun z => mkFr ws ns ms ds k ++ ([.c (.rs 57 2 x), i64 mark, i64 z.1] ++ anys 179), H := fun z => mkH B ws ns ms ds z.2, ok := fun z => z.1 ≤ x.len ∧ BkOk z.2 Kd.rule 1000000 (B.rest ws ns ms ds (k.toNat + 1)).bk ∧ Alone z.2 Kd.rule 1000000 (B.rest ws ns ms ds (k.toNat + 1)).bk x ∧ HasTab z.2 ∧ Keep1 φ (B.rest ws ns ms ds (k.toNat + 1)).bk x z.2, meas := fun z => x.len - z.1 }
def ann_mT (B : BS) (φ : Bag KK) : Ann KK := { loop := fun id fr H => match id with
  | 7 => some (inv_mT B φ)
  | _ => match fr.getD 6 .any, fr.getD 7 .any, fr.getD 8 .any, at_ H 0, at_ H 9, at_ H 10, at_ H 11, at_ H 12, at_ H 13, at_ H 18, at_ H 19, at_ H 20, at_ H 21 with
    | .one (.c (.int _ k)), .one (.c (.rs _ _ x)), .one (.c (.int _ mark)), .cells _ (.bool _ :: .bool _ :: .int _ turn :: .int _ deep :: cs), .bag φ1, .arr .rrule o, .arr .rrule t, .arr .rrule f, .arr .int r, .arr .rrule w, .arr .rrule n, .arr .int m, .arr .int d =>
      match cs.getD 89 .nils with
      | .int _ seen => some (inv_mTi ⟨turn, deep, o, t, w, n, f, m, d, r, seen⟩ B.w B.n B.m B.d k x mark φ1)
      | _ => none
    | _, _, _, _, _, _, _, _, _, _, _, _, _ => none, cut := fun _ _ _ => none, keep := some 10 }
def tabB : Tab Tryz.prog KK := ⟨mixed, fun f args H => match f, args with
  | 64, [.one (.c (.rs _ _ x)), .one (.c (.rs _ _ y))] => match at_ H 9 with
    | .bag φ => some (ct_sameT x y φ, [], [9])
    | _ => none
  | _, _ => none, fun f args H ct ks τ h => by
    split at h
    · split at h
      · cases h; exact sameT_ok _ _ _
      · cases h
    · cases h⟩
theorem vc_mT (B : BS) (φ : Bag KK) : evFn tabB (ann_mT B φ) Tryz.f103 (ct_mT B φ) = ( ite2 (decide ((↑B.w.length : Int) = (0 : Int))) (EndsAs 10 (ct_mT B φ) (VV.tup []) [Atom.cells 44 (bookC false false B.turn B.deep [C.slc 1 0 B.o.length none, C.slc 2 0 B.t.length none, C.slc 3 0 B.w.length
 none, C.slc 4 0 B.n.length none, C.slc 5 0 B.f.length none, C.slc 6 0 B.m.length none, C.slc 7 0 B.d.length none, C.slc 8 0 B.r.length none, C.int .i64 B.seen]), Atom.arr Kd.rrule B.o, Atom.arr Kd.rrule
 B.t, Atom.arr Kd.rrule B.w, Atom.arr Kd.rrule B.n, Atom.arr Kd.rrule B.f, Atom.arr Kd.int B.m, Atom.arr Kd.int B.d, Atom.arr Kd.int B.r, Atom.bag φ]) (Enter 10 (inv_mT B φ) (fun (x : BS × Bag KK × Nat)
 => True) ([VV.one (V1.c (C.ptr 0 0 0)), VV.any, VV.one (V1.c (C.slc 3 0 B.w.length none)), VV.one (V1.c (C.slc 4 0 B.n.length none)), VV.one (V1.c (C.slc 6 0 B.m.length none)), VV.one (V1.c (C.slc 7 0
 B.d.length none)), i64 (0 : Int)] ++ anys 182) [Atom.cells 44 (bookC false false B.turn B.deep [C.slc 1 0 B.o.length none, C.slc 2 0 B.t.length none, C.nils, C.nils, C.slc 5 0 B.f.length none, C.nils,
 C.nils, C.slc 8 0 B.r.length none, C.int .i64 B.seen]), Atom.arr Kd.rrule B.o, Atom.arr Kd.rrule B.t, Atom.arr Kd.rrule B.w, Atom.arr Kd.rrule B.n, Atom.arr Kd.rrule B.f, Atom.arr Kd.int B.m, Atom.arr
 Kd.int B.d, Atom.arr Kd.int B.r, Atom.bag φ] ∧ ∀ (z : BS × Bag KK × Nat), (z.snd.snd ≤ B.w.length ∧ BookOk z.snd.fst (BS.mk (z.fst.turn) (z.fst.deep) (z.fst.o) (z.fst.t) (z.fst.w ++ List.drop z.snd.snd
 B.w) (z.fst.n ++ List.drop z.snd.snd B.n) (z.fst.f) (z.fst.m ++ List.drop z.snd.snd B.m) (z.fst.d ++ List.drop z.snd.snd B.d) (z.fst.r) (z.fst.seen)) ∧ z.fst.w.length = z.fst.n.length ∧ z.fst.m.length
 = z.fst.w.length ∧ z.fst.d.length = z.fst.w.length ∧ (z.fst.turn = B.turn ∧ z.fst.deep = B.deep ∧ z.fst.seen = B.seen) ∧ ∀ (b : Nat) (i : BI KK), φ b = some i → (∀ (y : RS), List.Mem y (B.o ++ (B.t ++
 (B.w ++ (B.n ++ B.f)))) → ¬y.At b) → z.snd.fst b = some i ∧ ∀ (y : RS), List.Mem y (z.fst.o ++ (z.fst.t ++ (z.fst.w ++ List.drop z.snd.snd B.w ++ (z.fst.n ++ List.drop z.snd.snd B.n ++ z.fst.f)))) → ¬y.At
 b) → ite2 (decide ((↑z.snd.snd : Int) < (↑B.w.length : Int))) (((0 : Int) ≤ (↑z.snd.snd : Int) ∧ (↑z.snd.snd : Int) < (↑B.w.length : Int)) ∧ (↑z.snd.snd : Int).toNat < B.w.length ∧ True ∧ (↑z.snd.snd :
 Int).toNat < B.w.length ∧ ((0 : Int) ≤ (↑z.snd.snd : Int) ∧ (↑z.snd.snd : Int) < (↑B.m.length : Int)) ∧ (↑z.snd.snd : Int).toNat < B.m.length ∧ True ∧ (↑z.snd.snd : Int).toNat < B.m.length ∧ ((0 : Int)
 ≤ (↑z.snd.snd : Int) ∧ (↑z.snd.snd : Int) < (↑B.d.length : Int)) ∧ (↑z.snd.snd : Int).toNat < B.d.length ∧ True ∧ (↑z.snd.snd : Int).toNat < B.d.length ∧ ite2 (decide (z.fst.turn < rd B.d (↑z.snd.snd :
 Int).toNat (0 : Int))) (True ∧ z.fst.w.length = z.fst.w.length ∧ (1 ≤ 1 ∧ True) ∧ (z.fst.w.length + 1) * 24 ≤ 140737488355328 ∧ ((0 : Int) ≤ (↑z.snd.snd : Int) ∧ (↑z.snd.snd : Int) < (↑B.n.length : Int))
 ∧ (↑z.snd.snd : Int).toNat < B.n.length ∧ True ∧ (↑z.snd.snd : Int).toNat < B.n.length ∧ True ∧ (VV.one (V1.c (C.slc 19 0 z.fst.n.length none)) = VV.one (V1.c (C.slc 19 0 z.fst.n.length none)) ∧ True)
 ∧ z.fst.n.length = z.fst.n.length ∧ (1 ≤ 1 ∧ True) ∧ (z.fst.n.length + 1) * 24 ≤ 140737488355328 ∧ True ∧ True ∧ z.fst.m.length = z.fst.m.length ∧ (1 ≤ 1 ∧ True) ∧ (z.fst.m.length + 1) * 8 ≤ 140737488355328
 ∧ ((0 : Int) ≤ (↑z.snd.snd : Int) ∧ (↑z.snd.snd : Int) < (↑B.d.length : Int)) ∧ (↑z.snd.snd : Int).toNat < B.d.length ∧ True ∧ (↑z.snd.snd : Int).toNat < B.d.length ∧ True ∧ (VV.one (V1.c (C.slc 21 0 z.fst.d.length
 none)) = VV.one (V1.c (C.slc 21 0 z.fst.d.length none)) ∧ True) ∧ z.fst.d.length = z.fst.d.length ∧ (1 ≤ 1 ∧ True) ∧ (z.fst.d.length + 1) * 8 ≤ 140737488355328 ∧ True ∧ True ∧ i64ok ((↑z.snd.snd : Int)
 + (1 : Int)) ∧ Enter 10 (inv_mT B φ) (fun (z' : BS × Bag KK × Nat) => B.w.length - z'.snd.snd < B.w.length - z.snd.snd) ([VV.one (V1.c (C.ptr 0 0 0)), VV.any, VV.one (V1.c (C.slc 14 0 B.w.length none)),
 VV.one (V1.c (C.slc 15 0 B.n.length none)), VV.one (V1.c (C.slc 16 0 B.m.length none)), VV.one (V1.c (C.slc 17 0 B.d.length none)), VV.one (V1.c (C.int .i64 ((↑z.snd.snd : Int) + (1 : Int)))), VV.one (V1.c
 (C.rs 57 2 (rd B.w (↑z.snd.snd : Int).toNat RS.nil))), VV.one (V1.c (C.int .i64 (rd B.m (↑z.snd.snd : Int).toNat (0 : Int))))] ++ anys 180) [Atom.cells 44 (bookC false false z.fst.turn z.fst.deep [C.slc
 10 0 z.fst.o.length none, C.slc 11 0 z.fst.t.length none, C.slc 23 0 (z.fst.w.length + 1) none, C.slc 25 0 (z.fst.n.length + 1) none, C.slc 12 0 z.fst.f.length none, C.slc 27 0 (z.fst.m.length + 1) none,
 C.slc 29 0 (z.fst.d.length + 1) none, C.slc 13 0 z.fst.r.length none, C.int .i64 z.fst.seen]), Atom.gone, Atom.gone, Atom.gone, Atom.gone, Atom.gone, Atom.gone, Atom.gone, Atom.gone, Atom.bag z.snd.fst,
 Atom.arr Kd.rrule z.fst.o, Atom.arr Kd.rrule z.fst.t, Atom.arr Kd.rrule z.fst.f, Atom.arr Kd.int z.fst.r, Atom.arr Kd.rrule B.w, Atom.arr Kd.rrule B.n, Atom.arr Kd.int B.m, Atom.arr Kd.int B.d, Atom.gone,
 Atom.gone, Atom.gone, Atom.gone, Atom.arr Kd.rrule [rd B.w (↑z.snd.snd : Int).toNat RS.nil], Atom.arr Kd.rrule (z.fst.w ++ [rd B.w (↑z.snd.snd : Int).toNat RS.nil]), Atom.arr Kd.rrule [rd B.n (↑z.snd.snd
 : Int).toNat RS.nil], Atom.arr Kd.rrule (z.fst.n ++ [rd B.n (↑z.snd.snd : Int).toNat RS.nil]), Atom.arr Kd.int [rd B.m (↑z.snd.snd : Int).toNat (0 : Int)], Atom.arr Kd.int (z.fst.m ++ [rd B.m (↑z.snd.snd
 : Int).toNat (0 : Int)]), Atom.arr Kd.int [rd B.d (↑z.snd.snd : Int).toNat (0 : Int)], Atom.arr Kd.int (z.fst.d ++ [rd B.d (↑z.snd.snd : Int).toNat (0 : Int)])]) (True ∧ ((0 : Int) ≤ (↑z.snd.snd : Int)
 ∧ (↑z.snd.snd : Int) < (↑B.n.length : Int)) ∧ (↑z.snd.snd : Int).toNat < B.n.length ∧ True ∧ (↑z.snd.snd : Int).toNat < B.n.length ∧ (∃ (xs : List (KK.α Kd.rule)), RS.row z.snd.fst Kd.rule (rd B.w (↑z.snd.snd
 : Int).toNat RS.nil) = some xs ∧ RS.row z.snd.fst Kd.rule (rd B.n (↑z.snd.snd : Int).toNat RS.nil) = some xs ∧ xs.length ≤ 1000000000) ∧ Into (K := KK) 0 [] [9] [VV.one (V1.c (C.rs 57 2 (rd B.w (↑z.snd.snd
 : Int).toNat RS.nil))), VV.one (V1.c (C.rs 57 2 (rd B.n (↑z.snd.snd : Int).toNat RS.nil)))] [Atom.cells 44 (bookC false false z.fst.turn z.fst.deep [C.slc 10 0 z.fst.o.length none, C.slc 11 0 z.fst.t.length
 none, C.slc 18 0 z.fst.w.length none, C.slc 19 0 z.fst.n.length none, C.slc 12 0 z.fst.f.length none, C.slc 20 0 z.fst.m.length none, C.slc 21 0 z.fst.d.length none, C.slc 13 0 z.fst.r.length none, C.int
 .i64 z.fst.seen]), Atom.gone, Atom.gone, Atom.gone, Atom.gone, Atom.gone, Atom.gone, Atom.gone, Atom.gone, Atom.bag z.snd.fst, Atom.arr Kd.rrule z.fst.o, Atom.arr Kd.rrule z.fst.t, Atom.arr Kd.rrule z.fst.f,
 Atom.arr Kd.int z.fst.r, Atom.arr Kd.rrule B.w, Atom.arr Kd.rrule B.n, Atom.arr Kd.int B.m, Atom.arr Kd.int B.d, Atom.arr Kd.rrule z.fst.w, Atom.arr Kd.rrule z.fst.n, Atom.arr Kd.int z.fst.m, Atom.arr
 Kd.int z.fst.d] [VV.one (V1.c (C.rs 57 2 (rd B.w (↑z.snd.snd : Int).toNat RS.nil))), VV.one (V1.c (C.rs 57 2 (rd B.n (↑z.snd.snd : Int).toNat RS.nil)))] [Atom.bag z.snd.fst] ∧ ∀ (y : Unit), True → Enter
 10 (inv_mTi (BS.mk (z.fst.turn) (z.fst.deep) (z.fst.o) (z.fst.t) (z.fst.w) (z.fst.n) (z.fst.f) (z.fst.m) (z.fst.d) (z.fst.r) (z.fst.seen)) B.w B.n B.m B.d (↑z.snd.snd : Int) (rd B.w (↑z.snd.snd : Int).toNat
 RS.nil) (rd B.m (↑z.snd.snd : Int).toNat (0 : Int)) z.snd.fst) (fun (x : Nat × Bag KK) => True) ([VV.one (V1.c (C.ptr 0 0 0)), VV.any, VV.one (V1.c (C.slc 14 0 B.w.length none)), VV.one (V1.c (C.slc 15
 0 B.n.length none)), VV.one (V1.c (C.slc 16 0 B.m.length none)), VV.one (V1.c (C.slc 17 0 B.d.length none)), i64 (↑z.snd.snd : Int), VV.one (V1.c (C.rs 57 2 (rd B.w (↑z.snd.snd : Int).toNat RS.nil))),
 i64 (rd B.m (↑z.snd.snd : Int).toNat (0 : Int)), i64 (0 : Int)] ++ anys 179) [Atom.cells 44 (bookC false false z.fst.turn z.fst.deep [C.slc 10 0 z.fst.o.length none, C.slc 11 0 z.fst.t.length none, C.slc
 18 0 z.fst.w.length none, C.slc 19 0 z.fst.n.length none, C.slc 12 0 z.fst.f.length none, C.slc 20 0 z.fst.m.length none, C.slc 21 0 z.fst.d.length none, C.slc 13 0 z.fst.r.length none, C.int .i64 z.fst.seen]),
 Atom.gone, Atom.gone, Atom.gone, Atom.gone, Atom.gone, Atom.gone, Atom.gone, Atom.gone, Atom.bag z.snd.fst, Atom.arr Kd.rrule z.fst.o, Atom.arr Kd.rrule z.fst.t, Atom.arr Kd.rrule z.fst.f, Atom.arr Kd.int
 z.fst.r, Atom.arr Kd.rrule B.w, Atom.arr Kd.rrule B.n, Atom.arr Kd.int B.m, Atom.arr Kd.int B.d, Atom.arr Kd.rrule z.fst.w, Atom.arr Kd.rrule z.fst.n, Atom.arr Kd.int z.fst.m, Atom.arr Kd.int z.fst.d]
 ∧ ∀ (z_1 : Nat × Bag KK), (z_1.fst ≤ RS.len (rd B.w (↑z.snd.snd : Int).toNat RS.nil) ∧ BkOk z_1.snd Kd.rule 1000000 (Bk.mk (z.fst.o) (z.fst.t) (z.fst.w ++ List.drop ((↑z.snd.snd : Int).toNat + 1) B.w)
 (z.fst.n ++ List.drop ((↑z.snd.snd : Int).toNat + 1) B.n) (z.fst.f)) ∧ Alone z_1.snd Kd.rule 1000000 (Bk.mk (z.fst.o) (z.fst.t) (z.fst.w ++ List.drop ((↑z.snd.snd : Int).toNat + 1) B.w) (z.fst.n ++ List.drop
 ((↑z.snd.snd : Int).toNat + 1) B.n) (z.fst.f)) (rd B.w (↑z.snd.snd : Int).toNat RS.nil) ∧ HasTab z_1.snd ∧ ∀ (b : Nat) (i : BI KK), z.snd.fst b = some i → (∀ (y : RS), List.Mem y (z.fst.o ++ (z.fst.t ++
 (z.fst.w ++ List.drop ((↑z.snd.snd : Int).toNat + 1) B.w ++ (z.fst.n ++ List.drop ((↑z.snd.snd : Int).toNat + 1) B.n ++ z.fst.f)))) → ¬y.At b) → ¬RS.At (rd B.w (↑z.snd.snd : Int).toNat RS.nil) b → z_1.snd
 b = some i) → ite2 (decide ((↑z_1.fst : Int) < (↑(RS.len (rd B.w (↑z.snd.snd : Int).toNat RS.nil)) : Int))) (i64ok ((3 : Int) * (↑z_1.fst : Int)) ∧ i64ok (rd B.m (↑z.snd.snd : Int).toNat (0 : Int) + (3
 : Int) * (↑z_1.fst : Int)) ∧ ((0 : Int) ≤ (↑z_1.fst : Int) ∧ (↑z_1.fst : Int) < (↑(RS.len (rd B.w (↑z.snd.snd : Int).toNat RS.nil)) : Int)) ∧ ∃ (cap : Nat), ∃ (xs : List (KK.α Kd.rule)), z_1.snd (RS.blk
 (rd B.w (↑z.snd.snd : Int).toNat RS.nil)) = some (BI.row Kd.rule cap xs) ∧ RS.lo (rd B.w (↑z.snd.snd : Int).toNat RS.nil) + (↑z_1.fst : Int).toNat < xs.length ∧ i64ok ((↑z_1.fst : Int) + (1 : Int)) ∧ Enter
 10 (inv_mTi (BS.mk (z.fst.turn) (z.fst.deep) (z.fst.o) (z.fst.t) (z.fst.w) (z.fst.n) (z.fst.f) (z.fst.m) (z.fst.d) (z.fst.r) (z.fst.seen)) B.w B.n B.m B.d (↑z.snd.snd : Int) (rd B.w (↑z.snd.snd : Int).toNat
 RS.nil) (rd B.m (↑z.snd.snd : Int).toNat (0 : Int)) z.snd.fst) (fun (z' : Nat × Bag KK) => RS.len (rd B.w (↑z.snd.snd : Int).toNat RS.nil) - z'.fst < RS.len (rd B.w (↑z.snd.snd : Int).toNat RS.nil) - z_1.fst)
 ([VV.one (V1.c (C.ptr 0 0 0)), VV.any, VV.one (V1.c (C.slc 14 0 B.w.length none)), VV.one (V1.c (C.slc 15 0 B.n.length none)), VV.one (V1.c (C.slc 16 0 B.m.length none)), VV.one (V1.c (C.slc 17 0 B.d.length
 none)), i64 (↑z.snd.snd : Int), VV.one (V1.c (C.rs 57 2 (rd B.w (↑z.snd.snd : Int).toNat RS.nil))), VV.one (V1.c (C.int .i64 (rd B.m (↑z.snd.snd : Int).toNat (0 : Int)))), i64 ((↑z_1.fst : Int) + (1 :
 Int))] ++ anys 179) [Atom.cells 44 (bookC false false z.fst.turn z.fst.deep [C.slc 10 0 z.fst.o.length none, C.slc 11 0 z.fst.t.length none, C.slc 18 0 z.fst.w.length none, C.slc 19 0 z.fst.n.length none,
 C.slc 12 0 z.fst.f.length none, C.slc 20 0 z.fst.m.length none, C.slc 21 0 z.fst.d.length none, C.slc 13 0 z.fst.r.length none, C.int .i64 z.fst.seen]), Atom.gone, Atom.gone, Atom.gone, Atom.gone, Atom.gone,
 Atom.gone, Atom.gone, Atom.gone, Atom.bag (bput z_1.snd (RS.blk (rd B.w (↑z.snd.snd : Int).toNat RS.nil)) (BI.row Kd.rule cap (xs.set (RS.lo (rd B.w (↑z.snd.snd : Int).toNat RS.nil) + (↑z_1.fst : Int).toNat)
 (rd B.m (↑z.snd.snd : Int).toNat (0 : Int) + (3 : Int) * (↑z_1.fst : Int), (ByteArray.mk (#[])))))), Atom.arr Kd.rrule z.fst.o, Atom.arr Kd.rrule z.fst.t, Atom.arr Kd.rrule z.fst.f, Atom.arr Kd.int z.fst.r,
 Atom.arr Kd.rrule B.w, Atom.arr Kd.rrule B.n, Atom.arr Kd.int B.m, Atom.arr Kd.int B.d, Atom.arr Kd.rrule z.fst.w, Atom.arr Kd.rrule z.fst.n, Atom.arr Kd.int z.fst.m, Atom.arr Kd.int z.fst.d]) (z.fst.o.length
 = z.fst.o.length ∧ (1 ≤ 1 ∧ True) ∧ (z.fst.o.length + 1) * 24 ≤ 140737488355328 ∧ True ∧ (VV.one (V1.c (C.slc 11 0 z.fst.t.length none)) = VV.one (V1.c (C.slc 11 0 z.fst.t.length none)) ∧ True) ∧ 0 = 0
 ∧ ∃ (ys : List (KK.α Kd.rule)), RS.row z_1.snd Kd.rule (rd B.w (↑z.snd.snd : Int).toNat RS.nil) = some ys ∧ (0 + ys.length) * 24 ≤ 140737488355328 ∧ (VV.one (V1.c (C.slc 11 0 z.fst.t.length none)) = VV.one
 (V1.c (C.slc 11 0 z.fst.t.length none)) ∧ True) ∧ 0 + ys.length = ys.length ∧ (ys = [] → (VV.one (V1.c (C.slc 11 0 z.fst.t.length none)) = VV.one (V1.c (C.slc 11 0 z.fst.t.length none)) ∧ True) ∧ z.fst.t.length
 = z.fst.t.length ∧ (1 ≤ 1 ∧ True) ∧ (z.fst.t.length + 1) * 24 ≤ 140737488355328 ∧ True ∧ True ∧ z.fst.f.length = z.fst.f.length ∧ (1 ≤ 1 ∧ True) ∧ (z.fst.f.length + 1) * 24 ≤ 140737488355328 ∧ z.fst.r.length
 = z.fst.r.length ∧ (1 ≤ 1 ∧ True) ∧ (z.fst.r.length + 1) * 8 ≤ 140737488355328 ∧ i64ok ((↑z.snd.snd : Int) + (1 : Int)) ∧ Enter 10 (inv_mT B φ) (fun (z' : BS × Bag KK × Nat) => B.w.length - z'.snd.snd
 < B.w.length - z.snd.snd) ([VV.one (V1.c (C.ptr 0 0 0)), VV.any, VV.one (V1.c (C.slc 14 0 B.w.length none)), VV.one (V1.c (C.slc 15 0 B.n.length none)), VV.one (V1.c (C.slc 16 0 B.m.length none)), VV.one
 (V1.c (C.slc 17 0 B.d.length none)), VV.one (V1.c (C.int .i64 ((↑z.snd.snd : Int) + (1 : Int)))), VV.one (V1.c (C.rs 57 2 (rd B.w (↑z.snd.snd : Int).toNat RS.nil))), VV.one (V1.c (C.int .i64 (rd B.m (↑z.snd.snd
 : Int).toNat (0 : Int)))), VV.one (V1.c (C.int .i64 (↑z_1.fst : Int)))] ++ anys 179) [Atom.cells 44 (bookC false false z.fst.turn z.fst.deep [C.slc 23 0 (z.fst.o.length + 1) none, C.slc 27 0 (z.fst.t.length
 + 1) none, C.slc 18 0 z.fst.w.length none, C.slc 19 0 z.fst.n.length none, C.slc 29 0 (z.fst.f.length + 1) none, C.slc 20 0 z.fst.m.length none, C.slc 21 0 z.fst.d.length none, C.slc 31 0 (z.fst.r.length
 + 1) none, C.int .i64 z.fst.seen]), Atom.gone, Atom.gone, Atom.gone, Atom.gone, Atom.gone, Atom.gone, Atom.gone, Atom.gone, Atom.bag z_1.snd, Atom.gone, Atom.gone, Atom.gone, Atom.gone, Atom.arr Kd.rrule
 B.w, Atom.arr Kd.rrule B.n, Atom.arr Kd.int B.m, Atom.arr Kd.int B.d, Atom.arr Kd.rrule z.fst.w, Atom.arr Kd.rrule z.fst.n, Atom.arr Kd.int z.fst.m, Atom.arr Kd.int z.fst.d, Atom.arr Kd.rrule [rd B.w (↑z.snd.snd
 : Int).toNat RS.nil], Atom.arr Kd.rrule (z.fst.o ++ [rd B.w (↑z.snd.snd : Int).toNat RS.nil]), Atom.gone, Atom.gone, Atom.arr Kd.rrule [RS.nil], Atom.arr Kd.rrule (z.fst.t ++ [RS.nil]), Atom.arr Kd.rrule
 [rd B.w (↑z.snd.snd : Int).toNat RS.nil], Atom.arr Kd.rrule (z.fst.f ++ [rd B.w (↑z.snd.snd : Int).toNat RS.nil]), Atom.arr Kd.int [rd B.m (↑z.snd.snd : Int).toNat (0 : Int)], Atom.arr Kd.int (z.fst.r
 ++ [rd B.m (↑z.snd.snd : Int).toNat (0 : Int)])]) ∧ ∀ (b c : Nat), z_1.snd b = none → ys.length ≤ c → (VV.one (V1.c (C.slc 11 0 z.fst.t.length none)) = VV.one (V1.c (C.slc 11 0 z.fst.t.length none)) ∧
 True) ∧ z.fst.t.length = z.fst.t.length ∧ (1 ≤ 1 ∧ True) ∧ (z.fst.t.length + 1) * 24 ≤ 140737488355328 ∧ True ∧ True ∧ z.fst.f.length = z.fst.f.length ∧ (1 ≤ 1 ∧ True) ∧ (z.fst.f.length + 1) * 24 ≤ 140737488355328
 ∧ z.fst.r.length = z.fst.r.length ∧ (1 ≤ 1 ∧ True) ∧ (z.fst.r.length + 1) * 8 ≤ 140737488355328 ∧ i64ok ((↑z.snd.snd : Int) + (1 : Int)) ∧ Enter 10 (inv_mT B φ) (fun (z' : BS × Bag KK × Nat) => B.w.length
 - z'.snd.snd < B.w.length - z.snd.snd) ([VV.one (V1.c (C.ptr 0 0 0)), VV.any, VV.one (V1.c (C.slc 14 0 B.w.length none)), VV.one (V1.c (C.slc 15 0 B.n.length none)), VV.one (V1.c (C.slc 16 0 B.m.length
 none)), VV.one (V1.c (C.slc 17 0 B.d.length none)), VV.one (V1.c (C.int .i64 ((↑z.snd.snd : Int) + (1 : Int)))), VV.one (V1.c (C.rs 57 2 (rd B.w (↑z.snd.snd : Int).toNat RS.nil))), VV.one (V1.c (C.int
 .i64 (rd B.m (↑z.snd.snd : Int).toNat (0 : Int)))), VV.one (V1.c (C.int .i64 (↑z_1.fst : Int)))] ++ anys 179) [Atom.cells 44 (bookC false false z.fst.turn z.fst.deep [C.slc 23 0 (z.fst.o.length + 1) none,
 C.slc 27 0 (z.fst.t.length + 1) none, C.slc 18 0 z.fst.w.length none, C.slc 19 0 z.fst.n.length none, C.slc 29 0 (z.fst.f.length + 1) none, C.slc 20 0 z.fst.m.length none, C.slc 21 0 z.fst.d.length none,
 C.slc 31 0 (z.fst.r.length + 1) none, C.int .i64 z.fst.seen]), Atom.gone, Atom.gone, Atom.gone, Atom.gone, Atom.gone, Atom.gone, Atom.gone, Atom.gone, Atom.bag (bput z_1.snd b (BI.row Kd.rule c ys)), Atom.gone,
 Atom.gone, Atom.gone, Atom.gone, Atom.arr Kd.rrule B.w, Atom.arr Kd.rrule B.n, Atom.arr Kd.int B.m, Atom.arr Kd.int B.d, Atom.arr Kd.rrule z.fst.w, Atom.arr Kd.rrule z.fst.n, Atom.arr Kd.int z.fst.m, Atom.arr
 Kd.int z.fst.d, Atom.arr Kd.rrule [rd B.w (↑z.snd.snd : Int).toNat RS.nil], Atom.arr Kd.rrule (z.fst.o ++ [rd B.w (↑z.snd.snd : Int).toNat RS.nil]), Atom.gone, Atom.gone, Atom.arr Kd.rrule [RS.mk b 0 (0
 + ys.length) c], Atom.arr Kd.rrule (z.fst.t ++ [RS.mk b 0 (0 + ys.length) c]), Atom.arr Kd.rrule [rd B.w (↑z.snd.snd : Int).toNat RS.nil], Atom.arr Kd.rrule (z.fst.f ++ [rd B.w (↑z.snd.snd : Int).toNat
 RS.nil]), Atom.arr Kd.int [rd B.m (↑z.snd.snd : Int).toNat (0 : Int)], Atom.arr Kd.int (z.fst.r ++ [rd B.m (↑z.snd.snd : Int).toNat (0 : Int)])]))) (EndsAs 10 (ct_mT B φ) (VV.tup []) [Atom.cells 44 (bookC
 false false z.fst.turn z.fst.deep [C.slc 10 0 z.fst.o.length none, C.slc 11 0 z.fst.t.length none, C.slc 18 0 z.fst.w.length none, C.slc 19 0 z.fst.n.length none, C.slc 12 0 z.fst.f.length none, C.slc
 20 0 z.fst.m.length none, C.slc 21 0 z.fst.d.length none, C.slc 13 0 z.fst.r.length none, C.int .i64 z.fst.seen]), Atom.gone, Atom.gone, Atom.gone, Atom.gone, Atom.gone, Atom.gone, Atom.gone, Atom.gone,
 Atom.bag z.snd.fst, Atom.arr Kd.rrule z.fst.o, Atom.arr Kd.rrule z.fst.t, Atom.arr Kd.rrule z.fst.f, Atom.arr Kd.int z.fst.r, Atom.arr Kd.rrule B.w, Atom.arr Kd.rrule B.n, Atom.arr Kd.int B.m, Atom.arr
 Kd.int B.d, Atom.arr Kd.rrule z.fst.w, Atom.arr Kd.rrule z.fst.n, Atom.arr Kd.int z.fst.m, Atom.arr Kd.int z.fst.d]))) := by kernel_rfl
end Go.Proofs.YtoidibkcdkdneaaGreatDoor.T
end
section
namespace Go.Proofs.YtoidibkcdkdneaaGreatDoor.T
open Go.Proofs.YtoidibkcdkdneaaGreatDoor.E
set_option maxRecDepth 100000
set_option linter.unusedVariables false
set_option linter.unusedSimpArgs false
theorem HasTab.put {φ : Bag KK} (h : HasTab φ) {b : Nat} {i : BI KK} : HasTab (bput φ b i) := by
  trivial
theorem HasTab.frz {φ φ' : Bag KK} {kd : Kd} {xs : List (KK.α kd)} {y : RS} (h : HasTab φ) (hy : Frz φ kd xs y φ') : HasTab φ' := h.ext hy.ext
theorem rest_later (B C : BS) (k : Nat) (h : k < B.w.length) (hn : B.n.length = B.w.length) (hm : B.m.length = B.w.length) (hd : B.d.length = B.w.length) :
    ({ C with w := C.w ++ [rd B.w k .nil], n := C.n ++ [rd B.n k .nil], m := C.m ++ [rd B.m k 0], d := C.d ++ [rd B.d k 0] } : BS).rest B.w B.n B.m B.d (k + 1) = C.rest B.w B.n B.m B.d k := by
  simp only [BS.rest]
  rw [drop_rd h .nil, drop_rd (show k < B.n.length by omega) .nil, drop_rd (show k < B.m.length by omega) 0, drop_rd (show k < B.d.length by omega) 0]
  simp [List.append_assoc]
theorem rest_end (B C : BS) (hn : B.n.length = B.w.length) (hm : B.m.length = B.w.length) (hd : B.d.length = B.w.length) : C.rest B.w B.n B.m B.d B.w.length = C := by
  simp only [BS.rest]
  rw [List.drop_of_length_le (Nat.le_refl _), List.drop_of_length_le (by omega), List.drop_of_length_le (by omega), List.drop_of_length_le (by omega)]
  simp
theorem len_snoc {A : Type} (l : List A) (a : A) : l.length + 1 = (l ++ [a]).length := by simp
theorem mem_drop_rd {A : Type} {l : List A} {k : Nat} (h : k < l.length) (d : A) : rd l k d ∈ l := by
  rw [rd, List.getD_eq_getElem?_getD, List.getElem?_eq_getElem h]; exact List.getElem_mem h
/-- The next list is written full. -/
theorem book_written {φ' φ'' ψ : Bag KK} {B C : BS} {k : Nat} {y : RS} {ys : List (Int × ByteArray)} (hb : BookOk φ' (C.rest B.w B.n B.m B.d k)) (h : k < B.w.length) (hn : B.n.length = B.w.length) (hm : B.m.length = B.w.length) (hd : B.d.length = B.w.length)
    (e1 : C.w.length = C.n.length) (hg : BkOk ψ Kd.rule 1000000 (C.rest B.w B.n B.m B.d (k + 1)).bk) (ha : Alone ψ Kd.rule 1000000 (C.rest B.w B.n B.m B.d (k + 1)).bk (rd B.w k .nil)) (ht : HasTab ψ) (hr : (rd B.w k .nil).row ψ Kd.rule = some ys) (hy : Frz ψ Kd.rule ys y φ'') :
    BookOk φ'' (({ C with o := C.o ++ [rd B.w k .nil], t := C.t ++ [y], f := C.f ++ [rd B.w k .nil], r := C.r ++ [rd B.m k 0] } : BS).rest B.w B.n B.m B.d (k + 1)) := by
  have mm := drop_rd (show k < B.m.length by omega) (0 : Int)
  refine ⟨hg.written ha hr hy, ht.frz hy, ?_, ?_, ?_, fun x hx => hb.mb x ?_, fun x hx => ?_, ?_, hb.few, hb.turn⟩
  · have := hb.lm
    simp only [BS.rest, List.length_append, List.length_drop] at this ⊢
    omega
  · have := hb.ld
    simp only [BS.rest, List.length_append, List.length_drop] at this ⊢
    omega
  · have := hb.lr
    simp only [BS.rest, List.length_append, List.length_singleton] at this ⊢
    omega
  · simp only [BS.rest, List.mem_append] at hx ⊢
    rcases hx with hx | hx
    · exact .inl hx
    · exact .inr (by rw [mm]; exact List.mem_cons_of_mem _ hx)
  · simp only [BS.rest, List.mem_append, List.mem_singleton] at hx
    rcases hx with hx | rfl
    · exact hb.rb x hx
    · exact hb.mb _ (by simp only [BS.rest, List.mem_append]; exact .inr (by rw [mm]; simp))
  · have := hb.cnt
    simp only [BS.rest, List.length_append, List.length_drop, List.length_singleton] at this ⊢
    omega
theorem mT_ok (B : BS) (φ : Bag KK) : CtOk Tryz.prog 103 (ct_mT B φ) := CtOk_of KK_ok tabB (ann_mT B φ) (fn := Tryz.f103) rfl (fun _ _ => rfl) fun hn => by
  have hn : BookOk φ B := hn
  have hon : B.n.length = B.w.length := (All2.length hn.good.note).symm
  have hlm := hn.lm
  have hld := hn.ld
  have hcB := hn.cnt
  have hfB := hn.few
  rw [vc_mT]
  simp only [Int.toNat_natCast, Nat.zero_add, Nat.add_zero]
  refine ite2_decide (fun h0 => ⟨(B, φ), [], [0, 1, 2, 3, 4, 5, 6, 7, 8, 9, 1, 2, 3, 4, 5, 6, 7, 8], ⟨hn, ⟨rfl, rfl, rfl⟩, Stays.refl _ _⟩, by (repeat' first | exact trivial | exact rfl | apply And.intro)⟩) (fun h0 => ⟨⟨({ B with w := [], n := [], m := [], d := [] }, φ, (0 : Nat)), [.rrule, .rrule, .int, .int], [0, 1, 2, 3, 4, 5, 6, 7, 8, 9, 1, 2, 5, 8, 3, 4, 6, 7, 10, 11, 12, 13], ⟨Nat.zero_le _, hn, rfl, rfl, rfl, ⟨rfl, rfl, rfl⟩, Stays.refl _ _⟩, trivial, into_mk (by kernel_rfl) (by (repeat' first | exact trivial | exact rfl | apply And.intro)) (by (repeat' first | exact trivial | exact rfl | apply And.intro))⟩, ?_⟩)
  rintro ⟨C, φ', k⟩ ⟨hk, hb, e1, e2, e3, hs, hst⟩
  have hs : SameB B C := hs
  have hst : Stays φ B.bk φ' (C.rest B.w B.n B.m B.d k).bk := hst
  have hb : BookOk φ' (C.rest B.w B.n B.m B.d k) := hb
  dsimp only at hk e1 e2 e3 ⊢
  have hcnt := hb.cnt
  have hfew := hb.few
  have hlo : (C.o.length : Int) + 2 * (C.w ++ B.w.drop k).length + C.f.length = 2 * C.seen := hcnt
  have hfew : C.seen ≤ 100000 := hfew
  simp only [List.length_append, List.length_drop] at hlo
  have hto : C.o.length = C.t.length := All2.length hb.good.told
  have hrf : C.r.length = C.f.length := hb.lr
  refine ite2_decide (fun hl => ?_) (fun hl => ?_)
  · have hl1 : k < B.w.length := by omega
    have hl2 : k < B.n.length := by omega
    have hl3 : k < B.m.length := by omega
    have hl4 : k < B.d.length := by omega
    refine ⟨⟨by omega, by omega⟩, hl1, trivial, hl1, ⟨by omega, by omega⟩, hl3, trivial, hl3, ⟨by omega, by omega⟩, hl4, trivial, hl4, ite2_decide (fun hdue => ?_) (fun hdue => ?_)⟩
    · exact ⟨trivial, trivial, ⟨Nat.le_refl _, trivial⟩, by omega, ⟨by omega, by omega⟩, hl2, trivial, hl2, trivial, ⟨trivial, trivial⟩, trivial, ⟨Nat.le_refl _, trivial⟩, by omega, trivial, trivial, trivial, ⟨Nat.le_refl _, trivial⟩, by omega, ⟨by omega, by omega⟩, hl4, trivial, hl4, trivial, ⟨trivial, trivial⟩, trivial, ⟨Nat.le_refl _, trivial⟩, by omega, trivial, trivial, by unfold i64ok; omega,
        ({ C with w := C.w ++ [rd B.w k .nil], n := C.n ++ [rd B.n k .nil], m := C.m ++ [rd B.m k 0], d := C.d ++ [rd B.d k 0] }, φ', (k + 1 : Nat)), [], [0, 1, 2, 3, 4, 5, 6, 7, 8, 9, 10, 11, 12, 13, 14, 15, 16, 17, 23, 25, 27, 29], ⟨hl1, by show BookOk φ' _; rw [rest_later B C k hl1 hon hlm hld]; exact hb, by simp [e1], by simp [e2], by simp [e3], hs, by have h := hst; rw [← rest_later B C k hl1 hon hlm hld] at h; exact h⟩, by show B.w.length - (k + 1) < B.w.length - k; omega,
        into_mk (by kernel_rfl) (by (repeat' first | exact trivial | exact rfl | exact len_snoc _ _ | apply And.intro)) (by (repeat' first | exact trivial | exact rfl | exact len_snoc _ _ | apply And.intro))⟩
    · have hg := hb.good
      have hg : BkOk φ' Kd.rule 1000000 ⟨C.o, C.t, C.w ++ B.w.drop k, C.n ++ B.n.drop k, C.f⟩ := hg
      rw [drop_rd hl1 .nil, drop_rd hl2 .nil] at hg
      have hst : Stays φ B.bk φ' ⟨C.o, C.t, C.w ++ B.w.drop k, C.n ++ B.n.drop k, C.f⟩ := hst
      rw [drop_rd hl1 .nil, drop_rd hl2 .nil] at hst
      obtain ⟨hg', ha, xs, x1, x2, x3⟩ := hg.take e1
      have x3' : (xs : List (Int × ByteArray)).length ≤ 1000000 := x3
      have hmk := hb.mb (rd B.m k 0) (by simp only [BS.rest, List.mem_append]; exact .inr (by rw [drop_rd hl3 0]; simp))
      refine ⟨trivial, ⟨by omega, by omega⟩, hl2, trivial, hl2, ⟨xs, x1, x2, le_big (le_150 x3)⟩, into_mk (by kernel_rfl) (by (repeat' first | exact trivial | exact rfl | apply And.intro)) (by (repeat' first | exact trivial | exact rfl | apply And.intro)), fun _ _ => ⟨⟨((0 : Nat), φ'), [], [0, 1, 2, 3, 4, 5, 6, 7, 8, 9, 10, 11, 12, 13, 14, 15, 16, 17, 18, 19, 20, 21], ⟨Nat.zero_le _, hg', ha, hb.tab, fun _ _ h _ _ => h⟩, trivial, into_mk (by kernel_rfl) (by (repeat' first | exact trivial | exact rfl | apply And.intro)) (by (repeat' first | exact trivial | exact rfl | apply And.intro))⟩, ?_⟩⟩
      rintro ⟨i, ψ⟩ ⟨hi, gg, aa, tt, kk⟩
      dsimp only at hi gg aa tt ⊢
      have kk : Keep1 φ' ⟨C.o, C.t, C.w ++ B.w.drop (k + 1), C.n ++ B.n.drop (k + 1), C.f⟩ (rd B.w k .nil) ψ := kk
      obtain ⟨zs, z1, z2, z3⟩ := aa.whole
      have hzl := RS.row_len z2
      have z3' : (zs : List (Int × ByteArray)).length ≤ 1000000 := z3
      refine ite2_decide (fun hil => ?_) (fun hil => ?_)
      · have hil1 : i < (rd B.w k RS.nil).len := by omega
        have hzb : (rd B.w k RS.nil).len ≤ 1000000 := by omega
        obtain ⟨cap, us, u1, u2, _⟩ := RS.rd z2 hil1 ((0 : Int), ByteArray.empty)
        have hne : rd B.w k RS.nil ≠ .nil := fun e => by rw [e] at hil1; simp [RS.len] at hil1
        refine ⟨by unfold i64ok; omega, by unfold i64ok; omega, ⟨by omega, by omega⟩, cap, us, u1, u2, by unfold i64ok; omega, ((i + 1 : Nat), bput ψ (rd B.w k RS.nil).blk (.row Kd.rule cap (us.set ((rd B.w k RS.nil).lo + i) ((rd B.m k 0 + 3 * i, ByteArray.empty) : Int × ByteArray)))), [], [0, 1, 2, 3, 4, 5, 6, 7, 8, 9, 10, 11, 12, 13, 14, 15, 16, 17, 18, 19, 20, 21], ⟨hil1, gg.write aa.off ⟨hne, rfl⟩, aa.write u1 hne _ _, tt.put, kk.put hne⟩, ?_, into_mk (by kernel_rfl) (by (repeat' first | exact trivial | exact rfl | apply And.intro)) (by (repeat' first | exact trivial | exact rfl | apply And.intro))⟩
        show (rd B.w k RS.nil).len - (i + 1) < (rd B.w k RS.nil).len - i
        omega
      · have key : ∀ y φ'', Frz ψ Kd.rule zs y φ'' → BookOk φ'' (({ C with o := C.o ++ [rd B.w k .nil], t := C.t ++ [y], f := C.f ++ [rd B.w k .nil], r := C.r ++ [rd B.m k 0] } : BS).rest B.w B.n B.m B.d (k + 1)) := fun y φ'' hy => book_written hb hl1 hon hlm hld e1 gg aa tt z2 hy
        have kst : ∀ y φ'', Frz ψ Kd.rule zs y φ'' → Stays φ B.bk φ'' (({ C with o := C.o ++ [rd B.w k .nil], t := C.t ++ [y], f := C.f ++ [rd B.w k .nil], r := C.r ++ [rd B.m k 0] } : BS).rest B.w B.n B.m B.d (k + 1)).bk := fun y φ'' hy => hst.trans (kk.written hy)
        refine ⟨trivial, ⟨Nat.le_refl _, trivial⟩, by omega, trivial, ⟨trivial, trivial⟩, trivial, zs, z2, le_lim (le_150 z3), ⟨trivial, trivial⟩, trivial, fun hz => ⟨⟨trivial, trivial⟩, trivial, ⟨Nat.le_refl _, trivial⟩, by omega, trivial, trivial, trivial, ⟨Nat.le_refl _, trivial⟩, by omega, trivial, ⟨Nat.le_refl _, trivial⟩, by omega, by unfold i64ok; omega,
          ({ C with o := C.o ++ [rd B.w k .nil], t := C.t ++ [.nil], f := C.f ++ [rd B.w k .nil], r := C.r ++ [rd B.m k 0] }, ψ, (k + 1 : Nat)), [], [0, 1, 2, 3, 4, 5, 6, 7, 8, 9, 23, 27, 29, 31, 14, 15, 16, 17, 18, 19, 20, 21], ⟨hl1, key _ _ (.nil_ hz), e1, e2, e3, hs, kst _ _ (.nil_ hz)⟩, by show B.w.length - (k + 1) < B.w.length - k; omega, into_mk (by kernel_rfl) (by (repeat' first | exact trivial | exact rfl | exact len_snoc _ _ | apply And.intro)) (by (repeat' first | exact trivial | exact rfl | exact len_snoc _ _ | apply And.intro))⟩, fun b c hfr hc => ⟨⟨trivial, trivial⟩, trivial, ⟨Nat.le_refl _, trivial⟩, by omega, trivial, trivial, trivial, ⟨Nat.le_refl _, trivial⟩, by omega, trivial, ⟨Nat.le_refl _, trivial⟩, by omega, by unfold i64ok; omega,
          ({ C with o := C.o ++ [rd B.w k .nil], t := C.t ++ [.mk b 0 zs.length c], f := C.f ++ [rd B.w k .nil], r := C.r ++ [rd B.m k 0] }, bput ψ b (.row Kd.rule c zs), (k + 1 : Nat)), [], [0, 1, 2, 3, 4, 5, 6, 7, 8, 9, 23, 27, 29, 31, 14, 15, 16, 17, 18, 19, 20, 21], ⟨hl1, key _ _ (.mk b c hfr hc), e1, e2, e3, hs, kst _ _ (.mk b c hfr hc)⟩, by show B.w.length - (k + 1) < B.w.length - k; omega, into_mk (by kernel_rfl) (by (repeat' first | exact trivial | exact rfl | exact len_snoc _ _ | apply And.intro)) (by (repeat' first | exact trivial | exact rfl | exact len_snoc _ _ | apply And.intro))⟩⟩
  · obtain rfl : k = B.w.length := by omega
    have hb' : BookOk φ' C := by rw [rest_end B C hon hlm hld] at hb; exact hb
    have hst' : Stays φ B.bk φ' C.bk := by have h := hst; rw [rest_end B C hon hlm hld] at h; exact h
    exact ⟨(C, φ'), [], [0, 1, 2, 3, 4, 5, 6, 7, 8, 9, 10, 11, 18, 19, 12, 20, 21, 13], ⟨hb', hs, hst'⟩, by (repeat' first | exact trivial | exact rfl | apply And.intro)⟩
end Go.Proofs.YtoidibkcdkdneaaGreatDoor.T
end
section
namespace Go.Proofs.YtoidibkcdkdneaaGreatDoor.T
open Go.Proofs.YtoidibkcdkdneaaGreatDoor.E
set_option maxRecDepth 100000
set_option linter.unusedVariables false
set_option linter.unusedSimpArgs false
def ct_gT (B : BS) (φ : Bag KK) : Ct KK := { need := BookOk φ B, pre := bookH B ++ [.bag φ], args := [.c (.ptr 0 0 0)], Y := BS × Bag KK, ok := fun y => (BookOk y.2 y.1 ∧ SameB B y.1 ∧ Stays φ B.bk y.2 y.1.bk) ∧ y.1.f = [] ∧ y.1.r = [], ret := fun _ => .tup [], post := fun y => bookM y.1 y.2 }
def gkH (B : BS) (o t : List RS) (φ : Bag KK) : VH KK :=
  [.cells 44 (bookC false false B.turn B.deep [.slc 10 0 o.length none, .slc 11 0 t.length none, .slc 3 0 B.w.length none, .slc 4 0 B.n.length none, .slc 5 0 B.f.length none, .slc 6 0 B.m.length none, .slc 7 0 B.d.length none, .slc 8 0 B.r.length none, .int .i64 B.seen]),
   .gone, .gone, .arr .rrule B.w, .arr .rrule B.n, .arr .rrule B.f, .arr .int B.m, .arr .int B.d, .arr .int B.r, .bag φ, .arr .rrule o, .arr .rrule t]
def GrowOk (B : BS) (o t : List RS) (φ : Bag KK) (k : Nat) : Prop := BkOk φ Kd.rule 1000000 ⟨o, t, B.w, B.n, B.f.drop k⟩ ∧ HasTab φ ∧ (o.length : Int) + 2 * B.w.length + (B.f.length - k : Nat) = 2 * B.seen
def inv_gT (B : BS) (φ : Bag KK) : Inv KK := { X := List RS × List RS × Bag KK × Nat, fr := fun z => [.c (.ptr 0 0 0), .any, i64 z.2.2.2] ++ anys 67, H := fun z => gkH B z.1 z.2.1 z.2.2.1, ok := fun z => z.2.2.2 ≤ B.f.length ∧ GrowOk B z.1 z.2.1 z.2.2.1 z.2.2.2 ∧ Stays φ B.bk z.2.2.1 ⟨z.1, z.2.1, B.w, B.n, B.f.drop z.2.2.2⟩, meas := fun z => B.f.length - z.2.2.2 }
def inv_gTi (B : BS) (o t : List RS) (k : Int) (mark : Int) (φ : Bag KK) : Inv KK := { X := Nat × RS × Bag KK, fr := fun z => [.c (.ptr 0 0 0), .any, i64 k, i64 mark, .c (.rs 57 2 z.2.1), i64 z.1] ++ anys 64, H := fun z => gkH B o t z.2.2, ok := fun z => z.1 ≤ 30 ∧ BkOk z.2.2 Kd.rule 1000000 ⟨o, t, B.w, B.n, B.f.drop (k.toNat + 1)⟩ ∧ Cur z.2.2 Kd.rule (1000000 + z.1) ⟨o, t, B.w, B.n, B.f.drop (k.toNat + 1)⟩ z.2.1 ∧ HasTab z.2.2 ∧ Cur1 φ ⟨o, t, B.w, B.n, B.f.drop k.toNat⟩ z.2.1 z.2.2, meas := fun z => 30 - z.1 }
def loop_gT (B : BS) (φ : Bag KK) (id : Nat) (fr : List VV) (H : VH KK) : Option (Inv KK) := match id with
  | 1 => some (inv_gT B φ)
  | _ => match fr.getD 2 .any, fr.getD 3 .any, at_ H 9, at_ H 10, at_ H 11 with
    | .one (.c (.int _ k)), .one (.c (.int _ mark)), .bag φ1, .arr .rrule o, .arr .rrule t => some (inv_gTi B o t k mark φ1)
    | _, _, _, _, _ => none
def ann_gT (B : BS) (φ : Bag KK) : Ann KK := { loop := loop_gT B φ, cut := fun _ _ _ => none, keep := some 6 }
theorem vc_gT (B : BS) (φ : Bag KK) : evFn tabB (ann_gT B φ) Tryz.f119 (ct_gT B φ) = ( Enter 10 (inv_gT B φ) (fun (x : List RS × List RS × Bag KK × Nat) => True) ([VV.one (V1.c (C.ptr 0 0 0)), VV.any, i64 (0 : Int)] ++ anys 67) [Atom.cells 44 (bookC false false B.turn B.deep [C.slc 1 0
 B.o.length none, C.slc 2 0 B.t.length none, C.slc 3 0 B.w.length none, C.slc 4 0 B.n.length none, C.slc 5 0 B.f.length none, C.slc 6 0 B.m.length none, C.slc 7 0 B.d.length none, C.slc 8 0 B.r.length none,
 C.int .i64 B.seen]), Atom.arr Kd.rrule B.o, Atom.arr Kd.rrule B.t, Atom.arr Kd.rrule B.w, Atom.arr Kd.rrule B.n, Atom.arr Kd.rrule B.f, Atom.arr Kd.int B.m, Atom.arr Kd.int B.d, Atom.arr Kd.int B.r, Atom.bag
 φ] ∧ ∀ (z : List RS × List RS × Bag KK × Nat), (z.snd.snd.snd ≤ B.f.length ∧ GrowOk B z.fst z.snd.fst z.snd.snd.fst z.snd.snd.snd ∧ ∀ (b : Nat) (i : BI KK), φ b = some i → (∀ (y : RS), List.Mem y (B.o
 ++ (B.t ++ (B.w ++ (B.n ++ B.f)))) → ¬y.At b) → z.snd.snd.fst b = some i ∧ ∀ (y : RS), List.Mem y (z.fst ++ (z.snd.fst ++ (B.w ++ (B.n ++ List.drop z.snd.snd.snd B.f)))) → ¬y.At b) → ite2 (decide ((↑z.snd.snd.snd
 : Int) < (↑B.f.length : Int))) (((0 : Int) ≤ (↑z.snd.snd.snd : Int) ∧ (↑z.snd.snd.snd : Int) < (↑B.r.length : Int)) ∧ (↑z.snd.snd.snd : Int).toNat < B.r.length ∧ True ∧ (↑z.snd.snd.snd : Int).toNat < B.r.length
 ∧ ((0 : Int) ≤ (↑z.snd.snd.snd : Int) ∧ (↑z.snd.snd.snd : Int) < (↑B.f.length : Int)) ∧ (↑z.snd.snd.snd : Int).toNat < B.f.length ∧ True ∧ (↑z.snd.snd.snd : Int).toNat < B.f.length ∧ Enter 10 (inv_gTi
 B z.fst z.snd.fst (↑z.snd.snd.snd : Int) (rd B.r (↑z.snd.snd.snd : Int).toNat (0 : Int)) z.snd.snd.fst) (fun (x : Nat × RS × Bag KK) => True) ([VV.one (V1.c (C.ptr 0 0 0)), VV.any, i64 (↑z.snd.snd.snd
 : Int), i64 (rd B.r (↑z.snd.snd.snd : Int).toNat (0 : Int)), VV.one (V1.c (C.rs 57 2 (rd B.f (↑z.snd.snd.snd : Int).toNat RS.nil))), i64 (0 : Int)] ++ anys 64) [Atom.cells 44 (bookC false false B.turn
 B.deep [C.slc 10 0 z.fst.length none, C.slc 11 0 z.snd.fst.length none, C.slc 3 0 B.w.length none, C.slc 4 0 B.n.length none, C.slc 5 0 B.f.length none, C.slc 6 0 B.m.length none, C.slc 7 0 B.d.length
 none, C.slc 8 0 B.r.length none, C.int .i64 B.seen]), Atom.gone, Atom.gone, Atom.arr Kd.rrule B.w, Atom.arr Kd.rrule B.n, Atom.arr Kd.rrule B.f, Atom.arr Kd.int B.m, Atom.arr Kd.int B.d, Atom.arr Kd.int
 B.r, Atom.bag z.snd.snd.fst, Atom.arr Kd.rrule z.fst, Atom.arr Kd.rrule z.snd.fst] ∧ ∀ (z_1 : Nat × RS × Bag KK), (z_1.fst ≤ 30 ∧ BkOk z_1.snd.snd Kd.rule 1000000 (Bk.mk (z.fst) (z.snd.fst) (B.w) (B.n)
 (List.drop ((↑z.snd.snd.snd : Int).toNat + 1) B.f)) ∧ Cur z_1.snd.snd Kd.rule (1000000 + z_1.fst) (Bk.mk (z.fst) (z.snd.fst) (B.w) (B.n) (List.drop ((↑z.snd.snd.snd : Int).toNat + 1) B.f)) z_1.snd.fst
 ∧ HasTab z_1.snd.snd ∧ ∀ (b : Nat) (i : BI KK), z.snd.snd.fst b = some i → (∀ (y : RS), List.Mem y (z.fst ++ (z.snd.fst ++ (B.w ++ (B.n ++ List.drop (↑z.snd.snd.snd : Int).toNat B.f)))) → ¬y.At b) → z_1.snd.snd
 b = some i ∧ ¬z_1.snd.fst.At b) → ite2 (decide ((↑z_1.fst : Int) < (30 : Int))) (i64ok (rd B.r (↑z.snd.snd.snd : Int).toNat (0 : Int) + (6 : Int)) ∧ i64ok ((5 : Int) * (↑z_1.fst : Int)) ∧ i64ok (rd B.r
 (↑z.snd.snd.snd : Int).toNat (0 : Int) + (6 : Int) + (5 : Int) * (↑z_1.fst : Int)) ∧ (1 ≤ 1 ∧ True) ∧ ∃ (xs : List (KK.α Kd.rule)), RS.full z_1.snd.snd Kd.rule z_1.snd.fst = some xs ∧ (xs.length + 1) *
 24 ≤ 140737488355328 ∧ ∀ (g' : RS) (φ' : Nat → Option (BI KK)), App z_1.snd.snd Kd.rule xs [(rd B.r (↑z.snd.snd.snd : Int).toNat (0 : Int) + (6 : Int) + (5 : Int) * (↑z_1.fst : Int), (ByteArray.mk (#[])))]
 z_1.snd.fst g' φ' → i64ok ((↑z_1.fst : Int) + (1 : Int)) ∧ Enter 10 (inv_gTi B z.fst z.snd.fst (↑z.snd.snd.snd : Int) (rd B.r (↑z.snd.snd.snd : Int).toNat (0 : Int)) z.snd.snd.fst) (fun (z' : Nat × RS
 × Bag KK) => 30 - z'.fst < 30 - z_1.fst) ([VV.one (V1.c (C.ptr 0 0 0)), VV.any, i64 (↑z.snd.snd.snd : Int), i64 (rd B.r (↑z.snd.snd.snd : Int).toNat (0 : Int)), VV.one (V1.c (C.rs 57 2 g')), i64 ((↑z_1.fst
 : Int) + (1 : Int))] ++ anys 64) [Atom.cells 44 (bookC false false B.turn B.deep [C.slc 10 0 z.fst.length none, C.slc 11 0 z.snd.fst.length none, C.slc 3 0 B.w.length none, C.slc 4 0 B.n.length none, C.slc
 5 0 B.f.length none, C.slc 6 0 B.m.length none, C.slc 7 0 B.d.length none, C.slc 8 0 B.r.length none, C.int .i64 B.seen]), Atom.gone, Atom.gone, Atom.arr Kd.rrule B.w, Atom.arr Kd.rrule B.n, Atom.arr Kd.rrule
 B.f, Atom.arr Kd.int B.m, Atom.arr Kd.int B.d, Atom.arr Kd.int B.r, Atom.bag φ', Atom.arr Kd.rrule z.fst, Atom.arr Kd.rrule z.snd.fst, Atom.arr Kd.rule [(rd B.r (↑z.snd.snd.snd : Int).toNat (0 : Int) +
 (6 : Int) + (5 : Int) * (↑z_1.fst : Int), (ByteArray.mk (#[])))]]) (z.fst.length = z.fst.length ∧ (1 ≤ 1 ∧ True) ∧ (z.fst.length + 1) * 24 ≤ 140737488355328 ∧ True ∧ (VV.one (V1.c (C.slc 11 0 z.snd.fst.length
 none)) = VV.one (V1.c (C.slc 11 0 z.snd.fst.length none)) ∧ True) ∧ 0 = 0 ∧ ∃ (ys : List (KK.α Kd.rule)), RS.row z_1.snd.snd Kd.rule z_1.snd.fst = some ys ∧ (0 + ys.length) * 24 ≤ 140737488355328 ∧ (VV.one
 (V1.c (C.slc 11 0 z.snd.fst.length none)) = VV.one (V1.c (C.slc 11 0 z.snd.fst.length none)) ∧ True) ∧ 0 + ys.length = ys.length ∧ (ys = [] → (VV.one (V1.c (C.slc 11 0 z.snd.fst.length none)) = VV.one
 (V1.c (C.slc 11 0 z.snd.fst.length none)) ∧ True) ∧ z.snd.fst.length = z.snd.fst.length ∧ (1 ≤ 1 ∧ True) ∧ (z.snd.fst.length + 1) * 24 ≤ 140737488355328 ∧ True ∧ True ∧ i64ok ((↑z.snd.snd.snd : Int) +
 (1 : Int)) ∧ Enter 10 (inv_gT B φ) (fun (z' : List RS × List RS × Bag KK × Nat) => B.f.length - z'.snd.snd.snd < B.f.length - z.snd.snd.snd) ([VV.one (V1.c (C.ptr 0 0 0)), VV.any, i64 ((↑z.snd.snd.snd
 : Int) + (1 : Int)), i64 (rd B.r (↑z.snd.snd.snd : Int).toNat (0 : Int)), VV.one (V1.c (C.rs 57 2 z_1.snd.fst)), i64 (↑z_1.fst : Int)] ++ anys 64) [Atom.cells 44 (bookC false false B.turn B.deep [C.slc
 13 0 (z.fst.length + 1) none, C.slc 17 0 (z.snd.fst.length + 1) none, C.slc 3 0 B.w.length none, C.slc 4 0 B.n.length none, C.slc 5 0 B.f.length none, C.slc 6 0 B.m.length none, C.slc 7 0 B.d.length none,
 C.slc 8 0 B.r.length none, C.int .i64 B.seen]), Atom.gone, Atom.gone, Atom.arr Kd.rrule B.w, Atom.arr Kd.rrule B.n, Atom.arr Kd.rrule B.f, Atom.arr Kd.int B.m, Atom.arr Kd.int B.d, Atom.arr Kd.int B.r,
 Atom.bag z_1.snd.snd, Atom.gone, Atom.gone, Atom.arr Kd.rrule [z_1.snd.fst], Atom.arr Kd.rrule (z.fst ++ [z_1.snd.fst]), Atom.gone, Atom.gone, Atom.arr Kd.rrule [RS.nil], Atom.arr Kd.rrule (z.snd.fst ++
 [RS.nil])]) ∧ ∀ (b c : Nat), z_1.snd.snd b = none → ys.length ≤ c → (VV.one (V1.c (C.slc 11 0 z.snd.fst.length none)) = VV.one (V1.c (C.slc 11 0 z.snd.fst.length none)) ∧ True) ∧ z.snd.fst.length = z.snd.fst.length
 ∧ (1 ≤ 1 ∧ True) ∧ (z.snd.fst.length + 1) * 24 ≤ 140737488355328 ∧ True ∧ True ∧ i64ok ((↑z.snd.snd.snd : Int) + (1 : Int)) ∧ Enter 10 (inv_gT B φ) (fun (z' : List RS × List RS × Bag KK × Nat) => B.f.length
 - z'.snd.snd.snd < B.f.length - z.snd.snd.snd) ([VV.one (V1.c (C.ptr 0 0 0)), VV.any, i64 ((↑z.snd.snd.snd : Int) + (1 : Int)), VV.one (V1.c (C.int .i64 (rd B.r (↑z.snd.snd.snd : Int).toNat (0 : Int)))),
 VV.one (V1.c (C.rs 57 2 z_1.snd.fst)), i64 (↑z_1.fst : Int)] ++ anys 64) [Atom.cells 44 (bookC false false B.turn B.deep [C.slc 13 0 (z.fst.length + 1) none, C.slc 17 0 (z.snd.fst.length + 1) none, C.slc
 3 0 B.w.length none, C.slc 4 0 B.n.length none, C.slc 5 0 B.f.length none, C.slc 6 0 B.m.length none, C.slc 7 0 B.d.length none, C.slc 8 0 B.r.length none, C.int .i64 B.seen]), Atom.gone, Atom.gone, Atom.arr
 Kd.rrule B.w, Atom.arr Kd.rrule B.n, Atom.arr Kd.rrule B.f, Atom.arr Kd.int B.m, Atom.arr Kd.int B.d, Atom.arr Kd.int B.r, Atom.bag (bput z_1.snd.snd b (BI.row Kd.rule c ys)), Atom.gone, Atom.gone, Atom.arr
 Kd.rrule [z_1.snd.fst], Atom.arr Kd.rrule (z.fst ++ [z_1.snd.fst]), Atom.gone, Atom.gone, Atom.arr Kd.rrule [RS.mk b 0 (0 + ys.length) c], Atom.arr Kd.rrule (z.snd.fst ++ [RS.mk b 0 (0 + ys.length) c])]))
 (EndsAs 10 (ct_gT B φ) (VV.tup []) [Atom.cells 44 (bookC false false B.turn B.deep [C.slc 10 0 z.fst.length none, C.slc 11 0 z.snd.fst.length none, C.slc 3 0 B.w.length none, C.slc 4 0 B.n.length none,
 C.nils, C.slc 6 0 B.m.length none, C.slc 7 0 B.d.length none, C.nils, C.int .i64 B.seen]), Atom.gone, Atom.gone, Atom.arr Kd.rrule B.w, Atom.arr Kd.rrule B.n, Atom.arr Kd.rrule B.f, Atom.arr Kd.int B.m,
 Atom.arr Kd.int B.d, Atom.arr Kd.int B.r, Atom.bag z.snd.snd.fst, Atom.arr Kd.rrule z.fst, Atom.arr Kd.rrule z.snd.fst])) := by kernel_rfl
theorem le_app {n i : Nat} (h : n ≤ 1000000 + i) (hi : i < 150) : (n + 1) * 24 ≤ 140737488355328 := by omega
theorem zero_mk (b n c : Nat) : [RS.mk b 0 (0 + n) c] = [RS.mk b 0 n c] := by rw [Nat.zero_add]
theorem zero_mks (t : List RS) (b n c : Nat) : t ++ [RS.mk b 0 (0 + n) c] = t ++ [RS.mk b 0 n c] := by rw [Nat.zero_add]
theorem HasTab.app {φ φ' : Bag KK} {kd : Kd} {xs ys : List (KK.α kd)} {x y : RS} (h : HasTab φ) (hp : App φ kd xs ys x y φ') : HasTab φ' := by
  cases hp with
  | none_ _ _ => exact h
  | room b c hφ _ => exact h.put
  | new _ b c hφ _ => exact h.put
theorem gT_ok (B : BS) (φ : Bag KK) : CtOk Tryz.prog 119 (ct_gT B φ) := CtOk_of KK_ok tabB (ann_gT B φ) (fn := Tryz.f119) rfl (fun _ _ => rfl) fun hn => by
  have hn : BookOk φ B := hn
  have hlr := hn.lr
  have hcB := hn.cnt
  have hfB := hn.few
  have hon : B.w.length = B.n.length := All2.length hn.good.note
  rw [vc_gT]
  simp only [Int.toNat_natCast, Nat.zero_add, Nat.add_zero]
  refine ⟨⟨(B.o, B.t, φ, (0 : Nat)), [], [0, 1, 2, 3, 4, 5, 6, 7, 8, 9, 1, 2], ⟨Nat.zero_le _, ⟨hn.good, hn.tab, by simpa using hn.cnt⟩, Stays.refl _ _⟩, trivial, into_mk (by kernel_rfl) (by (repeat' first | exact trivial | exact rfl | apply And.intro)) (by (repeat' first | exact trivial | exact rfl | apply And.intro))⟩, ?_⟩
  rintro ⟨o, t, φ', k⟩ ⟨hk, ⟨hg, ht, hc⟩, hst⟩
  dsimp only at hk hg ht hc ⊢
  have hst : Stays φ B.bk φ' ⟨o, t, B.w, B.n, B.f.drop k⟩ := hst
  have hot : o.length = t.length := All2.length hg.told
  refine ite2_decide (fun hl => ?_) (fun hl => ?_)
  · have hl1 : k < B.f.length := by omega
    have hl2 : k < B.r.length := by omega
    rw [drop_rd hl1 .nil] at hg hst
    obtain ⟨hg', hcur⟩ := hg.next
    have hmk := hn.rb (rd B.r k 0) (mem_drop_rd hl2 0)
    refine ⟨⟨by omega, by omega⟩, hl2, trivial, hl2, ⟨by omega, by omega⟩, hl1, trivial, hl1, ⟨((0 : Nat), rd B.f k .nil, φ'), [], [0, 1, 2, 3, 4, 5, 6, 7, 8, 9, 10, 11], ⟨Nat.zero_le _, hg', hcur, ht, fun b i hb hf => ⟨hb, hf _ (by rw [Int.toNat_natCast, drop_rd hl1 .nil]; simp [Bk.all])⟩⟩, trivial, into_mk (by kernel_rfl) (by (repeat' first | exact trivial | exact rfl | apply And.intro)) (by (repeat' first | exact trivial | exact rfl | apply And.intro))⟩, ?_⟩
    rintro ⟨i, g, ψ⟩ ⟨hi, gg, cc, tt, kk⟩
    dsimp only at hi gg cc tt ⊢
    have kc : Cur1 φ' ⟨o, t, B.w, B.n, B.f.drop k⟩ g ψ := kk
    rw [drop_rd hl1 .nil] at kc
    clear kk
    obtain ⟨zs, z1, z2, z3⟩ := cc.whole
    have hzl := RS.row_len z2
    have z3' : (zs : List (Int × ByteArray)).length ≤ 1000000 + i := z3
    refine ite2_decide (fun hil => ?_) (fun hil => ?_)
    · refine ⟨by unfold i64ok; omega, by unfold i64ok; omega, by unfold i64ok; omega, ⟨Nat.le_refl _, trivial⟩, zs, z1, le_app z3 (by omega), fun g' φ'' hp => ?_⟩
      obtain ⟨gg', cc', _, _⟩ := gg.laid cc z1 hp
      exact ⟨by unfold i64ok; omega, ((i + 1 : Nat), g', φ''), [], [0, 1, 2, 3, 4, 5, 6, 7, 8, 9, 10, 11], ⟨by show i + 1 ≤ 30; omega, gg', cc', tt.app hp, by have := kc.app hp; rw [← drop_rd hl1 .nil] at this; exact this⟩, by show 30 - (i + 1) < 30 - i; omega, into_mk (by kernel_rfl) (by (repeat' first | exact trivial | exact rfl | apply And.intro)) (by (repeat' first | exact trivial | exact rfl | apply And.intro))⟩
    · obtain rfl : i = 30 := by omega
      have key : ∀ y φ'', Frz ψ Kd.rule zs y φ'' → GrowOk B (o ++ [g]) (t ++ [y]) φ'' (k + 1) := fun y φ'' hy => ⟨gg.grown (by omega) cc z2 hy, tt.frz hy, by have e := hc; show ((o ++ [g]).length : Int) + 2 * B.w.length + ((B.f.length - (k + 1) : Nat) : Int) = 2 * B.seen; simp only [List.length_append, List.length_singleton]; omega⟩
      refine ⟨trivial, ⟨Nat.le_refl _, trivial⟩, by omega, trivial, ⟨trivial, trivial⟩, trivial, zs, z2, le_lim (Nat.le_trans z3 (by decide)), ⟨trivial, trivial⟩, by first | trivial | omega, fun hz => ⟨⟨trivial, trivial⟩, trivial, ⟨Nat.le_refl _, trivial⟩, by omega, trivial, trivial, by unfold i64ok; omega,
        (o ++ [g], t ++ [.nil], ψ, (k + 1 : Nat)), [], [0, 1, 2, 3, 4, 5, 6, 7, 8, 9, 13, 17], ⟨hl1, key _ _ (.nil_ hz), hst.trans (kc.grown (.nil_ hz))⟩, by show B.f.length - (k + 1) < B.f.length - k; omega, into_mk (by kernel_rfl) (by (repeat' first | exact trivial | exact rfl | exact len_snoc _ _ | apply And.intro)) (by (repeat' first | exact trivial | exact rfl | exact len_snoc _ _ | apply And.intro))⟩, fun b c hfr hc' => ⟨⟨trivial, trivial⟩, trivial, ⟨Nat.le_refl _, trivial⟩, by omega, trivial, trivial, by unfold i64ok; omega,
        (o ++ [g], t ++ [.mk b 0 zs.length c], bput ψ b (.row Kd.rule c zs), (k + 1 : Nat)), [], [0, 1, 2, 3, 4, 5, 6, 7, 8, 9, 13, 17], ⟨hl1, key _ _ (.mk b c hfr hc'), hst.trans (kc.grown (.mk b c hfr hc'))⟩, by show B.f.length - (k + 1) < B.f.length - k; omega, into_mk (by kernel_rfl) (by (repeat' first | exact trivial | exact rfl | exact len_snoc _ _ | exact zero_mk _ _ _ | exact zero_mks _ _ _ _ | apply And.intro)) (by (repeat' first | exact trivial | exact rfl | exact len_snoc _ _ | exact zero_mk _ _ _ | exact zero_mks _ _ _ _ | apply And.intro))⟩⟩
  · obtain rfl : k = B.f.length := by omega
    rw [List.drop_of_length_le (Nat.le_refl _)] at hg hst
    have hb : BookOk φ' { B with o := o, t := t, f := [], r := [] } := ⟨hg, ht, hn.lm, hn.ld, rfl, hn.mb, fun x hx => by simp at hx, by simpa using hc, hn.few, hn.turn⟩
    exact ⟨({ B with o := o, t := t, f := [], r := [] }, φ'), [.rrule, .int], [0, 1, 2, 3, 4, 5, 6, 7, 8, 9, 10, 11, 3, 4, 12, 6, 7, 13], ⟨⟨hb, ⟨rfl, rfl, rfl⟩, hst⟩, rfl, rfl⟩, by (repeat' first | exact trivial | exact rfl | exact len_snoc _ _ | apply And.intro)⟩
end Go.Proofs.YtoidibkcdkdneaaGreatDoor.T
end
section
namespace Go.Proofs.YtoidibkcdkdneaaGreatDoor.T
open Go.Proofs.YtoidibkcdkdneaaGreatDoor.E
set_option maxRecDepth 100000
set_option linter.unusedVariables false
set_option linter.unusedSimpArgs false
/-- The book that stands at name 0, and the names of its lists. -/
def getB (H : VH KK) : Option (BS × List Nat) := match at_ H 0 with
  | .cells _ (_ :: _ :: .int _ turn :: .int _ deep :: cs) => match cs.drop 81 with
    | .slc a _ _ _ :: .slc b _ _ _ :: .slc c _ _ _ :: .slc d _ _ _ :: .slc e _ _ _ :: .slc f _ _ _ :: .slc g _ _ _ :: .slc h _ _ _ :: .int _ seen :: _ =>
      match at_ H a, at_ H b, at_ H c, at_ H d, at_ H e, at_ H f, at_ H g, at_ H h with
      | .arr .rrule o, .arr .rrule t, .arr .rrule w, .arr .rrule n, .arr .rrule fr, .arr .int m, .arr .int du, .arr .int r => some (⟨turn, deep, o, t, w, n, fr, m, du, r, seen⟩, [0, a, b, c, d, e, f, g, h])
      | _, _, _, _, _, _, _, _ => none
    | _ => none
  | _ => none
def getBB (H : VH KK) : Option (BS × Bag KK × List Nat) := match getB H, at_ H 9 with
  | some (B, τ), .bag φ => some (B, φ, τ ++ [9])
  | _, _ => none
def ct_hT (B : BS) (φ : Bag KK) : Ct KK := { need := BookOk φ B, pre := bookH B ++ [.bag φ], args := [.c (.ptr 0 0 0)], Y := Unit, ok := fun _ => True, ret := fun _ => boolv true, post := fun _ => bookH B ++ [.bag φ] }
def inv_hT1 (B : BS) (φ : Bag KK) : Inv KK := { X := Nat, fr := fun i => [.c (.ptr 0 0 0), .any, .any, i64 i] ++ anys 51, H := fun _ => bookH B ++ [.bag φ], ok := fun i => i ≤ B.o.length, meas := fun i : Nat => B.o.length - i }
def inv_hT2 (B : BS) (φ : Bag KK) : Inv KK := { X := Nat, fr := fun i => [.c (.ptr 0 0 0), .any, .any, .any, i64 i] ++ anys 50, H := fun _ => bookH B ++ [.bag φ], ok := fun i => i ≤ B.w.length, meas := fun i : Nat => B.w.length - i }
def loop_hT (B : BS) (φ : Bag KK) (id : Nat) (fr : List VV) (H : VH KK) : Option (Inv KK) := match id with
  | 2 => some (inv_hT1 B φ)
  | _ => some (inv_hT2 B φ)
def ann_hT (B : BS) (φ : Bag KK) : Ann KK := { loop := loop_hT B φ, cut := fun _ _ _ => none, keep := some 5 }
def ct_marks (B : BS) (φ : Bag KK) : Ct KK := { need := BookOk φ B, pre := bookH B ++ [.bag φ], args := [.c (.ptr 0 0 0)], Y := BS × Bag KK, ok := fun y => BookOk y.2 y.1 ∧ SameB B y.1 ∧ Stays φ B.bk y.2 y.1.bk, ret := fun _ => .tup [], post := fun y => bookM y.1 y.2 }
def ct_grows (B : BS) (φ : Bag KK) : Ct KK := { need := BookOk φ B, pre := bookH B ++ [.bag φ], args := [.c (.ptr 0 0 0)], Y := BS × Bag KK, ok := fun y => (BookOk y.2 y.1 ∧ SameB B y.1 ∧ Stays φ B.bk y.2 y.1.bk) ∧ y.1.f = [] ∧ y.1.r = [], ret := fun _ => .tup [], post := fun y => bookM y.1 y.2 }
def pick_tabM (f : FuncId) (B : BS) (τ : List Nat) : Option (Ct KK × List KK.Kd × List Nat) := match f with
  | 94 => some (ct_b B (.tup []), [], τ)
  | 95 => some (ct_b B (.tup []), [], τ)
  | 96 => some (ct_b B (.tup []), [], τ)
  | 97 => some (ct_b B (.tup []), [], τ)
  | 98 => some (ct_b B (.tup []), [], τ)
  | 99 => some (ct_b B (.tup []), [], τ)
  | 100 => some (ct_b B (.tup []), [], τ)
  | 101 => some (ct_b B (.tup []), [], τ)
  | 102 => some (ct_b B (.tup []), [], τ)
  | 104 => some (ct_b B (.tup []), [], τ)
  | 105 => some (ct_b B (.tup []), [], τ)
  | 106 => some (ct_b B (.tup []), [], τ)
  | 107 => some (ct_b B (.tup []), [], τ)
  | 108 => some (ct_b B (.tup []), [], τ)
  | 109 => some (ct_b B (.tup []), [], τ)
  | _ => none
theorem pick_tabM_ok (f : FuncId) (B : BS) (τ : List Nat) (ct ks ρ) (h : pick_tabM f B τ = some (ct, ks, ρ)) : CtOk Tryz.prog f ct := by
  unfold pick_tabM at h
  split at h
  · cases h; exact mBytes_ok _
  · cases h; exact mInts_ok _
  · cases h; exact mTexts_ok _
  · cases h; exact mLosts_ok _
  · cases h; exact mChanges_ok _
  · cases h; exact mCells_ok _
  · cases h; exact mItems_ok _
  · cases h; exact mEntries_ok _
  · cases h; exact mPlaceds_ok _
  · cases h; exact mFaults_ok _
  · cases h; exact mChunks_ok _
  · cases h; exact mThings_ok _
  · cases h; exact mDones_ok _
  · cases h; exact mNodes_ok _
  · cases h; exact mSteps_ok _
  · cases h
def tabM : Tab Tryz.prog KK := ⟨mixed, fun f args H => match args with
  | [.one (.c (.ptr 0 0 0))] => match f with
    | 103 => match getBB H with
      | some (B, φ, τ) => some (ct_mT B φ, [], τ)
      | none => none
    | f => match getB H with
      | some (B, τ) => pick_tabM f B τ
      | none => none
  | _ => none, fun f args H ct ks τ h => by
    split at h
    · split at h
      · split at h
        · cases h; exact mT_ok _ _
        · cases h
      · split at h
        · exact pick_tabM_ok _ _ _ _ _ _ h
        · cases h
    · cases h⟩
def pick_tabG (f : FuncId) (B : BS) (τ : List Nat) : Option (Ct KK × List KK.Kd × List Nat) := match f with
  | 110 => some (ct_b B (.tup []), [], τ)
  | 111 => some (ct_b B (.tup []), [], τ)
  | 112 => some (ct_b B (.tup []), [], τ)
  | 113 => some (ct_b B (.tup []), [], τ)
  | 114 => some (ct_b B (.tup []), [], τ)
  | 115 => some (ct_b B (.tup []), [], τ)
  | 116 => some (ct_b B (.tup []), [], τ)
  | 117 => some (ct_b B (.tup []), [], τ)
  | 118 => some (ct_b B (.tup []), [], τ)
  | 120 => some (ct_b B (.tup []), [], τ)
  | 121 => some (ct_b B (.tup []), [], τ)
  | 122 => some (ct_b B (.tup []), [], τ)
  | 123 => some (ct_b B (.tup []), [], τ)
  | 124 => some (ct_b B (.tup []), [], τ)
  | 125 => some (ct_b B (.tup []), [], τ)
  | _ => none
theorem pick_tabG_ok (f : FuncId) (B : BS) (τ : List Nat) (ct ks ρ) (h : pick_tabG f B τ = some (ct, ks, ρ)) : CtOk Tryz.prog f ct := by
  unfold pick_tabG at h
  split at h
  · cases h; exact gBytes_ok _
  · cases h; exact gInts_ok _
  · cases h; exact gTexts_ok _
  · cases h; exact gLosts_ok _
  · cases h; exact gChanges_ok _
  · cases h; exact gCells_ok _
  · cases h; exact gItems_ok _
  · cases h; exact gEntries_ok _
  · cases h; exact gPlaceds_ok _
  · cases h; exact gFaults_ok _
  · cases h; exact gChunks_ok _
  · cases h; exact gThings_ok _
  · cases h; exact gDones_ok _
  · cases h; exact gNodes_ok _
  · cases h; exact gSteps_ok _
  · cases h
def tabG : Tab Tryz.prog KK := ⟨mixed, fun f args H => match args with
  | [.one (.c (.ptr 0 0 0))] => match f with
    | 119 => match getBB H with
      | some (B, φ, τ) => some (ct_gT B φ, [], τ)
      | none => none
    | f => match getB H with
      | some (B, τ) => pick_tabG f B τ
      | none => none
  | _ => none, fun f args H ct ks τ h => by
    split at h
    · split at h
      · split at h
        · cases h; exact gT_ok _ _
        · cases h
      · split at h
        · exact pick_tabG_ok _ _ _ _ _ _ h
        · cases h
    · cases h⟩
theorem vc_hT (B : BS) (φ : Bag KK) : evFn tabB (ann_hT B φ) Tryz.f32 (ct_hT B φ) = ( Enter 10 (inv_hT1 B φ) (fun (x : Nat) => True) ([VV.one (V1.c (C.ptr 0 0 0)), VV.any, boolv false, i64 (0 : Int)] ++ anys 51) (bookH B ++ [.bag φ]) ∧ ∀ (z : Nat), z ≤ B.o.length → ite2 (decide ((↑z :
 Int) < (↑B.o.length : Int))) (((0 : Int) ≤ (↑z : Int) ∧ (↑z : Int) < (↑B.o.length : Int)) ∧ (↑z : Int).toNat < B.o.length ∧ True ∧ (↑z : Int).toNat < B.o.length ∧ ((0 : Int) ≤ (↑z : Int) ∧ (↑z : Int) <
 (↑B.t.length : Int)) ∧ (↑z : Int).toNat < B.t.length ∧ True ∧ (↑z : Int).toNat < B.t.length ∧ True ∧ (∃ (xs : List (KK.α Kd.rule)), RS.row φ Kd.rule (rd B.o (↑z : Int).toNat RS.nil) = some xs ∧ RS.row
 φ Kd.rule (rd B.t (↑z : Int).toNat RS.nil) = some xs ∧ xs.length ≤ 1000000000) ∧ Into (K := KK) 0 [] [9] [VV.one (V1.c (C.rs 57 2 (rd B.o (↑z : Int).toNat RS.nil))), VV.one (V1.c (C.rs 57 2 (rd B.t (↑z
 : Int).toNat RS.nil)))] (bookH B ++ [.bag φ]) [VV.one (V1.c (C.rs 57 2 (rd B.o (↑z : Int).toNat RS.nil))), VV.one (V1.c (C.rs 57 2 (rd B.t (↑z : Int).toNat RS.nil)))] [Atom.bag φ] ∧ ∀ (y : Unit), True
 → True ∧ i64ok ((↑z : Int) + (1 : Int)) ∧ Enter 10 (inv_hT1 B φ) (fun (z' : Nat) => B.o.length - z' < B.o.length - z) ([VV.one (V1.c (C.ptr 0 0 0)), VV.any, VV.any, i64 ((↑z : Int) + (1 : Int))] ++ anys
 51) (bookH B ++ [.bag φ])) (Enter 10 (inv_hT2 B φ) (fun (x : Nat) => True) ([VV.one (V1.c (C.ptr 0 0 0)), VV.any, VV.any, i64 (↑z : Int), i64 (0 : Int)] ++ anys 50) (bookH B ++ [.bag φ]) ∧ ∀ (z : Nat),
 z ≤ B.w.length → ite2 (decide ((↑z : Int) < (↑B.w.length : Int))) (((0 : Int) ≤ (↑z : Int) ∧ (↑z : Int) < (↑B.w.length : Int)) ∧ (↑z : Int).toNat < B.w.length ∧ True ∧ (↑z : Int).toNat < B.w.length ∧ ((0
 : Int) ≤ (↑z : Int) ∧ (↑z : Int) < (↑B.n.length : Int)) ∧ (↑z : Int).toNat < B.n.length ∧ True ∧ (↑z : Int).toNat < B.n.length ∧ True ∧ (∃ (xs : List (KK.α Kd.rule)), RS.row φ Kd.rule (rd B.w (↑z : Int).toNat
 RS.nil) = some xs ∧ RS.row φ Kd.rule (rd B.n (↑z : Int).toNat RS.nil) = some xs ∧ xs.length ≤ 1000000000) ∧ Into (K := KK) 0 [] [9] [VV.one (V1.c (C.rs 57 2 (rd B.w (↑z : Int).toNat RS.nil))), VV.one (V1.c
 (C.rs 57 2 (rd B.n (↑z : Int).toNat RS.nil)))] (bookH B ++ [.bag φ]) [VV.one (V1.c (C.rs 57 2 (rd B.w (↑z : Int).toNat RS.nil))), VV.one (V1.c (C.rs 57 2 (rd B.n (↑z : Int).toNat RS.nil)))] [Atom.bag φ]
 ∧ ∀ (y : Unit), True → True ∧ i64ok ((↑z : Int) + (1 : Int)) ∧ Enter 10 (inv_hT2 B φ) (fun (z' : Nat) => B.w.length - z' < B.w.length - z) ([VV.one (V1.c (C.ptr 0 0 0)), VV.any, VV.any, VV.any, i64 ((↑z
 : Int) + (1 : Int))] ++ anys 50) (bookH B ++ [.bag φ])) (EndsAs 10 (ct_hT B φ) (boolv true) (bookH B ++ [.bag φ])))) := by kernel_rfl
theorem vc_marks (B : BS) (φ : Bag KK) : evFn tabM ann0 Tryz.f78 (ct_marks B φ) = ( True ∧ Into (K := KK) 0 [] [0, 1, 2, 3, 4, 5, 6, 7, 8] [VV.one (V1.c (C.ptr 0 0 0))] (bookH B ++ [.bag φ]) [VV.one (V1.c (C.ptr 0 0 0))] (bookH B) ∧ ∀ (y : Unit), True → True ∧ Into (K := KK) 0 [] [0,
 1, 2, 3, 4, 5, 6, 7, 8] [VV.one (V1.c (C.ptr 0 0 0))] (bookH B ++ [.bag φ]) [VV.one (V1.c (C.ptr 0 0 0))] (bookH B) ∧ ∀ (y : Unit), True → True ∧ Into (K := KK) 0 [] [0, 1, 2, 3, 4, 5, 6, 7, 8] [VV.one
 (V1.c (C.ptr 0 0 0))] (bookH B ++ [.bag φ]) [VV.one (V1.c (C.ptr 0 0 0))] (bookH B) ∧ ∀ (y : Unit), True → True ∧ Into (K := KK) 0 [] [0, 1, 2, 3, 4, 5, 6, 7, 8] [VV.one (V1.c (C.ptr 0 0 0))] (bookH B
 ++ [.bag φ]) [VV.one (V1.c (C.ptr 0 0 0))] (bookH B) ∧ ∀ (y : Unit), True → True ∧ Into (K := KK) 0 [] [0, 1, 2, 3, 4, 5, 6, 7, 8] [VV.one (V1.c (C.ptr 0 0 0))] (bookH B ++ [.bag φ]) [VV.one (V1.c (C.ptr
 0 0 0))] (bookH B) ∧ ∀ (y : Unit), True → True ∧ Into (K := KK) 0 [] [0, 1, 2, 3, 4, 5, 6, 7, 8] [VV.one (V1.c (C.ptr 0 0 0))] (bookH B ++ [.bag φ]) [VV.one (V1.c (C.ptr 0 0 0))] (bookH B) ∧ ∀ (y : Unit),
 True → True ∧ Into (K := KK) 0 [] [0, 1, 2, 3, 4, 5, 6, 7, 8] [VV.one (V1.c (C.ptr 0 0 0))] (bookH B ++ [.bag φ]) [VV.one (V1.c (C.ptr 0 0 0))] (bookH B) ∧ ∀ (y : Unit), True → True ∧ Into (K := KK) 0
 [] [0, 1, 2, 3, 4, 5, 6, 7, 8] [VV.one (V1.c (C.ptr 0 0 0))] (bookH B ++ [.bag φ]) [VV.one (V1.c (C.ptr 0 0 0))] (bookH B) ∧ ∀ (y : Unit), True → True ∧ Into (K := KK) 0 [] [0, 1, 2, 3, 4, 5, 6, 7, 8]
 [VV.one (V1.c (C.ptr 0 0 0))] (bookH B ++ [.bag φ]) [VV.one (V1.c (C.ptr 0 0 0))] (bookH B) ∧ ∀ (y : Unit), True → BookOk φ (BS.mk (B.turn) (B.deep) (B.o) (B.t) (B.w) (B.n) (B.f) (B.m) (B.d) (B.r) (B.seen))
 ∧ Into (K := KK) 0 [] [0, 1, 2, 3, 4, 5, 6, 7, 8, 9] [VV.one (V1.c (C.ptr 0 0 0))] (bookH B ++ [.bag φ]) [VV.one (V1.c (C.ptr 0 0 0))] (bookH B ++ [.bag φ]) ∧ ∀ (y : BS × Bag KK), (BookOk y.snd y.fst ∧
 (y.fst.turn = B.turn ∧ y.fst.deep = B.deep ∧ y.fst.seen = B.seen) ∧ ∀ (b : Nat) (i : BI KK), φ b = some i → (∀ (y : RS), List.Mem y (B.o ++ (B.t ++ (B.w ++ (B.n ++ B.f)))) → ¬y.At b) → y.snd b = some i
 ∧ ∀ (y_1 : RS), List.Mem y_1 (y.fst.o ++ (y.fst.t ++ (y.fst.w ++ (y.fst.n ++ y.fst.f)))) → ¬y_1.At b) → True ∧ Into (K := KK) 0 [] [0, 10, 11, 12, 13, 14, 15, 16, 17] [VV.one (V1.c (C.ptr 0 0 0))] [Atom.cells
 44 (bookC false false y.fst.turn y.fst.deep [C.slc 10 0 y.fst.o.length none, C.slc 11 0 y.fst.t.length none, C.slc 12 0 y.fst.w.length none, C.slc 13 0 y.fst.n.length none, C.slc 14 0 y.fst.f.length none,
 C.slc 15 0 y.fst.m.length none, C.slc 16 0 y.fst.d.length none, C.slc 17 0 y.fst.r.length none, C.int .i64 y.fst.seen]), Atom.gone, Atom.gone, Atom.gone, Atom.gone, Atom.gone, Atom.gone, Atom.gone, Atom.gone,
 Atom.bag y.snd, Atom.arr Kd.rrule y.fst.o, Atom.arr Kd.rrule y.fst.t, Atom.arr Kd.rrule y.fst.w, Atom.arr Kd.rrule y.fst.n, Atom.arr Kd.rrule y.fst.f, Atom.arr Kd.int y.fst.m, Atom.arr Kd.int y.fst.d,
 Atom.arr Kd.int y.fst.r] [VV.one (V1.c (C.ptr 0 0 0))] [Atom.cells 44 (bookC false false y.fst.turn y.fst.deep [C.slc 1 0 y.fst.o.length none, C.slc 2 0 y.fst.t.length none, C.slc 3 0 y.fst.w.length none,
 C.slc 4 0 y.fst.n.length none, C.slc 5 0 y.fst.f.length none, C.slc 6 0 y.fst.m.length none, C.slc 7 0 y.fst.d.length none, C.slc 8 0 y.fst.r.length none, C.int .i64 y.fst.seen]), Atom.arr Kd.rrule y.fst.o,
 Atom.arr Kd.rrule y.fst.t, Atom.arr Kd.rrule y.fst.w, Atom.arr Kd.rrule y.fst.n, Atom.arr Kd.rrule y.fst.f, Atom.arr Kd.int y.fst.m, Atom.arr Kd.int y.fst.d, Atom.arr Kd.int y.fst.r] ∧ ∀ (y_1 : Unit),
 True → True ∧ Into (K := KK) 0 [] [0, 10, 11, 12, 13, 14, 15, 16, 17] [VV.one (V1.c (C.ptr 0 0 0))] [Atom.cells 44 (bookC false false y.fst.turn y.fst.deep [C.slc 10 0 y.fst.o.length none, C.slc 11 0 y.fst.t.length
 none, C.slc 12 0 y.fst.w.length none, C.slc 13 0 y.fst.n.length none, C.slc 14 0 y.fst.f.length none, C.slc 15 0 y.fst.m.length none, C.slc 16 0 y.fst.d.length none, C.slc 17 0 y.fst.r.length none, C.int
 .i64 y.fst.seen]), Atom.gone, Atom.gone, Atom.gone, Atom.gone, Atom.gone, Atom.gone, Atom.gone, Atom.gone, Atom.bag y.snd, Atom.arr Kd.rrule y.fst.o, Atom.arr Kd.rrule y.fst.t, Atom.arr Kd.rrule y.fst.w,
 Atom.arr Kd.rrule y.fst.n, Atom.arr Kd.rrule y.fst.f, Atom.arr Kd.int y.fst.m, Atom.arr Kd.int y.fst.d, Atom.arr Kd.int y.fst.r] [VV.one (V1.c (C.ptr 0 0 0))] [Atom.cells 44 (bookC false false y.fst.turn
 y.fst.deep [C.slc 1 0 y.fst.o.length none, C.slc 2 0 y.fst.t.length none, C.slc 3 0 y.fst.w.length none, C.slc 4 0 y.fst.n.length none, C.slc 5 0 y.fst.f.length none, C.slc 6 0 y.fst.m.length none, C.slc
 7 0 y.fst.d.length none, C.slc 8 0 y.fst.r.length none, C.int .i64 y.fst.seen]), Atom.arr Kd.rrule y.fst.o, Atom.arr Kd.rrule y.fst.t, Atom.arr Kd.rrule y.fst.w, Atom.arr Kd.rrule y.fst.n, Atom.arr Kd.rrule
 y.fst.f, Atom.arr Kd.int y.fst.m, Atom.arr Kd.int y.fst.d, Atom.arr Kd.int y.fst.r] ∧ ∀ (y_2 : Unit), True → True ∧ Into (K := KK) 0 [] [0, 10, 11, 12, 13, 14, 15, 16, 17] [VV.one (V1.c (C.ptr 0 0 0))]
 [Atom.cells 44 (bookC false false y.fst.turn y.fst.deep [C.slc 10 0 y.fst.o.length none, C.slc 11 0 y.fst.t.length none, C.slc 12 0 y.fst.w.length none, C.slc 13 0 y.fst.n.length none, C.slc 14 0 y.fst.f.length
 none, C.slc 15 0 y.fst.m.length none, C.slc 16 0 y.fst.d.length none, C.slc 17 0 y.fst.r.length none, C.int .i64 y.fst.seen]), Atom.gone, Atom.gone, Atom.gone, Atom.gone, Atom.gone, Atom.gone, Atom.gone,
 Atom.gone, Atom.bag y.snd, Atom.arr Kd.rrule y.fst.o, Atom.arr Kd.rrule y.fst.t, Atom.arr Kd.rrule y.fst.w, Atom.arr Kd.rrule y.fst.n, Atom.arr Kd.rrule y.fst.f, Atom.arr Kd.int y.fst.m, Atom.arr Kd.int
 y.fst.d, Atom.arr Kd.int y.fst.r] [VV.one (V1.c (C.ptr 0 0 0))] [Atom.cells 44 (bookC false false y.fst.turn y.fst.deep [C.slc 1 0 y.fst.o.length none, C.slc 2 0 y.fst.t.length none, C.slc 3 0 y.fst.w.length
 none, C.slc 4 0 y.fst.n.length none, C.slc 5 0 y.fst.f.length none, C.slc 6 0 y.fst.m.length none, C.slc 7 0 y.fst.d.length none, C.slc 8 0 y.fst.r.length none, C.int .i64 y.fst.seen]), Atom.arr Kd.rrule
 y.fst.o, Atom.arr Kd.rrule y.fst.t, Atom.arr Kd.rrule y.fst.w, Atom.arr Kd.rrule y.fst.n, Atom.arr Kd.rrule y.fst.f, Atom.arr Kd.int y.fst.m, Atom.arr Kd.int y.fst.d, Atom.arr Kd.int y.fst.r] ∧ ∀ (y_3
 : Unit), True → True ∧ Into (K := KK) 0 [] [0, 10, 11, 12, 13, 14, 15, 16, 17] [VV.one (V1.c (C.ptr 0 0 0))] [Atom.cells 44 (bookC false false y.fst.turn y.fst.deep [C.slc 10 0 y.fst.o.length none, C.slc
 11 0 y.fst.t.length none, C.slc 12 0 y.fst.w.length none, C.slc 13 0 y.fst.n.length none, C.slc 14 0 y.fst.f.length none, C.slc 15 0 y.fst.m.length none, C.slc 16 0 y.fst.d.length none, C.slc 17 0 y.fst.r.length
 none, C.int .i64 y.fst.seen]), Atom.gone, Atom.gone, Atom.gone, Atom.gone, Atom.gone, Atom.gone, Atom.gone, Atom.gone, Atom.bag y.snd, Atom.arr Kd.rrule y.fst.o, Atom.arr Kd.rrule y.fst.t, Atom.arr Kd.rrule
 y.fst.w, Atom.arr Kd.rrule y.fst.n, Atom.arr Kd.rrule y.fst.f, Atom.arr Kd.int y.fst.m, Atom.arr Kd.int y.fst.d, Atom.arr Kd.int y.fst.r] [VV.one (V1.c (C.ptr 0 0 0))] [Atom.cells 44 (bookC false false
 y.fst.turn y.fst.deep [C.slc 1 0 y.fst.o.length none, C.slc 2 0 y.fst.t.length none, C.slc 3 0 y.fst.w.length none, C.slc 4 0 y.fst.n.length none, C.slc 5 0 y.fst.f.length none, C.slc 6 0 y.fst.m.length
 none, C.slc 7 0 y.fst.d.length none, C.slc 8 0 y.fst.r.length none, C.int .i64 y.fst.seen]), Atom.arr Kd.rrule y.fst.o, Atom.arr Kd.rrule y.fst.t, Atom.arr Kd.rrule y.fst.w, Atom.arr Kd.rrule y.fst.n,
 Atom.arr Kd.rrule y.fst.f, Atom.arr Kd.int y.fst.m, Atom.arr Kd.int y.fst.d, Atom.arr Kd.int y.fst.r] ∧ ∀ (y_4 : Unit), True → True ∧ Into (K := KK) 0 [] [0, 10, 11, 12, 13, 14, 15, 16, 17] [VV.one (V1.c
 (C.ptr 0 0 0))] [Atom.cells 44 (bookC false false y.fst.turn y.fst.deep [C.slc 10 0 y.fst.o.length none, C.slc 11 0 y.fst.t.length none, C.slc 12 0 y.fst.w.length none, C.slc 13 0 y.fst.n.length none,
 C.slc 14 0 y.fst.f.length none, C.slc 15 0 y.fst.m.length none, C.slc 16 0 y.fst.d.length none, C.slc 17 0 y.fst.r.length none, C.int .i64 y.fst.seen]), Atom.gone, Atom.gone, Atom.gone, Atom.gone, Atom.gone,
 Atom.gone, Atom.gone, Atom.gone, Atom.bag y.snd, Atom.arr Kd.rrule y.fst.o, Atom.arr Kd.rrule y.fst.t, Atom.arr Kd.rrule y.fst.w, Atom.arr Kd.rrule y.fst.n, Atom.arr Kd.rrule y.fst.f, Atom.arr Kd.int y.fst.m,
 Atom.arr Kd.int y.fst.d, Atom.arr Kd.int y.fst.r] [VV.one (V1.c (C.ptr 0 0 0))] [Atom.cells 44 (bookC false false y.fst.turn y.fst.deep [C.slc 1 0 y.fst.o.length none, C.slc 2 0 y.fst.t.length none, C.slc
 3 0 y.fst.w.length none, C.slc 4 0 y.fst.n.length none, C.slc 5 0 y.fst.f.length none, C.slc 6 0 y.fst.m.length none, C.slc 7 0 y.fst.d.length none, C.slc 8 0 y.fst.r.length none, C.int .i64 y.fst.seen]),
 Atom.arr Kd.rrule y.fst.o, Atom.arr Kd.rrule y.fst.t, Atom.arr Kd.rrule y.fst.w, Atom.arr Kd.rrule y.fst.n, Atom.arr Kd.rrule y.fst.f, Atom.arr Kd.int y.fst.m, Atom.arr Kd.int y.fst.d, Atom.arr Kd.int
 y.fst.r] ∧ ∀ (y_5 : Unit), True → True ∧ Into (K := KK) 0 [] [0, 10, 11, 12, 13, 14, 15, 16, 17] [VV.one (V1.c (C.ptr 0 0 0))] [Atom.cells 44 (bookC false false y.fst.turn y.fst.deep [C.slc 10 0 y.fst.o.length
 none, C.slc 11 0 y.fst.t.length none, C.slc 12 0 y.fst.w.length none, C.slc 13 0 y.fst.n.length none, C.slc 14 0 y.fst.f.length none, C.slc 15 0 y.fst.m.length none, C.slc 16 0 y.fst.d.length none, C.slc
 17 0 y.fst.r.length none, C.int .i64 y.fst.seen]), Atom.gone, Atom.gone, Atom.gone, Atom.gone, Atom.gone, Atom.gone, Atom.gone, Atom.gone, Atom.bag y.snd, Atom.arr Kd.rrule y.fst.o, Atom.arr Kd.rrule y.fst.t,
 Atom.arr Kd.rrule y.fst.w, Atom.arr Kd.rrule y.fst.n, Atom.arr Kd.rrule y.fst.f, Atom.arr Kd.int y.fst.m, Atom.arr Kd.int y.fst.d, Atom.arr Kd.int y.fst.r] [VV.one (V1.c (C.ptr 0 0 0))] [Atom.cells 44
 (bookC false false y.fst.turn y.fst.deep [C.slc 1 0 y.fst.o.length none, C.slc 2 0 y.fst.t.length none, C.slc 3 0 y.fst.w.length none, C.slc 4 0 y.fst.n.length none, C.slc 5 0 y.fst.f.length none, C.slc
 6 0 y.fst.m.length none, C.slc 7 0 y.fst.d.length none, C.slc 8 0 y.fst.r.length none, C.int .i64 y.fst.seen]), Atom.arr Kd.rrule y.fst.o, Atom.arr Kd.rrule y.fst.t, Atom.arr Kd.rrule y.fst.w, Atom.arr
 Kd.rrule y.fst.n, Atom.arr Kd.rrule y.fst.f, Atom.arr Kd.int y.fst.m, Atom.arr Kd.int y.fst.d, Atom.arr Kd.int y.fst.r] ∧ ∀ (y_6 : Unit), True → EndsAs 10 (ct_marks B φ) (VV.tup []) [Atom.cells 44 (bookC
 false false y.fst.turn y.fst.deep [C.slc 10 0 y.fst.o.length none, C.slc 11 0 y.fst.t.length none, C.slc 12 0 y.fst.w.length none, C.slc 13 0 y.fst.n.length none, C.slc 14 0 y.fst.f.length none, C.slc
 15 0 y.fst.m.length none, C.slc 16 0 y.fst.d.length none, C.slc 17 0 y.fst.r.length none, C.int .i64 y.fst.seen]), Atom.gone, Atom.gone, Atom.gone, Atom.gone, Atom.gone, Atom.gone, Atom.gone, Atom.gone,
 Atom.bag y.snd, Atom.arr Kd.rrule y.fst.o, Atom.arr Kd.rrule y.fst.t, Atom.arr Kd.rrule y.fst.w, Atom.arr Kd.rrule y.fst.n, Atom.arr Kd.rrule y.fst.f, Atom.arr Kd.int y.fst.m, Atom.arr Kd.int y.fst.d,
 Atom.arr Kd.int y.fst.r]) := by kernel_rfl
theorem vc_grows (B : BS) (φ : Bag KK) : evFn tabG ann0 Tryz.f79 (ct_grows B φ) = ( True ∧ Into (K := KK) 0 [] [0, 1, 2, 3, 4, 5, 6, 7, 8] [VV.one (V1.c (C.ptr 0 0 0))] (bookH B ++ [.bag φ]) [VV.one (V1.c (C.ptr 0 0 0))] (bookH B) ∧ ∀ (y : Unit), True → True ∧ Into (K := KK) 0 [] [0,
 1, 2, 3, 4, 5, 6, 7, 8] [VV.one (V1.c (C.ptr 0 0 0))] (bookH B ++ [.bag φ]) [VV.one (V1.c (C.ptr 0 0 0))] (bookH B) ∧ ∀ (y : Unit), True → True ∧ Into (K := KK) 0 [] [0, 1, 2, 3, 4, 5, 6, 7, 8] [VV.one
 (V1.c (C.ptr 0 0 0))] (bookH B ++ [.bag φ]) [VV.one (V1.c (C.ptr 0 0 0))] (bookH B) ∧ ∀ (y : Unit), True → True ∧ Into (K := KK) 0 [] [0, 1, 2, 3, 4, 5, 6, 7, 8] [VV.one (V1.c (C.ptr 0 0 0))] (bookH B
 ++ [.bag φ]) [VV.one (V1.c (C.ptr 0 0 0))] (bookH B) ∧ ∀ (y : Unit), True → True ∧ Into (K := KK) 0 [] [0, 1, 2, 3, 4, 5, 6, 7, 8] [VV.one (V1.c (C.ptr 0 0 0))] (bookH B ++ [.bag φ]) [VV.one (V1.c (C.ptr
 0 0 0))] (bookH B) ∧ ∀ (y : Unit), True → True ∧ Into (K := KK) 0 [] [0, 1, 2, 3, 4, 5, 6, 7, 8] [VV.one (V1.c (C.ptr 0 0 0))] (bookH B ++ [.bag φ]) [VV.one (V1.c (C.ptr 0 0 0))] (bookH B) ∧ ∀ (y : Unit),
 True → True ∧ Into (K := KK) 0 [] [0, 1, 2, 3, 4, 5, 6, 7, 8] [VV.one (V1.c (C.ptr 0 0 0))] (bookH B ++ [.bag φ]) [VV.one (V1.c (C.ptr 0 0 0))] (bookH B) ∧ ∀ (y : Unit), True → True ∧ Into (K := KK) 0
 [] [0, 1, 2, 3, 4, 5, 6, 7, 8] [VV.one (V1.c (C.ptr 0 0 0))] (bookH B ++ [.bag φ]) [VV.one (V1.c (C.ptr 0 0 0))] (bookH B) ∧ ∀ (y : Unit), True → True ∧ Into (K := KK) 0 [] [0, 1, 2, 3, 4, 5, 6, 7, 8]
 [VV.one (V1.c (C.ptr 0 0 0))] (bookH B ++ [.bag φ]) [VV.one (V1.c (C.ptr 0 0 0))] (bookH B) ∧ ∀ (y : Unit), True → BookOk φ (BS.mk (B.turn) (B.deep) (B.o) (B.t) (B.w) (B.n) (B.f) (B.m) (B.d) (B.r) (B.seen))
 ∧ Into (K := KK) 0 [] [0, 1, 2, 3, 4, 5, 6, 7, 8, 9] [VV.one (V1.c (C.ptr 0 0 0))] (bookH B ++ [.bag φ]) [VV.one (V1.c (C.ptr 0 0 0))] (bookH B ++ [.bag φ]) ∧ ∀ (y : BS × Bag KK), (BookOk y.snd y.fst ∧
 (y.fst.turn = B.turn ∧ y.fst.deep = B.deep ∧ y.fst.seen = B.seen) ∧ ∀ (b : Nat) (i : BI KK), φ b = some i → (∀ (y : RS), List.Mem y (B.o ++ (B.t ++ (B.w ++ (B.n ++ B.f)))) → ¬y.At b) → y.snd b = some i
 ∧ ∀ (y_1 : RS), List.Mem y_1 (y.fst.o ++ (y.fst.t ++ (y.fst.w ++ (y.fst.n ++ y.fst.f)))) → ¬y_1.At b) ∧ y.fst.f = [] ∧ y.fst.r = [] → True ∧ Into (K := KK) 0 [] [0, 10, 11, 12, 13, 14, 15, 16, 17] [VV.one
 (V1.c (C.ptr 0 0 0))] [Atom.cells 44 (bookC false false y.fst.turn y.fst.deep [C.slc 10 0 y.fst.o.length none, C.slc 11 0 y.fst.t.length none, C.slc 12 0 y.fst.w.length none, C.slc 13 0 y.fst.n.length
 none, C.slc 14 0 y.fst.f.length none, C.slc 15 0 y.fst.m.length none, C.slc 16 0 y.fst.d.length none, C.slc 17 0 y.fst.r.length none, C.int .i64 y.fst.seen]), Atom.gone, Atom.gone, Atom.gone, Atom.gone,
 Atom.gone, Atom.gone, Atom.gone, Atom.gone, Atom.bag y.snd, Atom.arr Kd.rrule y.fst.o, Atom.arr Kd.rrule y.fst.t, Atom.arr Kd.rrule y.fst.w, Atom.arr Kd.rrule y.fst.n, Atom.arr Kd.rrule y.fst.f, Atom.arr
 Kd.int y.fst.m, Atom.arr Kd.int y.fst.d, Atom.arr Kd.int y.fst.r] [VV.one (V1.c (C.ptr 0 0 0))] [Atom.cells 44 (bookC false false y.fst.turn y.fst.deep [C.slc 1 0 y.fst.o.length none, C.slc 2 0 y.fst.t.length
 none, C.slc 3 0 y.fst.w.length none, C.slc 4 0 y.fst.n.length none, C.slc 5 0 y.fst.f.length none, C.slc 6 0 y.fst.m.length none, C.slc 7 0 y.fst.d.length none, C.slc 8 0 y.fst.r.length none, C.int .i64
 y.fst.seen]), Atom.arr Kd.rrule y.fst.o, Atom.arr Kd.rrule y.fst.t, Atom.arr Kd.rrule y.fst.w, Atom.arr Kd.rrule y.fst.n, Atom.arr Kd.rrule y.fst.f, Atom.arr Kd.int y.fst.m, Atom.arr Kd.int y.fst.d, Atom.arr
 Kd.int y.fst.r] ∧ ∀ (y_1 : Unit), True → True ∧ Into (K := KK) 0 [] [0, 10, 11, 12, 13, 14, 15, 16, 17] [VV.one (V1.c (C.ptr 0 0 0))] [Atom.cells 44 (bookC false false y.fst.turn y.fst.deep [C.slc 10 0
 y.fst.o.length none, C.slc 11 0 y.fst.t.length none, C.slc 12 0 y.fst.w.length none, C.slc 13 0 y.fst.n.length none, C.slc 14 0 y.fst.f.length none, C.slc 15 0 y.fst.m.length none, C.slc 16 0 y.fst.d.length
 none, C.slc 17 0 y.fst.r.length none, C.int .i64 y.fst.seen]), Atom.gone, Atom.gone, Atom.gone, Atom.gone, Atom.gone, Atom.gone, Atom.gone, Atom.gone, Atom.bag y.snd, Atom.arr Kd.rrule y.fst.o, Atom.arr
 Kd.rrule y.fst.t, Atom.arr Kd.rrule y.fst.w, Atom.arr Kd.rrule y.fst.n, Atom.arr Kd.rrule y.fst.f, Atom.arr Kd.int y.fst.m, Atom.arr Kd.int y.fst.d, Atom.arr Kd.int y.fst.r] [VV.one (V1.c (C.ptr 0 0 0))]
 [Atom.cells 44 (bookC false false y.fst.turn y.fst.deep [C.slc 1 0 y.fst.o.length none, C.slc 2 0 y.fst.t.length none, C.slc 3 0 y.fst.w.length none, C.slc 4 0 y.fst.n.length none, C.slc 5 0 y.fst.f.length
 none, C.slc 6 0 y.fst.m.length none, C.slc 7 0 y.fst.d.length none, C.slc 8 0 y.fst.r.length none, C.int .i64 y.fst.seen]), Atom.arr Kd.rrule y.fst.o, Atom.arr Kd.rrule y.fst.t, Atom.arr Kd.rrule y.fst.w,
 Atom.arr Kd.rrule y.fst.n, Atom.arr Kd.rrule y.fst.f, Atom.arr Kd.int y.fst.m, Atom.arr Kd.int y.fst.d, Atom.arr Kd.int y.fst.r] ∧ ∀ (y_2 : Unit), True → True ∧ Into (K := KK) 0 [] [0, 10, 11, 12, 13,
 14, 15, 16, 17] [VV.one (V1.c (C.ptr 0 0 0))] [Atom.cells 44 (bookC false false y.fst.turn y.fst.deep [C.slc 10 0 y.fst.o.length none, C.slc 11 0 y.fst.t.length none, C.slc 12 0 y.fst.w.length none, C.slc
 13 0 y.fst.n.length none, C.slc 14 0 y.fst.f.length none, C.slc 15 0 y.fst.m.length none, C.slc 16 0 y.fst.d.length none, C.slc 17 0 y.fst.r.length none, C.int .i64 y.fst.seen]), Atom.gone, Atom.gone,
 Atom.gone, Atom.gone, Atom.gone, Atom.gone, Atom.gone, Atom.gone, Atom.bag y.snd, Atom.arr Kd.rrule y.fst.o, Atom.arr Kd.rrule y.fst.t, Atom.arr Kd.rrule y.fst.w, Atom.arr Kd.rrule y.fst.n, Atom.arr Kd.rrule
 y.fst.f, Atom.arr Kd.int y.fst.m, Atom.arr Kd.int y.fst.d, Atom.arr Kd.int y.fst.r] [VV.one (V1.c (C.ptr 0 0 0))] [Atom.cells 44 (bookC false false y.fst.turn y.fst.deep [C.slc 1 0 y.fst.o.length none,
 C.slc 2 0 y.fst.t.length none, C.slc 3 0 y.fst.w.length none, C.slc 4 0 y.fst.n.length none, C.slc 5 0 y.fst.f.length none, C.slc 6 0 y.fst.m.length none, C.slc 7 0 y.fst.d.length none, C.slc 8 0 y.fst.r.length
 none, C.int .i64 y.fst.seen]), Atom.arr Kd.rrule y.fst.o, Atom.arr Kd.rrule y.fst.t, Atom.arr Kd.rrule y.fst.w, Atom.arr Kd.rrule y.fst.n, Atom.arr Kd.rrule y.fst.f, Atom.arr Kd.int y.fst.m, Atom.arr Kd.int
 y.fst.d, Atom.arr Kd.int y.fst.r] ∧ ∀ (y_3 : Unit), True → True ∧ Into (K := KK) 0 [] [0, 10, 11, 12, 13, 14, 15, 16, 17] [VV.one (V1.c (C.ptr 0 0 0))] [Atom.cells 44 (bookC false false y.fst.turn y.fst.deep
 [C.slc 10 0 y.fst.o.length none, C.slc 11 0 y.fst.t.length none, C.slc 12 0 y.fst.w.length none, C.slc 13 0 y.fst.n.length none, C.slc 14 0 y.fst.f.length none, C.slc 15 0 y.fst.m.length none, C.slc 16
 0 y.fst.d.length none, C.slc 17 0 y.fst.r.length none, C.int .i64 y.fst.seen]), Atom.gone, Atom.gone, Atom.gone, Atom.gone, Atom.gone, Atom.gone, Atom.gone, Atom.gone, Atom.bag y.snd, Atom.arr Kd.rrule
 y.fst.o, Atom.arr Kd.rrule y.fst.t, Atom.arr Kd.rrule y.fst.w, Atom.arr Kd.rrule y.fst.n, Atom.arr Kd.rrule y.fst.f, Atom.arr Kd.int y.fst.m, Atom.arr Kd.int y.fst.d, Atom.arr Kd.int y.fst.r] [VV.one (V1.c
 (C.ptr 0 0 0))] [Atom.cells 44 (bookC false false y.fst.turn y.fst.deep [C.slc 1 0 y.fst.o.length none, C.slc 2 0 y.fst.t.length none, C.slc 3 0 y.fst.w.length none, C.slc 4 0 y.fst.n.length none, C.slc
 5 0 y.fst.f.length none, C.slc 6 0 y.fst.m.length none, C.slc 7 0 y.fst.d.length none, C.slc 8 0 y.fst.r.length none, C.int .i64 y.fst.seen]), Atom.arr Kd.rrule y.fst.o, Atom.arr Kd.rrule y.fst.t, Atom.arr
 Kd.rrule y.fst.w, Atom.arr Kd.rrule y.fst.n, Atom.arr Kd.rrule y.fst.f, Atom.arr Kd.int y.fst.m, Atom.arr Kd.int y.fst.d, Atom.arr Kd.int y.fst.r] ∧ ∀ (y_4 : Unit), True → True ∧ Into (K := KK) 0 [] [0,
 10, 11, 12, 13, 14, 15, 16, 17] [VV.one (V1.c (C.ptr 0 0 0))] [Atom.cells 44 (bookC false false y.fst.turn y.fst.deep [C.slc 10 0 y.fst.o.length none, C.slc 11 0 y.fst.t.length none, C.slc 12 0 y.fst.w.length
 none, C.slc 13 0 y.fst.n.length none, C.slc 14 0 y.fst.f.length none, C.slc 15 0 y.fst.m.length none, C.slc 16 0 y.fst.d.length none, C.slc 17 0 y.fst.r.length none, C.int .i64 y.fst.seen]), Atom.gone,
 Atom.gone, Atom.gone, Atom.gone, Atom.gone, Atom.gone, Atom.gone, Atom.gone, Atom.bag y.snd, Atom.arr Kd.rrule y.fst.o, Atom.arr Kd.rrule y.fst.t, Atom.arr Kd.rrule y.fst.w, Atom.arr Kd.rrule y.fst.n,
 Atom.arr Kd.rrule y.fst.f, Atom.arr Kd.int y.fst.m, Atom.arr Kd.int y.fst.d, Atom.arr Kd.int y.fst.r] [VV.one (V1.c (C.ptr 0 0 0))] [Atom.cells 44 (bookC false false y.fst.turn y.fst.deep [C.slc 1 0 y.fst.o.length
 none, C.slc 2 0 y.fst.t.length none, C.slc 3 0 y.fst.w.length none, C.slc 4 0 y.fst.n.length none, C.slc 5 0 y.fst.f.length none, C.slc 6 0 y.fst.m.length none, C.slc 7 0 y.fst.d.length none, C.slc 8 0
 y.fst.r.length none, C.int .i64 y.fst.seen]), Atom.arr Kd.rrule y.fst.o, Atom.arr Kd.rrule y.fst.t, Atom.arr Kd.rrule y.fst.w, Atom.arr Kd.rrule y.fst.n, Atom.arr Kd.rrule y.fst.f, Atom.arr Kd.int y.fst.m,
 Atom.arr Kd.int y.fst.d, Atom.arr Kd.int y.fst.r] ∧ ∀ (y_5 : Unit), True → True ∧ Into (K := KK) 0 [] [0, 10, 11, 12, 13, 14, 15, 16, 17] [VV.one (V1.c (C.ptr 0 0 0))] [Atom.cells 44 (bookC false false
 y.fst.turn y.fst.deep [C.slc 10 0 y.fst.o.length none, C.slc 11 0 y.fst.t.length none, C.slc 12 0 y.fst.w.length none, C.slc 13 0 y.fst.n.length none, C.slc 14 0 y.fst.f.length none, C.slc 15 0 y.fst.m.length
 none, C.slc 16 0 y.fst.d.length none, C.slc 17 0 y.fst.r.length none, C.int .i64 y.fst.seen]), Atom.gone, Atom.gone, Atom.gone, Atom.gone, Atom.gone, Atom.gone, Atom.gone, Atom.gone, Atom.bag y.snd, Atom.arr
 Kd.rrule y.fst.o, Atom.arr Kd.rrule y.fst.t, Atom.arr Kd.rrule y.fst.w, Atom.arr Kd.rrule y.fst.n, Atom.arr Kd.rrule y.fst.f, Atom.arr Kd.int y.fst.m, Atom.arr Kd.int y.fst.d, Atom.arr Kd.int y.fst.r]
 [VV.one (V1.c (C.ptr 0 0 0))] [Atom.cells 44 (bookC false false y.fst.turn y.fst.deep [C.slc 1 0 y.fst.o.length none, C.slc 2 0 y.fst.t.length none, C.slc 3 0 y.fst.w.length none, C.slc 4 0 y.fst.n.length
 none, C.slc 5 0 y.fst.f.length none, C.slc 6 0 y.fst.m.length none, C.slc 7 0 y.fst.d.length none, C.slc 8 0 y.fst.r.length none, C.int .i64 y.fst.seen]), Atom.arr Kd.rrule y.fst.o, Atom.arr Kd.rrule y.fst.t,
 Atom.arr Kd.rrule y.fst.w, Atom.arr Kd.rrule y.fst.n, Atom.arr Kd.rrule y.fst.f, Atom.arr Kd.int y.fst.m, Atom.arr Kd.int y.fst.d, Atom.arr Kd.int y.fst.r] ∧ ∀ (y_6 : Unit), True → EndsAs 10 (ct_grows
 B φ) (VV.tup []) [Atom.cells 44 (bookC false false y.fst.turn y.fst.deep [C.slc 10 0 y.fst.o.length none, C.slc 11 0 y.fst.t.length none, C.slc 12 0 y.fst.w.length none, C.slc 13 0 y.fst.n.length none,
 C.slc 14 0 y.fst.f.length none, C.slc 15 0 y.fst.m.length none, C.slc 16 0 y.fst.d.length none, C.slc 17 0 y.fst.r.length none, C.int .i64 y.fst.seen]), Atom.gone, Atom.gone, Atom.gone, Atom.gone, Atom.gone,
 Atom.gone, Atom.gone, Atom.gone, Atom.bag y.snd, Atom.arr Kd.rrule y.fst.o, Atom.arr Kd.rrule y.fst.t, Atom.arr Kd.rrule y.fst.w, Atom.arr Kd.rrule y.fst.n, Atom.arr Kd.rrule y.fst.f, Atom.arr Kd.int y.fst.m,
 Atom.arr Kd.int y.fst.d, Atom.arr Kd.int y.fst.r]) := by kernel_rfl
theorem hT_ok (B : BS) (φ : Bag KK) : CtOk Tryz.prog 32 (ct_hT B φ) := CtOk_of KK_ok tabB (ann_hT B φ) (fn := Tryz.f32) rfl (fun _ _ => rfl) fun hn => by
  have hn : BookOk φ B := hn
  have hto : B.o.length = B.t.length := All2.length hn.good.told
  have hon : B.w.length = B.n.length := All2.length hn.good.note
  have hcB := hn.cnt
  have hfB := hn.few
  rw [vc_hT]
  simp only [Int.toNat_natCast, Nat.zero_add, Nat.add_zero]
  refine ⟨⟨(0 : Nat), [], [0, 1, 2, 3, 4, 5, 6, 7, 8, 9], Nat.zero_le _, trivial, into_mk (by kernel_rfl) (by (repeat' first | exact trivial | exact rfl | apply And.intro)) (by (repeat' first | exact trivial | exact rfl | apply And.intro))⟩, fun i hi => ite2_decide (fun hl => ?_) (fun hl => ⟨⟨(0 : Nat), [], [0, 1, 2, 3, 4, 5, 6, 7, 8, 9], Nat.zero_le _, trivial, into_mk (by kernel_rfl) (by (repeat' first | exact trivial | exact rfl | apply And.intro)) (by (repeat' first | exact trivial | exact rfl | apply And.intro))⟩, fun j hj => ite2_decide (fun hl2 => ?_) (fun hl2 => ⟨(), [], [0, 1, 2, 3, 4, 5, 6, 7, 8, 9], trivial, by (repeat' first | exact trivial | exact rfl | apply And.intro)⟩)⟩)⟩
  · have h1 : i < B.o.length := by omega
    have h2 : i < B.t.length := by omega
    obtain ⟨xs, x1, x2, x3⟩ := hn.good.told.rd .nil .nil i h1
    have x3' : (xs : List (Int × ByteArray)).length ≤ 1000150 := x3
    exact ⟨⟨by omega, by omega⟩, h1, trivial, h1, ⟨by omega, by omega⟩, h2, trivial, h2, trivial, ⟨xs, x1, x2, le_big (by first | exact x3 | exact le_150 x3)⟩, into_mk (by kernel_rfl) (by (repeat' first | exact trivial | exact rfl | apply And.intro)) (by (repeat' first | exact trivial | exact rfl | apply And.intro)), fun _ _ => ⟨trivial, by unfold i64ok; omega, (i + 1 : Nat), [], [0, 1, 2, 3, 4, 5, 6, 7, 8, 9], h1, by omega, into_mk (by kernel_rfl) (by (repeat' first | exact trivial | exact rfl | apply And.intro)) (by (repeat' first | exact trivial | exact rfl | apply And.intro))⟩⟩
  · have h1 : j < B.w.length := by omega
    have h2 : j < B.n.length := by omega
    obtain ⟨xs, x1, x2, x3⟩ := hn.good.note.rd .nil .nil j h1
    have x3' : (xs : List (Int × ByteArray)).length ≤ 1000000 := x3
    exact ⟨⟨by omega, by omega⟩, h1, trivial, h1, ⟨by omega, by omega⟩, h2, trivial, h2, trivial, ⟨xs, x1, x2, le_big (by first | exact x3 | exact le_150 x3)⟩, into_mk (by kernel_rfl) (by (repeat' first | exact trivial | exact rfl | apply And.intro)) (by (repeat' first | exact trivial | exact rfl | apply And.intro)), fun _ _ => ⟨trivial, by unfold i64ok; omega, (j + 1 : Nat), [], [0, 1, 2, 3, 4, 5, 6, 7, 8, 9], h1, by omega, into_mk (by kernel_rfl) (by (repeat' first | exact trivial | exact rfl | apply And.intro)) (by (repeat' first | exact trivial | exact rfl | apply And.intro))⟩⟩
theorem marks_ok (B : BS) (φ : Bag KK) : CtOk Tryz.prog 78 (ct_marks B φ) := CtOk_of KK_ok tabM ann0 (fn := Tryz.f78) rfl (fun _ _ => rfl) fun hn => by
  rw [vc_marks]
  exact ⟨trivial, into_mk (by kernel_rfl) (by (repeat' first | exact trivial | exact rfl | apply And.intro)) (by (repeat' first | exact trivial | exact rfl | apply And.intro)), fun _ _ => ⟨trivial, into_mk (by kernel_rfl) (by (repeat' first | exact trivial | exact rfl | apply And.intro)) (by (repeat' first | exact trivial | exact rfl | apply And.intro)), fun _ _ => ⟨trivial, into_mk (by kernel_rfl) (by (repeat' first | exact trivial | exact rfl | apply And.intro)) (by (repeat' first | exact trivial | exact rfl | apply And.intro)), fun _ _ => ⟨trivial, into_mk (by kernel_rfl) (by (repeat' first | exact trivial | exact rfl | apply And.intro)) (by (repeat' first | exact trivial | exact rfl | apply And.intro)), fun _ _ => ⟨trivial, into_mk (by kernel_rfl) (by (repeat' first | exact trivial | exact rfl | apply And.intro)) (by (repeat' first | exact trivial | exact rfl | apply And.intro)), fun _ _ => ⟨trivial, into_mk (by kernel_rfl) (by (repeat' first | exact trivial | exact rfl | apply And.intro)) (by (repeat' first | exact trivial | exact rfl | apply And.intro)), fun _ _ => ⟨trivial, into_mk (by kernel_rfl) (by (repeat' first | exact trivial | exact rfl | apply And.intro)) (by (repeat' first | exact trivial | exact rfl | apply And.intro)), fun _ _ => ⟨trivial, into_mk (by kernel_rfl) (by (repeat' first | exact trivial | exact rfl | apply And.intro)) (by (repeat' first | exact trivial | exact rfl | apply And.intro)), fun _ _ => ⟨trivial, into_mk (by kernel_rfl) (by (repeat' first | exact trivial | exact rfl | apply And.intro)) (by (repeat' first | exact trivial | exact rfl | apply And.intro)), fun _ _ => ⟨hn, into_mk (by kernel_rfl) (by (repeat' first | exact trivial | exact rfl | apply And.intro)) (by (repeat' first | exact trivial | exact rfl | apply And.intro)), fun y hy => ⟨trivial, into_mk (by kernel_rfl) (by (repeat' first | exact trivial | exact rfl | apply And.intro)) (by (repeat' first | exact trivial | exact rfl | apply And.intro)), fun _ _ => ⟨trivial, into_mk (by kernel_rfl) (by (repeat' first | exact trivial | exact rfl | apply And.intro)) (by (repeat' first | exact trivial | exact rfl | apply And.intro)), fun _ _ => ⟨trivial, into_mk (by kernel_rfl) (by (repeat' first | exact trivial | exact rfl | apply And.intro)) (by (repeat' first | exact trivial | exact rfl | apply And.intro)), fun _ _ => ⟨trivial, into_mk (by kernel_rfl) (by (repeat' first | exact trivial | exact rfl | apply And.intro)) (by (repeat' first | exact trivial | exact rfl | apply And.intro)), fun _ _ => ⟨trivial, into_mk (by kernel_rfl) (by (repeat' first | exact trivial | exact rfl | apply And.intro)) (by (repeat' first | exact trivial | exact rfl | apply And.intro)), fun _ _ => ⟨trivial, into_mk (by kernel_rfl) (by (repeat' first | exact trivial | exact rfl | apply And.intro)) (by (repeat' first | exact trivial | exact rfl | apply And.intro)), fun _ _ => ⟨y, [], [0, 1, 2, 3, 4, 5, 6, 7, 8, 9, 10, 11, 12, 13, 14, 15, 16, 17], hy, by (repeat' first | exact trivial | exact rfl | apply And.intro)⟩⟩⟩⟩⟩⟩⟩⟩⟩⟩⟩⟩⟩⟩⟩⟩⟩
theorem grows_ok (B : BS) (φ : Bag KK) : CtOk Tryz.prog 79 (ct_grows B φ) := CtOk_of KK_ok tabG ann0 (fn := Tryz.f79) rfl (fun _ _ => rfl) fun hn => by
  rw [vc_grows]
  exact ⟨trivial, into_mk (by kernel_rfl) (by (repeat' first | exact trivial | exact rfl | apply And.intro)) (by (repeat' first | exact trivial | exact rfl | apply And.intro)), fun _ _ => ⟨trivial, into_mk (by kernel_rfl) (by (repeat' first | exact trivial | exact rfl | apply And.intro)) (by (repeat' first | exact trivial | exact rfl | apply And.intro)), fun _ _ => ⟨trivial, into_mk (by kernel_rfl) (by (repeat' first | exact trivial | exact rfl | apply And.intro)) (by (repeat' first | exact trivial | exact rfl | apply And.intro)), fun _ _ => ⟨trivial, into_mk (by kernel_rfl) (by (repeat' first | exact trivial | exact rfl | apply And.intro)) (by (repeat' first | exact trivial | exact rfl | apply And.intro)), fun _ _ => ⟨trivial, into_mk (by kernel_rfl) (by (repeat' first | exact trivial | exact rfl | apply And.intro)) (by (repeat' first | exact trivial | exact rfl | apply And.intro)), fun _ _ => ⟨trivial, into_mk (by kernel_rfl) (by (repeat' first | exact trivial | exact rfl | apply And.intro)) (by (repeat' first | exact trivial | exact rfl | apply And.intro)), fun _ _ => ⟨trivial, into_mk (by kernel_rfl) (by (repeat' first | exact trivial | exact rfl | apply And.intro)) (by (repeat' first | exact trivial | exact rfl | apply And.intro)), fun _ _ => ⟨trivial, into_mk (by kernel_rfl) (by (repeat' first | exact trivial | exact rfl | apply And.intro)) (by (repeat' first | exact trivial | exact rfl | apply And.intro)), fun _ _ => ⟨trivial, into_mk (by kernel_rfl) (by (repeat' first | exact trivial | exact rfl | apply And.intro)) (by (repeat' first | exact trivial | exact rfl | apply And.intro)), fun _ _ => ⟨hn, into_mk (by kernel_rfl) (by (repeat' first | exact trivial | exact rfl | apply And.intro)) (by (repeat' first | exact trivial | exact rfl | apply And.intro)), fun y hy => ⟨trivial, into_mk (by kernel_rfl) (by (repeat' first | exact trivial | exact rfl | apply And.intro)) (by (repeat' first | exact trivial | exact rfl | apply And.intro)), fun _ _ => ⟨trivial, into_mk (by kernel_rfl) (by (repeat' first | exact trivial | exact rfl | apply And.intro)) (by (repeat' first | exact trivial | exact rfl | apply And.intro)), fun _ _ => ⟨trivial, into_mk (by kernel_rfl) (by (repeat' first | exact trivial | exact rfl | apply And.intro)) (by (repeat' first | exact trivial | exact rfl | apply And.intro)), fun _ _ => ⟨trivial, into_mk (by kernel_rfl) (by (repeat' first | exact trivial | exact rfl | apply And.intro)) (by (repeat' first | exact trivial | exact rfl | apply And.intro)), fun _ _ => ⟨trivial, into_mk (by kernel_rfl) (by (repeat' first | exact trivial | exact rfl | apply And.intro)) (by (repeat' first | exact trivial | exact rfl | apply And.intro)), fun _ _ => ⟨trivial, into_mk (by kernel_rfl) (by (repeat' first | exact trivial | exact rfl | apply And.intro)) (by (repeat' first | exact trivial | exact rfl | apply And.intro)), fun _ _ => ⟨y, [], [0, 1, 2, 3, 4, 5, 6, 7, 8, 9, 10, 11, 12, 13, 14, 15, 16, 17], hy, by (repeat' first | exact trivial | exact rfl | apply And.intro)⟩⟩⟩⟩⟩⟩⟩⟩⟩⟩⟩⟩⟩⟩⟩⟩⟩
end Go.Proofs.YtoidibkcdkdneaaGreatDoor.T
end
section
namespace Go.Proofs.YtoidibkcdkdneaaGreatDoor.T
open Go.Proofs.YtoidibkcdkdneaaGreatDoor.E
set_option maxRecDepth 100000
set_option linter.unusedVariables false
set_option linter.unusedSimpArgs false
/-- A book between two calls. -/
structure RestOk (φ : Bag KK) (B : BS) : Prop where
  ok : BookOk φ B
  f : B.f = []
  r : B.r = []
  deep : B.deep = 0
  turn : B.turn = B.seen
def ct_done (B : BS) (φ : Bag KK) : Ct KK := { need := BookOk φ B ∧ B.deep = 1 ∧ B.turn + 1 = B.seen, pre := bookH B ++ [.bag φ], args := [.c (.ptr 0 0 0)], Y := BS × Bag KK, ok := fun y => RestOk y.2 y.1 ∧ y.1.seen = B.seen ∧ Stays φ B.bk y.2 y.1.bk, ret := fun _ => .tup [], post := fun y => bookM y.1 y.2 }
def tabD : Tab Tryz.prog KK := ⟨mixed, fun f args H => match args with
  | [.one (.c (.ptr 0 0 0))] => match getBB H with
    | some (B, φ, τ) => match f with
      | 78 => some (ct_marks B φ, [], τ)
      | 79 => some (ct_grows B φ, [], τ)
      | _ => none
    | none => none
  | _ => none, fun f args H ct ks τ h => by
    split at h
    · split at h
      · split at h
        · cases h; exact marks_ok _ _
        · cases h; exact grows_ok _ _
        · cases h
      · cases h
    · cases h⟩
theorem vc_done (B : BS) (φ : Bag KK) : evFn tabD ann0 Tryz.f45 (ct_done B φ) = ( i64ok (B.deep - (1 : Int)) ∧ ite2 (decide ((0 : Int) < B.deep - (1 : Int))) (EndsAs 10 (ct_done B φ) (VV.tup []) [Atom.cells 44 (bookC false false B.turn (B.deep - (1 : Int)) [C.slc 1 0 B.o.length none,
 C.slc 2 0 B.t.length none, C.slc 3 0 B.w.length none, C.slc 4 0 B.n.length none, C.slc 5 0 B.f.length none, C.slc 6 0 B.m.length none, C.slc 7 0 B.d.length none, C.slc 8 0 B.r.length none, C.int .i64 B.seen]),
 Atom.arr Kd.rrule B.o, Atom.arr Kd.rrule B.t, Atom.arr Kd.rrule B.w, Atom.arr Kd.rrule B.n, Atom.arr Kd.rrule B.f, Atom.arr Kd.int B.m, Atom.arr Kd.int B.d, Atom.arr Kd.int B.r, Atom.bag φ]) (BookOk φ
 (BS.mk (B.turn) (B.deep - (1 : Int)) (B.o) (B.t) (B.w) (B.n) (B.f) (B.m) (B.d) (B.r) (B.seen)) ∧ Into (K := KK) 0 [] [0, 1, 2, 3, 4, 5, 6, 7, 8, 9] [VV.one (V1.c (C.ptr 0 0 0))] [Atom.cells 44 (bookC false
 false B.turn (B.deep - (1 : Int)) [C.slc 1 0 B.o.length none, C.slc 2 0 B.t.length none, C.slc 3 0 B.w.length none, C.slc 4 0 B.n.length none, C.slc 5 0 B.f.length none, C.slc 6 0 B.m.length none, C.slc
 7 0 B.d.length none, C.slc 8 0 B.r.length none, C.int .i64 B.seen]), Atom.arr Kd.rrule B.o, Atom.arr Kd.rrule B.t, Atom.arr Kd.rrule B.w, Atom.arr Kd.rrule B.n, Atom.arr Kd.rrule B.f, Atom.arr Kd.int B.m,
 Atom.arr Kd.int B.d, Atom.arr Kd.int B.r, Atom.bag φ] [VV.one (V1.c (C.ptr 0 0 0))] [Atom.cells 44 (bookC false false B.turn (B.deep - (1 : Int)) [C.slc 1 0 B.o.length none, C.slc 2 0 B.t.length none,
 C.slc 3 0 B.w.length none, C.slc 4 0 B.n.length none, C.slc 5 0 B.f.length none, C.slc 6 0 B.m.length none, C.slc 7 0 B.d.length none, C.slc 8 0 B.r.length none, C.int .i64 B.seen]), Atom.arr Kd.rrule
 B.o, Atom.arr Kd.rrule B.t, Atom.arr Kd.rrule B.w, Atom.arr Kd.rrule B.n, Atom.arr Kd.rrule B.f, Atom.arr Kd.int B.m, Atom.arr Kd.int B.d, Atom.arr Kd.int B.r, Atom.bag φ] ∧ ∀ (y : BS × Bag KK), (BookOk
 y.snd y.fst ∧ (y.fst.turn = B.turn ∧ y.fst.deep = B.deep - (1 : Int) ∧ y.fst.seen = B.seen) ∧ ∀ (b : Nat) (i : BI KK), φ b = some i → (∀ (y : RS), List.Mem y (B.o ++ (B.t ++ (B.w ++ (B.n ++ B.f)))) → ¬y.At
 b) → y.snd b = some i ∧ ∀ (y_1 : RS), List.Mem y_1 (y.fst.o ++ (y.fst.t ++ (y.fst.w ++ (y.fst.n ++ y.fst.f)))) → ¬y_1.At b) → BookOk y.snd (BS.mk (y.fst.turn) (y.fst.deep) (y.fst.o) (y.fst.t) (y.fst.w)
 (y.fst.n) (y.fst.f) (y.fst.m) (y.fst.d) (y.fst.r) (y.fst.seen)) ∧ Into (K := KK) 0 [] [0, 10, 11, 12, 13, 14, 15, 16, 17, 9] [VV.one (V1.c (C.ptr 0 0 0))] [Atom.cells 44 (bookC false false y.fst.turn y.fst.deep
 [C.slc 10 0 y.fst.o.length none, C.slc 11 0 y.fst.t.length none, C.slc 12 0 y.fst.w.length none, C.slc 13 0 y.fst.n.length none, C.slc 14 0 y.fst.f.length none, C.slc 15 0 y.fst.m.length none, C.slc 16
 0 y.fst.d.length none, C.slc 17 0 y.fst.r.length none, C.int .i64 y.fst.seen]), Atom.gone, Atom.gone, Atom.gone, Atom.gone, Atom.gone, Atom.gone, Atom.gone, Atom.gone, Atom.bag y.snd, Atom.arr Kd.rrule
 y.fst.o, Atom.arr Kd.rrule y.fst.t, Atom.arr Kd.rrule y.fst.w, Atom.arr Kd.rrule y.fst.n, Atom.arr Kd.rrule y.fst.f, Atom.arr Kd.int y.fst.m, Atom.arr Kd.int y.fst.d, Atom.arr Kd.int y.fst.r] [VV.one (V1.c
 (C.ptr 0 0 0))] [Atom.cells 44 (bookC false false y.fst.turn y.fst.deep [C.slc 1 0 y.fst.o.length none, C.slc 2 0 y.fst.t.length none, C.slc 3 0 y.fst.w.length none, C.slc 4 0 y.fst.n.length none, C.slc
 5 0 y.fst.f.length none, C.slc 6 0 y.fst.m.length none, C.slc 7 0 y.fst.d.length none, C.slc 8 0 y.fst.r.length none, C.int .i64 y.fst.seen]), Atom.arr Kd.rrule y.fst.o, Atom.arr Kd.rrule y.fst.t, Atom.arr
 Kd.rrule y.fst.w, Atom.arr Kd.rrule y.fst.n, Atom.arr Kd.rrule y.fst.f, Atom.arr Kd.int y.fst.m, Atom.arr Kd.int y.fst.d, Atom.arr Kd.int y.fst.r, Atom.bag y.snd] ∧ ∀ (y_1 : BS × Bag KK), (BookOk y_1.snd
 y_1.fst ∧ (y_1.fst.turn = y.fst.turn ∧ y_1.fst.deep = y.fst.deep ∧ y_1.fst.seen = y.fst.seen) ∧ ∀ (b : Nat) (i : BI KK), y.snd b = some i → (∀ (y_2 : RS), List.Mem y_2 (y.fst.o ++ (y.fst.t ++ (y.fst.w
 ++ (y.fst.n ++ y.fst.f)))) → ¬y_2.At b) → y_1.snd b = some i ∧ ∀ (y : RS), List.Mem y (y_1.fst.o ++ (y_1.fst.t ++ (y_1.fst.w ++ (y_1.fst.n ++ y_1.fst.f)))) → ¬y.At b) ∧ y_1.fst.f = [] ∧ y_1.fst.r = []
 → i64ok (y_1.fst.turn + (1 : Int)) ∧ EndsAs 10 (ct_done B φ) (VV.tup []) [Atom.cells 44 (bookC false false (y_1.fst.turn + (1 : Int)) y_1.fst.deep [C.slc 18 0 y_1.fst.o.length none, C.slc 19 0 y_1.fst.t.length
 none, C.slc 20 0 y_1.fst.w.length none, C.slc 21 0 y_1.fst.n.length none, C.slc 22 0 y_1.fst.f.length none, C.slc 23 0 y_1.fst.m.length none, C.slc 24 0 y_1.fst.d.length none, C.slc 25 0 y_1.fst.r.length
 none, C.int .i64 y_1.fst.seen]), Atom.gone, Atom.gone, Atom.gone, Atom.gone, Atom.gone, Atom.gone, Atom.gone, Atom.gone, Atom.bag y_1.snd, Atom.gone, Atom.gone, Atom.gone, Atom.gone, Atom.gone, Atom.gone,
 Atom.gone, Atom.gone, Atom.arr Kd.rrule y_1.fst.o, Atom.arr Kd.rrule y_1.fst.t, Atom.arr Kd.rrule y_1.fst.w, Atom.arr Kd.rrule y_1.fst.n, Atom.arr Kd.rrule y_1.fst.f, Atom.arr Kd.int y_1.fst.m, Atom.arr
 Kd.int y_1.fst.d, Atom.arr Kd.int y_1.fst.r])) := by kernel_rfl
theorem done_ok (B : BS) (φ : Bag KK) : CtOk Tryz.prog 45 (ct_done B φ) := CtOk_of KK_ok tabD ann0 (fn := Tryz.f45) rfl (fun _ _ => rfl) fun hn => by
  obtain ⟨hb, hd, ht⟩ := hn
  have hfew := hb.few
  have hturn := hb.turn
  rw [vc_done]
  refine ⟨by unfold i64ok; omega, ite2_decide (fun h => absurd h (by omega)) (fun h => ⟨⟨hb.good, hb.tab, hb.lm, hb.ld, hb.lr, hb.mb, hb.rb, hb.cnt, hb.few, hb.turn⟩, into_mk (by kernel_rfl) (by (repeat' first | exact trivial | exact rfl | apply And.intro)) (by (repeat' first | exact trivial | exact rfl | apply And.intro)), ?_⟩)⟩
  rintro ⟨C, φ'⟩ ⟨hc, ⟨s1, s2, s3⟩, st1⟩
  refine ⟨hc, into_mk (by kernel_rfl) (by (repeat' first | exact trivial | exact rfl | apply And.intro)) (by (repeat' first | exact trivial | exact rfl | apply And.intro)), ?_⟩
  rintro ⟨D, φ''⟩ ⟨⟨hd', ⟨t1, t2, t3⟩, st2⟩, t4, t5⟩
  have st1 : Stays φ B.bk φ' C.bk := st1
  have st2 : Stays φ' C.bk φ'' D.bk := st2
  have s1 : C.turn = B.turn := s1
  have s2 : C.deep = B.deep - 1 := s2
  have s3 : C.seen = B.seen := s3
  have t1 : D.turn = C.turn := t1
  have t2 : D.deep = C.deep := t2
  have t3 : D.seen = C.seen := t3
  have t4 : D.f = [] := t4
  have t5 : D.r = [] := t5
  have hf' := hd'.few
  have hf' : D.seen ≤ 100000 := hf'
  exact ⟨by show i64ok (D.turn + 1); unfold i64ok; omega, ({ D with turn := D.turn + 1 }, φ''), [], [0, 1, 2, 3, 4, 5, 6, 7, 8, 9, 18, 19, 20, 21, 22, 23, 24, 25], ⟨⟨⟨hd'.good, hd'.tab, hd'.lm, hd'.ld, hd'.lr, hd'.mb, hd'.rb, hd'.cnt, hd'.few, ⟨by show 0 ≤ D.turn + 1; omega, by show D.turn + 1 ≤ 1000000; omega⟩⟩, t4, t5, by show D.deep = 0; omega, by show D.turn + 1 = D.seen; omega⟩, by show D.seen = B.seen; omega, st1.trans st2⟩, by (repeat' first | exact trivial | exact rfl | apply And.intro)⟩
end Go.Proofs.YtoidibkcdkdneaaGreatDoor.T
end
section
namespace Go.Proofs.YtoidibkcdkdneaaGreatDoor.T
open Go.Proofs.YtoidibkcdkdneaaGreatDoor.E
set_option maxRecDepth 100000
set_option linter.unusedVariables false
set_option linter.unusedSimpArgs false
def ct_bRules (l : RS) (mark : Int) (B : BS) (φ : Bag KK) : Ct KK := { need := RestOk φ B ∧ Alone φ Kd.rule 1000000 B.bk l ∧ (-1000000000000 ≤ mark ∧ mark ≤ 1000000000000) ∧ B.seen < 100000, pre := bookH B ++ [.bag φ], args := [.c (.ptr 0 0 0), .c (.rs 57 2 l), i64 mark], Y := BS × Bag KK, ok := fun y => RestOk y.2 y.1 ∧ y.1.seen = B.seen + 1 ∧ StaysX φ B.bk l y.2 y.1.bk, ret := fun _ => .tup [], post := fun y => bookM y.1 y.2 }
def ct_bHold (B : BS) (φ : Bag KK) : Ct KK := { need := BookOk φ B, pre := bookH B ++ [.bag φ], args := [.c (.ptr 0 0 0)], Y := Unit, ok := fun _ => True, ret := fun _ => boolv true, post := fun _ => bookH B ++ [.bag φ] }
def tabT : Tab Tryz.prog KK := ⟨mixed, fun f args H => match f, args with
  | 44, [.one (.c (.ptr 0 0 0)), .one (.c (.int _ n))] => match getB H with
    | some (B, τ) => some (ct_due B n, [], τ)
    | none => none
  | 45, [.one (.c (.ptr 0 0 0))] => match getBB H with
    | some (B, φ, τ) => some (ct_done B φ, [], τ)
    | none => none
  | _, _ => none, fun f args H ct ks τ h => by
    split at h
    · split at h
      · cases h; exact due_ok _ _
      · cases h
    · split at h
      · cases h; exact done_ok _ _
      · cases h
    · cases h⟩
def pick_tabH (f : FuncId) (B : BS) (τ : List Nat) : Option (Ct KK × List KK.Kd × List Nat) := match f with
  | 23 => some (ct_b B (boolv true), [], τ)
  | 24 => some (ct_b B (boolv true), [], τ)
  | 25 => some (ct_b B (boolv true), [], τ)
  | 26 => some (ct_b B (boolv true), [], τ)
  | 27 => some (ct_b B (boolv true), [], τ)
  | 28 => some (ct_b B (boolv true), [], τ)
  | 29 => some (ct_b B (boolv true), [], τ)
  | 30 => some (ct_b B (boolv true), [], τ)
  | 31 => some (ct_b B (boolv true), [], τ)
  | 33 => some (ct_b B (boolv true), [], τ)
  | 34 => some (ct_b B (boolv true), [], τ)
  | 35 => some (ct_b B (boolv true), [], τ)
  | 36 => some (ct_b B (boolv true), [], τ)
  | 37 => some (ct_b B (boolv true), [], τ)
  | 38 => some (ct_b B (boolv true), [], τ)
  | _ => none
theorem pick_tabH_ok (f : FuncId) (B : BS) (τ : List Nat) (ct ks ρ) (h : pick_tabH f B τ = some (ct, ks, ρ)) : CtOk Tryz.prog f ct := by
  unfold pick_tabH at h
  split at h
  · cases h; exact hBytes_ok _
  · cases h; exact hInts_ok _
  · cases h; exact hTexts_ok _
  · cases h; exact hLosts_ok _
  · cases h; exact hChanges_ok _
  · cases h; exact hCells_ok _
  · cases h; exact hItems_ok _
  · cases h; exact hEntries_ok _
  · cases h; exact hPlaceds_ok _
  · cases h; exact hFaults_ok _
  · cases h; exact hChunks_ok _
  · cases h; exact hThings_ok _
  · cases h; exact hDones_ok _
  · cases h; exact hNodes_ok _
  · cases h; exact hSteps_ok _
  · cases h
def tabH : Tab Tryz.prog KK := ⟨mixed, fun f args H => match args with
  | [.one (.c (.ptr 0 0 0))] => match f with
    | 32 => match getBB H with
      | some (B, φ, τ) => some (ct_hT B φ, [], τ)
      | none => none
    | f => match getB H with
      | some (B, τ) => pick_tabH f B τ
      | none => none
  | _ => none, fun f args H ct ks τ h => by
    split at h
    · split at h
      · split at h
        · cases h; exact hT_ok _ _
        · cases h
      · split at h
        · exact pick_tabH_ok _ _ _ _ _ _ h
        · cases h
    · cases h⟩
theorem vc_bRules (l : RS) (mark : Int) (B : BS) (φ : Bag KK) : evFn tabT ann0 Tryz.f18 (ct_bRules l mark B φ) = ( i64ok (B.deep + (1 : Int)) ∧ B.w.length = B.w.length ∧ (1 ≤ 1 ∧ True) ∧ (B.w.length + 1) * 24 ≤ 140737488355328 ∧ True ∧ (VV.one (V1.c (C.slc 4 0 B.n.length none)) = VV.one (V1.c (C.slc 4 0 B.n.length
 none)) ∧ True) ∧ 0 = 0 ∧ ∃ (ys : List (KK.α Kd.rule)), RS.row φ Kd.rule l = some ys ∧ (0 + ys.length) * 24 ≤ 140737488355328 ∧ (VV.one (V1.c (C.slc 4 0 B.n.length none)) = VV.one (V1.c (C.slc 4 0 B.n.length
 none)) ∧ True) ∧ 0 + ys.length = ys.length ∧ (ys = [] → (VV.one (V1.c (C.slc 4 0 B.n.length none)) = VV.one (V1.c (C.slc 4 0 B.n.length none)) ∧ True) ∧ B.n.length = B.n.length ∧ (1 ≤ 1 ∧ True) ∧ (B.n.length
 + 1) * 24 ≤ 140737488355328 ∧ True ∧ True ∧ B.m.length = B.m.length ∧ (1 ≤ 1 ∧ True) ∧ (B.m.length + 1) * 8 ≤ 140737488355328 ∧ True ∧ (((0 : Int) ≤ B.turn ∧ B.turn ≤ (1000000 : Int)) ∧ (0 : Int) ≤ B.seen
 ∧ B.seen ≤ (1000000 : Int)) ∧ Into (K := KK) 0 [] [0, 1, 2, 11, 15, 5, 17, 7, 8] [VV.one (V1.c (C.ptr 0 0 0)), i64 B.seen] [Atom.cells 44 (bookC false false B.turn (B.deep + (1 : Int)) [C.slc 1 0 B.o.length
 none, C.slc 2 0 B.t.length none, C.slc 11 0 (B.w.length + 1) none, C.slc 15 0 (B.n.length + 1) none, C.slc 5 0 B.f.length none, C.slc 17 0 (B.m.length + 1) none, C.slc 7 0 B.d.length none, C.slc 8 0 B.r.length
 none, C.int .i64 B.seen]), Atom.arr Kd.rrule B.o, Atom.arr Kd.rrule B.t, Atom.gone, Atom.gone, Atom.arr Kd.rrule B.f, Atom.gone, Atom.arr Kd.int B.d, Atom.arr Kd.int B.r, Atom.bag φ, Atom.arr Kd.rrule
 [l], Atom.arr Kd.rrule (B.w ++ [l]), Atom.gone, Atom.gone, Atom.arr Kd.rrule [RS.nil], Atom.arr Kd.rrule (B.n ++ [RS.nil]), Atom.arr Kd.int [mark], Atom.arr Kd.int (B.m ++ [mark])] [VV.one (V1.c (C.ptr
 0 0 0)), i64 B.seen] [Atom.cells 44 (bookC false false B.turn (B.deep + (1 : Int)) [C.slc 1 0 B.o.length none, C.slc 2 0 B.t.length none, C.slc 3 0 (B.w ++ [l]).length none, C.slc 4 0 (B.n ++ [RS.nil]).length
 none, C.slc 5 0 B.f.length none, C.slc 6 0 (B.m ++ [mark]).length none, C.slc 7 0 B.d.length none, C.slc 8 0 B.r.length none, C.int .i64 B.seen]), Atom.arr Kd.rrule B.o, Atom.arr Kd.rrule B.t, Atom.arr
 Kd.rrule (B.w ++ [l]), Atom.arr Kd.rrule (B.n ++ [RS.nil]), Atom.arr Kd.rrule B.f, Atom.arr Kd.int (B.m ++ [mark]), Atom.arr Kd.int B.d, Atom.arr Kd.int B.r] ∧ ∀ (y : Int), (0 : Int) ≤ y ∧ y ≤ (2000000
 : Int) → (VV.one (V1.c (C.slc 7 0 B.d.length none)) = VV.one (V1.c (C.slc 7 0 B.d.length none)) ∧ True) ∧ (VV.one (V1.c (C.slc 7 0 B.d.length none)) = VV.one (V1.c (C.slc 7 0 B.d.length none)) ∧ True)
 ∧ B.d.length = B.d.length ∧ (1 ≤ 1 ∧ True) ∧ (B.d.length + 1) * 8 ≤ 140737488355328 ∧ True ∧ True ∧ i64ok (B.seen + (1 : Int)) ∧ (BookOk φ (BS.mk (B.turn) (B.deep + (1 : Int)) (B.o) (B.t) (B.w ++ [l])
 (B.n ++ [RS.nil]) (B.f) (B.m ++ [mark]) (B.d ++ [y]) (B.r) (B.seen + (1 : Int))) ∧ B.deep + (1 : Int) = (1 : Int) ∧ B.turn + (1 : Int) = B.seen + (1 : Int)) ∧ Into (K := KK) 0 [] [0, 1, 2, 11, 15, 5, 17,
 19, 8, 9] [VV.one (V1.c (C.ptr 0 0 0))] [Atom.cells 44 (bookC false false B.turn (B.deep + (1 : Int)) [C.slc 1 0 B.o.length none, C.slc 2 0 B.t.length none, C.slc 11 0 (B.w ++ [l]).length none, C.slc 15
 0 (B.n ++ [RS.nil]).length none, C.slc 5 0 B.f.length none, C.slc 17 0 (B.m ++ [mark]).length none, C.slc 19 0 (B.d.length + 1) none, C.slc 8 0 B.r.length none, C.int .i64 (B.seen + (1 : Int))]), Atom.arr
 Kd.rrule B.o, Atom.arr Kd.rrule B.t, Atom.gone, Atom.gone, Atom.arr Kd.rrule B.f, Atom.gone, Atom.gone, Atom.arr Kd.int B.r, Atom.bag φ, Atom.arr Kd.rrule [l], Atom.arr Kd.rrule (B.w ++ [l]), Atom.gone,
 Atom.gone, Atom.arr Kd.rrule [RS.nil], Atom.arr Kd.rrule (B.n ++ [RS.nil]), Atom.arr Kd.int [mark], Atom.arr Kd.int (B.m ++ [mark]), Atom.arr Kd.int [y], Atom.arr Kd.int (B.d ++ [y])] [VV.one (V1.c (C.ptr
 0 0 0))] [Atom.cells 44 (bookC false false B.turn (B.deep + (1 : Int)) [C.slc 1 0 B.o.length none, C.slc 2 0 B.t.length none, C.slc 3 0 (B.w ++ [l]).length none, C.slc 4 0 (B.n ++ [RS.nil]).length none,
 C.slc 5 0 B.f.length none, C.slc 6 0 (B.m ++ [mark]).length none, C.slc 7 0 (B.d ++ [y]).length none, C.slc 8 0 B.r.length none, C.int .i64 (B.seen + (1 : Int))]), Atom.arr Kd.rrule B.o, Atom.arr Kd.rrule
 B.t, Atom.arr Kd.rrule (B.w ++ [l]), Atom.arr Kd.rrule (B.n ++ [RS.nil]), Atom.arr Kd.rrule B.f, Atom.arr Kd.int (B.m ++ [mark]), Atom.arr Kd.int (B.d ++ [y]), Atom.arr Kd.int B.r, Atom.bag φ] ∧ ∀ (y_1
 : BS × Bag KK), (RestOk y_1.snd y_1.fst ∧ y_1.fst.seen = B.seen + (1 : Int) ∧ ∀ (b : Nat) (i : BI KK), φ b = some i → (∀ (y : RS), List.Mem y (B.o ++ (B.t ++ (B.w ++ [l] ++ (B.n ++ [RS.nil] ++ B.f))))
 → ¬y.At b) → y_1.snd b = some i ∧ ∀ (y : RS), List.Mem y (y_1.fst.o ++ (y_1.fst.t ++ (y_1.fst.w ++ (y_1.fst.n ++ y_1.fst.f)))) → ¬y.At b) → EndsAs 10 (ct_bRules l mark B φ) (VV.tup []) [Atom.cells 44 (bookC
 false false y_1.fst.turn y_1.fst.deep [C.slc 20 0 y_1.fst.o.length none, C.slc 21 0 y_1.fst.t.length none, C.slc 22 0 y_1.fst.w.length none, C.slc 23 0 y_1.fst.n.length none, C.slc 24 0 y_1.fst.f.length
 none, C.slc 25 0 y_1.fst.m.length none, C.slc 26 0 y_1.fst.d.length none, C.slc 27 0 y_1.fst.r.length none, C.int .i64 y_1.fst.seen]), Atom.gone, Atom.gone, Atom.gone, Atom.gone, Atom.gone, Atom.gone,
 Atom.gone, Atom.gone, Atom.bag y_1.snd, Atom.arr Kd.rrule [l], Atom.gone, Atom.gone, Atom.gone, Atom.arr Kd.rrule [RS.nil], Atom.gone, Atom.arr Kd.int [mark], Atom.gone, Atom.arr Kd.int [y], Atom.gone,
 Atom.arr Kd.rrule y_1.fst.o, Atom.arr Kd.rrule y_1.fst.t, Atom.arr Kd.rrule y_1.fst.w, Atom.arr Kd.rrule y_1.fst.n, Atom.arr Kd.rrule y_1.fst.f, Atom.arr Kd.int y_1.fst.m, Atom.arr Kd.int y_1.fst.d, Atom.arr
 Kd.int y_1.fst.r]) ∧ ∀ (b c : Nat), φ b = none → ys.length ≤ c → (VV.one (V1.c (C.slc 4 0 B.n.length none)) = VV.one (V1.c (C.slc 4 0 B.n.length none)) ∧ True) ∧ B.n.length = B.n.length ∧ (1 ≤ 1 ∧ True)
 ∧ (B.n.length + 1) * 24 ≤ 140737488355328 ∧ True ∧ True ∧ B.m.length = B.m.length ∧ (1 ≤ 1 ∧ True) ∧ (B.m.length + 1) * 8 ≤ 140737488355328 ∧ True ∧ (((0 : Int) ≤ B.turn ∧ B.turn ≤ (1000000 : Int)) ∧ (0
 : Int) ≤ B.seen ∧ B.seen ≤ (1000000 : Int)) ∧ Into (K := KK) 0 [] [0, 1, 2, 11, 15, 5, 17, 7, 8] [VV.one (V1.c (C.ptr 0 0 0)), i64 B.seen] [Atom.cells 44 (bookC false false B.turn (B.deep + (1 : Int))
 [C.slc 1 0 B.o.length none, C.slc 2 0 B.t.length none, C.slc 11 0 (B.w.length + 1) none, C.slc 15 0 (B.n.length + 1) none, C.slc 5 0 B.f.length none, C.slc 17 0 (B.m.length + 1) none, C.slc 7 0 B.d.length
 none, C.slc 8 0 B.r.length none, C.int .i64 B.seen]), Atom.arr Kd.rrule B.o, Atom.arr Kd.rrule B.t, Atom.gone, Atom.gone, Atom.arr Kd.rrule B.f, Atom.gone, Atom.arr Kd.int B.d, Atom.arr Kd.int B.r, Atom.bag
 (bput φ b (BI.row Kd.rule c ys)), Atom.arr Kd.rrule [l], Atom.arr Kd.rrule (B.w ++ [l]), Atom.gone, Atom.gone, Atom.arr Kd.rrule [RS.mk b 0 (0 + ys.length) c], Atom.arr Kd.rrule (B.n ++ [RS.mk b 0 (0 +
 ys.length) c]), Atom.arr Kd.int [mark], Atom.arr Kd.int (B.m ++ [mark])] [VV.one (V1.c (C.ptr 0 0 0)), i64 B.seen] [Atom.cells 44 (bookC false false B.turn (B.deep + (1 : Int)) [C.slc 1 0 B.o.length none,
 C.slc 2 0 B.t.length none, C.slc 3 0 (B.w ++ [l]).length none, C.slc 4 0 (B.n ++ [RS.mk b 0 (0 + ys.length) c]).length none, C.slc 5 0 B.f.length none, C.slc 6 0 (B.m ++ [mark]).length none, C.slc 7 0
 B.d.length none, C.slc 8 0 B.r.length none, C.int .i64 B.seen]), Atom.arr Kd.rrule B.o, Atom.arr Kd.rrule B.t, Atom.arr Kd.rrule (B.w ++ [l]), Atom.arr Kd.rrule (B.n ++ [RS.mk b 0 (0 + ys.length) c]),
 Atom.arr Kd.rrule B.f, Atom.arr Kd.int (B.m ++ [mark]), Atom.arr Kd.int B.d, Atom.arr Kd.int B.r] ∧ ∀ (y : Int), (0 : Int) ≤ y ∧ y ≤ (2000000 : Int) → (VV.one (V1.c (C.slc 7 0 B.d.length none)) = VV.one
 (V1.c (C.slc 7 0 B.d.length none)) ∧ True) ∧ (VV.one (V1.c (C.slc 7 0 B.d.length none)) = VV.one (V1.c (C.slc 7 0 B.d.length none)) ∧ True) ∧ B.d.length = B.d.length ∧ (1 ≤ 1 ∧ True) ∧ (B.d.length + 1)
 * 8 ≤ 140737488355328 ∧ True ∧ True ∧ i64ok (B.seen + (1 : Int)) ∧ (BookOk (bput φ b (BI.row Kd.rule c ys)) (BS.mk (B.turn) (B.deep + (1 : Int)) (B.o) (B.t) (B.w ++ [l]) (B.n ++ [RS.mk b 0 (0 + ys.length)
 c]) (B.f) (B.m ++ [mark]) (B.d ++ [y]) (B.r) (B.seen + (1 : Int))) ∧ B.deep + (1 : Int) = (1 : Int) ∧ B.turn + (1 : Int) = B.seen + (1 : Int)) ∧ Into (K := KK) 0 [] [0, 1, 2, 11, 15, 5, 17, 19, 8, 9] [VV.one
 (V1.c (C.ptr 0 0 0))] [Atom.cells 44 (bookC false false B.turn (B.deep + (1 : Int)) [C.slc 1 0 B.o.length none, C.slc 2 0 B.t.length none, C.slc 11 0 (B.w ++ [l]).length none, C.slc 15 0 (B.n ++ [RS.mk
 b 0 (0 + ys.length) c]).length none, C.slc 5 0 B.f.length none, C.slc 17 0 (B.m ++ [mark]).length none, C.slc 19 0 (B.d.length + 1) none, C.slc 8 0 B.r.length none, C.int .i64 (B.seen + (1 : Int))]), Atom.arr
 Kd.rrule B.o, Atom.arr Kd.rrule B.t, Atom.gone, Atom.gone, Atom.arr Kd.rrule B.f, Atom.gone, Atom.gone, Atom.arr Kd.int B.r, Atom.bag (bput φ b (BI.row Kd.rule c ys)), Atom.arr Kd.rrule [l], Atom.arr Kd.rrule
 (B.w ++ [l]), Atom.gone, Atom.gone, Atom.arr Kd.rrule [RS.mk b 0 (0 + ys.length) c], Atom.arr Kd.rrule (B.n ++ [RS.mk b 0 (0 + ys.length) c]), Atom.arr Kd.int [mark], Atom.arr Kd.int (B.m ++ [mark]), Atom.arr
 Kd.int [y], Atom.arr Kd.int (B.d ++ [y])] [VV.one (V1.c (C.ptr 0 0 0))] [Atom.cells 44 (bookC false false B.turn (B.deep + (1 : Int)) [C.slc 1 0 B.o.length none, C.slc 2 0 B.t.length none, C.slc 3 0 (B.w
 ++ [l]).length none, C.slc 4 0 (B.n ++ [RS.mk b 0 (0 + ys.length) c]).length none, C.slc 5 0 B.f.length none, C.slc 6 0 (B.m ++ [mark]).length none, C.slc 7 0 (B.d ++ [y]).length none, C.slc 8 0 B.r.length
 none, C.int .i64 (B.seen + (1 : Int))]), Atom.arr Kd.rrule B.o, Atom.arr Kd.rrule B.t, Atom.arr Kd.rrule (B.w ++ [l]), Atom.arr Kd.rrule (B.n ++ [RS.mk b 0 (0 + ys.length) c]), Atom.arr Kd.rrule B.f, Atom.arr
 Kd.int (B.m ++ [mark]), Atom.arr Kd.int (B.d ++ [y]), Atom.arr Kd.int B.r, Atom.bag (bput φ b (BI.row Kd.rule c ys))] ∧ ∀ (y_1 : BS × Bag KK), (RestOk y_1.snd y_1.fst ∧ y_1.fst.seen = B.seen + (1 : Int)
 ∧ ∀ (b_1 : Nat) (i : BI KK), bput φ b (BI.row Kd.rule c ys) b_1 = some i → (∀ (y : RS), List.Mem y (B.o ++ (B.t ++ (B.w ++ [l] ++ (B.n ++ [RS.mk b 0 (0 + ys.length) c] ++ B.f)))) → ¬y.At b_1) → y_1.snd
 b_1 = some i ∧ ∀ (y : RS), List.Mem y (y_1.fst.o ++ (y_1.fst.t ++ (y_1.fst.w ++ (y_1.fst.n ++ y_1.fst.f)))) → ¬y.At b_1) → EndsAs 10 (ct_bRules l mark B φ) (VV.tup []) [Atom.cells 44 (bookC false false
 y_1.fst.turn y_1.fst.deep [C.slc 20 0 y_1.fst.o.length none, C.slc 21 0 y_1.fst.t.length none, C.slc 22 0 y_1.fst.w.length none, C.slc 23 0 y_1.fst.n.length none, C.slc 24 0 y_1.fst.f.length none, C.slc
 25 0 y_1.fst.m.length none, C.slc 26 0 y_1.fst.d.length none, C.slc 27 0 y_1.fst.r.length none, C.int .i64 y_1.fst.seen]), Atom.gone, Atom.gone, Atom.gone, Atom.gone, Atom.gone, Atom.gone, Atom.gone, Atom.gone,
 Atom.bag y_1.snd, Atom.arr Kd.rrule [l], Atom.gone, Atom.gone, Atom.gone, Atom.arr Kd.rrule [RS.mk b 0 (0 + ys.length) c], Atom.gone, Atom.arr Kd.int [mark], Atom.gone, Atom.arr Kd.int [y], Atom.gone,
 Atom.arr Kd.rrule y_1.fst.o, Atom.arr Kd.rrule y_1.fst.t, Atom.arr Kd.rrule y_1.fst.w, Atom.arr Kd.rrule y_1.fst.n, Atom.arr Kd.rrule y_1.fst.f, Atom.arr Kd.int y_1.fst.m, Atom.arr Kd.int y_1.fst.d, Atom.arr
 Kd.int y_1.fst.r]) := by kernel_rfl
theorem vc_bHold (B : BS) (φ : Bag KK) : evFn tabH ann0 Tryz.f10 (ct_bHold B φ) = ( True ∧ Into (K := KK) 0 [] [0, 1, 2, 3, 4, 5, 6, 7, 8] [VV.one (V1.c (C.ptr 0 0 0))] (bookH B ++ [.bag φ]) [VV.one (V1.c (C.ptr 0 0 0))] (bookH B) ∧ ∀ (y : Unit), True → True ∧ Into (K := KK) 0 [] [0,
 1, 2, 3, 4, 5, 6, 7, 8] [VV.one (V1.c (C.ptr 0 0 0))] (bookH B ++ [.bag φ]) [VV.one (V1.c (C.ptr 0 0 0))] (bookH B) ∧ ∀ (y : Unit), True → True ∧ Into (K := KK) 0 [] [0, 1, 2, 3, 4, 5, 6, 7, 8] [VV.one
 (V1.c (C.ptr 0 0 0))] (bookH B ++ [.bag φ]) [VV.one (V1.c (C.ptr 0 0 0))] (bookH B) ∧ ∀ (y : Unit), True → True ∧ Into (K := KK) 0 [] [0, 1, 2, 3, 4, 5, 6, 7, 8] [VV.one (V1.c (C.ptr 0 0 0))] (bookH B
 ++ [.bag φ]) [VV.one (V1.c (C.ptr 0 0 0))] (bookH B) ∧ ∀ (y : Unit), True → True ∧ Into (K := KK) 0 [] [0, 1, 2, 3, 4, 5, 6, 7, 8] [VV.one (V1.c (C.ptr 0 0 0))] (bookH B ++ [.bag φ]) [VV.one (V1.c (C.ptr
 0 0 0))] (bookH B) ∧ ∀ (y : Unit), True → True ∧ Into (K := KK) 0 [] [0, 1, 2, 3, 4, 5, 6, 7, 8] [VV.one (V1.c (C.ptr 0 0 0))] (bookH B ++ [.bag φ]) [VV.one (V1.c (C.ptr 0 0 0))] (bookH B) ∧ ∀ (y : Unit),
 True → True ∧ Into (K := KK) 0 [] [0, 1, 2, 3, 4, 5, 6, 7, 8] [VV.one (V1.c (C.ptr 0 0 0))] (bookH B ++ [.bag φ]) [VV.one (V1.c (C.ptr 0 0 0))] (bookH B) ∧ ∀ (y : Unit), True → True ∧ Into (K := KK) 0
 [] [0, 1, 2, 3, 4, 5, 6, 7, 8] [VV.one (V1.c (C.ptr 0 0 0))] (bookH B ++ [.bag φ]) [VV.one (V1.c (C.ptr 0 0 0))] (bookH B) ∧ ∀ (y : Unit), True → True ∧ Into (K := KK) 0 [] [0, 1, 2, 3, 4, 5, 6, 7, 8]
 [VV.one (V1.c (C.ptr 0 0 0))] (bookH B ++ [.bag φ]) [VV.one (V1.c (C.ptr 0 0 0))] (bookH B) ∧ ∀ (y : Unit), True → BookOk φ (BS.mk (B.turn) (B.deep) (B.o) (B.t) (B.w) (B.n) (B.f) (B.m) (B.d) (B.r) (B.seen))
 ∧ Into (K := KK) 0 [] [0, 1, 2, 3, 4, 5, 6, 7, 8, 9] [VV.one (V1.c (C.ptr 0 0 0))] (bookH B ++ [.bag φ]) [VV.one (V1.c (C.ptr 0 0 0))] (bookH B ++ [.bag φ]) ∧ ∀ (y : Unit), True → True ∧ Into (K := KK)
 0 [] [0, 1, 2, 3, 4, 5, 6, 7, 8] [VV.one (V1.c (C.ptr 0 0 0))] (bookH B ++ [.bag φ]) [VV.one (V1.c (C.ptr 0 0 0))] (bookH B) ∧ ∀ (y : Unit), True → True ∧ Into (K := KK) 0 [] [0, 1, 2, 3, 4, 5, 6, 7, 8]
 [VV.one (V1.c (C.ptr 0 0 0))] (bookH B ++ [.bag φ]) [VV.one (V1.c (C.ptr 0 0 0))] (bookH B) ∧ ∀ (y : Unit), True → True ∧ Into (K := KK) 0 [] [0, 1, 2, 3, 4, 5, 6, 7, 8] [VV.one (V1.c (C.ptr 0 0 0))] (bookH
 B ++ [.bag φ]) [VV.one (V1.c (C.ptr 0 0 0))] (bookH B) ∧ ∀ (y : Unit), True → True ∧ Into (K := KK) 0 [] [0, 1, 2, 3, 4, 5, 6, 7, 8] [VV.one (V1.c (C.ptr 0 0 0))] (bookH B ++ [.bag φ]) [VV.one (V1.c (C.ptr
 0 0 0))] (bookH B) ∧ ∀ (y : Unit), True → True ∧ Into (K := KK) 0 [] [0, 1, 2, 3, 4, 5, 6, 7, 8] [VV.one (V1.c (C.ptr 0 0 0))] (bookH B ++ [.bag φ]) [VV.one (V1.c (C.ptr 0 0 0))] (bookH B) ∧ ∀ (y : Unit),
 True → True ∧ Into (K := KK) 0 [] [0, 1, 2, 3, 4, 5, 6, 7, 8] [VV.one (V1.c (C.ptr 0 0 0))] (bookH B ++ [.bag φ]) [VV.one (V1.c (C.ptr 0 0 0))] (bookH B) ∧ ∀ (y : Unit), True → EndsAs 10 (ct_bHold B φ)
 (VV.one (V1.c (C.bool true))) (bookH B ++ [.bag φ])) := by kernel_rfl
theorem bHold_ok (B : BS) (φ : Bag KK) : CtOk Tryz.prog 10 (ct_bHold B φ) := CtOk_of KK_ok tabH ann0 (fn := Tryz.f10) rfl (fun _ _ => rfl) fun hn => by
  rw [vc_bHold]
  exact ⟨trivial, into_mk (by kernel_rfl) (by (repeat' first | exact trivial | exact rfl | apply And.intro)) (by (repeat' first | exact trivial | exact rfl | apply And.intro)), fun _ _ => ⟨trivial, into_mk (by kernel_rfl) (by (repeat' first | exact trivial | exact rfl | apply And.intro)) (by (repeat' first | exact trivial | exact rfl | apply And.intro)), fun _ _ => ⟨trivial, into_mk (by kernel_rfl) (by (repeat' first | exact trivial | exact rfl | apply And.intro)) (by (repeat' first | exact trivial | exact rfl | apply And.intro)), fun _ _ => ⟨trivial, into_mk (by kernel_rfl) (by (repeat' first | exact trivial | exact rfl | apply And.intro)) (by (repeat' first | exact trivial | exact rfl | apply And.intro)), fun _ _ => ⟨trivial, into_mk (by kernel_rfl) (by (repeat' first | exact trivial | exact rfl | apply And.intro)) (by (repeat' first | exact trivial | exact rfl | apply And.intro)), fun _ _ => ⟨trivial, into_mk (by kernel_rfl) (by (repeat' first | exact trivial | exact rfl | apply And.intro)) (by (repeat' first | exact trivial | exact rfl | apply And.intro)), fun _ _ => ⟨trivial, into_mk (by kernel_rfl) (by (repeat' first | exact trivial | exact rfl | apply And.intro)) (by (repeat' first | exact trivial | exact rfl | apply And.intro)), fun _ _ => ⟨trivial, into_mk (by kernel_rfl) (by (repeat' first | exact trivial | exact rfl | apply And.intro)) (by (repeat' first | exact trivial | exact rfl | apply And.intro)), fun _ _ => ⟨trivial, into_mk (by kernel_rfl) (by (repeat' first | exact trivial | exact rfl | apply And.intro)) (by (repeat' first | exact trivial | exact rfl | apply And.intro)), fun _ _ => ⟨hn, into_mk (by kernel_rfl) (by (repeat' first | exact trivial | exact rfl | apply And.intro)) (by (repeat' first | exact trivial | exact rfl | apply And.intro)), fun _ _ => ⟨trivial, into_mk (by kernel_rfl) (by (repeat' first | exact trivial | exact rfl | apply And.intro)) (by (repeat' first | exact trivial | exact rfl | apply And.intro)), fun _ _ => ⟨trivial, into_mk (by kernel_rfl) (by (repeat' first | exact trivial | exact rfl | apply And.intro)) (by (repeat' first | exact trivial | exact rfl | apply And.intro)), fun _ _ => ⟨trivial, into_mk (by kernel_rfl) (by (repeat' first | exact trivial | exact rfl | apply And.intro)) (by (repeat' first | exact trivial | exact rfl | apply And.intro)), fun _ _ => ⟨trivial, into_mk (by kernel_rfl) (by (repeat' first | exact trivial | exact rfl | apply And.intro)) (by (repeat' first | exact trivial | exact rfl | apply And.intro)), fun _ _ => ⟨trivial, into_mk (by kernel_rfl) (by (repeat' first | exact trivial | exact rfl | apply And.intro)) (by (repeat' first | exact trivial | exact rfl | apply And.intro)), fun _ _ => ⟨trivial, into_mk (by kernel_rfl) (by (repeat' first | exact trivial | exact rfl | apply And.intro)) (by (repeat' first | exact trivial | exact rfl | apply And.intro)), fun _ _ => ⟨(), [], [0, 1, 2, 3, 4, 5, 6, 7, 8, 9], trivial, by (repeat' first | exact trivial | exact rfl | apply And.intro)⟩⟩⟩⟩⟩⟩⟩⟩⟩⟩⟩⟩⟩⟩⟩⟩⟩
theorem rest_new {φ φ' : Bag KK} {B : BS} {l y : RS} {zs : List (Int × ByteArray)} {mark due : Int} (h : RestOk φ B) (ha : Alone φ Kd.rule 1000000 B.bk l) (hm : -1000000000000 ≤ mark ∧ mark ≤ 1000000000000) (hs : B.seen < 100000) (hr : l.row φ Kd.rule = some zs) (hy : Frz φ Kd.rule zs y φ') :
    BookOk φ' { B with deep := B.deep + 1, w := B.w ++ [l], n := B.n ++ [y], m := B.m ++ [mark], d := B.d ++ [due], seen := B.seen + 1 } := by
  obtain ⟨hb, hf, hrr, hd, ht⟩ := h
  have h1 := hb.cnt
  have h2 := hb.lm
  have h3 := hb.ld
  refine ⟨hb.good.handed ha hr hy, hb.tab.frz hy, by simp [h2], by simp [h3], hb.lr, fun x hx => ?_, hb.rb, ?_, by show B.seen + 1 ≤ 100000; omega, hb.turn⟩
  · rcases List.mem_append.1 hx with hx | hx
    · exact hb.mb x hx
    · rw [List.mem_singleton.1 hx]; exact hm
  · show (B.o.length : Int) + 2 * ((B.w ++ [l]).length : Nat) + B.f.length = 2 * (B.seen + 1)
    rw [List.length_append, List.length_singleton]
    omega
theorem bRules_ok (l : RS) (mark : Int) (B : BS) (φ : Bag KK) : CtOk Tryz.prog 18 (ct_bRules l mark B φ) := CtOk_of KK_ok tabT ann0 (fn := Tryz.f18) rfl (fun _ _ => rfl) fun hn => by
  obtain ⟨hb, ha, hm, hs⟩ := hn
  have hfew := hb.ok.few
  have hcnt := hb.ok.cnt
  have hlm := hb.ok.lm
  have hld := hb.ok.ld
  have hd := hb.deep
  have ht := hb.turn
  have h0 := hb.ok.turn
  have hon : B.w.length = B.n.length := All2.length hb.ok.good.note
  obtain ⟨zs, z1, z2, z3⟩ := ha.whole
  have z3' : (zs : List (Int × ByteArray)).length ≤ 1000000 := z3
  rw [vc_bRules]
  have hfew : B.seen ≤ 100000 := hfew
  have step : ∀ (c : Bool) y φ' due, Frz φ Kd.rule zs y φ' → 0 ≤ due ∧ due ≤ 2000000 → BookOk φ' { B with deep := B.deep + 1, w := B.w ++ [l], n := B.n ++ [y], m := B.m ++ [mark], d := B.d ++ [due], seen := B.seen + 1 } := fun _ y φ' due hy _ => rest_new hb ha hm hs z2 hy
  refine ⟨by unfold i64ok; omega, rfl, ⟨Nat.le_refl _, trivial⟩, by omega, trivial, ⟨rfl, trivial⟩, rfl, zs, z2, by rw [Nat.zero_add]; exact le_lim (le_150 z3), ⟨rfl, trivial⟩, Nat.zero_add _, fun hz => ?_, fun b c hfr hc => ?_⟩
  · refine ⟨⟨rfl, trivial⟩, rfl, ⟨Nat.le_refl _, trivial⟩, by omega, trivial, trivial, rfl, ⟨Nat.le_refl _, trivial⟩, by omega, trivial, ⟨by omega, by omega, by omega⟩, into_mk (by kernel_rfl) (by (repeat' first | exact trivial | exact rfl | exact len_snoc _ _ | apply And.intro)) (by (repeat' first | exact trivial | exact rfl | exact len_snoc _ _ | apply And.intro)), fun due hdue => ⟨⟨rfl, trivial⟩, ⟨rfl, trivial⟩, rfl, ⟨Nat.le_refl _, trivial⟩, by omega, trivial, trivial, by unfold i64ok; omega, ⟨step true _ _ due (.nil_ hz) hdue, by omega, by omega⟩, into_mk (by kernel_rfl) (by (repeat' first | exact trivial | exact rfl | exact len_snoc _ _ | apply And.intro)) (by (repeat' first | exact trivial | exact rfl | exact len_snoc _ _ | apply And.intro)), fun y hy => ⟨y, [], [0, 1, 2, 3, 4, 5, 6, 7, 8, 9, 20, 21, 22, 23, 24, 25, 26, 27], ⟨hy.1, hy.2.1, (Frz.nil_ hz).handed.trans hy.2.2⟩, by (repeat' first | exact trivial | exact rfl | apply And.intro)⟩⟩⟩
  · have hq : 0 + (zs : List (Int × ByteArray)).length = zs.length := Nat.zero_add _
    have e2 : ∀ y : BS × Bag KK, Stays (bput φ b (.row Kd.rule c zs)) ⟨B.o, B.t, B.w ++ [l], B.n ++ [RS.mk b 0 (0 + zs.length) c], B.f⟩ y.2 y.1.bk → StaysX φ B.bk l y.2 y.1.bk := fun y h => by
      rw [hq] at h
      exact (Frz.mk (kd := Kd.rule) b c hfr hc).handed.trans h
    refine ⟨⟨rfl, trivial⟩, rfl, ⟨Nat.le_refl _, trivial⟩, by omega, trivial, trivial, rfl, ⟨Nat.le_refl _, trivial⟩, by omega, trivial, ⟨by omega, by omega, by omega⟩, into_mk (by kernel_rfl) (by (repeat' first | exact trivial | exact rfl | exact len_snoc _ _ | exact zero_mk _ _ _ | exact zero_mks _ _ _ _ | apply And.intro)) (by (repeat' first | exact trivial | exact rfl | exact len_snoc _ _ | exact zero_mk _ _ _ | exact zero_mks _ _ _ _ | apply And.intro)), fun due hdue => ⟨⟨rfl, trivial⟩, ⟨rfl, trivial⟩, rfl, ⟨Nat.le_refl _, trivial⟩, by omega, trivial, trivial, by unfold i64ok; omega, ⟨?_, by omega, by omega⟩, into_mk (by kernel_rfl) (by (repeat' first | exact trivial | exact rfl | exact len_snoc _ _ | exact zero_mk _ _ _ | exact zero_mks _ _ _ _ | apply And.intro)) (by (repeat' first | exact trivial | exact rfl | exact len_snoc _ _ | exact zero_mk _ _ _ | exact zero_mks _ _ _ _ | apply And.intro)), fun y hy => ⟨y, [], [0, 1, 2, 3, 4, 5, 6, 7, 8, 9, 20, 21, 22, 23, 24, 25, 26, 27], ⟨hy.1, hy.2.1, e2 y hy.2.2⟩, by (repeat' first | exact trivial | exact rfl | apply And.intro)⟩⟩⟩
    have := step true _ _ due (.mk b c hfr hc) hdue
    rw [← hq] at this
    exact this
end Go.Proofs.YtoidibkcdkdneaaGreatDoor.T
end
section
namespace Go.Proofs.YtoidibkcdkdneaaGreatDoor.T
open Go.Proofs.YtoidibkcdkdneaaGreatDoor.E Go.Proofs.YtoidibkcdkdneaaGreatDoor.MStr Go.Proofs.YtoidibkcdkdneaaGreatDoor.R
set_option maxRecDepth 100000
set_option linter.unusedVariables false
set_option linter.unusedSimpArgs false
set_option linter.unusedSimpArgs false
def hds4 : List ByteArray := [⟨#[]⟩, ⟨#[115, 107, 105, 112, 32]⟩, ⟨#[112, 114, 101, 102, 101, 114, 32, 97, 32]⟩, ⟨#[112, 114, 101, 102, 101, 114, 32, 98, 32]⟩]
def ct_rtext (l : List Rl) : Ct KK := { need := l.length ≤ 1000 ∧ (∀ r ∈ l, 1 ≤ r.1 ∧ r.1 ≤ 3) ∧ lsum l ≤ 1000000, pre := [.ro .rule l], args := [.c (.slc 0 0 l.length none)], Y := Unit, ok := fun _ => True, ret := fun _ => strv (textB l), post := fun _ => [.gone] }
def inv_rtext (l : List Rl) : Inv KK := { X := Nat, fr := fun i => [.c (.slc 0 0 l.length none), .any, .any, .c (.slc 1 0 4 none), strv (textB (l.take i)), i64 i] ++ anys 28, H := fun _ => [.ro .rule l, .arr .str hds4], ok := fun i => i ≤ l.length, meas := fun i : Nat => l.length - i }
def ann_rtext (l : List Rl) : Ann KK := { loop := fun _ _ _ => some (inv_rtext l), cut := fun _ _ _ => none, keep := some 6 }
theorem vc_rtext (l : List Rl) : evFn tab0 (ann_rtext l) Tryz.f17 (ct_rtext l) = ( Enter 1 (inv_rtext l) (fun (x : Nat) => True) ([VV.one (V1.c (C.slc 0 0 l.length none)), VV.any, VV.one (V1.c (C.str (ByteArray.mk (#[])))), VV.one (V1.c (C.slc 1 0 4 none)), VV.one (V1.c (C.str (ByteArray.mk
 (#[])))), i64 (0 : Int)] ++ anys 28) [Atom.ro Kd.rule l, Atom.arr Kd.str [(ByteArray.mk (#[])), (ByteArray.mk (#[(115 : UInt8), (107 : UInt8), (105 : UInt8), (112 : UInt8), (32 : UInt8)])), (ByteArray.mk
 (#[(112 : UInt8), (114 : UInt8), (101 : UInt8), (102 : UInt8), (101 : UInt8), (114 : UInt8), (32 : UInt8), (97 : UInt8), (32 : UInt8)])), (ByteArray.mk (#[(112 : UInt8), (114 : UInt8), (101 : UInt8), (102
 : UInt8), (101 : UInt8), (114 : UInt8), (32 : UInt8), (98 : UInt8), (32 : UInt8)]))]] ∧ ∀ (z : Nat), z ≤ l.length → ite2 (decide ((↑z : Int) < (↑l.length : Int))) (ite2 (decide ((0 : Int) < (↑z : Int)))
 ((textB (List.take z l)).size + 1 ≤ 9223372036854775807 ∧ ((0 : Int) ≤ (↑z : Int) ∧ (↑z : Int) < (↑l.length : Int)) ∧ (↑z : Int).toNat < l.length ∧ True ∧ (↑z : Int).toNat < l.length ∧ ((0 : Int) ≤ (rd
 l (↑z : Int).toNat (KK.dflt Kd.rule)).fst ∧ (rd l (↑z : Int).toNat (KK.dflt Kd.rule)).fst < (4 : Int)) ∧ (rd l (↑z : Int).toNat (KK.dflt Kd.rule)).fst.toNat < 4 ∧ True ∧ (rd l (↑z : Int).toNat (KK.dflt
 Kd.rule)).fst.toNat < 4 ∧ ((textB (List.take z l)).append (ByteArray.mk (#[(10 : UInt8)]))).size + ByteArray.size (rd hds4 (rd l (↑z : Int).toNat (KK.dflt Kd.rule)).fst.toNat (ByteArray.mk (#[]))) ≤ 9223372036854775807
 ∧ ((0 : Int) ≤ (↑z : Int) ∧ (↑z : Int) < (↑l.length : Int)) ∧ (↑z : Int).toNat < l.length ∧ True ∧ (↑z : Int).toNat < l.length ∧ (((textB (List.take z l)).append (ByteArray.mk (#[(10 : UInt8)]))).append
 (rd hds4 (rd l (↑z : Int).toNat (KK.dflt Kd.rule)).fst.toNat (ByteArray.mk (#[])))).size + (rd l (↑z : Int).toNat (KK.dflt Kd.rule)).snd.size ≤ 9223372036854775807 ∧ True ∧ True ∧ i64ok ((↑z : Int) + (1
 : Int)) ∧ Enter 1 (inv_rtext l) (fun (z' : Nat) => l.length - z' < l.length - z) ([VV.one (V1.c (C.slc 0 0 l.length none)), VV.any, VV.any, VV.one (V1.c (C.slc 1 0 4 none)), VV.one (V1.c (C.str ((((textB
 (List.take z l)).append (ByteArray.mk (#[(10 : UInt8)]))).append (rd hds4 (rd l (↑z : Int).toNat (KK.dflt Kd.rule)).fst.toNat (ByteArray.mk (#[])))).append (rd l (↑z : Int).toNat (KK.dflt Kd.rule)).snd))),
 i64 ((↑z : Int) + (1 : Int))] ++ anys 28) [Atom.ro Kd.rule l, Atom.arr Kd.str hds4]) (((0 : Int) ≤ (↑z : Int) ∧ (↑z : Int) < (↑l.length : Int)) ∧ (↑z : Int).toNat < l.length ∧ True ∧ (↑z : Int).toNat <
 l.length ∧ ((0 : Int) ≤ (rd l (↑z : Int).toNat (KK.dflt Kd.rule)).fst ∧ (rd l (↑z : Int).toNat (KK.dflt Kd.rule)).fst < (4 : Int)) ∧ (rd l (↑z : Int).toNat (KK.dflt Kd.rule)).fst.toNat < 4 ∧ True ∧ (rd
 l (↑z : Int).toNat (KK.dflt Kd.rule)).fst.toNat < 4 ∧ (textB (List.take z l)).size + ByteArray.size (rd hds4 (rd l (↑z : Int).toNat (KK.dflt Kd.rule)).fst.toNat (ByteArray.mk (#[]))) ≤ 9223372036854775807
 ∧ ((0 : Int) ≤ (↑z : Int) ∧ (↑z : Int) < (↑l.length : Int)) ∧ (↑z : Int).toNat < l.length ∧ True ∧ (↑z : Int).toNat < l.length ∧ ((textB (List.take z l)).append (rd hds4 (rd l (↑z : Int).toNat (KK.dflt
 Kd.rule)).fst.toNat (ByteArray.mk (#[])))).size + (rd l (↑z : Int).toNat (KK.dflt Kd.rule)).snd.size ≤ 9223372036854775807 ∧ True ∧ True ∧ i64ok ((↑z : Int) + (1 : Int)) ∧ Enter 1 (inv_rtext l) (fun (z'
 : Nat) => l.length - z' < l.length - z) ([VV.one (V1.c (C.slc 0 0 l.length none)), VV.any, VV.any, VV.one (V1.c (C.slc 1 0 4 none)), VV.one (V1.c (C.str (((textB (List.take z l)).append (rd hds4 (rd l
 (↑z : Int).toNat (KK.dflt Kd.rule)).fst.toNat (ByteArray.mk (#[])))).append (rd l (↑z : Int).toNat (KK.dflt Kd.rule)).snd))), i64 ((↑z : Int) + (1 : Int))] ++ anys 28) [Atom.ro Kd.rule l, Atom.arr Kd.str
 hds4])) (EndsAs 1 (ct_rtext l) (VV.one (V1.c (C.str (textB (List.take z l))))) [Atom.ro Kd.rule l, Atom.arr Kd.str hds4])) := by kernel_rfl
theorem text_take {l : List Rl} {i : Nat} (h : i < l.length) : (textB (l.take (i + 1))).data.toList = (textB (l.take i)).data.toList ++ ((if 0 < i then [10] else []) ++ lineL l[i]) := by
  have e : l.take (i + 1) = l.take i ++ [l[i]] := List.take_succ_eq_append_getElem h
  rw [e]
  unfold textB
  rw [tx_list, tx_list, List.map_append, List.map_cons, List.map_nil]
  by_cases hi : 0 < i
  · rw [if_pos hi]
    have hne : (l.take i).map lineL ≠ [] := by
      intro hc
      have := congrArg List.length hc
      rw [List.length_map, List.length_take] at this
      simp only [List.length_nil] at this
      omega
    generalize (l.take i).map lineL = A at hne
    clear e
    induction A with
    | nil => exact absurd rfl hne
    | cons a A ih =>
      cases A with
      | nil => simp [Lib.join, List.intercalate]
      | cons b B =>
        have := ih (by simp)
        show Lib.join (a :: b :: (B ++ [lineL l[i]])) [10] = _
        rw [join_cons]
        have this : Lib.join (b :: (B ++ [lineL l[i]])) [10] = Lib.join (b :: B) [10] ++ ([10] ++ lineL l[i]) := this
        rw [this, join_cons]
        simp
  · have : i = 0 := by omega
    subst this
    simp [Lib.join, List.intercalate]
theorem heads4_at (w : Int) (h1 : 1 ≤ w) (h2 : w ≤ 3) : (rd hds4 w.toNat (ByteArray.mk #[])).data.toList = R.hd w ∧ (rd hds4 w.toNat (ByteArray.mk #[])).size ≤ 9 := by
  rcases (show w = 1 ∨ w = 2 ∨ w = 3 by omega) with rfl | rfl | rfl
  · exact ⟨rfl, by decide⟩
  · exact ⟨rfl, by decide⟩
  · exact ⟨rfl, by decide⟩
theorem text_le {l : List Rl} (i : Nat) : (textB (l.take i)).size ≤ lsum l := by
  have h1 := text_size (l.take i)
  have h2 : lsum (l.take i) ≤ lsum l := by
    have e : lsum l = lsum (l.take i) + lsum (l.drop i) := by
      conv => lhs; rw [← List.take_append_drop i l]
      unfold lsum
      rw [List.map_append, List.sum_append]
    omega
  omega
theorem rtext_ok (l : List Rl) : CtOk Tryz.prog 17 (ct_rtext l) := CtOk_of KK_ok tab0 (ann_rtext l) (fn := Tryz.f17) rfl (fun _ _ => rfl) fun hn => by
  obtain ⟨hn, hw, hs⟩ := hn
  rw [vc_rtext]
  refine ⟨⟨(0 : Nat), [], [0, 1], Nat.zero_le _, trivial, into_mk (by kernel_rfl) (by (repeat' first | exact trivial | exact rfl | apply And.intro)) (by (repeat' first | exact trivial | exact rfl | apply And.intro))⟩, ?_⟩
  intro i hi
  have hi : i ≤ l.length := hi
  simp only [Int.toNat_natCast]
  refine ite2_decide (fun hl => ?_) (fun hl => ?_)
  · have hl1 : i < l.length := by omega
    have hr : rd l i (KK.dflt Kd.rule) = l[i] := rl_at hl1 _
    have hwi := hw _ (List.getElem_mem hl1)
    obtain ⟨hh, hh2⟩ := heads4_at l[i].1 hwi.1 hwi.2
    have ht := text_take hl1
    have htl := text_le (l := l) i
    have hsz := lsum_mem (List.getElem_mem hl1)
    have hsz2 : (lineL l[i]).length = (R.hd l[i].1).length + l[i].2.size := by
      unfold lineL
      rw [List.length_append]
      simp
    have me : l.length - (i + 1) < l.length - i := by omega
    have io : i64ok ((i : Int) + 1) := by unfold i64ok; omega
    have k4 : l[i].1.toNat < 4 := by omega
    have k5 : (0 : Int) ≤ l[i].1 ∧ l[i].1 < 4 := by omega
    rw [hr]
    have fin : ∀ s : ByteArray, s.data.toList = (textB (l.take i)).data.toList ++ (if 0 < i then [10] else []) → (s.append (rd hds4 l[i].1.toNat (ByteArray.mk #[]))).append l[i].2 = textB (l.take (i + 1)) := fun s e => by
      rw [app_tx, app_tx, tx_list, e, hh]
      have : textB (l.take (i + 1)) = tx (textB (l.take (i + 1))).data.toList := (tx_data _).symm
      rw [this, ht]
      unfold lineL
      simp [List.append_assoc]
    refine ite2_decide (fun h0 => ?_) (fun h0 => ?_)
    · have e1 := fin ((textB (l.take i)).append ⟨#[10]⟩) (by rw [app_tx, tx_list, if_pos (by omega)])
      have e2 : ((textB (l.take i)).append ⟨#[10]⟩).size = (textB (l.take i)).size + 1 := by rw [ByteArray.append_eq, ByteArray.size_append]; rfl
      have e3 : (((textB (l.take i)).append ⟨#[10]⟩).append (rd hds4 l[i].1.toNat (ByteArray.mk #[]))).size = (textB (l.take i)).size + 1 + (rd hds4 l[i].1.toNat (ByteArray.mk #[])).size := by rw [ByteArray.append_eq, ByteArray.size_append, e2]
      exact ⟨by omega, ⟨by omega, hl⟩, hl1, trivial, hl1, k5, k4, trivial, k4, by omega, ⟨by omega, hl⟩, hl1, trivial, hl1, by omega, trivial, trivial, io, (i + 1 : Nat), [], [0, 1], hl1, me, into_mk (by kernel_rfl) (by (repeat' first | exact trivial | exact rfl | exact e1 | apply And.intro)) (by (repeat' first | exact trivial | exact rfl | apply And.intro))⟩
    · have e1 := fin (textB (l.take i)) (by rw [if_neg (by omega)]; simp)
      have e3 : ((textB (l.take i)).append (rd hds4 l[i].1.toNat (ByteArray.mk #[]))).size = (textB (l.take i)).size + (rd hds4 l[i].1.toNat (ByteArray.mk #[])).size := by rw [ByteArray.append_eq, ByteArray.size_append]
      exact ⟨⟨by omega, hl⟩, hl1, trivial, hl1, k5, k4, trivial, k4, by omega, ⟨by omega, hl⟩, hl1, trivial, hl1, by omega, trivial, trivial, io, (i + 1 : Nat), [], [0, 1], hl1, me, into_mk (by kernel_rfl) (by (repeat' first | exact trivial | exact rfl | exact e1 | apply And.intro)) (by (repeat' first | exact trivial | exact rfl | apply And.intro))⟩
  · have hq1 : textB (l.take i) = textB l := by rw [List.take_of_length_le (by omega)]
    exact ⟨(), [], [0], trivial, by (repeat' first | exact trivial | exact rfl | exact hq1 | apply And.intro)⟩
/-- Not a row: no list of a book. -/
def noRow : BI KK → Bool | .row _ _ _ => false | _ => true
/-- What is no row stays. -/
def Kp (φ ψ : Bag KK) : Prop := ∀ b i, φ b = some i → noRow i = true → ψ b = some i
theorem Kp.refl (φ : Bag KK) : Kp φ φ := fun _ _ h _ => h
theorem Kp.trans {φ ψ χ : Bag KK} (h : Kp φ ψ) (k : Kp ψ χ) : Kp φ χ := fun b i hb hn => k b i (h b i hb hn) hn
theorem Kp.ext {φ ψ : Bag KK} (h : Ext φ ψ) : Kp φ ψ := fun b i hb _ => h b i hb
theorem Kp.hasT {φ ψ : Bag KK} {t : Tb} (k : Kp φ ψ) (h : HasT t φ) : HasT t ψ := ⟨k _ _ h.1 rfl, k _ _ h.2.1 rfl, h.2.2.choose, k _ _ h.2.2.choose_spec.1 rfl, h.2.2.choose_spec.2⟩
theorem RS.is_row {φ : Bag KK} {kd : Kd} {x : RS} {ys : List (KK.α kd)} (h : x.row φ kd = some ys) {b : Nat} (hb : x.At b) {i : BI KK} (hi : φ b = some i) : noRow i = false := by
  cases x with
  | nil => exact absurd rfl hb.1
  | mk c lo len cap =>
    obtain rfl : c = b := hb.2
    unfold RS.row at h
    cases i with
    | row k cap' zs => rfl
    | _ => simp [hi] at h
theorem RestOk.new (φ : Bag KK) : RestOk φ ⟨0, 0, [], [], [], [], [], [], [], [], 0⟩ :=
  ⟨⟨⟨trivial, trivial, (fun x hx => by cases hx), (fun x hx => by cases hx), List.Pairwise.nil, List.Pairwise.nil, (fun x hx => by cases hx), (fun x hx => by rcases hx with hx | hx <;> cases hx), (fun x hx => by cases hx), (fun x hx => by cases hx)⟩, trivial, rfl, rfl, rfl, (fun x hx => by cases hx), (fun x hx => by cases hx), rfl, by decide, by decide⟩, rfl, rfl, rfl, rfl⟩
theorem RestOk.ext {φ ψ : Bag KK} {B : BS} (h : RestOk φ B) (e : Ext φ ψ) : RestOk ψ B :=
  ⟨⟨h.ok.good.ext e, h.ok.tab.ext e, h.ok.lm, h.ok.ld, h.ok.lr, h.ok.mb, h.ok.rb, h.ok.cnt, h.ok.few, h.ok.turn⟩, h.f, h.r, h.deep, h.turn⟩
theorem alone_frz {φ ψ : Bag KK} {B : BS} {l : List Rl} {x : RS} (h : RestOk φ B) (hl : l.length ≤ 1000000) (hy : Frz φ Kd.rule l x ψ) : Alone ψ Kd.rule 1000000 B.bk x :=
  ⟨⟨l, hy.whole.1, hy.whole.2, hl⟩, fun y hm => by
    obtain ⟨ys, h1⟩ := h.ok.good.has y hm
    exact (RS.off_frz h1 hy).symm⟩
theorem Kp.book {φ ψ : Bag KK} {B C : BS} {x : RS} (h : RestOk φ B) (ha : Alone φ Kd.rule 1000000 B.bk x) (k : StaysX φ B.bk x ψ C.bk) : Kp φ ψ := fun b i hb hn => (k b i hb (fun y hy hyb => by
    obtain ⟨ys, h1⟩ := h.ok.good.has y hy
    rw [RS.is_row h1 hyb hb] at hn; cases hn) (fun hx => by
    obtain ⟨ys, _, h1, _⟩ := ha.whole
    rw [RS.is_row h1 hx hb] at hn; cases hn)).1
end Go.Proofs.YtoidibkcdkdneaaGreatDoor.T
end
section
namespace Go.Proofs.YtoidibkcdkdneaaGreatDoor.T
open Go.Proofs.YtoidibkcdkdneaaGreatDoor.E Go.Proofs.YtoidibkcdkdneaaGreatDoor.MStr Go.Proofs.YtoidibkcdkdneaaGreatDoor.R
set_option maxRecDepth 100000
set_option linter.unusedVariables false
set_option linter.unusedSimpArgs false
set_option linter.unusedSimpArgs false
/-- The book told anew (its lists from name 13 on), the rules and a list beside it. -/
def bookT (B : BS) (φ : Bag KK) (xs : List Ln) (a : Atom KK) : VH KK := [.cells 44 (bookC false false B.turn B.deep [.slc 13 0 B.o.length none, .slc 14 0 B.t.length none, .slc 15 0 B.w.length none, .slc 16 0 B.n.length none, .slc 17 0 B.f.length none, .slc 18 0 B.m.length none, .slc 19 0 B.d.length none, .slc 20 0 B.r.length none, .int .i64 B.seen]),
  .gone, .gone, .gone, .gone, .gone, .gone, .gone, .gone, .bag φ, .cells 64 [.slc 11 0 xs.length none], .arr .line xs, a, .arr .rrule B.o, .arr .rrule B.t, .arr .rrule B.w, .arr .rrule B.n, .arr .rrule B.f, .arr .int B.m, .arr .int B.d, .arr .int B.r]
def Good3 (xs : List Ln) : Prop := xs.length ≤ 1000 ∧ (∀ x ∈ xs, 1 ≤ x.1 ∧ x.1 ≤ 3) ∧ lsum (LL xs) ≤ 1000000
def ct_tells (t : Tb) (xs : List Ln) (mark : Int) (B : BS) (φ : Bag KK) : Ct KK := { need := RestOk φ B ∧ HasT t φ ∧ Good3 xs ∧ (0 ≤ mark ∧ mark ≤ 1000000) ∧ B.seen ≤ 1000, pre := bookH B ++ [.bag φ, .cells 64 [.slc 11 0 xs.length none], .arr .line xs, .ro .rule (LL xs)], args := [.c (.ptr 0 0 0), .c (.ptr 10 0 0), .c (.slc 12 0 (LL xs).length none), i64 mark], Y := BS × Bag KK, ok := fun y => RestOk y.2 y.1 ∧ y.1.seen = B.seen + 2 ∧ Kp φ y.2, ret := fun _ => boolv true, post := fun y => bookT y.1 y.2 xs .gone }
def tellsOk (φ : Bag KK) (B : BS) (z : Nat × BS × Bag KK) : Prop := z.1 ≤ 2 ∧ RestOk z.2.2 z.2.1 ∧ z.2.1.seen = B.seen + z.1 ∧ Kp φ z.2.2
def inv_tells (xs : List Ln) (mark : Int) (B : BS) (φ : Bag KK) : Inv KK := { X := Nat × BS × Bag KK, fr := fun z => [.c (.ptr 0 0 0), .c (.ptr 10 0 0), .c (.slc 12 0 (LL xs).length none), i64 mark, .any, .any, .any, .any, .any, i64 z.1] ++ anys 27, H := fun z => bookT z.2.1 z.2.2 xs (.ro .rule (LL xs)), ok := fun z => tellsOk φ B z, meas := fun z => 2 - z.1 }
def ann_tells (xs : List Ln) (mark : Int) (B : BS) (φ : Bag KK) : Ann KK := { loop := fun _ _ _ => some (inv_tells xs mark B φ), cut := fun _ _ _ => none, keep := some 11, frz := fun | 7 => [(10, 57)] | _ => [] }
def tabTl (t : Tb) : Tab Tryz.prog KK := ⟨base t, fun f args H => match f, args, at_ H 9 with
  | 14, [.one (.c (.ptr q _ _))], .bag φ => match getR q H with
    | some (xs, ks, a) => some (ct_list φ xs, ks, [9, q, a])
    | none => none
  | 16, [.one (.c (.ptr q _ _))], .bag φ => match getR q H with
    | some (xs, ks, a) => some (ct_text t φ xs, ks, [9, q, a])
    | none => none
  | 15, [.one (.c (.slc a 0 _ none)), .one (.c (.slc b 0 _ none))], _ => match at_ H a with
    | .arr .rule l => some (ct_sameR l, [], [a, b])
    | _ => none
  | 17, [.one (.c (.slc a 0 _ none))], _ => match at_ H a with
    | .ro .rule l => some (ct_rtext l, [], [a])
    | _ => none
  | 18, [.one (.c (.ptr 0 0 0)), .one (.c (.rs _ _ l)), .one (.c (.int _ m))], _ => match getBB H with
    | some (B, φ, τ) => some (ct_bRules l m B φ, [], τ)
    | none => none
  | 10, [.one (.c (.ptr 0 0 0))], _ => match getBB H with
    | some (B, φ, τ) => some (ct_bHold B φ, [], τ)
    | none => none
  | _, _, _ => none, fun f args H ct ks τ h => by
    split at h
    · split at h
      · cases h; exact list_ok t _ _
      · cases h
    · split at h
      · cases h; exact text_ok t _ _
      · cases h
    · split at h
      · cases h; exact sameR_ok _
      · cases h
    · split at h
      · cases h; exact rtext_ok _
      · cases h
    · split at h
      · cases h; exact bRules_ok _ _ _ _
      · cases h
    · split at h
      · cases h; exact bHold_ok _ _
      · cases h
    · cases h⟩
theorem vc_tells (t : Tb) (xs : List Ln) (mark : Int) (B : BS) (φ : Bag KK) : evFn (tabTl t) (ann_tells xs mark B φ) Tryz.f6 (ct_tells t xs mark B φ) = ( Enter 13 (inv_tells xs mark B φ) (fun (x : Nat × BS × Bag KK) => True) ([VV.one (V1.c (C.ptr 0 0 0)), VV.one (V1.c (C.ptr 10 0 0)), VV.one (V1.c (C.slc 12 0 (LL xs).length none)), i64 mark, VV.any, VV.any,
 VV.any, VV.any, boolv false, i64 (0 : Int)] ++ anys 27) [Atom.cells 44 [C.bool false, C.bool false, C.int .i64 B.turn, C.int .i64 B.deep, C.nils, C.nils, C.nils, C.nils, C.nils, C.nils, C.nils, C.nils,
 C.int .i64 (0 : Int), C.nils, C.nils, C.nils, C.nils, C.nils, C.nils, C.nils, C.nils, C.int .i64 (0 : Int), C.nils, C.nils, C.nils, C.nils, C.nils, C.nils, C.nils, C.nils, C.int .i64 (0 : Int), C.nils,
 C.nils, C.nils, C.nils, C.nils, C.nils, C.nils, C.nils, C.int .i64 (0 : Int), C.nils, C.nils, C.nils, C.nils, C.nils, C.nils, C.nils, C.nils, C.int .i64 (0 : Int), C.nils, C.nils, C.nils, C.nils, C.nils,
 C.nils, C.nils, C.nils, C.int .i64 (0 : Int), C.nils, C.nils, C.nils, C.nils, C.nils, C.nils, C.nils, C.nils, C.int .i64 (0 : Int), C.nils, C.nils, C.nils, C.nils, C.nils, C.nils, C.nils, C.nils, C.int
 .i64 (0 : Int), C.nils, C.nils, C.nils, C.nils, C.nils, C.nils, C.nils, C.nils, C.int .i64 (0 : Int), C.slc 1 0 B.o.length none, C.slc 2 0 B.t.length none, C.slc 3 0 B.w.length none, C.slc 4 0 B.n.length
 none, C.slc 5 0 B.f.length none, C.slc 6 0 B.m.length none, C.slc 7 0 B.d.length none, C.slc 8 0 B.r.length none, C.int .i64 B.seen, C.nils, C.nils, C.nils, C.nils, C.nils, C.nils, C.nils, C.nils, C.int
 .i64 (0 : Int), C.nils, C.nils, C.nils, C.nils, C.nils, C.nils, C.nils, C.nils, C.int .i64 (0 : Int), C.nils, C.nils, C.nils, C.nils, C.nils, C.nils, C.nils, C.nils, C.int .i64 (0 : Int), C.nils, C.nils,
 C.nils, C.nils, C.nils, C.nils, C.nils, C.nils, C.int .i64 (0 : Int), C.nils, C.nils, C.nils, C.nils, C.nils, C.nils, C.nils, C.nils, C.int .i64 (0 : Int), C.nils, C.nils, C.nils, C.nils, C.nils, C.nils,
 C.nils, C.nils, C.int .i64 (0 : Int)], Atom.arr Kd.rrule B.o, Atom.arr Kd.rrule B.t, Atom.arr Kd.rrule B.w, Atom.arr Kd.rrule B.n, Atom.arr Kd.rrule B.f, Atom.arr Kd.int B.m, Atom.arr Kd.int B.d, Atom.arr
 Kd.int B.r, Atom.bag φ, Atom.cells 64 [C.slc 11 0 xs.length none], Atom.arr Kd.line xs, Atom.ro Kd.rule (LL xs)] ∧ ∀ (z : Nat × BS × Bag KK), tellsOk φ B z → ite2 (decide ((↑z.fst : Int) < (2 : Int)))
 (xs.length ≤ 1000 ∧ Into (K := KK) 0 [] [9, 10, 11] [VV.one (V1.c (C.ptr 10 0 0))] [Atom.cells 44 [C.bool false, C.bool false, C.int .i64 z.snd.fst.turn, C.int .i64 z.snd.fst.deep, C.nils, C.nils, C.nils,
 C.nils, C.nils, C.nils, C.nils, C.nils, C.int .i64 (0 : Int), C.nils, C.nils, C.nils, C.nils, C.nils, C.nils, C.nils, C.nils, C.int .i64 (0 : Int), C.nils, C.nils, C.nils, C.nils, C.nils, C.nils, C.nils,
 C.nils, C.int .i64 (0 : Int), C.nils, C.nils, C.nils, C.nils, C.nils, C.nils, C.nils, C.nils, C.int .i64 (0 : Int), C.nils, C.nils, C.nils, C.nils, C.nils, C.nils, C.nils, C.nils, C.int .i64 (0 : Int),
 C.nils, C.nils, C.nils, C.nils, C.nils, C.nils, C.nils, C.nils, C.int .i64 (0 : Int), C.nils, C.nils, C.nils, C.nils, C.nils, C.nils, C.nils, C.nils, C.int .i64 (0 : Int), C.nils, C.nils, C.nils, C.nils,
 C.nils, C.nils, C.nils, C.nils, C.int .i64 (0 : Int), C.nils, C.nils, C.nils, C.nils, C.nils, C.nils, C.nils, C.nils, C.int .i64 (0 : Int), C.slc 13 0 z.snd.fst.o.length none, C.slc 14 0 z.snd.fst.t.length
 none, C.slc 15 0 z.snd.fst.w.length none, C.slc 16 0 z.snd.fst.n.length none, C.slc 17 0 z.snd.fst.f.length none, C.slc 18 0 z.snd.fst.m.length none, C.slc 19 0 z.snd.fst.d.length none, C.slc 20 0 z.snd.fst.r.length
 none, C.int .i64 z.snd.fst.seen, C.nils, C.nils, C.nils, C.nils, C.nils, C.nils, C.nils, C.nils, C.int .i64 (0 : Int), C.nils, C.nils, C.nils, C.nils, C.nils, C.nils, C.nils, C.nils, C.int .i64 (0 : Int),
 C.nils, C.nils, C.nils, C.nils, C.nils, C.nils, C.nils, C.nils, C.int .i64 (0 : Int), C.nils, C.nils, C.nils, C.nils, C.nils, C.nils, C.nils, C.nils, C.int .i64 (0 : Int), C.nils, C.nils, C.nils, C.nils,
 C.nils, C.nils, C.nils, C.nils, C.int .i64 (0 : Int), C.nils, C.nils, C.nils, C.nils, C.nils, C.nils, C.nils, C.nils, C.int .i64 (0 : Int)], Atom.gone, Atom.gone, Atom.gone, Atom.gone, Atom.gone, Atom.gone,
 Atom.gone, Atom.gone, Atom.bag z.snd.snd, Atom.cells 64 [C.slc 11 0 xs.length none], Atom.arr Kd.line xs, Atom.ro Kd.rule (LL xs), Atom.arr Kd.rrule z.snd.fst.o, Atom.arr Kd.rrule z.snd.fst.t, Atom.arr
 Kd.rrule z.snd.fst.w, Atom.arr Kd.rrule z.snd.fst.n, Atom.arr Kd.rrule z.snd.fst.f, Atom.arr Kd.int z.snd.fst.m, Atom.arr Kd.int z.snd.fst.d, Atom.arr Kd.int z.snd.fst.r] [VV.one (V1.c (C.ptr 1 0 0))]
 [Atom.bag z.snd.snd, Atom.cells 64 [C.slc 2 0 xs.length none], Atom.arr Kd.line xs] ∧ ∀ (y : Unit), True → (LL xs).length ≤ 1000000 ∧ Into (K := KK) 0 [] [21, 12] [VV.one (V1.c (C.slc 21 0 (LL xs).length
 none)), VV.one (V1.c (C.slc 12 0 (LL xs).length none))] [Atom.cells 44 [C.bool false, C.bool false, C.int .i64 z.snd.fst.turn, C.int .i64 z.snd.fst.deep, C.nils, C.nils, C.nils, C.nils, C.nils, C.nils,
 C.nils, C.nils, C.int .i64 (0 : Int), C.nils, C.nils, C.nils, C.nils, C.nils, C.nils, C.nils, C.nils, C.int .i64 (0 : Int), C.nils, C.nils, C.nils, C.nils, C.nils, C.nils, C.nils, C.nils, C.int .i64 (0
 : Int), C.nils, C.nils, C.nils, C.nils, C.nils, C.nils, C.nils, C.nils, C.int .i64 (0 : Int), C.nils, C.nils, C.nils, C.nils, C.nils, C.nils, C.nils, C.nils, C.int .i64 (0 : Int), C.nils, C.nils, C.nils,
 C.nils, C.nils, C.nils, C.nils, C.nils, C.int .i64 (0 : Int), C.nils, C.nils, C.nils, C.nils, C.nils, C.nils, C.nils, C.nils, C.int .i64 (0 : Int), C.nils, C.nils, C.nils, C.nils, C.nils, C.nils, C.nils,
 C.nils, C.int .i64 (0 : Int), C.nils, C.nils, C.nils, C.nils, C.nils, C.nils, C.nils, C.nils, C.int .i64 (0 : Int), C.slc 13 0 z.snd.fst.o.length none, C.slc 14 0 z.snd.fst.t.length none, C.slc 15 0 z.snd.fst.w.length
 none, C.slc 16 0 z.snd.fst.n.length none, C.slc 17 0 z.snd.fst.f.length none, C.slc 18 0 z.snd.fst.m.length none, C.slc 19 0 z.snd.fst.d.length none, C.slc 20 0 z.snd.fst.r.length none, C.int .i64 z.snd.fst.seen,
 C.nils, C.nils, C.nils, C.nils, C.nils, C.nils, C.nils, C.nils, C.int .i64 (0 : Int), C.nils, C.nils, C.nils, C.nils, C.nils, C.nils, C.nils, C.nils, C.int .i64 (0 : Int), C.nils, C.nils, C.nils, C.nils,
 C.nils, C.nils, C.nils, C.nils, C.int .i64 (0 : Int), C.nils, C.nils, C.nils, C.nils, C.nils, C.nils, C.nils, C.nils, C.int .i64 (0 : Int), C.nils, C.nils, C.nils, C.nils, C.nils, C.nils, C.nils, C.nils,
 C.int .i64 (0 : Int), C.nils, C.nils, C.nils, C.nils, C.nils, C.nils, C.nils, C.nils, C.int .i64 (0 : Int)], Atom.gone, Atom.gone, Atom.gone, Atom.gone, Atom.gone, Atom.gone, Atom.gone, Atom.gone, Atom.bag
 z.snd.snd, Atom.cells 64 [C.slc 11 0 xs.length none], Atom.arr Kd.line xs, Atom.ro Kd.rule (LL xs), Atom.arr Kd.rrule z.snd.fst.o, Atom.arr Kd.rrule z.snd.fst.t, Atom.arr Kd.rrule z.snd.fst.w, Atom.arr
 Kd.rrule z.snd.fst.n, Atom.arr Kd.rrule z.snd.fst.f, Atom.arr Kd.int z.snd.fst.m, Atom.arr Kd.int z.snd.fst.d, Atom.arr Kd.int z.snd.fst.r, Atom.arr Kd.rule (LL xs)] [VV.one (V1.c (C.slc 0 0 (LL xs).length
 none)), VV.one (V1.c (C.slc 1 0 (LL xs).length none))] [Atom.ro Kd.rule (LL xs), Atom.ro Kd.rule (LL xs)] ∧ ∀ (y : Unit), True → (HasT t z.snd.snd ∧ (∀ (x : Int × ByteArray × Nat), List.Mem x xs → (1 :
 Int) ≤ x.fst ∧ x.fst ≤ (3 : Int)) ∧ xs.length ≤ 1000 ∧ lsum (LL xs) ≤ 1000000) ∧ Into (K := KK) 0 [] [9, 10, 11] [VV.one (V1.c (C.ptr 10 0 0))] [Atom.cells 44 [C.bool false, C.bool false, C.int .i64 z.snd.fst.turn,
 C.int .i64 z.snd.fst.deep, C.nils, C.nils, C.nils, C.nils, C.nils, C.nils, C.nils, C.nils, C.int .i64 (0 : Int), C.nils, C.nils, C.nils, C.nils, C.nils, C.nils, C.nils, C.nils, C.int .i64 (0 : Int), C.nils,
 C.nils, C.nils, C.nils, C.nils, C.nils, C.nils, C.nils, C.int .i64 (0 : Int), C.nils, C.nils, C.nils, C.nils, C.nils, C.nils, C.nils, C.nils, C.int .i64 (0 : Int), C.nils, C.nils, C.nils, C.nils, C.nils,
 C.nils, C.nils, C.nils, C.int .i64 (0 : Int), C.nils, C.nils, C.nils, C.nils, C.nils, C.nils, C.nils, C.nils, C.int .i64 (0 : Int), C.nils, C.nils, C.nils, C.nils, C.nils, C.nils, C.nils, C.nils, C.int
 .i64 (0 : Int), C.nils, C.nils, C.nils, C.nils, C.nils, C.nils, C.nils, C.nils, C.int .i64 (0 : Int), C.nils, C.nils, C.nils, C.nils, C.nils, C.nils, C.nils, C.nils, C.int .i64 (0 : Int), C.slc 13 0 z.snd.fst.o.length
 none, C.slc 14 0 z.snd.fst.t.length none, C.slc 15 0 z.snd.fst.w.length none, C.slc 16 0 z.snd.fst.n.length none, C.slc 17 0 z.snd.fst.f.length none, C.slc 18 0 z.snd.fst.m.length none, C.slc 19 0 z.snd.fst.d.length
 none, C.slc 20 0 z.snd.fst.r.length none, C.int .i64 z.snd.fst.seen, C.nils, C.nils, C.nils, C.nils, C.nils, C.nils, C.nils, C.nils, C.int .i64 (0 : Int), C.nils, C.nils, C.nils, C.nils, C.nils, C.nils,
 C.nils, C.nils, C.int .i64 (0 : Int), C.nils, C.nils, C.nils, C.nils, C.nils, C.nils, C.nils, C.nils, C.int .i64 (0 : Int), C.nils, C.nils, C.nils, C.nils, C.nils, C.nils, C.nils, C.nils, C.int .i64 (0
 : Int), C.nils, C.nils, C.nils, C.nils, C.nils, C.nils, C.nils, C.nils, C.int .i64 (0 : Int), C.nils, C.nils, C.nils, C.nils, C.nils, C.nils, C.nils, C.nils, C.int .i64 (0 : Int)], Atom.gone, Atom.gone,
 Atom.gone, Atom.gone, Atom.gone, Atom.gone, Atom.gone, Atom.gone, Atom.bag z.snd.snd, Atom.cells 64 [C.slc 11 0 xs.length none], Atom.arr Kd.line xs, Atom.ro Kd.rule (LL xs), Atom.arr Kd.rrule z.snd.fst.o,
 Atom.arr Kd.rrule z.snd.fst.t, Atom.arr Kd.rrule z.snd.fst.w, Atom.arr Kd.rrule z.snd.fst.n, Atom.arr Kd.rrule z.snd.fst.f, Atom.arr Kd.int z.snd.fst.m, Atom.arr Kd.int z.snd.fst.d, Atom.arr Kd.int z.snd.fst.r,
 Atom.arr Kd.rule (LL xs)] [VV.one (V1.c (C.ptr 1 0 0))] [Atom.bag z.snd.snd, Atom.cells 64 [C.slc 2 0 xs.length none], Atom.arr Kd.line xs] ∧ ∀ (y : Unit), True → ((LL xs).length ≤ 1000 ∧ (∀ (r : Int ×
 ByteArray), List.Mem r (LL xs) → (1 : Int) ≤ r.fst ∧ r.fst ≤ (3 : Int)) ∧ lsum (LL xs) ≤ 1000000) ∧ Into (K := KK) 0 [] [12] [VV.one (V1.c (C.slc 12 0 (LL xs).length none))] [Atom.cells 44 [C.bool false,
 C.bool false, C.int .i64 z.snd.fst.turn, C.int .i64 z.snd.fst.deep, C.nils, C.nils, C.nils, C.nils, C.nils, C.nils, C.nils, C.nils, C.int .i64 (0 : Int), C.nils, C.nils, C.nils, C.nils, C.nils, C.nils,
 C.nils, C.nils, C.int .i64 (0 : Int), C.nils, C.nils, C.nils, C.nils, C.nils, C.nils, C.nils, C.nils, C.int .i64 (0 : Int), C.nils, C.nils, C.nils, C.nils, C.nils, C.nils, C.nils, C.nils, C.int .i64 (0
 : Int), C.nils, C.nils, C.nils, C.nils, C.nils, C.nils, C.nils, C.nils, C.int .i64 (0 : Int), C.nils, C.nils, C.nils, C.nils, C.nils, C.nils, C.nils, C.nils, C.int .i64 (0 : Int), C.nils, C.nils, C.nils,
 C.nils, C.nils, C.nils, C.nils, C.nils, C.int .i64 (0 : Int), C.nils, C.nils, C.nils, C.nils, C.nils, C.nils, C.nils, C.nils, C.int .i64 (0 : Int), C.nils, C.nils, C.nils, C.nils, C.nils, C.nils, C.nils,
 C.nils, C.int .i64 (0 : Int), C.slc 13 0 z.snd.fst.o.length none, C.slc 14 0 z.snd.fst.t.length none, C.slc 15 0 z.snd.fst.w.length none, C.slc 16 0 z.snd.fst.n.length none, C.slc 17 0 z.snd.fst.f.length
 none, C.slc 18 0 z.snd.fst.m.length none, C.slc 19 0 z.snd.fst.d.length none, C.slc 20 0 z.snd.fst.r.length none, C.int .i64 z.snd.fst.seen, C.nils, C.nils, C.nils, C.nils, C.nils, C.nils, C.nils, C.nils,
 C.int .i64 (0 : Int), C.nils, C.nils, C.nils, C.nils, C.nils, C.nils, C.nils, C.nils, C.int .i64 (0 : Int), C.nils, C.nils, C.nils, C.nils, C.nils, C.nils, C.nils, C.nils, C.int .i64 (0 : Int), C.nils,
 C.nils, C.nils, C.nils, C.nils, C.nils, C.nils, C.nils, C.int .i64 (0 : Int), C.nils, C.nils, C.nils, C.nils, C.nils, C.nils, C.nils, C.nils, C.int .i64 (0 : Int), C.nils, C.nils, C.nils, C.nils, C.nils,
 C.nils, C.nils, C.nils, C.int .i64 (0 : Int)], Atom.gone, Atom.gone, Atom.gone, Atom.gone, Atom.gone, Atom.gone, Atom.gone, Atom.gone, Atom.bag z.snd.snd, Atom.cells 64 [C.slc 11 0 xs.length none], Atom.arr
 Kd.line xs, Atom.ro Kd.rule (LL xs), Atom.arr Kd.rrule z.snd.fst.o, Atom.arr Kd.rrule z.snd.fst.t, Atom.arr Kd.rrule z.snd.fst.w, Atom.arr Kd.rrule z.snd.fst.n, Atom.arr Kd.rrule z.snd.fst.f, Atom.arr
 Kd.int z.snd.fst.m, Atom.arr Kd.int z.snd.fst.d, Atom.arr Kd.int z.snd.fst.r, Atom.arr Kd.rule (LL xs)] [VV.one (V1.c (C.slc 0 0 (LL xs).length none))] [Atom.ro Kd.rule (LL xs)] ∧ ∀ (y : Unit), True →
 ite2 (decide ((textB (LL xs)).toList = (textB (LL xs)).toList)) ((LL xs).length = (LL xs).length ∧ (LL xs = [] → i64ok ((10 : Int) * (↑z.fst : Int)) ∧ i64ok (mark + (10 : Int) * (↑z.fst : Int)) ∧ (RestOk
 z.snd.snd (BS.mk (z.snd.fst.turn) (z.snd.fst.deep) (z.snd.fst.o) (z.snd.fst.t) (z.snd.fst.w) (z.snd.fst.n) (z.snd.fst.f) (z.snd.fst.m) (z.snd.fst.d) (z.snd.fst.r) (z.snd.fst.seen)) ∧ Alone z.snd.snd Kd.rule
 1000000 (Bk.mk (z.snd.fst.o) (z.snd.fst.t) (z.snd.fst.w) (z.snd.fst.n) (z.snd.fst.f)) RS.nil ∧ ((-1000000000000 : Int) ≤ mark + (10 : Int) * (↑z.fst : Int) ∧ mark + (10 : Int) * (↑z.fst : Int) ≤ (1000000000000
 : Int)) ∧ z.snd.fst.seen < (100000 : Int)) ∧ Into (K := KK) 0 [] [0, 13, 14, 15, 16, 17, 18, 19, 20, 9] [VV.one (V1.c (C.ptr 0 0 0)), VV.one (V1.c (C.rs 57 2 RS.nil)), i64 (mark + (10 : Int) * (↑z.fst
 : Int))] [Atom.cells 44 [C.bool false, C.bool false, C.int .i64 z.snd.fst.turn, C.int .i64 z.snd.fst.deep, C.nils, C.nils, C.nils, C.nils, C.nils, C.nils, C.nils, C.nils, C.int .i64 (0 : Int), C.nils,
 C.nils, C.nils, C.nils, C.nils, C.nils, C.nils, C.nils, C.int .i64 (0 : Int), C.nils, C.nils, C.nils, C.nils, C.nils, C.nils, C.nils, C.nils, C.int .i64 (0 : Int), C.nils, C.nils, C.nils, C.nils, C.nils,
 C.nils, C.nils, C.nils, C.int .i64 (0 : Int), C.nils, C.nils, C.nils, C.nils, C.nils, C.nils, C.nils, C.nils, C.int .i64 (0 : Int), C.nils, C.nils, C.nils, C.nils, C.nils, C.nils, C.nils, C.nils, C.int
 .i64 (0 : Int), C.nils, C.nils, C.nils, C.nils, C.nils, C.nils, C.nils, C.nils, C.int .i64 (0 : Int), C.nils, C.nils, C.nils, C.nils, C.nils, C.nils, C.nils, C.nils, C.int .i64 (0 : Int), C.nils, C.nils,
 C.nils, C.nils, C.nils, C.nils, C.nils, C.nils, C.int .i64 (0 : Int), C.slc 13 0 z.snd.fst.o.length none, C.slc 14 0 z.snd.fst.t.length none, C.slc 15 0 z.snd.fst.w.length none, C.slc 16 0 z.snd.fst.n.length
 none, C.slc 17 0 z.snd.fst.f.length none, C.slc 18 0 z.snd.fst.m.length none, C.slc 19 0 z.snd.fst.d.length none, C.slc 20 0 z.snd.fst.r.length none, C.int .i64 z.snd.fst.seen, C.nils, C.nils, C.nils,
 C.nils, C.nils, C.nils, C.nils, C.nils, C.int .i64 (0 : Int), C.nils, C.nils, C.nils, C.nils, C.nils, C.nils, C.nils, C.nils, C.int .i64 (0 : Int), C.nils, C.nils, C.nils, C.nils, C.nils, C.nils, C.nils,
 C.nils, C.int .i64 (0 : Int), C.nils, C.nils, C.nils, C.nils, C.nils, C.nils, C.nils, C.nils, C.int .i64 (0 : Int), C.nils, C.nils, C.nils, C.nils, C.nils, C.nils, C.nils, C.nils, C.int .i64 (0 : Int),
 C.nils, C.nils, C.nils, C.nils, C.nils, C.nils, C.nils, C.nils, C.int .i64 (0 : Int)], Atom.gone, Atom.gone, Atom.gone, Atom.gone, Atom.gone, Atom.gone, Atom.gone, Atom.gone, Atom.bag z.snd.snd, Atom.cells
 64 [C.slc 11 0 xs.length none], Atom.arr Kd.line xs, Atom.ro Kd.rule (LL xs), Atom.arr Kd.rrule z.snd.fst.o, Atom.arr Kd.rrule z.snd.fst.t, Atom.arr Kd.rrule z.snd.fst.w, Atom.arr Kd.rrule z.snd.fst.n,
 Atom.arr Kd.rrule z.snd.fst.f, Atom.arr Kd.int z.snd.fst.m, Atom.arr Kd.int z.snd.fst.d, Atom.arr Kd.int z.snd.fst.r, Atom.gone] [VV.one (V1.c (C.ptr 0 0 0)), VV.one (V1.c (C.rs 57 2 RS.nil)), i64 (mark
 + (10 : Int) * (↑z.fst : Int))] [Atom.cells 44 [C.bool false, C.bool false, C.int .i64 z.snd.fst.turn, C.int .i64 z.snd.fst.deep, C.nils, C.nils, C.nils, C.nils, C.nils, C.nils, C.nils, C.nils, C.int .i64
 (0 : Int), C.nils, C.nils, C.nils, C.nils, C.nils, C.nils, C.nils, C.nils, C.int .i64 (0 : Int), C.nils, C.nils, C.nils, C.nils, C.nils, C.nils, C.nils, C.nils, C.int .i64 (0 : Int), C.nils, C.nils, C.nils,
 C.nils, C.nils, C.nils, C.nils, C.nils, C.int .i64 (0 : Int), C.nils, C.nils, C.nils, C.nils, C.nils, C.nils, C.nils, C.nils, C.int .i64 (0 : Int), C.nils, C.nils, C.nils, C.nils, C.nils, C.nils, C.nils,
 C.nils, C.int .i64 (0 : Int), C.nils, C.nils, C.nils, C.nils, C.nils, C.nils, C.nils, C.nils, C.int .i64 (0 : Int), C.nils, C.nils, C.nils, C.nils, C.nils, C.nils, C.nils, C.nils, C.int .i64 (0 : Int),
 C.nils, C.nils, C.nils, C.nils, C.nils, C.nils, C.nils, C.nils, C.int .i64 (0 : Int), C.slc 1 0 z.snd.fst.o.length none, C.slc 2 0 z.snd.fst.t.length none, C.slc 3 0 z.snd.fst.w.length none, C.slc 4 0
 z.snd.fst.n.length none, C.slc 5 0 z.snd.fst.f.length none, C.slc 6 0 z.snd.fst.m.length none, C.slc 7 0 z.snd.fst.d.length none, C.slc 8 0 z.snd.fst.r.length none, C.int .i64 z.snd.fst.seen, C.nils, C.nils,
 C.nils, C.nils, C.nils, C.nils, C.nils, C.nils, C.int .i64 (0 : Int), C.nils, C.nils, C.nils, C.nils, C.nils, C.nils, C.nils, C.nils, C.int .i64 (0 : Int), C.nils, C.nils, C.nils, C.nils, C.nils, C.nils,
 C.nils, C.nils, C.int .i64 (0 : Int), C.nils, C.nils, C.nils, C.nils, C.nils, C.nils, C.nils, C.nils, C.int .i64 (0 : Int), C.nils, C.nils, C.nils, C.nils, C.nils, C.nils, C.nils, C.nils, C.int .i64 (0
 : Int), C.nils, C.nils, C.nils, C.nils, C.nils, C.nils, C.nils, C.nils, C.int .i64 (0 : Int)], Atom.arr Kd.rrule z.snd.fst.o, Atom.arr Kd.rrule z.snd.fst.t, Atom.arr Kd.rrule z.snd.fst.w, Atom.arr Kd.rrule
 z.snd.fst.n, Atom.arr Kd.rrule z.snd.fst.f, Atom.arr Kd.int z.snd.fst.m, Atom.arr Kd.int z.snd.fst.d, Atom.arr Kd.int z.snd.fst.r, Atom.bag z.snd.snd] ∧ ∀ (y : BS × Bag KK), RestOk y.snd y.fst ∧ y.fst.seen
 = z.snd.fst.seen + (1 : Int) ∧ StaysX z.snd.snd (Bk.mk (z.snd.fst.o) (z.snd.fst.t) (z.snd.fst.w) (z.snd.fst.n) (z.snd.fst.f)) RS.nil y.snd (Bk.mk (y.fst.o) (y.fst.t) (y.fst.w) (y.fst.n) (y.fst.f)) → i64ok
 ((↑z.fst : Int) + (1 : Int)) ∧ Enter 13 (inv_tells xs mark B φ) (fun (z' : Nat × BS × Bag KK) => 2 - z'.fst < 2 - z.fst) ([VV.one (V1.c (C.ptr 0 0 0)), VV.one (V1.c (C.ptr 10 0 0)), VV.one (V1.c (C.slc
 12 0 (LL xs).length none)), i64 mark, VV.any, VV.any, VV.any, VV.any, VV.any, i64 ((↑z.fst : Int) + (1 : Int)), VV.one (V1.c (C.rs 57 2 RS.nil))] ++ anys 26) [Atom.cells 44 [C.bool false, C.bool false,
 C.int .i64 y.fst.turn, C.int .i64 y.fst.deep, C.nils, C.nils, C.nils, C.nils, C.nils, C.nils, C.nils, C.nils, C.int .i64 (0 : Int), C.nils, C.nils, C.nils, C.nils, C.nils, C.nils, C.nils, C.nils, C.int
 .i64 (0 : Int), C.nils, C.nils, C.nils, C.nils, C.nils, C.nils, C.nils, C.nils, C.int .i64 (0 : Int), C.nils, C.nils, C.nils, C.nils, C.nils, C.nils, C.nils, C.nils, C.int .i64 (0 : Int), C.nils, C.nils,
 C.nils, C.nils, C.nils, C.nils, C.nils, C.nils, C.int .i64 (0 : Int), C.nils, C.nils, C.nils, C.nils, C.nils, C.nils, C.nils, C.nils, C.int .i64 (0 : Int), C.nils, C.nils, C.nils, C.nils, C.nils, C.nils,
 C.nils, C.nils, C.int .i64 (0 : Int), C.nils, C.nils, C.nils, C.nils, C.nils, C.nils, C.nils, C.nils, C.int .i64 (0 : Int), C.nils, C.nils, C.nils, C.nils, C.nils, C.nils, C.nils, C.nils, C.int .i64 (0
 : Int), C.slc 22 0 y.fst.o.length none, C.slc 23 0 y.fst.t.length none, C.slc 24 0 y.fst.w.length none, C.slc 25 0 y.fst.n.length none, C.slc 26 0 y.fst.f.length none, C.slc 27 0 y.fst.m.length none, C.slc
 28 0 y.fst.d.length none, C.slc 29 0 y.fst.r.length none, C.int .i64 y.fst.seen, C.nils, C.nils, C.nils, C.nils, C.nils, C.nils, C.nils, C.nils, C.int .i64 (0 : Int), C.nils, C.nils, C.nils, C.nils, C.nils,
 C.nils, C.nils, C.nils, C.int .i64 (0 : Int), C.nils, C.nils, C.nils, C.nils, C.nils, C.nils, C.nils, C.nils, C.int .i64 (0 : Int), C.nils, C.nils, C.nils, C.nils, C.nils, C.nils, C.nils, C.nils, C.int
 .i64 (0 : Int), C.nils, C.nils, C.nils, C.nils, C.nils, C.nils, C.nils, C.nils, C.int .i64 (0 : Int), C.nils, C.nils, C.nils, C.nils, C.nils, C.nils, C.nils, C.nils, C.int .i64 (0 : Int)], Atom.gone, Atom.gone,
 Atom.gone, Atom.gone, Atom.gone, Atom.gone, Atom.gone, Atom.gone, Atom.bag y.snd, Atom.cells 64 [C.slc 11 0 xs.length none], Atom.arr Kd.line xs, Atom.ro Kd.rule (LL xs), Atom.gone, Atom.gone, Atom.gone,
 Atom.gone, Atom.gone, Atom.gone, Atom.gone, Atom.gone, Atom.gone, Atom.arr Kd.rrule y.fst.o, Atom.arr Kd.rrule y.fst.t, Atom.arr Kd.rrule y.fst.w, Atom.arr Kd.rrule y.fst.n, Atom.arr Kd.rrule y.fst.f,
 Atom.arr Kd.int y.fst.m, Atom.arr Kd.int y.fst.d, Atom.arr Kd.int y.fst.r]) ∧ ∀ (b c : Nat), z.snd.snd b = none → (LL xs).length ≤ c → i64ok ((10 : Int) * (↑z.fst : Int)) ∧ i64ok (mark + (10 : Int) * (↑z.fst
 : Int)) ∧ (RestOk (bput z.snd.snd b (BI.row Kd.rule c (LL xs))) (BS.mk (z.snd.fst.turn) (z.snd.fst.deep) (z.snd.fst.o) (z.snd.fst.t) (z.snd.fst.w) (z.snd.fst.n) (z.snd.fst.f) (z.snd.fst.m) (z.snd.fst.d)
 (z.snd.fst.r) (z.snd.fst.seen)) ∧ Alone (bput z.snd.snd b (BI.row Kd.rule c (LL xs))) Kd.rule 1000000 (Bk.mk (z.snd.fst.o) (z.snd.fst.t) (z.snd.fst.w) (z.snd.fst.n) (z.snd.fst.f)) (RS.mk b 0 (LL xs).length
 c) ∧ ((-1000000000000 : Int) ≤ mark + (10 : Int) * (↑z.fst : Int) ∧ mark + (10 : Int) * (↑z.fst : Int) ≤ (1000000000000 : Int)) ∧ z.snd.fst.seen < (100000 : Int)) ∧ Into (K := KK) 0 [] [0, 13, 14, 15,
 16, 17, 18, 19, 20, 9] [VV.one (V1.c (C.ptr 0 0 0)), VV.one (V1.c (C.rs 57 2 (RS.mk b 0 (LL xs).length c))), i64 (mark + (10 : Int) * (↑z.fst : Int))] [Atom.cells 44 [C.bool false, C.bool false, C.int
 .i64 z.snd.fst.turn, C.int .i64 z.snd.fst.deep, C.nils, C.nils, C.nils, C.nils, C.nils, C.nils, C.nils, C.nils, C.int .i64 (0 : Int), C.nils, C.nils, C.nils, C.nils, C.nils, C.nils, C.nils, C.nils, C.int
 .i64 (0 : Int), C.nils, C.nils, C.nils, C.nils, C.nils, C.nils, C.nils, C.nils, C.int .i64 (0 : Int), C.nils, C.nils, C.nils, C.nils, C.nils, C.nils, C.nils, C.nils, C.int .i64 (0 : Int), C.nils, C.nils,
 C.nils, C.nils, C.nils, C.nils, C.nils, C.nils, C.int .i64 (0 : Int), C.nils, C.nils, C.nils, C.nils, C.nils, C.nils, C.nils, C.nils, C.int .i64 (0 : Int), C.nils, C.nils, C.nils, C.nils, C.nils, C.nils,
 C.nils, C.nils, C.int .i64 (0 : Int), C.nils, C.nils, C.nils, C.nils, C.nils, C.nils, C.nils, C.nils, C.int .i64 (0 : Int), C.nils, C.nils, C.nils, C.nils, C.nils, C.nils, C.nils, C.nils, C.int .i64 (0
 : Int), C.slc 13 0 z.snd.fst.o.length none, C.slc 14 0 z.snd.fst.t.length none, C.slc 15 0 z.snd.fst.w.length none, C.slc 16 0 z.snd.fst.n.length none, C.slc 17 0 z.snd.fst.f.length none, C.slc 18 0 z.snd.fst.m.length
 none, C.slc 19 0 z.snd.fst.d.length none, C.slc 20 0 z.snd.fst.r.length none, C.int .i64 z.snd.fst.seen, C.nils, C.nils, C.nils, C.nils, C.nils, C.nils, C.nils, C.nils, C.int .i64 (0 : Int), C.nils, C.nils,
 C.nils, C.nils, C.nils, C.nils, C.nils, C.nils, C.int .i64 (0 : Int), C.nils, C.nils, C.nils, C.nils, C.nils, C.nils, C.nils, C.nils, C.int .i64 (0 : Int), C.nils, C.nils, C.nils, C.nils, C.nils, C.nils,
 C.nils, C.nils, C.int .i64 (0 : Int), C.nils, C.nils, C.nils, C.nils, C.nils, C.nils, C.nils, C.nils, C.int .i64 (0 : Int), C.nils, C.nils, C.nils, C.nils, C.nils, C.nils, C.nils, C.nils, C.int .i64 (0
 : Int)], Atom.gone, Atom.gone, Atom.gone, Atom.gone, Atom.gone, Atom.gone, Atom.gone, Atom.gone, Atom.bag (bput z.snd.snd b (BI.row Kd.rule c (LL xs))), Atom.cells 64 [C.slc 11 0 xs.length none], Atom.arr
 Kd.line xs, Atom.ro Kd.rule (LL xs), Atom.arr Kd.rrule z.snd.fst.o, Atom.arr Kd.rrule z.snd.fst.t, Atom.arr Kd.rrule z.snd.fst.w, Atom.arr Kd.rrule z.snd.fst.n, Atom.arr Kd.rrule z.snd.fst.f, Atom.arr
 Kd.int z.snd.fst.m, Atom.arr Kd.int z.snd.fst.d, Atom.arr Kd.int z.snd.fst.r, Atom.gone] [VV.one (V1.c (C.ptr 0 0 0)), VV.one (V1.c (C.rs 57 2 (RS.mk b 0 (LL xs).length c))), i64 (mark + (10 : Int) * (↑z.fst
 : Int))] [Atom.cells 44 [C.bool false, C.bool false, C.int .i64 z.snd.fst.turn, C.int .i64 z.snd.fst.deep, C.nils, C.nils, C.nils, C.nils, C.nils, C.nils, C.nils, C.nils, C.int .i64 (0 : Int), C.nils,
 C.nils, C.nils, C.nils, C.nils, C.nils, C.nils, C.nils, C.int .i64 (0 : Int), C.nils, C.nils, C.nils, C.nils, C.nils, C.nils, C.nils, C.nils, C.int .i64 (0 : Int), C.nils, C.nils, C.nils, C.nils, C.nils,
 C.nils, C.nils, C.nils, C.int .i64 (0 : Int), C.nils, C.nils, C.nils, C.nils, C.nils, C.nils, C.nils, C.nils, C.int .i64 (0 : Int), C.nils, C.nils, C.nils, C.nils, C.nils, C.nils, C.nils, C.nils, C.int
 .i64 (0 : Int), C.nils, C.nils, C.nils, C.nils, C.nils, C.nils, C.nils, C.nils, C.int .i64 (0 : Int), C.nils, C.nils, C.nils, C.nils, C.nils, C.nils, C.nils, C.nils, C.int .i64 (0 : Int), C.nils, C.nils,
 C.nils, C.nils, C.nils, C.nils, C.nils, C.nils, C.int .i64 (0 : Int), C.slc 1 0 z.snd.fst.o.length none, C.slc 2 0 z.snd.fst.t.length none, C.slc 3 0 z.snd.fst.w.length none, C.slc 4 0 z.snd.fst.n.length
 none, C.slc 5 0 z.snd.fst.f.length none, C.slc 6 0 z.snd.fst.m.length none, C.slc 7 0 z.snd.fst.d.length none, C.slc 8 0 z.snd.fst.r.length none, C.int .i64 z.snd.fst.seen, C.nils, C.nils, C.nils, C.nils,
 C.nils, C.nils, C.nils, C.nils, C.int .i64 (0 : Int), C.nils, C.nils, C.nils, C.nils, C.nils, C.nils, C.nils, C.nils, C.int .i64 (0 : Int), C.nils, C.nils, C.nils, C.nils, C.nils, C.nils, C.nils, C.nils,
 C.int .i64 (0 : Int), C.nils, C.nils, C.nils, C.nils, C.nils, C.nils, C.nils, C.nils, C.int .i64 (0 : Int), C.nils, C.nils, C.nils, C.nils, C.nils, C.nils, C.nils, C.nils, C.int .i64 (0 : Int), C.nils,
 C.nils, C.nils, C.nils, C.nils, C.nils, C.nils, C.nils, C.int .i64 (0 : Int)], Atom.arr Kd.rrule z.snd.fst.o, Atom.arr Kd.rrule z.snd.fst.t, Atom.arr Kd.rrule z.snd.fst.w, Atom.arr Kd.rrule z.snd.fst.n,
 Atom.arr Kd.rrule z.snd.fst.f, Atom.arr Kd.int z.snd.fst.m, Atom.arr Kd.int z.snd.fst.d, Atom.arr Kd.int z.snd.fst.r, Atom.bag (bput z.snd.snd b (BI.row Kd.rule c (LL xs)))] ∧ ∀ (y : BS × Bag KK), RestOk
 y.snd y.fst ∧ y.fst.seen = z.snd.fst.seen + (1 : Int) ∧ StaysX (bput z.snd.snd b (BI.row Kd.rule c (LL xs))) (Bk.mk (z.snd.fst.o) (z.snd.fst.t) (z.snd.fst.w) (z.snd.fst.n) (z.snd.fst.f)) (RS.mk b 0 (LL
 xs).length c) y.snd (Bk.mk (y.fst.o) (y.fst.t) (y.fst.w) (y.fst.n) (y.fst.f)) → i64ok ((↑z.fst : Int) + (1 : Int)) ∧ Enter 13 (inv_tells xs mark B φ) (fun (z' : Nat × BS × Bag KK) => 2 - z'.fst < 2 - z.fst)
 ([VV.one (V1.c (C.ptr 0 0 0)), VV.one (V1.c (C.ptr 10 0 0)), VV.one (V1.c (C.slc 12 0 (LL xs).length none)), i64 mark, VV.any, VV.any, VV.any, VV.any, VV.any, i64 ((↑z.fst : Int) + (1 : Int)), VV.one (V1.c
 (C.rs 57 2 (RS.mk b 0 (LL xs).length c)))] ++ anys 26) [Atom.cells 44 [C.bool false, C.bool false, C.int .i64 y.fst.turn, C.int .i64 y.fst.deep, C.nils, C.nils, C.nils, C.nils, C.nils, C.nils, C.nils,
 C.nils, C.int .i64 (0 : Int), C.nils, C.nils, C.nils, C.nils, C.nils, C.nils, C.nils, C.nils, C.int .i64 (0 : Int), C.nils, C.nils, C.nils, C.nils, C.nils, C.nils, C.nils, C.nils, C.int .i64 (0 : Int),
 C.nils, C.nils, C.nils, C.nils, C.nils, C.nils, C.nils, C.nils, C.int .i64 (0 : Int), C.nils, C.nils, C.nils, C.nils, C.nils, C.nils, C.nils, C.nils, C.int .i64 (0 : Int), C.nils, C.nils, C.nils, C.nils,
 C.nils, C.nils, C.nils, C.nils, C.int .i64 (0 : Int), C.nils, C.nils, C.nils, C.nils, C.nils, C.nils, C.nils, C.nils, C.int .i64 (0 : Int), C.nils, C.nils, C.nils, C.nils, C.nils, C.nils, C.nils, C.nils,
 C.int .i64 (0 : Int), C.nils, C.nils, C.nils, C.nils, C.nils, C.nils, C.nils, C.nils, C.int .i64 (0 : Int), C.slc 22 0 y.fst.o.length none, C.slc 23 0 y.fst.t.length none, C.slc 24 0 y.fst.w.length none,
 C.slc 25 0 y.fst.n.length none, C.slc 26 0 y.fst.f.length none, C.slc 27 0 y.fst.m.length none, C.slc 28 0 y.fst.d.length none, C.slc 29 0 y.fst.r.length none, C.int .i64 y.fst.seen, C.nils, C.nils, C.nils,
 C.nils, C.nils, C.nils, C.nils, C.nils, C.int .i64 (0 : Int), C.nils, C.nils, C.nils, C.nils, C.nils, C.nils, C.nils, C.nils, C.int .i64 (0 : Int), C.nils, C.nils, C.nils, C.nils, C.nils, C.nils, C.nils,
 C.nils, C.int .i64 (0 : Int), C.nils, C.nils, C.nils, C.nils, C.nils, C.nils, C.nils, C.nils, C.int .i64 (0 : Int), C.nils, C.nils, C.nils, C.nils, C.nils, C.nils, C.nils, C.nils, C.int .i64 (0 : Int),
 C.nils, C.nils, C.nils, C.nils, C.nils, C.nils, C.nils, C.nils, C.int .i64 (0 : Int)], Atom.gone, Atom.gone, Atom.gone, Atom.gone, Atom.gone, Atom.gone, Atom.gone, Atom.gone, Atom.bag y.snd, Atom.cells
 64 [C.slc 11 0 xs.length none], Atom.arr Kd.line xs, Atom.ro Kd.rule (LL xs), Atom.gone, Atom.gone, Atom.gone, Atom.gone, Atom.gone, Atom.gone, Atom.gone, Atom.gone, Atom.gone, Atom.arr Kd.rrule y.fst.o,
 Atom.arr Kd.rrule y.fst.t, Atom.arr Kd.rrule y.fst.w, Atom.arr Kd.rrule y.fst.n, Atom.arr Kd.rrule y.fst.f, Atom.arr Kd.int y.fst.m, Atom.arr Kd.int y.fst.d, Atom.arr Kd.int y.fst.r]) (EndsAs 13 (ct_tells
 t xs mark B φ) (boolv false) [Atom.cells 44 [C.bool false, C.bool false, C.int .i64 z.snd.fst.turn, C.int .i64 z.snd.fst.deep, C.nils, C.nils, C.nils, C.nils, C.nils, C.nils, C.nils, C.nils, C.int .i64
 (0 : Int), C.nils, C.nils, C.nils, C.nils, C.nils, C.nils, C.nils, C.nils, C.int .i64 (0 : Int), C.nils, C.nils, C.nils, C.nils, C.nils, C.nils, C.nils, C.nils, C.int .i64 (0 : Int), C.nils, C.nils, C.nils,
 C.nils, C.nils, C.nils, C.nils, C.nils, C.int .i64 (0 : Int), C.nils, C.nils, C.nils, C.nils, C.nils, C.nils, C.nils, C.nils, C.int .i64 (0 : Int), C.nils, C.nils, C.nils, C.nils, C.nils, C.nils, C.nils,
 C.nils, C.int .i64 (0 : Int), C.nils, C.nils, C.nils, C.nils, C.nils, C.nils, C.nils, C.nils, C.int .i64 (0 : Int), C.nils, C.nils, C.nils, C.nils, C.nils, C.nils, C.nils, C.nils, C.int .i64 (0 : Int),
 C.nils, C.nils, C.nils, C.nils, C.nils, C.nils, C.nils, C.nils, C.int .i64 (0 : Int), C.slc 13 0 z.snd.fst.o.length none, C.slc 14 0 z.snd.fst.t.length none, C.slc 15 0 z.snd.fst.w.length none, C.slc 16
 0 z.snd.fst.n.length none, C.slc 17 0 z.snd.fst.f.length none, C.slc 18 0 z.snd.fst.m.length none, C.slc 19 0 z.snd.fst.d.length none, C.slc 20 0 z.snd.fst.r.length none, C.int .i64 z.snd.fst.seen, C.nils,
 C.nils, C.nils, C.nils, C.nils, C.nils, C.nils, C.nils, C.int .i64 (0 : Int), C.nils, C.nils, C.nils, C.nils, C.nils, C.nils, C.nils, C.nils, C.int .i64 (0 : Int), C.nils, C.nils, C.nils, C.nils, C.nils,
 C.nils, C.nils, C.nils, C.int .i64 (0 : Int), C.nils, C.nils, C.nils, C.nils, C.nils, C.nils, C.nils, C.nils, C.int .i64 (0 : Int), C.nils, C.nils, C.nils, C.nils, C.nils, C.nils, C.nils, C.nils, C.int
 .i64 (0 : Int), C.nils, C.nils, C.nils, C.nils, C.nils, C.nils, C.nils, C.nils, C.int .i64 (0 : Int)], Atom.gone, Atom.gone, Atom.gone, Atom.gone, Atom.gone, Atom.gone, Atom.gone, Atom.gone, Atom.bag z.snd.snd,
 Atom.cells 64 [C.slc 11 0 xs.length none], Atom.arr Kd.line xs, Atom.ro Kd.rule (LL xs), Atom.arr Kd.rrule z.snd.fst.o, Atom.arr Kd.rrule z.snd.fst.t, Atom.arr Kd.rrule z.snd.fst.w, Atom.arr Kd.rrule z.snd.fst.n,
 Atom.arr Kd.rrule z.snd.fst.f, Atom.arr Kd.int z.snd.fst.m, Atom.arr Kd.int z.snd.fst.d, Atom.arr Kd.int z.snd.fst.r, Atom.arr Kd.rule (LL xs)])) (BookOk z.snd.snd (BS.mk (z.snd.fst.turn) (z.snd.fst.deep)
 (z.snd.fst.o) (z.snd.fst.t) (z.snd.fst.w) (z.snd.fst.n) (z.snd.fst.f) (z.snd.fst.m) (z.snd.fst.d) (z.snd.fst.r) (z.snd.fst.seen)) ∧ Into (K := KK) 0 [] [0, 13, 14, 15, 16, 17, 18, 19, 20, 9] [VV.one (V1.c
 (C.ptr 0 0 0))] [Atom.cells 44 [C.bool false, C.bool false, C.int .i64 z.snd.fst.turn, C.int .i64 z.snd.fst.deep, C.nils, C.nils, C.nils, C.nils, C.nils, C.nils, C.nils, C.nils, C.int .i64 (0 : Int), C.nils,
 C.nils, C.nils, C.nils, C.nils, C.nils, C.nils, C.nils, C.int .i64 (0 : Int), C.nils, C.nils, C.nils, C.nils, C.nils, C.nils, C.nils, C.nils, C.int .i64 (0 : Int), C.nils, C.nils, C.nils, C.nils, C.nils,
 C.nils, C.nils, C.nils, C.int .i64 (0 : Int), C.nils, C.nils, C.nils, C.nils, C.nils, C.nils, C.nils, C.nils, C.int .i64 (0 : Int), C.nils, C.nils, C.nils, C.nils, C.nils, C.nils, C.nils, C.nils, C.int
 .i64 (0 : Int), C.nils, C.nils, C.nils, C.nils, C.nils, C.nils, C.nils, C.nils, C.int .i64 (0 : Int), C.nils, C.nils, C.nils, C.nils, C.nils, C.nils, C.nils, C.nils, C.int .i64 (0 : Int), C.nils, C.nils,
 C.nils, C.nils, C.nils, C.nils, C.nils, C.nils, C.int .i64 (0 : Int), C.slc 13 0 z.snd.fst.o.length none, C.slc 14 0 z.snd.fst.t.length none, C.slc 15 0 z.snd.fst.w.length none, C.slc 16 0 z.snd.fst.n.length
 none, C.slc 17 0 z.snd.fst.f.length none, C.slc 18 0 z.snd.fst.m.length none, C.slc 19 0 z.snd.fst.d.length none, C.slc 20 0 z.snd.fst.r.length none, C.int .i64 z.snd.fst.seen, C.nils, C.nils, C.nils,
 C.nils, C.nils, C.nils, C.nils, C.nils, C.int .i64 (0 : Int), C.nils, C.nils, C.nils, C.nils, C.nils, C.nils, C.nils, C.nils, C.int .i64 (0 : Int), C.nils, C.nils, C.nils, C.nils, C.nils, C.nils, C.nils,
 C.nils, C.int .i64 (0 : Int), C.nils, C.nils, C.nils, C.nils, C.nils, C.nils, C.nils, C.nils, C.int .i64 (0 : Int), C.nils, C.nils, C.nils, C.nils, C.nils, C.nils, C.nils, C.nils, C.int .i64 (0 : Int),
 C.nils, C.nils, C.nils, C.nils, C.nils, C.nils, C.nils, C.nils, C.int .i64 (0 : Int)], Atom.gone, Atom.gone, Atom.gone, Atom.gone, Atom.gone, Atom.gone, Atom.gone, Atom.gone, Atom.bag z.snd.snd, Atom.cells
 64 [C.slc 11 0 xs.length none], Atom.arr Kd.line xs, Atom.ro Kd.rule (LL xs), Atom.arr Kd.rrule z.snd.fst.o, Atom.arr Kd.rrule z.snd.fst.t, Atom.arr Kd.rrule z.snd.fst.w, Atom.arr Kd.rrule z.snd.fst.n,
 Atom.arr Kd.rrule z.snd.fst.f, Atom.arr Kd.int z.snd.fst.m, Atom.arr Kd.int z.snd.fst.d, Atom.arr Kd.int z.snd.fst.r] [VV.one (V1.c (C.ptr 0 0 0))] [Atom.cells 44 [C.bool false, C.bool false, C.int .i64
 z.snd.fst.turn, C.int .i64 z.snd.fst.deep, C.nils, C.nils, C.nils, C.nils, C.nils, C.nils, C.nils, C.nils, C.int .i64 (0 : Int), C.nils, C.nils, C.nils, C.nils, C.nils, C.nils, C.nils, C.nils, C.int .i64
 (0 : Int), C.nils, C.nils, C.nils, C.nils, C.nils, C.nils, C.nils, C.nils, C.int .i64 (0 : Int), C.nils, C.nils, C.nils, C.nils, C.nils, C.nils, C.nils, C.nils, C.int .i64 (0 : Int), C.nils, C.nils, C.nils,
 C.nils, C.nils, C.nils, C.nils, C.nils, C.int .i64 (0 : Int), C.nils, C.nils, C.nils, C.nils, C.nils, C.nils, C.nils, C.nils, C.int .i64 (0 : Int), C.nils, C.nils, C.nils, C.nils, C.nils, C.nils, C.nils,
 C.nils, C.int .i64 (0 : Int), C.nils, C.nils, C.nils, C.nils, C.nils, C.nils, C.nils, C.nils, C.int .i64 (0 : Int), C.nils, C.nils, C.nils, C.nils, C.nils, C.nils, C.nils, C.nils, C.int .i64 (0 : Int),
 C.slc 1 0 z.snd.fst.o.length none, C.slc 2 0 z.snd.fst.t.length none, C.slc 3 0 z.snd.fst.w.length none, C.slc 4 0 z.snd.fst.n.length none, C.slc 5 0 z.snd.fst.f.length none, C.slc 6 0 z.snd.fst.m.length
 none, C.slc 7 0 z.snd.fst.d.length none, C.slc 8 0 z.snd.fst.r.length none, C.int .i64 z.snd.fst.seen, C.nils, C.nils, C.nils, C.nils, C.nils, C.nils, C.nils, C.nils, C.int .i64 (0 : Int), C.nils, C.nils,
 C.nils, C.nils, C.nils, C.nils, C.nils, C.nils, C.int .i64 (0 : Int), C.nils, C.nils, C.nils, C.nils, C.nils, C.nils, C.nils, C.nils, C.int .i64 (0 : Int), C.nils, C.nils, C.nils, C.nils, C.nils, C.nils,
 C.nils, C.nils, C.int .i64 (0 : Int), C.nils, C.nils, C.nils, C.nils, C.nils, C.nils, C.nils, C.nils, C.int .i64 (0 : Int), C.nils, C.nils, C.nils, C.nils, C.nils, C.nils, C.nils, C.nils, C.int .i64 (0
 : Int)], Atom.arr Kd.rrule z.snd.fst.o, Atom.arr Kd.rrule z.snd.fst.t, Atom.arr Kd.rrule z.snd.fst.w, Atom.arr Kd.rrule z.snd.fst.n, Atom.arr Kd.rrule z.snd.fst.f, Atom.arr Kd.int z.snd.fst.m, Atom.arr
 Kd.int z.snd.fst.d, Atom.arr Kd.int z.snd.fst.r, Atom.bag z.snd.snd] ∧ ∀ (y : Unit), True → EndsAs 13 (ct_tells t xs mark B φ) (boolv true) [Atom.cells 44 [C.bool false, C.bool false, C.int .i64 z.snd.fst.turn,
 C.int .i64 z.snd.fst.deep, C.nils, C.nils, C.nils, C.nils, C.nils, C.nils, C.nils, C.nils, C.int .i64 (0 : Int), C.nils, C.nils, C.nils, C.nils, C.nils, C.nils, C.nils, C.nils, C.int .i64 (0 : Int), C.nils,
 C.nils, C.nils, C.nils, C.nils, C.nils, C.nils, C.nils, C.int .i64 (0 : Int), C.nils, C.nils, C.nils, C.nils, C.nils, C.nils, C.nils, C.nils, C.int .i64 (0 : Int), C.nils, C.nils, C.nils, C.nils, C.nils,
 C.nils, C.nils, C.nils, C.int .i64 (0 : Int), C.nils, C.nils, C.nils, C.nils, C.nils, C.nils, C.nils, C.nils, C.int .i64 (0 : Int), C.nils, C.nils, C.nils, C.nils, C.nils, C.nils, C.nils, C.nils, C.int
 .i64 (0 : Int), C.nils, C.nils, C.nils, C.nils, C.nils, C.nils, C.nils, C.nils, C.int .i64 (0 : Int), C.nils, C.nils, C.nils, C.nils, C.nils, C.nils, C.nils, C.nils, C.int .i64 (0 : Int), C.slc 13 0 z.snd.fst.o.length
 none, C.slc 14 0 z.snd.fst.t.length none, C.slc 15 0 z.snd.fst.w.length none, C.slc 16 0 z.snd.fst.n.length none, C.slc 17 0 z.snd.fst.f.length none, C.slc 18 0 z.snd.fst.m.length none, C.slc 19 0 z.snd.fst.d.length
 none, C.slc 20 0 z.snd.fst.r.length none, C.int .i64 z.snd.fst.seen, C.nils, C.nils, C.nils, C.nils, C.nils, C.nils, C.nils, C.nils, C.int .i64 (0 : Int), C.nils, C.nils, C.nils, C.nils, C.nils, C.nils,
 C.nils, C.nils, C.int .i64 (0 : Int), C.nils, C.nils, C.nils, C.nils, C.nils, C.nils, C.nils, C.nils, C.int .i64 (0 : Int), C.nils, C.nils, C.nils, C.nils, C.nils, C.nils, C.nils, C.nils, C.int .i64 (0
 : Int), C.nils, C.nils, C.nils, C.nils, C.nils, C.nils, C.nils, C.nils, C.int .i64 (0 : Int), C.nils, C.nils, C.nils, C.nils, C.nils, C.nils, C.nils, C.nils, C.int .i64 (0 : Int)], Atom.gone, Atom.gone,
 Atom.gone, Atom.gone, Atom.gone, Atom.gone, Atom.gone, Atom.gone, Atom.bag z.snd.snd, Atom.cells 64 [C.slc 11 0 xs.length none], Atom.arr Kd.line xs, Atom.ro Kd.rule (LL xs), Atom.arr Kd.rrule z.snd.fst.o,
 Atom.arr Kd.rrule z.snd.fst.t, Atom.arr Kd.rrule z.snd.fst.w, Atom.arr Kd.rrule z.snd.fst.n, Atom.arr Kd.rrule z.snd.fst.f, Atom.arr Kd.int z.snd.fst.m, Atom.arr Kd.int z.snd.fst.d, Atom.arr Kd.int z.snd.fst.r])) := by kernel_rfl
theorem tells_ok (t : Tb) (xs : List Ln) (mark : Int) (B : BS) (φ : Bag KK) : CtOk Tryz.prog 6 (ct_tells t xs mark B φ) := CtOk_of KK_ok (tabTl t) (ann_tells xs mark B φ) (fn := Tryz.f6) rfl (fun _ _ => rfl) fun hn => by
  obtain ⟨hB, hT, ⟨h1, h2, h3⟩, hm, hs⟩ := hn
  have hll := LL_len xs
  have hw : ∀ r ∈ LL xs, 1 ≤ r.1 ∧ r.1 ≤ 3 := fun r hr => by
    obtain ⟨x, hx, rfl⟩ := List.mem_map.1 hr
    exact h2 x hx
  rw [vc_tells]
  simp only [Int.toNat_natCast]
  refine ⟨⟨((0 : Nat), B, φ), [], [0, 1, 2, 3, 4, 5, 6, 7, 8, 9, 10, 11, 12, 1, 2, 3, 4, 5, 6, 7, 8], ⟨Nat.zero_le _, hB, by show B.seen = B.seen + ((0 : Nat) : Int); omega, Kp.refl _⟩, trivial, into_mk (by kernel_rfl) (by (repeat' first | exact trivial | exact rfl | apply And.intro)) (by (repeat' first | exact trivial | exact rfl | apply And.intro))⟩, ?_⟩
  rintro ⟨i, C, ψ⟩ ⟨hi, hC, hsn, hk⟩
  have hi : i ≤ 2 := hi
  have hC : RestOk ψ C := hC
  have hsn : C.seen = B.seen + (i : Int) := hsn
  have hk : Kp φ ψ := hk
  dsimp only
  refine ite2_decide (fun hl => ?_) (fun hl => ?_)
  · have hli : i < 2 := by omega
    have io : i64ok ((i : Int) + 1) := by unfold i64ok; omega
    have io1 : i64ok (10 * (i : Int)) := by unfold i64ok; omega
    have io2 : i64ok (mark + 10 * (i : Int)) := by unfold i64ok; omega
    have hlen : (LL xs).length ≤ 1000000 := by omega
    have me : 2 - (i + 1) < 2 - i := by omega
    have next : ∀ (x : RS) (χ : Bag KK) (y : BS × Bag KK), Frz ψ Kd.rule (LL xs) x χ → (RestOk y.2 y.1 ∧ y.1.seen = C.seen + 1 ∧ StaysX χ C.bk x y.2 y.1.bk) → tellsOk φ B ((i + 1 : Nat), y.1, y.2) := fun x χ y hz hy => by
      obtain ⟨r1, q1, t1⟩ := hy
      refine ⟨hli, r1, by show y.1.seen = B.seen + ((i + 1 : Nat) : Int); omega, hk.trans ((Kp.ext hz.ext).trans (Kp.book (hC.ext hz.ext) (alone_frz hC hlen hz) t1))⟩
    refine ⟨h1, into_mk (by kernel_rfl) (by (repeat' first | exact trivial | exact rfl | apply And.intro)) (by (repeat' first | exact trivial | exact rfl | apply And.intro)), fun _ _ => ⟨hlen, into_mk (by kernel_rfl) (by (repeat' first | exact trivial | exact rfl | apply And.intro)) (by (repeat' first | exact trivial | exact rfl | apply And.intro)), fun _ _ => ⟨⟨hk.hasT hT, h2, h1, h3⟩, into_mk (by kernel_rfl) (by (repeat' first | exact trivial | exact rfl | apply And.intro)) (by (repeat' first | exact trivial | exact rfl | apply And.intro)), fun _ _ => ⟨⟨by omega, hw, h3⟩, into_mk (by kernel_rfl) (by (repeat' first | exact trivial | exact rfl | apply And.intro)) (by (repeat' first | exact trivial | exact rfl | apply And.intro)), fun _ _ => ite2_decide (fun _ => ⟨trivial, fun hz => ?_, fun b c hf hc => ?_⟩) (fun h => absurd trivial h)⟩⟩⟩⟩
    · have z1 : Frz ψ Kd.rule (LL xs) .nil ψ := Frz.nil_ hz
      exact ⟨io1, io2, ⟨hC, alone_frz hC hlen z1, ⟨by omega, by omega⟩, by omega⟩, into_mk (by kernel_rfl) (by (repeat' first | exact trivial | exact rfl | apply And.intro)) (by (repeat' first | exact trivial | exact rfl | apply And.intro)), fun y hy => ⟨io, ((i + 1 : Nat), y.1, y.2), [], [0, 1, 2, 3, 4, 5, 6, 7, 8, 9, 10, 11, 12, 22, 23, 24, 25, 26, 27, 28, 29], next _ _ y z1 hy, me, into_mk (by kernel_rfl) (by (repeat' first | exact trivial | exact rfl | apply And.intro)) (by (repeat' first | exact trivial | exact rfl | apply And.intro))⟩⟩
    · have z1 : Frz ψ Kd.rule (LL xs) (.mk b 0 (LL xs).length c) (bput ψ b (.row Kd.rule c (LL xs))) := Frz.mk b c hf hc
      exact ⟨io1, io2, ⟨hC.ext z1.ext, alone_frz hC hlen z1, ⟨by omega, by omega⟩, by omega⟩, into_mk (by kernel_rfl) (by (repeat' first | exact trivial | exact rfl | apply And.intro)) (by (repeat' first | exact trivial | exact rfl | apply And.intro)), fun y hy => ⟨io, ((i + 1 : Nat), y.1, y.2), [], [0, 1, 2, 3, 4, 5, 6, 7, 8, 9, 10, 11, 12, 22, 23, 24, 25, 26, 27, 28, 29], next _ _ y z1 hy, me, into_mk (by kernel_rfl) (by (repeat' first | exact trivial | exact rfl | apply And.intro)) (by (repeat' first | exact trivial | exact rfl | apply And.intro))⟩⟩
  · exact ⟨hC.ok, into_mk (by kernel_rfl) (by (repeat' first | exact trivial | exact rfl | apply And.intro)) (by (repeat' first | exact trivial | exact rfl | apply And.intro)), fun _ _ => ⟨(C, ψ), [], [0, 1, 2, 3, 4, 5, 6, 7, 8, 9, 10, 11, 12, 13, 14, 15, 16, 17, 18, 19, 20], ⟨hC, by show C.seen = B.seen + 2; omega, hk⟩, by (repeat' first | exact trivial | exact rfl | apply And.intro)⟩⟩
end Go.Proofs.YtoidibkcdkdneaaGreatDoor.T
end
