/- The book: the lists of the other kinds, of which there are none. -/
import Derived.Test.YtndlpbheifalhaaGreatDoorK3
namespace Go.Proofs.YtndlpbheifalhaaGreatDoor.T
open Go.Proofs.YtndlpbheifalhaaGreatDoor.E
set_option maxRecDepth 100000
set_option linter.unusedVariables false
/-- What a book's cells hold beside the lists of the kinds that it was not told of. -/
structure BS where
  turn : Int
  deep : Int
  o : List RS
  t : List RS
  w : List RS
  n : List RS
  f : List RS
  m : List Int
  d : List Int
  r : List Int
  seen : Int
def noneK : List C := [.nils, .nils, .nils, .nils, .nils, .nils, .nils, .nils, .int .i64 0]
def noK : Nat → List C
  | 0 => []
  | n + 1 => noneK ++ noK n
def bookC (now bad : Bool) (turn deep : Int) (mid : List C) : List C := [.bool now, .bool bad, .int .i64 turn, .int .i64 deep] ++ (noK 0 ++ (mid ++ noK 15))
def midC (B : BS) : List C := [.slc 1 0 B.o.length none, .slc 2 0 B.t.length none, .slc 3 0 B.w.length none, .slc 4 0 B.n.length none, .slc 5 0 B.f.length none, .slc 6 0 B.m.length none, .slc 7 0 B.d.length none, .slc 8 0 B.r.length none, .int .i64 B.seen]
def bookH (B : BS) : VH KK := [.cells 46 (bookC false false B.turn B.deep (midC B)), .arr .ru8 B.o, .arr .ru8 B.t, .arr .ru8 B.w, .arr .ru8 B.n, .arr .ru8 B.f, .arr .int B.m, .arr .int B.d, .arr .int B.r]
abbrev bookN : List Nat := [0, 1, 2, 3, 4, 5, 6, 7, 8]
def ct_b (B : BS) (v : VV) : Ct KK := { need := True, pre := bookH B, args := [.c (.ptr 0 0 0)], Y := Unit, ok := fun _ => True, ret := fun _ => v, post := fun _ => bookH B }
def inv_b (B : BS) (fr : List VV) : Inv KK := { X := Unit, fr := fun _ => fr, H := fun _ => bookH B, ok := fun _ => True, meas := fun _ => 0 }
def ann_h (B : BS) (n : Nat) : Ann KK := { loop := fun id _ _ => match id with | 2 => some (inv_b B ([.c (.ptr 0 0 0), .any, .any, i64 0] ++ anys (n - 4))) | _ => some (inv_b B ([.c (.ptr 0 0 0), .any, .any, .any, i64 0] ++ anys (n - 5))), cut := fun _ _ _ => none }
theorem vc_mInts (B : BS) : evFn tab0 ann0 Tryz.f93 (ct_b B (.tup [])) = ( EndsAs 9 (ct_b B (VV.tup [])) (VV.tup []) (bookH B)) := by kernel_rfl
theorem vc_gInts (B : BS) : evFn tab0 (ann1 (inv_b B ([.c (.ptr 0 0 0), .any, i64 0] ++ anys (Tryz.f109.ntmps - 3)))) Tryz.f109 (ct_b B (.tup [])) = ( Enter 9 (inv_b B ([VV.c (C.ptr 0 0 0), VV.any, i64 (0 : Int)] ++ anys (Tryz.f109.ntmps - 3))) (fun (x : Unit) => True) ([VV.one (V1.c (C.ptr 0 0 0)), VV.any, i64 (0 : Int)] ++ anys 66) (bookH B) ∧ ∀ (z
 : Unit), True → EndsAs 9 (ct_b B (VV.tup [])) (VV.tup []) (bookH B)) := by kernel_rfl
theorem vc_hInts (B : BS) : evFn tab0 (ann_h B Tryz.f37.ntmps) Tryz.f37 (ct_b B (boolv true)) = ( Enter 9 (inv_b B ([VV.c (C.ptr 0 0 0), VV.any, VV.any, i64 (0 : Int)] ++ anys (Tryz.f37.ntmps - 4))) (fun (x : Unit) => True) ([VV.one (V1.c (C.ptr 0 0 0)), VV.any, boolv false, i64 (0 : Int)] ++ anys
 51) (bookH B) ∧ ∀ (z : Unit), True → Enter 9 (inv_b B ([VV.c (C.ptr 0 0 0), VV.any, VV.any, VV.any, i64 (0 : Int)] ++ anys (Tryz.f37.ntmps - 5))) (fun (x : Unit) => True) ([VV.one (V1.c (C.ptr 0 0 0)),
 VV.any, VV.any, i64 (0 : Int), i64 (0 : Int), i64 (0 : Int), VV.one (V1.c (C.ptr 0 0 0)), VV.one (V1.c (C.ptr 0 0 0)), VV.one (V1.c (C.ptr 0 0 13)), VV.one (V1.c C.nils), i64 (0 : Int), boolv false] ++
 anys 43) (bookH B) ∧ ∀ (z : Unit), True → EndsAs 9 (ct_b B (boolv true)) (boolv true) (bookH B)) := by kernel_rfl
theorem vc_mTexts (B : BS) : evFn tab0 ann0 Tryz.f94 (ct_b B (.tup [])) = ( EndsAs 9 (ct_b B (VV.tup [])) (VV.tup []) (bookH B)) := by kernel_rfl
theorem vc_gTexts (B : BS) : evFn tab0 (ann1 (inv_b B ([.c (.ptr 0 0 0), .any, i64 0] ++ anys (Tryz.f110.ntmps - 3)))) Tryz.f110 (ct_b B (.tup [])) = ( Enter 9 (inv_b B ([VV.c (C.ptr 0 0 0), VV.any, i64 (0 : Int)] ++ anys (Tryz.f110.ntmps - 3))) (fun (x : Unit) => True) ([VV.one (V1.c (C.ptr 0 0 0)), VV.any, i64 (0 : Int)] ++ anys 67) (bookH B) ∧ ∀ (z
 : Unit), True → EndsAs 9 (ct_b B (VV.tup [])) (VV.tup []) (bookH B)) := by kernel_rfl
theorem vc_hTexts (B : BS) : evFn tab0 (ann_h B Tryz.f38.ntmps) Tryz.f38 (ct_b B (boolv true)) = ( Enter 9 (inv_b B ([VV.c (C.ptr 0 0 0), VV.any, VV.any, i64 (0 : Int)] ++ anys (Tryz.f38.ntmps - 4))) (fun (x : Unit) => True) ([VV.one (V1.c (C.ptr 0 0 0)), VV.any, boolv false, i64 (0 : Int)] ++ anys
 51) (bookH B) ∧ ∀ (z : Unit), True → Enter 9 (inv_b B ([VV.c (C.ptr 0 0 0), VV.any, VV.any, VV.any, i64 (0 : Int)] ++ anys (Tryz.f38.ntmps - 5))) (fun (x : Unit) => True) ([VV.one (V1.c (C.ptr 0 0 0)),
 VV.any, VV.any, i64 (0 : Int), i64 (0 : Int), i64 (0 : Int), VV.one (V1.c (C.ptr 0 0 0)), VV.one (V1.c (C.ptr 0 0 0)), VV.one (V1.c (C.ptr 0 0 22)), VV.one (V1.c C.nils), i64 (0 : Int), boolv false] ++
 anys 43) (bookH B) ∧ ∀ (z : Unit), True → EndsAs 9 (ct_b B (boolv true)) (boolv true) (bookH B)) := by kernel_rfl
theorem vc_mLosts (B : BS) : evFn tab0 ann0 Tryz.f95 (ct_b B (.tup [])) = ( EndsAs 9 (ct_b B (VV.tup [])) (VV.tup []) (bookH B)) := by kernel_rfl
theorem vc_gLosts (B : BS) : evFn tab0 (ann1 (inv_b B ([.c (.ptr 0 0 0), .any, i64 0] ++ anys (Tryz.f111.ntmps - 3)))) Tryz.f111 (ct_b B (.tup [])) = ( Enter 9 (inv_b B ([VV.c (C.ptr 0 0 0), VV.any, i64 (0 : Int)] ++ anys (Tryz.f111.ntmps - 3))) (fun (x : Unit) => True) ([VV.one (V1.c (C.ptr 0 0 0)), VV.any, i64 (0 : Int)] ++ anys 68) (bookH B) ∧ ∀ (z
 : Unit), True → EndsAs 9 (ct_b B (VV.tup [])) (VV.tup []) (bookH B)) := by kernel_rfl
theorem vc_hLosts (B : BS) : evFn tab0 (ann_h B Tryz.f39.ntmps) Tryz.f39 (ct_b B (boolv true)) = ( Enter 9 (inv_b B ([VV.c (C.ptr 0 0 0), VV.any, VV.any, i64 (0 : Int)] ++ anys (Tryz.f39.ntmps - 4))) (fun (x : Unit) => True) ([VV.one (V1.c (C.ptr 0 0 0)), VV.any, boolv false, i64 (0 : Int)] ++ anys
 51) (bookH B) ∧ ∀ (z : Unit), True → Enter 9 (inv_b B ([VV.c (C.ptr 0 0 0), VV.any, VV.any, VV.any, i64 (0 : Int)] ++ anys (Tryz.f39.ntmps - 5))) (fun (x : Unit) => True) ([VV.one (V1.c (C.ptr 0 0 0)),
 VV.any, VV.any, i64 (0 : Int), i64 (0 : Int), i64 (0 : Int), VV.one (V1.c (C.ptr 0 0 0)), VV.one (V1.c (C.ptr 0 0 0)), VV.one (V1.c (C.ptr 0 0 31)), VV.one (V1.c C.nils), i64 (0 : Int), boolv false] ++
 anys 43) (bookH B) ∧ ∀ (z : Unit), True → EndsAs 9 (ct_b B (boolv true)) (boolv true) (bookH B)) := by kernel_rfl
theorem vc_mChanges (B : BS) : evFn tab0 ann0 Tryz.f96 (ct_b B (.tup [])) = ( EndsAs 9 (ct_b B (VV.tup [])) (VV.tup []) (bookH B)) := by kernel_rfl
theorem vc_gChanges (B : BS) : evFn tab0 (ann1 (inv_b B ([.c (.ptr 0 0 0), .any, i64 0] ++ anys (Tryz.f112.ntmps - 3)))) Tryz.f112 (ct_b B (.tup [])) = ( Enter 9 (inv_b B ([VV.c (C.ptr 0 0 0), VV.any, i64 (0 : Int)] ++ anys (Tryz.f112.ntmps - 3))) (fun (x : Unit) => True) ([VV.one (V1.c (C.ptr 0 0 0)), VV.any, i64 (0 : Int)] ++ anys 68) (bookH B) ∧ ∀ (z
 : Unit), True → EndsAs 9 (ct_b B (VV.tup [])) (VV.tup []) (bookH B)) := by kernel_rfl
theorem vc_hChanges (B : BS) : evFn tab0 (ann_h B Tryz.f40.ntmps) Tryz.f40 (ct_b B (boolv true)) = ( Enter 9 (inv_b B ([VV.c (C.ptr 0 0 0), VV.any, VV.any, i64 (0 : Int)] ++ anys (Tryz.f40.ntmps - 4))) (fun (x : Unit) => True) ([VV.one (V1.c (C.ptr 0 0 0)), VV.any, boolv false, i64 (0 : Int)] ++ anys
 51) (bookH B) ∧ ∀ (z : Unit), True → Enter 9 (inv_b B ([VV.c (C.ptr 0 0 0), VV.any, VV.any, VV.any, i64 (0 : Int)] ++ anys (Tryz.f40.ntmps - 5))) (fun (x : Unit) => True) ([VV.one (V1.c (C.ptr 0 0 0)),
 VV.any, VV.any, i64 (0 : Int), i64 (0 : Int), i64 (0 : Int), VV.one (V1.c (C.ptr 0 0 0)), VV.one (V1.c (C.ptr 0 0 0)), VV.one (V1.c (C.ptr 0 0 40)), VV.one (V1.c C.nils), i64 (0 : Int), boolv false] ++
 anys 43) (bookH B) ∧ ∀ (z : Unit), True → EndsAs 9 (ct_b B (boolv true)) (boolv true) (bookH B)) := by kernel_rfl
theorem vc_mCells (B : BS) : evFn tab0 ann0 Tryz.f97 (ct_b B (.tup [])) = ( EndsAs 9 (ct_b B (VV.tup [])) (VV.tup []) (bookH B)) := by kernel_rfl
theorem vc_gCells (B : BS) : evFn tab0 (ann1 (inv_b B ([.c (.ptr 0 0 0), .any, i64 0] ++ anys (Tryz.f113.ntmps - 3)))) Tryz.f113 (ct_b B (.tup [])) = ( Enter 9 (inv_b B ([VV.c (C.ptr 0 0 0), VV.any, i64 (0 : Int)] ++ anys (Tryz.f113.ntmps - 3))) (fun (x : Unit) => True) ([VV.one (V1.c (C.ptr 0 0 0)), VV.any, i64 (0 : Int)] ++ anys 67) (bookH B) ∧ ∀ (z
 : Unit), True → EndsAs 9 (ct_b B (VV.tup [])) (VV.tup []) (bookH B)) := by kernel_rfl
theorem vc_hCells (B : BS) : evFn tab0 (ann_h B Tryz.f41.ntmps) Tryz.f41 (ct_b B (boolv true)) = ( Enter 9 (inv_b B ([VV.c (C.ptr 0 0 0), VV.any, VV.any, i64 (0 : Int)] ++ anys (Tryz.f41.ntmps - 4))) (fun (x : Unit) => True) ([VV.one (V1.c (C.ptr 0 0 0)), VV.any, boolv false, i64 (0 : Int)] ++ anys
 51) (bookH B) ∧ ∀ (z : Unit), True → Enter 9 (inv_b B ([VV.c (C.ptr 0 0 0), VV.any, VV.any, VV.any, i64 (0 : Int)] ++ anys (Tryz.f41.ntmps - 5))) (fun (x : Unit) => True) ([VV.one (V1.c (C.ptr 0 0 0)),
 VV.any, VV.any, i64 (0 : Int), i64 (0 : Int), i64 (0 : Int), VV.one (V1.c (C.ptr 0 0 0)), VV.one (V1.c (C.ptr 0 0 0)), VV.one (V1.c (C.ptr 0 0 49)), VV.one (V1.c C.nils), i64 (0 : Int), boolv false] ++
 anys 43) (bookH B) ∧ ∀ (z : Unit), True → EndsAs 9 (ct_b B (boolv true)) (boolv true) (bookH B)) := by kernel_rfl
theorem vc_mItems (B : BS) : evFn tab0 ann0 Tryz.f98 (ct_b B (.tup [])) = ( EndsAs 9 (ct_b B (VV.tup [])) (VV.tup []) (bookH B)) := by kernel_rfl
theorem vc_gItems (B : BS) : evFn tab0 (ann1 (inv_b B ([.c (.ptr 0 0 0), .any, i64 0] ++ anys (Tryz.f114.ntmps - 3)))) Tryz.f114 (ct_b B (.tup [])) = ( Enter 9 (inv_b B ([VV.c (C.ptr 0 0 0), VV.any, i64 (0 : Int)] ++ anys (Tryz.f114.ntmps - 3))) (fun (x : Unit) => True) ([VV.one (V1.c (C.ptr 0 0 0)), VV.any, i64 (0 : Int)] ++ anys 67) (bookH B) ∧ ∀ (z
 : Unit), True → EndsAs 9 (ct_b B (VV.tup [])) (VV.tup []) (bookH B)) := by kernel_rfl
theorem vc_hItems (B : BS) : evFn tab0 (ann_h B Tryz.f42.ntmps) Tryz.f42 (ct_b B (boolv true)) = ( Enter 9 (inv_b B ([VV.c (C.ptr 0 0 0), VV.any, VV.any, i64 (0 : Int)] ++ anys (Tryz.f42.ntmps - 4))) (fun (x : Unit) => True) ([VV.one (V1.c (C.ptr 0 0 0)), VV.any, boolv false, i64 (0 : Int)] ++ anys
 51) (bookH B) ∧ ∀ (z : Unit), True → Enter 9 (inv_b B ([VV.c (C.ptr 0 0 0), VV.any, VV.any, VV.any, i64 (0 : Int)] ++ anys (Tryz.f42.ntmps - 5))) (fun (x : Unit) => True) ([VV.one (V1.c (C.ptr 0 0 0)),
 VV.any, VV.any, i64 (0 : Int), i64 (0 : Int), i64 (0 : Int), VV.one (V1.c (C.ptr 0 0 0)), VV.one (V1.c (C.ptr 0 0 0)), VV.one (V1.c (C.ptr 0 0 58)), VV.one (V1.c C.nils), i64 (0 : Int), boolv false] ++
 anys 43) (bookH B) ∧ ∀ (z : Unit), True → EndsAs 9 (ct_b B (boolv true)) (boolv true) (bookH B)) := by kernel_rfl
theorem vc_mEntries (B : BS) : evFn tab0 ann0 Tryz.f99 (ct_b B (.tup [])) = ( EndsAs 9 (ct_b B (VV.tup [])) (VV.tup []) (bookH B)) := by kernel_rfl
theorem vc_gEntries (B : BS) : evFn tab0 (ann1 (inv_b B ([.c (.ptr 0 0 0), .any, i64 0] ++ anys (Tryz.f115.ntmps - 3)))) Tryz.f115 (ct_b B (.tup [])) = ( Enter 9 (inv_b B ([VV.c (C.ptr 0 0 0), VV.any, i64 (0 : Int)] ++ anys (Tryz.f115.ntmps - 3))) (fun (x : Unit) => True) ([VV.one (V1.c (C.ptr 0 0 0)), VV.any, i64 (0 : Int)] ++ anys 67) (bookH B) ∧ ∀ (z
 : Unit), True → EndsAs 9 (ct_b B (VV.tup [])) (VV.tup []) (bookH B)) := by kernel_rfl
theorem vc_hEntries (B : BS) : evFn tab0 (ann_h B Tryz.f43.ntmps) Tryz.f43 (ct_b B (boolv true)) = ( Enter 9 (inv_b B ([VV.c (C.ptr 0 0 0), VV.any, VV.any, i64 (0 : Int)] ++ anys (Tryz.f43.ntmps - 4))) (fun (x : Unit) => True) ([VV.one (V1.c (C.ptr 0 0 0)), VV.any, boolv false, i64 (0 : Int)] ++ anys
 51) (bookH B) ∧ ∀ (z : Unit), True → Enter 9 (inv_b B ([VV.c (C.ptr 0 0 0), VV.any, VV.any, VV.any, i64 (0 : Int)] ++ anys (Tryz.f43.ntmps - 5))) (fun (x : Unit) => True) ([VV.one (V1.c (C.ptr 0 0 0)),
 VV.any, VV.any, i64 (0 : Int), i64 (0 : Int), i64 (0 : Int), VV.one (V1.c (C.ptr 0 0 0)), VV.one (V1.c (C.ptr 0 0 0)), VV.one (V1.c (C.ptr 0 0 67)), VV.one (V1.c C.nils), i64 (0 : Int), boolv false] ++
 anys 43) (bookH B) ∧ ∀ (z : Unit), True → EndsAs 9 (ct_b B (boolv true)) (boolv true) (bookH B)) := by kernel_rfl
theorem vc_mPlaceds (B : BS) : evFn tab0 ann0 Tryz.f100 (ct_b B (.tup [])) = ( EndsAs 9 (ct_b B (VV.tup [])) (VV.tup []) (bookH B)) := by kernel_rfl
theorem vc_gPlaceds (B : BS) : evFn tab0 (ann1 (inv_b B ([.c (.ptr 0 0 0), .any, i64 0] ++ anys (Tryz.f116.ntmps - 3)))) Tryz.f116 (ct_b B (.tup [])) = ( Enter 9 (inv_b B ([VV.c (C.ptr 0 0 0), VV.any, i64 (0 : Int)] ++ anys (Tryz.f116.ntmps - 3))) (fun (x : Unit) => True) ([VV.one (V1.c (C.ptr 0 0 0)), VV.any, i64 (0 : Int)] ++ anys 67) (bookH B) ∧ ∀ (z
 : Unit), True → EndsAs 9 (ct_b B (VV.tup [])) (VV.tup []) (bookH B)) := by kernel_rfl
theorem vc_hPlaceds (B : BS) : evFn tab0 (ann_h B Tryz.f44.ntmps) Tryz.f44 (ct_b B (boolv true)) = ( Enter 9 (inv_b B ([VV.c (C.ptr 0 0 0), VV.any, VV.any, i64 (0 : Int)] ++ anys (Tryz.f44.ntmps - 4))) (fun (x : Unit) => True) ([VV.one (V1.c (C.ptr 0 0 0)), VV.any, boolv false, i64 (0 : Int)] ++ anys
 51) (bookH B) ∧ ∀ (z : Unit), True → Enter 9 (inv_b B ([VV.c (C.ptr 0 0 0), VV.any, VV.any, VV.any, i64 (0 : Int)] ++ anys (Tryz.f44.ntmps - 5))) (fun (x : Unit) => True) ([VV.one (V1.c (C.ptr 0 0 0)),
 VV.any, VV.any, i64 (0 : Int), i64 (0 : Int), i64 (0 : Int), VV.one (V1.c (C.ptr 0 0 0)), VV.one (V1.c (C.ptr 0 0 0)), VV.one (V1.c (C.ptr 0 0 76)), VV.one (V1.c C.nils), i64 (0 : Int), boolv false] ++
 anys 43) (bookH B) ∧ ∀ (z : Unit), True → EndsAs 9 (ct_b B (boolv true)) (boolv true) (bookH B)) := by kernel_rfl
theorem vc_mRules (B : BS) : evFn tab0 ann0 Tryz.f101 (ct_b B (.tup [])) = ( EndsAs 9 (ct_b B (VV.tup [])) (VV.tup []) (bookH B)) := by kernel_rfl
theorem vc_gRules (B : BS) : evFn tab0 (ann1 (inv_b B ([.c (.ptr 0 0 0), .any, i64 0] ++ anys (Tryz.f117.ntmps - 3)))) Tryz.f117 (ct_b B (.tup [])) = ( Enter 9 (inv_b B ([VV.c (C.ptr 0 0 0), VV.any, i64 (0 : Int)] ++ anys (Tryz.f117.ntmps - 3))) (fun (x : Unit) => True) ([VV.one (V1.c (C.ptr 0 0 0)), VV.any, i64 (0 : Int)] ++ anys 67) (bookH B) ∧ ∀ (z
 : Unit), True → EndsAs 9 (ct_b B (VV.tup [])) (VV.tup []) (bookH B)) := by kernel_rfl
theorem vc_hRules (B : BS) : evFn tab0 (ann_h B Tryz.f45.ntmps) Tryz.f45 (ct_b B (boolv true)) = ( Enter 9 (inv_b B ([VV.c (C.ptr 0 0 0), VV.any, VV.any, i64 (0 : Int)] ++ anys (Tryz.f45.ntmps - 4))) (fun (x : Unit) => True) ([VV.one (V1.c (C.ptr 0 0 0)), VV.any, boolv false, i64 (0 : Int)] ++ anys
 51) (bookH B) ∧ ∀ (z : Unit), True → Enter 9 (inv_b B ([VV.c (C.ptr 0 0 0), VV.any, VV.any, VV.any, i64 (0 : Int)] ++ anys (Tryz.f45.ntmps - 5))) (fun (x : Unit) => True) ([VV.one (V1.c (C.ptr 0 0 0)),
 VV.any, VV.any, i64 (0 : Int), i64 (0 : Int), i64 (0 : Int), VV.one (V1.c (C.ptr 0 0 0)), VV.one (V1.c (C.ptr 0 0 0)), VV.one (V1.c (C.ptr 0 0 85)), VV.one (V1.c C.nils), i64 (0 : Int), boolv false] ++
 anys 43) (bookH B) ∧ ∀ (z : Unit), True → EndsAs 9 (ct_b B (boolv true)) (boolv true) (bookH B)) := by kernel_rfl
theorem vc_mFaults (B : BS) : evFn tab0 ann0 Tryz.f102 (ct_b B (.tup [])) = ( EndsAs 9 (ct_b B (VV.tup [])) (VV.tup []) (bookH B)) := by kernel_rfl
theorem vc_gFaults (B : BS) : evFn tab0 (ann1 (inv_b B ([.c (.ptr 0 0 0), .any, i64 0] ++ anys (Tryz.f118.ntmps - 3)))) Tryz.f118 (ct_b B (.tup [])) = ( Enter 9 (inv_b B ([VV.c (C.ptr 0 0 0), VV.any, i64 (0 : Int)] ++ anys (Tryz.f118.ntmps - 3))) (fun (x : Unit) => True) ([VV.one (V1.c (C.ptr 0 0 0)), VV.any, i64 (0 : Int)] ++ anys 67) (bookH B) ∧ ∀ (z
 : Unit), True → EndsAs 9 (ct_b B (VV.tup [])) (VV.tup []) (bookH B)) := by kernel_rfl
theorem vc_hFaults (B : BS) : evFn tab0 (ann_h B Tryz.f46.ntmps) Tryz.f46 (ct_b B (boolv true)) = ( Enter 9 (inv_b B ([VV.c (C.ptr 0 0 0), VV.any, VV.any, i64 (0 : Int)] ++ anys (Tryz.f46.ntmps - 4))) (fun (x : Unit) => True) ([VV.one (V1.c (C.ptr 0 0 0)), VV.any, boolv false, i64 (0 : Int)] ++ anys
 51) (bookH B) ∧ ∀ (z : Unit), True → Enter 9 (inv_b B ([VV.c (C.ptr 0 0 0), VV.any, VV.any, VV.any, i64 (0 : Int)] ++ anys (Tryz.f46.ntmps - 5))) (fun (x : Unit) => True) ([VV.one (V1.c (C.ptr 0 0 0)),
 VV.any, VV.any, i64 (0 : Int), i64 (0 : Int), i64 (0 : Int), VV.one (V1.c (C.ptr 0 0 0)), VV.one (V1.c (C.ptr 0 0 0)), VV.one (V1.c (C.ptr 0 0 94)), VV.one (V1.c C.nils), i64 (0 : Int), boolv false] ++
 anys 43) (bookH B) ∧ ∀ (z : Unit), True → EndsAs 9 (ct_b B (boolv true)) (boolv true) (bookH B)) := by kernel_rfl
theorem vc_mChunks (B : BS) : evFn tab0 ann0 Tryz.f103 (ct_b B (.tup [])) = ( EndsAs 9 (ct_b B (VV.tup [])) (VV.tup []) (bookH B)) := by kernel_rfl
theorem vc_gChunks (B : BS) : evFn tab0 (ann1 (inv_b B ([.c (.ptr 0 0 0), .any, i64 0] ++ anys (Tryz.f119.ntmps - 3)))) Tryz.f119 (ct_b B (.tup [])) = ( Enter 9 (inv_b B ([VV.c (C.ptr 0 0 0), VV.any, i64 (0 : Int)] ++ anys (Tryz.f119.ntmps - 3))) (fun (x : Unit) => True) ([VV.one (V1.c (C.ptr 0 0 0)), VV.any, i64 (0 : Int)] ++ anys 68) (bookH B) ∧ ∀ (z
 : Unit), True → EndsAs 9 (ct_b B (VV.tup [])) (VV.tup []) (bookH B)) := by kernel_rfl
theorem vc_hChunks (B : BS) : evFn tab0 (ann_h B Tryz.f47.ntmps) Tryz.f47 (ct_b B (boolv true)) = ( Enter 9 (inv_b B ([VV.c (C.ptr 0 0 0), VV.any, VV.any, i64 (0 : Int)] ++ anys (Tryz.f47.ntmps - 4))) (fun (x : Unit) => True) ([VV.one (V1.c (C.ptr 0 0 0)), VV.any, boolv false, i64 (0 : Int)] ++ anys
 51) (bookH B) ∧ ∀ (z : Unit), True → Enter 9 (inv_b B ([VV.c (C.ptr 0 0 0), VV.any, VV.any, VV.any, i64 (0 : Int)] ++ anys (Tryz.f47.ntmps - 5))) (fun (x : Unit) => True) ([VV.one (V1.c (C.ptr 0 0 0)),
 VV.any, VV.any, i64 (0 : Int), i64 (0 : Int), i64 (0 : Int), VV.one (V1.c (C.ptr 0 0 0)), VV.one (V1.c (C.ptr 0 0 0)), VV.one (V1.c (C.ptr 0 0 103)), VV.one (V1.c C.nils), i64 (0 : Int), boolv false] ++
 anys 43) (bookH B) ∧ ∀ (z : Unit), True → EndsAs 9 (ct_b B (boolv true)) (boolv true) (bookH B)) := by kernel_rfl
theorem vc_mThings (B : BS) : evFn tab0 ann0 Tryz.f104 (ct_b B (.tup [])) = ( EndsAs 9 (ct_b B (VV.tup [])) (VV.tup []) (bookH B)) := by kernel_rfl
theorem vc_gThings (B : BS) : evFn tab0 (ann1 (inv_b B ([.c (.ptr 0 0 0), .any, i64 0] ++ anys (Tryz.f120.ntmps - 3)))) Tryz.f120 (ct_b B (.tup [])) = ( Enter 9 (inv_b B ([VV.c (C.ptr 0 0 0), VV.any, i64 (0 : Int)] ++ anys (Tryz.f120.ntmps - 3))) (fun (x : Unit) => True) ([VV.one (V1.c (C.ptr 0 0 0)), VV.any, i64 (0 : Int)] ++ anys 67) (bookH B) ∧ ∀ (z
 : Unit), True → EndsAs 9 (ct_b B (VV.tup [])) (VV.tup []) (bookH B)) := by kernel_rfl
theorem vc_hThings (B : BS) : evFn tab0 (ann_h B Tryz.f48.ntmps) Tryz.f48 (ct_b B (boolv true)) = ( Enter 9 (inv_b B ([VV.c (C.ptr 0 0 0), VV.any, VV.any, i64 (0 : Int)] ++ anys (Tryz.f48.ntmps - 4))) (fun (x : Unit) => True) ([VV.one (V1.c (C.ptr 0 0 0)), VV.any, boolv false, i64 (0 : Int)] ++ anys
 51) (bookH B) ∧ ∀ (z : Unit), True → Enter 9 (inv_b B ([VV.c (C.ptr 0 0 0), VV.any, VV.any, VV.any, i64 (0 : Int)] ++ anys (Tryz.f48.ntmps - 5))) (fun (x : Unit) => True) ([VV.one (V1.c (C.ptr 0 0 0)),
 VV.any, VV.any, i64 (0 : Int), i64 (0 : Int), i64 (0 : Int), VV.one (V1.c (C.ptr 0 0 0)), VV.one (V1.c (C.ptr 0 0 0)), VV.one (V1.c (C.ptr 0 0 112)), VV.one (V1.c C.nils), i64 (0 : Int), boolv false] ++
 anys 43) (bookH B) ∧ ∀ (z : Unit), True → EndsAs 9 (ct_b B (boolv true)) (boolv true) (bookH B)) := by kernel_rfl
theorem vc_mDones (B : BS) : evFn tab0 ann0 Tryz.f105 (ct_b B (.tup [])) = ( EndsAs 9 (ct_b B (VV.tup [])) (VV.tup []) (bookH B)) := by kernel_rfl
theorem vc_gDones (B : BS) : evFn tab0 (ann1 (inv_b B ([.c (.ptr 0 0 0), .any, i64 0] ++ anys (Tryz.f121.ntmps - 3)))) Tryz.f121 (ct_b B (.tup [])) = ( Enter 9 (inv_b B ([VV.c (C.ptr 0 0 0), VV.any, i64 (0 : Int)] ++ anys (Tryz.f121.ntmps - 3))) (fun (x : Unit) => True) ([VV.one (V1.c (C.ptr 0 0 0)), VV.any, i64 (0 : Int)] ++ anys 67) (bookH B) ∧ ∀ (z
 : Unit), True → EndsAs 9 (ct_b B (VV.tup [])) (VV.tup []) (bookH B)) := by kernel_rfl
theorem vc_hDones (B : BS) : evFn tab0 (ann_h B Tryz.f49.ntmps) Tryz.f49 (ct_b B (boolv true)) = ( Enter 9 (inv_b B ([VV.c (C.ptr 0 0 0), VV.any, VV.any, i64 (0 : Int)] ++ anys (Tryz.f49.ntmps - 4))) (fun (x : Unit) => True) ([VV.one (V1.c (C.ptr 0 0 0)), VV.any, boolv false, i64 (0 : Int)] ++ anys
 51) (bookH B) ∧ ∀ (z : Unit), True → Enter 9 (inv_b B ([VV.c (C.ptr 0 0 0), VV.any, VV.any, VV.any, i64 (0 : Int)] ++ anys (Tryz.f49.ntmps - 5))) (fun (x : Unit) => True) ([VV.one (V1.c (C.ptr 0 0 0)),
 VV.any, VV.any, i64 (0 : Int), i64 (0 : Int), i64 (0 : Int), VV.one (V1.c (C.ptr 0 0 0)), VV.one (V1.c (C.ptr 0 0 0)), VV.one (V1.c (C.ptr 0 0 121)), VV.one (V1.c C.nils), i64 (0 : Int), boolv false] ++
 anys 43) (bookH B) ∧ ∀ (z : Unit), True → EndsAs 9 (ct_b B (boolv true)) (boolv true) (bookH B)) := by kernel_rfl
theorem vc_mNodes (B : BS) : evFn tab0 ann0 Tryz.f106 (ct_b B (.tup [])) = ( EndsAs 9 (ct_b B (VV.tup [])) (VV.tup []) (bookH B)) := by kernel_rfl
theorem vc_gNodes (B : BS) : evFn tab0 (ann1 (inv_b B ([.c (.ptr 0 0 0), .any, i64 0] ++ anys (Tryz.f122.ntmps - 3)))) Tryz.f122 (ct_b B (.tup [])) = ( Enter 9 (inv_b B ([VV.c (C.ptr 0 0 0), VV.any, i64 (0 : Int)] ++ anys (Tryz.f122.ntmps - 3))) (fun (x : Unit) => True) ([VV.one (V1.c (C.ptr 0 0 0)), VV.any, i64 (0 : Int)] ++ anys 68) (bookH B) ∧ ∀ (z
 : Unit), True → EndsAs 9 (ct_b B (VV.tup [])) (VV.tup []) (bookH B)) := by kernel_rfl
theorem vc_hNodes (B : BS) : evFn tab0 (ann_h B Tryz.f50.ntmps) Tryz.f50 (ct_b B (boolv true)) = ( Enter 9 (inv_b B ([VV.c (C.ptr 0 0 0), VV.any, VV.any, i64 (0 : Int)] ++ anys (Tryz.f50.ntmps - 4))) (fun (x : Unit) => True) ([VV.one (V1.c (C.ptr 0 0 0)), VV.any, boolv false, i64 (0 : Int)] ++ anys
 51) (bookH B) ∧ ∀ (z : Unit), True → Enter 9 (inv_b B ([VV.c (C.ptr 0 0 0), VV.any, VV.any, VV.any, i64 (0 : Int)] ++ anys (Tryz.f50.ntmps - 5))) (fun (x : Unit) => True) ([VV.one (V1.c (C.ptr 0 0 0)),
 VV.any, VV.any, i64 (0 : Int), i64 (0 : Int), i64 (0 : Int), VV.one (V1.c (C.ptr 0 0 0)), VV.one (V1.c (C.ptr 0 0 0)), VV.one (V1.c (C.ptr 0 0 130)), VV.one (V1.c C.nils), i64 (0 : Int), boolv false] ++
 anys 43) (bookH B) ∧ ∀ (z : Unit), True → EndsAs 9 (ct_b B (boolv true)) (boolv true) (bookH B)) := by kernel_rfl
theorem vc_mSteps (B : BS) : evFn tab0 ann0 Tryz.f107 (ct_b B (.tup [])) = ( EndsAs 9 (ct_b B (VV.tup [])) (VV.tup []) (bookH B)) := by kernel_rfl
theorem vc_gSteps (B : BS) : evFn tab0 (ann1 (inv_b B ([.c (.ptr 0 0 0), .any, i64 0] ++ anys (Tryz.f123.ntmps - 3)))) Tryz.f123 (ct_b B (.tup [])) = ( Enter 9 (inv_b B ([VV.c (C.ptr 0 0 0), VV.any, i64 (0 : Int)] ++ anys (Tryz.f123.ntmps - 3))) (fun (x : Unit) => True) ([VV.one (V1.c (C.ptr 0 0 0)), VV.any, i64 (0 : Int)] ++ anys 67) (bookH B) ∧ ∀ (z
 : Unit), True → EndsAs 9 (ct_b B (VV.tup [])) (VV.tup []) (bookH B)) := by kernel_rfl
theorem vc_hSteps (B : BS) : evFn tab0 (ann_h B Tryz.f51.ntmps) Tryz.f51 (ct_b B (boolv true)) = ( Enter 9 (inv_b B ([VV.c (C.ptr 0 0 0), VV.any, VV.any, i64 (0 : Int)] ++ anys (Tryz.f51.ntmps - 4))) (fun (x : Unit) => True) ([VV.one (V1.c (C.ptr 0 0 0)), VV.any, boolv false, i64 (0 : Int)] ++ anys
 51) (bookH B) ∧ ∀ (z : Unit), True → Enter 9 (inv_b B ([VV.c (C.ptr 0 0 0), VV.any, VV.any, VV.any, i64 (0 : Int)] ++ anys (Tryz.f51.ntmps - 5))) (fun (x : Unit) => True) ([VV.one (V1.c (C.ptr 0 0 0)),
 VV.any, VV.any, i64 (0 : Int), i64 (0 : Int), i64 (0 : Int), VV.one (V1.c (C.ptr 0 0 0)), VV.one (V1.c (C.ptr 0 0 0)), VV.one (V1.c (C.ptr 0 0 139)), VV.one (V1.c C.nils), i64 (0 : Int), boolv false] ++
 anys 43) (bookH B) ∧ ∀ (z : Unit), True → EndsAs 9 (ct_b B (boolv true)) (boolv true) (bookH B)) := by kernel_rfl
theorem mInts_ok (B : BS) : CtOk Tryz.prog 93 (ct_b B (.tup [])) := CtOk_of KK_ok tab0 ann0 (fn := Tryz.f93) rfl (fun _ _ => rfl) fun hn => by
  rw [vc_mInts]
  exact ⟨(), [], bookN, trivial, by (repeat' first | exact trivial | exact rfl | apply And.intro)⟩
theorem gInts_ok (B : BS) : CtOk Tryz.prog 109 (ct_b B (.tup [])) := CtOk_of KK_ok tab0 (ann1 (inv_b B ([.c (.ptr 0 0 0), .any, i64 0] ++ anys (Tryz.f109.ntmps - 3)))) (fn := Tryz.f109) rfl (fun _ _ => rfl) fun hn => by
  rw [vc_gInts]
  exact ⟨⟨(), [], bookN, trivial, trivial, into_mk (by kernel_rfl) (by (repeat' first | exact trivial | exact rfl | apply And.intro)) (by (repeat' first | exact trivial | exact rfl | apply And.intro))⟩, fun _ _ => ⟨(), [], bookN, trivial, by (repeat' first | exact trivial | exact rfl | apply And.intro)⟩⟩
theorem hInts_ok (B : BS) : CtOk Tryz.prog 37 (ct_b B (boolv true)) := CtOk_of KK_ok tab0 (ann_h B Tryz.f37.ntmps) (fn := Tryz.f37) rfl (fun _ _ => rfl) fun hn => by
  rw [vc_hInts]
  exact ⟨⟨(), [], bookN, trivial, trivial, into_mk (by kernel_rfl) (by (repeat' first | exact trivial | exact rfl | apply And.intro)) (by (repeat' first | exact trivial | exact rfl | apply And.intro))⟩, fun _ _ => ⟨⟨(), [], bookN, trivial, trivial, into_mk (by kernel_rfl) (by (repeat' first | exact trivial | exact rfl | apply And.intro)) (by (repeat' first | exact trivial | exact rfl | apply And.intro))⟩, fun _ _ => ⟨(), [], bookN, trivial, by (repeat' first | exact trivial | exact rfl | apply And.intro)⟩⟩⟩
theorem mTexts_ok (B : BS) : CtOk Tryz.prog 94 (ct_b B (.tup [])) := CtOk_of KK_ok tab0 ann0 (fn := Tryz.f94) rfl (fun _ _ => rfl) fun hn => by
  rw [vc_mTexts]
  exact ⟨(), [], bookN, trivial, by (repeat' first | exact trivial | exact rfl | apply And.intro)⟩
theorem gTexts_ok (B : BS) : CtOk Tryz.prog 110 (ct_b B (.tup [])) := CtOk_of KK_ok tab0 (ann1 (inv_b B ([.c (.ptr 0 0 0), .any, i64 0] ++ anys (Tryz.f110.ntmps - 3)))) (fn := Tryz.f110) rfl (fun _ _ => rfl) fun hn => by
  rw [vc_gTexts]
  exact ⟨⟨(), [], bookN, trivial, trivial, into_mk (by kernel_rfl) (by (repeat' first | exact trivial | exact rfl | apply And.intro)) (by (repeat' first | exact trivial | exact rfl | apply And.intro))⟩, fun _ _ => ⟨(), [], bookN, trivial, by (repeat' first | exact trivial | exact rfl | apply And.intro)⟩⟩
theorem hTexts_ok (B : BS) : CtOk Tryz.prog 38 (ct_b B (boolv true)) := CtOk_of KK_ok tab0 (ann_h B Tryz.f38.ntmps) (fn := Tryz.f38) rfl (fun _ _ => rfl) fun hn => by
  rw [vc_hTexts]
  exact ⟨⟨(), [], bookN, trivial, trivial, into_mk (by kernel_rfl) (by (repeat' first | exact trivial | exact rfl | apply And.intro)) (by (repeat' first | exact trivial | exact rfl | apply And.intro))⟩, fun _ _ => ⟨⟨(), [], bookN, trivial, trivial, into_mk (by kernel_rfl) (by (repeat' first | exact trivial | exact rfl | apply And.intro)) (by (repeat' first | exact trivial | exact rfl | apply And.intro))⟩, fun _ _ => ⟨(), [], bookN, trivial, by (repeat' first | exact trivial | exact rfl | apply And.intro)⟩⟩⟩
theorem mLosts_ok (B : BS) : CtOk Tryz.prog 95 (ct_b B (.tup [])) := CtOk_of KK_ok tab0 ann0 (fn := Tryz.f95) rfl (fun _ _ => rfl) fun hn => by
  rw [vc_mLosts]
  exact ⟨(), [], bookN, trivial, by (repeat' first | exact trivial | exact rfl | apply And.intro)⟩
theorem gLosts_ok (B : BS) : CtOk Tryz.prog 111 (ct_b B (.tup [])) := CtOk_of KK_ok tab0 (ann1 (inv_b B ([.c (.ptr 0 0 0), .any, i64 0] ++ anys (Tryz.f111.ntmps - 3)))) (fn := Tryz.f111) rfl (fun _ _ => rfl) fun hn => by
  rw [vc_gLosts]
  exact ⟨⟨(), [], bookN, trivial, trivial, into_mk (by kernel_rfl) (by (repeat' first | exact trivial | exact rfl | apply And.intro)) (by (repeat' first | exact trivial | exact rfl | apply And.intro))⟩, fun _ _ => ⟨(), [], bookN, trivial, by (repeat' first | exact trivial | exact rfl | apply And.intro)⟩⟩
theorem hLosts_ok (B : BS) : CtOk Tryz.prog 39 (ct_b B (boolv true)) := CtOk_of KK_ok tab0 (ann_h B Tryz.f39.ntmps) (fn := Tryz.f39) rfl (fun _ _ => rfl) fun hn => by
  rw [vc_hLosts]
  exact ⟨⟨(), [], bookN, trivial, trivial, into_mk (by kernel_rfl) (by (repeat' first | exact trivial | exact rfl | apply And.intro)) (by (repeat' first | exact trivial | exact rfl | apply And.intro))⟩, fun _ _ => ⟨⟨(), [], bookN, trivial, trivial, into_mk (by kernel_rfl) (by (repeat' first | exact trivial | exact rfl | apply And.intro)) (by (repeat' first | exact trivial | exact rfl | apply And.intro))⟩, fun _ _ => ⟨(), [], bookN, trivial, by (repeat' first | exact trivial | exact rfl | apply And.intro)⟩⟩⟩
theorem mChanges_ok (B : BS) : CtOk Tryz.prog 96 (ct_b B (.tup [])) := CtOk_of KK_ok tab0 ann0 (fn := Tryz.f96) rfl (fun _ _ => rfl) fun hn => by
  rw [vc_mChanges]
  exact ⟨(), [], bookN, trivial, by (repeat' first | exact trivial | exact rfl | apply And.intro)⟩
theorem gChanges_ok (B : BS) : CtOk Tryz.prog 112 (ct_b B (.tup [])) := CtOk_of KK_ok tab0 (ann1 (inv_b B ([.c (.ptr 0 0 0), .any, i64 0] ++ anys (Tryz.f112.ntmps - 3)))) (fn := Tryz.f112) rfl (fun _ _ => rfl) fun hn => by
  rw [vc_gChanges]
  exact ⟨⟨(), [], bookN, trivial, trivial, into_mk (by kernel_rfl) (by (repeat' first | exact trivial | exact rfl | apply And.intro)) (by (repeat' first | exact trivial | exact rfl | apply And.intro))⟩, fun _ _ => ⟨(), [], bookN, trivial, by (repeat' first | exact trivial | exact rfl | apply And.intro)⟩⟩
theorem hChanges_ok (B : BS) : CtOk Tryz.prog 40 (ct_b B (boolv true)) := CtOk_of KK_ok tab0 (ann_h B Tryz.f40.ntmps) (fn := Tryz.f40) rfl (fun _ _ => rfl) fun hn => by
  rw [vc_hChanges]
  exact ⟨⟨(), [], bookN, trivial, trivial, into_mk (by kernel_rfl) (by (repeat' first | exact trivial | exact rfl | apply And.intro)) (by (repeat' first | exact trivial | exact rfl | apply And.intro))⟩, fun _ _ => ⟨⟨(), [], bookN, trivial, trivial, into_mk (by kernel_rfl) (by (repeat' first | exact trivial | exact rfl | apply And.intro)) (by (repeat' first | exact trivial | exact rfl | apply And.intro))⟩, fun _ _ => ⟨(), [], bookN, trivial, by (repeat' first | exact trivial | exact rfl | apply And.intro)⟩⟩⟩
theorem mCells_ok (B : BS) : CtOk Tryz.prog 97 (ct_b B (.tup [])) := CtOk_of KK_ok tab0 ann0 (fn := Tryz.f97) rfl (fun _ _ => rfl) fun hn => by
  rw [vc_mCells]
  exact ⟨(), [], bookN, trivial, by (repeat' first | exact trivial | exact rfl | apply And.intro)⟩
theorem gCells_ok (B : BS) : CtOk Tryz.prog 113 (ct_b B (.tup [])) := CtOk_of KK_ok tab0 (ann1 (inv_b B ([.c (.ptr 0 0 0), .any, i64 0] ++ anys (Tryz.f113.ntmps - 3)))) (fn := Tryz.f113) rfl (fun _ _ => rfl) fun hn => by
  rw [vc_gCells]
  exact ⟨⟨(), [], bookN, trivial, trivial, into_mk (by kernel_rfl) (by (repeat' first | exact trivial | exact rfl | apply And.intro)) (by (repeat' first | exact trivial | exact rfl | apply And.intro))⟩, fun _ _ => ⟨(), [], bookN, trivial, by (repeat' first | exact trivial | exact rfl | apply And.intro)⟩⟩
theorem hCells_ok (B : BS) : CtOk Tryz.prog 41 (ct_b B (boolv true)) := CtOk_of KK_ok tab0 (ann_h B Tryz.f41.ntmps) (fn := Tryz.f41) rfl (fun _ _ => rfl) fun hn => by
  rw [vc_hCells]
  exact ⟨⟨(), [], bookN, trivial, trivial, into_mk (by kernel_rfl) (by (repeat' first | exact trivial | exact rfl | apply And.intro)) (by (repeat' first | exact trivial | exact rfl | apply And.intro))⟩, fun _ _ => ⟨⟨(), [], bookN, trivial, trivial, into_mk (by kernel_rfl) (by (repeat' first | exact trivial | exact rfl | apply And.intro)) (by (repeat' first | exact trivial | exact rfl | apply And.intro))⟩, fun _ _ => ⟨(), [], bookN, trivial, by (repeat' first | exact trivial | exact rfl | apply And.intro)⟩⟩⟩
theorem mItems_ok (B : BS) : CtOk Tryz.prog 98 (ct_b B (.tup [])) := CtOk_of KK_ok tab0 ann0 (fn := Tryz.f98) rfl (fun _ _ => rfl) fun hn => by
  rw [vc_mItems]
  exact ⟨(), [], bookN, trivial, by (repeat' first | exact trivial | exact rfl | apply And.intro)⟩
theorem gItems_ok (B : BS) : CtOk Tryz.prog 114 (ct_b B (.tup [])) := CtOk_of KK_ok tab0 (ann1 (inv_b B ([.c (.ptr 0 0 0), .any, i64 0] ++ anys (Tryz.f114.ntmps - 3)))) (fn := Tryz.f114) rfl (fun _ _ => rfl) fun hn => by
  rw [vc_gItems]
  exact ⟨⟨(), [], bookN, trivial, trivial, into_mk (by kernel_rfl) (by (repeat' first | exact trivial | exact rfl | apply And.intro)) (by (repeat' first | exact trivial | exact rfl | apply And.intro))⟩, fun _ _ => ⟨(), [], bookN, trivial, by (repeat' first | exact trivial | exact rfl | apply And.intro)⟩⟩
theorem hItems_ok (B : BS) : CtOk Tryz.prog 42 (ct_b B (boolv true)) := CtOk_of KK_ok tab0 (ann_h B Tryz.f42.ntmps) (fn := Tryz.f42) rfl (fun _ _ => rfl) fun hn => by
  rw [vc_hItems]
  exact ⟨⟨(), [], bookN, trivial, trivial, into_mk (by kernel_rfl) (by (repeat' first | exact trivial | exact rfl | apply And.intro)) (by (repeat' first | exact trivial | exact rfl | apply And.intro))⟩, fun _ _ => ⟨⟨(), [], bookN, trivial, trivial, into_mk (by kernel_rfl) (by (repeat' first | exact trivial | exact rfl | apply And.intro)) (by (repeat' first | exact trivial | exact rfl | apply And.intro))⟩, fun _ _ => ⟨(), [], bookN, trivial, by (repeat' first | exact trivial | exact rfl | apply And.intro)⟩⟩⟩
theorem mEntries_ok (B : BS) : CtOk Tryz.prog 99 (ct_b B (.tup [])) := CtOk_of KK_ok tab0 ann0 (fn := Tryz.f99) rfl (fun _ _ => rfl) fun hn => by
  rw [vc_mEntries]
  exact ⟨(), [], bookN, trivial, by (repeat' first | exact trivial | exact rfl | apply And.intro)⟩
theorem gEntries_ok (B : BS) : CtOk Tryz.prog 115 (ct_b B (.tup [])) := CtOk_of KK_ok tab0 (ann1 (inv_b B ([.c (.ptr 0 0 0), .any, i64 0] ++ anys (Tryz.f115.ntmps - 3)))) (fn := Tryz.f115) rfl (fun _ _ => rfl) fun hn => by
  rw [vc_gEntries]
  exact ⟨⟨(), [], bookN, trivial, trivial, into_mk (by kernel_rfl) (by (repeat' first | exact trivial | exact rfl | apply And.intro)) (by (repeat' first | exact trivial | exact rfl | apply And.intro))⟩, fun _ _ => ⟨(), [], bookN, trivial, by (repeat' first | exact trivial | exact rfl | apply And.intro)⟩⟩
theorem hEntries_ok (B : BS) : CtOk Tryz.prog 43 (ct_b B (boolv true)) := CtOk_of KK_ok tab0 (ann_h B Tryz.f43.ntmps) (fn := Tryz.f43) rfl (fun _ _ => rfl) fun hn => by
  rw [vc_hEntries]
  exact ⟨⟨(), [], bookN, trivial, trivial, into_mk (by kernel_rfl) (by (repeat' first | exact trivial | exact rfl | apply And.intro)) (by (repeat' first | exact trivial | exact rfl | apply And.intro))⟩, fun _ _ => ⟨⟨(), [], bookN, trivial, trivial, into_mk (by kernel_rfl) (by (repeat' first | exact trivial | exact rfl | apply And.intro)) (by (repeat' first | exact trivial | exact rfl | apply And.intro))⟩, fun _ _ => ⟨(), [], bookN, trivial, by (repeat' first | exact trivial | exact rfl | apply And.intro)⟩⟩⟩
theorem mPlaceds_ok (B : BS) : CtOk Tryz.prog 100 (ct_b B (.tup [])) := CtOk_of KK_ok tab0 ann0 (fn := Tryz.f100) rfl (fun _ _ => rfl) fun hn => by
  rw [vc_mPlaceds]
  exact ⟨(), [], bookN, trivial, by (repeat' first | exact trivial | exact rfl | apply And.intro)⟩
theorem gPlaceds_ok (B : BS) : CtOk Tryz.prog 116 (ct_b B (.tup [])) := CtOk_of KK_ok tab0 (ann1 (inv_b B ([.c (.ptr 0 0 0), .any, i64 0] ++ anys (Tryz.f116.ntmps - 3)))) (fn := Tryz.f116) rfl (fun _ _ => rfl) fun hn => by
  rw [vc_gPlaceds]
  exact ⟨⟨(), [], bookN, trivial, trivial, into_mk (by kernel_rfl) (by (repeat' first | exact trivial | exact rfl | apply And.intro)) (by (repeat' first | exact trivial | exact rfl | apply And.intro))⟩, fun _ _ => ⟨(), [], bookN, trivial, by (repeat' first | exact trivial | exact rfl | apply And.intro)⟩⟩
theorem hPlaceds_ok (B : BS) : CtOk Tryz.prog 44 (ct_b B (boolv true)) := CtOk_of KK_ok tab0 (ann_h B Tryz.f44.ntmps) (fn := Tryz.f44) rfl (fun _ _ => rfl) fun hn => by
  rw [vc_hPlaceds]
  exact ⟨⟨(), [], bookN, trivial, trivial, into_mk (by kernel_rfl) (by (repeat' first | exact trivial | exact rfl | apply And.intro)) (by (repeat' first | exact trivial | exact rfl | apply And.intro))⟩, fun _ _ => ⟨⟨(), [], bookN, trivial, trivial, into_mk (by kernel_rfl) (by (repeat' first | exact trivial | exact rfl | apply And.intro)) (by (repeat' first | exact trivial | exact rfl | apply And.intro))⟩, fun _ _ => ⟨(), [], bookN, trivial, by (repeat' first | exact trivial | exact rfl | apply And.intro)⟩⟩⟩
theorem mRules_ok (B : BS) : CtOk Tryz.prog 101 (ct_b B (.tup [])) := CtOk_of KK_ok tab0 ann0 (fn := Tryz.f101) rfl (fun _ _ => rfl) fun hn => by
  rw [vc_mRules]
  exact ⟨(), [], bookN, trivial, by (repeat' first | exact trivial | exact rfl | apply And.intro)⟩
theorem gRules_ok (B : BS) : CtOk Tryz.prog 117 (ct_b B (.tup [])) := CtOk_of KK_ok tab0 (ann1 (inv_b B ([.c (.ptr 0 0 0), .any, i64 0] ++ anys (Tryz.f117.ntmps - 3)))) (fn := Tryz.f117) rfl (fun _ _ => rfl) fun hn => by
  rw [vc_gRules]
  exact ⟨⟨(), [], bookN, trivial, trivial, into_mk (by kernel_rfl) (by (repeat' first | exact trivial | exact rfl | apply And.intro)) (by (repeat' first | exact trivial | exact rfl | apply And.intro))⟩, fun _ _ => ⟨(), [], bookN, trivial, by (repeat' first | exact trivial | exact rfl | apply And.intro)⟩⟩
theorem hRules_ok (B : BS) : CtOk Tryz.prog 45 (ct_b B (boolv true)) := CtOk_of KK_ok tab0 (ann_h B Tryz.f45.ntmps) (fn := Tryz.f45) rfl (fun _ _ => rfl) fun hn => by
  rw [vc_hRules]
  exact ⟨⟨(), [], bookN, trivial, trivial, into_mk (by kernel_rfl) (by (repeat' first | exact trivial | exact rfl | apply And.intro)) (by (repeat' first | exact trivial | exact rfl | apply And.intro))⟩, fun _ _ => ⟨⟨(), [], bookN, trivial, trivial, into_mk (by kernel_rfl) (by (repeat' first | exact trivial | exact rfl | apply And.intro)) (by (repeat' first | exact trivial | exact rfl | apply And.intro))⟩, fun _ _ => ⟨(), [], bookN, trivial, by (repeat' first | exact trivial | exact rfl | apply And.intro)⟩⟩⟩
theorem mFaults_ok (B : BS) : CtOk Tryz.prog 102 (ct_b B (.tup [])) := CtOk_of KK_ok tab0 ann0 (fn := Tryz.f102) rfl (fun _ _ => rfl) fun hn => by
  rw [vc_mFaults]
  exact ⟨(), [], bookN, trivial, by (repeat' first | exact trivial | exact rfl | apply And.intro)⟩
theorem gFaults_ok (B : BS) : CtOk Tryz.prog 118 (ct_b B (.tup [])) := CtOk_of KK_ok tab0 (ann1 (inv_b B ([.c (.ptr 0 0 0), .any, i64 0] ++ anys (Tryz.f118.ntmps - 3)))) (fn := Tryz.f118) rfl (fun _ _ => rfl) fun hn => by
  rw [vc_gFaults]
  exact ⟨⟨(), [], bookN, trivial, trivial, into_mk (by kernel_rfl) (by (repeat' first | exact trivial | exact rfl | apply And.intro)) (by (repeat' first | exact trivial | exact rfl | apply And.intro))⟩, fun _ _ => ⟨(), [], bookN, trivial, by (repeat' first | exact trivial | exact rfl | apply And.intro)⟩⟩
theorem hFaults_ok (B : BS) : CtOk Tryz.prog 46 (ct_b B (boolv true)) := CtOk_of KK_ok tab0 (ann_h B Tryz.f46.ntmps) (fn := Tryz.f46) rfl (fun _ _ => rfl) fun hn => by
  rw [vc_hFaults]
  exact ⟨⟨(), [], bookN, trivial, trivial, into_mk (by kernel_rfl) (by (repeat' first | exact trivial | exact rfl | apply And.intro)) (by (repeat' first | exact trivial | exact rfl | apply And.intro))⟩, fun _ _ => ⟨⟨(), [], bookN, trivial, trivial, into_mk (by kernel_rfl) (by (repeat' first | exact trivial | exact rfl | apply And.intro)) (by (repeat' first | exact trivial | exact rfl | apply And.intro))⟩, fun _ _ => ⟨(), [], bookN, trivial, by (repeat' first | exact trivial | exact rfl | apply And.intro)⟩⟩⟩
theorem mChunks_ok (B : BS) : CtOk Tryz.prog 103 (ct_b B (.tup [])) := CtOk_of KK_ok tab0 ann0 (fn := Tryz.f103) rfl (fun _ _ => rfl) fun hn => by
  rw [vc_mChunks]
  exact ⟨(), [], bookN, trivial, by (repeat' first | exact trivial | exact rfl | apply And.intro)⟩
theorem gChunks_ok (B : BS) : CtOk Tryz.prog 119 (ct_b B (.tup [])) := CtOk_of KK_ok tab0 (ann1 (inv_b B ([.c (.ptr 0 0 0), .any, i64 0] ++ anys (Tryz.f119.ntmps - 3)))) (fn := Tryz.f119) rfl (fun _ _ => rfl) fun hn => by
  rw [vc_gChunks]
  exact ⟨⟨(), [], bookN, trivial, trivial, into_mk (by kernel_rfl) (by (repeat' first | exact trivial | exact rfl | apply And.intro)) (by (repeat' first | exact trivial | exact rfl | apply And.intro))⟩, fun _ _ => ⟨(), [], bookN, trivial, by (repeat' first | exact trivial | exact rfl | apply And.intro)⟩⟩
theorem hChunks_ok (B : BS) : CtOk Tryz.prog 47 (ct_b B (boolv true)) := CtOk_of KK_ok tab0 (ann_h B Tryz.f47.ntmps) (fn := Tryz.f47) rfl (fun _ _ => rfl) fun hn => by
  rw [vc_hChunks]
  exact ⟨⟨(), [], bookN, trivial, trivial, into_mk (by kernel_rfl) (by (repeat' first | exact trivial | exact rfl | apply And.intro)) (by (repeat' first | exact trivial | exact rfl | apply And.intro))⟩, fun _ _ => ⟨⟨(), [], bookN, trivial, trivial, into_mk (by kernel_rfl) (by (repeat' first | exact trivial | exact rfl | apply And.intro)) (by (repeat' first | exact trivial | exact rfl | apply And.intro))⟩, fun _ _ => ⟨(), [], bookN, trivial, by (repeat' first | exact trivial | exact rfl | apply And.intro)⟩⟩⟩
theorem mThings_ok (B : BS) : CtOk Tryz.prog 104 (ct_b B (.tup [])) := CtOk_of KK_ok tab0 ann0 (fn := Tryz.f104) rfl (fun _ _ => rfl) fun hn => by
  rw [vc_mThings]
  exact ⟨(), [], bookN, trivial, by (repeat' first | exact trivial | exact rfl | apply And.intro)⟩
theorem gThings_ok (B : BS) : CtOk Tryz.prog 120 (ct_b B (.tup [])) := CtOk_of KK_ok tab0 (ann1 (inv_b B ([.c (.ptr 0 0 0), .any, i64 0] ++ anys (Tryz.f120.ntmps - 3)))) (fn := Tryz.f120) rfl (fun _ _ => rfl) fun hn => by
  rw [vc_gThings]
  exact ⟨⟨(), [], bookN, trivial, trivial, into_mk (by kernel_rfl) (by (repeat' first | exact trivial | exact rfl | apply And.intro)) (by (repeat' first | exact trivial | exact rfl | apply And.intro))⟩, fun _ _ => ⟨(), [], bookN, trivial, by (repeat' first | exact trivial | exact rfl | apply And.intro)⟩⟩
theorem hThings_ok (B : BS) : CtOk Tryz.prog 48 (ct_b B (boolv true)) := CtOk_of KK_ok tab0 (ann_h B Tryz.f48.ntmps) (fn := Tryz.f48) rfl (fun _ _ => rfl) fun hn => by
  rw [vc_hThings]
  exact ⟨⟨(), [], bookN, trivial, trivial, into_mk (by kernel_rfl) (by (repeat' first | exact trivial | exact rfl | apply And.intro)) (by (repeat' first | exact trivial | exact rfl | apply And.intro))⟩, fun _ _ => ⟨⟨(), [], bookN, trivial, trivial, into_mk (by kernel_rfl) (by (repeat' first | exact trivial | exact rfl | apply And.intro)) (by (repeat' first | exact trivial | exact rfl | apply And.intro))⟩, fun _ _ => ⟨(), [], bookN, trivial, by (repeat' first | exact trivial | exact rfl | apply And.intro)⟩⟩⟩
theorem mDones_ok (B : BS) : CtOk Tryz.prog 105 (ct_b B (.tup [])) := CtOk_of KK_ok tab0 ann0 (fn := Tryz.f105) rfl (fun _ _ => rfl) fun hn => by
  rw [vc_mDones]
  exact ⟨(), [], bookN, trivial, by (repeat' first | exact trivial | exact rfl | apply And.intro)⟩
theorem gDones_ok (B : BS) : CtOk Tryz.prog 121 (ct_b B (.tup [])) := CtOk_of KK_ok tab0 (ann1 (inv_b B ([.c (.ptr 0 0 0), .any, i64 0] ++ anys (Tryz.f121.ntmps - 3)))) (fn := Tryz.f121) rfl (fun _ _ => rfl) fun hn => by
  rw [vc_gDones]
  exact ⟨⟨(), [], bookN, trivial, trivial, into_mk (by kernel_rfl) (by (repeat' first | exact trivial | exact rfl | apply And.intro)) (by (repeat' first | exact trivial | exact rfl | apply And.intro))⟩, fun _ _ => ⟨(), [], bookN, trivial, by (repeat' first | exact trivial | exact rfl | apply And.intro)⟩⟩
theorem hDones_ok (B : BS) : CtOk Tryz.prog 49 (ct_b B (boolv true)) := CtOk_of KK_ok tab0 (ann_h B Tryz.f49.ntmps) (fn := Tryz.f49) rfl (fun _ _ => rfl) fun hn => by
  rw [vc_hDones]
  exact ⟨⟨(), [], bookN, trivial, trivial, into_mk (by kernel_rfl) (by (repeat' first | exact trivial | exact rfl | apply And.intro)) (by (repeat' first | exact trivial | exact rfl | apply And.intro))⟩, fun _ _ => ⟨⟨(), [], bookN, trivial, trivial, into_mk (by kernel_rfl) (by (repeat' first | exact trivial | exact rfl | apply And.intro)) (by (repeat' first | exact trivial | exact rfl | apply And.intro))⟩, fun _ _ => ⟨(), [], bookN, trivial, by (repeat' first | exact trivial | exact rfl | apply And.intro)⟩⟩⟩
theorem mNodes_ok (B : BS) : CtOk Tryz.prog 106 (ct_b B (.tup [])) := CtOk_of KK_ok tab0 ann0 (fn := Tryz.f106) rfl (fun _ _ => rfl) fun hn => by
  rw [vc_mNodes]
  exact ⟨(), [], bookN, trivial, by (repeat' first | exact trivial | exact rfl | apply And.intro)⟩
theorem gNodes_ok (B : BS) : CtOk Tryz.prog 122 (ct_b B (.tup [])) := CtOk_of KK_ok tab0 (ann1 (inv_b B ([.c (.ptr 0 0 0), .any, i64 0] ++ anys (Tryz.f122.ntmps - 3)))) (fn := Tryz.f122) rfl (fun _ _ => rfl) fun hn => by
  rw [vc_gNodes]
  exact ⟨⟨(), [], bookN, trivial, trivial, into_mk (by kernel_rfl) (by (repeat' first | exact trivial | exact rfl | apply And.intro)) (by (repeat' first | exact trivial | exact rfl | apply And.intro))⟩, fun _ _ => ⟨(), [], bookN, trivial, by (repeat' first | exact trivial | exact rfl | apply And.intro)⟩⟩
theorem hNodes_ok (B : BS) : CtOk Tryz.prog 50 (ct_b B (boolv true)) := CtOk_of KK_ok tab0 (ann_h B Tryz.f50.ntmps) (fn := Tryz.f50) rfl (fun _ _ => rfl) fun hn => by
  rw [vc_hNodes]
  exact ⟨⟨(), [], bookN, trivial, trivial, into_mk (by kernel_rfl) (by (repeat' first | exact trivial | exact rfl | apply And.intro)) (by (repeat' first | exact trivial | exact rfl | apply And.intro))⟩, fun _ _ => ⟨⟨(), [], bookN, trivial, trivial, into_mk (by kernel_rfl) (by (repeat' first | exact trivial | exact rfl | apply And.intro)) (by (repeat' first | exact trivial | exact rfl | apply And.intro))⟩, fun _ _ => ⟨(), [], bookN, trivial, by (repeat' first | exact trivial | exact rfl | apply And.intro)⟩⟩⟩
theorem mSteps_ok (B : BS) : CtOk Tryz.prog 107 (ct_b B (.tup [])) := CtOk_of KK_ok tab0 ann0 (fn := Tryz.f107) rfl (fun _ _ => rfl) fun hn => by
  rw [vc_mSteps]
  exact ⟨(), [], bookN, trivial, by (repeat' first | exact trivial | exact rfl | apply And.intro)⟩
theorem gSteps_ok (B : BS) : CtOk Tryz.prog 123 (ct_b B (.tup [])) := CtOk_of KK_ok tab0 (ann1 (inv_b B ([.c (.ptr 0 0 0), .any, i64 0] ++ anys (Tryz.f123.ntmps - 3)))) (fn := Tryz.f123) rfl (fun _ _ => rfl) fun hn => by
  rw [vc_gSteps]
  exact ⟨⟨(), [], bookN, trivial, trivial, into_mk (by kernel_rfl) (by (repeat' first | exact trivial | exact rfl | apply And.intro)) (by (repeat' first | exact trivial | exact rfl | apply And.intro))⟩, fun _ _ => ⟨(), [], bookN, trivial, by (repeat' first | exact trivial | exact rfl | apply And.intro)⟩⟩
theorem hSteps_ok (B : BS) : CtOk Tryz.prog 51 (ct_b B (boolv true)) := CtOk_of KK_ok tab0 (ann_h B Tryz.f51.ntmps) (fn := Tryz.f51) rfl (fun _ _ => rfl) fun hn => by
  rw [vc_hSteps]
  exact ⟨⟨(), [], bookN, trivial, trivial, into_mk (by kernel_rfl) (by (repeat' first | exact trivial | exact rfl | apply And.intro)) (by (repeat' first | exact trivial | exact rfl | apply And.intro))⟩, fun _ _ => ⟨⟨(), [], bookN, trivial, trivial, into_mk (by kernel_rfl) (by (repeat' first | exact trivial | exact rfl | apply And.intro)) (by (repeat' first | exact trivial | exact rfl | apply And.intro))⟩, fun _ _ => ⟨(), [], bookN, trivial, by (repeat' first | exact trivial | exact rfl | apply And.intro)⟩⟩⟩
end Go.Proofs.YtndlpbheifalhaaGreatDoor.T
