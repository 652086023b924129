/- The book: the lists of the other kinds, of which there are none. -/
import Derived.Test.YtnnpjkpmankeiaaDoorK3
namespace Go.Proofs.YtnnpjkpmankeiaaDoor.T
open Go.Proofs.YtnnpjkpmankeiaaDoor.E
set_option maxRecDepth 100000
set_option linter.unusedVariables false
/-- What a book's cells hold beside the lists of the kinds that it was not told of. -/
structure BS where
  turn : Int
  deep : Int
  o : List RS
  t : List RS
  w : List RS
  n : List RS
  f : List RS
  m : List Int
  d : List Int
  r : List Int
  seen : Int
def noneK : List C := [.nils, .nils, .nils, .nils, .nils, .nils, .nils, .nils, .int .i64 0]
def noK : Nat → List C
  | 0 => []
  | n + 1 => noneK ++ noK n
def bookC (now bad : Bool) (turn deep : Int) (mid : List C) : List C := [.bool now, .bool bad, .int .i64 turn, .int .i64 deep] ++ (noK 2 ++ (mid ++ noK 13))
def midC (B : BS) : List C := [.slc 1 0 B.o.length none, .slc 2 0 B.t.length none, .slc 3 0 B.w.length none, .slc 4 0 B.n.length none, .slc 5 0 B.f.length none, .slc 6 0 B.m.length none, .slc 7 0 B.d.length none, .slc 8 0 B.r.length none, .int .i64 B.seen]
def bookH (B : BS) : VH KK := [.cells 41 (bookC false false B.turn B.deep (midC B)), .arr .rstr B.o, .arr .rstr B.t, .arr .rstr B.w, .arr .rstr B.n, .arr .rstr B.f, .arr .int B.m, .arr .int B.d, .arr .int B.r]
abbrev bookN : List Nat := [0, 1, 2, 3, 4, 5, 6, 7, 8]
def ct_b (B : BS) (v : VV) : Ct KK := { need := True, pre := bookH B, args := [.c (.ptr 0 0 0)], Y := Unit, ok := fun _ => True, ret := fun _ => v, post := fun _ => bookH B }
def inv_b (B : BS) (fr : List VV) : Inv KK := { X := Unit, fr := fun _ => fr, H := fun _ => bookH B, ok := fun _ => True, meas := fun _ => 0 }
def ann_h (B : BS) (n : Nat) : Ann KK := { loop := fun id _ _ => match id with | 2 => some (inv_b B ([.c (.ptr 0 0 0), .any, .any, i64 0] ++ anys (n - 4))) | _ => some (inv_b B ([.c (.ptr 0 0 0), .any, .any, .any, i64 0] ++ anys (n - 5))), cut := fun _ _ _ => none }
theorem vc_mBytes (B : BS) : evFn tab0 ann0 Tryd.f50 (ct_b B (.tup [])) = ( EndsAs 9 (ct_b B (VV.tup [])) (VV.tup []) (bookH B)) := by kernel_rfl
theorem vc_gBytes (B : BS) : evFn tab0 (ann1 (inv_b B ([.c (.ptr 0 0 0), .any, i64 0] ++ anys (Tryd.f66.ntmps - 3)))) Tryd.f66 (ct_b B (.tup [])) = ( Enter 9 (inv_b B ([VV.c (C.ptr 0 0 0), VV.any, i64 (0 : Int)] ++ anys (Tryd.f66.ntmps - 3))) (fun (x : Unit) => True) ([VV.one (V1.c (C.ptr 0 0 0)), VV.any, i64 (0 : Int)] ++ anys 67) (bookH B) ∧ ∀ (z
 : Unit), True → EndsAs 9 (ct_b B (VV.tup [])) (VV.tup []) (bookH B)) := by kernel_rfl
theorem vc_hBytes (B : BS) : evFn tab0 (ann_h B Tryd.f16.ntmps) Tryd.f16 (ct_b B (boolv true)) = ( Enter 9 (inv_b B ([VV.c (C.ptr 0 0 0), VV.any, VV.any, i64 (0 : Int)] ++ anys (Tryd.f16.ntmps - 4))) (fun (x : Unit) => True) ([VV.one (V1.c (C.ptr 0 0 0)), VV.any, boolv false, i64 (0 : Int)] ++ anys
 51) (bookH B) ∧ ∀ (z : Unit), True → Enter 9 (inv_b B ([VV.c (C.ptr 0 0 0), VV.any, VV.any, VV.any, i64 (0 : Int)] ++ anys (Tryd.f16.ntmps - 5))) (fun (x : Unit) => True) ([VV.one (V1.c (C.ptr 0 0 0)),
 VV.any, VV.any, i64 (0 : Int), i64 (0 : Int), i64 (0 : Int), VV.one (V1.c (C.ptr 0 0 0)), VV.one (V1.c (C.ptr 0 0 0)), VV.one (V1.c (C.ptr 0 0 4)), VV.one (V1.c C.nils), i64 (0 : Int), boolv false] ++
 anys 43) (bookH B) ∧ ∀ (z : Unit), True → EndsAs 9 (ct_b B (boolv true)) (boolv true) (bookH B)) := by kernel_rfl
theorem vc_mInts (B : BS) : evFn tab0 ann0 Tryd.f51 (ct_b B (.tup [])) = ( EndsAs 9 (ct_b B (VV.tup [])) (VV.tup []) (bookH B)) := by kernel_rfl
theorem vc_gInts (B : BS) : evFn tab0 (ann1 (inv_b B ([.c (.ptr 0 0 0), .any, i64 0] ++ anys (Tryd.f67.ntmps - 3)))) Tryd.f67 (ct_b B (.tup [])) = ( Enter 9 (inv_b B ([VV.c (C.ptr 0 0 0), VV.any, i64 (0 : Int)] ++ anys (Tryd.f67.ntmps - 3))) (fun (x : Unit) => True) ([VV.one (V1.c (C.ptr 0 0 0)), VV.any, i64 (0 : Int)] ++ anys 66) (bookH B) ∧ ∀ (z
 : Unit), True → EndsAs 9 (ct_b B (VV.tup [])) (VV.tup []) (bookH B)) := by kernel_rfl
theorem vc_hInts (B : BS) : evFn tab0 (ann_h B Tryd.f17.ntmps) Tryd.f17 (ct_b B (boolv true)) = ( Enter 9 (inv_b B ([VV.c (C.ptr 0 0 0), VV.any, VV.any, i64 (0 : Int)] ++ anys (Tryd.f17.ntmps - 4))) (fun (x : Unit) => True) ([VV.one (V1.c (C.ptr 0 0 0)), VV.any, boolv false, i64 (0 : Int)] ++ anys
 51) (bookH B) ∧ ∀ (z : Unit), True → Enter 9 (inv_b B ([VV.c (C.ptr 0 0 0), VV.any, VV.any, VV.any, i64 (0 : Int)] ++ anys (Tryd.f17.ntmps - 5))) (fun (x : Unit) => True) ([VV.one (V1.c (C.ptr 0 0 0)),
 VV.any, VV.any, i64 (0 : Int), i64 (0 : Int), i64 (0 : Int), VV.one (V1.c (C.ptr 0 0 0)), VV.one (V1.c (C.ptr 0 0 0)), VV.one (V1.c (C.ptr 0 0 13)), VV.one (V1.c C.nils), i64 (0 : Int), boolv false] ++
 anys 43) (bookH B) ∧ ∀ (z : Unit), True → EndsAs 9 (ct_b B (boolv true)) (boolv true) (bookH B)) := by kernel_rfl
theorem vc_mLosts (B : BS) : evFn tab0 ann0 Tryd.f53 (ct_b B (.tup [])) = ( EndsAs 9 (ct_b B (VV.tup [])) (VV.tup []) (bookH B)) := by kernel_rfl
theorem vc_gLosts (B : BS) : evFn tab0 (ann1 (inv_b B ([.c (.ptr 0 0 0), .any, i64 0] ++ anys (Tryd.f69.ntmps - 3)))) Tryd.f69 (ct_b B (.tup [])) = ( Enter 9 (inv_b B ([VV.c (C.ptr 0 0 0), VV.any, i64 (0 : Int)] ++ anys (Tryd.f69.ntmps - 3))) (fun (x : Unit) => True) ([VV.one (V1.c (C.ptr 0 0 0)), VV.any, i64 (0 : Int)] ++ anys 68) (bookH B) ∧ ∀ (z
 : Unit), True → EndsAs 9 (ct_b B (VV.tup [])) (VV.tup []) (bookH B)) := by kernel_rfl
theorem vc_hLosts (B : BS) : evFn tab0 (ann_h B Tryd.f19.ntmps) Tryd.f19 (ct_b B (boolv true)) = ( Enter 9 (inv_b B ([VV.c (C.ptr 0 0 0), VV.any, VV.any, i64 (0 : Int)] ++ anys (Tryd.f19.ntmps - 4))) (fun (x : Unit) => True) ([VV.one (V1.c (C.ptr 0 0 0)), VV.any, boolv false, i64 (0 : Int)] ++ anys
 51) (bookH B) ∧ ∀ (z : Unit), True → Enter 9 (inv_b B ([VV.c (C.ptr 0 0 0), VV.any, VV.any, VV.any, i64 (0 : Int)] ++ anys (Tryd.f19.ntmps - 5))) (fun (x : Unit) => True) ([VV.one (V1.c (C.ptr 0 0 0)),
 VV.any, VV.any, i64 (0 : Int), i64 (0 : Int), i64 (0 : Int), VV.one (V1.c (C.ptr 0 0 0)), VV.one (V1.c (C.ptr 0 0 0)), VV.one (V1.c (C.ptr 0 0 31)), VV.one (V1.c C.nils), i64 (0 : Int), boolv false] ++
 anys 43) (bookH B) ∧ ∀ (z : Unit), True → EndsAs 9 (ct_b B (boolv true)) (boolv true) (bookH B)) := by kernel_rfl
theorem vc_mChanges (B : BS) : evFn tab0 ann0 Tryd.f54 (ct_b B (.tup [])) = ( EndsAs 9 (ct_b B (VV.tup [])) (VV.tup []) (bookH B)) := by kernel_rfl
theorem vc_gChanges (B : BS) : evFn tab0 (ann1 (inv_b B ([.c (.ptr 0 0 0), .any, i64 0] ++ anys (Tryd.f70.ntmps - 3)))) Tryd.f70 (ct_b B (.tup [])) = ( Enter 9 (inv_b B ([VV.c (C.ptr 0 0 0), VV.any, i64 (0 : Int)] ++ anys (Tryd.f70.ntmps - 3))) (fun (x : Unit) => True) ([VV.one (V1.c (C.ptr 0 0 0)), VV.any, i64 (0 : Int)] ++ anys 68) (bookH B) ∧ ∀ (z
 : Unit), True → EndsAs 9 (ct_b B (VV.tup [])) (VV.tup []) (bookH B)) := by kernel_rfl
theorem vc_hChanges (B : BS) : evFn tab0 (ann_h B Tryd.f20.ntmps) Tryd.f20 (ct_b B (boolv true)) = ( Enter 9 (inv_b B ([VV.c (C.ptr 0 0 0), VV.any, VV.any, i64 (0 : Int)] ++ anys (Tryd.f20.ntmps - 4))) (fun (x : Unit) => True) ([VV.one (V1.c (C.ptr 0 0 0)), VV.any, boolv false, i64 (0 : Int)] ++ anys
 51) (bookH B) ∧ ∀ (z : Unit), True → Enter 9 (inv_b B ([VV.c (C.ptr 0 0 0), VV.any, VV.any, VV.any, i64 (0 : Int)] ++ anys (Tryd.f20.ntmps - 5))) (fun (x : Unit) => True) ([VV.one (V1.c (C.ptr 0 0 0)),
 VV.any, VV.any, i64 (0 : Int), i64 (0 : Int), i64 (0 : Int), VV.one (V1.c (C.ptr 0 0 0)), VV.one (V1.c (C.ptr 0 0 0)), VV.one (V1.c (C.ptr 0 0 40)), VV.one (V1.c C.nils), i64 (0 : Int), boolv false] ++
 anys 43) (bookH B) ∧ ∀ (z : Unit), True → EndsAs 9 (ct_b B (boolv true)) (boolv true) (bookH B)) := by kernel_rfl
theorem vc_mCells (B : BS) : evFn tab0 ann0 Tryd.f55 (ct_b B (.tup [])) = ( EndsAs 9 (ct_b B (VV.tup [])) (VV.tup []) (bookH B)) := by kernel_rfl
theorem vc_gCells (B : BS) : evFn tab0 (ann1 (inv_b B ([.c (.ptr 0 0 0), .any, i64 0] ++ anys (Tryd.f71.ntmps - 3)))) Tryd.f71 (ct_b B (.tup [])) = ( Enter 9 (inv_b B ([VV.c (C.ptr 0 0 0), VV.any, i64 (0 : Int)] ++ anys (Tryd.f71.ntmps - 3))) (fun (x : Unit) => True) ([VV.one (V1.c (C.ptr 0 0 0)), VV.any, i64 (0 : Int)] ++ anys 67) (bookH B) ∧ ∀ (z
 : Unit), True → EndsAs 9 (ct_b B (VV.tup [])) (VV.tup []) (bookH B)) := by kernel_rfl
theorem vc_hCells (B : BS) : evFn tab0 (ann_h B Tryd.f21.ntmps) Tryd.f21 (ct_b B (boolv true)) = ( Enter 9 (inv_b B ([VV.c (C.ptr 0 0 0), VV.any, VV.any, i64 (0 : Int)] ++ anys (Tryd.f21.ntmps - 4))) (fun (x : Unit) => True) ([VV.one (V1.c (C.ptr 0 0 0)), VV.any, boolv false, i64 (0 : Int)] ++ anys
 51) (bookH B) ∧ ∀ (z : Unit), True → Enter 9 (inv_b B ([VV.c (C.ptr 0 0 0), VV.any, VV.any, VV.any, i64 (0 : Int)] ++ anys (Tryd.f21.ntmps - 5))) (fun (x : Unit) => True) ([VV.one (V1.c (C.ptr 0 0 0)),
 VV.any, VV.any, i64 (0 : Int), i64 (0 : Int), i64 (0 : Int), VV.one (V1.c (C.ptr 0 0 0)), VV.one (V1.c (C.ptr 0 0 0)), VV.one (V1.c (C.ptr 0 0 49)), VV.one (V1.c C.nils), i64 (0 : Int), boolv false] ++
 anys 43) (bookH B) ∧ ∀ (z : Unit), True → EndsAs 9 (ct_b B (boolv true)) (boolv true) (bookH B)) := by kernel_rfl
theorem vc_mItems (B : BS) : evFn tab0 ann0 Tryd.f56 (ct_b B (.tup [])) = ( EndsAs 9 (ct_b B (VV.tup [])) (VV.tup []) (bookH B)) := by kernel_rfl
theorem vc_gItems (B : BS) : evFn tab0 (ann1 (inv_b B ([.c (.ptr 0 0 0), .any, i64 0] ++ anys (Tryd.f72.ntmps - 3)))) Tryd.f72 (ct_b B (.tup [])) = ( Enter 9 (inv_b B ([VV.c (C.ptr 0 0 0), VV.any, i64 (0 : Int)] ++ anys (Tryd.f72.ntmps - 3))) (fun (x : Unit) => True) ([VV.one (V1.c (C.ptr 0 0 0)), VV.any, i64 (0 : Int)] ++ anys 67) (bookH B) ∧ ∀ (z
 : Unit), True → EndsAs 9 (ct_b B (VV.tup [])) (VV.tup []) (bookH B)) := by kernel_rfl
theorem vc_hItems (B : BS) : evFn tab0 (ann_h B Tryd.f22.ntmps) Tryd.f22 (ct_b B (boolv true)) = ( Enter 9 (inv_b B ([VV.c (C.ptr 0 0 0), VV.any, VV.any, i64 (0 : Int)] ++ anys (Tryd.f22.ntmps - 4))) (fun (x : Unit) => True) ([VV.one (V1.c (C.ptr 0 0 0)), VV.any, boolv false, i64 (0 : Int)] ++ anys
 51) (bookH B) ∧ ∀ (z : Unit), True → Enter 9 (inv_b B ([VV.c (C.ptr 0 0 0), VV.any, VV.any, VV.any, i64 (0 : Int)] ++ anys (Tryd.f22.ntmps - 5))) (fun (x : Unit) => True) ([VV.one (V1.c (C.ptr 0 0 0)),
 VV.any, VV.any, i64 (0 : Int), i64 (0 : Int), i64 (0 : Int), VV.one (V1.c (C.ptr 0 0 0)), VV.one (V1.c (C.ptr 0 0 0)), VV.one (V1.c (C.ptr 0 0 58)), VV.one (V1.c C.nils), i64 (0 : Int), boolv false] ++
 anys 43) (bookH B) ∧ ∀ (z : Unit), True → EndsAs 9 (ct_b B (boolv true)) (boolv true) (bookH B)) := by kernel_rfl
theorem vc_mEntries (B : BS) : evFn tab0 ann0 Tryd.f57 (ct_b B (.tup [])) = ( EndsAs 9 (ct_b B (VV.tup [])) (VV.tup []) (bookH B)) := by kernel_rfl
theorem vc_gEntries (B : BS) : evFn tab0 (ann1 (inv_b B ([.c (.ptr 0 0 0), .any, i64 0] ++ anys (Tryd.f73.ntmps - 3)))) Tryd.f73 (ct_b B (.tup [])) = ( Enter 9 (inv_b B ([VV.c (C.ptr 0 0 0), VV.any, i64 (0 : Int)] ++ anys (Tryd.f73.ntmps - 3))) (fun (x : Unit) => True) ([VV.one (V1.c (C.ptr 0 0 0)), VV.any, i64 (0 : Int)] ++ anys 67) (bookH B) ∧ ∀ (z
 : Unit), True → EndsAs 9 (ct_b B (VV.tup [])) (VV.tup []) (bookH B)) := by kernel_rfl
theorem vc_hEntries (B : BS) : evFn tab0 (ann_h B Tryd.f23.ntmps) Tryd.f23 (ct_b B (boolv true)) = ( Enter 9 (inv_b B ([VV.c (C.ptr 0 0 0), VV.any, VV.any, i64 (0 : Int)] ++ anys (Tryd.f23.ntmps - 4))) (fun (x : Unit) => True) ([VV.one (V1.c (C.ptr 0 0 0)), VV.any, boolv false, i64 (0 : Int)] ++ anys
 51) (bookH B) ∧ ∀ (z : Unit), True → Enter 9 (inv_b B ([VV.c (C.ptr 0 0 0), VV.any, VV.any, VV.any, i64 (0 : Int)] ++ anys (Tryd.f23.ntmps - 5))) (fun (x : Unit) => True) ([VV.one (V1.c (C.ptr 0 0 0)),
 VV.any, VV.any, i64 (0 : Int), i64 (0 : Int), i64 (0 : Int), VV.one (V1.c (C.ptr 0 0 0)), VV.one (V1.c (C.ptr 0 0 0)), VV.one (V1.c (C.ptr 0 0 67)), VV.one (V1.c C.nils), i64 (0 : Int), boolv false] ++
 anys 43) (bookH B) ∧ ∀ (z : Unit), True → EndsAs 9 (ct_b B (boolv true)) (boolv true) (bookH B)) := by kernel_rfl
theorem vc_mPlaceds (B : BS) : evFn tab0 ann0 Tryd.f58 (ct_b B (.tup [])) = ( EndsAs 9 (ct_b B (VV.tup [])) (VV.tup []) (bookH B)) := by kernel_rfl
theorem vc_gPlaceds (B : BS) : evFn tab0 (ann1 (inv_b B ([.c (.ptr 0 0 0), .any, i64 0] ++ anys (Tryd.f74.ntmps - 3)))) Tryd.f74 (ct_b B (.tup [])) = ( Enter 9 (inv_b B ([VV.c (C.ptr 0 0 0), VV.any, i64 (0 : Int)] ++ anys (Tryd.f74.ntmps - 3))) (fun (x : Unit) => True) ([VV.one (V1.c (C.ptr 0 0 0)), VV.any, i64 (0 : Int)] ++ anys 67) (bookH B) ∧ ∀ (z
 : Unit), True → EndsAs 9 (ct_b B (VV.tup [])) (VV.tup []) (bookH B)) := by kernel_rfl
theorem vc_hPlaceds (B : BS) : evFn tab0 (ann_h B Tryd.f24.ntmps) Tryd.f24 (ct_b B (boolv true)) = ( Enter 9 (inv_b B ([VV.c (C.ptr 0 0 0), VV.any, VV.any, i64 (0 : Int)] ++ anys (Tryd.f24.ntmps - 4))) (fun (x : Unit) => True) ([VV.one (V1.c (C.ptr 0 0 0)), VV.any, boolv false, i64 (0 : Int)] ++ anys
 51) (bookH B) ∧ ∀ (z : Unit), True → Enter 9 (inv_b B ([VV.c (C.ptr 0 0 0), VV.any, VV.any, VV.any, i64 (0 : Int)] ++ anys (Tryd.f24.ntmps - 5))) (fun (x : Unit) => True) ([VV.one (V1.c (C.ptr 0 0 0)),
 VV.any, VV.any, i64 (0 : Int), i64 (0 : Int), i64 (0 : Int), VV.one (V1.c (C.ptr 0 0 0)), VV.one (V1.c (C.ptr 0 0 0)), VV.one (V1.c (C.ptr 0 0 76)), VV.one (V1.c C.nils), i64 (0 : Int), boolv false] ++
 anys 43) (bookH B) ∧ ∀ (z : Unit), True → EndsAs 9 (ct_b B (boolv true)) (boolv true) (bookH B)) := by kernel_rfl
theorem vc_mRules (B : BS) : evFn tab0 ann0 Tryd.f59 (ct_b B (.tup [])) = ( EndsAs 9 (ct_b B (VV.tup [])) (VV.tup []) (bookH B)) := by kernel_rfl
theorem vc_gRules (B : BS) : evFn tab0 (ann1 (inv_b B ([.c (.ptr 0 0 0), .any, i64 0] ++ anys (Tryd.f75.ntmps - 3)))) Tryd.f75 (ct_b B (.tup [])) = ( Enter 9 (inv_b B ([VV.c (C.ptr 0 0 0), VV.any, i64 (0 : Int)] ++ anys (Tryd.f75.ntmps - 3))) (fun (x : Unit) => True) ([VV.one (V1.c (C.ptr 0 0 0)), VV.any, i64 (0 : Int)] ++ anys 67) (bookH B) ∧ ∀ (z
 : Unit), True → EndsAs 9 (ct_b B (VV.tup [])) (VV.tup []) (bookH B)) := by kernel_rfl
theorem vc_hRules (B : BS) : evFn tab0 (ann_h B Tryd.f25.ntmps) Tryd.f25 (ct_b B (boolv true)) = ( Enter 9 (inv_b B ([VV.c (C.ptr 0 0 0), VV.any, VV.any, i64 (0 : Int)] ++ anys (Tryd.f25.ntmps - 4))) (fun (x : Unit) => True) ([VV.one (V1.c (C.ptr 0 0 0)), VV.any, boolv false, i64 (0 : Int)] ++ anys
 51) (bookH B) ∧ ∀ (z : Unit), True → Enter 9 (inv_b B ([VV.c (C.ptr 0 0 0), VV.any, VV.any, VV.any, i64 (0 : Int)] ++ anys (Tryd.f25.ntmps - 5))) (fun (x : Unit) => True) ([VV.one (V1.c (C.ptr 0 0 0)),
 VV.any, VV.any, i64 (0 : Int), i64 (0 : Int), i64 (0 : Int), VV.one (V1.c (C.ptr 0 0 0)), VV.one (V1.c (C.ptr 0 0 0)), VV.one (V1.c (C.ptr 0 0 85)), VV.one (V1.c C.nils), i64 (0 : Int), boolv false] ++
 anys 43) (bookH B) ∧ ∀ (z : Unit), True → EndsAs 9 (ct_b B (boolv true)) (boolv true) (bookH B)) := by kernel_rfl
theorem vc_mFaults (B : BS) : evFn tab0 ann0 Tryd.f60 (ct_b B (.tup [])) = ( EndsAs 9 (ct_b B (VV.tup [])) (VV.tup []) (bookH B)) := by kernel_rfl
theorem vc_gFaults (B : BS) : evFn tab0 (ann1 (inv_b B ([.c (.ptr 0 0 0), .any, i64 0] ++ anys (Tryd.f76.ntmps - 3)))) Tryd.f76 (ct_b B (.tup [])) = ( Enter 9 (inv_b B ([VV.c (C.ptr 0 0 0), VV.any, i64 (0 : Int)] ++ anys (Tryd.f76.ntmps - 3))) (fun (x : Unit) => True) ([VV.one (V1.c (C.ptr 0 0 0)), VV.any, i64 (0 : Int)] ++ anys 67) (bookH B) ∧ ∀ (z
 : Unit), True → EndsAs 9 (ct_b B (VV.tup [])) (VV.tup []) (bookH B)) := by kernel_rfl
theorem vc_hFaults (B : BS) : evFn tab0 (ann_h B Tryd.f26.ntmps) Tryd.f26 (ct_b B (boolv true)) = ( Enter 9 (inv_b B ([VV.c (C.ptr 0 0 0), VV.any, VV.any, i64 (0 : Int)] ++ anys (Tryd.f26.ntmps - 4))) (fun (x : Unit) => True) ([VV.one (V1.c (C.ptr 0 0 0)), VV.any, boolv false, i64 (0 : Int)] ++ anys
 51) (bookH B) ∧ ∀ (z : Unit), True → Enter 9 (inv_b B ([VV.c (C.ptr 0 0 0), VV.any, VV.any, VV.any, i64 (0 : Int)] ++ anys (Tryd.f26.ntmps - 5))) (fun (x : Unit) => True) ([VV.one (V1.c (C.ptr 0 0 0)),
 VV.any, VV.any, i64 (0 : Int), i64 (0 : Int), i64 (0 : Int), VV.one (V1.c (C.ptr 0 0 0)), VV.one (V1.c (C.ptr 0 0 0)), VV.one (V1.c (C.ptr 0 0 94)), VV.one (V1.c C.nils), i64 (0 : Int), boolv false] ++
 anys 43) (bookH B) ∧ ∀ (z : Unit), True → EndsAs 9 (ct_b B (boolv true)) (boolv true) (bookH B)) := by kernel_rfl
theorem vc_mChunks (B : BS) : evFn tab0 ann0 Tryd.f61 (ct_b B (.tup [])) = ( EndsAs 9 (ct_b B (VV.tup [])) (VV.tup []) (bookH B)) := by kernel_rfl
theorem vc_gChunks (B : BS) : evFn tab0 (ann1 (inv_b B ([.c (.ptr 0 0 0), .any, i64 0] ++ anys (Tryd.f77.ntmps - 3)))) Tryd.f77 (ct_b B (.tup [])) = ( Enter 9 (inv_b B ([VV.c (C.ptr 0 0 0), VV.any, i64 (0 : Int)] ++ anys (Tryd.f77.ntmps - 3))) (fun (x : Unit) => True) ([VV.one (V1.c (C.ptr 0 0 0)), VV.any, i64 (0 : Int)] ++ anys 68) (bookH B) ∧ ∀ (z
 : Unit), True → EndsAs 9 (ct_b B (VV.tup [])) (VV.tup []) (bookH B)) := by kernel_rfl
theorem vc_hChunks (B : BS) : evFn tab0 (ann_h B Tryd.f27.ntmps) Tryd.f27 (ct_b B (boolv true)) = ( Enter 9 (inv_b B ([VV.c (C.ptr 0 0 0), VV.any, VV.any, i64 (0 : Int)] ++ anys (Tryd.f27.ntmps - 4))) (fun (x : Unit) => True) ([VV.one (V1.c (C.ptr 0 0 0)), VV.any, boolv false, i64 (0 : Int)] ++ anys
 51) (bookH B) ∧ ∀ (z : Unit), True → Enter 9 (inv_b B ([VV.c (C.ptr 0 0 0), VV.any, VV.any, VV.any, i64 (0 : Int)] ++ anys (Tryd.f27.ntmps - 5))) (fun (x : Unit) => True) ([VV.one (V1.c (C.ptr 0 0 0)),
 VV.any, VV.any, i64 (0 : Int), i64 (0 : Int), i64 (0 : Int), VV.one (V1.c (C.ptr 0 0 0)), VV.one (V1.c (C.ptr 0 0 0)), VV.one (V1.c (C.ptr 0 0 103)), VV.one (V1.c C.nils), i64 (0 : Int), boolv false] ++
 anys 43) (bookH B) ∧ ∀ (z : Unit), True → EndsAs 9 (ct_b B (boolv true)) (boolv true) (bookH B)) := by kernel_rfl
theorem vc_mThings (B : BS) : evFn tab0 ann0 Tryd.f62 (ct_b B (.tup [])) = ( EndsAs 9 (ct_b B (VV.tup [])) (VV.tup []) (bookH B)) := by kernel_rfl
theorem vc_gThings (B : BS) : evFn tab0 (ann1 (inv_b B ([.c (.ptr 0 0 0), .any, i64 0] ++ anys (Tryd.f78.ntmps - 3)))) Tryd.f78 (ct_b B (.tup [])) = ( Enter 9 (inv_b B ([VV.c (C.ptr 0 0 0), VV.any, i64 (0 : Int)] ++ anys (Tryd.f78.ntmps - 3))) (fun (x : Unit) => True) ([VV.one (V1.c (C.ptr 0 0 0)), VV.any, i64 (0 : Int)] ++ anys 67) (bookH B) ∧ ∀ (z
 : Unit), True → EndsAs 9 (ct_b B (VV.tup [])) (VV.tup []) (bookH B)) := by kernel_rfl
theorem vc_hThings (B : BS) : evFn tab0 (ann_h B Tryd.f28.ntmps) Tryd.f28 (ct_b B (boolv true)) = ( Enter 9 (inv_b B ([VV.c (C.ptr 0 0 0), VV.any, VV.any, i64 (0 : Int)] ++ anys (Tryd.f28.ntmps - 4))) (fun (x : Unit) => True) ([VV.one (V1.c (C.ptr 0 0 0)), VV.any, boolv false, i64 (0 : Int)] ++ anys
 51) (bookH B) ∧ ∀ (z : Unit), True → Enter 9 (inv_b B ([VV.c (C.ptr 0 0 0), VV.any, VV.any, VV.any, i64 (0 : Int)] ++ anys (Tryd.f28.ntmps - 5))) (fun (x : Unit) => True) ([VV.one (V1.c (C.ptr 0 0 0)),
 VV.any, VV.any, i64 (0 : Int), i64 (0 : Int), i64 (0 : Int), VV.one (V1.c (C.ptr 0 0 0)), VV.one (V1.c (C.ptr 0 0 0)), VV.one (V1.c (C.ptr 0 0 112)), VV.one (V1.c C.nils), i64 (0 : Int), boolv false] ++
 anys 43) (bookH B) ∧ ∀ (z : Unit), True → EndsAs 9 (ct_b B (boolv true)) (boolv true) (bookH B)) := by kernel_rfl
theorem vc_mDones (B : BS) : evFn tab0 ann0 Tryd.f63 (ct_b B (.tup [])) = ( EndsAs 9 (ct_b B (VV.tup [])) (VV.tup []) (bookH B)) := by kernel_rfl
theorem vc_gDones (B : BS) : evFn tab0 (ann1 (inv_b B ([.c (.ptr 0 0 0), .any, i64 0] ++ anys (Tryd.f79.ntmps - 3)))) Tryd.f79 (ct_b B (.tup [])) = ( Enter 9 (inv_b B ([VV.c (C.ptr 0 0 0), VV.any, i64 (0 : Int)] ++ anys (Tryd.f79.ntmps - 3))) (fun (x : Unit) => True) ([VV.one (V1.c (C.ptr 0 0 0)), VV.any, i64 (0 : Int)] ++ anys 67) (bookH B) ∧ ∀ (z
 : Unit), True → EndsAs 9 (ct_b B (VV.tup [])) (VV.tup []) (bookH B)) := by kernel_rfl
theorem vc_hDones (B : BS) : evFn tab0 (ann_h B Tryd.f29.ntmps) Tryd.f29 (ct_b B (boolv true)) = ( Enter 9 (inv_b B ([VV.c (C.ptr 0 0 0), VV.any, VV.any, i64 (0 : Int)] ++ anys (Tryd.f29.ntmps - 4))) (fun (x : Unit) => True) ([VV.one (V1.c (C.ptr 0 0 0)), VV.any, boolv false, i64 (0 : Int)] ++ anys
 51) (bookH B) ∧ ∀ (z : Unit), True → Enter 9 (inv_b B ([VV.c (C.ptr 0 0 0), VV.any, VV.any, VV.any, i64 (0 : Int)] ++ anys (Tryd.f29.ntmps - 5))) (fun (x : Unit) => True) ([VV.one (V1.c (C.ptr 0 0 0)),
 VV.any, VV.any, i64 (0 : Int), i64 (0 : Int), i64 (0 : Int), VV.one (V1.c (C.ptr 0 0 0)), VV.one (V1.c (C.ptr 0 0 0)), VV.one (V1.c (C.ptr 0 0 121)), VV.one (V1.c C.nils), i64 (0 : Int), boolv false] ++
 anys 43) (bookH B) ∧ ∀ (z : Unit), True → EndsAs 9 (ct_b B (boolv true)) (boolv true) (bookH B)) := by kernel_rfl
theorem vc_mNodes (B : BS) : evFn tab0 ann0 Tryd.f64 (ct_b B (.tup [])) = ( EndsAs 9 (ct_b B (VV.tup [])) (VV.tup []) (bookH B)) := by kernel_rfl
theorem vc_gNodes (B : BS) : evFn tab0 (ann1 (inv_b B ([.c (.ptr 0 0 0), .any, i64 0] ++ anys (Tryd.f80.ntmps - 3)))) Tryd.f80 (ct_b B (.tup [])) = ( Enter 9 (inv_b B ([VV.c (C.ptr 0 0 0), VV.any, i64 (0 : Int)] ++ anys (Tryd.f80.ntmps - 3))) (fun (x : Unit) => True) ([VV.one (V1.c (C.ptr 0 0 0)), VV.any, i64 (0 : Int)] ++ anys 68) (bookH B) ∧ ∀ (z
 : Unit), True → EndsAs 9 (ct_b B (VV.tup [])) (VV.tup []) (bookH B)) := by kernel_rfl
theorem vc_hNodes (B : BS) : evFn tab0 (ann_h B Tryd.f30.ntmps) Tryd.f30 (ct_b B (boolv true)) = ( Enter 9 (inv_b B ([VV.c (C.ptr 0 0 0), VV.any, VV.any, i64 (0 : Int)] ++ anys (Tryd.f30.ntmps - 4))) (fun (x : Unit) => True) ([VV.one (V1.c (C.ptr 0 0 0)), VV.any, boolv false, i64 (0 : Int)] ++ anys
 51) (bookH B) ∧ ∀ (z : Unit), True → Enter 9 (inv_b B ([VV.c (C.ptr 0 0 0), VV.any, VV.any, VV.any, i64 (0 : Int)] ++ anys (Tryd.f30.ntmps - 5))) (fun (x : Unit) => True) ([VV.one (V1.c (C.ptr 0 0 0)),
 VV.any, VV.any, i64 (0 : Int), i64 (0 : Int), i64 (0 : Int), VV.one (V1.c (C.ptr 0 0 0)), VV.one (V1.c (C.ptr 0 0 0)), VV.one (V1.c (C.ptr 0 0 130)), VV.one (V1.c C.nils), i64 (0 : Int), boolv false] ++
 anys 43) (bookH B) ∧ ∀ (z : Unit), True → EndsAs 9 (ct_b B (boolv true)) (boolv true) (bookH B)) := by kernel_rfl
theorem vc_mSteps (B : BS) : evFn tab0 ann0 Tryd.f65 (ct_b B (.tup [])) = ( EndsAs 9 (ct_b B (VV.tup [])) (VV.tup []) (bookH B)) := by kernel_rfl
theorem vc_gSteps (B : BS) : evFn tab0 (ann1 (inv_b B ([.c (.ptr 0 0 0), .any, i64 0] ++ anys (Tryd.f81.ntmps - 3)))) Tryd.f81 (ct_b B (.tup [])) = ( Enter 9 (inv_b B ([VV.c (C.ptr 0 0 0), VV.any, i64 (0 : Int)] ++ anys (Tryd.f81.ntmps - 3))) (fun (x : Unit) => True) ([VV.one (V1.c (C.ptr 0 0 0)), VV.any, i64 (0 : Int)] ++ anys 67) (bookH B) ∧ ∀ (z
 : Unit), True → EndsAs 9 (ct_b B (VV.tup [])) (VV.tup []) (bookH B)) := by kernel_rfl
theorem vc_hSteps (B : BS) : evFn tab0 (ann_h B Tryd.f31.ntmps) Tryd.f31 (ct_b B (boolv true)) = ( Enter 9 (inv_b B ([VV.c (C.ptr 0 0 0), VV.any, VV.any, i64 (0 : Int)] ++ anys (Tryd.f31.ntmps - 4))) (fun (x : Unit) => True) ([VV.one (V1.c (C.ptr 0 0 0)), VV.any, boolv false, i64 (0 : Int)] ++ anys
 51) (bookH B) ∧ ∀ (z : Unit), True → Enter 9 (inv_b B ([VV.c (C.ptr 0 0 0), VV.any, VV.any, VV.any, i64 (0 : Int)] ++ anys (Tryd.f31.ntmps - 5))) (fun (x : Unit) => True) ([VV.one (V1.c (C.ptr 0 0 0)),
 VV.any, VV.any, i64 (0 : Int), i64 (0 : Int), i64 (0 : Int), VV.one (V1.c (C.ptr 0 0 0)), VV.one (V1.c (C.ptr 0 0 0)), VV.one (V1.c (C.ptr 0 0 139)), VV.one (V1.c C.nils), i64 (0 : Int), boolv false] ++
 anys 43) (bookH B) ∧ ∀ (z : Unit), True → EndsAs 9 (ct_b B (boolv true)) (boolv true) (bookH B)) := by kernel_rfl
theorem mBytes_ok (B : BS) : CtOk Tryd.prog 50 (ct_b B (.tup [])) := CtOk_of KK_ok tab0 ann0 (fn := Tryd.f50) rfl (fun _ _ => rfl) fun hn => by
  rw [vc_mBytes]
  exact ⟨(), [], bookN, trivial, by (repeat' first | exact trivial | exact rfl | apply And.intro)⟩
theorem gBytes_ok (B : BS) : CtOk Tryd.prog 66 (ct_b B (.tup [])) := CtOk_of KK_ok tab0 (ann1 (inv_b B ([.c (.ptr 0 0 0), .any, i64 0] ++ anys (Tryd.f66.ntmps - 3)))) (fn := Tryd.f66) rfl (fun _ _ => rfl) fun hn => by
  rw [vc_gBytes]
  exact ⟨⟨(), [], bookN, trivial, trivial, into_mk (by kernel_rfl) (by (repeat' first | exact trivial | exact rfl | apply And.intro)) (by (repeat' first | exact trivial | exact rfl | apply And.intro))⟩, fun _ _ => ⟨(), [], bookN, trivial, by (repeat' first | exact trivial | exact rfl | apply And.intro)⟩⟩
theorem hBytes_ok (B : BS) : CtOk Tryd.prog 16 (ct_b B (boolv true)) := CtOk_of KK_ok tab0 (ann_h B Tryd.f16.ntmps) (fn := Tryd.f16) rfl (fun _ _ => rfl) fun hn => by
  rw [vc_hBytes]
  exact ⟨⟨(), [], bookN, trivial, trivial, into_mk (by kernel_rfl) (by (repeat' first | exact trivial | exact rfl | apply And.intro)) (by (repeat' first | exact trivial | exact rfl | apply And.intro))⟩, fun _ _ => ⟨⟨(), [], bookN, trivial, trivial, into_mk (by kernel_rfl) (by (repeat' first | exact trivial | exact rfl | apply And.intro)) (by (repeat' first | exact trivial | exact rfl | apply And.intro))⟩, fun _ _ => ⟨(), [], bookN, trivial, by (repeat' first | exact trivial | exact rfl | apply And.intro)⟩⟩⟩
theorem mInts_ok (B : BS) : CtOk Tryd.prog 51 (ct_b B (.tup [])) := CtOk_of KK_ok tab0 ann0 (fn := Tryd.f51) rfl (fun _ _ => rfl) fun hn => by
  rw [vc_mInts]
  exact ⟨(), [], bookN, trivial, by (repeat' first | exact trivial | exact rfl | apply And.intro)⟩
theorem gInts_ok (B : BS) : CtOk Tryd.prog 67 (ct_b B (.tup [])) := CtOk_of KK_ok tab0 (ann1 (inv_b B ([.c (.ptr 0 0 0), .any, i64 0] ++ anys (Tryd.f67.ntmps - 3)))) (fn := Tryd.f67) rfl (fun _ _ => rfl) fun hn => by
  rw [vc_gInts]
  exact ⟨⟨(), [], bookN, trivial, trivial, into_mk (by kernel_rfl) (by (repeat' first | exact trivial | exact rfl | apply And.intro)) (by (repeat' first | exact trivial | exact rfl | apply And.intro))⟩, fun _ _ => ⟨(), [], bookN, trivial, by (repeat' first | exact trivial | exact rfl | apply And.intro)⟩⟩
theorem hInts_ok (B : BS) : CtOk Tryd.prog 17 (ct_b B (boolv true)) := CtOk_of KK_ok tab0 (ann_h B Tryd.f17.ntmps) (fn := Tryd.f17) rfl (fun _ _ => rfl) fun hn => by
  rw [vc_hInts]
  exact ⟨⟨(), [], bookN, trivial, trivial, into_mk (by kernel_rfl) (by (repeat' first | exact trivial | exact rfl | apply And.intro)) (by (repeat' first | exact trivial | exact rfl | apply And.intro))⟩, fun _ _ => ⟨⟨(), [], bookN, trivial, trivial, into_mk (by kernel_rfl) (by (repeat' first | exact trivial | exact rfl | apply And.intro)) (by (repeat' first | exact trivial | exact rfl | apply And.intro))⟩, fun _ _ => ⟨(), [], bookN, trivial, by (repeat' first | exact trivial | exact rfl | apply And.intro)⟩⟩⟩
theorem mLosts_ok (B : BS) : CtOk Tryd.prog 53 (ct_b B (.tup [])) := CtOk_of KK_ok tab0 ann0 (fn := Tryd.f53) rfl (fun _ _ => rfl) fun hn => by
  rw [vc_mLosts]
  exact ⟨(), [], bookN, trivial, by (repeat' first | exact trivial | exact rfl | apply And.intro)⟩
theorem gLosts_ok (B : BS) : CtOk Tryd.prog 69 (ct_b B (.tup [])) := CtOk_of KK_ok tab0 (ann1 (inv_b B ([.c (.ptr 0 0 0), .any, i64 0] ++ anys (Tryd.f69.ntmps - 3)))) (fn := Tryd.f69) rfl (fun _ _ => rfl) fun hn => by
  rw [vc_gLosts]
  exact ⟨⟨(), [], bookN, trivial, trivial, into_mk (by kernel_rfl) (by (repeat' first | exact trivial | exact rfl | apply And.intro)) (by (repeat' first | exact trivial | exact rfl | apply And.intro))⟩, fun _ _ => ⟨(), [], bookN, trivial, by (repeat' first | exact trivial | exact rfl | apply And.intro)⟩⟩
theorem hLosts_ok (B : BS) : CtOk Tryd.prog 19 (ct_b B (boolv true)) := CtOk_of KK_ok tab0 (ann_h B Tryd.f19.ntmps) (fn := Tryd.f19) rfl (fun _ _ => rfl) fun hn => by
  rw [vc_hLosts]
  exact ⟨⟨(), [], bookN, trivial, trivial, into_mk (by kernel_rfl) (by (repeat' first | exact trivial | exact rfl | apply And.intro)) (by (repeat' first | exact trivial | exact rfl | apply And.intro))⟩, fun _ _ => ⟨⟨(), [], bookN, trivial, trivial, into_mk (by kernel_rfl) (by (repeat' first | exact trivial | exact rfl | apply And.intro)) (by (repeat' first | exact trivial | exact rfl | apply And.intro))⟩, fun _ _ => ⟨(), [], bookN, trivial, by (repeat' first | exact trivial | exact rfl | apply And.intro)⟩⟩⟩
theorem mChanges_ok (B : BS) : CtOk Tryd.prog 54 (ct_b B (.tup [])) := CtOk_of KK_ok tab0 ann0 (fn := Tryd.f54) rfl (fun _ _ => rfl) fun hn => by
  rw [vc_mChanges]
  exact ⟨(), [], bookN, trivial, by (repeat' first | exact trivial | exact rfl | apply And.intro)⟩
theorem gChanges_ok (B : BS) : CtOk Tryd.prog 70 (ct_b B (.tup [])) := CtOk_of KK_ok tab0 (ann1 (inv_b B ([.c (.ptr 0 0 0), .any, i64 0] ++ anys (Tryd.f70.ntmps - 3)))) (fn := Tryd.f70) rfl (fun _ _ => rfl) fun hn => by
  rw [vc_gChanges]
  exact ⟨⟨(), [], bookN, trivial, trivial, into_mk (by kernel_rfl) (by (repeat' first | exact trivial | exact rfl | apply And.intro)) (by (repeat' first | exact trivial | exact rfl | apply And.intro))⟩, fun _ _ => ⟨(), [], bookN, trivial, by (repeat' first | exact trivial | exact rfl | apply And.intro)⟩⟩
theorem hChanges_ok (B : BS) : CtOk Tryd.prog 20 (ct_b B (boolv true)) := CtOk_of KK_ok tab0 (ann_h B Tryd.f20.ntmps) (fn := Tryd.f20) rfl (fun _ _ => rfl) fun hn => by
  rw [vc_hChanges]
  exact ⟨⟨(), [], bookN, trivial, trivial, into_mk (by kernel_rfl) (by (repeat' first | exact trivial | exact rfl | apply And.intro)) (by (repeat' first | exact trivial | exact rfl | apply And.intro))⟩, fun _ _ => ⟨⟨(), [], bookN, trivial, trivial, into_mk (by kernel_rfl) (by (repeat' first | exact trivial | exact rfl | apply And.intro)) (by (repeat' first | exact trivial | exact rfl | apply And.intro))⟩, fun _ _ => ⟨(), [], bookN, trivial, by (repeat' first | exact trivial | exact rfl | apply And.intro)⟩⟩⟩
theorem mCells_ok (B : BS) : CtOk Tryd.prog 55 (ct_b B (.tup [])) := CtOk_of KK_ok tab0 ann0 (fn := Tryd.f55) rfl (fun _ _ => rfl) fun hn => by
  rw [vc_mCells]
  exact ⟨(), [], bookN, trivial, by (repeat' first | exact trivial | exact rfl | apply And.intro)⟩
theorem gCells_ok (B : BS) : CtOk Tryd.prog 71 (ct_b B (.tup [])) := CtOk_of KK_ok tab0 (ann1 (inv_b B ([.c (.ptr 0 0 0), .any, i64 0] ++ anys (Tryd.f71.ntmps - 3)))) (fn := Tryd.f71) rfl (fun _ _ => rfl) fun hn => by
  rw [vc_gCells]
  exact ⟨⟨(), [], bookN, trivial, trivial, into_mk (by kernel_rfl) (by (repeat' first | exact trivial | exact rfl | apply And.intro)) (by (repeat' first | exact trivial | exact rfl | apply And.intro))⟩, fun _ _ => ⟨(), [], bookN, trivial, by (repeat' first | exact trivial | exact rfl | apply And.intro)⟩⟩
theorem hCells_ok (B : BS) : CtOk Tryd.prog 21 (ct_b B (boolv true)) := CtOk_of KK_ok tab0 (ann_h B Tryd.f21.ntmps) (fn := Tryd.f21) rfl (fun _ _ => rfl) fun hn => by
  rw [vc_hCells]
  exact ⟨⟨(), [], bookN, trivial, trivial, into_mk (by kernel_rfl) (by (repeat' first | exact trivial | exact rfl | apply And.intro)) (by (repeat' first | exact trivial | exact rfl | apply And.intro))⟩, fun _ _ => ⟨⟨(), [], bookN, trivial, trivial, into_mk (by kernel_rfl) (by (repeat' first | exact trivial | exact rfl | apply And.intro)) (by (repeat' first | exact trivial | exact rfl | apply And.intro))⟩, fun _ _ => ⟨(), [], bookN, trivial, by (repeat' first | exact trivial | exact rfl | apply And.intro)⟩⟩⟩
theorem mItems_ok (B : BS) : CtOk Tryd.prog 56 (ct_b B (.tup [])) := CtOk_of KK_ok tab0 ann0 (fn := Tryd.f56) rfl (fun _ _ => rfl) fun hn => by
  rw [vc_mItems]
  exact ⟨(), [], bookN, trivial, by (repeat' first | exact trivial | exact rfl | apply And.intro)⟩
theorem gItems_ok (B : BS) : CtOk Tryd.prog 72 (ct_b B (.tup [])) := CtOk_of KK_ok tab0 (ann1 (inv_b B ([.c (.ptr 0 0 0), .any, i64 0] ++ anys (Tryd.f72.ntmps - 3)))) (fn := Tryd.f72) rfl (fun _ _ => rfl) fun hn => by
  rw [vc_gItems]
  exact ⟨⟨(), [], bookN, trivial, trivial, into_mk (by kernel_rfl) (by (repeat' first | exact trivial | exact rfl | apply And.intro)) (by (repeat' first | exact trivial | exact rfl | apply And.intro))⟩, fun _ _ => ⟨(), [], bookN, trivial, by (repeat' first | exact trivial | exact rfl | apply And.intro)⟩⟩
theorem hItems_ok (B : BS) : CtOk Tryd.prog 22 (ct_b B (boolv true)) := CtOk_of KK_ok tab0 (ann_h B Tryd.f22.ntmps) (fn := Tryd.f22) rfl (fun _ _ => rfl) fun hn => by
  rw [vc_hItems]
  exact ⟨⟨(), [], bookN, trivial, trivial, into_mk (by kernel_rfl) (by (repeat' first | exact trivial | exact rfl | apply And.intro)) (by (repeat' first | exact trivial | exact rfl | apply And.intro))⟩, fun _ _ => ⟨⟨(), [], bookN, trivial, trivial, into_mk (by kernel_rfl) (by (repeat' first | exact trivial | exact rfl | apply And.intro)) (by (repeat' first | exact trivial | exact rfl | apply And.intro))⟩, fun _ _ => ⟨(), [], bookN, trivial, by (repeat' first | exact trivial | exact rfl | apply And.intro)⟩⟩⟩
theorem mEntries_ok (B : BS) : CtOk Tryd.prog 57 (ct_b B (.tup [])) := CtOk_of KK_ok tab0 ann0 (fn := Tryd.f57) rfl (fun _ _ => rfl) fun hn => by
  rw [vc_mEntries]
  exact ⟨(), [], bookN, trivial, by (repeat' first | exact trivial | exact rfl | apply And.intro)⟩
theorem gEntries_ok (B : BS) : CtOk Tryd.prog 73 (ct_b B (.tup [])) := CtOk_of KK_ok tab0 (ann1 (inv_b B ([.c (.ptr 0 0 0), .any, i64 0] ++ anys (Tryd.f73.ntmps - 3)))) (fn := Tryd.f73) rfl (fun _ _ => rfl) fun hn => by
  rw [vc_gEntries]
  exact ⟨⟨(), [], bookN, trivial, trivial, into_mk (by kernel_rfl) (by (repeat' first | exact trivial | exact rfl | apply And.intro)) (by (repeat' first | exact trivial | exact rfl | apply And.intro))⟩, fun _ _ => ⟨(), [], bookN, trivial, by (repeat' first | exact trivial | exact rfl | apply And.intro)⟩⟩
theorem hEntries_ok (B : BS) : CtOk Tryd.prog 23 (ct_b B (boolv true)) := CtOk_of KK_ok tab0 (ann_h B Tryd.f23.ntmps) (fn := Tryd.f23) rfl (fun _ _ => rfl) fun hn => by
  rw [vc_hEntries]
  exact ⟨⟨(), [], bookN, trivial, trivial, into_mk (by kernel_rfl) (by (repeat' first | exact trivial | exact rfl | apply And.intro)) (by (repeat' first | exact trivial | exact rfl | apply And.intro))⟩, fun _ _ => ⟨⟨(), [], bookN, trivial, trivial, into_mk (by kernel_rfl) (by (repeat' first | exact trivial | exact rfl | apply And.intro)) (by (repeat' first | exact trivial | exact rfl | apply And.intro))⟩, fun _ _ => ⟨(), [], bookN, trivial, by (repeat' first | exact trivial | exact rfl | apply And.intro)⟩⟩⟩
theorem mPlaceds_ok (B : BS) : CtOk Tryd.prog 58 (ct_b B (.tup [])) := CtOk_of KK_ok tab0 ann0 (fn := Tryd.f58) rfl (fun _ _ => rfl) fun hn => by
  rw [vc_mPlaceds]
  exact ⟨(), [], bookN, trivial, by (repeat' first | exact trivial | exact rfl | apply And.intro)⟩
theorem gPlaceds_ok (B : BS) : CtOk Tryd.prog 74 (ct_b B (.tup [])) := CtOk_of KK_ok tab0 (ann1 (inv_b B ([.c (.ptr 0 0 0), .any, i64 0] ++ anys (Tryd.f74.ntmps - 3)))) (fn := Tryd.f74) rfl (fun _ _ => rfl) fun hn => by
  rw [vc_gPlaceds]
  exact ⟨⟨(), [], bookN, trivial, trivial, into_mk (by kernel_rfl) (by (repeat' first | exact trivial | exact rfl | apply And.intro)) (by (repeat' first | exact trivial | exact rfl | apply And.intro))⟩, fun _ _ => ⟨(), [], bookN, trivial, by (repeat' first | exact trivial | exact rfl | apply And.intro)⟩⟩
theorem hPlaceds_ok (B : BS) : CtOk Tryd.prog 24 (ct_b B (boolv true)) := CtOk_of KK_ok tab0 (ann_h B Tryd.f24.ntmps) (fn := Tryd.f24) rfl (fun _ _ => rfl) fun hn => by
  rw [vc_hPlaceds]
  exact ⟨⟨(), [], bookN, trivial, trivial, into_mk (by kernel_rfl) (by (repeat' first | exact trivial | exact rfl | apply And.intro)) (by (repeat' first | exact trivial | exact rfl | apply And.intro))⟩, fun _ _ => ⟨⟨(), [], bookN, trivial, trivial, into_mk (by kernel_rfl) (by (repeat' first | exact trivial | exact rfl | apply And.intro)) (by (repeat' first | exact trivial | exact rfl | apply And.intro))⟩, fun _ _ => ⟨(), [], bookN, trivial, by (repeat' first | exact trivial | exact rfl | apply And.intro)⟩⟩⟩
theorem mRules_ok (B : BS) : CtOk Tryd.prog 59 (ct_b B (.tup [])) := CtOk_of KK_ok tab0 ann0 (fn := Tryd.f59) rfl (fun _ _ => rfl) fun hn => by
  rw [vc_mRules]
  exact ⟨(), [], bookN, trivial, by (repeat' first | exact trivial | exact rfl | apply And.intro)⟩
theorem gRules_ok (B : BS) : CtOk Tryd.prog 75 (ct_b B (.tup [])) := CtOk_of KK_ok tab0 (ann1 (inv_b B ([.c (.ptr 0 0 0), .any, i64 0] ++ anys (Tryd.f75.ntmps - 3)))) (fn := Tryd.f75) rfl (fun _ _ => rfl) fun hn => by
  rw [vc_gRules]
  exact ⟨⟨(), [], bookN, trivial, trivial, into_mk (by kernel_rfl) (by (repeat' first | exact trivial | exact rfl | apply And.intro)) (by (repeat' first | exact trivial | exact rfl | apply And.intro))⟩, fun _ _ => ⟨(), [], bookN, trivial, by (repeat' first | exact trivial | exact rfl | apply And.intro)⟩⟩
theorem hRules_ok (B : BS) : CtOk Tryd.prog 25 (ct_b B (boolv true)) := CtOk_of KK_ok tab0 (ann_h B Tryd.f25.ntmps) (fn := Tryd.f25) rfl (fun _ _ => rfl) fun hn => by
  rw [vc_hRules]
  exact ⟨⟨(), [], bookN, trivial, trivial, into_mk (by kernel_rfl) (by (repeat' first | exact trivial | exact rfl | apply And.intro)) (by (repeat' first | exact trivial | exact rfl | apply And.intro))⟩, fun _ _ => ⟨⟨(), [], bookN, trivial, trivial, into_mk (by kernel_rfl) (by (repeat' first | exact trivial | exact rfl | apply And.intro)) (by (repeat' first | exact trivial | exact rfl | apply And.intro))⟩, fun _ _ => ⟨(), [], bookN, trivial, by (repeat' first | exact trivial | exact rfl | apply And.intro)⟩⟩⟩
theorem mFaults_ok (B : BS) : CtOk Tryd.prog 60 (ct_b B (.tup [])) := CtOk_of KK_ok tab0 ann0 (fn := Tryd.f60) rfl (fun _ _ => rfl) fun hn => by
  rw [vc_mFaults]
  exact ⟨(), [], bookN, trivial, by (repeat' first | exact trivial | exact rfl | apply And.intro)⟩
theorem gFaults_ok (B : BS) : CtOk Tryd.prog 76 (ct_b B (.tup [])) := CtOk_of KK_ok tab0 (ann1 (inv_b B ([.c (.ptr 0 0 0), .any, i64 0] ++ anys (Tryd.f76.ntmps - 3)))) (fn := Tryd.f76) rfl (fun _ _ => rfl) fun hn => by
  rw [vc_gFaults]
  exact ⟨⟨(), [], bookN, trivial, trivial, into_mk (by kernel_rfl) (by (repeat' first | exact trivial | exact rfl | apply And.intro)) (by (repeat' first | exact trivial | exact rfl | apply And.intro))⟩, fun _ _ => ⟨(), [], bookN, trivial, by (repeat' first | exact trivial | exact rfl | apply And.intro)⟩⟩
theorem hFaults_ok (B : BS) : CtOk Tryd.prog 26 (ct_b B (boolv true)) := CtOk_of KK_ok tab0 (ann_h B Tryd.f26.ntmps) (fn := Tryd.f26) rfl (fun _ _ => rfl) fun hn => by
  rw [vc_hFaults]
  exact ⟨⟨(), [], bookN, trivial, trivial, into_mk (by kernel_rfl) (by (repeat' first | exact trivial | exact rfl | apply And.intro)) (by (repeat' first | exact trivial | exact rfl | apply And.intro))⟩, fun _ _ => ⟨⟨(), [], bookN, trivial, trivial, into_mk (by kernel_rfl) (by (repeat' first | exact trivial | exact rfl | apply And.intro)) (by (repeat' first | exact trivial | exact rfl | apply And.intro))⟩, fun _ _ => ⟨(), [], bookN, trivial, by (repeat' first | exact trivial | exact rfl | apply And.intro)⟩⟩⟩
theorem mChunks_ok (B : BS) : CtOk Tryd.prog 61 (ct_b B (.tup [])) := CtOk_of KK_ok tab0 ann0 (fn := Tryd.f61) rfl (fun _ _ => rfl) fun hn => by
  rw [vc_mChunks]
  exact ⟨(), [], bookN, trivial, by (repeat' first | exact trivial | exact rfl | apply And.intro)⟩
theorem gChunks_ok (B : BS) : CtOk Tryd.prog 77 (ct_b B (.tup [])) := CtOk_of KK_ok tab0 (ann1 (inv_b B ([.c (.ptr 0 0 0), .any, i64 0] ++ anys (Tryd.f77.ntmps - 3)))) (fn := Tryd.f77) rfl (fun _ _ => rfl) fun hn => by
  rw [vc_gChunks]
  exact ⟨⟨(), [], bookN, trivial, trivial, into_mk (by kernel_rfl) (by (repeat' first | exact trivial | exact rfl | apply And.intro)) (by (repeat' first | exact trivial | exact rfl | apply And.intro))⟩, fun _ _ => ⟨(), [], bookN, trivial, by (repeat' first | exact trivial | exact rfl | apply And.intro)⟩⟩
theorem hChunks_ok (B : BS) : CtOk Tryd.prog 27 (ct_b B (boolv true)) := CtOk_of KK_ok tab0 (ann_h B Tryd.f27.ntmps) (fn := Tryd.f27) rfl (fun _ _ => rfl) fun hn => by
  rw [vc_hChunks]
  exact ⟨⟨(), [], bookN, trivial, trivial, into_mk (by kernel_rfl) (by (repeat' first | exact trivial | exact rfl | apply And.intro)) (by (repeat' first | exact trivial | exact rfl | apply And.intro))⟩, fun _ _ => ⟨⟨(), [], bookN, trivial, trivial, into_mk (by kernel_rfl) (by (repeat' first | exact trivial | exact rfl | apply And.intro)) (by (repeat' first | exact trivial | exact rfl | apply And.intro))⟩, fun _ _ => ⟨(), [], bookN, trivial, by (repeat' first | exact trivial | exact rfl | apply And.intro)⟩⟩⟩
theorem mThings_ok (B : BS) : CtOk Tryd.prog 62 (ct_b B (.tup [])) := CtOk_of KK_ok tab0 ann0 (fn := Tryd.f62) rfl (fun _ _ => rfl) fun hn => by
  rw [vc_mThings]
  exact ⟨(), [], bookN, trivial, by (repeat' first | exact trivial | exact rfl | apply And.intro)⟩
theorem gThings_ok (B : BS) : CtOk Tryd.prog 78 (ct_b B (.tup [])) := CtOk_of KK_ok tab0 (ann1 (inv_b B ([.c (.ptr 0 0 0), .any, i64 0] ++ anys (Tryd.f78.ntmps - 3)))) (fn := Tryd.f78) rfl (fun _ _ => rfl) fun hn => by
  rw [vc_gThings]
  exact ⟨⟨(), [], bookN, trivial, trivial, into_mk (by kernel_rfl) (by (repeat' first | exact trivial | exact rfl | apply And.intro)) (by (repeat' first | exact trivial | exact rfl | apply And.intro))⟩, fun _ _ => ⟨(), [], bookN, trivial, by (repeat' first | exact trivial | exact rfl | apply And.intro)⟩⟩
theorem hThings_ok (B : BS) : CtOk Tryd.prog 28 (ct_b B (boolv true)) := CtOk_of KK_ok tab0 (ann_h B Tryd.f28.ntmps) (fn := Tryd.f28) rfl (fun _ _ => rfl) fun hn => by
  rw [vc_hThings]
  exact ⟨⟨(), [], bookN, trivial, trivial, into_mk (by kernel_rfl) (by (repeat' first | exact trivial | exact rfl | apply And.intro)) (by (repeat' first | exact trivial | exact rfl | apply And.intro))⟩, fun _ _ => ⟨⟨(), [], bookN, trivial, trivial, into_mk (by kernel_rfl) (by (repeat' first | exact trivial | exact rfl | apply And.intro)) (by (repeat' first | exact trivial | exact rfl | apply And.intro))⟩, fun _ _ => ⟨(), [], bookN, trivial, by (repeat' first | exact trivial | exact rfl | apply And.intro)⟩⟩⟩
theorem mDones_ok (B : BS) : CtOk Tryd.prog 63 (ct_b B (.tup [])) := CtOk_of KK_ok tab0 ann0 (fn := Tryd.f63) rfl (fun _ _ => rfl) fun hn => by
  rw [vc_mDones]
  exact ⟨(), [], bookN, trivial, by (repeat' first | exact trivial | exact rfl | apply And.intro)⟩
theorem gDones_ok (B : BS) : CtOk Tryd.prog 79 (ct_b B (.tup [])) := CtOk_of KK_ok tab0 (ann1 (inv_b B ([.c (.ptr 0 0 0), .any, i64 0] ++ anys (Tryd.f79.ntmps - 3)))) (fn := Tryd.f79) rfl (fun _ _ => rfl) fun hn => by
  rw [vc_gDones]
  exact ⟨⟨(), [], bookN, trivial, trivial, into_mk (by kernel_rfl) (by (repeat' first | exact trivial | exact rfl | apply And.intro)) (by (repeat' first | exact trivial | exact rfl | apply And.intro))⟩, fun _ _ => ⟨(), [], bookN, trivial, by (repeat' first | exact trivial | exact rfl | apply And.intro)⟩⟩
theorem hDones_ok (B : BS) : CtOk Tryd.prog 29 (ct_b B (boolv true)) := CtOk_of KK_ok tab0 (ann_h B Tryd.f29.ntmps) (fn := Tryd.f29) rfl (fun _ _ => rfl) fun hn => by
  rw [vc_hDones]
  exact ⟨⟨(), [], bookN, trivial, trivial, into_mk (by kernel_rfl) (by (repeat' first | exact trivial | exact rfl | apply And.intro)) (by (repeat' first | exact trivial | exact rfl | apply And.intro))⟩, fun _ _ => ⟨⟨(), [], bookN, trivial, trivial, into_mk (by kernel_rfl) (by (repeat' first | exact trivial | exact rfl | apply And.intro)) (by (repeat' first | exact trivial | exact rfl | apply And.intro))⟩, fun _ _ => ⟨(), [], bookN, trivial, by (repeat' first | exact trivial | exact rfl | apply And.intro)⟩⟩⟩
theorem mNodes_ok (B : BS) : CtOk Tryd.prog 64 (ct_b B (.tup [])) := CtOk_of KK_ok tab0 ann0 (fn := Tryd.f64) rfl (fun _ _ => rfl) fun hn => by
  rw [vc_mNodes]
  exact ⟨(), [], bookN, trivial, by (repeat' first | exact trivial | exact rfl | apply And.intro)⟩
theorem gNodes_ok (B : BS) : CtOk Tryd.prog 80 (ct_b B (.tup [])) := CtOk_of KK_ok tab0 (ann1 (inv_b B ([.c (.ptr 0 0 0), .any, i64 0] ++ anys (Tryd.f80.ntmps - 3)))) (fn := Tryd.f80) rfl (fun _ _ => rfl) fun hn => by
  rw [vc_gNodes]
  exact ⟨⟨(), [], bookN, trivial, trivial, into_mk (by kernel_rfl) (by (repeat' first | exact trivial | exact rfl | apply And.intro)) (by (repeat' first | exact trivial | exact rfl | apply And.intro))⟩, fun _ _ => ⟨(), [], bookN, trivial, by (repeat' first | exact trivial | exact rfl | apply And.intro)⟩⟩
theorem hNodes_ok (B : BS) : CtOk Tryd.prog 30 (ct_b B (boolv true)) := CtOk_of KK_ok tab0 (ann_h B Tryd.f30.ntmps) (fn := Tryd.f30) rfl (fun _ _ => rfl) fun hn => by
  rw [vc_hNodes]
  exact ⟨⟨(), [], bookN, trivial, trivial, into_mk (by kernel_rfl) (by (repeat' first | exact trivial | exact rfl | apply And.intro)) (by (repeat' first | exact trivial | exact rfl | apply And.intro))⟩, fun _ _ => ⟨⟨(), [], bookN, trivial, trivial, into_mk (by kernel_rfl) (by (repeat' first | exact trivial | exact rfl | apply And.intro)) (by (repeat' first | exact trivial | exact rfl | apply And.intro))⟩, fun _ _ => ⟨(), [], bookN, trivial, by (repeat' first | exact trivial | exact rfl | apply And.intro)⟩⟩⟩
theorem mSteps_ok (B : BS) : CtOk Tryd.prog 65 (ct_b B (.tup [])) := CtOk_of KK_ok tab0 ann0 (fn := Tryd.f65) rfl (fun _ _ => rfl) fun hn => by
  rw [vc_mSteps]
  exact ⟨(), [], bookN, trivial, by (repeat' first | exact trivial | exact rfl | apply And.intro)⟩
theorem gSteps_ok (B : BS) : CtOk Tryd.prog 81 (ct_b B (.tup [])) := CtOk_of KK_ok tab0 (ann1 (inv_b B ([.c (.ptr 0 0 0), .any, i64 0] ++ anys (Tryd.f81.ntmps - 3)))) (fn := Tryd.f81) rfl (fun _ _ => rfl) fun hn => by
  rw [vc_gSteps]
  exact ⟨⟨(), [], bookN, trivial, trivial, into_mk (by kernel_rfl) (by (repeat' first | exact trivial | exact rfl | apply And.intro)) (by (repeat' first | exact trivial | exact rfl | apply And.intro))⟩, fun _ _ => ⟨(), [], bookN, trivial, by (repeat' first | exact trivial | exact rfl | apply And.intro)⟩⟩
theorem hSteps_ok (B : BS) : CtOk Tryd.prog 31 (ct_b B (boolv true)) := CtOk_of KK_ok tab0 (ann_h B Tryd.f31.ntmps) (fn := Tryd.f31) rfl (fun _ _ => rfl) fun hn => by
  rw [vc_hSteps]
  exact ⟨⟨(), [], bookN, trivial, trivial, into_mk (by kernel_rfl) (by (repeat' first | exact trivial | exact rfl | apply And.intro)) (by (repeat' first | exact trivial | exact rfl | apply And.intro))⟩, fun _ _ => ⟨⟨(), [], bookN, trivial, trivial, into_mk (by kernel_rfl) (by (repeat' first | exact trivial | exact rfl | apply And.intro)) (by (repeat' first | exact trivial | exact rfl | apply And.intro))⟩, fun _ _ => ⟨(), [], bookN, trivial, by (repeat' first | exact trivial | exact rfl | apply And.intro)⟩⟩⟩
end Go.Proofs.YtnnpjkpmankeiaaDoor.T
