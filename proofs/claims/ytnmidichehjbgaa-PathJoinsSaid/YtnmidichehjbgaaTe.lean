/- The room: what has no list of a kind holds. -/
import Derived.Test.YtnmidichehjbgaaTK
namespace Go.Proofs.Ytnmidichehjbgaa.T
open Go.Proofs.Ytnmidichehjbgaa.E
set_option maxRecDepth 100000
set_option linter.unusedVariables false
def roomC (t a : C) : List C := [.nils, .nils, .nils, .nils, t, a, .nils, .nils, .nils, .nils, .nils, .nils, .nils, .nils, .nils, .nils, .nils, .nils, .nils, .nils, .nils, .nils, .nils, .nils, .nils, .nils]
def roomH (ts : List RS) (ps : List Int) : VH KK := [.cells 40 (roomC (.slc 1 0 ts.length none) (.slc 2 0 ps.length none)), .arr .rstr ts, .arr .int ps]
def ct_hold0 (ts : List RS) (ps : List Int) : Ct KK := { need := True, pre := roomH ts ps, args := [.c (.ptr 0 0 0)], Y := Unit, ok := fun _ => True, ret := fun _ => boolv true, post := fun _ => roomH ts ps }
def inv_hold0 (n : Nat) (ts : List RS) (ps : List Int) : Inv KK := { X := Unit, fr := fun _ => [.c (.ptr 0 0 0), .any, .any, i64 0] ++ anys n, H := fun _ => roomH ts ps, ok := fun _ => True, meas := fun _ => 0 }
theorem vc_h15 (ts : List RS) (ps : List Int) : evFn tab0 (ann1 (inv_hold0 49 ts ps)) Try.f15 (ct_hold0 ts ps) = ( Enter (1 + 1 + 1) (inv_hold0 49 ts ps) (fun (x : Unit) => True) [VV.one (V1.c (C.ptr 0 0 0)), VV.any, boolv false, i64 (0 : Int), VV.any, VV.any, VV.any, VV.any, VV.any, VV.any, VV.any, VV.any, VV.any,
 VV.any, VV.any, VV.any, VV.any, VV.any, VV.any, VV.any, VV.any, VV.any, VV.any, VV.any, VV.any, VV.any, VV.any, VV.any, VV.any, VV.any, VV.any, VV.any, VV.any, VV.any, VV.any, VV.any, VV.any, VV.any, VV.any,
 VV.any, VV.any, VV.any, VV.any, VV.any, VV.any, VV.any, VV.any, VV.any, VV.any, VV.any, VV.any, VV.any, VV.any] [Atom.cells (40 : TypeId) [C.nils, C.nils, C.nils, C.nils, C.slc 1 0 ts.length none, C.slc
 2 0 ps.length none, C.nils, C.nils, C.nils, C.nils, C.nils, C.nils, C.nils, C.nils, C.nils, C.nils, C.nils, C.nils, C.nils, C.nils, C.nils, C.nils, C.nils, C.nils, C.nils, C.nils], Atom.arr Kd.rstr ts,
 Atom.arr Kd.int ps] ∧ ∀ (z : Unit), True → EndsAs (1 + 1 + 1) (ct_hold0 ts ps) (boolv true) [Atom.cells (40 : TypeId) [C.nils, C.nils, C.nils, C.nils, C.slc 1 0 ts.length none, C.slc 2 0 ps.length none,
 C.nils, C.nils, C.nils, C.nils, C.nils, C.nils, C.nils, C.nils, C.nils, C.nils, C.nils, C.nils, C.nils, C.nils, C.nils, C.nils, C.nils, C.nils, C.nils, C.nils], Atom.arr Kd.rstr ts, Atom.arr Kd.int ps]) := by kernel_rfl
theorem vc_h16 (ts : List RS) (ps : List Int) : evFn tab0 (ann1 (inv_hold0 48 ts ps)) Try.f16 (ct_hold0 ts ps) = ( Enter (1 + 1 + 1) (inv_hold0 48 ts ps) (fun (x : Unit) => True) [VV.one (V1.c (C.ptr 0 0 0)), VV.any, boolv false, i64 (0 : Int), VV.any, VV.any, VV.any, VV.any, VV.any, VV.any, VV.any, VV.any, VV.any,
 VV.any, VV.any, VV.any, VV.any, VV.any, VV.any, VV.any, VV.any, VV.any, VV.any, VV.any, VV.any, VV.any, VV.any, VV.any, VV.any, VV.any, VV.any, VV.any, VV.any, VV.any, VV.any, VV.any, VV.any, VV.any, VV.any,
 VV.any, VV.any, VV.any, VV.any, VV.any, VV.any, VV.any, VV.any, VV.any, VV.any, VV.any, VV.any, VV.any] [Atom.cells (40 : TypeId) [C.nils, C.nils, C.nils, C.nils, C.slc 1 0 ts.length none, C.slc 2 0 ps.length
 none, C.nils, C.nils, C.nils, C.nils, C.nils, C.nils, C.nils, C.nils, C.nils, C.nils, C.nils, C.nils, C.nils, C.nils, C.nils, C.nils, C.nils, C.nils, C.nils, C.nils], Atom.arr Kd.rstr ts, Atom.arr Kd.int
 ps] ∧ ∀ (z : Unit), True → EndsAs (1 + 1 + 1) (ct_hold0 ts ps) (boolv true) [Atom.cells (40 : TypeId) [C.nils, C.nils, C.nils, C.nils, C.slc 1 0 ts.length none, C.slc 2 0 ps.length none, C.nils, C.nils,
 C.nils, C.nils, C.nils, C.nils, C.nils, C.nils, C.nils, C.nils, C.nils, C.nils, C.nils, C.nils, C.nils, C.nils, C.nils, C.nils, C.nils, C.nils], Atom.arr Kd.rstr ts, Atom.arr Kd.int ps]) := by kernel_rfl
theorem vc_h18 (ts : List RS) (ps : List Int) : evFn tab0 (ann1 (inv_hold0 49 ts ps)) Try.f18 (ct_hold0 ts ps) = ( Enter (1 + 1 + 1) (inv_hold0 49 ts ps) (fun (x : Unit) => True) [VV.one (V1.c (C.ptr 0 0 0)), VV.any, boolv false, i64 (0 : Int), VV.any, VV.any, VV.any, VV.any, VV.any, VV.any, VV.any, VV.any, VV.any,
 VV.any, VV.any, VV.any, VV.any, VV.any, VV.any, VV.any, VV.any, VV.any, VV.any, VV.any, VV.any, VV.any, VV.any, VV.any, VV.any, VV.any, VV.any, VV.any, VV.any, VV.any, VV.any, VV.any, VV.any, VV.any, VV.any,
 VV.any, VV.any, VV.any, VV.any, VV.any, VV.any, VV.any, VV.any, VV.any, VV.any, VV.any, VV.any, VV.any, VV.any] [Atom.cells (40 : TypeId) [C.nils, C.nils, C.nils, C.nils, C.slc 1 0 ts.length none, C.slc
 2 0 ps.length none, C.nils, C.nils, C.nils, C.nils, C.nils, C.nils, C.nils, C.nils, C.nils, C.nils, C.nils, C.nils, C.nils, C.nils, C.nils, C.nils, C.nils, C.nils, C.nils, C.nils], Atom.arr Kd.rstr ts,
 Atom.arr Kd.int ps] ∧ ∀ (z : Unit), True → EndsAs (1 + 1 + 1) (ct_hold0 ts ps) (boolv true) [Atom.cells (40 : TypeId) [C.nils, C.nils, C.nils, C.nils, C.slc 1 0 ts.length none, C.slc 2 0 ps.length none,
 C.nils, C.nils, C.nils, C.nils, C.nils, C.nils, C.nils, C.nils, C.nils, C.nils, C.nils, C.nils, C.nils, C.nils, C.nils, C.nils, C.nils, C.nils, C.nils, C.nils], Atom.arr Kd.rstr ts, Atom.arr Kd.int ps]) := by kernel_rfl
theorem vc_h19 (ts : List RS) (ps : List Int) : evFn tab0 (ann1 (inv_hold0 49 ts ps)) Try.f19 (ct_hold0 ts ps) = ( Enter (1 + 1 + 1) (inv_hold0 49 ts ps) (fun (x : Unit) => True) [VV.one (V1.c (C.ptr 0 0 0)), VV.any, boolv false, i64 (0 : Int), VV.any, VV.any, VV.any, VV.any, VV.any, VV.any, VV.any, VV.any, VV.any,
 VV.any, VV.any, VV.any, VV.any, VV.any, VV.any, VV.any, VV.any, VV.any, VV.any, VV.any, VV.any, VV.any, VV.any, VV.any, VV.any, VV.any, VV.any, VV.any, VV.any, VV.any, VV.any, VV.any, VV.any, VV.any, VV.any,
 VV.any, VV.any, VV.any, VV.any, VV.any, VV.any, VV.any, VV.any, VV.any, VV.any, VV.any, VV.any, VV.any, VV.any] [Atom.cells (40 : TypeId) [C.nils, C.nils, C.nils, C.nils, C.slc 1 0 ts.length none, C.slc
 2 0 ps.length none, C.nils, C.nils, C.nils, C.nils, C.nils, C.nils, C.nils, C.nils, C.nils, C.nils, C.nils, C.nils, C.nils, C.nils, C.nils, C.nils, C.nils, C.nils, C.nils, C.nils], Atom.arr Kd.rstr ts,
 Atom.arr Kd.int ps] ∧ ∀ (z : Unit), True → EndsAs (1 + 1 + 1) (ct_hold0 ts ps) (boolv true) [Atom.cells (40 : TypeId) [C.nils, C.nils, C.nils, C.nils, C.slc 1 0 ts.length none, C.slc 2 0 ps.length none,
 C.nils, C.nils, C.nils, C.nils, C.nils, C.nils, C.nils, C.nils, C.nils, C.nils, C.nils, C.nils, C.nils, C.nils, C.nils, C.nils, C.nils, C.nils, C.nils, C.nils], Atom.arr Kd.rstr ts, Atom.arr Kd.int ps]) := by kernel_rfl
theorem vc_h20 (ts : List RS) (ps : List Int) : evFn tab0 (ann1 (inv_hold0 49 ts ps)) Try.f20 (ct_hold0 ts ps) = ( Enter (1 + 1 + 1) (inv_hold0 49 ts ps) (fun (x : Unit) => True) [VV.one (V1.c (C.ptr 0 0 0)), VV.any, boolv false, i64 (0 : Int), VV.any, VV.any, VV.any, VV.any, VV.any, VV.any, VV.any, VV.any, VV.any,
 VV.any, VV.any, VV.any, VV.any, VV.any, VV.any, VV.any, VV.any, VV.any, VV.any, VV.any, VV.any, VV.any, VV.any, VV.any, VV.any, VV.any, VV.any, VV.any, VV.any, VV.any, VV.any, VV.any, VV.any, VV.any, VV.any,
 VV.any, VV.any, VV.any, VV.any, VV.any, VV.any, VV.any, VV.any, VV.any, VV.any, VV.any, VV.any, VV.any, VV.any] [Atom.cells (40 : TypeId) [C.nils, C.nils, C.nils, C.nils, C.slc 1 0 ts.length none, C.slc
 2 0 ps.length none, C.nils, C.nils, C.nils, C.nils, C.nils, C.nils, C.nils, C.nils, C.nils, C.nils, C.nils, C.nils, C.nils, C.nils, C.nils, C.nils, C.nils, C.nils, C.nils, C.nils], Atom.arr Kd.rstr ts,
 Atom.arr Kd.int ps] ∧ ∀ (z : Unit), True → EndsAs (1 + 1 + 1) (ct_hold0 ts ps) (boolv true) [Atom.cells (40 : TypeId) [C.nils, C.nils, C.nils, C.nils, C.slc 1 0 ts.length none, C.slc 2 0 ps.length none,
 C.nils, C.nils, C.nils, C.nils, C.nils, C.nils, C.nils, C.nils, C.nils, C.nils, C.nils, C.nils, C.nils, C.nils, C.nils, C.nils, C.nils, C.nils, C.nils, C.nils], Atom.arr Kd.rstr ts, Atom.arr Kd.int ps]) := by kernel_rfl
theorem vc_h21 (ts : List RS) (ps : List Int) : evFn tab0 (ann1 (inv_hold0 49 ts ps)) Try.f21 (ct_hold0 ts ps) = ( Enter (1 + 1 + 1) (inv_hold0 49 ts ps) (fun (x : Unit) => True) [VV.one (V1.c (C.ptr 0 0 0)), VV.any, boolv false, i64 (0 : Int), VV.any, VV.any, VV.any, VV.any, VV.any, VV.any, VV.any, VV.any, VV.any,
 VV.any, VV.any, VV.any, VV.any, VV.any, VV.any, VV.any, VV.any, VV.any, VV.any, VV.any, VV.any, VV.any, VV.any, VV.any, VV.any, VV.any, VV.any, VV.any, VV.any, VV.any, VV.any, VV.any, VV.any, VV.any, VV.any,
 VV.any, VV.any, VV.any, VV.any, VV.any, VV.any, VV.any, VV.any, VV.any, VV.any, VV.any, VV.any, VV.any, VV.any] [Atom.cells (40 : TypeId) [C.nils, C.nils, C.nils, C.nils, C.slc 1 0 ts.length none, C.slc
 2 0 ps.length none, C.nils, C.nils, C.nils, C.nils, C.nils, C.nils, C.nils, C.nils, C.nils, C.nils, C.nils, C.nils, C.nils, C.nils, C.nils, C.nils, C.nils, C.nils, C.nils, C.nils], Atom.arr Kd.rstr ts,
 Atom.arr Kd.int ps] ∧ ∀ (z : Unit), True → EndsAs (1 + 1 + 1) (ct_hold0 ts ps) (boolv true) [Atom.cells (40 : TypeId) [C.nils, C.nils, C.nils, C.nils, C.slc 1 0 ts.length none, C.slc 2 0 ps.length none,
 C.nils, C.nils, C.nils, C.nils, C.nils, C.nils, C.nils, C.nils, C.nils, C.nils, C.nils, C.nils, C.nils, C.nils, C.nils, C.nils, C.nils, C.nils, C.nils, C.nils], Atom.arr Kd.rstr ts, Atom.arr Kd.int ps]) := by kernel_rfl
theorem vc_h22 (ts : List RS) (ps : List Int) : evFn tab0 (ann1 (inv_hold0 49 ts ps)) Try.f22 (ct_hold0 ts ps) = ( Enter (1 + 1 + 1) (inv_hold0 49 ts ps) (fun (x : Unit) => True) [VV.one (V1.c (C.ptr 0 0 0)), VV.any, boolv false, i64 (0 : Int), VV.any, VV.any, VV.any, VV.any, VV.any, VV.any, VV.any, VV.any, VV.any,
 VV.any, VV.any, VV.any, VV.any, VV.any, VV.any, VV.any, VV.any, VV.any, VV.any, VV.any, VV.any, VV.any, VV.any, VV.any, VV.any, VV.any, VV.any, VV.any, VV.any, VV.any, VV.any, VV.any, VV.any, VV.any, VV.any,
 VV.any, VV.any, VV.any, VV.any, VV.any, VV.any, VV.any, VV.any, VV.any, VV.any, VV.any, VV.any, VV.any, VV.any] [Atom.cells (40 : TypeId) [C.nils, C.nils, C.nils, C.nils, C.slc 1 0 ts.length none, C.slc
 2 0 ps.length none, C.nils, C.nils, C.nils, C.nils, C.nils, C.nils, C.nils, C.nils, C.nils, C.nils, C.nils, C.nils, C.nils, C.nils, C.nils, C.nils, C.nils, C.nils, C.nils, C.nils], Atom.arr Kd.rstr ts,
 Atom.arr Kd.int ps] ∧ ∀ (z : Unit), True → EndsAs (1 + 1 + 1) (ct_hold0 ts ps) (boolv true) [Atom.cells (40 : TypeId) [C.nils, C.nils, C.nils, C.nils, C.slc 1 0 ts.length none, C.slc 2 0 ps.length none,
 C.nils, C.nils, C.nils, C.nils, C.nils, C.nils, C.nils, C.nils, C.nils, C.nils, C.nils, C.nils, C.nils, C.nils, C.nils, C.nils, C.nils, C.nils, C.nils, C.nils], Atom.arr Kd.rstr ts, Atom.arr Kd.int ps]) := by kernel_rfl
theorem vc_h23 (ts : List RS) (ps : List Int) : evFn tab0 (ann1 (inv_hold0 56 ts ps)) Try.f23 (ct_hold0 ts ps) = ( Enter (1 + 1 + 1) (inv_hold0 56 ts ps) (fun (x : Unit) => True) [VV.one (V1.c (C.ptr 0 0 0)), VV.any, boolv false, i64 (0 : Int), VV.any, VV.any, VV.any, VV.any, VV.any, VV.any, VV.any, VV.any, VV.any,
 VV.any, VV.any, VV.any, VV.any, VV.any, VV.any, VV.any, VV.any, VV.any, VV.any, VV.any, VV.any, VV.any, VV.any, VV.any, VV.any, VV.any, VV.any, VV.any, VV.any, VV.any, VV.any, VV.any, VV.any, VV.any, VV.any,
 VV.any, VV.any, VV.any, VV.any, VV.any, VV.any, VV.any, VV.any, VV.any, VV.any, VV.any, VV.any, VV.any, VV.any, VV.any, VV.any, VV.any, VV.any, VV.any, VV.any, VV.any] [Atom.cells (40 : TypeId) [C.nils,
 C.nils, C.nils, C.nils, C.slc 1 0 ts.length none, C.slc 2 0 ps.length none, C.nils, C.nils, C.nils, C.nils, C.nils, C.nils, C.nils, C.nils, C.nils, C.nils, C.nils, C.nils, C.nils, C.nils, C.nils, C.nils,
 C.nils, C.nils, C.nils, C.nils], Atom.arr Kd.rstr ts, Atom.arr Kd.int ps] ∧ ∀ (z : Unit), True → EndsAs (1 + 1 + 1) (ct_hold0 ts ps) (boolv true) [Atom.cells (40 : TypeId) [C.nils, C.nils, C.nils, C.nils,
 C.slc 1 0 ts.length none, C.slc 2 0 ps.length none, C.nils, C.nils, C.nils, C.nils, C.nils, C.nils, C.nils, C.nils, C.nils, C.nils, C.nils, C.nils, C.nils, C.nils, C.nils, C.nils, C.nils, C.nils, C.nils,
 C.nils], Atom.arr Kd.rstr ts, Atom.arr Kd.int ps]) := by kernel_rfl
theorem vc_h24 (ts : List RS) (ps : List Int) : evFn tab0 (ann1 (inv_hold0 60 ts ps)) Try.f24 (ct_hold0 ts ps) = ( Enter (1 + 1 + 1) (inv_hold0 60 ts ps) (fun (x : Unit) => True) [VV.one (V1.c (C.ptr 0 0 0)), VV.any, boolv false, i64 (0 : Int), VV.any, VV.any, VV.any, VV.any, VV.any, VV.any, VV.any, VV.any, VV.any,
 VV.any, VV.any, VV.any, VV.any, VV.any, VV.any, VV.any, VV.any, VV.any, VV.any, VV.any, VV.any, VV.any, VV.any, VV.any, VV.any, VV.any, VV.any, VV.any, VV.any, VV.any, VV.any, VV.any, VV.any, VV.any, VV.any,
 VV.any, VV.any, VV.any, VV.any, VV.any, VV.any, VV.any, VV.any, VV.any, VV.any, VV.any, VV.any, VV.any, VV.any, VV.any, VV.any, VV.any, VV.any, VV.any, VV.any, VV.any, VV.any, VV.any, VV.any, VV.any] [Atom.cells
 (40 : TypeId) [C.nils, C.nils, C.nils, C.nils, C.slc 1 0 ts.length none, C.slc 2 0 ps.length none, C.nils, C.nils, C.nils, C.nils, C.nils, C.nils, C.nils, C.nils, C.nils, C.nils, C.nils, C.nils, C.nils,
 C.nils, C.nils, C.nils, C.nils, C.nils, C.nils, C.nils], Atom.arr Kd.rstr ts, Atom.arr Kd.int ps] ∧ ∀ (z : Unit), True → EndsAs (1 + 1 + 1) (ct_hold0 ts ps) (boolv true) [Atom.cells (40 : TypeId) [C.nils,
 C.nils, C.nils, C.nils, C.slc 1 0 ts.length none, C.slc 2 0 ps.length none, C.nils, C.nils, C.nils, C.nils, C.nils, C.nils, C.nils, C.nils, C.nils, C.nils, C.nils, C.nils, C.nils, C.nils, C.nils, C.nils,
 C.nils, C.nils, C.nils, C.nils], Atom.arr Kd.rstr ts, Atom.arr Kd.int ps]) := by kernel_rfl
theorem vc_h25 (ts : List RS) (ps : List Int) : evFn tab0 (ann1 (inv_hold0 55 ts ps)) Try.f25 (ct_hold0 ts ps) = ( Enter (1 + 1 + 1) (inv_hold0 55 ts ps) (fun (x : Unit) => True) [VV.one (V1.c (C.ptr 0 0 0)), VV.any, boolv false, i64 (0 : Int), VV.any, VV.any, VV.any, VV.any, VV.any, VV.any, VV.any, VV.any, VV.any,
 VV.any, VV.any, VV.any, VV.any, VV.any, VV.any, VV.any, VV.any, VV.any, VV.any, VV.any, VV.any, VV.any, VV.any, VV.any, VV.any, VV.any, VV.any, VV.any, VV.any, VV.any, VV.any, VV.any, VV.any, VV.any, VV.any,
 VV.any, VV.any, VV.any, VV.any, VV.any, VV.any, VV.any, VV.any, VV.any, VV.any, VV.any, VV.any, VV.any, VV.any, VV.any, VV.any, VV.any, VV.any, VV.any, VV.any] [Atom.cells (40 : TypeId) [C.nils, C.nils,
 C.nils, C.nils, C.slc 1 0 ts.length none, C.slc 2 0 ps.length none, C.nils, C.nils, C.nils, C.nils, C.nils, C.nils, C.nils, C.nils, C.nils, C.nils, C.nils, C.nils, C.nils, C.nils, C.nils, C.nils, C.nils,
 C.nils, C.nils, C.nils], Atom.arr Kd.rstr ts, Atom.arr Kd.int ps] ∧ ∀ (z : Unit), True → EndsAs (1 + 1 + 1) (ct_hold0 ts ps) (boolv true) [Atom.cells (40 : TypeId) [C.nils, C.nils, C.nils, C.nils, C.slc
 1 0 ts.length none, C.slc 2 0 ps.length none, C.nils, C.nils, C.nils, C.nils, C.nils, C.nils, C.nils, C.nils, C.nils, C.nils, C.nils, C.nils, C.nils, C.nils, C.nils, C.nils, C.nils, C.nils, C.nils, C.nils],
 Atom.arr Kd.rstr ts, Atom.arr Kd.int ps]) := by kernel_rfl
theorem vc_h26 (ts : List RS) (ps : List Int) : evFn tab0 (ann1 (inv_hold0 55 ts ps)) Try.f26 (ct_hold0 ts ps) = ( Enter (1 + 1 + 1) (inv_hold0 55 ts ps) (fun (x : Unit) => True) [VV.one (V1.c (C.ptr 0 0 0)), VV.any, boolv false, i64 (0 : Int), VV.any, VV.any, VV.any, VV.any, VV.any, VV.any, VV.any, VV.any, VV.any,
 VV.any, VV.any, VV.any, VV.any, VV.any, VV.any, VV.any, VV.any, VV.any, VV.any, VV.any, VV.any, VV.any, VV.any, VV.any, VV.any, VV.any, VV.any, VV.any, VV.any, VV.any, VV.any, VV.any, VV.any, VV.any, VV.any,
 VV.any, VV.any, VV.any, VV.any, VV.any, VV.any, VV.any, VV.any, VV.any, VV.any, VV.any, VV.any, VV.any, VV.any, VV.any, VV.any, VV.any, VV.any, VV.any, VV.any] [Atom.cells (40 : TypeId) [C.nils, C.nils,
 C.nils, C.nils, C.slc 1 0 ts.length none, C.slc 2 0 ps.length none, C.nils, C.nils, C.nils, C.nils, C.nils, C.nils, C.nils, C.nils, C.nils, C.nils, C.nils, C.nils, C.nils, C.nils, C.nils, C.nils, C.nils,
 C.nils, C.nils, C.nils], Atom.arr Kd.rstr ts, Atom.arr Kd.int ps] ∧ ∀ (z : Unit), True → EndsAs (1 + 1 + 1) (ct_hold0 ts ps) (boolv true) [Atom.cells (40 : TypeId) [C.nils, C.nils, C.nils, C.nils, C.slc
 1 0 ts.length none, C.slc 2 0 ps.length none, C.nils, C.nils, C.nils, C.nils, C.nils, C.nils, C.nils, C.nils, C.nils, C.nils, C.nils, C.nils, C.nils, C.nils, C.nils, C.nils, C.nils, C.nils, C.nils, C.nils],
 Atom.arr Kd.rstr ts, Atom.arr Kd.int ps]) := by kernel_rfl
theorem vc_h27 (ts : List RS) (ps : List Int) : evFn tab0 (ann1 (inv_hold0 61 ts ps)) Try.f27 (ct_hold0 ts ps) = ( Enter (1 + 1 + 1) (inv_hold0 61 ts ps) (fun (x : Unit) => True) [VV.one (V1.c (C.ptr 0 0 0)), VV.any, boolv false, i64 (0 : Int), VV.any, VV.any, VV.any, VV.any, VV.any, VV.any, VV.any, VV.any, VV.any,
 VV.any, VV.any, VV.any, VV.any, VV.any, VV.any, VV.any, VV.any, VV.any, VV.any, VV.any, VV.any, VV.any, VV.any, VV.any, VV.any, VV.any, VV.any, VV.any, VV.any, VV.any, VV.any, VV.any, VV.any, VV.any, VV.any,
 VV.any, VV.any, VV.any, VV.any, VV.any, VV.any, VV.any, VV.any, VV.any, VV.any, VV.any, VV.any, VV.any, VV.any, VV.any, VV.any, VV.any, VV.any, VV.any, VV.any, VV.any, VV.any, VV.any, VV.any, VV.any, VV.any]
 [Atom.cells (40 : TypeId) [C.nils, C.nils, C.nils, C.nils, C.slc 1 0 ts.length none, C.slc 2 0 ps.length none, C.nils, C.nils, C.nils, C.nils, C.nils, C.nils, C.nils, C.nils, C.nils, C.nils, C.nils, C.nils,
 C.nils, C.nils, C.nils, C.nils, C.nils, C.nils, C.nils, C.nils], Atom.arr Kd.rstr ts, Atom.arr Kd.int ps] ∧ ∀ (z : Unit), True → EndsAs (1 + 1 + 1) (ct_hold0 ts ps) (boolv true) [Atom.cells (40 : TypeId)
 [C.nils, C.nils, C.nils, C.nils, C.slc 1 0 ts.length none, C.slc 2 0 ps.length none, C.nils, C.nils, C.nils, C.nils, C.nils, C.nils, C.nils, C.nils, C.nils, C.nils, C.nils, C.nils, C.nils, C.nils, C.nils,
 C.nils, C.nils, C.nils, C.nils, C.nils], Atom.arr Kd.rstr ts, Atom.arr Kd.int ps]) := by kernel_rfl
theorem h15_ok (ts : List RS) (ps : List Int) : CtOk Try.prog 15 (ct_hold0 ts ps) := CtOk_of KK_ok tab0 (ann1 (inv_hold0 49 ts ps)) (fn := Try.f15) rfl (fun _ _ => rfl) fun hn => by
  rw [vc_h15]
  exact ⟨⟨(), [], [0, 1, 2], trivial, trivial, into_mk (by kernel_rfl) (by (repeat' first | exact trivial | exact rfl | apply And.intro)) (by (repeat' first | exact trivial | exact rfl | apply And.intro))⟩, fun z hz => ⟨(), [], [0, 1, 2], trivial, by (repeat' first | exact trivial | exact rfl | apply And.intro)⟩⟩
theorem h16_ok (ts : List RS) (ps : List Int) : CtOk Try.prog 16 (ct_hold0 ts ps) := CtOk_of KK_ok tab0 (ann1 (inv_hold0 48 ts ps)) (fn := Try.f16) rfl (fun _ _ => rfl) fun hn => by
  rw [vc_h16]
  exact ⟨⟨(), [], [0, 1, 2], trivial, trivial, into_mk (by kernel_rfl) (by (repeat' first | exact trivial | exact rfl | apply And.intro)) (by (repeat' first | exact trivial | exact rfl | apply And.intro))⟩, fun z hz => ⟨(), [], [0, 1, 2], trivial, by (repeat' first | exact trivial | exact rfl | apply And.intro)⟩⟩
theorem h18_ok (ts : List RS) (ps : List Int) : CtOk Try.prog 18 (ct_hold0 ts ps) := CtOk_of KK_ok tab0 (ann1 (inv_hold0 49 ts ps)) (fn := Try.f18) rfl (fun _ _ => rfl) fun hn => by
  rw [vc_h18]
  exact ⟨⟨(), [], [0, 1, 2], trivial, trivial, into_mk (by kernel_rfl) (by (repeat' first | exact trivial | exact rfl | apply And.intro)) (by (repeat' first | exact trivial | exact rfl | apply And.intro))⟩, fun z hz => ⟨(), [], [0, 1, 2], trivial, by (repeat' first | exact trivial | exact rfl | apply And.intro)⟩⟩
theorem h19_ok (ts : List RS) (ps : List Int) : CtOk Try.prog 19 (ct_hold0 ts ps) := CtOk_of KK_ok tab0 (ann1 (inv_hold0 49 ts ps)) (fn := Try.f19) rfl (fun _ _ => rfl) fun hn => by
  rw [vc_h19]
  exact ⟨⟨(), [], [0, 1, 2], trivial, trivial, into_mk (by kernel_rfl) (by (repeat' first | exact trivial | exact rfl | apply And.intro)) (by (repeat' first | exact trivial | exact rfl | apply And.intro))⟩, fun z hz => ⟨(), [], [0, 1, 2], trivial, by (repeat' first | exact trivial | exact rfl | apply And.intro)⟩⟩
theorem h20_ok (ts : List RS) (ps : List Int) : CtOk Try.prog 20 (ct_hold0 ts ps) := CtOk_of KK_ok tab0 (ann1 (inv_hold0 49 ts ps)) (fn := Try.f20) rfl (fun _ _ => rfl) fun hn => by
  rw [vc_h20]
  exact ⟨⟨(), [], [0, 1, 2], trivial, trivial, into_mk (by kernel_rfl) (by (repeat' first | exact trivial | exact rfl | apply And.intro)) (by (repeat' first | exact trivial | exact rfl | apply And.intro))⟩, fun z hz => ⟨(), [], [0, 1, 2], trivial, by (repeat' first | exact trivial | exact rfl | apply And.intro)⟩⟩
theorem h21_ok (ts : List RS) (ps : List Int) : CtOk Try.prog 21 (ct_hold0 ts ps) := CtOk_of KK_ok tab0 (ann1 (inv_hold0 49 ts ps)) (fn := Try.f21) rfl (fun _ _ => rfl) fun hn => by
  rw [vc_h21]
  exact ⟨⟨(), [], [0, 1, 2], trivial, trivial, into_mk (by kernel_rfl) (by (repeat' first | exact trivial | exact rfl | apply And.intro)) (by (repeat' first | exact trivial | exact rfl | apply And.intro))⟩, fun z hz => ⟨(), [], [0, 1, 2], trivial, by (repeat' first | exact trivial | exact rfl | apply And.intro)⟩⟩
theorem h22_ok (ts : List RS) (ps : List Int) : CtOk Try.prog 22 (ct_hold0 ts ps) := CtOk_of KK_ok tab0 (ann1 (inv_hold0 49 ts ps)) (fn := Try.f22) rfl (fun _ _ => rfl) fun hn => by
  rw [vc_h22]
  exact ⟨⟨(), [], [0, 1, 2], trivial, trivial, into_mk (by kernel_rfl) (by (repeat' first | exact trivial | exact rfl | apply And.intro)) (by (repeat' first | exact trivial | exact rfl | apply And.intro))⟩, fun z hz => ⟨(), [], [0, 1, 2], trivial, by (repeat' first | exact trivial | exact rfl | apply And.intro)⟩⟩
theorem h23_ok (ts : List RS) (ps : List Int) : CtOk Try.prog 23 (ct_hold0 ts ps) := CtOk_of KK_ok tab0 (ann1 (inv_hold0 56 ts ps)) (fn := Try.f23) rfl (fun _ _ => rfl) fun hn => by
  rw [vc_h23]
  exact ⟨⟨(), [], [0, 1, 2], trivial, trivial, into_mk (by kernel_rfl) (by (repeat' first | exact trivial | exact rfl | apply And.intro)) (by (repeat' first | exact trivial | exact rfl | apply And.intro))⟩, fun z hz => ⟨(), [], [0, 1, 2], trivial, by (repeat' first | exact trivial | exact rfl | apply And.intro)⟩⟩
theorem h24_ok (ts : List RS) (ps : List Int) : CtOk Try.prog 24 (ct_hold0 ts ps) := CtOk_of KK_ok tab0 (ann1 (inv_hold0 60 ts ps)) (fn := Try.f24) rfl (fun _ _ => rfl) fun hn => by
  rw [vc_h24]
  exact ⟨⟨(), [], [0, 1, 2], trivial, trivial, into_mk (by kernel_rfl) (by (repeat' first | exact trivial | exact rfl | apply And.intro)) (by (repeat' first | exact trivial | exact rfl | apply And.intro))⟩, fun z hz => ⟨(), [], [0, 1, 2], trivial, by (repeat' first | exact trivial | exact rfl | apply And.intro)⟩⟩
theorem h25_ok (ts : List RS) (ps : List Int) : CtOk Try.prog 25 (ct_hold0 ts ps) := CtOk_of KK_ok tab0 (ann1 (inv_hold0 55 ts ps)) (fn := Try.f25) rfl (fun _ _ => rfl) fun hn => by
  rw [vc_h25]
  exact ⟨⟨(), [], [0, 1, 2], trivial, trivial, into_mk (by kernel_rfl) (by (repeat' first | exact trivial | exact rfl | apply And.intro)) (by (repeat' first | exact trivial | exact rfl | apply And.intro))⟩, fun z hz => ⟨(), [], [0, 1, 2], trivial, by (repeat' first | exact trivial | exact rfl | apply And.intro)⟩⟩
theorem h26_ok (ts : List RS) (ps : List Int) : CtOk Try.prog 26 (ct_hold0 ts ps) := CtOk_of KK_ok tab0 (ann1 (inv_hold0 55 ts ps)) (fn := Try.f26) rfl (fun _ _ => rfl) fun hn => by
  rw [vc_h26]
  exact ⟨⟨(), [], [0, 1, 2], trivial, trivial, into_mk (by kernel_rfl) (by (repeat' first | exact trivial | exact rfl | apply And.intro)) (by (repeat' first | exact trivial | exact rfl | apply And.intro))⟩, fun z hz => ⟨(), [], [0, 1, 2], trivial, by (repeat' first | exact trivial | exact rfl | apply And.intro)⟩⟩
theorem h27_ok (ts : List RS) (ps : List Int) : CtOk Try.prog 27 (ct_hold0 ts ps) := CtOk_of KK_ok tab0 (ann1 (inv_hold0 61 ts ps)) (fn := Try.f27) rfl (fun _ _ => rfl) fun hn => by
  rw [vc_h27]
  exact ⟨⟨(), [], [0, 1, 2], trivial, trivial, into_mk (by kernel_rfl) (by (repeat' first | exact trivial | exact rfl | apply And.intro)) (by (repeat' first | exact trivial | exact rfl | apply And.intro))⟩, fun z hz => ⟨(), [], [0, 1, 2], trivial, by (repeat' first | exact trivial | exact rfl | apply And.intro)⟩⟩
end Go.Proofs.Ytnmidichehjbgaa.T
