/- The room: what has no list of a kind holds. -/
import Derived.Test.YtndlpbheifalhaaGreatDoorK3
namespace Go.Proofs.YtndlpbheifalhaaGreatDoor.T
open Go.Proofs.YtndlpbheifalhaaGreatDoor.E
set_option maxRecDepth 100000
set_option linter.unusedVariables false
def roomC (t a : C) : List C := [t, a, .nils, .nils, .nils, .nils, .nils, .nils, .nils, .nils, .nils, .nils, .nils, .nils, .nils, .nils, .nils, .nils, .nils, .nils, .nils, .nils, .nils, .nils, .nils, .nils]
def roomH (ts : List RS) (ps : List Int) : VH KK := [.cells 40 (roomC (.slc 1 0 ts.length none) (.slc 2 0 ps.length none)), .arr .ru8 ts, .arr .int ps]
def ct_hold0 (ts : List RS) (ps : List Int) : Ct KK := { need := True, pre := roomH ts ps, args := [.c (.ptr 0 0 0)], Y := Unit, ok := fun _ => True, ret := fun _ => boolv true, post := fun _ => roomH ts ps }
def inv_hold0 (n : Nat) (ts : List RS) (ps : List Int) : Inv KK := { X := Unit, fr := fun _ => [.c (.ptr 0 0 0), .any, .any, i64 0] ++ anys n, H := fun _ => roomH ts ps, ok := fun _ => True, meas := fun _ => 0 }
theorem vc_rInts (ts : List RS) (ps : List Int) : evFn tab0 (ann1 (inv_hold0 (52 - 4) ts ps)) Tryz.f22 (ct_hold0 ts ps) = ( Enter 3 (inv_hold0 48 ts ps) (fun (x : Unit) => True) ([VV.one (V1.c (C.ptr 0 0 0)), VV.any, boolv false, i64 (0 : Int)] ++ anys 48) [Atom.cells (40 : TypeId) [C.slc 1 0 ts.length none, C.slc 2 0 ps.length
 none, C.nils, C.nils, C.nils, C.nils, C.nils, C.nils, C.nils, C.nils, C.nils, C.nils, C.nils, C.nils, C.nils, C.nils, C.nils, C.nils, C.nils, C.nils, C.nils, C.nils, C.nils, C.nils, C.nils, C.nils], Atom.arr
 Kd.ru8 ts, Atom.arr Kd.int ps] ∧ ∀ (z : Unit), True → EndsAs 3 (ct_hold0 ts ps) (boolv true) [Atom.cells (40 : TypeId) [C.slc 1 0 ts.length none, C.slc 2 0 ps.length none, C.nils, C.nils, C.nils, C.nils,
 C.nils, C.nils, C.nils, C.nils, C.nils, C.nils, C.nils, C.nils, C.nils, C.nils, C.nils, C.nils, C.nils, C.nils, C.nils, C.nils, C.nils, C.nils, C.nils, C.nils], Atom.arr Kd.ru8 ts, Atom.arr Kd.int ps]) := by kernel_rfl
theorem vc_rTexts (ts : List RS) (ps : List Int) : evFn tab0 (ann1 (inv_hold0 (52 - 4) ts ps)) Tryz.f23 (ct_hold0 ts ps) = ( Enter 3 (inv_hold0 48 ts ps) (fun (x : Unit) => True) ([VV.one (V1.c (C.ptr 0 0 0)), VV.any, boolv false, i64 (0 : Int)] ++ anys 48) [Atom.cells (40 : TypeId) [C.slc 1 0 ts.length none, C.slc 2 0 ps.length
 none, C.nils, C.nils, C.nils, C.nils, C.nils, C.nils, C.nils, C.nils, C.nils, C.nils, C.nils, C.nils, C.nils, C.nils, C.nils, C.nils, C.nils, C.nils, C.nils, C.nils, C.nils, C.nils, C.nils, C.nils], Atom.arr
 Kd.ru8 ts, Atom.arr Kd.int ps] ∧ ∀ (z : Unit), True → EndsAs 3 (ct_hold0 ts ps) (boolv true) [Atom.cells (40 : TypeId) [C.slc 1 0 ts.length none, C.slc 2 0 ps.length none, C.nils, C.nils, C.nils, C.nils,
 C.nils, C.nils, C.nils, C.nils, C.nils, C.nils, C.nils, C.nils, C.nils, C.nils, C.nils, C.nils, C.nils, C.nils, C.nils, C.nils, C.nils, C.nils, C.nils, C.nils], Atom.arr Kd.ru8 ts, Atom.arr Kd.int ps]) := by kernel_rfl
theorem vc_rChanges (ts : List RS) (ps : List Int) : evFn tab0 (ann1 (inv_hold0 (53 - 4) ts ps)) Tryz.f24 (ct_hold0 ts ps) = ( Enter 3 (inv_hold0 49 ts ps) (fun (x : Unit) => True) ([VV.one (V1.c (C.ptr 0 0 0)), VV.any, boolv false, i64 (0 : Int)] ++ anys 49) [Atom.cells (40 : TypeId) [C.slc 1 0 ts.length none, C.slc 2 0 ps.length
 none, C.nils, C.nils, C.nils, C.nils, C.nils, C.nils, C.nils, C.nils, C.nils, C.nils, C.nils, C.nils, C.nils, C.nils, C.nils, C.nils, C.nils, C.nils, C.nils, C.nils, C.nils, C.nils, C.nils, C.nils], Atom.arr
 Kd.ru8 ts, Atom.arr Kd.int ps] ∧ ∀ (z : Unit), True → EndsAs 3 (ct_hold0 ts ps) (boolv true) [Atom.cells (40 : TypeId) [C.slc 1 0 ts.length none, C.slc 2 0 ps.length none, C.nils, C.nils, C.nils, C.nils,
 C.nils, C.nils, C.nils, C.nils, C.nils, C.nils, C.nils, C.nils, C.nils, C.nils, C.nils, C.nils, C.nils, C.nils, C.nils, C.nils, C.nils, C.nils, C.nils, C.nils], Atom.arr Kd.ru8 ts, Atom.arr Kd.int ps]) := by kernel_rfl
theorem vc_rCells (ts : List RS) (ps : List Int) : evFn tab0 (ann1 (inv_hold0 (53 - 4) ts ps)) Tryz.f25 (ct_hold0 ts ps) = ( Enter 3 (inv_hold0 49 ts ps) (fun (x : Unit) => True) ([VV.one (V1.c (C.ptr 0 0 0)), VV.any, boolv false, i64 (0 : Int)] ++ anys 49) [Atom.cells (40 : TypeId) [C.slc 1 0 ts.length none, C.slc 2 0 ps.length
 none, C.nils, C.nils, C.nils, C.nils, C.nils, C.nils, C.nils, C.nils, C.nils, C.nils, C.nils, C.nils, C.nils, C.nils, C.nils, C.nils, C.nils, C.nils, C.nils, C.nils, C.nils, C.nils, C.nils, C.nils], Atom.arr
 Kd.ru8 ts, Atom.arr Kd.int ps] ∧ ∀ (z : Unit), True → EndsAs 3 (ct_hold0 ts ps) (boolv true) [Atom.cells (40 : TypeId) [C.slc 1 0 ts.length none, C.slc 2 0 ps.length none, C.nils, C.nils, C.nils, C.nils,
 C.nils, C.nils, C.nils, C.nils, C.nils, C.nils, C.nils, C.nils, C.nils, C.nils, C.nils, C.nils, C.nils, C.nils, C.nils, C.nils, C.nils, C.nils, C.nils, C.nils], Atom.arr Kd.ru8 ts, Atom.arr Kd.int ps]) := by kernel_rfl
theorem vc_rItems (ts : List RS) (ps : List Int) : evFn tab0 (ann1 (inv_hold0 (53 - 4) ts ps)) Tryz.f26 (ct_hold0 ts ps) = ( Enter 3 (inv_hold0 49 ts ps) (fun (x : Unit) => True) ([VV.one (V1.c (C.ptr 0 0 0)), VV.any, boolv false, i64 (0 : Int)] ++ anys 49) [Atom.cells (40 : TypeId) [C.slc 1 0 ts.length none, C.slc 2 0 ps.length
 none, C.nils, C.nils, C.nils, C.nils, C.nils, C.nils, C.nils, C.nils, C.nils, C.nils, C.nils, C.nils, C.nils, C.nils, C.nils, C.nils, C.nils, C.nils, C.nils, C.nils, C.nils, C.nils, C.nils, C.nils], Atom.arr
 Kd.ru8 ts, Atom.arr Kd.int ps] ∧ ∀ (z : Unit), True → EndsAs 3 (ct_hold0 ts ps) (boolv true) [Atom.cells (40 : TypeId) [C.slc 1 0 ts.length none, C.slc 2 0 ps.length none, C.nils, C.nils, C.nils, C.nils,
 C.nils, C.nils, C.nils, C.nils, C.nils, C.nils, C.nils, C.nils, C.nils, C.nils, C.nils, C.nils, C.nils, C.nils, C.nils, C.nils, C.nils, C.nils, C.nils, C.nils], Atom.arr Kd.ru8 ts, Atom.arr Kd.int ps]) := by kernel_rfl
theorem vc_rPlaceds (ts : List RS) (ps : List Int) : evFn tab0 (ann1 (inv_hold0 (53 - 4) ts ps)) Tryz.f27 (ct_hold0 ts ps) = ( Enter 3 (inv_hold0 49 ts ps) (fun (x : Unit) => True) ([VV.one (V1.c (C.ptr 0 0 0)), VV.any, boolv false, i64 (0 : Int)] ++ anys 49) [Atom.cells (40 : TypeId) [C.slc 1 0 ts.length none, C.slc 2 0 ps.length
 none, C.nils, C.nils, C.nils, C.nils, C.nils, C.nils, C.nils, C.nils, C.nils, C.nils, C.nils, C.nils, C.nils, C.nils, C.nils, C.nils, C.nils, C.nils, C.nils, C.nils, C.nils, C.nils, C.nils, C.nils], Atom.arr
 Kd.ru8 ts, Atom.arr Kd.int ps] ∧ ∀ (z : Unit), True → EndsAs 3 (ct_hold0 ts ps) (boolv true) [Atom.cells (40 : TypeId) [C.slc 1 0 ts.length none, C.slc 2 0 ps.length none, C.nils, C.nils, C.nils, C.nils,
 C.nils, C.nils, C.nils, C.nils, C.nils, C.nils, C.nils, C.nils, C.nils, C.nils, C.nils, C.nils, C.nils, C.nils, C.nils, C.nils, C.nils, C.nils, C.nils, C.nils], Atom.arr Kd.ru8 ts, Atom.arr Kd.int ps]) := by kernel_rfl
theorem vc_rRules (ts : List RS) (ps : List Int) : evFn tab0 (ann1 (inv_hold0 (53 - 4) ts ps)) Tryz.f28 (ct_hold0 ts ps) = ( Enter 3 (inv_hold0 49 ts ps) (fun (x : Unit) => True) ([VV.one (V1.c (C.ptr 0 0 0)), VV.any, boolv false, i64 (0 : Int)] ++ anys 49) [Atom.cells (40 : TypeId) [C.slc 1 0 ts.length none, C.slc 2 0 ps.length
 none, C.nils, C.nils, C.nils, C.nils, C.nils, C.nils, C.nils, C.nils, C.nils, C.nils, C.nils, C.nils, C.nils, C.nils, C.nils, C.nils, C.nils, C.nils, C.nils, C.nils, C.nils, C.nils, C.nils, C.nils], Atom.arr
 Kd.ru8 ts, Atom.arr Kd.int ps] ∧ ∀ (z : Unit), True → EndsAs 3 (ct_hold0 ts ps) (boolv true) [Atom.cells (40 : TypeId) [C.slc 1 0 ts.length none, C.slc 2 0 ps.length none, C.nils, C.nils, C.nils, C.nils,
 C.nils, C.nils, C.nils, C.nils, C.nils, C.nils, C.nils, C.nils, C.nils, C.nils, C.nils, C.nils, C.nils, C.nils, C.nils, C.nils, C.nils, C.nils, C.nils, C.nils], Atom.arr Kd.ru8 ts, Atom.arr Kd.int ps]) := by kernel_rfl
theorem vc_rChunks (ts : List RS) (ps : List Int) : evFn tab0 (ann1 (inv_hold0 (60 - 4) ts ps)) Tryz.f29 (ct_hold0 ts ps) = ( Enter 3 (inv_hold0 56 ts ps) (fun (x : Unit) => True) ([VV.one (V1.c (C.ptr 0 0 0)), VV.any, boolv false, i64 (0 : Int)] ++ anys 56) [Atom.cells (40 : TypeId) [C.slc 1 0 ts.length none, C.slc 2 0 ps.length
 none, C.nils, C.nils, C.nils, C.nils, C.nils, C.nils, C.nils, C.nils, C.nils, C.nils, C.nils, C.nils, C.nils, C.nils, C.nils, C.nils, C.nils, C.nils, C.nils, C.nils, C.nils, C.nils, C.nils, C.nils], Atom.arr
 Kd.ru8 ts, Atom.arr Kd.int ps] ∧ ∀ (z : Unit), True → EndsAs 3 (ct_hold0 ts ps) (boolv true) [Atom.cells (40 : TypeId) [C.slc 1 0 ts.length none, C.slc 2 0 ps.length none, C.nils, C.nils, C.nils, C.nils,
 C.nils, C.nils, C.nils, C.nils, C.nils, C.nils, C.nils, C.nils, C.nils, C.nils, C.nils, C.nils, C.nils, C.nils, C.nils, C.nils, C.nils, C.nils, C.nils, C.nils], Atom.arr Kd.ru8 ts, Atom.arr Kd.int ps]) := by kernel_rfl
theorem vc_rThings (ts : List RS) (ps : List Int) : evFn tab0 (ann1 (inv_hold0 (64 - 4) ts ps)) Tryz.f30 (ct_hold0 ts ps) = ( Enter 3 (inv_hold0 60 ts ps) (fun (x : Unit) => True) ([VV.one (V1.c (C.ptr 0 0 0)), VV.any, boolv false, i64 (0 : Int)] ++ anys 60) [Atom.cells (40 : TypeId) [C.slc 1 0 ts.length none, C.slc 2 0 ps.length
 none, C.nils, C.nils, C.nils, C.nils, C.nils, C.nils, C.nils, C.nils, C.nils, C.nils, C.nils, C.nils, C.nils, C.nils, C.nils, C.nils, C.nils, C.nils, C.nils, C.nils, C.nils, C.nils, C.nils, C.nils], Atom.arr
 Kd.ru8 ts, Atom.arr Kd.int ps] ∧ ∀ (z : Unit), True → EndsAs 3 (ct_hold0 ts ps) (boolv true) [Atom.cells (40 : TypeId) [C.slc 1 0 ts.length none, C.slc 2 0 ps.length none, C.nils, C.nils, C.nils, C.nils,
 C.nils, C.nils, C.nils, C.nils, C.nils, C.nils, C.nils, C.nils, C.nils, C.nils, C.nils, C.nils, C.nils, C.nils, C.nils, C.nils, C.nils, C.nils, C.nils, C.nils], Atom.arr Kd.ru8 ts, Atom.arr Kd.int ps]) := by kernel_rfl
theorem vc_rDones (ts : List RS) (ps : List Int) : evFn tab0 (ann1 (inv_hold0 (59 - 4) ts ps)) Tryz.f31 (ct_hold0 ts ps) = ( Enter 3 (inv_hold0 55 ts ps) (fun (x : Unit) => True) ([VV.one (V1.c (C.ptr 0 0 0)), VV.any, boolv false, i64 (0 : Int)] ++ anys 55) [Atom.cells (40 : TypeId) [C.slc 1 0 ts.length none, C.slc 2 0 ps.length
 none, C.nils, C.nils, C.nils, C.nils, C.nils, C.nils, C.nils, C.nils, C.nils, C.nils, C.nils, C.nils, C.nils, C.nils, C.nils, C.nils, C.nils, C.nils, C.nils, C.nils, C.nils, C.nils, C.nils, C.nils], Atom.arr
 Kd.ru8 ts, Atom.arr Kd.int ps] ∧ ∀ (z : Unit), True → EndsAs 3 (ct_hold0 ts ps) (boolv true) [Atom.cells (40 : TypeId) [C.slc 1 0 ts.length none, C.slc 2 0 ps.length none, C.nils, C.nils, C.nils, C.nils,
 C.nils, C.nils, C.nils, C.nils, C.nils, C.nils, C.nils, C.nils, C.nils, C.nils, C.nils, C.nils, C.nils, C.nils, C.nils, C.nils, C.nils, C.nils, C.nils, C.nils], Atom.arr Kd.ru8 ts, Atom.arr Kd.int ps]) := by kernel_rfl
theorem vc_rNodes (ts : List RS) (ps : List Int) : evFn tab0 (ann1 (inv_hold0 (59 - 4) ts ps)) Tryz.f32 (ct_hold0 ts ps) = ( Enter 3 (inv_hold0 55 ts ps) (fun (x : Unit) => True) ([VV.one (V1.c (C.ptr 0 0 0)), VV.any, boolv false, i64 (0 : Int)] ++ anys 55) [Atom.cells (40 : TypeId) [C.slc 1 0 ts.length none, C.slc 2 0 ps.length
 none, C.nils, C.nils, C.nils, C.nils, C.nils, C.nils, C.nils, C.nils, C.nils, C.nils, C.nils, C.nils, C.nils, C.nils, C.nils, C.nils, C.nils, C.nils, C.nils, C.nils, C.nils, C.nils, C.nils, C.nils], Atom.arr
 Kd.ru8 ts, Atom.arr Kd.int ps] ∧ ∀ (z : Unit), True → EndsAs 3 (ct_hold0 ts ps) (boolv true) [Atom.cells (40 : TypeId) [C.slc 1 0 ts.length none, C.slc 2 0 ps.length none, C.nils, C.nils, C.nils, C.nils,
 C.nils, C.nils, C.nils, C.nils, C.nils, C.nils, C.nils, C.nils, C.nils, C.nils, C.nils, C.nils, C.nils, C.nils, C.nils, C.nils, C.nils, C.nils, C.nils, C.nils], Atom.arr Kd.ru8 ts, Atom.arr Kd.int ps]) := by kernel_rfl
theorem vc_rSteps (ts : List RS) (ps : List Int) : evFn tab0 (ann1 (inv_hold0 (65 - 4) ts ps)) Tryz.f33 (ct_hold0 ts ps) = ( Enter 3 (inv_hold0 61 ts ps) (fun (x : Unit) => True) ([VV.one (V1.c (C.ptr 0 0 0)), VV.any, boolv false, i64 (0 : Int)] ++ anys 61) [Atom.cells (40 : TypeId) [C.slc 1 0 ts.length none, C.slc 2 0 ps.length
 none, C.nils, C.nils, C.nils, C.nils, C.nils, C.nils, C.nils, C.nils, C.nils, C.nils, C.nils, C.nils, C.nils, C.nils, C.nils, C.nils, C.nils, C.nils, C.nils, C.nils, C.nils, C.nils, C.nils, C.nils], Atom.arr
 Kd.ru8 ts, Atom.arr Kd.int ps] ∧ ∀ (z : Unit), True → EndsAs 3 (ct_hold0 ts ps) (boolv true) [Atom.cells (40 : TypeId) [C.slc 1 0 ts.length none, C.slc 2 0 ps.length none, C.nils, C.nils, C.nils, C.nils,
 C.nils, C.nils, C.nils, C.nils, C.nils, C.nils, C.nils, C.nils, C.nils, C.nils, C.nils, C.nils, C.nils, C.nils, C.nils, C.nils, C.nils, C.nils, C.nils, C.nils], Atom.arr Kd.ru8 ts, Atom.arr Kd.int ps]) := by kernel_rfl
theorem rInts_ok (ts : List RS) (ps : List Int) : CtOk Tryz.prog 22 (ct_hold0 ts ps) := CtOk_of KK_ok tab0 (ann1 (inv_hold0 (52 - 4) ts ps)) (fn := Tryz.f22) rfl (fun _ _ => rfl) fun hn => by
  rw [vc_rInts]
  exact ⟨⟨(), [], [0, 1, 2], trivial, trivial, into_mk (by kernel_rfl) (by (repeat' first | exact trivial | exact rfl | apply And.intro)) (by (repeat' first | exact trivial | exact rfl | apply And.intro))⟩, fun z hz => ⟨(), [], [0, 1, 2], trivial, by (repeat' first | exact trivial | exact rfl | apply And.intro)⟩⟩
theorem rTexts_ok (ts : List RS) (ps : List Int) : CtOk Tryz.prog 23 (ct_hold0 ts ps) := CtOk_of KK_ok tab0 (ann1 (inv_hold0 (52 - 4) ts ps)) (fn := Tryz.f23) rfl (fun _ _ => rfl) fun hn => by
  rw [vc_rTexts]
  exact ⟨⟨(), [], [0, 1, 2], trivial, trivial, into_mk (by kernel_rfl) (by (repeat' first | exact trivial | exact rfl | apply And.intro)) (by (repeat' first | exact trivial | exact rfl | apply And.intro))⟩, fun z hz => ⟨(), [], [0, 1, 2], trivial, by (repeat' first | exact trivial | exact rfl | apply And.intro)⟩⟩
theorem rChanges_ok (ts : List RS) (ps : List Int) : CtOk Tryz.prog 24 (ct_hold0 ts ps) := CtOk_of KK_ok tab0 (ann1 (inv_hold0 (53 - 4) ts ps)) (fn := Tryz.f24) rfl (fun _ _ => rfl) fun hn => by
  rw [vc_rChanges]
  exact ⟨⟨(), [], [0, 1, 2], trivial, trivial, into_mk (by kernel_rfl) (by (repeat' first | exact trivial | exact rfl | apply And.intro)) (by (repeat' first | exact trivial | exact rfl | apply And.intro))⟩, fun z hz => ⟨(), [], [0, 1, 2], trivial, by (repeat' first | exact trivial | exact rfl | apply And.intro)⟩⟩
theorem rCells_ok (ts : List RS) (ps : List Int) : CtOk Tryz.prog 25 (ct_hold0 ts ps) := CtOk_of KK_ok tab0 (ann1 (inv_hold0 (53 - 4) ts ps)) (fn := Tryz.f25) rfl (fun _ _ => rfl) fun hn => by
  rw [vc_rCells]
  exact ⟨⟨(), [], [0, 1, 2], trivial, trivial, into_mk (by kernel_rfl) (by (repeat' first | exact trivial | exact rfl | apply And.intro)) (by (repeat' first | exact trivial | exact rfl | apply And.intro))⟩, fun z hz => ⟨(), [], [0, 1, 2], trivial, by (repeat' first | exact trivial | exact rfl | apply And.intro)⟩⟩
theorem rItems_ok (ts : List RS) (ps : List Int) : CtOk Tryz.prog 26 (ct_hold0 ts ps) := CtOk_of KK_ok tab0 (ann1 (inv_hold0 (53 - 4) ts ps)) (fn := Tryz.f26) rfl (fun _ _ => rfl) fun hn => by
  rw [vc_rItems]
  exact ⟨⟨(), [], [0, 1, 2], trivial, trivial, into_mk (by kernel_rfl) (by (repeat' first | exact trivial | exact rfl | apply And.intro)) (by (repeat' first | exact trivial | exact rfl | apply And.intro))⟩, fun z hz => ⟨(), [], [0, 1, 2], trivial, by (repeat' first | exact trivial | exact rfl | apply And.intro)⟩⟩
theorem rPlaceds_ok (ts : List RS) (ps : List Int) : CtOk Tryz.prog 27 (ct_hold0 ts ps) := CtOk_of KK_ok tab0 (ann1 (inv_hold0 (53 - 4) ts ps)) (fn := Tryz.f27) rfl (fun _ _ => rfl) fun hn => by
  rw [vc_rPlaceds]
  exact ⟨⟨(), [], [0, 1, 2], trivial, trivial, into_mk (by kernel_rfl) (by (repeat' first | exact trivial | exact rfl | apply And.intro)) (by (repeat' first | exact trivial | exact rfl | apply And.intro))⟩, fun z hz => ⟨(), [], [0, 1, 2], trivial, by (repeat' first | exact trivial | exact rfl | apply And.intro)⟩⟩
theorem rRules_ok (ts : List RS) (ps : List Int) : CtOk Tryz.prog 28 (ct_hold0 ts ps) := CtOk_of KK_ok tab0 (ann1 (inv_hold0 (53 - 4) ts ps)) (fn := Tryz.f28) rfl (fun _ _ => rfl) fun hn => by
  rw [vc_rRules]
  exact ⟨⟨(), [], [0, 1, 2], trivial, trivial, into_mk (by kernel_rfl) (by (repeat' first | exact trivial | exact rfl | apply And.intro)) (by (repeat' first | exact trivial | exact rfl | apply And.intro))⟩, fun z hz => ⟨(), [], [0, 1, 2], trivial, by (repeat' first | exact trivial | exact rfl | apply And.intro)⟩⟩
theorem rChunks_ok (ts : List RS) (ps : List Int) : CtOk Tryz.prog 29 (ct_hold0 ts ps) := CtOk_of KK_ok tab0 (ann1 (inv_hold0 (60 - 4) ts ps)) (fn := Tryz.f29) rfl (fun _ _ => rfl) fun hn => by
  rw [vc_rChunks]
  exact ⟨⟨(), [], [0, 1, 2], trivial, trivial, into_mk (by kernel_rfl) (by (repeat' first | exact trivial | exact rfl | apply And.intro)) (by (repeat' first | exact trivial | exact rfl | apply And.intro))⟩, fun z hz => ⟨(), [], [0, 1, 2], trivial, by (repeat' first | exact trivial | exact rfl | apply And.intro)⟩⟩
theorem rThings_ok (ts : List RS) (ps : List Int) : CtOk Tryz.prog 30 (ct_hold0 ts ps) := CtOk_of KK_ok tab0 (ann1 (inv_hold0 (64 - 4) ts ps)) (fn := Tryz.f30) rfl (fun _ _ => rfl) fun hn => by
  rw [vc_rThings]
  exact ⟨⟨(), [], [0, 1, 2], trivial, trivial, into_mk (by kernel_rfl) (by (repeat' first | exact trivial | exact rfl | apply And.intro)) (by (repeat' first | exact trivial | exact rfl | apply And.intro))⟩, fun z hz => ⟨(), [], [0, 1, 2], trivial, by (repeat' first | exact trivial | exact rfl | apply And.intro)⟩⟩
theorem rDones_ok (ts : List RS) (ps : List Int) : CtOk Tryz.prog 31 (ct_hold0 ts ps) := CtOk_of KK_ok tab0 (ann1 (inv_hold0 (59 - 4) ts ps)) (fn := Tryz.f31) rfl (fun _ _ => rfl) fun hn => by
  rw [vc_rDones]
  exact ⟨⟨(), [], [0, 1, 2], trivial, trivial, into_mk (by kernel_rfl) (by (repeat' first | exact trivial | exact rfl | apply And.intro)) (by (repeat' first | exact trivial | exact rfl | apply And.intro))⟩, fun z hz => ⟨(), [], [0, 1, 2], trivial, by (repeat' first | exact trivial | exact rfl | apply And.intro)⟩⟩
theorem rNodes_ok (ts : List RS) (ps : List Int) : CtOk Tryz.prog 32 (ct_hold0 ts ps) := CtOk_of KK_ok tab0 (ann1 (inv_hold0 (59 - 4) ts ps)) (fn := Tryz.f32) rfl (fun _ _ => rfl) fun hn => by
  rw [vc_rNodes]
  exact ⟨⟨(), [], [0, 1, 2], trivial, trivial, into_mk (by kernel_rfl) (by (repeat' first | exact trivial | exact rfl | apply And.intro)) (by (repeat' first | exact trivial | exact rfl | apply And.intro))⟩, fun z hz => ⟨(), [], [0, 1, 2], trivial, by (repeat' first | exact trivial | exact rfl | apply And.intro)⟩⟩
theorem rSteps_ok (ts : List RS) (ps : List Int) : CtOk Tryz.prog 33 (ct_hold0 ts ps) := CtOk_of KK_ok tab0 (ann1 (inv_hold0 (65 - 4) ts ps)) (fn := Tryz.f33) rfl (fun _ _ => rfl) fun hn => by
  rw [vc_rSteps]
  exact ⟨⟨(), [], [0, 1, 2], trivial, trivial, into_mk (by kernel_rfl) (by (repeat' first | exact trivial | exact rfl | apply And.intro)) (by (repeat' first | exact trivial | exact rfl | apply And.intro))⟩, fun z hz => ⟨(), [], [0, 1, 2], trivial, by (repeat' first | exact trivial | exact rfl | apply And.intro)⟩⟩
def pick_room (f : FuncId) (ts : List RS) (ps : List Int) (τ : List Nat) : Option (Ct KK × List KK.Kd × List Nat) := match f with
  | 22 => some (ct_hold0 ts ps, [], τ)
  | 23 => some (ct_hold0 ts ps, [], τ)
  | 24 => some (ct_hold0 ts ps, [], τ)
  | 25 => some (ct_hold0 ts ps, [], τ)
  | 26 => some (ct_hold0 ts ps, [], τ)
  | 27 => some (ct_hold0 ts ps, [], τ)
  | 28 => some (ct_hold0 ts ps, [], τ)
  | 29 => some (ct_hold0 ts ps, [], τ)
  | 30 => some (ct_hold0 ts ps, [], τ)
  | 31 => some (ct_hold0 ts ps, [], τ)
  | 32 => some (ct_hold0 ts ps, [], τ)
  | 33 => some (ct_hold0 ts ps, [], τ)
  | _ => none
theorem pick_room_ok (f : FuncId) (ts : List RS) (ps : List Int) (τ : List Nat) (ct ks ρ) (h : pick_room f ts ps τ = some (ct, ks, ρ)) : CtOk Tryz.prog f ct := by
  unfold pick_room at h
  split at h
  · cases h; exact rInts_ok _ _
  · cases h; exact rTexts_ok _ _
  · cases h; exact rChanges_ok _ _
  · cases h; exact rCells_ok _ _
  · cases h; exact rItems_ok _ _
  · cases h; exact rPlaceds_ok _ _
  · cases h; exact rRules_ok _ _
  · cases h; exact rChunks_ok _ _
  · cases h; exact rThings_ok _ _
  · cases h; exact rDones_ok _ _
  · cases h; exact rNodes_ok _ _
  · cases h; exact rSteps_ok _ _
  · cases h
end Go.Proofs.YtndlpbheifalhaaGreatDoor.T
