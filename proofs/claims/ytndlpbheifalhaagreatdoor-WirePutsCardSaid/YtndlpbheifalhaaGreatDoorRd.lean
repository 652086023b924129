/- The room, whole. -/
import Derived.Test.YtndlpbheifalhaaGreatDoorRc
namespace Go.Proofs.YtndlpbheifalhaaGreatDoor.T
open Go.Proofs.YtndlpbheifalhaaGreatDoor.E
set_option maxRecDepth 100000
set_option linter.unusedVariables false
def tabLay : Tab Tryz.prog KK := ⟨mixed, fun f args H => match f, args with
  | 20, [.one (.c (.ptr 0 _ _)), .one (.c (.slc 3 _ _ _)), .one (.c (.int _ 600))] => match at_ H 1, at_ H 2, at_ H 3, at_ H 4 with
    | .arr .ru8 ts, .arr .int ps, .ro .u8 l, .bag φ => some (ct_lay l ts ps φ, [], [0, 1, 2, 3, 4])
    | _, _, _, _ => none
  | _, _ => none, fun f args H ct ks τ h => by
    split at h
    · split at h
      · cases h; exact lay_ok _ _ _ _
      · cases h
    · cases h⟩
def ct_rBytes (l : List Int) (ts : List RS) (ps : List Int) (φ : Bag KK) : Ct KK := { need := l.length ≤ 1000000 ∧ ts.length ≤ 1000 ∧ ps.length ≤ 1000, pre := roomH ts ps ++ [.ro .u8 l, .bag φ], args := [.c (.ptr 0 0 0), .c (.slc 3 0 l.length none)], Y := Nat × Nat, ok := fun y => φ y.1 = none ∧ far l ≤ y.2, ret := fun y => .c (.rs 5 1 (.mk y.1 0 l.length (far l))), post := layPost l ts ps φ }
def tabHold : Tab Tryz.prog KK := ⟨mixed, fun f args H => match args with
  | [.one (.c (.ptr 0 0 0))] => match at_ H 1, at_ H 2, at_ H 3 with
    | .arr .ru8 ts, .arr .int ps, .bag φ => match f with
      | 21 => some (ct_holdT ts ps φ, [], [0, 1, 2, 3])
      | f => pick_room f ts ps [0, 1, 2]
    | _, _, _ => none
  | _ => none, fun f args H ct ks τ h => by
    split at h
    · split at h
      · split at h
        · cases h; exact holdT_ok _ _ _
        · exact pick_room_ok _ _ _ _ _ _ _ h
      · cases h
    · cases h⟩
def ct_rHold (ts : List RS) (ps : List Int) (φ : Bag KK) : Ct KK := { need := Marks ts ps φ, pre := roomH ts ps ++ [.bag φ], args := [.c (.ptr 0 0 0)], Y := Unit, ok := fun _ => True, ret := fun _ => boolv true, post := fun _ => roomH ts ps ++ [.bag φ] }
theorem vc_rBytes (l : List Int) (ts : List RS) (ps : List Int) (φ : Bag KK) : evFn tabLay ann0 Tryz.f6 (ct_rBytes l ts ps φ) = ( (l.length ≤ 1000000 ∧ ts.length ≤ 1000 ∧ ps.length ≤ 1000) ∧ Into (K := KK) 0 [] [0, 1, 2, 3, 4] [VV.one (V1.c (C.ptr 0 0 0)), VV.one (V1.c (C.slc 3 0 l.length none)), i64 (600 : Int)] [Atom.cells 40
 [C.slc 1 0 ts.length none, C.slc 2 0 ps.length none, C.nils, C.nils, C.nils, C.nils, C.nils, C.nils, C.nils, C.nils, C.nils, C.nils, C.nils, C.nils, C.nils, C.nils, C.nils, C.nils, C.nils, C.nils, C.nils,
 C.nils, C.nils, C.nils, C.nils, C.nils], Atom.arr Kd.ru8 ts, Atom.arr Kd.int ps, Atom.ro Kd.u8 l, Atom.bag φ] [VV.one (V1.c (C.ptr 0 0 0)), VV.one (V1.c (C.slc 3 0 l.length none)), i64 (600 : Int)] [Atom.cells
 40 [C.slc 1 0 ts.length none, C.slc 2 0 ps.length none, C.nils, C.nils, C.nils, C.nils, C.nils, C.nils, C.nils, C.nils, C.nils, C.nils, C.nils, C.nils, C.nils, C.nils, C.nils, C.nils, C.nils, C.nils, C.nils,
 C.nils, C.nils, C.nils, C.nils, C.nils], Atom.arr Kd.ru8 ts, Atom.arr Kd.int ps, Atom.ro Kd.u8 l, Atom.bag φ] ∧ ∀ (y : Nat × Nat), φ y.fst = none ∧ far l ≤ y.snd → EndsAs 5 (ct_rBytes l ts ps φ) (VV.one
 (V1.c (C.rs 5 1 (RS.mk y.fst 0 l.length (far l))))) [Atom.cells 40 [C.slc 5 0 (ts.length + 1) none, C.slc 6 0 (ps.length + 1) none, C.nils, C.nils, C.nils, C.nils, C.nils, C.nils, C.nils, C.nils, C.nils,
 C.nils, C.nils, C.nils, C.nils, C.nils, C.nils, C.nils, C.nils, C.nils, C.nils, C.nils, C.nils, C.nils, C.nils, C.nils], Atom.gone, Atom.gone, Atom.ro Kd.u8 l, Atom.bag (bput φ y.fst (BI.row Kd.u8 y.snd
 (l ++ lots 600))), Atom.arr Kd.ru8 (ts ++ [RS.mk y.fst 0 (far l) y.snd]), Atom.arr Kd.int (ps ++ [(↑l.length : Int)])]) := by kernel_rfl
theorem vc_rHold (ts : List RS) (ps : List Int) (φ : Bag KK) : evFn tabHold ann0 Tryz.f13 (ct_rHold ts ps φ) = ( Marks ts ps φ ∧ Into (K := KK) 0 [] [0, 1, 2, 3] [VV.one (V1.c (C.ptr 0 0 0))] [Atom.cells 40 [C.slc 1 0 ts.length none, C.slc 2 0 ps.length none, C.nils, C.nils, C.nils, C.nils, C.nils, C.nils, C.nils,
 C.nils, C.nils, C.nils, C.nils, C.nils, C.nils, C.nils, C.nils, C.nils, C.nils, C.nils, C.nils, C.nils, C.nils, C.nils, C.nils, C.nils], Atom.arr Kd.ru8 ts, Atom.arr Kd.int ps, Atom.bag φ] [VV.one (V1.c
 (C.ptr 0 0 0))] [Atom.cells 40 [C.slc 1 0 ts.length none, C.slc 2 0 ps.length none, C.nils, C.nils, C.nils, C.nils, C.nils, C.nils, C.nils, C.nils, C.nils, C.nils, C.nils, C.nils, C.nils, C.nils, C.nils,
 C.nils, C.nils, C.nils, C.nils, C.nils, C.nils, C.nils, C.nils, C.nils], Atom.arr Kd.ru8 ts, Atom.arr Kd.int ps, Atom.bag φ] ∧ ∀ (y : Unit), True → True ∧ Into (K := KK) 0 [] [0, 1, 2] [VV.one (V1.c (C.ptr
 0 0 0))] [Atom.cells 40 [C.slc 1 0 ts.length none, C.slc 2 0 ps.length none, C.nils, C.nils, C.nils, C.nils, C.nils, C.nils, C.nils, C.nils, C.nils, C.nils, C.nils, C.nils, C.nils, C.nils, C.nils, C.nils,
 C.nils, C.nils, C.nils, C.nils, C.nils, C.nils, C.nils, C.nils], Atom.arr Kd.ru8 ts, Atom.arr Kd.int ps, Atom.bag φ] [VV.one (V1.c (C.ptr 0 0 0))] [Atom.cells 40 [C.slc 1 0 ts.length none, C.slc 2 0 ps.length
 none, C.nils, C.nils, C.nils, C.nils, C.nils, C.nils, C.nils, C.nils, C.nils, C.nils, C.nils, C.nils, C.nils, C.nils, C.nils, C.nils, C.nils, C.nils, C.nils, C.nils, C.nils, C.nils, C.nils, C.nils], Atom.arr
 Kd.ru8 ts, Atom.arr Kd.int ps] ∧ ∀ (y : Unit), True → True ∧ Into (K := KK) 0 [] [0, 1, 2] [VV.one (V1.c (C.ptr 0 0 0))] [Atom.cells 40 [C.slc 1 0 ts.length none, C.slc 2 0 ps.length none, C.nils, C.nils,
 C.nils, C.nils, C.nils, C.nils, C.nils, C.nils, C.nils, C.nils, C.nils, C.nils, C.nils, C.nils, C.nils, C.nils, C.nils, C.nils, C.nils, C.nils, C.nils, C.nils, C.nils, C.nils], Atom.arr Kd.ru8 ts, Atom.arr
 Kd.int ps, Atom.bag φ] [VV.one (V1.c (C.ptr 0 0 0))] [Atom.cells 40 [C.slc 1 0 ts.length none, C.slc 2 0 ps.length none, C.nils, C.nils, C.nils, C.nils, C.nils, C.nils, C.nils, C.nils, C.nils, C.nils,
 C.nils, C.nils, C.nils, C.nils, C.nils, C.nils, C.nils, C.nils, C.nils, C.nils, C.nils, C.nils, C.nils, C.nils], Atom.arr Kd.ru8 ts, Atom.arr Kd.int ps] ∧ ∀ (y : Unit), True → True ∧ Into (K := KK) 0 []
 [0, 1, 2] [VV.one (V1.c (C.ptr 0 0 0))] [Atom.cells 40 [C.slc 1 0 ts.length none, C.slc 2 0 ps.length none, C.nils, C.nils, C.nils, C.nils, C.nils, C.nils, C.nils, C.nils, C.nils, C.nils, C.nils, C.nils,
 C.nils, C.nils, C.nils, C.nils, C.nils, C.nils, C.nils, C.nils, C.nils, C.nils, C.nils, C.nils], Atom.arr Kd.ru8 ts, Atom.arr Kd.int ps, Atom.bag φ] [VV.one (V1.c (C.ptr 0 0 0))] [Atom.cells 40 [C.slc
 1 0 ts.length none, C.slc 2 0 ps.length none, C.nils, C.nils, C.nils, C.nils, C.nils, C.nils, C.nils, C.nils, C.nils, C.nils, C.nils, C.nils, C.nils, C.nils, C.nils, C.nils, C.nils, C.nils, C.nils, C.nils,
 C.nils, C.nils, C.nils, C.nils], Atom.arr Kd.ru8 ts, Atom.arr Kd.int ps] ∧ ∀ (y : Unit), True → True ∧ Into (K := KK) 0 [] [0, 1, 2] [VV.one (V1.c (C.ptr 0 0 0))] [Atom.cells 40 [C.slc 1 0 ts.length none,
 C.slc 2 0 ps.length none, C.nils, C.nils, C.nils, C.nils, C.nils, C.nils, C.nils, C.nils, C.nils, C.nils, C.nils, C.nils, C.nils, C.nils, C.nils, C.nils, C.nils, C.nils, C.nils, C.nils, C.nils, C.nils,
 C.nils, C.nils], Atom.arr Kd.ru8 ts, Atom.arr Kd.int ps, Atom.bag φ] [VV.one (V1.c (C.ptr 0 0 0))] [Atom.cells 40 [C.slc 1 0 ts.length none, C.slc 2 0 ps.length none, C.nils, C.nils, C.nils, C.nils, C.nils,
 C.nils, C.nils, C.nils, C.nils, C.nils, C.nils, C.nils, C.nils, C.nils, C.nils, C.nils, C.nils, C.nils, C.nils, C.nils, C.nils, C.nils, C.nils, C.nils], Atom.arr Kd.ru8 ts, Atom.arr Kd.int ps] ∧ ∀ (y :
 Unit), True → True ∧ Into (K := KK) 0 [] [0, 1, 2] [VV.one (V1.c (C.ptr 0 0 0))] [Atom.cells 40 [C.slc 1 0 ts.length none, C.slc 2 0 ps.length none, C.nils, C.nils, C.nils, C.nils, C.nils, C.nils, C.nils,
 C.nils, C.nils, C.nils, C.nils, C.nils, C.nils, C.nils, C.nils, C.nils, C.nils, C.nils, C.nils, C.nils, C.nils, C.nils, C.nils, C.nils], Atom.arr Kd.ru8 ts, Atom.arr Kd.int ps, Atom.bag φ] [VV.one (V1.c
 (C.ptr 0 0 0))] [Atom.cells 40 [C.slc 1 0 ts.length none, C.slc 2 0 ps.length none, C.nils, C.nils, C.nils, C.nils, C.nils, C.nils, C.nils, C.nils, C.nils, C.nils, C.nils, C.nils, C.nils, C.nils, C.nils,
 C.nils, C.nils, C.nils, C.nils, C.nils, C.nils, C.nils, C.nils, C.nils], Atom.arr Kd.ru8 ts, Atom.arr Kd.int ps] ∧ ∀ (y : Unit), True → True ∧ Into (K := KK) 0 [] [0, 1, 2] [VV.one (V1.c (C.ptr 0 0 0))]
 [Atom.cells 40 [C.slc 1 0 ts.length none, C.slc 2 0 ps.length none, C.nils, C.nils, C.nils, C.nils, C.nils, C.nils, C.nils, C.nils, C.nils, C.nils, C.nils, C.nils, C.nils, C.nils, C.nils, C.nils, C.nils,
 C.nils, C.nils, C.nils, C.nils, C.nils, C.nils, C.nils], Atom.arr Kd.ru8 ts, Atom.arr Kd.int ps, Atom.bag φ] [VV.one (V1.c (C.ptr 0 0 0))] [Atom.cells 40 [C.slc 1 0 ts.length none, C.slc 2 0 ps.length
 none, C.nils, C.nils, C.nils, C.nils, C.nils, C.nils, C.nils, C.nils, C.nils, C.nils, C.nils, C.nils, C.nils, C.nils, C.nils, C.nils, C.nils, C.nils, C.nils, C.nils, C.nils, C.nils, C.nils, C.nils], Atom.arr
 Kd.ru8 ts, Atom.arr Kd.int ps] ∧ ∀ (y : Unit), True → True ∧ Into (K := KK) 0 [] [0, 1, 2] [VV.one (V1.c (C.ptr 0 0 0))] [Atom.cells 40 [C.slc 1 0 ts.length none, C.slc 2 0 ps.length none, C.nils, C.nils,
 C.nils, C.nils, C.nils, C.nils, C.nils, C.nils, C.nils, C.nils, C.nils, C.nils, C.nils, C.nils, C.nils, C.nils, C.nils, C.nils, C.nils, C.nils, C.nils, C.nils, C.nils, C.nils], Atom.arr Kd.ru8 ts, Atom.arr
 Kd.int ps, Atom.bag φ] [VV.one (V1.c (C.ptr 0 0 0))] [Atom.cells 40 [C.slc 1 0 ts.length none, C.slc 2 0 ps.length none, C.nils, C.nils, C.nils, C.nils, C.nils, C.nils, C.nils, C.nils, C.nils, C.nils,
 C.nils, C.nils, C.nils, C.nils, C.nils, C.nils, C.nils, C.nils, C.nils, C.nils, C.nils, C.nils, C.nils, C.nils], Atom.arr Kd.ru8 ts, Atom.arr Kd.int ps] ∧ ∀ (y : Unit), True → True ∧ Into (K := KK) 0 []
 [0, 1, 2] [VV.one (V1.c (C.ptr 0 0 0))] [Atom.cells 40 [C.slc 1 0 ts.length none, C.slc 2 0 ps.length none, C.nils, C.nils, C.nils, C.nils, C.nils, C.nils, C.nils, C.nils, C.nils, C.nils, C.nils, C.nils,
 C.nils, C.nils, C.nils, C.nils, C.nils, C.nils, C.nils, C.nils, C.nils, C.nils, C.nils, C.nils], Atom.arr Kd.ru8 ts, Atom.arr Kd.int ps, Atom.bag φ] [VV.one (V1.c (C.ptr 0 0 0))] [Atom.cells 40 [C.slc
 1 0 ts.length none, C.slc 2 0 ps.length none, C.nils, C.nils, C.nils, C.nils, C.nils, C.nils, C.nils, C.nils, C.nils, C.nils, C.nils, C.nils, C.nils, C.nils, C.nils, C.nils, C.nils, C.nils, C.nils, C.nils,
 C.nils, C.nils, C.nils, C.nils], Atom.arr Kd.ru8 ts, Atom.arr Kd.int ps] ∧ ∀ (y : Unit), True → True ∧ Into (K := KK) 0 [] [0, 1, 2] [VV.one (V1.c (C.ptr 0 0 0))] [Atom.cells 40 [C.slc 1 0 ts.length none,
 C.slc 2 0 ps.length none, C.nils, C.nils, C.nils, C.nils, C.nils, C.nils, C.nils, C.nils, C.nils, C.nils, C.nils, C.nils, C.nils, C.nils, C.nils, C.nils, C.nils, C.nils, C.nils, C.nils, C.nils, C.nils,
 C.nils, C.nils], Atom.arr Kd.ru8 ts, Atom.arr Kd.int ps, Atom.bag φ] [VV.one (V1.c (C.ptr 0 0 0))] [Atom.cells 40 [C.slc 1 0 ts.length none, C.slc 2 0 ps.length none, C.nils, C.nils, C.nils, C.nils, C.nils,
 C.nils, C.nils, C.nils, C.nils, C.nils, C.nils, C.nils, C.nils, C.nils, C.nils, C.nils, C.nils, C.nils, C.nils, C.nils, C.nils, C.nils, C.nils, C.nils], Atom.arr Kd.ru8 ts, Atom.arr Kd.int ps] ∧ ∀ (y :
 Unit), True → True ∧ Into (K := KK) 0 [] [0, 1, 2] [VV.one (V1.c (C.ptr 0 0 0))] [Atom.cells 40 [C.slc 1 0 ts.length none, C.slc 2 0 ps.length none, C.nils, C.nils, C.nils, C.nils, C.nils, C.nils, C.nils,
 C.nils, C.nils, C.nils, C.nils, C.nils, C.nils, C.nils, C.nils, C.nils, C.nils, C.nils, C.nils, C.nils, C.nils, C.nils, C.nils, C.nils], Atom.arr Kd.ru8 ts, Atom.arr Kd.int ps, Atom.bag φ] [VV.one (V1.c
 (C.ptr 0 0 0))] [Atom.cells 40 [C.slc 1 0 ts.length none, C.slc 2 0 ps.length none, C.nils, C.nils, C.nils, C.nils, C.nils, C.nils, C.nils, C.nils, C.nils, C.nils, C.nils, C.nils, C.nils, C.nils, C.nils,
 C.nils, C.nils, C.nils, C.nils, C.nils, C.nils, C.nils, C.nils, C.nils], Atom.arr Kd.ru8 ts, Atom.arr Kd.int ps] ∧ ∀ (y : Unit), True → True ∧ Into (K := KK) 0 [] [0, 1, 2] [VV.one (V1.c (C.ptr 0 0 0))]
 [Atom.cells 40 [C.slc 1 0 ts.length none, C.slc 2 0 ps.length none, C.nils, C.nils, C.nils, C.nils, C.nils, C.nils, C.nils, C.nils, C.nils, C.nils, C.nils, C.nils, C.nils, C.nils, C.nils, C.nils, C.nils,
 C.nils, C.nils, C.nils, C.nils, C.nils, C.nils, C.nils], Atom.arr Kd.ru8 ts, Atom.arr Kd.int ps, Atom.bag φ] [VV.one (V1.c (C.ptr 0 0 0))] [Atom.cells 40 [C.slc 1 0 ts.length none, C.slc 2 0 ps.length
 none, C.nils, C.nils, C.nils, C.nils, C.nils, C.nils, C.nils, C.nils, C.nils, C.nils, C.nils, C.nils, C.nils, C.nils, C.nils, C.nils, C.nils, C.nils, C.nils, C.nils, C.nils, C.nils, C.nils, C.nils], Atom.arr
 Kd.ru8 ts, Atom.arr Kd.int ps] ∧ ∀ (y : Unit), True → True ∧ Into (K := KK) 0 [] [0, 1, 2] [VV.one (V1.c (C.ptr 0 0 0))] [Atom.cells 40 [C.slc 1 0 ts.length none, C.slc 2 0 ps.length none, C.nils, C.nils,
 C.nils, C.nils, C.nils, C.nils, C.nils, C.nils, C.nils, C.nils, C.nils, C.nils, C.nils, C.nils, C.nils, C.nils, C.nils, C.nils, C.nils, C.nils, C.nils, C.nils, C.nils, C.nils], Atom.arr Kd.ru8 ts, Atom.arr
 Kd.int ps, Atom.bag φ] [VV.one (V1.c (C.ptr 0 0 0))] [Atom.cells 40 [C.slc 1 0 ts.length none, C.slc 2 0 ps.length none, C.nils, C.nils, C.nils, C.nils, C.nils, C.nils, C.nils, C.nils, C.nils, C.nils,
 C.nils, C.nils, C.nils, C.nils, C.nils, C.nils, C.nils, C.nils, C.nils, C.nils, C.nils, C.nils, C.nils, C.nils], Atom.arr Kd.ru8 ts, Atom.arr Kd.int ps] ∧ ∀ (y : Unit), True → EndsAs 4 (ct_rHold ts ps
 φ) (boolv true) [Atom.cells 40 [C.slc 1 0 ts.length none, C.slc 2 0 ps.length none, C.nils, C.nils, C.nils, C.nils, C.nils, C.nils, C.nils, C.nils, C.nils, C.nils, C.nils, C.nils, C.nils, C.nils, C.nils,
 C.nils, C.nils, C.nils, C.nils, C.nils, C.nils, C.nils, C.nils, C.nils], Atom.arr Kd.ru8 ts, Atom.arr Kd.int ps, Atom.bag φ]) := by kernel_rfl
theorem rBytes_ok (l : List Int) (ts : List RS) (ps : List Int) (φ : Bag KK) : CtOk Tryz.prog 6 (ct_rBytes l ts ps φ) := CtOk_of KK_ok tabLay ann0 (fn := Tryz.f6) rfl (fun _ _ => rfl) fun hn => by
  rw [vc_rBytes]
  exact ⟨hn, into_mk (by kernel_rfl) (by (repeat' first | exact trivial | exact rfl | apply And.intro)) (by (repeat' first | exact trivial | exact rfl | apply And.intro)), fun y hy => ⟨y, [], [0, 1, 2, 3, 4, 5, 6], hy, by (repeat' first | exact trivial | exact rfl | apply And.intro)⟩⟩
theorem rHold_ok (ts : List RS) (ps : List Int) (φ : Bag KK) : CtOk Tryz.prog 13 (ct_rHold ts ps φ) := CtOk_of KK_ok tabHold ann0 (fn := Tryz.f13) rfl (fun _ _ => rfl) fun hn => by
  have hn : Marks ts ps φ := hn
  rw [vc_rHold]
  exact ⟨hn, into_mk (by kernel_rfl) (by (repeat' first | exact trivial | exact rfl | apply And.intro)) (by (repeat' first | exact trivial | exact rfl | apply And.intro)), fun _ _ => ⟨trivial, into_mk (by kernel_rfl) (by (repeat' first | exact trivial | exact rfl | apply And.intro)) (by (repeat' first | exact trivial | exact rfl | apply And.intro)), fun _ _ => ⟨trivial, into_mk (by kernel_rfl) (by (repeat' first | exact trivial | exact rfl | apply And.intro)) (by (repeat' first | exact trivial | exact rfl | apply And.intro)), fun _ _ => ⟨trivial, into_mk (by kernel_rfl) (by (repeat' first | exact trivial | exact rfl | apply And.intro)) (by (repeat' first | exact trivial | exact rfl | apply And.intro)), fun _ _ => ⟨trivial, into_mk (by kernel_rfl) (by (repeat' first | exact trivial | exact rfl | apply And.intro)) (by (repeat' first | exact trivial | exact rfl | apply And.intro)), fun _ _ => ⟨trivial, into_mk (by kernel_rfl) (by (repeat' first | exact trivial | exact rfl | apply And.intro)) (by (repeat' first | exact trivial | exact rfl | apply And.intro)), fun _ _ => ⟨trivial, into_mk (by kernel_rfl) (by (repeat' first | exact trivial | exact rfl | apply And.intro)) (by (repeat' first | exact trivial | exact rfl | apply And.intro)), fun _ _ => ⟨trivial, into_mk (by kernel_rfl) (by (repeat' first | exact trivial | exact rfl | apply And.intro)) (by (repeat' first | exact trivial | exact rfl | apply And.intro)), fun _ _ => ⟨trivial, into_mk (by kernel_rfl) (by (repeat' first | exact trivial | exact rfl | apply And.intro)) (by (repeat' first | exact trivial | exact rfl | apply And.intro)), fun _ _ => ⟨trivial, into_mk (by kernel_rfl) (by (repeat' first | exact trivial | exact rfl | apply And.intro)) (by (repeat' first | exact trivial | exact rfl | apply And.intro)), fun _ _ => ⟨trivial, into_mk (by kernel_rfl) (by (repeat' first | exact trivial | exact rfl | apply And.intro)) (by (repeat' first | exact trivial | exact rfl | apply And.intro)), fun _ _ => ⟨trivial, into_mk (by kernel_rfl) (by (repeat' first | exact trivial | exact rfl | apply And.intro)) (by (repeat' first | exact trivial | exact rfl | apply And.intro)), fun _ _ => ⟨trivial, into_mk (by kernel_rfl) (by (repeat' first | exact trivial | exact rfl | apply And.intro)) (by (repeat' first | exact trivial | exact rfl | apply And.intro)), fun _ _ => ⟨(), [], [0, 1, 2, 3], trivial, by (repeat' first | exact trivial | exact rfl | apply And.intro)⟩⟩⟩⟩⟩⟩⟩⟩⟩⟩⟩⟩⟩⟩
end Go.Proofs.YtndlpbheifalhaaGreatDoor.T
