/- The program's Join; all that the room holds. -/
import Derived.Test.YtnmidichehjbgaaTh
import Derived.Test.YtnmidichehjbgaaTg
namespace Go.Proofs.Ytnmidichehjbgaa.T
open Go.Proofs.Ytnmidichehjbgaa.E
set_option maxRecDepth 100000
set_option linter.unusedVariables false
def ct_join (l : List ByteArray) : Ct KK := { need := l.length ≤ 1000000 ∧ (joinB l).size ≤ 1000000000, pre := [.ro .str l], args := [.c (.slc 0 0 l.length none)], Y := Unit, ok := fun _ => True, ret := fun _ => .c (.str (joinB l)), post := fun _ => [.gone] }
def tab5 : Tab Try.prog KK := ⟨mixed, fun f args H => match args with
  | [.one (.c (.ptr 0 0 0))] => match at_ H 1, at_ H 2, at_ H 3 with
    | .arr .rstr ts, .arr .int ps, .bag φ => match f with
      | 15 => some (ct_hold0 ts ps, [], [0, 1, 2])
      | 16 => some (ct_hold0 ts ps, [], [0, 1, 2])
      | 17 => some (ct_holdT ts ps φ, [], [0, 1, 2, 3])
      | 18 => some (ct_hold0 ts ps, [], [0, 1, 2])
      | 19 => some (ct_hold0 ts ps, [], [0, 1, 2])
      | 20 => some (ct_hold0 ts ps, [], [0, 1, 2])
      | 21 => some (ct_hold0 ts ps, [], [0, 1, 2])
      | 22 => some (ct_hold0 ts ps, [], [0, 1, 2])
      | 23 => some (ct_hold0 ts ps, [], [0, 1, 2])
      | 24 => some (ct_hold0 ts ps, [], [0, 1, 2])
      | 25 => some (ct_hold0 ts ps, [], [0, 1, 2])
      | 26 => some (ct_hold0 ts ps, [], [0, 1, 2])
      | 27 => some (ct_hold0 ts ps, [], [0, 1, 2])
      | _ => none
    | _, _, _ => none
  | _ => none, fun f args H ct ks τ h => by
    split at h
    · split at h
      · split at h
        · cases h; exact h15_ok _ _
        · cases h; exact h16_ok _ _
        · cases h; exact holdT_ok _ _ _
        · cases h; exact h18_ok _ _
        · cases h; exact h19_ok _ _
        · cases h; exact h20_ok _ _
        · cases h; exact h21_ok _ _
        · cases h; exact h22_ok _ _
        · cases h; exact h23_ok _ _
        · cases h; exact h24_ok _ _
        · cases h; exact h25_ok _ _
        · cases h; exact h26_ok _ _
        · cases h; exact h27_ok _ _
        · cases h
      · cases h
    · cases h⟩
def ct_hold (ts : List RS) (ps : List Int) (φ : Bag KK) : Ct KK := { need := Marks ts ps φ, pre := roomH ts ps ++ [.bag φ], args := [.c (.ptr 0 0 0)], Y := Unit, ok := fun _ => True, ret := fun _ => boolv true, post := fun _ => roomH ts ps ++ [.bag φ] }
theorem vc_join (l : List ByteArray) : evFn tab4 ann0 Try.f6 (ct_join l) = ( (l.length ≤ 140737488355328 ∧ (ljoin l (ByteArray.mk (#[(47 : UInt8)]))).size ≤ 140737488355328) ∧ Into (K := KK) 0 [] [0] [VV.one (V1.c (C.slc 0 0 l.length none)), VV.one (V1.c (C.str (ByteArray.mk (#[(47
 : UInt8)]))))] [Atom.ro Kd.str l] [VV.one (V1.c (C.slc 0 0 l.length none)), VV.one (V1.c (C.str (ByteArray.mk (#[(47 : UInt8)]))))] [Atom.ro Kd.str l] ∧ ∀ (y : Unit), True → EndsAs 1 (ct_join l) (VV.one
 (V1.c (C.str (ljoin l (ByteArray.mk (#[(47 : UInt8)])))))) [Atom.ro Kd.str l]) := by kernel_rfl
theorem vc_hold (ts : List RS) (ps : List Int) (φ : Bag KK) : evFn tab5 ann0 Try.f9 (ct_hold ts ps φ) = ( True ∧ Into (K := KK) 0 [] [0, 1, 2] [VV.one (V1.c (C.ptr 0 0 0))] [Atom.cells 40 [C.nils, C.nils, C.nils, C.nils, C.slc 1 0 ts.length none, C.slc 2 0 ps.length none, C.nils, C.nils, C.nils, C.nils, C.nils,
 C.nils, C.nils, C.nils, C.nils, C.nils, C.nils, C.nils, C.nils, C.nils, C.nils, C.nils, C.nils, C.nils, C.nils, C.nils], Atom.arr Kd.rstr ts, Atom.arr Kd.int ps, Atom.bag φ] [VV.one (V1.c (C.ptr 0 0 0))]
 [Atom.cells 40 [C.nils, C.nils, C.nils, C.nils, C.slc 1 0 ts.length none, C.slc 2 0 ps.length none, C.nils, C.nils, C.nils, C.nils, C.nils, C.nils, C.nils, C.nils, C.nils, C.nils, C.nils, C.nils, C.nils,
 C.nils, C.nils, C.nils, C.nils, C.nils, C.nils, C.nils], Atom.arr Kd.rstr ts, Atom.arr Kd.int ps] ∧ ∀ (y : Unit), True → True ∧ Into (K := KK) 0 [] [0, 1, 2] [VV.one (V1.c (C.ptr 0 0 0))] [Atom.cells 40
 [C.nils, C.nils, C.nils, C.nils, C.slc 1 0 ts.length none, C.slc 2 0 ps.length none, C.nils, C.nils, C.nils, C.nils, C.nils, C.nils, C.nils, C.nils, C.nils, C.nils, C.nils, C.nils, C.nils, C.nils, C.nils,
 C.nils, C.nils, C.nils, C.nils, C.nils], Atom.arr Kd.rstr ts, Atom.arr Kd.int ps, Atom.bag φ] [VV.one (V1.c (C.ptr 0 0 0))] [Atom.cells 40 [C.nils, C.nils, C.nils, C.nils, C.slc 1 0 ts.length none, C.slc
 2 0 ps.length none, C.nils, C.nils, C.nils, C.nils, C.nils, C.nils, C.nils, C.nils, C.nils, C.nils, C.nils, C.nils, C.nils, C.nils, C.nils, C.nils, C.nils, C.nils, C.nils, C.nils], Atom.arr Kd.rstr ts,
 Atom.arr Kd.int ps] ∧ ∀ (y : Unit), True → Marks ts ps φ ∧ Into (K := KK) 0 [] [0, 1, 2, 3] [VV.one (V1.c (C.ptr 0 0 0))] [Atom.cells 40 [C.nils, C.nils, C.nils, C.nils, C.slc 1 0 ts.length none, C.slc
 2 0 ps.length none, C.nils, C.nils, C.nils, C.nils, C.nils, C.nils, C.nils, C.nils, C.nils, C.nils, C.nils, C.nils, C.nils, C.nils, C.nils, C.nils, C.nils, C.nils, C.nils, C.nils], Atom.arr Kd.rstr ts,
 Atom.arr Kd.int ps, Atom.bag φ] [VV.one (V1.c (C.ptr 0 0 0))] [Atom.cells 40 [C.nils, C.nils, C.nils, C.nils, C.slc 1 0 ts.length none, C.slc 2 0 ps.length none, C.nils, C.nils, C.nils, C.nils, C.nils,
 C.nils, C.nils, C.nils, C.nils, C.nils, C.nils, C.nils, C.nils, C.nils, C.nils, C.nils, C.nils, C.nils, C.nils, C.nils], Atom.arr Kd.rstr ts, Atom.arr Kd.int ps, Atom.bag φ] ∧ ∀ (y : Unit), True → True
 ∧ Into (K := KK) 0 [] [0, 1, 2] [VV.one (V1.c (C.ptr 0 0 0))] [Atom.cells 40 [C.nils, C.nils, C.nils, C.nils, C.slc 1 0 ts.length none, C.slc 2 0 ps.length none, C.nils, C.nils, C.nils, C.nils, C.nils,
 C.nils, C.nils, C.nils, C.nils, C.nils, C.nils, C.nils, C.nils, C.nils, C.nils, C.nils, C.nils, C.nils, C.nils, C.nils], Atom.arr Kd.rstr ts, Atom.arr Kd.int ps, Atom.bag φ] [VV.one (V1.c (C.ptr 0 0 0))]
 [Atom.cells 40 [C.nils, C.nils, C.nils, C.nils, C.slc 1 0 ts.length none, C.slc 2 0 ps.length none, C.nils, C.nils, C.nils, C.nils, C.nils, C.nils, C.nils, C.nils, C.nils, C.nils, C.nils, C.nils, C.nils,
 C.nils, C.nils, C.nils, C.nils, C.nils, C.nils, C.nils], Atom.arr Kd.rstr ts, Atom.arr Kd.int ps] ∧ ∀ (y : Unit), True → True ∧ Into (K := KK) 0 [] [0, 1, 2] [VV.one (V1.c (C.ptr 0 0 0))] [Atom.cells 40
 [C.nils, C.nils, C.nils, C.nils, C.slc 1 0 ts.length none, C.slc 2 0 ps.length none, C.nils, C.nils, C.nils, C.nils, C.nils, C.nils, C.nils, C.nils, C.nils, C.nils, C.nils, C.nils, C.nils, C.nils, C.nils,
 C.nils, C.nils, C.nils, C.nils, C.nils], Atom.arr Kd.rstr ts, Atom.arr Kd.int ps, Atom.bag φ] [VV.one (V1.c (C.ptr 0 0 0))] [Atom.cells 40 [C.nils, C.nils, C.nils, C.nils, C.slc 1 0 ts.length none, C.slc
 2 0 ps.length none, C.nils, C.nils, C.nils, C.nils, C.nils, C.nils, C.nils, C.nils, C.nils, C.nils, C.nils, C.nils, C.nils, C.nils, C.nils, C.nils, C.nils, C.nils, C.nils, C.nils], Atom.arr Kd.rstr ts,
 Atom.arr Kd.int ps] ∧ ∀ (y : Unit), True → True ∧ Into (K := KK) 0 [] [0, 1, 2] [VV.one (V1.c (C.ptr 0 0 0))] [Atom.cells 40 [C.nils, C.nils, C.nils, C.nils, C.slc 1 0 ts.length none, C.slc 2 0 ps.length
 none, C.nils, C.nils, C.nils, C.nils, C.nils, C.nils, C.nils, C.nils, C.nils, C.nils, C.nils, C.nils, C.nils, C.nils, C.nils, C.nils, C.nils, C.nils, C.nils, C.nils], Atom.arr Kd.rstr ts, Atom.arr Kd.int
 ps, Atom.bag φ] [VV.one (V1.c (C.ptr 0 0 0))] [Atom.cells 40 [C.nils, C.nils, C.nils, C.nils, C.slc 1 0 ts.length none, C.slc 2 0 ps.length none, C.nils, C.nils, C.nils, C.nils, C.nils, C.nils, C.nils,
 C.nils, C.nils, C.nils, C.nils, C.nils, C.nils, C.nils, C.nils, C.nils, C.nils, C.nils, C.nils, C.nils], Atom.arr Kd.rstr ts, Atom.arr Kd.int ps] ∧ ∀ (y : Unit), True → True ∧ Into (K := KK) 0 [] [0, 1,
 2] [VV.one (V1.c (C.ptr 0 0 0))] [Atom.cells 40 [C.nils, C.nils, C.nils, C.nils, C.slc 1 0 ts.length none, C.slc 2 0 ps.length none, C.nils, C.nils, C.nils, C.nils, C.nils, C.nils, C.nils, C.nils, C.nils,
 C.nils, C.nils, C.nils, C.nils, C.nils, C.nils, C.nils, C.nils, C.nils, C.nils, C.nils], Atom.arr Kd.rstr ts, Atom.arr Kd.int ps, Atom.bag φ] [VV.one (V1.c (C.ptr 0 0 0))] [Atom.cells 40 [C.nils, C.nils,
 C.nils, C.nils, C.slc 1 0 ts.length none, C.slc 2 0 ps.length none, C.nils, C.nils, C.nils, C.nils, C.nils, C.nils, C.nils, C.nils, C.nils, C.nils, C.nils, C.nils, C.nils, C.nils, C.nils, C.nils, C.nils,
 C.nils, C.nils, C.nils], Atom.arr Kd.rstr ts, Atom.arr Kd.int ps] ∧ ∀ (y : Unit), True → True ∧ Into (K := KK) 0 [] [0, 1, 2] [VV.one (V1.c (C.ptr 0 0 0))] [Atom.cells 40 [C.nils, C.nils, C.nils, C.nils,
 C.slc 1 0 ts.length none, C.slc 2 0 ps.length none, C.nils, C.nils, C.nils, C.nils, C.nils, C.nils, C.nils, C.nils, C.nils, C.nils, C.nils, C.nils, C.nils, C.nils, C.nils, C.nils, C.nils, C.nils, C.nils,
 C.nils], Atom.arr Kd.rstr ts, Atom.arr Kd.int ps, Atom.bag φ] [VV.one (V1.c (C.ptr 0 0 0))] [Atom.cells 40 [C.nils, C.nils, C.nils, C.nils, C.slc 1 0 ts.length none, C.slc 2 0 ps.length none, C.nils, C.nils,
 C.nils, C.nils, C.nils, C.nils, C.nils, C.nils, C.nils, C.nils, C.nils, C.nils, C.nils, C.nils, C.nils, C.nils, C.nils, C.nils, C.nils, C.nils], Atom.arr Kd.rstr ts, Atom.arr Kd.int ps] ∧ ∀ (y : Unit),
 True → True ∧ Into (K := KK) 0 [] [0, 1, 2] [VV.one (V1.c (C.ptr 0 0 0))] [Atom.cells 40 [C.nils, C.nils, C.nils, C.nils, C.slc 1 0 ts.length none, C.slc 2 0 ps.length none, C.nils, C.nils, C.nils, C.nils,
 C.nils, C.nils, C.nils, C.nils, C.nils, C.nils, C.nils, C.nils, C.nils, C.nils, C.nils, C.nils, C.nils, C.nils, C.nils, C.nils], Atom.arr Kd.rstr ts, Atom.arr Kd.int ps, Atom.bag φ] [VV.one (V1.c (C.ptr
 0 0 0))] [Atom.cells 40 [C.nils, C.nils, C.nils, C.nils, C.slc 1 0 ts.length none, C.slc 2 0 ps.length none, C.nils, C.nils, C.nils, C.nils, C.nils, C.nils, C.nils, C.nils, C.nils, C.nils, C.nils, C.nils,
 C.nils, C.nils, C.nils, C.nils, C.nils, C.nils, C.nils, C.nils], Atom.arr Kd.rstr ts, Atom.arr Kd.int ps] ∧ ∀ (y : Unit), True → True ∧ Into (K := KK) 0 [] [0, 1, 2] [VV.one (V1.c (C.ptr 0 0 0))] [Atom.cells
 40 [C.nils, C.nils, C.nils, C.nils, C.slc 1 0 ts.length none, C.slc 2 0 ps.length none, C.nils, C.nils, C.nils, C.nils, C.nils, C.nils, C.nils, C.nils, C.nils, C.nils, C.nils, C.nils, C.nils, C.nils, C.nils,
 C.nils, C.nils, C.nils, C.nils, C.nils], Atom.arr Kd.rstr ts, Atom.arr Kd.int ps, Atom.bag φ] [VV.one (V1.c (C.ptr 0 0 0))] [Atom.cells 40 [C.nils, C.nils, C.nils, C.nils, C.slc 1 0 ts.length none, C.slc
 2 0 ps.length none, C.nils, C.nils, C.nils, C.nils, C.nils, C.nils, C.nils, C.nils, C.nils, C.nils, C.nils, C.nils, C.nils, C.nils, C.nils, C.nils, C.nils, C.nils, C.nils, C.nils], Atom.arr Kd.rstr ts,
 Atom.arr Kd.int ps] ∧ ∀ (y : Unit), True → True ∧ Into (K := KK) 0 [] [0, 1, 2] [VV.one (V1.c (C.ptr 0 0 0))] [Atom.cells 40 [C.nils, C.nils, C.nils, C.nils, C.slc 1 0 ts.length none, C.slc 2 0 ps.length
 none, C.nils, C.nils, C.nils, C.nils, C.nils, C.nils, C.nils, C.nils, C.nils, C.nils, C.nils, C.nils, C.nils, C.nils, C.nils, C.nils, C.nils, C.nils, C.nils, C.nils], Atom.arr Kd.rstr ts, Atom.arr Kd.int
 ps, Atom.bag φ] [VV.one (V1.c (C.ptr 0 0 0))] [Atom.cells 40 [C.nils, C.nils, C.nils, C.nils, C.slc 1 0 ts.length none, C.slc 2 0 ps.length none, C.nils, C.nils, C.nils, C.nils, C.nils, C.nils, C.nils,
 C.nils, C.nils, C.nils, C.nils, C.nils, C.nils, C.nils, C.nils, C.nils, C.nils, C.nils, C.nils, C.nils], Atom.arr Kd.rstr ts, Atom.arr Kd.int ps] ∧ ∀ (y : Unit), True → True ∧ Into (K := KK) 0 [] [0, 1,
 2] [VV.one (V1.c (C.ptr 0 0 0))] [Atom.cells 40 [C.nils, C.nils, C.nils, C.nils, C.slc 1 0 ts.length none, C.slc 2 0 ps.length none, C.nils, C.nils, C.nils, C.nils, C.nils, C.nils, C.nils, C.nils, C.nils,
 C.nils, C.nils, C.nils, C.nils, C.nils, C.nils, C.nils, C.nils, C.nils, C.nils, C.nils], Atom.arr Kd.rstr ts, Atom.arr Kd.int ps, Atom.bag φ] [VV.one (V1.c (C.ptr 0 0 0))] [Atom.cells 40 [C.nils, C.nils,
 C.nils, C.nils, C.slc 1 0 ts.length none, C.slc 2 0 ps.length none, C.nils, C.nils, C.nils, C.nils, C.nils, C.nils, C.nils, C.nils, C.nils, C.nils, C.nils, C.nils, C.nils, C.nils, C.nils, C.nils, C.nils,
 C.nils, C.nils, C.nils], Atom.arr Kd.rstr ts, Atom.arr Kd.int ps] ∧ ∀ (y : Unit), True → True ∧ Into (K := KK) 0 [] [0, 1, 2] [VV.one (V1.c (C.ptr 0 0 0))] [Atom.cells 40 [C.nils, C.nils, C.nils, C.nils,
 C.slc 1 0 ts.length none, C.slc 2 0 ps.length none, C.nils, C.nils, C.nils, C.nils, C.nils, C.nils, C.nils, C.nils, C.nils, C.nils, C.nils, C.nils, C.nils, C.nils, C.nils, C.nils, C.nils, C.nils, C.nils,
 C.nils], Atom.arr Kd.rstr ts, Atom.arr Kd.int ps, Atom.bag φ] [VV.one (V1.c (C.ptr 0 0 0))] [Atom.cells 40 [C.nils, C.nils, C.nils, C.nils, C.slc 1 0 ts.length none, C.slc 2 0 ps.length none, C.nils, C.nils,
 C.nils, C.nils, C.nils, C.nils, C.nils, C.nils, C.nils, C.nils, C.nils, C.nils, C.nils, C.nils, C.nils, C.nils, C.nils, C.nils, C.nils, C.nils], Atom.arr Kd.rstr ts, Atom.arr Kd.int ps] ∧ ∀ (y : Unit),
 True → EndsAs (1 + 1 + 1 + 1) (ct_hold ts ps φ) (boolv true) [Atom.cells 40 [C.nils, C.nils, C.nils, C.nils, C.slc 1 0 ts.length none, C.slc 2 0 ps.length none, C.nils, C.nils, C.nils, C.nils, C.nils,
 C.nils, C.nils, C.nils, C.nils, C.nils, C.nils, C.nils, C.nils, C.nils, C.nils, C.nils, C.nils, C.nils, C.nils, C.nils], Atom.arr Kd.rstr ts, Atom.arr Kd.int ps, Atom.bag φ]) := by kernel_rfl
theorem hold_ok (ts : List RS) (ps : List Int) (φ : Bag KK) : CtOk Try.prog 9 (ct_hold ts ps φ) := CtOk_of KK_ok tab5 ann0 (fn := Try.f9) rfl (fun _ _ => rfl) fun hn => by
  have hn : Marks ts ps φ := hn
  rw [vc_hold]
  exact ⟨trivial, into_mk (by kernel_rfl) (by (repeat' first | exact trivial | exact rfl | apply And.intro)) (by (repeat' first | exact trivial | exact rfl | apply And.intro)), fun _ _ => ⟨trivial, into_mk (by kernel_rfl) (by (repeat' first | exact trivial | exact rfl | apply And.intro)) (by (repeat' first | exact trivial | exact rfl | apply And.intro)), fun _ _ => ⟨hn, into_mk (by kernel_rfl) (by (repeat' first | exact trivial | exact rfl | apply And.intro)) (by (repeat' first | exact trivial | exact rfl | apply And.intro)), fun _ _ => ⟨trivial, into_mk (by kernel_rfl) (by (repeat' first | exact trivial | exact rfl | apply And.intro)) (by (repeat' first | exact trivial | exact rfl | apply And.intro)), fun _ _ => ⟨trivial, into_mk (by kernel_rfl) (by (repeat' first | exact trivial | exact rfl | apply And.intro)) (by (repeat' first | exact trivial | exact rfl | apply And.intro)), fun _ _ => ⟨trivial, into_mk (by kernel_rfl) (by (repeat' first | exact trivial | exact rfl | apply And.intro)) (by (repeat' first | exact trivial | exact rfl | apply And.intro)), fun _ _ => ⟨trivial, into_mk (by kernel_rfl) (by (repeat' first | exact trivial | exact rfl | apply And.intro)) (by (repeat' first | exact trivial | exact rfl | apply And.intro)), fun _ _ => ⟨trivial, into_mk (by kernel_rfl) (by (repeat' first | exact trivial | exact rfl | apply And.intro)) (by (repeat' first | exact trivial | exact rfl | apply And.intro)), fun _ _ => ⟨trivial, into_mk (by kernel_rfl) (by (repeat' first | exact trivial | exact rfl | apply And.intro)) (by (repeat' first | exact trivial | exact rfl | apply And.intro)), fun _ _ => ⟨trivial, into_mk (by kernel_rfl) (by (repeat' first | exact trivial | exact rfl | apply And.intro)) (by (repeat' first | exact trivial | exact rfl | apply And.intro)), fun _ _ => ⟨trivial, into_mk (by kernel_rfl) (by (repeat' first | exact trivial | exact rfl | apply And.intro)) (by (repeat' first | exact trivial | exact rfl | apply And.intro)), fun _ _ => ⟨trivial, into_mk (by kernel_rfl) (by (repeat' first | exact trivial | exact rfl | apply And.intro)) (by (repeat' first | exact trivial | exact rfl | apply And.intro)), fun _ _ => ⟨trivial, into_mk (by kernel_rfl) (by (repeat' first | exact trivial | exact rfl | apply And.intro)) (by (repeat' first | exact trivial | exact rfl | apply And.intro)), fun _ _ => ⟨(), [], [0, 1, 2, 3], trivial, by (repeat' first | exact trivial | exact rfl | apply And.intro)⟩⟩⟩⟩⟩⟩⟩⟩⟩⟩⟩⟩⟩⟩
theorem join_ok (l : List ByteArray) : CtOk Try.prog 6 (ct_join l) := CtOk_of KK_ok tab4 ann0 (fn := Try.f6) rfl (fun _ _ => rfl) fun hn => by
  obtain ⟨h1, h2⟩ := hn
  rw [vc_join]
  have hq : ljoin l slash = joinB l := ljoin_eq l
  have hq' : (ljoin l slash).size ≤ 140737488355328 := by rw [hq]; omega
  exact ⟨⟨by omega, hq'⟩, into_mk (by kernel_rfl) (by (repeat' first | exact trivial | exact rfl | apply And.intro)) (by (repeat' first | exact trivial | exact rfl | apply And.intro)), fun _ _ => ⟨(), [], [0], trivial, by (repeat' first | exact trivial | exact rfl | exact hq | apply And.intro)⟩⟩
end Go.Proofs.Ytnmidichehjbgaa.T
