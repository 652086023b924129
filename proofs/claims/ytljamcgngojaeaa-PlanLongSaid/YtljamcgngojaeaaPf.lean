/- The plan: few, plain. -/
import Derived.Test.YtljamcgngojaeaaPe
namespace Go.Proofs.Ytljamcgngojaeaa.T
open Go.Proofs.Ytljamcgngojaeaa.E
set_option maxRecDepth 100000
set_option linter.unusedVariables false
def tab4 : Tab Try.prog KK := ⟨mixed, fun f args H => match f, args with
  | 27, [.one (.c (.ptr n 0 0)), .one (.c (.str s))] => match cnt (at_ H n) with
    | some m => some (ct_ctext m s, [], [n])
    | none => none
  | 13, [.one (.c (.slc n 0 len none))] => match getL .cell (at_ H n) with
    | some l => some (ct_growing l, [], [n])
    | none => none
  | 13, [.one (.c .nils)] => some (ct_growing [], [.cell], [H.length])
  | f, args => tab3.pick f args H, fun f args H ct ks τ h => by
    split at h
    · split at h
      · cases h; exact ctext_ok _ _
      · cases h
    · split at h
      · cases h; exact growing_ok _
      · cases h
    · cases h; exact growing_ok _
    · exact tab3.ok _ _ _ _ _ _ h⟩
def Paths (l : List Cell) : Prop := i64ok l.length ∧ ∀ c ∈ l, i64ok c.path.size
def ct_few (l : List Cell) : Ct KK := { need := Paths l, pre := [.ro .cell l], args := [.agg [.slc 0 0 l.length none]], Y := Bool, ok := fun b => b = true → l.length ≤ 300, ret := fun b => boolv b, post := fun _ => [.gone] }
def inv_few (l : List Cell) : Inv KK := { X := Nat × Int, fr := fun x => [.any, .c (.ptr 1 0 0), .any, .c (.ptr 2 0 0), i64 x.1] ++ anys 28, H := fun x => [.ro .cell l, .cells 25 [.slc 0 0 l.length none], .cells 72 [.int .i64 x.2]], ok := fun x => x.1 ≤ l.length ∧ i64ok x.2, meas := fun x => l.length - x.1 }
def plainC (c : Cell) : Cell := { c with keep := smallF c.keep, take := smallF c.take, names := smallF c.names, bytes := smallF c.bytes, hadN := smallF c.hadN, hadB := smallF c.hadB }
def plainF (l : List Cell) (i : Nat) : List Cell := (l.take i).map plainC
def ct_plain (l : List Cell) : Ct KK := { need := Cells l ∧ l.length ≤ 300, pre := [.ro .cell l], args := [.agg [.slc 0 0 l.length none]], Y := Unit, ok := fun _ => True, ret := fun _ => .agg [.slc 1 0 l.length none], post := fun _ => [.gone, .arr .cell (plainF l l.length)] }
def inv_plain (l : List Cell) : Inv KK := { X := Nat, fr := fun i => [.any, .c (.ptr 1 0 0), .c (.ptr 2 0 0), .c (.slc 3 0 i none), i64 i] ++ anys 49, H := fun i => [.ro .cell l, .cells 25 [.slc 0 0 l.length none], .cells 25 [.nils], .arr .cell (plainF l i)], ok := fun i => i ≤ l.length, meas := fun i : Nat => l.length - i }
theorem vc_few (l : List Cell) : evFn tab4 (ann1 (inv_few l)) Try.f9 (ct_few l) = ( i64ok (65536 : Int) ∧ Into (K := KK) 0 [] [] [i64 (65536 : Int)] [Atom.ro Kd.cell l, Atom.cells 25 [C.slc 0 0 l.length none]] [i64 (65536 : Int)] [] ∧ ∀ (y : Unit), True → Enter 1 (inv_few l) (fun (x
 : Nat × Int) => True) [VV.one (V1.agg [C.slc 0 0 l.length none]), VV.one (V1.c (C.ptr 1 0 0)), boolv false, VV.one (V1.c (C.ptr 2 0 0)), i64 (0 : Int), VV.one (V1.c (C.ptr 2 0 0)), VV.any, VV.any, VV.any,
 VV.any, VV.any, VV.any, VV.any, VV.any, VV.any, VV.any, VV.any, VV.any, VV.any, VV.any, VV.any, VV.any, VV.any, VV.any, VV.any, VV.any, VV.any, VV.any, VV.any, VV.any, VV.any, VV.any, VV.any] [Atom.ro
 Kd.cell l, Atom.cells 25 [C.slc 0 0 l.length none], Atom.cells (72 : TypeId) [C.int .i64 (65536 : Int)]] ∧ ∀ (z : Nat × Int), z.fst ≤ l.length ∧ i64ok z.snd → ite2 (decide ((↑z.fst : Int) < (↑l.length
 : Int))) (True ∧ Into (K := KK) 0 [] [2] [VV.one (V1.c (C.ptr 2 0 0))] [Atom.ro Kd.cell l, Atom.cells (25 : TypeId) [C.slc 0 0 l.length none], Atom.cells (72 : TypeId) [C.int .i64 z.snd]] [VV.one (V1.c
 (C.ptr 0 0 0))] [Atom.cells (72 : TypeId) [C.int .i64 z.snd]] ∧ ∀ (y : Unit), True → ite2 (decide ((0 : Int) ≤ z.snd)) (((0 : Int) ≤ (↑z.fst : Int) ∧ (↑z.fst : Int) < (↑l.length : Int)) ∧ 0 + (↑z.fst :
 Int).toNat < l.length ∧ True ∧ 0 + (↑z.fst : Int).toNat < l.length ∧ (i64ok z.snd ∧ i64ok (↑(rd l (0 + (↑z.fst : Int).toNat) (KK.dflt Kd.cell)).path.size : Int)) ∧ Into (K := KK) 0 [] [2] [VV.one (V1.c
 (C.ptr 2 0 0)), VV.one (V1.c (C.str (rd l (0 + (↑z.fst : Int).toNat) (KK.dflt Kd.cell)).path))] [Atom.ro Kd.cell l, Atom.cells (25 : TypeId) [C.slc 0 0 l.length none], Atom.cells (72 : TypeId) [C.int .i64
 z.snd]] [VV.one (V1.c (C.ptr 0 0 0)), VV.one (V1.c (C.str (rd l (0 + (↑z.fst : Int).toNat) (KK.dflt Kd.cell)).path))] [Atom.cells (72 : TypeId) [C.int .i64 z.snd]] ∧ ∀ (y : Unit), True → i64ok ((↑z.fst
 : Int) + (1 : Int)) ∧ Enter 1 (inv_few l) (fun (z' : Nat × Int) => l.length - z'.fst < l.length - z.fst) [VV.any, VV.one (V1.c (C.ptr 1 0 0)), VV.any, VV.one (V1.c (C.ptr 2 0 0)), i64 ((↑z.fst : Int) +
 (1 : Int)), VV.any, i64 (↑z.fst : Int), VV.one (V1.c (C.ptr 1 0 0)), VV.one (V1.c (C.slc 0 0 l.length none)), i64 (↑l.length : Int), boolv true, boolv true, VV.one (V1.c (C.ptr 2 0 0)), boolv (decide ((0
 : Int) ≤ z.snd)), boolv (decide ((0 : Int) ≤ z.snd)), i64 (↑z.fst : Int), i64 ((↑z.fst : Int) + (1 : Int)), VV.one (V1.c (C.ptr 2 0 0)), VV.one (V1.c (C.ptr 1 0 0)), VV.one (V1.c (C.slc 0 0 l.length none)),
 i64 (↑z.fst : Int), VV.one (V1.c (C.ptr 0 (0 + (↑z.fst : Int).toNat) 0)), VV.one (V1.c (C.ptr 0 (0 + (↑z.fst : Int).toNat) 0)), VV.one (V1.c (C.str (rd l (0 + (↑z.fst : Int).toNat) (KK.dflt Kd.cell)).path)),
 VV.tup [], VV.any, VV.any, VV.any, VV.any, VV.any, VV.any, VV.any, VV.any] [Atom.ro Kd.cell l, Atom.cells (25 : TypeId) [C.slc 0 0 l.length none], Atom.cells (72 : TypeId) [C.int .i64 (countF (countF z.snd
 (1 : Int)) (↑(rd l (0 + (↑z.fst : Int).toNat) (KK.dflt Kd.cell)).path.size : Int))]]) (ite2 (decide ((↑l.length : Int) ≤ (300 : Int))) (True ∧ Into (K := KK) 0 [] [2] [VV.one (V1.c (C.ptr 2 0 0))] [Atom.ro
 Kd.cell l, Atom.cells (25 : TypeId) [C.slc 0 0 l.length none], Atom.cells (72 : TypeId) [C.int .i64 z.snd]] [VV.one (V1.c (C.ptr 0 0 0))] [Atom.cells (72 : TypeId) [C.int .i64 z.snd]] ∧ ∀ (y : Unit), True
 → EndsAs 1 (ct_few l) (boolv (decide ((0 : Int) ≤ z.snd))) [Atom.ro Kd.cell l, Atom.cells (25 : TypeId) [C.slc 0 0 l.length none], Atom.cells (72 : TypeId) [C.int .i64 z.snd]]) (EndsAs 1 (ct_few l) (boolv
 false) [Atom.ro Kd.cell l, Atom.cells (25 : TypeId) [C.slc 0 0 l.length none], Atom.cells (72 : TypeId) [C.int .i64 z.snd]]))) (ite2 (decide ((↑l.length : Int) ≤ (300 : Int))) (True ∧ Into (K := KK) 0
 [] [2] [VV.one (V1.c (C.ptr 2 0 0))] [Atom.ro Kd.cell l, Atom.cells (25 : TypeId) [C.slc 0 0 l.length none], Atom.cells (72 : TypeId) [C.int .i64 z.snd]] [VV.one (V1.c (C.ptr 0 0 0))] [Atom.cells (72 :
 TypeId) [C.int .i64 z.snd]] ∧ ∀ (y : Unit), True → EndsAs 1 (ct_few l) (boolv (decide ((0 : Int) ≤ z.snd))) [Atom.ro Kd.cell l, Atom.cells (25 : TypeId) [C.slc 0 0 l.length none], Atom.cells (72 : TypeId)
 [C.int .i64 z.snd]]) (EndsAs 1 (ct_few l) (boolv false) [Atom.ro Kd.cell l, Atom.cells (25 : TypeId) [C.slc 0 0 l.length none], Atom.cells (72 : TypeId) [C.int .i64 z.snd]]))) := by kernel_rfl
theorem vc_plain (l : List Cell) : evFn tab4 (ann1 (inv_plain l)) Try.f11 (ct_plain l) = ( Enter 1 (inv_plain l) (fun (x : Nat) => True) [VV.one (V1.agg [C.slc 0 0 l.length none]), VV.one (V1.c (C.ptr 1 0 0)), VV.one (V1.c (C.ptr 2 0 0)), VV.one (V1.c C.nils), i64 (0 : Int), VV.any, VV.any,
 VV.any, VV.any, VV.any, VV.any, VV.any, VV.any, VV.any, VV.any, VV.any, VV.any, VV.any, VV.any, VV.any, VV.any, VV.any, VV.any, VV.any, VV.any, VV.any, VV.any, VV.any, VV.any, VV.any, VV.any, VV.any, VV.any,
 VV.any, VV.any, VV.any, VV.any, VV.any, VV.any, VV.any, VV.any, VV.any, VV.any, VV.any, VV.any, VV.any, VV.any, VV.any, VV.any, VV.any, VV.any, VV.any, VV.any, VV.any] [Atom.ro Kd.cell l, Atom.cells 25
 [C.slc 0 0 l.length none], Atom.cells 25 [C.nils]] ∧ ∀ (z : Nat), z ≤ l.length → ite2 (decide ((↑z : Int) < (↑l.length : Int))) (ite2 (decide ((↑z : Int) < (300 : Int))) (((0 : Int) ≤ (↑z : Int) ∧ (↑z
 : Int) < (↑l.length : Int)) ∧ 0 + (↑z : Int).toNat < l.length ∧ True ∧ 0 + (↑z : Int).toNat < l.length ∧ True ∧ i64ok (rd l (0 + (↑z : Int).toNat) (KK.dflt Kd.cell)).keep ∧ Into (K := KK) 0 [] [] [i64
 (rd l (0 + (↑z : Int).toNat) (KK.dflt Kd.cell)).keep] [Atom.ro Kd.cell l, Atom.cells (25 : TypeId) [C.slc 0 0 l.length none], Atom.cells (25 : TypeId) [C.nils], Atom.arr Kd.cell (plainF l z), Atom.cells
 44 [C.str (rd l (0 + (↑z : Int).toNat) (KK.dflt Kd.cell)).path, C.int .i64 (rd l (0 + (↑z : Int).toNat) (KK.dflt Kd.cell)).what, C.int .i64 (rd l (0 + (↑z : Int).toNat) (KK.dflt Kd.cell)).side, C.int .i64
 (rd l (0 + (↑z : Int).toNat) (KK.dflt Kd.cell)).mode, C.int .i64 (rd l (0 + (↑z : Int).toNat) (KK.dflt Kd.cell)).keep, C.int .i64 (rd l (0 + (↑z : Int).toNat) (KK.dflt Kd.cell)).take, C.int .i64 (rd l
 (0 + (↑z : Int).toNat) (KK.dflt Kd.cell)).names, C.int .i64 (rd l (0 + (↑z : Int).toNat) (KK.dflt Kd.cell)).bytes, C.int .i64 (rd l (0 + (↑z : Int).toNat) (KK.dflt Kd.cell)).hadN, C.int .i64 (rd l (0 +
 (↑z : Int).toNat) (KK.dflt Kd.cell)).hadB]] [i64 (rd l (0 + (↑z : Int).toNat) (KK.dflt Kd.cell)).keep] [] ∧ ∀ (y : Unit), True → (i64 (rd l (0 + (↑z : Int).toNat) (KK.dflt Kd.cell)).take = i64 (rd l (0
 + (↑z : Int).toNat) (KK.dflt Kd.cell)).take ∧ i64 (rd l (0 + (↑z : Int).toNat) (KK.dflt Kd.cell)).names = i64 (rd l (0 + (↑z : Int).toNat) (KK.dflt Kd.cell)).names ∧ i64 (rd l (0 + (↑z : Int).toNat) (KK.dflt
 Kd.cell)).bytes = i64 (rd l (0 + (↑z : Int).toNat) (KK.dflt Kd.cell)).bytes ∧ i64 (rd l (0 + (↑z : Int).toNat) (KK.dflt Kd.cell)).hadN = i64 (rd l (0 + (↑z : Int).toNat) (KK.dflt Kd.cell)).hadN ∧ i64 (rd
 l (0 + (↑z : Int).toNat) (KK.dflt Kd.cell)).hadB = i64 (rd l (0 + (↑z : Int).toNat) (KK.dflt Kd.cell)).hadB ∧ True) ∧ i64ok (rd l (0 + (↑z : Int).toNat) (KK.dflt Kd.cell)).take ∧ Into (K := KK) 0 [] []
 [i64 (rd l (0 + (↑z : Int).toNat) (KK.dflt Kd.cell)).take] [Atom.ro Kd.cell l, Atom.cells (25 : TypeId) [C.slc 0 0 l.length none], Atom.cells (25 : TypeId) [C.nils], Atom.arr Kd.cell (plainF l z), Atom.cells
 44 [C.str (rd l (0 + (↑z : Int).toNat) (KK.dflt Kd.cell)).path, C.int .i64 (rd l (0 + (↑z : Int).toNat) (KK.dflt Kd.cell)).what, C.int .i64 (rd l (0 + (↑z : Int).toNat) (KK.dflt Kd.cell)).side, C.int .i64
 (rd l (0 + (↑z : Int).toNat) (KK.dflt Kd.cell)).mode, C.int .i64 (rd l (0 + (↑z : Int).toNat) (KK.dflt Kd.cell)).keep, C.int .i64 (rd l (0 + (↑z : Int).toNat) (KK.dflt Kd.cell)).take, C.int .i64 (rd l
 (0 + (↑z : Int).toNat) (KK.dflt Kd.cell)).names, C.int .i64 (rd l (0 + (↑z : Int).toNat) (KK.dflt Kd.cell)).bytes, C.int .i64 (rd l (0 + (↑z : Int).toNat) (KK.dflt Kd.cell)).hadN, C.int .i64 (rd l (0 +
 (↑z : Int).toNat) (KK.dflt Kd.cell)).hadB]] [i64 (rd l (0 + (↑z : Int).toNat) (KK.dflt Kd.cell)).take] [] ∧ ∀ (y : Unit), True → (i64 (rd l (0 + (↑z : Int).toNat) (KK.dflt Kd.cell)).names = i64 (rd l (0
 + (↑z : Int).toNat) (KK.dflt Kd.cell)).names ∧ i64 (rd l (0 + (↑z : Int).toNat) (KK.dflt Kd.cell)).bytes = i64 (rd l (0 + (↑z : Int).toNat) (KK.dflt Kd.cell)).bytes ∧ i64 (rd l (0 + (↑z : Int).toNat) (KK.dflt
 Kd.cell)).hadN = i64 (rd l (0 + (↑z : Int).toNat) (KK.dflt Kd.cell)).hadN ∧ i64 (rd l (0 + (↑z : Int).toNat) (KK.dflt Kd.cell)).hadB = i64 (rd l (0 + (↑z : Int).toNat) (KK.dflt Kd.cell)).hadB ∧ True) ∧
 i64ok (rd l (0 + (↑z : Int).toNat) (KK.dflt Kd.cell)).names ∧ Into (K := KK) 0 [] [] [i64 (rd l (0 + (↑z : Int).toNat) (KK.dflt Kd.cell)).names] [Atom.ro Kd.cell l, Atom.cells (25 : TypeId) [C.slc 0 0
 l.length none], Atom.cells (25 : TypeId) [C.nils], Atom.arr Kd.cell (plainF l z), Atom.cells 44 [C.str (rd l (0 + (↑z : Int).toNat) (KK.dflt Kd.cell)).path, C.int .i64 (rd l (0 + (↑z : Int).toNat) (KK.dflt
 Kd.cell)).what, C.int .i64 (rd l (0 + (↑z : Int).toNat) (KK.dflt Kd.cell)).side, C.int .i64 (rd l (0 + (↑z : Int).toNat) (KK.dflt Kd.cell)).mode, C.int .i64 (rd l (0 + (↑z : Int).toNat) (KK.dflt Kd.cell)).keep,
 C.int .i64 (rd l (0 + (↑z : Int).toNat) (KK.dflt Kd.cell)).take, C.int .i64 (rd l (0 + (↑z : Int).toNat) (KK.dflt Kd.cell)).names, C.int .i64 (rd l (0 + (↑z : Int).toNat) (KK.dflt Kd.cell)).bytes, C.int
 .i64 (rd l (0 + (↑z : Int).toNat) (KK.dflt Kd.cell)).hadN, C.int .i64 (rd l (0 + (↑z : Int).toNat) (KK.dflt Kd.cell)).hadB]] [i64 (rd l (0 + (↑z : Int).toNat) (KK.dflt Kd.cell)).names] [] ∧ ∀ (y : Unit),
 True → (i64 (rd l (0 + (↑z : Int).toNat) (KK.dflt Kd.cell)).bytes = i64 (rd l (0 + (↑z : Int).toNat) (KK.dflt Kd.cell)).bytes ∧ i64 (rd l (0 + (↑z : Int).toNat) (KK.dflt Kd.cell)).hadN = i64 (rd l (0 +
 (↑z : Int).toNat) (KK.dflt Kd.cell)).hadN ∧ i64 (rd l (0 + (↑z : Int).toNat) (KK.dflt Kd.cell)).hadB = i64 (rd l (0 + (↑z : Int).toNat) (KK.dflt Kd.cell)).hadB ∧ True) ∧ i64ok (rd l (0 + (↑z : Int).toNat)
 (KK.dflt Kd.cell)).bytes ∧ Into (K := KK) 0 [] [] [i64 (rd l (0 + (↑z : Int).toNat) (KK.dflt Kd.cell)).bytes] [Atom.ro Kd.cell l, Atom.cells (25 : TypeId) [C.slc 0 0 l.length none], Atom.cells (25 : TypeId)
 [C.nils], Atom.arr Kd.cell (plainF l z), Atom.cells 44 [C.str (rd l (0 + (↑z : Int).toNat) (KK.dflt Kd.cell)).path, C.int .i64 (rd l (0 + (↑z : Int).toNat) (KK.dflt Kd.cell)).what, C.int .i64 (rd l (0
 + (↑z : Int).toNat) (KK.dflt Kd.cell)).side, C.int .i64 (rd l (0 + (↑z : Int).toNat) (KK.dflt Kd.cell)).mode, C.int .i64 (rd l (0 + (↑z : Int).toNat) (KK.dflt Kd.cell)).keep, C.int .i64 (rd l (0 + (↑z
 : Int).toNat) (KK.dflt Kd.cell)).take, C.int .i64 (rd l (0 + (↑z : Int).toNat) (KK.dflt Kd.cell)).names, C.int .i64 (rd l (0 + (↑z : Int).toNat) (KK.dflt Kd.cell)).bytes, C.int .i64 (rd l (0 + (↑z : Int).toNat)
 (KK.dflt Kd.cell)).hadN, C.int .i64 (rd l (0 + (↑z : Int).toNat) (KK.dflt Kd.cell)).hadB]] [i64 (rd l (0 + (↑z : Int).toNat) (KK.dflt Kd.cell)).bytes] [] ∧ ∀ (y : Unit), True → (i64 (rd l (0 + (↑z : Int).toNat)
 (KK.dflt Kd.cell)).hadN = VV.one (V1.c (C.int .i64 (rd l (0 + (↑z : Int).toNat) (KK.dflt Kd.cell)).hadN)) ∧ i64 (rd l (0 + (↑z : Int).toNat) (KK.dflt Kd.cell)).hadB = VV.one (V1.c (C.int .i64 (rd l (0
 + (↑z : Int).toNat) (KK.dflt Kd.cell)).hadB)) ∧ True) ∧ i64ok (rd l (0 + (↑z : Int).toNat) (KK.dflt Kd.cell)).hadN ∧ Into (K := KK) 0 [] [] [VV.one (V1.c (C.int .i64 (rd l (0 + (↑z : Int).toNat) (KK.dflt
 Kd.cell)).hadN))] [Atom.ro Kd.cell l, Atom.cells (25 : TypeId) [C.slc 0 0 l.length none], Atom.cells (25 : TypeId) [C.nils], Atom.arr Kd.cell (plainF l z), Atom.cells 44 [C.str (rd l (0 + (↑z : Int).toNat)
 (KK.dflt Kd.cell)).path, C.int .i64 (rd l (0 + (↑z : Int).toNat) (KK.dflt Kd.cell)).what, C.int .i64 (rd l (0 + (↑z : Int).toNat) (KK.dflt Kd.cell)).side, C.int .i64 (rd l (0 + (↑z : Int).toNat) (KK.dflt
 Kd.cell)).mode, C.int .i64 (rd l (0 + (↑z : Int).toNat) (KK.dflt Kd.cell)).keep, C.int .i64 (rd l (0 + (↑z : Int).toNat) (KK.dflt Kd.cell)).take, C.int .i64 (rd l (0 + (↑z : Int).toNat) (KK.dflt Kd.cell)).names,
 C.int .i64 (rd l (0 + (↑z : Int).toNat) (KK.dflt Kd.cell)).bytes, C.int .i64 (rd l (0 + (↑z : Int).toNat) (KK.dflt Kd.cell)).hadN, C.int .i64 (rd l (0 + (↑z : Int).toNat) (KK.dflt Kd.cell)).hadB]] [VV.one
 (V1.c (C.int .i64 (rd l (0 + (↑z : Int).toNat) (KK.dflt Kd.cell)).hadN))] [] ∧ ∀ (y : Unit), True → (VV.one (V1.c (C.int .i64 (rd l (0 + (↑z : Int).toNat) (KK.dflt Kd.cell)).hadB)) = VV.one (V1.c (C.int
 .i64 (rd l (0 + (↑z : Int).toNat) (KK.dflt Kd.cell)).hadB)) ∧ True) ∧ i64ok (rd l (0 + (↑z : Int).toNat) (KK.dflt Kd.cell)).hadB ∧ Into (K := KK) 0 [] [] [VV.one (V1.c (C.int .i64 (rd l (0 + (↑z : Int).toNat)
 (KK.dflt Kd.cell)).hadB))] [Atom.ro Kd.cell l, Atom.cells (25 : TypeId) [C.slc 0 0 l.length none], Atom.cells (25 : TypeId) [C.nils], Atom.arr Kd.cell (plainF l z), Atom.cells 44 [C.str (rd l (0 + (↑z
 : Int).toNat) (KK.dflt Kd.cell)).path, C.int .i64 (rd l (0 + (↑z : Int).toNat) (KK.dflt Kd.cell)).what, C.int .i64 (rd l (0 + (↑z : Int).toNat) (KK.dflt Kd.cell)).side, C.int .i64 (rd l (0 + (↑z : Int).toNat)
 (KK.dflt Kd.cell)).mode, C.int .i64 (rd l (0 + (↑z : Int).toNat) (KK.dflt Kd.cell)).keep, C.int .i64 (rd l (0 + (↑z : Int).toNat) (KK.dflt Kd.cell)).take, C.int .i64 (rd l (0 + (↑z : Int).toNat) (KK.dflt
 Kd.cell)).names, C.int .i64 (rd l (0 + (↑z : Int).toNat) (KK.dflt Kd.cell)).bytes, C.int .i64 (rd l (0 + (↑z : Int).toNat) (KK.dflt Kd.cell)).hadN, C.int .i64 (rd l (0 + (↑z : Int).toNat) (KK.dflt Kd.cell)).hadB]]
 [VV.one (V1.c (C.int .i64 (rd l (0 + (↑z : Int).toNat) (KK.dflt Kd.cell)).hadB))] [] ∧ ∀ (y : Unit), True → True ∧ True ∧ True ∧ True ∧ True ∧ True ∧ z = (plainF l z).length ∧ (1 ≤ 1 ∧ True) ∧ ((plainF
 l z).length + 1) * 88 ≤ 140737488355328 ∧ i64ok ((↑z : Int) + (1 : Int)) ∧ Enter 1 (inv_plain l) (fun (z' : Nat) => l.length - z' < l.length - z) [VV.any, VV.one (V1.c (C.ptr 1 0 0)), VV.one (V1.c (C.ptr
 2 0 0)), VV.one (V1.c (C.slc 6 0 ((plainF l z).length + 1) none)), VV.one (V1.c (C.int .i64 ((↑z : Int) + (1 : Int)))), VV.one (V1.c (C.ptr 4 0 0)), i64 (↑z : Int), VV.one (V1.c (C.ptr 1 0 0)), VV.one
 (V1.c (C.slc 0 0 l.length none)), i64 (↑l.length : Int), boolv true, boolv true, i64 (↑z : Int), boolv true, boolv true, i64 (↑z : Int), VV.one (V1.c (C.int .i64 ((↑z : Int) + (1 : Int)))), VV.one (V1.c
 (C.ptr 1 0 0)), VV.one (V1.c (C.slc 0 0 l.length none)), i64 (↑z : Int), VV.one (V1.c (C.ptr 0 (0 + (↑z : Int).toNat) 0)), VV.one (V1.agg [C.str (rd l (0 + (↑z : Int).toNat) (KK.dflt Kd.cell)).path, C.int
 .i64 (rd l (0 + (↑z : Int).toNat) (KK.dflt Kd.cell)).what, C.int .i64 (rd l (0 + (↑z : Int).toNat) (KK.dflt Kd.cell)).side, C.int .i64 (rd l (0 + (↑z : Int).toNat) (KK.dflt Kd.cell)).mode, C.int .i64 (rd
 l (0 + (↑z : Int).toNat) (KK.dflt Kd.cell)).keep, C.int .i64 (rd l (0 + (↑z : Int).toNat) (KK.dflt Kd.cell)).take, C.int .i64 (rd l (0 + (↑z : Int).toNat) (KK.dflt Kd.cell)).names, C.int .i64 (rd l (0
 + (↑z : Int).toNat) (KK.dflt Kd.cell)).bytes, C.int .i64 (rd l (0 + (↑z : Int).toNat) (KK.dflt Kd.cell)).hadN, C.int .i64 (rd l (0 + (↑z : Int).toNat) (KK.dflt Kd.cell)).hadB]), VV.one (V1.c (C.ptr 4 0
 4)), VV.one (V1.c (C.int .i64 (rd l (0 + (↑z : Int).toNat) (KK.dflt Kd.cell)).keep)), VV.one (V1.c (C.int .i64 (smallF (rd l (0 + (↑z : Int).toNat) (KK.dflt Kd.cell)).keep))), VV.one (V1.c (C.ptr 4 0 5)),
 VV.one (V1.c (C.int .i64 (rd l (0 + (↑z : Int).toNat) (KK.dflt Kd.cell)).take)), VV.one (V1.c (C.int .i64 (smallF (rd l (0 + (↑z : Int).toNat) (KK.dflt Kd.cell)).take))), VV.one (V1.c (C.ptr 4 0 6)), VV.one
 (V1.c (C.int .i64 (rd l (0 + (↑z : Int).toNat) (KK.dflt Kd.cell)).names)), VV.one (V1.c (C.int .i64 (smallF (rd l (0 + (↑z : Int).toNat) (KK.dflt Kd.cell)).names))), VV.one (V1.c (C.ptr 4 0 7)), VV.one
 (V1.c (C.int .i64 (rd l (0 + (↑z : Int).toNat) (KK.dflt Kd.cell)).bytes)), VV.one (V1.c (C.int .i64 (smallF (rd l (0 + (↑z : Int).toNat) (KK.dflt Kd.cell)).bytes))), VV.one (V1.c (C.ptr 4 0 8)), VV.one
 (V1.c (C.ptr 4 0 8)), VV.one (V1.c (C.int .i64 (rd l (0 + (↑z : Int).toNat) (KK.dflt Kd.cell)).hadN)), VV.one (V1.c (C.int .i64 (smallF (rd l (0 + (↑z : Int).toNat) (KK.dflt Kd.cell)).hadN))), VV.one (V1.c
 (C.ptr 4 0 8)), VV.one (V1.c (C.ptr 4 0 9)), VV.one (V1.c (C.int .i64 (rd l (0 + (↑z : Int).toNat) (KK.dflt Kd.cell)).hadB)), VV.one (V1.c (C.int .i64 (smallF (rd l (0 + (↑z : Int).toNat) (KK.dflt Kd.cell)).hadB))),
 VV.one (V1.agg [C.int .i64 (smallF (rd l (0 + (↑z : Int).toNat) (KK.dflt Kd.cell)).hadN), C.int .i64 (smallF (rd l (0 + (↑z : Int).toNat) (KK.dflt Kd.cell)).hadB)]), VV.one (V1.c (C.ptr 4 0 4)), VV.one
 (V1.c (C.ptr 4 0 5)), VV.one (V1.c (C.ptr 4 0 6)), VV.one (V1.c (C.ptr 4 0 7)), VV.one (V1.c (C.ptr 4 0 8)), VV.one (V1.c (C.slc 3 0 z none)), VV.one (V1.agg [C.str (rd l (0 + (↑z : Int).toNat) (KK.dflt
 Kd.cell)).path, C.int .i64 (rd l (0 + (↑z : Int).toNat) (KK.dflt Kd.cell)).what, C.int .i64 (rd l (0 + (↑z : Int).toNat) (KK.dflt Kd.cell)).side, C.int .i64 (rd l (0 + (↑z : Int).toNat) (KK.dflt Kd.cell)).mode,
 C.int .i64 (smallF (rd l (0 + (↑z : Int).toNat) (KK.dflt Kd.cell)).keep), C.int .i64 (smallF (rd l (0 + (↑z : Int).toNat) (KK.dflt Kd.cell)).take), C.int .i64 (smallF (rd l (0 + (↑z : Int).toNat) (KK.dflt
 Kd.cell)).names), C.int .i64 (smallF (rd l (0 + (↑z : Int).toNat) (KK.dflt Kd.cell)).bytes), C.int .i64 (smallF (rd l (0 + (↑z : Int).toNat) (KK.dflt Kd.cell)).hadN), C.int .i64 (smallF (rd l (0 + (↑z
 : Int).toNat) (KK.dflt Kd.cell)).hadB)]), VV.one (V1.c (C.slc 5 0 1 none)), VV.one (V1.c (C.slc 6 0 ((plainF l z).length + 1) none)), VV.any, VV.any] [Atom.ro Kd.cell l, Atom.cells (25 : TypeId) [C.slc
 0 0 l.length none], Atom.cells (25 : TypeId) [C.nils], Atom.gone, Atom.cells 44 [C.str (rd l (0 + (↑z : Int).toNat) (KK.dflt Kd.cell)).path, C.int .i64 (rd l (0 + (↑z : Int).toNat) (KK.dflt Kd.cell)).what,
 C.int .i64 (rd l (0 + (↑z : Int).toNat) (KK.dflt Kd.cell)).side, C.int .i64 (rd l (0 + (↑z : Int).toNat) (KK.dflt Kd.cell)).mode, C.int .i64 (smallF (rd l (0 + (↑z : Int).toNat) (KK.dflt Kd.cell)).keep),
 C.int .i64 (smallF (rd l (0 + (↑z : Int).toNat) (KK.dflt Kd.cell)).take), C.int .i64 (smallF (rd l (0 + (↑z : Int).toNat) (KK.dflt Kd.cell)).names), C.int .i64 (smallF (rd l (0 + (↑z : Int).toNat) (KK.dflt
 Kd.cell)).bytes), C.int .i64 (smallF (rd l (0 + (↑z : Int).toNat) (KK.dflt Kd.cell)).hadN), C.int .i64 (smallF (rd l (0 + (↑z : Int).toNat) (KK.dflt Kd.cell)).hadB)], Atom.arr Kd.cell [(Cell.mk ((rd l
 (0 + (↑z : Int).toNat) (KK.dflt Kd.cell)).path) ((rd l (0 + (↑z : Int).toNat) (KK.dflt Kd.cell)).what) ((rd l (0 + (↑z : Int).toNat) (KK.dflt Kd.cell)).side) ((rd l (0 + (↑z : Int).toNat) (KK.dflt Kd.cell)).mode)
 (smallF (rd l (0 + (↑z : Int).toNat) (KK.dflt Kd.cell)).keep) (smallF (rd l (0 + (↑z : Int).toNat) (KK.dflt Kd.cell)).take) (smallF (rd l (0 + (↑z : Int).toNat) (KK.dflt Kd.cell)).names) (smallF (rd l
 (0 + (↑z : Int).toNat) (KK.dflt Kd.cell)).bytes) (smallF (rd l (0 + (↑z : Int).toNat) (KK.dflt Kd.cell)).hadN) (smallF (rd l (0 + (↑z : Int).toNat) (KK.dflt Kd.cell)).hadB))], Atom.arr Kd.cell (plainF
 l z ++ [(Cell.mk ((rd l (0 + (↑z : Int).toNat) (KK.dflt Kd.cell)).path) ((rd l (0 + (↑z : Int).toNat) (KK.dflt Kd.cell)).what) ((rd l (0 + (↑z : Int).toNat) (KK.dflt Kd.cell)).side) ((rd l (0 + (↑z : Int).toNat)
 (KK.dflt Kd.cell)).mode) (smallF (rd l (0 + (↑z : Int).toNat) (KK.dflt Kd.cell)).keep) (smallF (rd l (0 + (↑z : Int).toNat) (KK.dflt Kd.cell)).take) (smallF (rd l (0 + (↑z : Int).toNat) (KK.dflt Kd.cell)).names)
 (smallF (rd l (0 + (↑z : Int).toNat) (KK.dflt Kd.cell)).bytes) (smallF (rd l (0 + (↑z : Int).toNat) (KK.dflt Kd.cell)).hadN) (smallF (rd l (0 + (↑z : Int).toNat) (KK.dflt Kd.cell)).hadB))])]) (EndsAs 1
 (ct_plain l) (VV.one (V1.agg [C.slc 3 0 z none])) [Atom.ro Kd.cell l, Atom.cells (25 : TypeId) [C.slc 0 0 l.length none], Atom.cells (25 : TypeId) [C.slc 3 0 z none], Atom.arr Kd.cell (plainF l z)])) (EndsAs
 1 (ct_plain l) (VV.one (V1.agg [C.slc 3 0 z none])) [Atom.ro Kd.cell l, Atom.cells (25 : TypeId) [C.slc 0 0 l.length none], Atom.cells (25 : TypeId) [C.slc 3 0 z none], Atom.arr Kd.cell (plainF l z)])) := by kernel_rfl
theorem Paths.rd {l : List Cell} (h : Paths l) (i : Nat) : i64ok (rd l i cell0).path.size := by
  unfold E.rd
  rw [List.getD_eq_getElem?_getD]
  rcases Nat.lt_or_ge i l.length with h' | h'
  · rw [List.getElem?_eq_getElem h']; exact h.2 _ (List.getElem_mem h')
  · rw [List.getElem?_eq_none h']; exact i64z
theorem few_ok (l : List Cell) : CtOk Try.prog 9 (ct_few l) := CtOk_of KK_ok tab4 (ann1 (inv_few l)) (fn := Try.f9) rfl (fun _ _ => rfl) fun hn => by
  have hn : Paths l := hn
  have hlen := hn.1
  rw [vc_few]
  simp only [Int.toNat_natCast, Nat.zero_add]
  have k : i64ok 65536 := ⟨by decide, by decide⟩
  have o : i64ok 1 := ⟨by decide, by decide⟩
  have fin : ∀ (b : Bool) (m : Int), (b = true → l.length ≤ 300) → EndsAs 1 (ct_few l) (boolv b) [Atom.ro Kd.cell l, Atom.cells 25 [C.slc 0 0 l.length none], Atom.cells 72 [C.int .i64 m]] := fun b m hb => by
    refine ⟨b, [], [0], hb, ?_⟩
    (repeat' first | exact trivial | exact rfl | apply And.intro)
  refine ⟨k, into_mk (by kernel_rfl) (by (repeat' first | exact trivial | exact rfl | apply And.intro)) (by (repeat' first | exact trivial | exact rfl | apply And.intro)), fun _ _ => ⟨⟨((0, 65536) : Nat × Int), [], [0, 1, 2], ⟨Nat.zero_le _, k⟩, trivial, into_mk (by kernel_rfl) ?_ ?_⟩, fun z hz => ite2_decide (fun hz1 => ?_) (fun hz1 => ?_)⟩⟩
  · (repeat' first | exact trivial | exact rfl | apply And.intro)
  · (repeat' first | exact trivial | exact rfl | apply And.intro)
  · obtain ⟨hz, hm⟩ := hz
    have hi : i64ok ((z.1 : Int) + 1) := by unfold i64ok at *; omega
    have hp : i64ok ((rd l z.1 (KK.dflt Kd.cell)).path.size) := hn.rd z.1
    refine ⟨trivial, into_mk (by kernel_rfl) (by (repeat' first | exact trivial | exact rfl | apply And.intro)) (by (repeat' first | exact trivial | exact rfl | apply And.intro)), fun _ _ => ite2_decide (fun h1 => ?_) (fun h1 => ite2_decide (fun h2 => ?_) (fun h2 => fin _ _ (fun h => by cases h)))⟩
    · refine ⟨by omega, by omega, trivial, by omega, ⟨hm, hp⟩, into_mk (by kernel_rfl) (by (repeat' first | exact trivial | exact rfl | apply And.intro)) (by (repeat' first | exact trivial | exact rfl | apply And.intro)), fun _ _ => ⟨hi, ⟨((z.1 + 1, countF (countF z.2 1) (rd l z.1 (KK.dflt Kd.cell)).path.size) : Nat × Int), [], [0, 1, 2], ⟨by show z.1 + 1 ≤ l.length; omega, countF_ok (countF_ok hm o (by decide)) hp (by omega)⟩, by show l.length - (z.1 + 1) < _; omega, into_mk (by kernel_rfl) ?_ ?_⟩⟩⟩
      · (repeat' first | exact trivial | exact rfl | apply And.intro)
      · (repeat' first | exact trivial | exact rfl | apply And.intro)
    · exact ⟨trivial, into_mk (by kernel_rfl) (by (repeat' first | exact trivial | exact rfl | apply And.intro)) (by (repeat' first | exact trivial | exact rfl | apply And.intro)), fun _ _ => fin _ _ (fun _ => by omega)⟩
  · exact ite2_decide (fun h2 => ⟨trivial, into_mk (by kernel_rfl) (by (repeat' first | exact trivial | exact rfl | apply And.intro)) (by (repeat' first | exact trivial | exact rfl | apply And.intro)), fun _ _ => fin _ _ (fun _ => by omega)⟩) (fun h2 => fin _ _ (fun h => by cases h))
theorem plainF_len {l : List Cell} {z : Nat} (h : z ≤ l.length) : z = (plainF l z).length := by
  unfold plainF; rw [List.length_map, List.length_take]; omega
theorem map_take_succ {α β : Type} (f : α → β) {l : List α} (d : α) {z : Nat} (h : z < l.length) : (l.take (z + 1)).map f = (l.take z).map f ++ [f (rd l z d)] := by
  rw [List.take_add_one, List.getElem?_eq_getElem h, List.map_append]
  unfold rd
  rw [List.getD_eq_getElem?_getD, List.getElem?_eq_getElem h]
  rfl
theorem plainF_succ {l : List Cell} {z : Nat} (h : z < l.length) : plainF l (z + 1) = plainF l z ++ [plainC (rd l z (KK.dflt Kd.cell))] := map_take_succ plainC cell0 h
theorem plain_ok (l : List Cell) : CtOk Try.prog 11 (ct_plain l) := CtOk_of KK_ok tab4 (ann1 (inv_plain l)) (fn := Try.f11) rfl (fun _ _ => rfl) fun hn => by
  obtain ⟨hl, hn⟩ := hn
  rw [vc_plain]
  simp only [Int.toNat_natCast, Nat.zero_add]
  have fin : ∀ z : Nat, z = l.length → EndsAs 1 (ct_plain l) (VV.one (V1.agg [C.slc 3 0 z none])) [Atom.ro Kd.cell l, Atom.cells 25 [C.slc 0 0 l.length none], Atom.cells 25 [C.slc 3 0 z none], Atom.arr Kd.cell (plainF l z)] := fun z hz => by
    subst hz
    refine ⟨(), [], [0, 3], trivial, ?_⟩
    (repeat' first | exact trivial | exact rfl | apply And.intro)
  refine ⟨⟨(0 : Nat), [.cell], [0, 1, 2, 3], Nat.zero_le _, trivial, into_mk (by kernel_rfl) ?_ ?_⟩, fun z hz => ite2_decide (fun hz1 => ite2_decide (fun hz2 => ?_) (fun hz2 => fin z (by omega))) (fun hz1 => fin z (by omega))⟩
  · (repeat' first | exact trivial | exact rfl | apply And.intro)
  · (repeat' first | exact trivial | exact rfl | apply And.intro)
  · have hc : (rd l z (KK.dflt Kd.cell)).Ok := hl.rd z
    have h1 := hc.keep
    have h2 := hc.take
    have h3 := hc.names
    have h4 := hc.bytes
    have h5 := hc.hadN
    have h6 := hc.hadB
    have hi : i64ok ((z : Int) + 1) := by unfold i64ok; omega
    have lf := plainF_len hz
    have b1 : ((plainF l z).length + 1) * 88 ≤ 140737488355328 := by omega
    have z1 : (0 : Int) ≤ z ∧ (z : Int) < l.length := by omega
    have z2 : z < l.length := by omega
    have hE := plainF_succ z2
    repeat' first | exact trivial | exact rfl | assumption | (intro _ _) | (refine into_mk (by kernel_rfl) ?_ ?_) | (refine ⟨(z + 1 : Nat), [], [0, 1, 2, 6], by show z + 1 ≤ l.length; omega, by omega, into_mk (by kernel_rfl) ?_ ?_⟩) | apply And.intro
    all_goals first | omega | (rw [hE]; exact rfl)
end Go.Proofs.Ytljamcgngojaeaa.T
