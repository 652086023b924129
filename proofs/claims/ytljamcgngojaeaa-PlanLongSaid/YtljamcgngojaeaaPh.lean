/- The plan: Of. -/
import Derived.Test.YtljamcgngojaeaaPg
namespace Go.Proofs.Ytljamcgngojaeaa.T
open Go.Proofs.Ytljamcgngojaeaa.E
set_option maxRecDepth 100000
set_option linter.unusedVariables false
def tab6 : Tab Try.prog KK := ⟨mixed, fun f args H => match f, args with
  | 29, [.one (.c (.slc n 0 len none)), .one (.c (.int _ a))] => match getL .cell (at_ H n) with
    | some l => some (ct_leave l a, [], [n])
    | none => none
  | 29, [.one (.c .nils), .one (.c (.int _ a))] => some (ct_leave [] a, [.cell], [H.length])
  | f, args => tab5.pick f args H, fun f args H ct ks τ h => by
    split at h
    · split at h
      · cases h; exact leave_ok _ _
      · cases h
    · cases h; exact leave_ok _ _
    · exact tab5.ok _ _ _ _ _ _ h⟩
structure PS where
  items : List Item
  left : List Int
  n0 : Int
  b0 : Int
  n1 : Int
  b1 : Int
  x0 : Int
  y0 : Int
  x1 : Int
  y1 : Int
def PS.Ok (s : PS) : Prop := i64ok s.n0 ∧ i64ok s.b0 ∧ i64ok s.n1 ∧ i64ok s.b1 ∧ i64ok s.x0 ∧ i64ok s.y0 ∧ i64ok s.x1 ∧ i64ok s.y1
def ps0 : PS := ⟨[], [], 0, 0, 0, 0, 0, 0, 0, 0⟩
abbrev cAt (l : List Cell) (i : Nat) : Cell := rd l i (KK.dflt Kd.cell)
def itemOf (l : List Cell) (i n : Nat) (src dst mode : Int) : Item := Item.mk ((n : Int) + 1) (i : Int) (cAt l i).path (cAt l i).what src dst mode
def stLeft (i : Nat) (s : PS) : PS := { s with left := s.left ++ [(i : Int)] }
def stBoth (l : List Cell) (i : Nat) (src dst : Int) (s : PS) : PS := { s with items := s.items ++ [itemOf l i s.items.length src dst (cAt l i).mode] }
def stTo0 (l : List Cell) (i : Nat) (s : PS) : PS := { s with items := s.items ++ [itemOf l i s.items.length 1 0 0], n0 := max s.n0 (addF s.x0 (max (cAt l i).names 0)), b0 := max s.b0 (addF s.y0 (max (cAt l i).bytes 0)), x0 := addF (addF s.x0 (max (cAt l i).names 0)) (0 - max (cAt l i).hadN 0), y0 := addF (addF s.y0 (max (cAt l i).bytes 0)) (0 - max (cAt l i).hadB 0) }
def stTo1 (l : List Cell) (i : Nat) (s : PS) : PS := { s with items := s.items ++ [itemOf l i s.items.length 0 1 0], n1 := max s.n1 (addF s.x1 (max (cAt l i).names 0)), b1 := max s.b1 (addF s.y1 (max (cAt l i).bytes 0)), x1 := addF (addF s.x1 (max (cAt l i).names 0)) (0 - max (cAt l i).hadN 0), y1 := addF (addF s.y1 (max (cAt l i).bytes 0)) (0 - max (cAt l i).hadB 0) }
def ofStep (l : List Cell) (L : List Bool) (i : Nat) (s : PS) : PS :=
  if rd L i false then stLeft i s
  else if (cAt l i).what = 3 ∨ (cAt l i).what = 2 then
    if (cAt l i).side = 1 then if (cAt l i).what = 2 then stBoth l i 0 1 s else stTo1 l i s
    else if (cAt l i).side = 2 then if (cAt l i).what = 2 then stBoth l i 1 0 s else stTo0 l i s
    else s
  else s
def ofS (l : List Cell) (L : List Bool) : Nat → PS
  | 0 => ps0
  | i + 1 => ofStep l L i (ofS l L i)
def leftOf (l : List Cell) (most : Int) : List Bool := leaveF l (min (max most 1) 1048576)
def ofF (l : List Cell) (most : Int) : PS := ofS l (leftOf l most) l.length
def planC (n m : Nat) (s : PS) : List C := [.slc n 0 s.items.length none, .slc m 0 s.left.length none, .int .i64 s.n0, .int .i64 s.b0, .int .i64 s.n1, .int .i64 s.b1]
def ct_of (l : List Cell) (most : Int) : Ct KK := { need := Cells l ∧ l.length ≤ 100000 ∧ i64ok most, pre := [.ro .cell l], args := [.agg [.slc 0 0 l.length none], i64 most], Y := Unit, ok := fun _ => True, ret := fun _ => .agg (planC 1 2 (ofF l most)), post := fun _ => [.gone, .arr .item (ofF l most).items, .arr .int (ofF l most).left] }
def inv_of (l : List Cell) (most : Int) : Inv KK := { X := Nat × PS, fr := fun x => [.any, i64 most, .c (.ptr 1 0 0), .any, .c (.ptr 2 0 0), .c (.slc 3 0 l.length none), .c (.ptr 4 0 0), .c (.ptr 5 0 0)] ++ (anys 13 ++ ([.c (.slc 0 0 l.length none), i64 l.length, i64 x.1] ++ anys 95)), H := fun x => [.ro .cell l, .cells 25 [.slc 0 0 l.length none], .cells 34 [.nils, .nils, .int .i64 0, .int .i64 0, .int .i64 0, .int .i64 0], .arr .bool (leftOf l most), .cells 34 (planC 6 7 x.2), .cells 65 [.int .i64 x.2.x0, .int .i64 x.2.y0, .int .i64 x.2.x1, .int .i64 x.2.y1], .arr .item x.2.items, .arr .int x.2.left], ok := fun x => x.1 ≤ l.length ∧ x.2 = ofS l (leftOf l most) x.1 ∧ x.2.items.length ≤ x.1 ∧ x.2.left.length ≤ x.1 ∧ x.2.Ok, meas := fun x => l.length - x.1 }
theorem vc_of (l : List Cell) (most : Int) : evFn tab6 (ann1 (inv_of l most)) Try.f12 (ct_of l most) = ( ((∀ (c : Cell), List.Mem c l → c.Ok) ∧ l.length ≤ 1000000 ∧ i64ok (min (max most (1 : Int)) (1048576 : Int))) ∧ Into (K := KK) 0 [] [0] [VV.one (V1.c (C.slc 0 0 l.length none)), i64 (min (max most (1
 : Int)) (1048576 : Int))] [Atom.ro Kd.cell l, Atom.cells 25 [C.slc 0 0 l.length none], Atom.cells 34 [C.nils, C.nils, C.int .i64 (0 : Int), C.int .i64 (0 : Int), C.int .i64 (0 : Int), C.int .i64 (0 : Int)]]
 [VV.one (V1.c (C.slc 0 0 l.length none)), i64 (min (max most (1 : Int)) (1048576 : Int))] [Atom.ro Kd.cell l] ∧ ∀ (y : Unit), True → Enter 1 (inv_of l most) (fun (x : Nat × PS) => True) [VV.one (V1.agg
 [C.slc 0 0 l.length none]), i64 most, VV.one (V1.c (C.ptr 1 0 0)), VV.any, VV.one (V1.c (C.ptr 2 0 0)), VV.one (V1.c (C.slc 3 0 l.length none)), VV.one (V1.c (C.ptr 4 0 0)), VV.one (V1.c (C.ptr 5 0 0)),
 VV.any, VV.any, VV.any, VV.any, VV.any, VV.any, VV.one (V1.c (C.ptr 1 0 0)), VV.one (V1.c (C.slc 0 0 l.length none)), i64 most, i64 (max most (1 : Int)), i64 (min (max most (1 : Int)) (1048576 : Int)),
 VV.one (V1.c (C.slc 3 0 l.length none)), VV.one (V1.c (C.ptr 1 0 0)), VV.one (V1.c (C.slc 0 0 l.length none)), i64 (↑l.length : Int), i64 (0 : Int), VV.any, VV.any, VV.any, VV.any, VV.any, VV.any, VV.any,
 VV.any, VV.any, VV.any, VV.any, VV.any, VV.any, VV.any, VV.any, VV.any, VV.any, VV.any, VV.any, VV.any, VV.any, VV.any, VV.any, VV.any, VV.any, VV.any, VV.any, VV.any, VV.any, VV.any, VV.any, VV.any, VV.any,
 VV.any, VV.any, VV.any, VV.any, VV.any, VV.any, VV.any, VV.any, VV.any, VV.any, VV.any, VV.any, VV.any, VV.any, VV.any, VV.any, VV.any, VV.any, VV.any, VV.any, VV.any, VV.any, VV.any, VV.any, VV.any, VV.any,
 VV.any, VV.any, VV.any, VV.any, VV.any, VV.any, VV.any, VV.any, VV.any, VV.any, VV.any, VV.any, VV.any, VV.any, VV.any, VV.any, VV.any, VV.any, VV.any, VV.any, VV.any, VV.any, VV.any, VV.any, VV.any, VV.any,
 VV.any, VV.any, VV.any, VV.any, VV.any, VV.any, VV.any, VV.any, VV.any, VV.any] [Atom.ro Kd.cell l, Atom.cells 25 [C.slc 0 0 l.length none], Atom.cells 34 [C.nils, C.nils, C.int .i64 (0 : Int), C.int .i64
 (0 : Int), C.int .i64 (0 : Int), C.int .i64 (0 : Int)], Atom.arr Kd.bool (leaveF l (min (max most (1 : Int)) (1048576 : Int))), Atom.cells 34 [C.nils, C.nils, C.int .i64 (0 : Int), C.int .i64 (0 : Int),
 C.int .i64 (0 : Int), C.int .i64 (0 : Int)], Atom.cells 65 [C.int .i64 (0 : Int), C.int .i64 (0 : Int), C.int .i64 (0 : Int), C.int .i64 (0 : Int)]] ∧ ∀ (z : Nat × PS), z.fst ≤ l.length ∧ z.snd = ofS l
 (leftOf l most) z.fst ∧ z.snd.items.length ≤ z.fst ∧ z.snd.left.length ≤ z.fst ∧ i64ok z.snd.n0 ∧ i64ok z.snd.b0 ∧ i64ok z.snd.n1 ∧ i64ok z.snd.b1 ∧ i64ok z.snd.x0 ∧ i64ok z.snd.y0 ∧ i64ok z.snd.x1 ∧ i64ok
 z.snd.y1 → ite2 (decide ((↑z.fst : Int) < (↑l.length : Int))) (((0 : Int) ≤ (↑z.fst : Int) ∧ (↑z.fst : Int) < (↑l.length : Int)) ∧ 0 + (↑z.fst : Int).toNat < l.length ∧ True ∧ 0 + (↑z.fst : Int).toNat
 < l.length ∧ ((0 : Int) ≤ (↑z.fst : Int) ∧ (↑z.fst : Int) < (↑l.length : Int)) ∧ 0 + (↑z.fst : Int).toNat < (leftOf l most).length ∧ True ∧ 0 + (↑z.fst : Int).toNat < (leftOf l most).length ∧ ite2 (rd
 (leftOf l most) (0 + (↑z.fst : Int).toNat) false) (z.snd.left.length = z.snd.left.length ∧ (1 ≤ 1 ∧ True) ∧ (z.snd.left.length + 1) * 8 ≤ 140737488355328 ∧ i64ok ((↑z.fst : Int) + (1 : Int)) ∧ Enter 1
 (inv_of l most) (fun (z' : Nat × PS) => l.length - z'.fst < l.length - z.fst) [VV.any, i64 most, VV.one (V1.c (C.ptr 1 0 0)), VV.any, VV.one (V1.c (C.ptr 2 0 0)), VV.one (V1.c (C.slc 3 0 l.length none)),
 VV.one (V1.c (C.ptr 4 0 0)), VV.one (V1.c (C.ptr 5 0 0)), i64 (↑z.fst : Int), VV.one (V1.c (C.ptr 8 0 0)), VV.any, VV.any, VV.any, VV.any, VV.any, VV.any, VV.any, VV.any, VV.any, VV.any, VV.any, VV.one
 (V1.c (C.slc 0 0 l.length none)), i64 (↑l.length : Int), i64 ((↑z.fst : Int) + (1 : Int)), boolv true, i64 (↑z.fst : Int), VV.one (V1.c (C.ptr 0 (0 + (↑z.fst : Int).toNat) 0)), VV.one (V1.agg [C.str (rd
 l (0 + (↑z.fst : Int).toNat) (KK.dflt Kd.cell)).path, C.int .i64 (rd l (0 + (↑z.fst : Int).toNat) (KK.dflt Kd.cell)).what, C.int .i64 (rd l (0 + (↑z.fst : Int).toNat) (KK.dflt Kd.cell)).side, C.int .i64
 (rd l (0 + (↑z.fst : Int).toNat) (KK.dflt Kd.cell)).mode, C.int .i64 (rd l (0 + (↑z.fst : Int).toNat) (KK.dflt Kd.cell)).keep, C.int .i64 (rd l (0 + (↑z.fst : Int).toNat) (KK.dflt Kd.cell)).take, C.int
 .i64 (rd l (0 + (↑z.fst : Int).toNat) (KK.dflt Kd.cell)).names, C.int .i64 (rd l (0 + (↑z.fst : Int).toNat) (KK.dflt Kd.cell)).bytes, C.int .i64 (rd l (0 + (↑z.fst : Int).toNat) (KK.dflt Kd.cell)).hadN,
 C.int .i64 (rd l (0 + (↑z.fst : Int).toNat) (KK.dflt Kd.cell)).hadB]), VV.one (V1.c (C.slc 3 0 l.length none)), i64 (↑z.fst : Int), VV.one (V1.c (C.ptr 3 (0 + (↑z.fst : Int).toNat) 0)), boolv (rd (leftOf
 l most) (0 + (↑z.fst : Int).toNat) false), VV.one (V1.c (C.ptr 4 0 1)), VV.one (V1.c (C.slc 7 0 z.snd.left.length none)), i64 (↑z.fst : Int), VV.one (V1.c (C.slc 9 0 1 none)), VV.one (V1.c (C.slc 10 0
 (z.snd.left.length + 1) none)), VV.one (V1.c (C.ptr 4 0 1)), VV.any, VV.any, VV.any, VV.any, VV.any, VV.any, VV.any, VV.any, VV.any, VV.any, VV.any, VV.any, VV.any, VV.any, VV.any, VV.any, VV.any, VV.any,
 VV.any, VV.any, VV.any, VV.any, VV.any, VV.any, VV.any, VV.any, VV.any, VV.any, VV.any, VV.any, VV.any, VV.any, VV.any, VV.any, VV.any, VV.any, VV.any, VV.any, VV.any, VV.any, VV.any, VV.any, VV.any, VV.any,
 VV.any, VV.any, VV.any, VV.any, VV.any, VV.any, VV.any, VV.any, VV.any, VV.any, VV.any, VV.any, VV.any, VV.any, VV.any, VV.any, VV.any, VV.any, VV.any, VV.any, VV.any, VV.any, VV.any, VV.any, VV.any, VV.any,
 VV.any, VV.any, VV.any, VV.any, VV.any, VV.any, VV.any, VV.any, VV.any, i64 ((↑z.fst : Int) + (1 : Int)), VV.any] [Atom.ro Kd.cell l, Atom.cells (25 : TypeId) [C.slc 0 0 l.length none], Atom.cells (34
 : TypeId) [C.nils, C.nils, C.int .i64 (0 : Int), C.int .i64 (0 : Int), C.int .i64 (0 : Int), C.int .i64 (0 : Int)], Atom.arr Kd.bool (leftOf l most), Atom.cells (34 : TypeId) [C.slc 6 0 z.snd.items.length
 none, C.slc 10 0 (z.snd.left.length + 1) none, C.int .i64 z.snd.n0, C.int .i64 z.snd.b0, C.int .i64 z.snd.n1, C.int .i64 z.snd.b1], Atom.cells (65 : TypeId) [C.int .i64 z.snd.x0, C.int .i64 z.snd.y0, C.int
 .i64 z.snd.x1, C.int .i64 z.snd.y1], Atom.arr Kd.item z.snd.items, Atom.gone, Atom.cells 44 [C.str (rd l (0 + (↑z.fst : Int).toNat) (KK.dflt Kd.cell)).path, C.int .i64 (rd l (0 + (↑z.fst : Int).toNat)
 (KK.dflt Kd.cell)).what, C.int .i64 (rd l (0 + (↑z.fst : Int).toNat) (KK.dflt Kd.cell)).side, C.int .i64 (rd l (0 + (↑z.fst : Int).toNat) (KK.dflt Kd.cell)).mode, C.int .i64 (rd l (0 + (↑z.fst : Int).toNat)
 (KK.dflt Kd.cell)).keep, C.int .i64 (rd l (0 + (↑z.fst : Int).toNat) (KK.dflt Kd.cell)).take, C.int .i64 (rd l (0 + (↑z.fst : Int).toNat) (KK.dflt Kd.cell)).names, C.int .i64 (rd l (0 + (↑z.fst : Int).toNat)
 (KK.dflt Kd.cell)).bytes, C.int .i64 (rd l (0 + (↑z.fst : Int).toNat) (KK.dflt Kd.cell)).hadN, C.int .i64 (rd l (0 + (↑z.fst : Int).toNat) (KK.dflt Kd.cell)).hadB], Atom.arr Kd.int [(↑z.fst : Int)], Atom.arr
 Kd.int (z.snd.left ++ [(↑z.fst : Int)])]) (i64ok (2 : Int) ∧ Into (K := KK) 0 [] [9] [VV.one (V1.c (C.slc 9 0 2 none)), i64 (rd l (0 + (↑z.fst : Int).toNat) (KK.dflt Kd.cell)).what] [Atom.ro Kd.cell l,
 Atom.cells (25 : TypeId) [C.slc 0 0 l.length none], Atom.cells (34 : TypeId) [C.nils, C.nils, C.int .i64 (0 : Int), C.int .i64 (0 : Int), C.int .i64 (0 : Int), C.int .i64 (0 : Int)], Atom.arr Kd.bool (leftOf
 l most), Atom.cells (34 : TypeId) [C.slc 6 0 z.snd.items.length none, C.slc 7 0 z.snd.left.length none, C.int .i64 z.snd.n0, C.int .i64 z.snd.b0, C.int .i64 z.snd.n1, C.int .i64 z.snd.b1], Atom.cells (65
 : TypeId) [C.int .i64 z.snd.x0, C.int .i64 z.snd.y0, C.int .i64 z.snd.x1, C.int .i64 z.snd.y1], Atom.arr Kd.item z.snd.items, Atom.arr Kd.int z.snd.left, Atom.cells 44 [C.str (rd l (0 + (↑z.fst : Int).toNat)
 (KK.dflt Kd.cell)).path, C.int .i64 (rd l (0 + (↑z.fst : Int).toNat) (KK.dflt Kd.cell)).what, C.int .i64 (rd l (0 + (↑z.fst : Int).toNat) (KK.dflt Kd.cell)).side, C.int .i64 (rd l (0 + (↑z.fst : Int).toNat)
 (KK.dflt Kd.cell)).mode, C.int .i64 (rd l (0 + (↑z.fst : Int).toNat) (KK.dflt Kd.cell)).keep, C.int .i64 (rd l (0 + (↑z.fst : Int).toNat) (KK.dflt Kd.cell)).take, C.int .i64 (rd l (0 + (↑z.fst : Int).toNat)
 (KK.dflt Kd.cell)).names, C.int .i64 (rd l (0 + (↑z.fst : Int).toNat) (KK.dflt Kd.cell)).bytes, C.int .i64 (rd l (0 + (↑z.fst : Int).toNat) (KK.dflt Kd.cell)).hadN, C.int .i64 (rd l (0 + (↑z.fst : Int).toNat)
 (KK.dflt Kd.cell)).hadB], Atom.arr Kd.int [(3 : Int), (2 : Int)]] [VV.one (V1.c (C.slc 0 0 2 none)), i64 (rd l (0 + (↑z.fst : Int).toNat) (KK.dflt Kd.cell)).what] [Atom.ro Kd.int [(3 : Int), (2 : Int)]]
 ∧ ∀ (y : Unit), True → ite2 (decide ((rd l (0 + (↑z.fst : Int).toNat) (KK.dflt Kd.cell)).what ∈ [(3 : Int), (2 : Int)])) (ite2 (decide ((rd l (0 + (↑z.fst : Int).toNat) (KK.dflt Kd.cell)).side = (1 : Int)))
 (i64ok ((↑z.snd.items.length : Int) + (1 : Int)) ∧ ite2 (decide ((rd l (0 + (↑z.fst : Int).toNat) (KK.dflt Kd.cell)).side = (2 : Int))) (ite2 (decide ((rd l (0 + (↑z.fst : Int).toNat) (KK.dflt Kd.cell)).what
 = (2 : Int))) (z.snd.items.length = z.snd.items.length ∧ (1 ≤ 1 ∧ True) ∧ (z.snd.items.length + 1) * 64 ≤ 140737488355328 ∧ i64ok ((↑z.fst : Int) + (1 : Int)) ∧ Enter 1 (inv_of l most) (fun (z' : Nat ×
 PS) => l.length - z'.fst < l.length - z.fst) [VV.any, i64 most, VV.one (V1.c (C.ptr 1 0 0)), VV.any, VV.one (V1.c (C.ptr 2 0 0)), VV.one (V1.c (C.slc 3 0 l.length none)), VV.one (V1.c (C.ptr 4 0 0)), VV.one
 (V1.c (C.ptr 5 0 0)), i64 (↑z.fst : Int), VV.one (V1.c (C.ptr 8 0 0)), VV.one (V1.c (C.ptr 10 0 0)), VV.any, VV.any, VV.any, VV.any, VV.any, VV.any, VV.any, VV.any, VV.any, VV.any, VV.one (V1.c (C.slc
 0 0 l.length none)), i64 (↑l.length : Int), i64 ((↑z.fst : Int) + (1 : Int)), boolv true, i64 (↑z.fst : Int), VV.one (V1.c (C.ptr 0 (0 + (↑z.fst : Int).toNat) 0)), VV.one (V1.agg [C.str (rd l (0 + (↑z.fst
 : Int).toNat) (KK.dflt Kd.cell)).path, C.int .i64 (rd l (0 + (↑z.fst : Int).toNat) (KK.dflt Kd.cell)).what, C.int .i64 (rd l (0 + (↑z.fst : Int).toNat) (KK.dflt Kd.cell)).side, C.int .i64 (rd l (0 + (↑z.fst
 : Int).toNat) (KK.dflt Kd.cell)).mode, C.int .i64 (rd l (0 + (↑z.fst : Int).toNat) (KK.dflt Kd.cell)).keep, C.int .i64 (rd l (0 + (↑z.fst : Int).toNat) (KK.dflt Kd.cell)).take, C.int .i64 (rd l (0 + (↑z.fst
 : Int).toNat) (KK.dflt Kd.cell)).names, C.int .i64 (rd l (0 + (↑z.fst : Int).toNat) (KK.dflt Kd.cell)).bytes, C.int .i64 (rd l (0 + (↑z.fst : Int).toNat) (KK.dflt Kd.cell)).hadN, C.int .i64 (rd l (0 +
 (↑z.fst : Int).toNat) (KK.dflt Kd.cell)).hadB]), VV.one (V1.c (C.slc 3 0 l.length none)), i64 (↑z.fst : Int), VV.one (V1.c (C.ptr 3 (0 + (↑z.fst : Int).toNat) 0)), boolv (rd (leftOf l most) (0 + (↑z.fst
 : Int).toNat) false), VV.any, VV.any, VV.any, VV.any, VV.any, VV.any, VV.one (V1.c (C.slc 9 0 2 none)), VV.one (V1.c (C.ptr 8 0 1)), VV.one (V1.c (C.int .i64 (rd l (0 + (↑z.fst : Int).toNat) (KK.dflt Kd.cell)).what)),
 VV.one (V1.c (C.bool (decide ((rd l (0 + (↑z.fst : Int).toNat) (KK.dflt Kd.cell)).what ∈ [(3 : Int), (2 : Int)])))), boolv false, boolv false, VV.one (V1.c (C.ptr 8 0 2)), VV.one (V1.c (C.int .i64 (rd
 l (0 + (↑z.fst : Int).toNat) (KK.dflt Kd.cell)).side)), boolv false, boolv false, VV.tup [], VV.tup [], VV.tup [], boolv false, boolv false, VV.one (V1.c (C.ptr 4 0 0)), VV.one (V1.c (C.slc 6 0 z.snd.items.length
 none)), i64 (↑z.snd.items.length : Int), i64 ((↑z.snd.items.length : Int) + (1 : Int)), i64 (↑z.fst : Int), VV.one (V1.c (C.ptr 8 0 0)), VV.one (V1.c (C.str (rd l (0 + (↑z.fst : Int).toNat) (KK.dflt Kd.cell)).path)),
 VV.one (V1.c (C.ptr 8 0 1)), VV.one (V1.c (C.int .i64 (rd l (0 + (↑z.fst : Int).toNat) (KK.dflt Kd.cell)).what)), VV.one (V1.agg [C.int .i64 ((↑z.snd.items.length : Int) + (1 : Int)), C.int .i64 (↑z.fst
 : Int), C.str (rd l (0 + (↑z.fst : Int).toNat) (KK.dflt Kd.cell)).path, C.int .i64 (rd l (0 + (↑z.fst : Int).toNat) (KK.dflt Kd.cell)).what, C.int .i64 (0 : Int), C.int .i64 (1 : Int), C.int .i64 (0 :
 Int)]), VV.one (V1.c (C.ptr 8 0 2)), VV.one (V1.c (C.int .i64 (rd l (0 + (↑z.fst : Int).toNat) (KK.dflt Kd.cell)).side)), boolv true, VV.one (V1.c (C.ptr 10 0 4)), VV.one (V1.c (C.ptr 10 0 5)), VV.one
 (V1.c (C.ptr 8 0 1)), VV.one (V1.c (C.int .i64 (rd l (0 + (↑z.fst : Int).toNat) (KK.dflt Kd.cell)).what)), boolv true, VV.one (V1.c (C.ptr 8 0 3)), VV.one (V1.c (C.int .i64 (rd l (0 + (↑z.fst : Int).toNat)
 (KK.dflt Kd.cell)).mode)), VV.one (V1.c (C.ptr 10 0 6)), VV.any, VV.any, VV.any, VV.any, VV.any, VV.any, VV.any, VV.any, VV.any, VV.any, VV.any, VV.any, VV.any, VV.any, VV.any, VV.any, VV.any, VV.any,
 VV.any, VV.any, VV.any, VV.any, VV.any, VV.any, VV.any, VV.any, VV.any, VV.any, VV.any, VV.any, VV.any, VV.any, VV.any, VV.any, VV.any, VV.any, VV.any, VV.one (V1.c (C.ptr 4 0 0)), VV.one (V1.c (C.slc
 6 0 z.snd.items.length none)), VV.one (V1.agg [C.int .i64 ((↑z.snd.items.length : Int) + (1 : Int)), C.int .i64 (↑z.fst : Int), C.str (rd l (0 + (↑z.fst : Int).toNat) (KK.dflt Kd.cell)).path, C.int .i64
 (rd l (0 + (↑z.fst : Int).toNat) (KK.dflt Kd.cell)).what, C.int .i64 (1 : Int), C.int .i64 (0 : Int), C.int .i64 (rd l (0 + (↑z.fst : Int).toNat) (KK.dflt Kd.cell)).mode]), VV.one (V1.c (C.slc 11 0 1 none)),
 VV.one (V1.c (C.slc 12 0 (z.snd.items.length + 1) none)), VV.one (V1.c (C.ptr 4 0 0)), i64 ((↑z.fst : Int) + (1 : Int)), VV.any] [Atom.ro Kd.cell l, Atom.cells (25 : TypeId) [C.slc 0 0 l.length none],
 Atom.cells (34 : TypeId) [C.nils, C.nils, C.int .i64 (0 : Int), C.int .i64 (0 : Int), C.int .i64 (0 : Int), C.int .i64 (0 : Int)], Atom.arr Kd.bool (leftOf l most), Atom.cells (34 : TypeId) [C.slc 12 0
 (z.snd.items.length + 1) none, C.slc 7 0 z.snd.left.length none, C.int .i64 z.snd.n0, C.int .i64 z.snd.b0, C.int .i64 z.snd.n1, C.int .i64 z.snd.b1], Atom.cells (65 : TypeId) [C.int .i64 z.snd.x0, C.int
 .i64 z.snd.y0, C.int .i64 z.snd.x1, C.int .i64 z.snd.y1], Atom.gone, Atom.arr Kd.int z.snd.left, Atom.cells 44 [C.str (rd l (0 + (↑z.fst : Int).toNat) (KK.dflt Kd.cell)).path, C.int .i64 (rd l (0 + (↑z.fst
 : Int).toNat) (KK.dflt Kd.cell)).what, C.int .i64 (rd l (0 + (↑z.fst : Int).toNat) (KK.dflt Kd.cell)).side, C.int .i64 (rd l (0 + (↑z.fst : Int).toNat) (KK.dflt Kd.cell)).mode, C.int .i64 (rd l (0 + (↑z.fst
 : Int).toNat) (KK.dflt Kd.cell)).keep, C.int .i64 (rd l (0 + (↑z.fst : Int).toNat) (KK.dflt Kd.cell)).take, C.int .i64 (rd l (0 + (↑z.fst : Int).toNat) (KK.dflt Kd.cell)).names, C.int .i64 (rd l (0 + (↑z.fst
 : Int).toNat) (KK.dflt Kd.cell)).bytes, C.int .i64 (rd l (0 + (↑z.fst : Int).toNat) (KK.dflt Kd.cell)).hadN, C.int .i64 (rd l (0 + (↑z.fst : Int).toNat) (KK.dflt Kd.cell)).hadB], Atom.arr Kd.int [(3 :
 Int), (2 : Int)], Atom.cells 42 [C.int .i64 ((↑z.snd.items.length : Int) + (1 : Int)), C.int .i64 (↑z.fst : Int), C.str (rd l (0 + (↑z.fst : Int).toNat) (KK.dflt Kd.cell)).path, C.int .i64 (rd l (0 + (↑z.fst
 : Int).toNat) (KK.dflt Kd.cell)).what, C.int .i64 (1 : Int), C.int .i64 (0 : Int), C.int .i64 (rd l (0 + (↑z.fst : Int).toNat) (KK.dflt Kd.cell)).mode], Atom.arr Kd.item [(Item.mk ((↑z.snd.items.length
 : Int) + (1 : Int)) ((↑z.fst : Int)) ((rd l (0 + (↑z.fst : Int).toNat) (KK.dflt Kd.cell)).path) ((rd l (0 + (↑z.fst : Int).toNat) (KK.dflt Kd.cell)).what) ((1 : Int)) ((0 : Int)) ((rd l (0 + (↑z.fst :
 Int).toNat) (KK.dflt Kd.cell)).mode))], Atom.arr Kd.item (z.snd.items ++ [(Item.mk ((↑z.snd.items.length : Int) + (1 : Int)) ((↑z.fst : Int)) ((rd l (0 + (↑z.fst : Int).toNat) (KK.dflt Kd.cell)).path)
 ((rd l (0 + (↑z.fst : Int).toNat) (KK.dflt Kd.cell)).what) ((1 : Int)) ((0 : Int)) ((rd l (0 + (↑z.fst : Int).toNat) (KK.dflt Kd.cell)).mode))])]) (((0 : Int) ≤ (0 : Int) ∧ (0 : Int) < (2 : Int)) ∧ True
 ∧ (i64ok z.snd.x0 ∧ i64ok z.snd.y0 ∧ (Cell.mk ((rd l (0 + (↑z.fst : Int).toNat) (KK.dflt Kd.cell)).path) ((rd l (0 + (↑z.fst : Int).toNat) (KK.dflt Kd.cell)).what) ((rd l (0 + (↑z.fst : Int).toNat) (KK.dflt
 Kd.cell)).side) ((rd l (0 + (↑z.fst : Int).toNat) (KK.dflt Kd.cell)).mode) ((rd l (0 + (↑z.fst : Int).toNat) (KK.dflt Kd.cell)).keep) ((rd l (0 + (↑z.fst : Int).toNat) (KK.dflt Kd.cell)).take) ((rd l (0
 + (↑z.fst : Int).toNat) (KK.dflt Kd.cell)).names) ((rd l (0 + (↑z.fst : Int).toNat) (KK.dflt Kd.cell)).bytes) ((rd l (0 + (↑z.fst : Int).toNat) (KK.dflt Kd.cell)).hadN) ((rd l (0 + (↑z.fst : Int).toNat)
 (KK.dflt Kd.cell)).hadB)).Ok) ∧ Into (K := KK) 0 [] [] [VV.one (V1.agg [C.int .i64 z.snd.x0, C.int .i64 z.snd.y0]), VV.one (V1.agg [C.str (rd l (0 + (↑z.fst : Int).toNat) (KK.dflt Kd.cell)).path, C.int
 .i64 (rd l (0 + (↑z.fst : Int).toNat) (KK.dflt Kd.cell)).what, C.int .i64 (rd l (0 + (↑z.fst : Int).toNat) (KK.dflt Kd.cell)).side, C.int .i64 (rd l (0 + (↑z.fst : Int).toNat) (KK.dflt Kd.cell)).mode,
 C.int .i64 (rd l (0 + (↑z.fst : Int).toNat) (KK.dflt Kd.cell)).keep, C.int .i64 (rd l (0 + (↑z.fst : Int).toNat) (KK.dflt Kd.cell)).take, C.int .i64 (rd l (0 + (↑z.fst : Int).toNat) (KK.dflt Kd.cell)).names,
 C.int .i64 (rd l (0 + (↑z.fst : Int).toNat) (KK.dflt Kd.cell)).bytes, C.int .i64 (rd l (0 + (↑z.fst : Int).toNat) (KK.dflt Kd.cell)).hadN, C.int .i64 (rd l (0 + (↑z.fst : Int).toNat) (KK.dflt Kd.cell)).hadB])]
 [Atom.ro Kd.cell l, Atom.cells (25 : TypeId) [C.slc 0 0 l.length none], Atom.cells (34 : TypeId) [C.nils, C.nils, C.int .i64 (0 : Int), C.int .i64 (0 : Int), C.int .i64 (0 : Int), C.int .i64 (0 : Int)],
 Atom.arr Kd.bool (leftOf l most), Atom.cells (34 : TypeId) [C.slc 6 0 z.snd.items.length none, C.slc 7 0 z.snd.left.length none, C.int .i64 z.snd.n0, C.int .i64 z.snd.b0, C.int .i64 z.snd.n1, C.int .i64
 z.snd.b1], Atom.cells (65 : TypeId) [C.int .i64 z.snd.x0, C.int .i64 z.snd.y0, C.int .i64 z.snd.x1, C.int .i64 z.snd.y1], Atom.arr Kd.item z.snd.items, Atom.arr Kd.int z.snd.left, Atom.cells 44 [C.str
 (rd l (0 + (↑z.fst : Int).toNat) (KK.dflt Kd.cell)).path, C.int .i64 (rd l (0 + (↑z.fst : Int).toNat) (KK.dflt Kd.cell)).what, C.int .i64 (rd l (0 + (↑z.fst : Int).toNat) (KK.dflt Kd.cell)).side, C.int
 .i64 (rd l (0 + (↑z.fst : Int).toNat) (KK.dflt Kd.cell)).mode, C.int .i64 (rd l (0 + (↑z.fst : Int).toNat) (KK.dflt Kd.cell)).keep, C.int .i64 (rd l (0 + (↑z.fst : Int).toNat) (KK.dflt Kd.cell)).take,
 C.int .i64 (rd l (0 + (↑z.fst : Int).toNat) (KK.dflt Kd.cell)).names, C.int .i64 (rd l (0 + (↑z.fst : Int).toNat) (KK.dflt Kd.cell)).bytes, C.int .i64 (rd l (0 + (↑z.fst : Int).toNat) (KK.dflt Kd.cell)).hadN,
 C.int .i64 (rd l (0 + (↑z.fst : Int).toNat) (KK.dflt Kd.cell)).hadB], Atom.arr Kd.int [(3 : Int), (2 : Int)], Atom.cells 42 [C.int .i64 ((↑z.snd.items.length : Int) + (1 : Int)), C.int .i64 (↑z.fst : Int),
 C.str (rd l (0 + (↑z.fst : Int).toNat) (KK.dflt Kd.cell)).path, C.int .i64 (rd l (0 + (↑z.fst : Int).toNat) (KK.dflt Kd.cell)).what, C.int .i64 (1 : Int), C.int .i64 (0 : Int), C.int .i64 (0 : Int)], Atom.gone,
 Atom.gone] [VV.one (V1.agg [C.int .i64 z.snd.x0, C.int .i64 z.snd.y0]), VV.one (V1.agg [C.str (rd l (0 + (↑z.fst : Int).toNat) (KK.dflt Kd.cell)).path, C.int .i64 (rd l (0 + (↑z.fst : Int).toNat) (KK.dflt
 Kd.cell)).what, C.int .i64 (rd l (0 + (↑z.fst : Int).toNat) (KK.dflt Kd.cell)).side, C.int .i64 (rd l (0 + (↑z.fst : Int).toNat) (KK.dflt Kd.cell)).mode, C.int .i64 (rd l (0 + (↑z.fst : Int).toNat) (KK.dflt
 Kd.cell)).keep, C.int .i64 (rd l (0 + (↑z.fst : Int).toNat) (KK.dflt Kd.cell)).take, C.int .i64 (rd l (0 + (↑z.fst : Int).toNat) (KK.dflt Kd.cell)).names, C.int .i64 (rd l (0 + (↑z.fst : Int).toNat) (KK.dflt
 Kd.cell)).bytes, C.int .i64 (rd l (0 + (↑z.fst : Int).toNat) (KK.dflt Kd.cell)).hadN, C.int .i64 (rd l (0 + (↑z.fst : Int).toNat) (KK.dflt Kd.cell)).hadB])] [] ∧ ∀ (y : Unit), True → True ∧ True ∧ True
 ∧ ((0 : Int) ≤ (0 : Int) ∧ (0 : Int) < (2 : Int)) ∧ ((0 : Int) ≤ (0 : Int) ∧ (0 : Int) < (2 : Int)) ∧ ((0 : Int) ≤ (0 : Int) ∧ (0 : Int) < (2 : Int)) ∧ ((0 : Int) ≤ (0 : Int) ∧ (0 : Int) < (2 : Int)) ∧
 True ∧ ((0 : Int) ≤ (0 : Int) ∧ (0 : Int) < (2 : Int)) ∧ (VV.one (V1.c (C.int .i64 (addF z.snd.y0 (max (rd l (0 + (↑z.fst : Int).toNat) (KK.dflt Kd.cell)).bytes (0 : Int))))) = VV.one (V1.c (C.int .i64
 (addF z.snd.y0 (max (rd l (0 + (↑z.fst : Int).toNat) (KK.dflt Kd.cell)).bytes (0 : Int))))) ∧ True) ∧ True ∧ z.snd.items.length = z.snd.items.length ∧ (1 ≤ 1 ∧ True) ∧ (z.snd.items.length + 1) * 64 ≤ 140737488355328
 ∧ i64ok ((↑z.fst : Int) + (1 : Int)) ∧ Enter 1 (inv_of l most) (fun (z' : Nat × PS) => l.length - z'.fst < l.length - z.fst) [VV.any, i64 most, VV.one (V1.c (C.ptr 1 0 0)), VV.any, VV.one (V1.c (C.ptr
 2 0 0)), VV.one (V1.c (C.slc 3 0 l.length none)), VV.one (V1.c (C.ptr 4 0 0)), VV.one (V1.c (C.ptr 5 0 0)), i64 (↑z.fst : Int), VV.one (V1.c (C.ptr 8 0 0)), VV.one (V1.c (C.ptr 10 0 0)), i64 (0 : Int),
 VV.one (V1.c (C.ptr 11 0 0)), VV.one (V1.c (C.ptr 12 0 0)), VV.any, VV.any, VV.any, VV.any, VV.any, VV.any, VV.any, VV.one (V1.c (C.slc 0 0 l.length none)), i64 (↑l.length : Int), VV.one (V1.c (C.int .i64
 ((↑z.fst : Int) + (1 : Int)))), boolv true, i64 (↑z.fst : Int), VV.one (V1.c (C.ptr 0 (0 + (↑z.fst : Int).toNat) 0)), VV.one (V1.agg [C.str (rd l (0 + (↑z.fst : Int).toNat) (KK.dflt Kd.cell)).path, C.int
 .i64 (rd l (0 + (↑z.fst : Int).toNat) (KK.dflt Kd.cell)).what, C.int .i64 (rd l (0 + (↑z.fst : Int).toNat) (KK.dflt Kd.cell)).side, C.int .i64 (rd l (0 + (↑z.fst : Int).toNat) (KK.dflt Kd.cell)).mode,
 C.int .i64 (rd l (0 + (↑z.fst : Int).toNat) (KK.dflt Kd.cell)).keep, C.int .i64 (rd l (0 + (↑z.fst : Int).toNat) (KK.dflt Kd.cell)).take, C.int .i64 (rd l (0 + (↑z.fst : Int).toNat) (KK.dflt Kd.cell)).names,
 C.int .i64 (rd l (0 + (↑z.fst : Int).toNat) (KK.dflt Kd.cell)).bytes, C.int .i64 (rd l (0 + (↑z.fst : Int).toNat) (KK.dflt Kd.cell)).hadN, C.int .i64 (rd l (0 + (↑z.fst : Int).toNat) (KK.dflt Kd.cell)).hadB]),
 VV.one (V1.c (C.slc 3 0 l.length none)), i64 (↑z.fst : Int), VV.one (V1.c (C.ptr 3 (0 + (↑z.fst : Int).toNat) 0)), VV.one (V1.c (C.bool (rd (leftOf l most) (0 + (↑z.fst : Int).toNat) false))), VV.any,
 VV.any, VV.any, VV.any, VV.any, VV.any, VV.one (V1.c (C.slc 9 0 2 none)), VV.one (V1.c (C.ptr 8 0 1)), VV.one (V1.c (C.int .i64 (rd l (0 + (↑z.fst : Int).toNat) (KK.dflt Kd.cell)).what)), VV.one (V1.c
 (C.bool (decide ((rd l (0 + (↑z.fst : Int).toNat) (KK.dflt Kd.cell)).what ∈ [(3 : Int), (2 : Int)])))), boolv false, boolv false, VV.one (V1.c (C.ptr 8 0 2)), VV.one (V1.c (C.int .i64 (rd l (0 + (↑z.fst
 : Int).toNat) (KK.dflt Kd.cell)).side)), boolv false, boolv false, VV.tup [], VV.tup [], VV.tup [], boolv false, boolv false, VV.one (V1.c (C.ptr 4 0 0)), VV.one (V1.c (C.slc 6 0 z.snd.items.length none)),
 VV.one (V1.c (C.int .i64 (↑z.snd.items.length : Int))), VV.one (V1.c (C.int .i64 ((↑z.snd.items.length : Int) + (1 : Int)))), i64 (↑z.fst : Int), VV.one (V1.c (C.ptr 8 0 0)), VV.one (V1.c (C.str (rd l
 (0 + (↑z.fst : Int).toNat) (KK.dflt Kd.cell)).path)), VV.one (V1.c (C.ptr 8 0 1)), VV.one (V1.c (C.int .i64 (rd l (0 + (↑z.fst : Int).toNat) (KK.dflt Kd.cell)).what)), VV.one (V1.agg [C.int .i64 ((↑z.snd.items.length
 : Int) + (1 : Int)), C.int .i64 (↑z.fst : Int), C.str (rd l (0 + (↑z.fst : Int).toNat) (KK.dflt Kd.cell)).path, C.int .i64 (rd l (0 + (↑z.fst : Int).toNat) (KK.dflt Kd.cell)).what, C.int .i64 (0 : Int),
 C.int .i64 (1 : Int), C.int .i64 (0 : Int)]), VV.one (V1.c (C.ptr 8 0 2)), VV.one (V1.c (C.int .i64 (rd l (0 + (↑z.fst : Int).toNat) (KK.dflt Kd.cell)).side)), boolv true, VV.one (V1.c (C.ptr 10 0 4)),
 VV.one (V1.c (C.ptr 10 0 5)), VV.one (V1.c (C.ptr 8 0 1)), VV.one (V1.c (C.int .i64 (rd l (0 + (↑z.fst : Int).toNat) (KK.dflt Kd.cell)).what)), boolv false, VV.any, VV.any, VV.any, VV.one (V1.c (C.ptr
 10 0 5)), i64 (0 : Int), VV.tup [V1.agg [C.int .i64 (addF z.snd.x0 (max (rd l (0 + (↑z.fst : Int).toNat) (KK.dflt Kd.cell)).names (0 : Int))), C.int .i64 (addF z.snd.y0 (max (rd l (0 + (↑z.fst : Int).toNat)
 (KK.dflt Kd.cell)).bytes (0 : Int)))], V1.agg [C.int .i64 (addF (addF z.snd.x0 (max (rd l (0 + (↑z.fst : Int).toNat) (KK.dflt Kd.cell)).names (0 : Int))) ((0 : Int) - max (rd l (0 + (↑z.fst : Int).toNat)
 (KK.dflt Kd.cell)).hadN (0 : Int))), C.int .i64 (addF (addF z.snd.y0 (max (rd l (0 + (↑z.fst : Int).toNat) (KK.dflt Kd.cell)).bytes (0 : Int))) ((0 : Int) - max (rd l (0 + (↑z.fst : Int).toNat) (KK.dflt
 Kd.cell)).hadB (0 : Int)))]], i64 (0 : Int), VV.one (V1.c (C.ptr 5 0 0)), VV.one (V1.agg [C.int .i64 z.snd.x0, C.int .i64 z.snd.y0]), VV.one (V1.agg [C.str (rd l (0 + (↑z.fst : Int).toNat) (KK.dflt Kd.cell)).path,
 C.int .i64 (rd l (0 + (↑z.fst : Int).toNat) (KK.dflt Kd.cell)).what, C.int .i64 (rd l (0 + (↑z.fst : Int).toNat) (KK.dflt Kd.cell)).side, C.int .i64 (rd l (0 + (↑z.fst : Int).toNat) (KK.dflt Kd.cell)).mode,
 C.int .i64 (rd l (0 + (↑z.fst : Int).toNat) (KK.dflt Kd.cell)).keep, C.int .i64 (rd l (0 + (↑z.fst : Int).toNat) (KK.dflt Kd.cell)).take, C.int .i64 (rd l (0 + (↑z.fst : Int).toNat) (KK.dflt Kd.cell)).names,
 C.int .i64 (rd l (0 + (↑z.fst : Int).toNat) (KK.dflt Kd.cell)).bytes, C.int .i64 (rd l (0 + (↑z.fst : Int).toNat) (KK.dflt Kd.cell)).hadN, C.int .i64 (rd l (0 + (↑z.fst : Int).toNat) (KK.dflt Kd.cell)).hadB]),
 VV.tup [V1.agg [C.int .i64 (addF z.snd.x0 (max (rd l (0 + (↑z.fst : Int).toNat) (KK.dflt Kd.cell)).names (0 : Int))), C.int .i64 (addF z.snd.y0 (max (rd l (0 + (↑z.fst : Int).toNat) (KK.dflt Kd.cell)).bytes
 (0 : Int)))], V1.agg [C.int .i64 (addF (addF z.snd.x0 (max (rd l (0 + (↑z.fst : Int).toNat) (KK.dflt Kd.cell)).names (0 : Int))) ((0 : Int) - max (rd l (0 + (↑z.fst : Int).toNat) (KK.dflt Kd.cell)).hadN
 (0 : Int))), C.int .i64 (addF (addF z.snd.y0 (max (rd l (0 + (↑z.fst : Int).toNat) (KK.dflt Kd.cell)).bytes (0 : Int))) ((0 : Int) - max (rd l (0 + (↑z.fst : Int).toNat) (KK.dflt Kd.cell)).hadB (0 : Int)))]],
 VV.one (V1.agg [C.int .i64 (addF z.snd.x0 (max (rd l (0 + (↑z.fst : Int).toNat) (KK.dflt Kd.cell)).names (0 : Int))), C.int .i64 (addF z.snd.y0 (max (rd l (0 + (↑z.fst : Int).toNat) (KK.dflt Kd.cell)).bytes
 (0 : Int)))]), VV.one (V1.agg [C.int .i64 (addF (addF z.snd.x0 (max (rd l (0 + (↑z.fst : Int).toNat) (KK.dflt Kd.cell)).names (0 : Int))) ((0 : Int) - max (rd l (0 + (↑z.fst : Int).toNat) (KK.dflt Kd.cell)).hadN
 (0 : Int))), C.int .i64 (addF (addF z.snd.y0 (max (rd l (0 + (↑z.fst : Int).toNat) (KK.dflt Kd.cell)).bytes (0 : Int))) ((0 : Int) - max (rd l (0 + (↑z.fst : Int).toNat) (KK.dflt Kd.cell)).hadB (0 : Int)))]),
 i64 (0 : Int), VV.one (V1.agg [C.int .i64 (addF (addF z.snd.x0 (max (rd l (0 + (↑z.fst : Int).toNat) (KK.dflt Kd.cell)).names (0 : Int))) ((0 : Int) - max (rd l (0 + (↑z.fst : Int).toNat) (KK.dflt Kd.cell)).hadN
 (0 : Int))), C.int .i64 (addF (addF z.snd.y0 (max (rd l (0 + (↑z.fst : Int).toNat) (KK.dflt Kd.cell)).bytes (0 : Int))) ((0 : Int) - max (rd l (0 + (↑z.fst : Int).toNat) (KK.dflt Kd.cell)).hadB (0 : Int)))]),
 VV.one (V1.c (C.ptr 5 0 0)), i64 (0 : Int), i64 (0 : Int), i64 (0 : Int), VV.one (V1.c (C.ptr 4 0 2)), VV.one (V1.c (C.ptr 4 0 2)), VV.one (V1.c (C.ptr 4 0 2)), i64 z.snd.n0, VV.one (V1.c (C.ptr 11 0 0)),
 VV.one (V1.c (C.int .i64 (addF z.snd.x0 (max (rd l (0 + (↑z.fst : Int).toNat) (KK.dflt Kd.cell)).names (0 : Int))))), VV.one (V1.c (C.int .i64 (max z.snd.n0 (addF z.snd.x0 (max (rd l (0 + (↑z.fst : Int).toNat)
 (KK.dflt Kd.cell)).names (0 : Int)))))), i64 (0 : Int), VV.one (V1.c (C.ptr 4 0 2)), VV.one (V1.c (C.ptr 4 0 2)), VV.one (V1.c (C.ptr 4 0 3)), i64 z.snd.b0, VV.one (V1.c (C.ptr 11 0 1)), VV.one (V1.c (C.int
 .i64 (addF z.snd.y0 (max (rd l (0 + (↑z.fst : Int).toNat) (KK.dflt Kd.cell)).bytes (0 : Int))))), VV.one (V1.c (C.int .i64 (max z.snd.b0 (addF z.snd.y0 (max (rd l (0 + (↑z.fst : Int).toNat) (KK.dflt Kd.cell)).bytes
 (0 : Int)))))), VV.one (V1.c (C.ptr 4 0 2)), VV.one (V1.c (C.ptr 4 0 2)), VV.one (V1.c (C.ptr 4 0 2)), VV.one (V1.c (C.ptr 4 0 2)), VV.one (V1.c (C.ptr 4 0 2)), VV.one (V1.c (C.ptr 4 0 3)), VV.one (V1.c
 (C.ptr 4 0 0)), VV.one (V1.c (C.slc 6 0 z.snd.items.length none)), VV.one (V1.agg [C.int .i64 ((↑z.snd.items.length : Int) + (1 : Int)), C.int .i64 (↑z.fst : Int), C.str (rd l (0 + (↑z.fst : Int).toNat)
 (KK.dflt Kd.cell)).path, C.int .i64 (rd l (0 + (↑z.fst : Int).toNat) (KK.dflt Kd.cell)).what, C.int .i64 (1 : Int), C.int .i64 (0 : Int), C.int .i64 (0 : Int)]), VV.one (V1.c (C.slc 13 0 1 none)), VV.one
 (V1.c (C.slc 14 0 (z.snd.items.length + 1) none)), VV.one (V1.c (C.ptr 4 0 0)), VV.one (V1.c (C.int .i64 ((↑z.fst : Int) + (1 : Int)))), VV.any] [Atom.ro Kd.cell l, Atom.cells (25 : TypeId) [C.slc 0 0
 l.length none], Atom.cells (34 : TypeId) [C.nils, C.nils, C.int .i64 (0 : Int), C.int .i64 (0 : Int), C.int .i64 (0 : Int), C.int .i64 (0 : Int)], Atom.arr Kd.bool (leftOf l most), Atom.cells (34 : TypeId)
 [C.slc 14 0 (z.snd.items.length + 1) none, C.slc 7 0 z.snd.left.length none, C.int .i64 (max z.snd.n0 (addF z.snd.x0 (max (rd l (0 + (↑z.fst : Int).toNat) (KK.dflt Kd.cell)).names (0 : Int)))), C.int .i64
 (max z.snd.b0 (addF z.snd.y0 (max (rd l (0 + (↑z.fst : Int).toNat) (KK.dflt Kd.cell)).bytes (0 : Int)))), C.int .i64 z.snd.n1, C.int .i64 z.snd.b1], Atom.cells (65 : TypeId) [C.int .i64 (addF (addF z.snd.x0
 (max (rd l (0 + (↑z.fst : Int).toNat) (KK.dflt Kd.cell)).names (0 : Int))) ((0 : Int) - max (rd l (0 + (↑z.fst : Int).toNat) (KK.dflt Kd.cell)).hadN (0 : Int))), C.int .i64 (addF (addF z.snd.y0 (max (rd
 l (0 + (↑z.fst : Int).toNat) (KK.dflt Kd.cell)).bytes (0 : Int))) ((0 : Int) - max (rd l (0 + (↑z.fst : Int).toNat) (KK.dflt Kd.cell)).hadB (0 : Int))), C.int .i64 z.snd.x1, C.int .i64 z.snd.y1], Atom.gone,
 Atom.arr Kd.int z.snd.left, Atom.cells 44 [C.str (rd l (0 + (↑z.fst : Int).toNat) (KK.dflt Kd.cell)).path, C.int .i64 (rd l (0 + (↑z.fst : Int).toNat) (KK.dflt Kd.cell)).what, C.int .i64 (rd l (0 + (↑z.fst
 : Int).toNat) (KK.dflt Kd.cell)).side, C.int .i64 (rd l (0 + (↑z.fst : Int).toNat) (KK.dflt Kd.cell)).mode, C.int .i64 (rd l (0 + (↑z.fst : Int).toNat) (KK.dflt Kd.cell)).keep, C.int .i64 (rd l (0 + (↑z.fst
 : Int).toNat) (KK.dflt Kd.cell)).take, C.int .i64 (rd l (0 + (↑z.fst : Int).toNat) (KK.dflt Kd.cell)).names, C.int .i64 (rd l (0 + (↑z.fst : Int).toNat) (KK.dflt Kd.cell)).bytes, C.int .i64 (rd l (0 +
 (↑z.fst : Int).toNat) (KK.dflt Kd.cell)).hadN, C.int .i64 (rd l (0 + (↑z.fst : Int).toNat) (KK.dflt Kd.cell)).hadB], Atom.arr Kd.int [(3 : Int), (2 : Int)], Atom.cells 42 [C.int .i64 ((↑z.snd.items.length
 : Int) + (1 : Int)), C.int .i64 (↑z.fst : Int), C.str (rd l (0 + (↑z.fst : Int).toNat) (KK.dflt Kd.cell)).path, C.int .i64 (rd l (0 + (↑z.fst : Int).toNat) (KK.dflt Kd.cell)).what, C.int .i64 (1 : Int),
 C.int .i64 (0 : Int), C.int .i64 (0 : Int)], Atom.cells 31 [C.int .i64 (addF z.snd.x0 (max (rd l (0 + (↑z.fst : Int).toNat) (KK.dflt Kd.cell)).names (0 : Int))), C.int .i64 (addF z.snd.y0 (max (rd l (0
 + (↑z.fst : Int).toNat) (KK.dflt Kd.cell)).bytes (0 : Int)))], Atom.cells 64 [C.int .i64 (addF (addF z.snd.x0 (max (rd l (0 + (↑z.fst : Int).toNat) (KK.dflt Kd.cell)).names (0 : Int))) ((0 : Int) - max
 (rd l (0 + (↑z.fst : Int).toNat) (KK.dflt Kd.cell)).hadN (0 : Int))), C.int .i64 (addF (addF z.snd.y0 (max (rd l (0 + (↑z.fst : Int).toNat) (KK.dflt Kd.cell)).bytes (0 : Int))) ((0 : Int) - max (rd l (0
 + (↑z.fst : Int).toNat) (KK.dflt Kd.cell)).hadB (0 : Int)))], Atom.arr Kd.item [(Item.mk ((↑z.snd.items.length : Int) + (1 : Int)) ((↑z.fst : Int)) ((rd l (0 + (↑z.fst : Int).toNat) (KK.dflt Kd.cell)).path)
 ((rd l (0 + (↑z.fst : Int).toNat) (KK.dflt Kd.cell)).what) ((1 : Int)) ((0 : Int)) ((0 : Int)))], Atom.arr Kd.item (z.snd.items ++ [(Item.mk ((↑z.snd.items.length : Int) + (1 : Int)) ((↑z.fst : Int)) ((rd
 l (0 + (↑z.fst : Int).toNat) (KK.dflt Kd.cell)).path) ((rd l (0 + (↑z.fst : Int).toNat) (KK.dflt Kd.cell)).what) ((1 : Int)) ((0 : Int)) ((0 : Int)))])])) (ite2 (decide ((rd l (0 + (↑z.fst : Int).toNat)
 (KK.dflt Kd.cell)).what = (2 : Int))) (z.snd.items.length = z.snd.items.length ∧ (1 ≤ 1 ∧ True) ∧ (z.snd.items.length + 1) * 64 ≤ 140737488355328 ∧ i64ok ((↑z.fst : Int) + (1 : Int)) ∧ Enter 1 (inv_of
 l most) (fun (z' : Nat × PS) => l.length - z'.fst < l.length - z.fst) [VV.any, i64 most, VV.one (V1.c (C.ptr 1 0 0)), VV.any, VV.one (V1.c (C.ptr 2 0 0)), VV.one (V1.c (C.slc 3 0 l.length none)), VV.one
 (V1.c (C.ptr 4 0 0)), VV.one (V1.c (C.ptr 5 0 0)), i64 (↑z.fst : Int), VV.one (V1.c (C.ptr 8 0 0)), VV.one (V1.c (C.ptr 10 0 0)), VV.any, VV.any, VV.any, VV.any, VV.any, VV.any, VV.any, VV.any, VV.any,
 VV.any, VV.one (V1.c (C.slc 0 0 l.length none)), i64 (↑l.length : Int), i64 ((↑z.fst : Int) + (1 : Int)), boolv true, i64 (↑z.fst : Int), VV.one (V1.c (C.ptr 0 (0 + (↑z.fst : Int).toNat) 0)), VV.one (V1.agg
 [C.str (rd l (0 + (↑z.fst : Int).toNat) (KK.dflt Kd.cell)).path, C.int .i64 (rd l (0 + (↑z.fst : Int).toNat) (KK.dflt Kd.cell)).what, C.int .i64 (rd l (0 + (↑z.fst : Int).toNat) (KK.dflt Kd.cell)).side,
 C.int .i64 (rd l (0 + (↑z.fst : Int).toNat) (KK.dflt Kd.cell)).mode, C.int .i64 (rd l (0 + (↑z.fst : Int).toNat) (KK.dflt Kd.cell)).keep, C.int .i64 (rd l (0 + (↑z.fst : Int).toNat) (KK.dflt Kd.cell)).take,
 C.int .i64 (rd l (0 + (↑z.fst : Int).toNat) (KK.dflt Kd.cell)).names, C.int .i64 (rd l (0 + (↑z.fst : Int).toNat) (KK.dflt Kd.cell)).bytes, C.int .i64 (rd l (0 + (↑z.fst : Int).toNat) (KK.dflt Kd.cell)).hadN,
 C.int .i64 (rd l (0 + (↑z.fst : Int).toNat) (KK.dflt Kd.cell)).hadB]), VV.one (V1.c (C.slc 3 0 l.length none)), i64 (↑z.fst : Int), VV.one (V1.c (C.ptr 3 (0 + (↑z.fst : Int).toNat) 0)), boolv (rd (leftOf
 l most) (0 + (↑z.fst : Int).toNat) false), VV.any, VV.any, VV.any, VV.any, VV.any, VV.any, VV.one (V1.c (C.slc 9 0 2 none)), VV.one (V1.c (C.ptr 8 0 1)), VV.one (V1.c (C.int .i64 (rd l (0 + (↑z.fst : Int).toNat)
 (KK.dflt Kd.cell)).what)), VV.one (V1.c (C.bool (decide ((rd l (0 + (↑z.fst : Int).toNat) (KK.dflt Kd.cell)).what ∈ [(3 : Int), (2 : Int)])))), boolv false, boolv false, VV.one (V1.c (C.ptr 8 0 2)), VV.one
 (V1.c (C.int .i64 (rd l (0 + (↑z.fst : Int).toNat) (KK.dflt Kd.cell)).side)), boolv false, boolv false, VV.tup [], VV.tup [], VV.tup [], boolv false, boolv false, VV.one (V1.c (C.ptr 4 0 0)), VV.one (V1.c
 (C.slc 6 0 z.snd.items.length none)), i64 (↑z.snd.items.length : Int), i64 ((↑z.snd.items.length : Int) + (1 : Int)), i64 (↑z.fst : Int), VV.one (V1.c (C.ptr 8 0 0)), VV.one (V1.c (C.str (rd l (0 + (↑z.fst
 : Int).toNat) (KK.dflt Kd.cell)).path)), VV.one (V1.c (C.ptr 8 0 1)), VV.one (V1.c (C.int .i64 (rd l (0 + (↑z.fst : Int).toNat) (KK.dflt Kd.cell)).what)), VV.one (V1.agg [C.int .i64 ((↑z.snd.items.length
 : Int) + (1 : Int)), C.int .i64 (↑z.fst : Int), C.str (rd l (0 + (↑z.fst : Int).toNat) (KK.dflt Kd.cell)).path, C.int .i64 (rd l (0 + (↑z.fst : Int).toNat) (KK.dflt Kd.cell)).what, C.int .i64 (0 : Int),
 C.int .i64 (1 : Int), C.int .i64 (0 : Int)]), VV.one (V1.c (C.ptr 8 0 2)), VV.one (V1.c (C.int .i64 (rd l (0 + (↑z.fst : Int).toNat) (KK.dflt Kd.cell)).side)), boolv false, VV.any, VV.any, VV.one (V1.c
 (C.ptr 8 0 1)), VV.one (V1.c (C.int .i64 (rd l (0 + (↑z.fst : Int).toNat) (KK.dflt Kd.cell)).what)), boolv true, VV.one (V1.c (C.ptr 8 0 3)), VV.one (V1.c (C.int .i64 (rd l (0 + (↑z.fst : Int).toNat) (KK.dflt
 Kd.cell)).mode)), VV.one (V1.c (C.ptr 10 0 6)), VV.any, VV.any, VV.any, VV.any, VV.any, VV.any, VV.any, VV.any, VV.any, VV.any, VV.any, VV.any, VV.any, VV.any, VV.any, VV.any, VV.any, VV.any, VV.any, VV.any,
 VV.any, VV.any, VV.any, VV.any, VV.any, VV.any, VV.any, VV.any, VV.any, VV.any, VV.any, VV.any, VV.any, VV.any, VV.any, VV.any, VV.any, VV.one (V1.c (C.ptr 4 0 0)), VV.one (V1.c (C.slc 6 0 z.snd.items.length
 none)), VV.one (V1.agg [C.int .i64 ((↑z.snd.items.length : Int) + (1 : Int)), C.int .i64 (↑z.fst : Int), C.str (rd l (0 + (↑z.fst : Int).toNat) (KK.dflt Kd.cell)).path, C.int .i64 (rd l (0 + (↑z.fst :
 Int).toNat) (KK.dflt Kd.cell)).what, C.int .i64 (0 : Int), C.int .i64 (1 : Int), C.int .i64 (rd l (0 + (↑z.fst : Int).toNat) (KK.dflt Kd.cell)).mode]), VV.one (V1.c (C.slc 11 0 1 none)), VV.one (V1.c (C.slc
 12 0 (z.snd.items.length + 1) none)), VV.one (V1.c (C.ptr 4 0 0)), i64 ((↑z.fst : Int) + (1 : Int)), VV.any] [Atom.ro Kd.cell l, Atom.cells (25 : TypeId) [C.slc 0 0 l.length none], Atom.cells (34 : TypeId)
 [C.nils, C.nils, C.int .i64 (0 : Int), C.int .i64 (0 : Int), C.int .i64 (0 : Int), C.int .i64 (0 : Int)], Atom.arr Kd.bool (leftOf l most), Atom.cells (34 : TypeId) [C.slc 12 0 (z.snd.items.length + 1)
 none, C.slc 7 0 z.snd.left.length none, C.int .i64 z.snd.n0, C.int .i64 z.snd.b0, C.int .i64 z.snd.n1, C.int .i64 z.snd.b1], Atom.cells (65 : TypeId) [C.int .i64 z.snd.x0, C.int .i64 z.snd.y0, C.int .i64
 z.snd.x1, C.int .i64 z.snd.y1], Atom.gone, Atom.arr Kd.int z.snd.left, Atom.cells 44 [C.str (rd l (0 + (↑z.fst : Int).toNat) (KK.dflt Kd.cell)).path, C.int .i64 (rd l (0 + (↑z.fst : Int).toNat) (KK.dflt
 Kd.cell)).what, C.int .i64 (rd l (0 + (↑z.fst : Int).toNat) (KK.dflt Kd.cell)).side, C.int .i64 (rd l (0 + (↑z.fst : Int).toNat) (KK.dflt Kd.cell)).mode, C.int .i64 (rd l (0 + (↑z.fst : Int).toNat) (KK.dflt
 Kd.cell)).keep, C.int .i64 (rd l (0 + (↑z.fst : Int).toNat) (KK.dflt Kd.cell)).take, C.int .i64 (rd l (0 + (↑z.fst : Int).toNat) (KK.dflt Kd.cell)).names, C.int .i64 (rd l (0 + (↑z.fst : Int).toNat) (KK.dflt
 Kd.cell)).bytes, C.int .i64 (rd l (0 + (↑z.fst : Int).toNat) (KK.dflt Kd.cell)).hadN, C.int .i64 (rd l (0 + (↑z.fst : Int).toNat) (KK.dflt Kd.cell)).hadB], Atom.arr Kd.int [(3 : Int), (2 : Int)], Atom.cells
 42 [C.int .i64 ((↑z.snd.items.length : Int) + (1 : Int)), C.int .i64 (↑z.fst : Int), C.str (rd l (0 + (↑z.fst : Int).toNat) (KK.dflt Kd.cell)).path, C.int .i64 (rd l (0 + (↑z.fst : Int).toNat) (KK.dflt
 Kd.cell)).what, C.int .i64 (0 : Int), C.int .i64 (1 : Int), C.int .i64 (rd l (0 + (↑z.fst : Int).toNat) (KK.dflt Kd.cell)).mode], Atom.arr Kd.item [(Item.mk ((↑z.snd.items.length : Int) + (1 : Int)) ((↑z.fst
 : Int)) ((rd l (0 + (↑z.fst : Int).toNat) (KK.dflt Kd.cell)).path) ((rd l (0 + (↑z.fst : Int).toNat) (KK.dflt Kd.cell)).what) ((0 : Int)) ((1 : Int)) ((rd l (0 + (↑z.fst : Int).toNat) (KK.dflt Kd.cell)).mode))],
 Atom.arr Kd.item (z.snd.items ++ [(Item.mk ((↑z.snd.items.length : Int) + (1 : Int)) ((↑z.fst : Int)) ((rd l (0 + (↑z.fst : Int).toNat) (KK.dflt Kd.cell)).path) ((rd l (0 + (↑z.fst : Int).toNat) (KK.dflt
 Kd.cell)).what) ((0 : Int)) ((1 : Int)) ((rd l (0 + (↑z.fst : Int).toNat) (KK.dflt Kd.cell)).mode))])]) (((0 : Int) ≤ (1 : Int) ∧ (1 : Int) < (2 : Int)) ∧ True ∧ (i64ok z.snd.x1 ∧ i64ok z.snd.y1 ∧ (Cell.mk
 ((rd l (0 + (↑z.fst : Int).toNat) (KK.dflt Kd.cell)).path) ((rd l (0 + (↑z.fst : Int).toNat) (KK.dflt Kd.cell)).what) ((rd l (0 + (↑z.fst : Int).toNat) (KK.dflt Kd.cell)).side) ((rd l (0 + (↑z.fst : Int).toNat)
 (KK.dflt Kd.cell)).mode) ((rd l (0 + (↑z.fst : Int).toNat) (KK.dflt Kd.cell)).keep) ((rd l (0 + (↑z.fst : Int).toNat) (KK.dflt Kd.cell)).take) ((rd l (0 + (↑z.fst : Int).toNat) (KK.dflt Kd.cell)).names)
 ((rd l (0 + (↑z.fst : Int).toNat) (KK.dflt Kd.cell)).bytes) ((rd l (0 + (↑z.fst : Int).toNat) (KK.dflt Kd.cell)).hadN) ((rd l (0 + (↑z.fst : Int).toNat) (KK.dflt Kd.cell)).hadB)).Ok) ∧ Into (K := KK) 0
 [] [] [VV.one (V1.agg [C.int .i64 z.snd.x1, C.int .i64 z.snd.y1]), VV.one (V1.agg [C.str (rd l (0 + (↑z.fst : Int).toNat) (KK.dflt Kd.cell)).path, C.int .i64 (rd l (0 + (↑z.fst : Int).toNat) (KK.dflt Kd.cell)).what,
 C.int .i64 (rd l (0 + (↑z.fst : Int).toNat) (KK.dflt Kd.cell)).side, C.int .i64 (rd l (0 + (↑z.fst : Int).toNat) (KK.dflt Kd.cell)).mode, C.int .i64 (rd l (0 + (↑z.fst : Int).toNat) (KK.dflt Kd.cell)).keep,
 C.int .i64 (rd l (0 + (↑z.fst : Int).toNat) (KK.dflt Kd.cell)).take, C.int .i64 (rd l (0 + (↑z.fst : Int).toNat) (KK.dflt Kd.cell)).names, C.int .i64 (rd l (0 + (↑z.fst : Int).toNat) (KK.dflt Kd.cell)).bytes,
 C.int .i64 (rd l (0 + (↑z.fst : Int).toNat) (KK.dflt Kd.cell)).hadN, C.int .i64 (rd l (0 + (↑z.fst : Int).toNat) (KK.dflt Kd.cell)).hadB])] [Atom.ro Kd.cell l, Atom.cells (25 : TypeId) [C.slc 0 0 l.length
 none], Atom.cells (34 : TypeId) [C.nils, C.nils, C.int .i64 (0 : Int), C.int .i64 (0 : Int), C.int .i64 (0 : Int), C.int .i64 (0 : Int)], Atom.arr Kd.bool (leftOf l most), Atom.cells (34 : TypeId) [C.slc
 6 0 z.snd.items.length none, C.slc 7 0 z.snd.left.length none, C.int .i64 z.snd.n0, C.int .i64 z.snd.b0, C.int .i64 z.snd.n1, C.int .i64 z.snd.b1], Atom.cells (65 : TypeId) [C.int .i64 z.snd.x0, C.int
 .i64 z.snd.y0, C.int .i64 z.snd.x1, C.int .i64 z.snd.y1], Atom.arr Kd.item z.snd.items, Atom.arr Kd.int z.snd.left, Atom.cells 44 [C.str (rd l (0 + (↑z.fst : Int).toNat) (KK.dflt Kd.cell)).path, C.int
 .i64 (rd l (0 + (↑z.fst : Int).toNat) (KK.dflt Kd.cell)).what, C.int .i64 (rd l (0 + (↑z.fst : Int).toNat) (KK.dflt Kd.cell)).side, C.int .i64 (rd l (0 + (↑z.fst : Int).toNat) (KK.dflt Kd.cell)).mode,
 C.int .i64 (rd l (0 + (↑z.fst : Int).toNat) (KK.dflt Kd.cell)).keep, C.int .i64 (rd l (0 + (↑z.fst : Int).toNat) (KK.dflt Kd.cell)).take, C.int .i64 (rd l (0 + (↑z.fst : Int).toNat) (KK.dflt Kd.cell)).names,
 C.int .i64 (rd l (0 + (↑z.fst : Int).toNat) (KK.dflt Kd.cell)).bytes, C.int .i64 (rd l (0 + (↑z.fst : Int).toNat) (KK.dflt Kd.cell)).hadN, C.int .i64 (rd l (0 + (↑z.fst : Int).toNat) (KK.dflt Kd.cell)).hadB],
 Atom.arr Kd.int [(3 : Int), (2 : Int)], Atom.cells 42 [C.int .i64 ((↑z.snd.items.length : Int) + (1 : Int)), C.int .i64 (↑z.fst : Int), C.str (rd l (0 + (↑z.fst : Int).toNat) (KK.dflt Kd.cell)).path, C.int
 .i64 (rd l (0 + (↑z.fst : Int).toNat) (KK.dflt Kd.cell)).what, C.int .i64 (0 : Int), C.int .i64 (1 : Int), C.int .i64 (0 : Int)], Atom.gone, Atom.gone] [VV.one (V1.agg [C.int .i64 z.snd.x1, C.int .i64
 z.snd.y1]), VV.one (V1.agg [C.str (rd l (0 + (↑z.fst : Int).toNat) (KK.dflt Kd.cell)).path, C.int .i64 (rd l (0 + (↑z.fst : Int).toNat) (KK.dflt Kd.cell)).what, C.int .i64 (rd l (0 + (↑z.fst : Int).toNat)
 (KK.dflt Kd.cell)).side, C.int .i64 (rd l (0 + (↑z.fst : Int).toNat) (KK.dflt Kd.cell)).mode, C.int .i64 (rd l (0 + (↑z.fst : Int).toNat) (KK.dflt Kd.cell)).keep, C.int .i64 (rd l (0 + (↑z.fst : Int).toNat)
 (KK.dflt Kd.cell)).take, C.int .i64 (rd l (0 + (↑z.fst : Int).toNat) (KK.dflt Kd.cell)).names, C.int .i64 (rd l (0 + (↑z.fst : Int).toNat) (KK.dflt Kd.cell)).bytes, C.int .i64 (rd l (0 + (↑z.fst : Int).toNat)
 (KK.dflt Kd.cell)).hadN, C.int .i64 (rd l (0 + (↑z.fst : Int).toNat) (KK.dflt Kd.cell)).hadB])] [] ∧ ∀ (y : Unit), True → True ∧ True ∧ True ∧ ((0 : Int) ≤ (1 : Int) ∧ (1 : Int) < (2 : Int)) ∧ ((0 : Int)
 ≤ (1 : Int) ∧ (1 : Int) < (2 : Int)) ∧ ((0 : Int) ≤ (1 : Int) ∧ (1 : Int) < (2 : Int)) ∧ ((0 : Int) ≤ (1 : Int) ∧ (1 : Int) < (2 : Int)) ∧ True ∧ ((0 : Int) ≤ (1 : Int) ∧ (1 : Int) < (2 : Int)) ∧ (VV.one
 (V1.c (C.int .i64 (addF z.snd.y1 (max (rd l (0 + (↑z.fst : Int).toNat) (KK.dflt Kd.cell)).bytes (0 : Int))))) = VV.one (V1.c (C.int .i64 (addF z.snd.y1 (max (rd l (0 + (↑z.fst : Int).toNat) (KK.dflt Kd.cell)).bytes
 (0 : Int))))) ∧ True) ∧ True ∧ z.snd.items.length = z.snd.items.length ∧ (1 ≤ 1 ∧ True) ∧ (z.snd.items.length + 1) * 64 ≤ 140737488355328 ∧ i64ok ((↑z.fst : Int) + (1 : Int)) ∧ Enter 1 (inv_of l most)
 (fun (z' : Nat × PS) => l.length - z'.fst < l.length - z.fst) [VV.any, i64 most, VV.one (V1.c (C.ptr 1 0 0)), VV.any, VV.one (V1.c (C.ptr 2 0 0)), VV.one (V1.c (C.slc 3 0 l.length none)), VV.one (V1.c
 (C.ptr 4 0 0)), VV.one (V1.c (C.ptr 5 0 0)), i64 (↑z.fst : Int), VV.one (V1.c (C.ptr 8 0 0)), VV.one (V1.c (C.ptr 10 0 0)), i64 (1 : Int), VV.one (V1.c (C.ptr 11 0 0)), VV.one (V1.c (C.ptr 12 0 0)), VV.any,
 VV.any, VV.any, VV.any, VV.any, VV.any, VV.any, VV.one (V1.c (C.slc 0 0 l.length none)), i64 (↑l.length : Int), VV.one (V1.c (C.int .i64 ((↑z.fst : Int) + (1 : Int)))), boolv true, i64 (↑z.fst : Int),
 VV.one (V1.c (C.ptr 0 (0 + (↑z.fst : Int).toNat) 0)), VV.one (V1.agg [C.str (rd l (0 + (↑z.fst : Int).toNat) (KK.dflt Kd.cell)).path, C.int .i64 (rd l (0 + (↑z.fst : Int).toNat) (KK.dflt Kd.cell)).what,
 C.int .i64 (rd l (0 + (↑z.fst : Int).toNat) (KK.dflt Kd.cell)).side, C.int .i64 (rd l (0 + (↑z.fst : Int).toNat) (KK.dflt Kd.cell)).mode, C.int .i64 (rd l (0 + (↑z.fst : Int).toNat) (KK.dflt Kd.cell)).keep,
 C.int .i64 (rd l (0 + (↑z.fst : Int).toNat) (KK.dflt Kd.cell)).take, C.int .i64 (rd l (0 + (↑z.fst : Int).toNat) (KK.dflt Kd.cell)).names, C.int .i64 (rd l (0 + (↑z.fst : Int).toNat) (KK.dflt Kd.cell)).bytes,
 C.int .i64 (rd l (0 + (↑z.fst : Int).toNat) (KK.dflt Kd.cell)).hadN, C.int .i64 (rd l (0 + (↑z.fst : Int).toNat) (KK.dflt Kd.cell)).hadB]), VV.one (V1.c (C.slc 3 0 l.length none)), i64 (↑z.fst : Int),
 VV.one (V1.c (C.ptr 3 (0 + (↑z.fst : Int).toNat) 0)), VV.one (V1.c (C.bool (rd (leftOf l most) (0 + (↑z.fst : Int).toNat) false))), VV.any, VV.any, VV.any, VV.any, VV.any, VV.any, VV.one (V1.c (C.slc 9
 0 2 none)), VV.one (V1.c (C.ptr 8 0 1)), VV.one (V1.c (C.int .i64 (rd l (0 + (↑z.fst : Int).toNat) (KK.dflt Kd.cell)).what)), VV.one (V1.c (C.bool (decide ((rd l (0 + (↑z.fst : Int).toNat) (KK.dflt Kd.cell)).what
 ∈ [(3 : Int), (2 : Int)])))), boolv false, boolv false, VV.one (V1.c (C.ptr 8 0 2)), VV.one (V1.c (C.int .i64 (rd l (0 + (↑z.fst : Int).toNat) (KK.dflt Kd.cell)).side)), boolv false, boolv false, VV.tup
 [], VV.tup [], VV.tup [], boolv false, boolv false, VV.one (V1.c (C.ptr 4 0 0)), VV.one (V1.c (C.slc 6 0 z.snd.items.length none)), VV.one (V1.c (C.int .i64 (↑z.snd.items.length : Int))), VV.one (V1.c
 (C.int .i64 ((↑z.snd.items.length : Int) + (1 : Int)))), i64 (↑z.fst : Int), VV.one (V1.c (C.ptr 8 0 0)), VV.one (V1.c (C.str (rd l (0 + (↑z.fst : Int).toNat) (KK.dflt Kd.cell)).path)), VV.one (V1.c (C.ptr
 8 0 1)), VV.one (V1.c (C.int .i64 (rd l (0 + (↑z.fst : Int).toNat) (KK.dflt Kd.cell)).what)), VV.one (V1.agg [C.int .i64 ((↑z.snd.items.length : Int) + (1 : Int)), C.int .i64 (↑z.fst : Int), C.str (rd
 l (0 + (↑z.fst : Int).toNat) (KK.dflt Kd.cell)).path, C.int .i64 (rd l (0 + (↑z.fst : Int).toNat) (KK.dflt Kd.cell)).what, C.int .i64 (0 : Int), C.int .i64 (1 : Int), C.int .i64 (0 : Int)]), VV.one (V1.c
 (C.ptr 8 0 2)), VV.one (V1.c (C.int .i64 (rd l (0 + (↑z.fst : Int).toNat) (KK.dflt Kd.cell)).side)), boolv false, VV.any, VV.any, VV.one (V1.c (C.ptr 8 0 1)), VV.one (V1.c (C.int .i64 (rd l (0 + (↑z.fst
 : Int).toNat) (KK.dflt Kd.cell)).what)), boolv false, VV.any, VV.any, VV.any, VV.one (V1.c (C.ptr 10 0 5)), i64 (1 : Int), VV.tup [V1.agg [C.int .i64 (addF z.snd.x1 (max (rd l (0 + (↑z.fst : Int).toNat)
 (KK.dflt Kd.cell)).names (0 : Int))), C.int .i64 (addF z.snd.y1 (max (rd l (0 + (↑z.fst : Int).toNat) (KK.dflt Kd.cell)).bytes (0 : Int)))], V1.agg [C.int .i64 (addF (addF z.snd.x1 (max (rd l (0 + (↑z.fst
 : Int).toNat) (KK.dflt Kd.cell)).names (0 : Int))) ((0 : Int) - max (rd l (0 + (↑z.fst : Int).toNat) (KK.dflt Kd.cell)).hadN (0 : Int))), C.int .i64 (addF (addF z.snd.y1 (max (rd l (0 + (↑z.fst : Int).toNat)
 (KK.dflt Kd.cell)).bytes (0 : Int))) ((0 : Int) - max (rd l (0 + (↑z.fst : Int).toNat) (KK.dflt Kd.cell)).hadB (0 : Int)))]], i64 (1 : Int), VV.one (V1.c (C.ptr 5 0 2)), VV.one (V1.agg [C.int .i64 z.snd.x1,
 C.int .i64 z.snd.y1]), VV.one (V1.agg [C.str (rd l (0 + (↑z.fst : Int).toNat) (KK.dflt Kd.cell)).path, C.int .i64 (rd l (0 + (↑z.fst : Int).toNat) (KK.dflt Kd.cell)).what, C.int .i64 (rd l (0 + (↑z.fst
 : Int).toNat) (KK.dflt Kd.cell)).side, C.int .i64 (rd l (0 + (↑z.fst : Int).toNat) (KK.dflt Kd.cell)).mode, C.int .i64 (rd l (0 + (↑z.fst : Int).toNat) (KK.dflt Kd.cell)).keep, C.int .i64 (rd l (0 + (↑z.fst
 : Int).toNat) (KK.dflt Kd.cell)).take, C.int .i64 (rd l (0 + (↑z.fst : Int).toNat) (KK.dflt Kd.cell)).names, C.int .i64 (rd l (0 + (↑z.fst : Int).toNat) (KK.dflt Kd.cell)).bytes, C.int .i64 (rd l (0 +
 (↑z.fst : Int).toNat) (KK.dflt Kd.cell)).hadN, C.int .i64 (rd l (0 + (↑z.fst : Int).toNat) (KK.dflt Kd.cell)).hadB]), VV.tup [V1.agg [C.int .i64 (addF z.snd.x1 (max (rd l (0 + (↑z.fst : Int).toNat) (KK.dflt
 Kd.cell)).names (0 : Int))), C.int .i64 (addF z.snd.y1 (max (rd l (0 + (↑z.fst : Int).toNat) (KK.dflt Kd.cell)).bytes (0 : Int)))], V1.agg [C.int .i64 (addF (addF z.snd.x1 (max (rd l (0 + (↑z.fst : Int).toNat)
 (KK.dflt Kd.cell)).names (0 : Int))) ((0 : Int) - max (rd l (0 + (↑z.fst : Int).toNat) (KK.dflt Kd.cell)).hadN (0 : Int))), C.int .i64 (addF (addF z.snd.y1 (max (rd l (0 + (↑z.fst : Int).toNat) (KK.dflt
 Kd.cell)).bytes (0 : Int))) ((0 : Int) - max (rd l (0 + (↑z.fst : Int).toNat) (KK.dflt Kd.cell)).hadB (0 : Int)))]], VV.one (V1.agg [C.int .i64 (addF z.snd.x1 (max (rd l (0 + (↑z.fst : Int).toNat) (KK.dflt
 Kd.cell)).names (0 : Int))), C.int .i64 (addF z.snd.y1 (max (rd l (0 + (↑z.fst : Int).toNat) (KK.dflt Kd.cell)).bytes (0 : Int)))]), VV.one (V1.agg [C.int .i64 (addF (addF z.snd.x1 (max (rd l (0 + (↑z.fst
 : Int).toNat) (KK.dflt Kd.cell)).names (0 : Int))) ((0 : Int) - max (rd l (0 + (↑z.fst : Int).toNat) (KK.dflt Kd.cell)).hadN (0 : Int))), C.int .i64 (addF (addF z.snd.y1 (max (rd l (0 + (↑z.fst : Int).toNat)
 (KK.dflt Kd.cell)).bytes (0 : Int))) ((0 : Int) - max (rd l (0 + (↑z.fst : Int).toNat) (KK.dflt Kd.cell)).hadB (0 : Int)))]), i64 (1 : Int), VV.one (V1.agg [C.int .i64 (addF (addF z.snd.x1 (max (rd l (0
 + (↑z.fst : Int).toNat) (KK.dflt Kd.cell)).names (0 : Int))) ((0 : Int) - max (rd l (0 + (↑z.fst : Int).toNat) (KK.dflt Kd.cell)).hadN (0 : Int))), C.int .i64 (addF (addF z.snd.y1 (max (rd l (0 + (↑z.fst
 : Int).toNat) (KK.dflt Kd.cell)).bytes (0 : Int))) ((0 : Int) - max (rd l (0 + (↑z.fst : Int).toNat) (KK.dflt Kd.cell)).hadB (0 : Int)))]), VV.one (V1.c (C.ptr 5 0 2)), i64 (1 : Int), i64 (1 : Int), i64
 (1 : Int), VV.one (V1.c (C.ptr 4 0 2)), VV.one (V1.c (C.ptr 4 0 4)), VV.one (V1.c (C.ptr 4 0 4)), i64 z.snd.n1, VV.one (V1.c (C.ptr 11 0 0)), VV.one (V1.c (C.int .i64 (addF z.snd.x1 (max (rd l (0 + (↑z.fst
 : Int).toNat) (KK.dflt Kd.cell)).names (0 : Int))))), VV.one (V1.c (C.int .i64 (max z.snd.n1 (addF z.snd.x1 (max (rd l (0 + (↑z.fst : Int).toNat) (KK.dflt Kd.cell)).names (0 : Int)))))), i64 (1 : Int),
 VV.one (V1.c (C.ptr 4 0 2)), VV.one (V1.c (C.ptr 4 0 4)), VV.one (V1.c (C.ptr 4 0 5)), i64 z.snd.b1, VV.one (V1.c (C.ptr 11 0 1)), VV.one (V1.c (C.int .i64 (addF z.snd.y1 (max (rd l (0 + (↑z.fst : Int).toNat)
 (KK.dflt Kd.cell)).bytes (0 : Int))))), VV.one (V1.c (C.int .i64 (max z.snd.b1 (addF z.snd.y1 (max (rd l (0 + (↑z.fst : Int).toNat) (KK.dflt Kd.cell)).bytes (0 : Int)))))), VV.one (V1.c (C.ptr 4 0 2)),
 VV.one (V1.c (C.ptr 4 0 4)), VV.one (V1.c (C.ptr 4 0 4)), VV.one (V1.c (C.ptr 4 0 2)), VV.one (V1.c (C.ptr 4 0 4)), VV.one (V1.c (C.ptr 4 0 5)), VV.one (V1.c (C.ptr 4 0 0)), VV.one (V1.c (C.slc 6 0 z.snd.items.length
 none)), VV.one (V1.agg [C.int .i64 ((↑z.snd.items.length : Int) + (1 : Int)), C.int .i64 (↑z.fst : Int), C.str (rd l (0 + (↑z.fst : Int).toNat) (KK.dflt Kd.cell)).path, C.int .i64 (rd l (0 + (↑z.fst :
 Int).toNat) (KK.dflt Kd.cell)).what, C.int .i64 (0 : Int), C.int .i64 (1 : Int), C.int .i64 (0 : Int)]), VV.one (V1.c (C.slc 13 0 1 none)), VV.one (V1.c (C.slc 14 0 (z.snd.items.length + 1) none)), VV.one
 (V1.c (C.ptr 4 0 0)), VV.one (V1.c (C.int .i64 ((↑z.fst : Int) + (1 : Int)))), VV.any] [Atom.ro Kd.cell l, Atom.cells (25 : TypeId) [C.slc 0 0 l.length none], Atom.cells (34 : TypeId) [C.nils, C.nils,
 C.int .i64 (0 : Int), C.int .i64 (0 : Int), C.int .i64 (0 : Int), C.int .i64 (0 : Int)], Atom.arr Kd.bool (leftOf l most), Atom.cells (34 : TypeId) [C.slc 14 0 (z.snd.items.length + 1) none, C.slc 7 0
 z.snd.left.length none, C.int .i64 z.snd.n0, C.int .i64 z.snd.b0, C.int .i64 (max z.snd.n1 (addF z.snd.x1 (max (rd l (0 + (↑z.fst : Int).toNat) (KK.dflt Kd.cell)).names (0 : Int)))), C.int .i64 (max z.snd.b1
 (addF z.snd.y1 (max (rd l (0 + (↑z.fst : Int).toNat) (KK.dflt Kd.cell)).bytes (0 : Int))))], Atom.cells (65 : TypeId) [C.int .i64 z.snd.x0, C.int .i64 z.snd.y0, C.int .i64 (addF (addF z.snd.x1 (max (rd
 l (0 + (↑z.fst : Int).toNat) (KK.dflt Kd.cell)).names (0 : Int))) ((0 : Int) - max (rd l (0 + (↑z.fst : Int).toNat) (KK.dflt Kd.cell)).hadN (0 : Int))), C.int .i64 (addF (addF z.snd.y1 (max (rd l (0 +
 (↑z.fst : Int).toNat) (KK.dflt Kd.cell)).bytes (0 : Int))) ((0 : Int) - max (rd l (0 + (↑z.fst : Int).toNat) (KK.dflt Kd.cell)).hadB (0 : Int)))], Atom.gone, Atom.arr Kd.int z.snd.left, Atom.cells 44 [C.str
 (rd l (0 + (↑z.fst : Int).toNat) (KK.dflt Kd.cell)).path, C.int .i64 (rd l (0 + (↑z.fst : Int).toNat) (KK.dflt Kd.cell)).what, C.int .i64 (rd l (0 + (↑z.fst : Int).toNat) (KK.dflt Kd.cell)).side, C.int
 .i64 (rd l (0 + (↑z.fst : Int).toNat) (KK.dflt Kd.cell)).mode, C.int .i64 (rd l (0 + (↑z.fst : Int).toNat) (KK.dflt Kd.cell)).keep, C.int .i64 (rd l (0 + (↑z.fst : Int).toNat) (KK.dflt Kd.cell)).take,
 C.int .i64 (rd l (0 + (↑z.fst : Int).toNat) (KK.dflt Kd.cell)).names, C.int .i64 (rd l (0 + (↑z.fst : Int).toNat) (KK.dflt Kd.cell)).bytes, C.int .i64 (rd l (0 + (↑z.fst : Int).toNat) (KK.dflt Kd.cell)).hadN,
 C.int .i64 (rd l (0 + (↑z.fst : Int).toNat) (KK.dflt Kd.cell)).hadB], Atom.arr Kd.int [(3 : Int), (2 : Int)], Atom.cells 42 [C.int .i64 ((↑z.snd.items.length : Int) + (1 : Int)), C.int .i64 (↑z.fst : Int),
 C.str (rd l (0 + (↑z.fst : Int).toNat) (KK.dflt Kd.cell)).path, C.int .i64 (rd l (0 + (↑z.fst : Int).toNat) (KK.dflt Kd.cell)).what, C.int .i64 (0 : Int), C.int .i64 (1 : Int), C.int .i64 (0 : Int)], Atom.cells
 31 [C.int .i64 (addF z.snd.x1 (max (rd l (0 + (↑z.fst : Int).toNat) (KK.dflt Kd.cell)).names (0 : Int))), C.int .i64 (addF z.snd.y1 (max (rd l (0 + (↑z.fst : Int).toNat) (KK.dflt Kd.cell)).bytes (0 : Int)))],
 Atom.cells 64 [C.int .i64 (addF (addF z.snd.x1 (max (rd l (0 + (↑z.fst : Int).toNat) (KK.dflt Kd.cell)).names (0 : Int))) ((0 : Int) - max (rd l (0 + (↑z.fst : Int).toNat) (KK.dflt Kd.cell)).hadN (0 :
 Int))), C.int .i64 (addF (addF z.snd.y1 (max (rd l (0 + (↑z.fst : Int).toNat) (KK.dflt Kd.cell)).bytes (0 : Int))) ((0 : Int) - max (rd l (0 + (↑z.fst : Int).toNat) (KK.dflt Kd.cell)).hadB (0 : Int)))],
 Atom.arr Kd.item [(Item.mk ((↑z.snd.items.length : Int) + (1 : Int)) ((↑z.fst : Int)) ((rd l (0 + (↑z.fst : Int).toNat) (KK.dflt Kd.cell)).path) ((rd l (0 + (↑z.fst : Int).toNat) (KK.dflt Kd.cell)).what)
 ((0 : Int)) ((1 : Int)) ((0 : Int)))], Atom.arr Kd.item (z.snd.items ++ [(Item.mk ((↑z.snd.items.length : Int) + (1 : Int)) ((↑z.fst : Int)) ((rd l (0 + (↑z.fst : Int).toNat) (KK.dflt Kd.cell)).path) ((rd
 l (0 + (↑z.fst : Int).toNat) (KK.dflt Kd.cell)).what) ((0 : Int)) ((1 : Int)) ((0 : Int)))])]))) (ite2 (decide ((rd l (0 + (↑z.fst : Int).toNat) (KK.dflt Kd.cell)).side = (2 : Int))) (i64ok ((↑z.snd.items.length
 : Int) + (1 : Int)) ∧ ite2 (decide ((rd l (0 + (↑z.fst : Int).toNat) (KK.dflt Kd.cell)).side = (2 : Int))) (ite2 (decide ((rd l (0 + (↑z.fst : Int).toNat) (KK.dflt Kd.cell)).what = (2 : Int))) (z.snd.items.length
 = z.snd.items.length ∧ (1 ≤ 1 ∧ True) ∧ (z.snd.items.length + 1) * 64 ≤ 140737488355328 ∧ i64ok ((↑z.fst : Int) + (1 : Int)) ∧ Enter 1 (inv_of l most) (fun (z' : Nat × PS) => l.length - z'.fst < l.length
 - z.fst) [VV.any, i64 most, VV.one (V1.c (C.ptr 1 0 0)), VV.any, VV.one (V1.c (C.ptr 2 0 0)), VV.one (V1.c (C.slc 3 0 l.length none)), VV.one (V1.c (C.ptr 4 0 0)), VV.one (V1.c (C.ptr 5 0 0)), i64 (↑z.fst
 : Int), VV.one (V1.c (C.ptr 8 0 0)), VV.one (V1.c (C.ptr 10 0 0)), VV.any, VV.any, VV.any, VV.any, VV.any, VV.any, VV.any, VV.any, VV.any, VV.any, VV.one (V1.c (C.slc 0 0 l.length none)), i64 (↑l.length
 : Int), i64 ((↑z.fst : Int) + (1 : Int)), boolv true, i64 (↑z.fst : Int), VV.one (V1.c (C.ptr 0 (0 + (↑z.fst : Int).toNat) 0)), VV.one (V1.agg [C.str (rd l (0 + (↑z.fst : Int).toNat) (KK.dflt Kd.cell)).path,
 C.int .i64 (rd l (0 + (↑z.fst : Int).toNat) (KK.dflt Kd.cell)).what, C.int .i64 (rd l (0 + (↑z.fst : Int).toNat) (KK.dflt Kd.cell)).side, C.int .i64 (rd l (0 + (↑z.fst : Int).toNat) (KK.dflt Kd.cell)).mode,
 C.int .i64 (rd l (0 + (↑z.fst : Int).toNat) (KK.dflt Kd.cell)).keep, C.int .i64 (rd l (0 + (↑z.fst : Int).toNat) (KK.dflt Kd.cell)).take, C.int .i64 (rd l (0 + (↑z.fst : Int).toNat) (KK.dflt Kd.cell)).names,
 C.int .i64 (rd l (0 + (↑z.fst : Int).toNat) (KK.dflt Kd.cell)).bytes, C.int .i64 (rd l (0 + (↑z.fst : Int).toNat) (KK.dflt Kd.cell)).hadN, C.int .i64 (rd l (0 + (↑z.fst : Int).toNat) (KK.dflt Kd.cell)).hadB]),
 VV.one (V1.c (C.slc 3 0 l.length none)), i64 (↑z.fst : Int), VV.one (V1.c (C.ptr 3 (0 + (↑z.fst : Int).toNat) 0)), boolv (rd (leftOf l most) (0 + (↑z.fst : Int).toNat) false), VV.any, VV.any, VV.any, VV.any,
 VV.any, VV.any, VV.one (V1.c (C.slc 9 0 2 none)), VV.one (V1.c (C.ptr 8 0 1)), VV.one (V1.c (C.int .i64 (rd l (0 + (↑z.fst : Int).toNat) (KK.dflt Kd.cell)).what)), VV.one (V1.c (C.bool (decide ((rd l (0
 + (↑z.fst : Int).toNat) (KK.dflt Kd.cell)).what ∈ [(3 : Int), (2 : Int)])))), boolv false, boolv false, VV.one (V1.c (C.ptr 8 0 2)), VV.one (V1.c (C.int .i64 (rd l (0 + (↑z.fst : Int).toNat) (KK.dflt Kd.cell)).side)),
 boolv true, boolv true, VV.one (V1.c (C.ptr 8 0 2)), VV.one (V1.c (C.int .i64 (rd l (0 + (↑z.fst : Int).toNat) (KK.dflt Kd.cell)).side)), boolv false, boolv false, boolv false, VV.one (V1.c (C.ptr 4 0
 0)), VV.one (V1.c (C.slc 6 0 z.snd.items.length none)), i64 (↑z.snd.items.length : Int), i64 ((↑z.snd.items.length : Int) + (1 : Int)), i64 (↑z.fst : Int), VV.one (V1.c (C.ptr 8 0 0)), VV.one (V1.c (C.str
 (rd l (0 + (↑z.fst : Int).toNat) (KK.dflt Kd.cell)).path)), VV.one (V1.c (C.ptr 8 0 1)), VV.one (V1.c (C.int .i64 (rd l (0 + (↑z.fst : Int).toNat) (KK.dflt Kd.cell)).what)), VV.one (V1.agg [C.int .i64
 ((↑z.snd.items.length : Int) + (1 : Int)), C.int .i64 (↑z.fst : Int), C.str (rd l (0 + (↑z.fst : Int).toNat) (KK.dflt Kd.cell)).path, C.int .i64 (rd l (0 + (↑z.fst : Int).toNat) (KK.dflt Kd.cell)).what,
 C.int .i64 (0 : Int), C.int .i64 (1 : Int), C.int .i64 (0 : Int)]), VV.one (V1.c (C.ptr 8 0 2)), VV.one (V1.c (C.int .i64 (rd l (0 + (↑z.fst : Int).toNat) (KK.dflt Kd.cell)).side)), boolv true, VV.one
 (V1.c (C.ptr 10 0 4)), VV.one (V1.c (C.ptr 10 0 5)), VV.one (V1.c (C.ptr 8 0 1)), VV.one (V1.c (C.int .i64 (rd l (0 + (↑z.fst : Int).toNat) (KK.dflt Kd.cell)).what)), boolv true, VV.one (V1.c (C.ptr 8
 0 3)), VV.one (V1.c (C.int .i64 (rd l (0 + (↑z.fst : Int).toNat) (KK.dflt Kd.cell)).mode)), VV.one (V1.c (C.ptr 10 0 6)), VV.any, VV.any, VV.any, VV.any, VV.any, VV.any, VV.any, VV.any, VV.any, VV.any,
 VV.any, VV.any, VV.any, VV.any, VV.any, VV.any, VV.any, VV.any, VV.any, VV.any, VV.any, VV.any, VV.any, VV.any, VV.any, VV.any, VV.any, VV.any, VV.any, VV.any, VV.any, VV.any, VV.any, VV.any, VV.any, VV.any,
 VV.any, VV.one (V1.c (C.ptr 4 0 0)), VV.one (V1.c (C.slc 6 0 z.snd.items.length none)), VV.one (V1.agg [C.int .i64 ((↑z.snd.items.length : Int) + (1 : Int)), C.int .i64 (↑z.fst : Int), C.str (rd l (0 +
 (↑z.fst : Int).toNat) (KK.dflt Kd.cell)).path, C.int .i64 (rd l (0 + (↑z.fst : Int).toNat) (KK.dflt Kd.cell)).what, C.int .i64 (1 : Int), C.int .i64 (0 : Int), C.int .i64 (rd l (0 + (↑z.fst : Int).toNat)
 (KK.dflt Kd.cell)).mode]), VV.one (V1.c (C.slc 11 0 1 none)), VV.one (V1.c (C.slc 12 0 (z.snd.items.length + 1) none)), VV.one (V1.c (C.ptr 4 0 0)), i64 ((↑z.fst : Int) + (1 : Int)), VV.any] [Atom.ro Kd.cell
 l, Atom.cells (25 : TypeId) [C.slc 0 0 l.length none], Atom.cells (34 : TypeId) [C.nils, C.nils, C.int .i64 (0 : Int), C.int .i64 (0 : Int), C.int .i64 (0 : Int), C.int .i64 (0 : Int)], Atom.arr Kd.bool
 (leftOf l most), Atom.cells (34 : TypeId) [C.slc 12 0 (z.snd.items.length + 1) none, C.slc 7 0 z.snd.left.length none, C.int .i64 z.snd.n0, C.int .i64 z.snd.b0, C.int .i64 z.snd.n1, C.int .i64 z.snd.b1],
 Atom.cells (65 : TypeId) [C.int .i64 z.snd.x0, C.int .i64 z.snd.y0, C.int .i64 z.snd.x1, C.int .i64 z.snd.y1], Atom.gone, Atom.arr Kd.int z.snd.left, Atom.cells 44 [C.str (rd l (0 + (↑z.fst : Int).toNat)
 (KK.dflt Kd.cell)).path, C.int .i64 (rd l (0 + (↑z.fst : Int).toNat) (KK.dflt Kd.cell)).what, C.int .i64 (rd l (0 + (↑z.fst : Int).toNat) (KK.dflt Kd.cell)).side, C.int .i64 (rd l (0 + (↑z.fst : Int).toNat)
 (KK.dflt Kd.cell)).mode, C.int .i64 (rd l (0 + (↑z.fst : Int).toNat) (KK.dflt Kd.cell)).keep, C.int .i64 (rd l (0 + (↑z.fst : Int).toNat) (KK.dflt Kd.cell)).take, C.int .i64 (rd l (0 + (↑z.fst : Int).toNat)
 (KK.dflt Kd.cell)).names, C.int .i64 (rd l (0 + (↑z.fst : Int).toNat) (KK.dflt Kd.cell)).bytes, C.int .i64 (rd l (0 + (↑z.fst : Int).toNat) (KK.dflt Kd.cell)).hadN, C.int .i64 (rd l (0 + (↑z.fst : Int).toNat)
 (KK.dflt Kd.cell)).hadB], Atom.arr Kd.int [(3 : Int), (2 : Int)], Atom.cells 42 [C.int .i64 ((↑z.snd.items.length : Int) + (1 : Int)), C.int .i64 (↑z.fst : Int), C.str (rd l (0 + (↑z.fst : Int).toNat)
 (KK.dflt Kd.cell)).path, C.int .i64 (rd l (0 + (↑z.fst : Int).toNat) (KK.dflt Kd.cell)).what, C.int .i64 (1 : Int), C.int .i64 (0 : Int), C.int .i64 (rd l (0 + (↑z.fst : Int).toNat) (KK.dflt Kd.cell)).mode],
 Atom.arr Kd.item [(Item.mk ((↑z.snd.items.length : Int) + (1 : Int)) ((↑z.fst : Int)) ((rd l (0 + (↑z.fst : Int).toNat) (KK.dflt Kd.cell)).path) ((rd l (0 + (↑z.fst : Int).toNat) (KK.dflt Kd.cell)).what)
 ((1 : Int)) ((0 : Int)) ((rd l (0 + (↑z.fst : Int).toNat) (KK.dflt Kd.cell)).mode))], Atom.arr Kd.item (z.snd.items ++ [(Item.mk ((↑z.snd.items.length : Int) + (1 : Int)) ((↑z.fst : Int)) ((rd l (0 + (↑z.fst
 : Int).toNat) (KK.dflt Kd.cell)).path) ((rd l (0 + (↑z.fst : Int).toNat) (KK.dflt Kd.cell)).what) ((1 : Int)) ((0 : Int)) ((rd l (0 + (↑z.fst : Int).toNat) (KK.dflt Kd.cell)).mode))])]) (((0 : Int) ≤ (0
 : Int) ∧ (0 : Int) < (2 : Int)) ∧ True ∧ (i64ok z.snd.x0 ∧ i64ok z.snd.y0 ∧ (Cell.mk ((rd l (0 + (↑z.fst : Int).toNat) (KK.dflt Kd.cell)).path) ((rd l (0 + (↑z.fst : Int).toNat) (KK.dflt Kd.cell)).what)
 ((rd l (0 + (↑z.fst : Int).toNat) (KK.dflt Kd.cell)).side) ((rd l (0 + (↑z.fst : Int).toNat) (KK.dflt Kd.cell)).mode) ((rd l (0 + (↑z.fst : Int).toNat) (KK.dflt Kd.cell)).keep) ((rd l (0 + (↑z.fst : Int).toNat)
 (KK.dflt Kd.cell)).take) ((rd l (0 + (↑z.fst : Int).toNat) (KK.dflt Kd.cell)).names) ((rd l (0 + (↑z.fst : Int).toNat) (KK.dflt Kd.cell)).bytes) ((rd l (0 + (↑z.fst : Int).toNat) (KK.dflt Kd.cell)).hadN)
 ((rd l (0 + (↑z.fst : Int).toNat) (KK.dflt Kd.cell)).hadB)).Ok) ∧ Into (K := KK) 0 [] [] [VV.one (V1.agg [C.int .i64 z.snd.x0, C.int .i64 z.snd.y0]), VV.one (V1.agg [C.str (rd l (0 + (↑z.fst : Int).toNat)
 (KK.dflt Kd.cell)).path, C.int .i64 (rd l (0 + (↑z.fst : Int).toNat) (KK.dflt Kd.cell)).what, C.int .i64 (rd l (0 + (↑z.fst : Int).toNat) (KK.dflt Kd.cell)).side, C.int .i64 (rd l (0 + (↑z.fst : Int).toNat)
 (KK.dflt Kd.cell)).mode, C.int .i64 (rd l (0 + (↑z.fst : Int).toNat) (KK.dflt Kd.cell)).keep, C.int .i64 (rd l (0 + (↑z.fst : Int).toNat) (KK.dflt Kd.cell)).take, C.int .i64 (rd l (0 + (↑z.fst : Int).toNat)
 (KK.dflt Kd.cell)).names, C.int .i64 (rd l (0 + (↑z.fst : Int).toNat) (KK.dflt Kd.cell)).bytes, C.int .i64 (rd l (0 + (↑z.fst : Int).toNat) (KK.dflt Kd.cell)).hadN, C.int .i64 (rd l (0 + (↑z.fst : Int).toNat)
 (KK.dflt Kd.cell)).hadB])] [Atom.ro Kd.cell l, Atom.cells (25 : TypeId) [C.slc 0 0 l.length none], Atom.cells (34 : TypeId) [C.nils, C.nils, C.int .i64 (0 : Int), C.int .i64 (0 : Int), C.int .i64 (0 :
 Int), C.int .i64 (0 : Int)], Atom.arr Kd.bool (leftOf l most), Atom.cells (34 : TypeId) [C.slc 6 0 z.snd.items.length none, C.slc 7 0 z.snd.left.length none, C.int .i64 z.snd.n0, C.int .i64 z.snd.b0, C.int
 .i64 z.snd.n1, C.int .i64 z.snd.b1], Atom.cells (65 : TypeId) [C.int .i64 z.snd.x0, C.int .i64 z.snd.y0, C.int .i64 z.snd.x1, C.int .i64 z.snd.y1], Atom.arr Kd.item z.snd.items, Atom.arr Kd.int z.snd.left,
 Atom.cells 44 [C.str (rd l (0 + (↑z.fst : Int).toNat) (KK.dflt Kd.cell)).path, C.int .i64 (rd l (0 + (↑z.fst : Int).toNat) (KK.dflt Kd.cell)).what, C.int .i64 (rd l (0 + (↑z.fst : Int).toNat) (KK.dflt
 Kd.cell)).side, C.int .i64 (rd l (0 + (↑z.fst : Int).toNat) (KK.dflt Kd.cell)).mode, C.int .i64 (rd l (0 + (↑z.fst : Int).toNat) (KK.dflt Kd.cell)).keep, C.int .i64 (rd l (0 + (↑z.fst : Int).toNat) (KK.dflt
 Kd.cell)).take, C.int .i64 (rd l (0 + (↑z.fst : Int).toNat) (KK.dflt Kd.cell)).names, C.int .i64 (rd l (0 + (↑z.fst : Int).toNat) (KK.dflt Kd.cell)).bytes, C.int .i64 (rd l (0 + (↑z.fst : Int).toNat) (KK.dflt
 Kd.cell)).hadN, C.int .i64 (rd l (0 + (↑z.fst : Int).toNat) (KK.dflt Kd.cell)).hadB], Atom.arr Kd.int [(3 : Int), (2 : Int)], Atom.cells 42 [C.int .i64 ((↑z.snd.items.length : Int) + (1 : Int)), C.int
 .i64 (↑z.fst : Int), C.str (rd l (0 + (↑z.fst : Int).toNat) (KK.dflt Kd.cell)).path, C.int .i64 (rd l (0 + (↑z.fst : Int).toNat) (KK.dflt Kd.cell)).what, C.int .i64 (1 : Int), C.int .i64 (0 : Int), C.int
 .i64 (0 : Int)], Atom.gone, Atom.gone] [VV.one (V1.agg [C.int .i64 z.snd.x0, C.int .i64 z.snd.y0]), VV.one (V1.agg [C.str (rd l (0 + (↑z.fst : Int).toNat) (KK.dflt Kd.cell)).path, C.int .i64 (rd l (0 +
 (↑z.fst : Int).toNat) (KK.dflt Kd.cell)).what, C.int .i64 (rd l (0 + (↑z.fst : Int).toNat) (KK.dflt Kd.cell)).side, C.int .i64 (rd l (0 + (↑z.fst : Int).toNat) (KK.dflt Kd.cell)).mode, C.int .i64 (rd l
 (0 + (↑z.fst : Int).toNat) (KK.dflt Kd.cell)).keep, C.int .i64 (rd l (0 + (↑z.fst : Int).toNat) (KK.dflt Kd.cell)).take, C.int .i64 (rd l (0 + (↑z.fst : Int).toNat) (KK.dflt Kd.cell)).names, C.int .i64
 (rd l (0 + (↑z.fst : Int).toNat) (KK.dflt Kd.cell)).bytes, C.int .i64 (rd l (0 + (↑z.fst : Int).toNat) (KK.dflt Kd.cell)).hadN, C.int .i64 (rd l (0 + (↑z.fst : Int).toNat) (KK.dflt Kd.cell)).hadB])] []
 ∧ ∀ (y : Unit), True → True ∧ True ∧ True ∧ ((0 : Int) ≤ (0 : Int) ∧ (0 : Int) < (2 : Int)) ∧ ((0 : Int) ≤ (0 : Int) ∧ (0 : Int) < (2 : Int)) ∧ ((0 : Int) ≤ (0 : Int) ∧ (0 : Int) < (2 : Int)) ∧ ((0 : Int)
 ≤ (0 : Int) ∧ (0 : Int) < (2 : Int)) ∧ True ∧ ((0 : Int) ≤ (0 : Int) ∧ (0 : Int) < (2 : Int)) ∧ (VV.one (V1.c (C.int .i64 (addF z.snd.y0 (max (rd l (0 + (↑z.fst : Int).toNat) (KK.dflt Kd.cell)).bytes (0
 : Int))))) = VV.one (V1.c (C.int .i64 (addF z.snd.y0 (max (rd l (0 + (↑z.fst : Int).toNat) (KK.dflt Kd.cell)).bytes (0 : Int))))) ∧ True) ∧ True ∧ z.snd.items.length = z.snd.items.length ∧ (1 ≤ 1 ∧ True)
 ∧ (z.snd.items.length + 1) * 64 ≤ 140737488355328 ∧ i64ok ((↑z.fst : Int) + (1 : Int)) ∧ Enter 1 (inv_of l most) (fun (z' : Nat × PS) => l.length - z'.fst < l.length - z.fst) [VV.any, i64 most, VV.one
 (V1.c (C.ptr 1 0 0)), VV.any, VV.one (V1.c (C.ptr 2 0 0)), VV.one (V1.c (C.slc 3 0 l.length none)), VV.one (V1.c (C.ptr 4 0 0)), VV.one (V1.c (C.ptr 5 0 0)), i64 (↑z.fst : Int), VV.one (V1.c (C.ptr 8 0
 0)), VV.one (V1.c (C.ptr 10 0 0)), i64 (0 : Int), VV.one (V1.c (C.ptr 11 0 0)), VV.one (V1.c (C.ptr 12 0 0)), VV.any, VV.any, VV.any, VV.any, VV.any, VV.any, VV.any, VV.one (V1.c (C.slc 0 0 l.length none)),
 i64 (↑l.length : Int), VV.one (V1.c (C.int .i64 ((↑z.fst : Int) + (1 : Int)))), boolv true, i64 (↑z.fst : Int), VV.one (V1.c (C.ptr 0 (0 + (↑z.fst : Int).toNat) 0)), VV.one (V1.agg [C.str (rd l (0 + (↑z.fst
 : Int).toNat) (KK.dflt Kd.cell)).path, C.int .i64 (rd l (0 + (↑z.fst : Int).toNat) (KK.dflt Kd.cell)).what, C.int .i64 (rd l (0 + (↑z.fst : Int).toNat) (KK.dflt Kd.cell)).side, C.int .i64 (rd l (0 + (↑z.fst
 : Int).toNat) (KK.dflt Kd.cell)).mode, C.int .i64 (rd l (0 + (↑z.fst : Int).toNat) (KK.dflt Kd.cell)).keep, C.int .i64 (rd l (0 + (↑z.fst : Int).toNat) (KK.dflt Kd.cell)).take, C.int .i64 (rd l (0 + (↑z.fst
 : Int).toNat) (KK.dflt Kd.cell)).names, C.int .i64 (rd l (0 + (↑z.fst : Int).toNat) (KK.dflt Kd.cell)).bytes, C.int .i64 (rd l (0 + (↑z.fst : Int).toNat) (KK.dflt Kd.cell)).hadN, C.int .i64 (rd l (0 +
 (↑z.fst : Int).toNat) (KK.dflt Kd.cell)).hadB]), VV.one (V1.c (C.slc 3 0 l.length none)), i64 (↑z.fst : Int), VV.one (V1.c (C.ptr 3 (0 + (↑z.fst : Int).toNat) 0)), VV.one (V1.c (C.bool (rd (leftOf l most)
 (0 + (↑z.fst : Int).toNat) false))), VV.any, VV.any, VV.any, VV.any, VV.any, VV.any, VV.one (V1.c (C.slc 9 0 2 none)), VV.one (V1.c (C.ptr 8 0 1)), VV.one (V1.c (C.int .i64 (rd l (0 + (↑z.fst : Int).toNat)
 (KK.dflt Kd.cell)).what)), VV.one (V1.c (C.bool (decide ((rd l (0 + (↑z.fst : Int).toNat) (KK.dflt Kd.cell)).what ∈ [(3 : Int), (2 : Int)])))), boolv false, boolv false, VV.one (V1.c (C.ptr 8 0 2)), VV.one
 (V1.c (C.int .i64 (rd l (0 + (↑z.fst : Int).toNat) (KK.dflt Kd.cell)).side)), boolv true, boolv true, VV.one (V1.c (C.ptr 8 0 2)), VV.one (V1.c (C.int .i64 (rd l (0 + (↑z.fst : Int).toNat) (KK.dflt Kd.cell)).side)),
 boolv false, boolv false, boolv false, VV.one (V1.c (C.ptr 4 0 0)), VV.one (V1.c (C.slc 6 0 z.snd.items.length none)), VV.one (V1.c (C.int .i64 (↑z.snd.items.length : Int))), VV.one (V1.c (C.int .i64 ((↑z.snd.items.length
 : Int) + (1 : Int)))), i64 (↑z.fst : Int), VV.one (V1.c (C.ptr 8 0 0)), VV.one (V1.c (C.str (rd l (0 + (↑z.fst : Int).toNat) (KK.dflt Kd.cell)).path)), VV.one (V1.c (C.ptr 8 0 1)), VV.one (V1.c (C.int
 .i64 (rd l (0 + (↑z.fst : Int).toNat) (KK.dflt Kd.cell)).what)), VV.one (V1.agg [C.int .i64 ((↑z.snd.items.length : Int) + (1 : Int)), C.int .i64 (↑z.fst : Int), C.str (rd l (0 + (↑z.fst : Int).toNat)
 (KK.dflt Kd.cell)).path, C.int .i64 (rd l (0 + (↑z.fst : Int).toNat) (KK.dflt Kd.cell)).what, C.int .i64 (0 : Int), C.int .i64 (1 : Int), C.int .i64 (0 : Int)]), VV.one (V1.c (C.ptr 8 0 2)), VV.one (V1.c
 (C.int .i64 (rd l (0 + (↑z.fst : Int).toNat) (KK.dflt Kd.cell)).side)), boolv true, VV.one (V1.c (C.ptr 10 0 4)), VV.one (V1.c (C.ptr 10 0 5)), VV.one (V1.c (C.ptr 8 0 1)), VV.one (V1.c (C.int .i64 (rd
 l (0 + (↑z.fst : Int).toNat) (KK.dflt Kd.cell)).what)), boolv false, VV.any, VV.any, VV.any, VV.one (V1.c (C.ptr 10 0 5)), i64 (0 : Int), VV.tup [V1.agg [C.int .i64 (addF z.snd.x0 (max (rd l (0 + (↑z.fst
 : Int).toNat) (KK.dflt Kd.cell)).names (0 : Int))), C.int .i64 (addF z.snd.y0 (max (rd l (0 + (↑z.fst : Int).toNat) (KK.dflt Kd.cell)).bytes (0 : Int)))], V1.agg [C.int .i64 (addF (addF z.snd.x0 (max (rd
 l (0 + (↑z.fst : Int).toNat) (KK.dflt Kd.cell)).names (0 : Int))) ((0 : Int) - max (rd l (0 + (↑z.fst : Int).toNat) (KK.dflt Kd.cell)).hadN (0 : Int))), C.int .i64 (addF (addF z.snd.y0 (max (rd l (0 +
 (↑z.fst : Int).toNat) (KK.dflt Kd.cell)).bytes (0 : Int))) ((0 : Int) - max (rd l (0 + (↑z.fst : Int).toNat) (KK.dflt Kd.cell)).hadB (0 : Int)))]], i64 (0 : Int), VV.one (V1.c (C.ptr 5 0 0)), VV.one (V1.agg
 [C.int .i64 z.snd.x0, C.int .i64 z.snd.y0]), VV.one (V1.agg [C.str (rd l (0 + (↑z.fst : Int).toNat) (KK.dflt Kd.cell)).path, C.int .i64 (rd l (0 + (↑z.fst : Int).toNat) (KK.dflt Kd.cell)).what, C.int .i64
 (rd l (0 + (↑z.fst : Int).toNat) (KK.dflt Kd.cell)).side, C.int .i64 (rd l (0 + (↑z.fst : Int).toNat) (KK.dflt Kd.cell)).mode, C.int .i64 (rd l (0 + (↑z.fst : Int).toNat) (KK.dflt Kd.cell)).keep, C.int
 .i64 (rd l (0 + (↑z.fst : Int).toNat) (KK.dflt Kd.cell)).take, C.int .i64 (rd l (0 + (↑z.fst : Int).toNat) (KK.dflt Kd.cell)).names, C.int .i64 (rd l (0 + (↑z.fst : Int).toNat) (KK.dflt Kd.cell)).bytes,
 C.int .i64 (rd l (0 + (↑z.fst : Int).toNat) (KK.dflt Kd.cell)).hadN, C.int .i64 (rd l (0 + (↑z.fst : Int).toNat) (KK.dflt Kd.cell)).hadB]), VV.tup [V1.agg [C.int .i64 (addF z.snd.x0 (max (rd l (0 + (↑z.fst
 : Int).toNat) (KK.dflt Kd.cell)).names (0 : Int))), C.int .i64 (addF z.snd.y0 (max (rd l (0 + (↑z.fst : Int).toNat) (KK.dflt Kd.cell)).bytes (0 : Int)))], V1.agg [C.int .i64 (addF (addF z.snd.x0 (max (rd
 l (0 + (↑z.fst : Int).toNat) (KK.dflt Kd.cell)).names (0 : Int))) ((0 : Int) - max (rd l (0 + (↑z.fst : Int).toNat) (KK.dflt Kd.cell)).hadN (0 : Int))), C.int .i64 (addF (addF z.snd.y0 (max (rd l (0 +
 (↑z.fst : Int).toNat) (KK.dflt Kd.cell)).bytes (0 : Int))) ((0 : Int) - max (rd l (0 + (↑z.fst : Int).toNat) (KK.dflt Kd.cell)).hadB (0 : Int)))]], VV.one (V1.agg [C.int .i64 (addF z.snd.x0 (max (rd l
 (0 + (↑z.fst : Int).toNat) (KK.dflt Kd.cell)).names (0 : Int))), C.int .i64 (addF z.snd.y0 (max (rd l (0 + (↑z.fst : Int).toNat) (KK.dflt Kd.cell)).bytes (0 : Int)))]), VV.one (V1.agg [C.int .i64 (addF
 (addF z.snd.x0 (max (rd l (0 + (↑z.fst : Int).toNat) (KK.dflt Kd.cell)).names (0 : Int))) ((0 : Int) - max (rd l (0 + (↑z.fst : Int).toNat) (KK.dflt Kd.cell)).hadN (0 : Int))), C.int .i64 (addF (addF z.snd.y0
 (max (rd l (0 + (↑z.fst : Int).toNat) (KK.dflt Kd.cell)).bytes (0 : Int))) ((0 : Int) - max (rd l (0 + (↑z.fst : Int).toNat) (KK.dflt Kd.cell)).hadB (0 : Int)))]), i64 (0 : Int), VV.one (V1.agg [C.int
 .i64 (addF (addF z.snd.x0 (max (rd l (0 + (↑z.fst : Int).toNat) (KK.dflt Kd.cell)).names (0 : Int))) ((0 : Int) - max (rd l (0 + (↑z.fst : Int).toNat) (KK.dflt Kd.cell)).hadN (0 : Int))), C.int .i64 (addF
 (addF z.snd.y0 (max (rd l (0 + (↑z.fst : Int).toNat) (KK.dflt Kd.cell)).bytes (0 : Int))) ((0 : Int) - max (rd l (0 + (↑z.fst : Int).toNat) (KK.dflt Kd.cell)).hadB (0 : Int)))]), VV.one (V1.c (C.ptr 5
 0 0)), i64 (0 : Int), i64 (0 : Int), i64 (0 : Int), VV.one (V1.c (C.ptr 4 0 2)), VV.one (V1.c (C.ptr 4 0 2)), VV.one (V1.c (C.ptr 4 0 2)), i64 z.snd.n0, VV.one (V1.c (C.ptr 11 0 0)), VV.one (V1.c (C.int
 .i64 (addF z.snd.x0 (max (rd l (0 + (↑z.fst : Int).toNat) (KK.dflt Kd.cell)).names (0 : Int))))), VV.one (V1.c (C.int .i64 (max z.snd.n0 (addF z.snd.x0 (max (rd l (0 + (↑z.fst : Int).toNat) (KK.dflt Kd.cell)).names
 (0 : Int)))))), i64 (0 : Int), VV.one (V1.c (C.ptr 4 0 2)), VV.one (V1.c (C.ptr 4 0 2)), VV.one (V1.c (C.ptr 4 0 3)), i64 z.snd.b0, VV.one (V1.c (C.ptr 11 0 1)), VV.one (V1.c (C.int .i64 (addF z.snd.y0
 (max (rd l (0 + (↑z.fst : Int).toNat) (KK.dflt Kd.cell)).bytes (0 : Int))))), VV.one (V1.c (C.int .i64 (max z.snd.b0 (addF z.snd.y0 (max (rd l (0 + (↑z.fst : Int).toNat) (KK.dflt Kd.cell)).bytes (0 : Int)))))),
 VV.one (V1.c (C.ptr 4 0 2)), VV.one (V1.c (C.ptr 4 0 2)), VV.one (V1.c (C.ptr 4 0 2)), VV.one (V1.c (C.ptr 4 0 2)), VV.one (V1.c (C.ptr 4 0 2)), VV.one (V1.c (C.ptr 4 0 3)), VV.one (V1.c (C.ptr 4 0 0)),
 VV.one (V1.c (C.slc 6 0 z.snd.items.length none)), VV.one (V1.agg [C.int .i64 ((↑z.snd.items.length : Int) + (1 : Int)), C.int .i64 (↑z.fst : Int), C.str (rd l (0 + (↑z.fst : Int).toNat) (KK.dflt Kd.cell)).path,
 C.int .i64 (rd l (0 + (↑z.fst : Int).toNat) (KK.dflt Kd.cell)).what, C.int .i64 (1 : Int), C.int .i64 (0 : Int), C.int .i64 (0 : Int)]), VV.one (V1.c (C.slc 13 0 1 none)), VV.one (V1.c (C.slc 14 0 (z.snd.items.length
 + 1) none)), VV.one (V1.c (C.ptr 4 0 0)), VV.one (V1.c (C.int .i64 ((↑z.fst : Int) + (1 : Int)))), VV.any] [Atom.ro Kd.cell l, Atom.cells (25 : TypeId) [C.slc 0 0 l.length none], Atom.cells (34 : TypeId)
 [C.nils, C.nils, C.int .i64 (0 : Int), C.int .i64 (0 : Int), C.int .i64 (0 : Int), C.int .i64 (0 : Int)], Atom.arr Kd.bool (leftOf l most), Atom.cells (34 : TypeId) [C.slc 14 0 (z.snd.items.length + 1)
 none, C.slc 7 0 z.snd.left.length none, C.int .i64 (max z.snd.n0 (addF z.snd.x0 (max (rd l (0 + (↑z.fst : Int).toNat) (KK.dflt Kd.cell)).names (0 : Int)))), C.int .i64 (max z.snd.b0 (addF z.snd.y0 (max
 (rd l (0 + (↑z.fst : Int).toNat) (KK.dflt Kd.cell)).bytes (0 : Int)))), C.int .i64 z.snd.n1, C.int .i64 z.snd.b1], Atom.cells (65 : TypeId) [C.int .i64 (addF (addF z.snd.x0 (max (rd l (0 + (↑z.fst : Int).toNat)
 (KK.dflt Kd.cell)).names (0 : Int))) ((0 : Int) - max (rd l (0 + (↑z.fst : Int).toNat) (KK.dflt Kd.cell)).hadN (0 : Int))), C.int .i64 (addF (addF z.snd.y0 (max (rd l (0 + (↑z.fst : Int).toNat) (KK.dflt
 Kd.cell)).bytes (0 : Int))) ((0 : Int) - max (rd l (0 + (↑z.fst : Int).toNat) (KK.dflt Kd.cell)).hadB (0 : Int))), C.int .i64 z.snd.x1, C.int .i64 z.snd.y1], Atom.gone, Atom.arr Kd.int z.snd.left, Atom.cells
 44 [C.str (rd l (0 + (↑z.fst : Int).toNat) (KK.dflt Kd.cell)).path, C.int .i64 (rd l (0 + (↑z.fst : Int).toNat) (KK.dflt Kd.cell)).what, C.int .i64 (rd l (0 + (↑z.fst : Int).toNat) (KK.dflt Kd.cell)).side,
 C.int .i64 (rd l (0 + (↑z.fst : Int).toNat) (KK.dflt Kd.cell)).mode, C.int .i64 (rd l (0 + (↑z.fst : Int).toNat) (KK.dflt Kd.cell)).keep, C.int .i64 (rd l (0 + (↑z.fst : Int).toNat) (KK.dflt Kd.cell)).take,
 C.int .i64 (rd l (0 + (↑z.fst : Int).toNat) (KK.dflt Kd.cell)).names, C.int .i64 (rd l (0 + (↑z.fst : Int).toNat) (KK.dflt Kd.cell)).bytes, C.int .i64 (rd l (0 + (↑z.fst : Int).toNat) (KK.dflt Kd.cell)).hadN,
 C.int .i64 (rd l (0 + (↑z.fst : Int).toNat) (KK.dflt Kd.cell)).hadB], Atom.arr Kd.int [(3 : Int), (2 : Int)], Atom.cells 42 [C.int .i64 ((↑z.snd.items.length : Int) + (1 : Int)), C.int .i64 (↑z.fst : Int),
 C.str (rd l (0 + (↑z.fst : Int).toNat) (KK.dflt Kd.cell)).path, C.int .i64 (rd l (0 + (↑z.fst : Int).toNat) (KK.dflt Kd.cell)).what, C.int .i64 (1 : Int), C.int .i64 (0 : Int), C.int .i64 (0 : Int)], Atom.cells
 31 [C.int .i64 (addF z.snd.x0 (max (rd l (0 + (↑z.fst : Int).toNat) (KK.dflt Kd.cell)).names (0 : Int))), C.int .i64 (addF z.snd.y0 (max (rd l (0 + (↑z.fst : Int).toNat) (KK.dflt Kd.cell)).bytes (0 : Int)))],
 Atom.cells 64 [C.int .i64 (addF (addF z.snd.x0 (max (rd l (0 + (↑z.fst : Int).toNat) (KK.dflt Kd.cell)).names (0 : Int))) ((0 : Int) - max (rd l (0 + (↑z.fst : Int).toNat) (KK.dflt Kd.cell)).hadN (0 :
 Int))), C.int .i64 (addF (addF z.snd.y0 (max (rd l (0 + (↑z.fst : Int).toNat) (KK.dflt Kd.cell)).bytes (0 : Int))) ((0 : Int) - max (rd l (0 + (↑z.fst : Int).toNat) (KK.dflt Kd.cell)).hadB (0 : Int)))],
 Atom.arr Kd.item [(Item.mk ((↑z.snd.items.length : Int) + (1 : Int)) ((↑z.fst : Int)) ((rd l (0 + (↑z.fst : Int).toNat) (KK.dflt Kd.cell)).path) ((rd l (0 + (↑z.fst : Int).toNat) (KK.dflt Kd.cell)).what)
 ((1 : Int)) ((0 : Int)) ((0 : Int)))], Atom.arr Kd.item (z.snd.items ++ [(Item.mk ((↑z.snd.items.length : Int) + (1 : Int)) ((↑z.fst : Int)) ((rd l (0 + (↑z.fst : Int).toNat) (KK.dflt Kd.cell)).path) ((rd
 l (0 + (↑z.fst : Int).toNat) (KK.dflt Kd.cell)).what) ((1 : Int)) ((0 : Int)) ((0 : Int)))])])) (ite2 (decide ((rd l (0 + (↑z.fst : Int).toNat) (KK.dflt Kd.cell)).what = (2 : Int))) (z.snd.items.length
 = z.snd.items.length ∧ (1 ≤ 1 ∧ True) ∧ (z.snd.items.length + 1) * 64 ≤ 140737488355328 ∧ i64ok ((↑z.fst : Int) + (1 : Int)) ∧ Enter 1 (inv_of l most) (fun (z' : Nat × PS) => l.length - z'.fst < l.length
 - z.fst) [VV.any, i64 most, VV.one (V1.c (C.ptr 1 0 0)), VV.any, VV.one (V1.c (C.ptr 2 0 0)), VV.one (V1.c (C.slc 3 0 l.length none)), VV.one (V1.c (C.ptr 4 0 0)), VV.one (V1.c (C.ptr 5 0 0)), i64 (↑z.fst
 : Int), VV.one (V1.c (C.ptr 8 0 0)), VV.one (V1.c (C.ptr 10 0 0)), VV.any, VV.any, VV.any, VV.any, VV.any, VV.any, VV.any, VV.any, VV.any, VV.any, VV.one (V1.c (C.slc 0 0 l.length none)), i64 (↑l.length
 : Int), i64 ((↑z.fst : Int) + (1 : Int)), boolv true, i64 (↑z.fst : Int), VV.one (V1.c (C.ptr 0 (0 + (↑z.fst : Int).toNat) 0)), VV.one (V1.agg [C.str (rd l (0 + (↑z.fst : Int).toNat) (KK.dflt Kd.cell)).path,
 C.int .i64 (rd l (0 + (↑z.fst : Int).toNat) (KK.dflt Kd.cell)).what, C.int .i64 (rd l (0 + (↑z.fst : Int).toNat) (KK.dflt Kd.cell)).side, C.int .i64 (rd l (0 + (↑z.fst : Int).toNat) (KK.dflt Kd.cell)).mode,
 C.int .i64 (rd l (0 + (↑z.fst : Int).toNat) (KK.dflt Kd.cell)).keep, C.int .i64 (rd l (0 + (↑z.fst : Int).toNat) (KK.dflt Kd.cell)).take, C.int .i64 (rd l (0 + (↑z.fst : Int).toNat) (KK.dflt Kd.cell)).names,
 C.int .i64 (rd l (0 + (↑z.fst : Int).toNat) (KK.dflt Kd.cell)).bytes, C.int .i64 (rd l (0 + (↑z.fst : Int).toNat) (KK.dflt Kd.cell)).hadN, C.int .i64 (rd l (0 + (↑z.fst : Int).toNat) (KK.dflt Kd.cell)).hadB]),
 VV.one (V1.c (C.slc 3 0 l.length none)), i64 (↑z.fst : Int), VV.one (V1.c (C.ptr 3 (0 + (↑z.fst : Int).toNat) 0)), boolv (rd (leftOf l most) (0 + (↑z.fst : Int).toNat) false), VV.any, VV.any, VV.any, VV.any,
 VV.any, VV.any, VV.one (V1.c (C.slc 9 0 2 none)), VV.one (V1.c (C.ptr 8 0 1)), VV.one (V1.c (C.int .i64 (rd l (0 + (↑z.fst : Int).toNat) (KK.dflt Kd.cell)).what)), VV.one (V1.c (C.bool (decide ((rd l (0
 + (↑z.fst : Int).toNat) (KK.dflt Kd.cell)).what ∈ [(3 : Int), (2 : Int)])))), boolv false, boolv false, VV.one (V1.c (C.ptr 8 0 2)), VV.one (V1.c (C.int .i64 (rd l (0 + (↑z.fst : Int).toNat) (KK.dflt Kd.cell)).side)),
 boolv true, boolv true, VV.one (V1.c (C.ptr 8 0 2)), VV.one (V1.c (C.int .i64 (rd l (0 + (↑z.fst : Int).toNat) (KK.dflt Kd.cell)).side)), boolv false, boolv false, boolv false, VV.one (V1.c (C.ptr 4 0
 0)), VV.one (V1.c (C.slc 6 0 z.snd.items.length none)), i64 (↑z.snd.items.length : Int), i64 ((↑z.snd.items.length : Int) + (1 : Int)), i64 (↑z.fst : Int), VV.one (V1.c (C.ptr 8 0 0)), VV.one (V1.c (C.str
 (rd l (0 + (↑z.fst : Int).toNat) (KK.dflt Kd.cell)).path)), VV.one (V1.c (C.ptr 8 0 1)), VV.one (V1.c (C.int .i64 (rd l (0 + (↑z.fst : Int).toNat) (KK.dflt Kd.cell)).what)), VV.one (V1.agg [C.int .i64
 ((↑z.snd.items.length : Int) + (1 : Int)), C.int .i64 (↑z.fst : Int), C.str (rd l (0 + (↑z.fst : Int).toNat) (KK.dflt Kd.cell)).path, C.int .i64 (rd l (0 + (↑z.fst : Int).toNat) (KK.dflt Kd.cell)).what,
 C.int .i64 (0 : Int), C.int .i64 (1 : Int), C.int .i64 (0 : Int)]), VV.one (V1.c (C.ptr 8 0 2)), VV.one (V1.c (C.int .i64 (rd l (0 + (↑z.fst : Int).toNat) (KK.dflt Kd.cell)).side)), boolv false, VV.any,
 VV.any, VV.one (V1.c (C.ptr 8 0 1)), VV.one (V1.c (C.int .i64 (rd l (0 + (↑z.fst : Int).toNat) (KK.dflt Kd.cell)).what)), boolv true, VV.one (V1.c (C.ptr 8 0 3)), VV.one (V1.c (C.int .i64 (rd l (0 + (↑z.fst
 : Int).toNat) (KK.dflt Kd.cell)).mode)), VV.one (V1.c (C.ptr 10 0 6)), VV.any, VV.any, VV.any, VV.any, VV.any, VV.any, VV.any, VV.any, VV.any, VV.any, VV.any, VV.any, VV.any, VV.any, VV.any, VV.any, VV.any,
 VV.any, VV.any, VV.any, VV.any, VV.any, VV.any, VV.any, VV.any, VV.any, VV.any, VV.any, VV.any, VV.any, VV.any, VV.any, VV.any, VV.any, VV.any, VV.any, VV.any, VV.one (V1.c (C.ptr 4 0 0)), VV.one (V1.c
 (C.slc 6 0 z.snd.items.length none)), VV.one (V1.agg [C.int .i64 ((↑z.snd.items.length : Int) + (1 : Int)), C.int .i64 (↑z.fst : Int), C.str (rd l (0 + (↑z.fst : Int).toNat) (KK.dflt Kd.cell)).path, C.int
 .i64 (rd l (0 + (↑z.fst : Int).toNat) (KK.dflt Kd.cell)).what, C.int .i64 (0 : Int), C.int .i64 (1 : Int), C.int .i64 (rd l (0 + (↑z.fst : Int).toNat) (KK.dflt Kd.cell)).mode]), VV.one (V1.c (C.slc 11
 0 1 none)), VV.one (V1.c (C.slc 12 0 (z.snd.items.length + 1) none)), VV.one (V1.c (C.ptr 4 0 0)), i64 ((↑z.fst : Int) + (1 : Int)), VV.any] [Atom.ro Kd.cell l, Atom.cells (25 : TypeId) [C.slc 0 0 l.length
 none], Atom.cells (34 : TypeId) [C.nils, C.nils, C.int .i64 (0 : Int), C.int .i64 (0 : Int), C.int .i64 (0 : Int), C.int .i64 (0 : Int)], Atom.arr Kd.bool (leftOf l most), Atom.cells (34 : TypeId) [C.slc
 12 0 (z.snd.items.length + 1) none, C.slc 7 0 z.snd.left.length none, C.int .i64 z.snd.n0, C.int .i64 z.snd.b0, C.int .i64 z.snd.n1, C.int .i64 z.snd.b1], Atom.cells (65 : TypeId) [C.int .i64 z.snd.x0,
 C.int .i64 z.snd.y0, C.int .i64 z.snd.x1, C.int .i64 z.snd.y1], Atom.gone, Atom.arr Kd.int z.snd.left, Atom.cells 44 [C.str (rd l (0 + (↑z.fst : Int).toNat) (KK.dflt Kd.cell)).path, C.int .i64 (rd l (0
 + (↑z.fst : Int).toNat) (KK.dflt Kd.cell)).what, C.int .i64 (rd l (0 + (↑z.fst : Int).toNat) (KK.dflt Kd.cell)).side, C.int .i64 (rd l (0 + (↑z.fst : Int).toNat) (KK.dflt Kd.cell)).mode, C.int .i64 (rd
 l (0 + (↑z.fst : Int).toNat) (KK.dflt Kd.cell)).keep, C.int .i64 (rd l (0 + (↑z.fst : Int).toNat) (KK.dflt Kd.cell)).take, C.int .i64 (rd l (0 + (↑z.fst : Int).toNat) (KK.dflt Kd.cell)).names, C.int .i64
 (rd l (0 + (↑z.fst : Int).toNat) (KK.dflt Kd.cell)).bytes, C.int .i64 (rd l (0 + (↑z.fst : Int).toNat) (KK.dflt Kd.cell)).hadN, C.int .i64 (rd l (0 + (↑z.fst : Int).toNat) (KK.dflt Kd.cell)).hadB], Atom.arr
 Kd.int [(3 : Int), (2 : Int)], Atom.cells 42 [C.int .i64 ((↑z.snd.items.length : Int) + (1 : Int)), C.int .i64 (↑z.fst : Int), C.str (rd l (0 + (↑z.fst : Int).toNat) (KK.dflt Kd.cell)).path, C.int .i64
 (rd l (0 + (↑z.fst : Int).toNat) (KK.dflt Kd.cell)).what, C.int .i64 (0 : Int), C.int .i64 (1 : Int), C.int .i64 (rd l (0 + (↑z.fst : Int).toNat) (KK.dflt Kd.cell)).mode], Atom.arr Kd.item [(Item.mk ((↑z.snd.items.length
 : Int) + (1 : Int)) ((↑z.fst : Int)) ((rd l (0 + (↑z.fst : Int).toNat) (KK.dflt Kd.cell)).path) ((rd l (0 + (↑z.fst : Int).toNat) (KK.dflt Kd.cell)).what) ((0 : Int)) ((1 : Int)) ((rd l (0 + (↑z.fst :
 Int).toNat) (KK.dflt Kd.cell)).mode))], Atom.arr Kd.item (z.snd.items ++ [(Item.mk ((↑z.snd.items.length : Int) + (1 : Int)) ((↑z.fst : Int)) ((rd l (0 + (↑z.fst : Int).toNat) (KK.dflt Kd.cell)).path)
 ((rd l (0 + (↑z.fst : Int).toNat) (KK.dflt Kd.cell)).what) ((0 : Int)) ((1 : Int)) ((rd l (0 + (↑z.fst : Int).toNat) (KK.dflt Kd.cell)).mode))])]) (((0 : Int) ≤ (1 : Int) ∧ (1 : Int) < (2 : Int)) ∧ True
 ∧ (i64ok z.snd.x1 ∧ i64ok z.snd.y1 ∧ (Cell.mk ((rd l (0 + (↑z.fst : Int).toNat) (KK.dflt Kd.cell)).path) ((rd l (0 + (↑z.fst : Int).toNat) (KK.dflt Kd.cell)).what) ((rd l (0 + (↑z.fst : Int).toNat) (KK.dflt
 Kd.cell)).side) ((rd l (0 + (↑z.fst : Int).toNat) (KK.dflt Kd.cell)).mode) ((rd l (0 + (↑z.fst : Int).toNat) (KK.dflt Kd.cell)).keep) ((rd l (0 + (↑z.fst : Int).toNat) (KK.dflt Kd.cell)).take) ((rd l (0
 + (↑z.fst : Int).toNat) (KK.dflt Kd.cell)).names) ((rd l (0 + (↑z.fst : Int).toNat) (KK.dflt Kd.cell)).bytes) ((rd l (0 + (↑z.fst : Int).toNat) (KK.dflt Kd.cell)).hadN) ((rd l (0 + (↑z.fst : Int).toNat)
 (KK.dflt Kd.cell)).hadB)).Ok) ∧ Into (K := KK) 0 [] [] [VV.one (V1.agg [C.int .i64 z.snd.x1, C.int .i64 z.snd.y1]), VV.one (V1.agg [C.str (rd l (0 + (↑z.fst : Int).toNat) (KK.dflt Kd.cell)).path, C.int
 .i64 (rd l (0 + (↑z.fst : Int).toNat) (KK.dflt Kd.cell)).what, C.int .i64 (rd l (0 + (↑z.fst : Int).toNat) (KK.dflt Kd.cell)).side, C.int .i64 (rd l (0 + (↑z.fst : Int).toNat) (KK.dflt Kd.cell)).mode,
 C.int .i64 (rd l (0 + (↑z.fst : Int).toNat) (KK.dflt Kd.cell)).keep, C.int .i64 (rd l (0 + (↑z.fst : Int).toNat) (KK.dflt Kd.cell)).take, C.int .i64 (rd l (0 + (↑z.fst : Int).toNat) (KK.dflt Kd.cell)).names,
 C.int .i64 (rd l (0 + (↑z.fst : Int).toNat) (KK.dflt Kd.cell)).bytes, C.int .i64 (rd l (0 + (↑z.fst : Int).toNat) (KK.dflt Kd.cell)).hadN, C.int .i64 (rd l (0 + (↑z.fst : Int).toNat) (KK.dflt Kd.cell)).hadB])]
 [Atom.ro Kd.cell l, Atom.cells (25 : TypeId) [C.slc 0 0 l.length none], Atom.cells (34 : TypeId) [C.nils, C.nils, C.int .i64 (0 : Int), C.int .i64 (0 : Int), C.int .i64 (0 : Int), C.int .i64 (0 : Int)],
 Atom.arr Kd.bool (leftOf l most), Atom.cells (34 : TypeId) [C.slc 6 0 z.snd.items.length none, C.slc 7 0 z.snd.left.length none, C.int .i64 z.snd.n0, C.int .i64 z.snd.b0, C.int .i64 z.snd.n1, C.int .i64
 z.snd.b1], Atom.cells (65 : TypeId) [C.int .i64 z.snd.x0, C.int .i64 z.snd.y0, C.int .i64 z.snd.x1, C.int .i64 z.snd.y1], Atom.arr Kd.item z.snd.items, Atom.arr Kd.int z.snd.left, Atom.cells 44 [C.str
 (rd l (0 + (↑z.fst : Int).toNat) (KK.dflt Kd.cell)).path, C.int .i64 (rd l (0 + (↑z.fst : Int).toNat) (KK.dflt Kd.cell)).what, C.int .i64 (rd l (0 + (↑z.fst : Int).toNat) (KK.dflt Kd.cell)).side, C.int
 .i64 (rd l (0 + (↑z.fst : Int).toNat) (KK.dflt Kd.cell)).mode, C.int .i64 (rd l (0 + (↑z.fst : Int).toNat) (KK.dflt Kd.cell)).keep, C.int .i64 (rd l (0 + (↑z.fst : Int).toNat) (KK.dflt Kd.cell)).take,
 C.int .i64 (rd l (0 + (↑z.fst : Int).toNat) (KK.dflt Kd.cell)).names, C.int .i64 (rd l (0 + (↑z.fst : Int).toNat) (KK.dflt Kd.cell)).bytes, C.int .i64 (rd l (0 + (↑z.fst : Int).toNat) (KK.dflt Kd.cell)).hadN,
 C.int .i64 (rd l (0 + (↑z.fst : Int).toNat) (KK.dflt Kd.cell)).hadB], Atom.arr Kd.int [(3 : Int), (2 : Int)], Atom.cells 42 [C.int .i64 ((↑z.snd.items.length : Int) + (1 : Int)), C.int .i64 (↑z.fst : Int),
 C.str (rd l (0 + (↑z.fst : Int).toNat) (KK.dflt Kd.cell)).path, C.int .i64 (rd l (0 + (↑z.fst : Int).toNat) (KK.dflt Kd.cell)).what, C.int .i64 (0 : Int), C.int .i64 (1 : Int), C.int .i64 (0 : Int)], Atom.gone,
 Atom.gone] [VV.one (V1.agg [C.int .i64 z.snd.x1, C.int .i64 z.snd.y1]), VV.one (V1.agg [C.str (rd l (0 + (↑z.fst : Int).toNat) (KK.dflt Kd.cell)).path, C.int .i64 (rd l (0 + (↑z.fst : Int).toNat) (KK.dflt
 Kd.cell)).what, C.int .i64 (rd l (0 + (↑z.fst : Int).toNat) (KK.dflt Kd.cell)).side, C.int .i64 (rd l (0 + (↑z.fst : Int).toNat) (KK.dflt Kd.cell)).mode, C.int .i64 (rd l (0 + (↑z.fst : Int).toNat) (KK.dflt
 Kd.cell)).keep, C.int .i64 (rd l (0 + (↑z.fst : Int).toNat) (KK.dflt Kd.cell)).take, C.int .i64 (rd l (0 + (↑z.fst : Int).toNat) (KK.dflt Kd.cell)).names, C.int .i64 (rd l (0 + (↑z.fst : Int).toNat) (KK.dflt
 Kd.cell)).bytes, C.int .i64 (rd l (0 + (↑z.fst : Int).toNat) (KK.dflt Kd.cell)).hadN, C.int .i64 (rd l (0 + (↑z.fst : Int).toNat) (KK.dflt Kd.cell)).hadB])] [] ∧ ∀ (y : Unit), True → True ∧ True ∧ True
 ∧ ((0 : Int) ≤ (1 : Int) ∧ (1 : Int) < (2 : Int)) ∧ ((0 : Int) ≤ (1 : Int) ∧ (1 : Int) < (2 : Int)) ∧ ((0 : Int) ≤ (1 : Int) ∧ (1 : Int) < (2 : Int)) ∧ ((0 : Int) ≤ (1 : Int) ∧ (1 : Int) < (2 : Int)) ∧
 True ∧ ((0 : Int) ≤ (1 : Int) ∧ (1 : Int) < (2 : Int)) ∧ (VV.one (V1.c (C.int .i64 (addF z.snd.y1 (max (rd l (0 + (↑z.fst : Int).toNat) (KK.dflt Kd.cell)).bytes (0 : Int))))) = VV.one (V1.c (C.int .i64
 (addF z.snd.y1 (max (rd l (0 + (↑z.fst : Int).toNat) (KK.dflt Kd.cell)).bytes (0 : Int))))) ∧ True) ∧ True ∧ z.snd.items.length = z.snd.items.length ∧ (1 ≤ 1 ∧ True) ∧ (z.snd.items.length + 1) * 64 ≤ 140737488355328
 ∧ i64ok ((↑z.fst : Int) + (1 : Int)) ∧ Enter 1 (inv_of l most) (fun (z' : Nat × PS) => l.length - z'.fst < l.length - z.fst) [VV.any, i64 most, VV.one (V1.c (C.ptr 1 0 0)), VV.any, VV.one (V1.c (C.ptr
 2 0 0)), VV.one (V1.c (C.slc 3 0 l.length none)), VV.one (V1.c (C.ptr 4 0 0)), VV.one (V1.c (C.ptr 5 0 0)), i64 (↑z.fst : Int), VV.one (V1.c (C.ptr 8 0 0)), VV.one (V1.c (C.ptr 10 0 0)), i64 (1 : Int),
 VV.one (V1.c (C.ptr 11 0 0)), VV.one (V1.c (C.ptr 12 0 0)), VV.any, VV.any, VV.any, VV.any, VV.any, VV.any, VV.any, VV.one (V1.c (C.slc 0 0 l.length none)), i64 (↑l.length : Int), VV.one (V1.c (C.int .i64
 ((↑z.fst : Int) + (1 : Int)))), boolv true, i64 (↑z.fst : Int), VV.one (V1.c (C.ptr 0 (0 + (↑z.fst : Int).toNat) 0)), VV.one (V1.agg [C.str (rd l (0 + (↑z.fst : Int).toNat) (KK.dflt Kd.cell)).path, C.int
 .i64 (rd l (0 + (↑z.fst : Int).toNat) (KK.dflt Kd.cell)).what, C.int .i64 (rd l (0 + (↑z.fst : Int).toNat) (KK.dflt Kd.cell)).side, C.int .i64 (rd l (0 + (↑z.fst : Int).toNat) (KK.dflt Kd.cell)).mode,
 C.int .i64 (rd l (0 + (↑z.fst : Int).toNat) (KK.dflt Kd.cell)).keep, C.int .i64 (rd l (0 + (↑z.fst : Int).toNat) (KK.dflt Kd.cell)).take, C.int .i64 (rd l (0 + (↑z.fst : Int).toNat) (KK.dflt Kd.cell)).names,
 C.int .i64 (rd l (0 + (↑z.fst : Int).toNat) (KK.dflt Kd.cell)).bytes, C.int .i64 (rd l (0 + (↑z.fst : Int).toNat) (KK.dflt Kd.cell)).hadN, C.int .i64 (rd l (0 + (↑z.fst : Int).toNat) (KK.dflt Kd.cell)).hadB]),
 VV.one (V1.c (C.slc 3 0 l.length none)), i64 (↑z.fst : Int), VV.one (V1.c (C.ptr 3 (0 + (↑z.fst : Int).toNat) 0)), VV.one (V1.c (C.bool (rd (leftOf l most) (0 + (↑z.fst : Int).toNat) false))), VV.any,
 VV.any, VV.any, VV.any, VV.any, VV.any, VV.one (V1.c (C.slc 9 0 2 none)), VV.one (V1.c (C.ptr 8 0 1)), VV.one (V1.c (C.int .i64 (rd l (0 + (↑z.fst : Int).toNat) (KK.dflt Kd.cell)).what)), VV.one (V1.c
 (C.bool (decide ((rd l (0 + (↑z.fst : Int).toNat) (KK.dflt Kd.cell)).what ∈ [(3 : Int), (2 : Int)])))), boolv false, boolv false, VV.one (V1.c (C.ptr 8 0 2)), VV.one (V1.c (C.int .i64 (rd l (0 + (↑z.fst
 : Int).toNat) (KK.dflt Kd.cell)).side)), boolv true, boolv true, VV.one (V1.c (C.ptr 8 0 2)), VV.one (V1.c (C.int .i64 (rd l (0 + (↑z.fst : Int).toNat) (KK.dflt Kd.cell)).side)), boolv false, boolv false,
 boolv false, VV.one (V1.c (C.ptr 4 0 0)), VV.one (V1.c (C.slc 6 0 z.snd.items.length none)), VV.one (V1.c (C.int .i64 (↑z.snd.items.length : Int))), VV.one (V1.c (C.int .i64 ((↑z.snd.items.length : Int)
 + (1 : Int)))), i64 (↑z.fst : Int), VV.one (V1.c (C.ptr 8 0 0)), VV.one (V1.c (C.str (rd l (0 + (↑z.fst : Int).toNat) (KK.dflt Kd.cell)).path)), VV.one (V1.c (C.ptr 8 0 1)), VV.one (V1.c (C.int .i64 (rd
 l (0 + (↑z.fst : Int).toNat) (KK.dflt Kd.cell)).what)), VV.one (V1.agg [C.int .i64 ((↑z.snd.items.length : Int) + (1 : Int)), C.int .i64 (↑z.fst : Int), C.str (rd l (0 + (↑z.fst : Int).toNat) (KK.dflt
 Kd.cell)).path, C.int .i64 (rd l (0 + (↑z.fst : Int).toNat) (KK.dflt Kd.cell)).what, C.int .i64 (0 : Int), C.int .i64 (1 : Int), C.int .i64 (0 : Int)]), VV.one (V1.c (C.ptr 8 0 2)), VV.one (V1.c (C.int
 .i64 (rd l (0 + (↑z.fst : Int).toNat) (KK.dflt Kd.cell)).side)), boolv false, VV.any, VV.any, VV.one (V1.c (C.ptr 8 0 1)), VV.one (V1.c (C.int .i64 (rd l (0 + (↑z.fst : Int).toNat) (KK.dflt Kd.cell)).what)),
 boolv false, VV.any, VV.any, VV.any, VV.one (V1.c (C.ptr 10 0 5)), i64 (1 : Int), VV.tup [V1.agg [C.int .i64 (addF z.snd.x1 (max (rd l (0 + (↑z.fst : Int).toNat) (KK.dflt Kd.cell)).names (0 : Int))), C.int
 .i64 (addF z.snd.y1 (max (rd l (0 + (↑z.fst : Int).toNat) (KK.dflt Kd.cell)).bytes (0 : Int)))], V1.agg [C.int .i64 (addF (addF z.snd.x1 (max (rd l (0 + (↑z.fst : Int).toNat) (KK.dflt Kd.cell)).names (0
 : Int))) ((0 : Int) - max (rd l (0 + (↑z.fst : Int).toNat) (KK.dflt Kd.cell)).hadN (0 : Int))), C.int .i64 (addF (addF z.snd.y1 (max (rd l (0 + (↑z.fst : Int).toNat) (KK.dflt Kd.cell)).bytes (0 : Int)))
 ((0 : Int) - max (rd l (0 + (↑z.fst : Int).toNat) (KK.dflt Kd.cell)).hadB (0 : Int)))]], i64 (1 : Int), VV.one (V1.c (C.ptr 5 0 2)), VV.one (V1.agg [C.int .i64 z.snd.x1, C.int .i64 z.snd.y1]), VV.one (V1.agg
 [C.str (rd l (0 + (↑z.fst : Int).toNat) (KK.dflt Kd.cell)).path, C.int .i64 (rd l (0 + (↑z.fst : Int).toNat) (KK.dflt Kd.cell)).what, C.int .i64 (rd l (0 + (↑z.fst : Int).toNat) (KK.dflt Kd.cell)).side,
 C.int .i64 (rd l (0 + (↑z.fst : Int).toNat) (KK.dflt Kd.cell)).mode, C.int .i64 (rd l (0 + (↑z.fst : Int).toNat) (KK.dflt Kd.cell)).keep, C.int .i64 (rd l (0 + (↑z.fst : Int).toNat) (KK.dflt Kd.cell)).take,
 C.int .i64 (rd l (0 + (↑z.fst : Int).toNat) (KK.dflt Kd.cell)).names, C.int .i64 (rd l (0 + (↑z.fst : Int).toNat) (KK.dflt Kd.cell)).bytes, C.int .i64 (rd l (0 + (↑z.fst : Int).toNat) (KK.dflt Kd.cell)).hadN,
 C.int .i64 (rd l (0 + (↑z.fst : Int).toNat) (KK.dflt Kd.cell)).hadB]), VV.tup [V1.agg [C.int .i64 (addF z.snd.x1 (max (rd l (0 + (↑z.fst : Int).toNat) (KK.dflt Kd.cell)).names (0 : Int))), C.int .i64 (addF
 z.snd.y1 (max (rd l (0 + (↑z.fst : Int).toNat) (KK.dflt Kd.cell)).bytes (0 : Int)))], V1.agg [C.int .i64 (addF (addF z.snd.x1 (max (rd l (0 + (↑z.fst : Int).toNat) (KK.dflt Kd.cell)).names (0 : Int)))
 ((0 : Int) - max (rd l (0 + (↑z.fst : Int).toNat) (KK.dflt Kd.cell)).hadN (0 : Int))), C.int .i64 (addF (addF z.snd.y1 (max (rd l (0 + (↑z.fst : Int).toNat) (KK.dflt Kd.cell)).bytes (0 : Int))) ((0 : Int)
 - max (rd l (0 + (↑z.fst : Int).toNat) (KK.dflt Kd.cell)).hadB (0 : Int)))]], VV.one (V1.agg [C.int .i64 (addF z.snd.x1 (max (rd l (0 + (↑z.fst : Int).toNat) (KK.dflt Kd.cell)).names (0 : Int))), C.int
 .i64 (addF z.snd.y1 (max (rd l (0 + (↑z.fst : Int).toNat) (KK.dflt Kd.cell)).bytes (0 : Int)))]), VV.one (V1.agg [C.int .i64 (addF (addF z.snd.x1 (max (rd l (0 + (↑z.fst : Int).toNat) (KK.dflt Kd.cell)).names
 (0 : Int))) ((0 : Int) - max (rd l (0 + (↑z.fst : Int).toNat) (KK.dflt Kd.cell)).hadN (0 : Int))), C.int .i64 (addF (addF z.snd.y1 (max (rd l (0 + (↑z.fst : Int).toNat) (KK.dflt Kd.cell)).bytes (0 : Int)))
 ((0 : Int) - max (rd l (0 + (↑z.fst : Int).toNat) (KK.dflt Kd.cell)).hadB (0 : Int)))]), i64 (1 : Int), VV.one (V1.agg [C.int .i64 (addF (addF z.snd.x1 (max (rd l (0 + (↑z.fst : Int).toNat) (KK.dflt Kd.cell)).names
 (0 : Int))) ((0 : Int) - max (rd l (0 + (↑z.fst : Int).toNat) (KK.dflt Kd.cell)).hadN (0 : Int))), C.int .i64 (addF (addF z.snd.y1 (max (rd l (0 + (↑z.fst : Int).toNat) (KK.dflt Kd.cell)).bytes (0 : Int)))
 ((0 : Int) - max (rd l (0 + (↑z.fst : Int).toNat) (KK.dflt Kd.cell)).hadB (0 : Int)))]), VV.one (V1.c (C.ptr 5 0 2)), i64 (1 : Int), i64 (1 : Int), i64 (1 : Int), VV.one (V1.c (C.ptr 4 0 2)), VV.one (V1.c
 (C.ptr 4 0 4)), VV.one (V1.c (C.ptr 4 0 4)), i64 z.snd.n1, VV.one (V1.c (C.ptr 11 0 0)), VV.one (V1.c (C.int .i64 (addF z.snd.x1 (max (rd l (0 + (↑z.fst : Int).toNat) (KK.dflt Kd.cell)).names (0 : Int))))),
 VV.one (V1.c (C.int .i64 (max z.snd.n1 (addF z.snd.x1 (max (rd l (0 + (↑z.fst : Int).toNat) (KK.dflt Kd.cell)).names (0 : Int)))))), i64 (1 : Int), VV.one (V1.c (C.ptr 4 0 2)), VV.one (V1.c (C.ptr 4 0
 4)), VV.one (V1.c (C.ptr 4 0 5)), i64 z.snd.b1, VV.one (V1.c (C.ptr 11 0 1)), VV.one (V1.c (C.int .i64 (addF z.snd.y1 (max (rd l (0 + (↑z.fst : Int).toNat) (KK.dflt Kd.cell)).bytes (0 : Int))))), VV.one
 (V1.c (C.int .i64 (max z.snd.b1 (addF z.snd.y1 (max (rd l (0 + (↑z.fst : Int).toNat) (KK.dflt Kd.cell)).bytes (0 : Int)))))), VV.one (V1.c (C.ptr 4 0 2)), VV.one (V1.c (C.ptr 4 0 4)), VV.one (V1.c (C.ptr
 4 0 4)), VV.one (V1.c (C.ptr 4 0 2)), VV.one (V1.c (C.ptr 4 0 4)), VV.one (V1.c (C.ptr 4 0 5)), VV.one (V1.c (C.ptr 4 0 0)), VV.one (V1.c (C.slc 6 0 z.snd.items.length none)), VV.one (V1.agg [C.int .i64
 ((↑z.snd.items.length : Int) + (1 : Int)), C.int .i64 (↑z.fst : Int), C.str (rd l (0 + (↑z.fst : Int).toNat) (KK.dflt Kd.cell)).path, C.int .i64 (rd l (0 + (↑z.fst : Int).toNat) (KK.dflt Kd.cell)).what,
 C.int .i64 (0 : Int), C.int .i64 (1 : Int), C.int .i64 (0 : Int)]), VV.one (V1.c (C.slc 13 0 1 none)), VV.one (V1.c (C.slc 14 0 (z.snd.items.length + 1) none)), VV.one (V1.c (C.ptr 4 0 0)), VV.one (V1.c
 (C.int .i64 ((↑z.fst : Int) + (1 : Int)))), VV.any] [Atom.ro Kd.cell l, Atom.cells (25 : TypeId) [C.slc 0 0 l.length none], Atom.cells (34 : TypeId) [C.nils, C.nils, C.int .i64 (0 : Int), C.int .i64 (0
 : Int), C.int .i64 (0 : Int), C.int .i64 (0 : Int)], Atom.arr Kd.bool (leftOf l most), Atom.cells (34 : TypeId) [C.slc 14 0 (z.snd.items.length + 1) none, C.slc 7 0 z.snd.left.length none, C.int .i64 z.snd.n0,
 C.int .i64 z.snd.b0, C.int .i64 (max z.snd.n1 (addF z.snd.x1 (max (rd l (0 + (↑z.fst : Int).toNat) (KK.dflt Kd.cell)).names (0 : Int)))), C.int .i64 (max z.snd.b1 (addF z.snd.y1 (max (rd l (0 + (↑z.fst
 : Int).toNat) (KK.dflt Kd.cell)).bytes (0 : Int))))], Atom.cells (65 : TypeId) [C.int .i64 z.snd.x0, C.int .i64 z.snd.y0, C.int .i64 (addF (addF z.snd.x1 (max (rd l (0 + (↑z.fst : Int).toNat) (KK.dflt
 Kd.cell)).names (0 : Int))) ((0 : Int) - max (rd l (0 + (↑z.fst : Int).toNat) (KK.dflt Kd.cell)).hadN (0 : Int))), C.int .i64 (addF (addF z.snd.y1 (max (rd l (0 + (↑z.fst : Int).toNat) (KK.dflt Kd.cell)).bytes
 (0 : Int))) ((0 : Int) - max (rd l (0 + (↑z.fst : Int).toNat) (KK.dflt Kd.cell)).hadB (0 : Int)))], Atom.gone, Atom.arr Kd.int z.snd.left, Atom.cells 44 [C.str (rd l (0 + (↑z.fst : Int).toNat) (KK.dflt
 Kd.cell)).path, C.int .i64 (rd l (0 + (↑z.fst : Int).toNat) (KK.dflt Kd.cell)).what, C.int .i64 (rd l (0 + (↑z.fst : Int).toNat) (KK.dflt Kd.cell)).side, C.int .i64 (rd l (0 + (↑z.fst : Int).toNat) (KK.dflt
 Kd.cell)).mode, C.int .i64 (rd l (0 + (↑z.fst : Int).toNat) (KK.dflt Kd.cell)).keep, C.int .i64 (rd l (0 + (↑z.fst : Int).toNat) (KK.dflt Kd.cell)).take, C.int .i64 (rd l (0 + (↑z.fst : Int).toNat) (KK.dflt
 Kd.cell)).names, C.int .i64 (rd l (0 + (↑z.fst : Int).toNat) (KK.dflt Kd.cell)).bytes, C.int .i64 (rd l (0 + (↑z.fst : Int).toNat) (KK.dflt Kd.cell)).hadN, C.int .i64 (rd l (0 + (↑z.fst : Int).toNat) (KK.dflt
 Kd.cell)).hadB], Atom.arr Kd.int [(3 : Int), (2 : Int)], Atom.cells 42 [C.int .i64 ((↑z.snd.items.length : Int) + (1 : Int)), C.int .i64 (↑z.fst : Int), C.str (rd l (0 + (↑z.fst : Int).toNat) (KK.dflt
 Kd.cell)).path, C.int .i64 (rd l (0 + (↑z.fst : Int).toNat) (KK.dflt Kd.cell)).what, C.int .i64 (0 : Int), C.int .i64 (1 : Int), C.int .i64 (0 : Int)], Atom.cells 31 [C.int .i64 (addF z.snd.x1 (max (rd
 l (0 + (↑z.fst : Int).toNat) (KK.dflt Kd.cell)).names (0 : Int))), C.int .i64 (addF z.snd.y1 (max (rd l (0 + (↑z.fst : Int).toNat) (KK.dflt Kd.cell)).bytes (0 : Int)))], Atom.cells 64 [C.int .i64 (addF
 (addF z.snd.x1 (max (rd l (0 + (↑z.fst : Int).toNat) (KK.dflt Kd.cell)).names (0 : Int))) ((0 : Int) - max (rd l (0 + (↑z.fst : Int).toNat) (KK.dflt Kd.cell)).hadN (0 : Int))), C.int .i64 (addF (addF z.snd.y1
 (max (rd l (0 + (↑z.fst : Int).toNat) (KK.dflt Kd.cell)).bytes (0 : Int))) ((0 : Int) - max (rd l (0 + (↑z.fst : Int).toNat) (KK.dflt Kd.cell)).hadB (0 : Int)))], Atom.arr Kd.item [(Item.mk ((↑z.snd.items.length
 : Int) + (1 : Int)) ((↑z.fst : Int)) ((rd l (0 + (↑z.fst : Int).toNat) (KK.dflt Kd.cell)).path) ((rd l (0 + (↑z.fst : Int).toNat) (KK.dflt Kd.cell)).what) ((0 : Int)) ((1 : Int)) ((0 : Int)))], Atom.arr
 Kd.item (z.snd.items ++ [(Item.mk ((↑z.snd.items.length : Int) + (1 : Int)) ((↑z.fst : Int)) ((rd l (0 + (↑z.fst : Int).toNat) (KK.dflt Kd.cell)).path) ((rd l (0 + (↑z.fst : Int).toNat) (KK.dflt Kd.cell)).what)
 ((0 : Int)) ((1 : Int)) ((0 : Int)))])]))) (i64ok ((↑z.fst : Int) + (1 : Int)) ∧ Enter 1 (inv_of l most) (fun (z' : Nat × PS) => l.length - z'.fst < l.length - z.fst) [VV.any, i64 most, VV.one (V1.c (C.ptr
 1 0 0)), VV.any, VV.one (V1.c (C.ptr 2 0 0)), VV.one (V1.c (C.slc 3 0 l.length none)), VV.one (V1.c (C.ptr 4 0 0)), VV.one (V1.c (C.ptr 5 0 0)), i64 (↑z.fst : Int), VV.one (V1.c (C.ptr 8 0 0)), VV.any,
 VV.any, VV.any, VV.any, VV.any, VV.any, VV.any, VV.any, VV.any, VV.any, VV.any, VV.one (V1.c (C.slc 0 0 l.length none)), i64 (↑l.length : Int), i64 ((↑z.fst : Int) + (1 : Int)), boolv true, i64 (↑z.fst
 : Int), VV.one (V1.c (C.ptr 0 (0 + (↑z.fst : Int).toNat) 0)), VV.one (V1.agg [C.str (rd l (0 + (↑z.fst : Int).toNat) (KK.dflt Kd.cell)).path, C.int .i64 (rd l (0 + (↑z.fst : Int).toNat) (KK.dflt Kd.cell)).what,
 C.int .i64 (rd l (0 + (↑z.fst : Int).toNat) (KK.dflt Kd.cell)).side, C.int .i64 (rd l (0 + (↑z.fst : Int).toNat) (KK.dflt Kd.cell)).mode, C.int .i64 (rd l (0 + (↑z.fst : Int).toNat) (KK.dflt Kd.cell)).keep,
 C.int .i64 (rd l (0 + (↑z.fst : Int).toNat) (KK.dflt Kd.cell)).take, C.int .i64 (rd l (0 + (↑z.fst : Int).toNat) (KK.dflt Kd.cell)).names, C.int .i64 (rd l (0 + (↑z.fst : Int).toNat) (KK.dflt Kd.cell)).bytes,
 C.int .i64 (rd l (0 + (↑z.fst : Int).toNat) (KK.dflt Kd.cell)).hadN, C.int .i64 (rd l (0 + (↑z.fst : Int).toNat) (KK.dflt Kd.cell)).hadB]), VV.one (V1.c (C.slc 3 0 l.length none)), i64 (↑z.fst : Int),
 VV.one (V1.c (C.ptr 3 (0 + (↑z.fst : Int).toNat) 0)), boolv (rd (leftOf l most) (0 + (↑z.fst : Int).toNat) false), VV.any, VV.any, VV.any, VV.any, VV.any, VV.any, VV.one (V1.c (C.slc 9 0 2 none)), VV.one
 (V1.c (C.ptr 8 0 1)), i64 (rd l (0 + (↑z.fst : Int).toNat) (KK.dflt Kd.cell)).what, VV.one (V1.c (C.bool (decide ((rd l (0 + (↑z.fst : Int).toNat) (KK.dflt Kd.cell)).what ∈ [(3 : Int), (2 : Int)])))),
 boolv false, boolv false, VV.one (V1.c (C.ptr 8 0 2)), i64 (rd l (0 + (↑z.fst : Int).toNat) (KK.dflt Kd.cell)).side, boolv true, boolv true, VV.one (V1.c (C.ptr 8 0 2)), i64 (rd l (0 + (↑z.fst : Int).toNat)
 (KK.dflt Kd.cell)).side, boolv true, boolv true, boolv true, VV.any, VV.any, VV.any, VV.any, VV.any, VV.any, VV.any, VV.any, VV.any, VV.any, VV.any, VV.any, VV.any, VV.any, VV.any, VV.any, VV.any, VV.any,
 VV.any, VV.any, VV.any, VV.any, VV.any, VV.any, VV.any, VV.any, VV.any, VV.any, VV.any, VV.any, VV.any, VV.any, VV.any, VV.any, VV.any, VV.any, VV.any, VV.any, VV.any, VV.any, VV.any, VV.any, VV.any, VV.any,
 VV.any, VV.any, VV.any, VV.any, VV.any, VV.any, VV.any, VV.any, VV.any, VV.any, VV.any, VV.any, VV.any, VV.any, VV.any, VV.any, VV.any, VV.any, VV.any, VV.any, i64 ((↑z.fst : Int) + (1 : Int)), VV.any]
 [Atom.ro Kd.cell l, Atom.cells (25 : TypeId) [C.slc 0 0 l.length none], Atom.cells (34 : TypeId) [C.nils, C.nils, C.int .i64 (0 : Int), C.int .i64 (0 : Int), C.int .i64 (0 : Int), C.int .i64 (0 : Int)],
 Atom.arr Kd.bool (leftOf l most), Atom.cells (34 : TypeId) [C.slc 6 0 z.snd.items.length none, C.slc 7 0 z.snd.left.length none, C.int .i64 z.snd.n0, C.int .i64 z.snd.b0, C.int .i64 z.snd.n1, C.int .i64
 z.snd.b1], Atom.cells (65 : TypeId) [C.int .i64 z.snd.x0, C.int .i64 z.snd.y0, C.int .i64 z.snd.x1, C.int .i64 z.snd.y1], Atom.arr Kd.item z.snd.items, Atom.arr Kd.int z.snd.left, Atom.cells 44 [C.str
 (rd l (0 + (↑z.fst : Int).toNat) (KK.dflt Kd.cell)).path, C.int .i64 (rd l (0 + (↑z.fst : Int).toNat) (KK.dflt Kd.cell)).what, C.int .i64 (rd l (0 + (↑z.fst : Int).toNat) (KK.dflt Kd.cell)).side, C.int
 .i64 (rd l (0 + (↑z.fst : Int).toNat) (KK.dflt Kd.cell)).mode, C.int .i64 (rd l (0 + (↑z.fst : Int).toNat) (KK.dflt Kd.cell)).keep, C.int .i64 (rd l (0 + (↑z.fst : Int).toNat) (KK.dflt Kd.cell)).take,
 C.int .i64 (rd l (0 + (↑z.fst : Int).toNat) (KK.dflt Kd.cell)).names, C.int .i64 (rd l (0 + (↑z.fst : Int).toNat) (KK.dflt Kd.cell)).bytes, C.int .i64 (rd l (0 + (↑z.fst : Int).toNat) (KK.dflt Kd.cell)).hadN,
 C.int .i64 (rd l (0 + (↑z.fst : Int).toNat) (KK.dflt Kd.cell)).hadB], Atom.arr Kd.int [(3 : Int), (2 : Int)]]))) (i64ok ((↑z.fst : Int) + (1 : Int)) ∧ Enter 1 (inv_of l most) (fun (z' : Nat × PS) => l.length
 - z'.fst < l.length - z.fst) [VV.any, i64 most, VV.one (V1.c (C.ptr 1 0 0)), VV.any, VV.one (V1.c (C.ptr 2 0 0)), VV.one (V1.c (C.slc 3 0 l.length none)), VV.one (V1.c (C.ptr 4 0 0)), VV.one (V1.c (C.ptr
 5 0 0)), i64 (↑z.fst : Int), VV.one (V1.c (C.ptr 8 0 0)), VV.any, VV.any, VV.any, VV.any, VV.any, VV.any, VV.any, VV.any, VV.any, VV.any, VV.any, VV.one (V1.c (C.slc 0 0 l.length none)), i64 (↑l.length
 : Int), i64 ((↑z.fst : Int) + (1 : Int)), boolv true, i64 (↑z.fst : Int), VV.one (V1.c (C.ptr 0 (0 + (↑z.fst : Int).toNat) 0)), VV.one (V1.agg [C.str (rd l (0 + (↑z.fst : Int).toNat) (KK.dflt Kd.cell)).path,
 C.int .i64 (rd l (0 + (↑z.fst : Int).toNat) (KK.dflt Kd.cell)).what, C.int .i64 (rd l (0 + (↑z.fst : Int).toNat) (KK.dflt Kd.cell)).side, C.int .i64 (rd l (0 + (↑z.fst : Int).toNat) (KK.dflt Kd.cell)).mode,
 C.int .i64 (rd l (0 + (↑z.fst : Int).toNat) (KK.dflt Kd.cell)).keep, C.int .i64 (rd l (0 + (↑z.fst : Int).toNat) (KK.dflt Kd.cell)).take, C.int .i64 (rd l (0 + (↑z.fst : Int).toNat) (KK.dflt Kd.cell)).names,
 C.int .i64 (rd l (0 + (↑z.fst : Int).toNat) (KK.dflt Kd.cell)).bytes, C.int .i64 (rd l (0 + (↑z.fst : Int).toNat) (KK.dflt Kd.cell)).hadN, C.int .i64 (rd l (0 + (↑z.fst : Int).toNat) (KK.dflt Kd.cell)).hadB]),
 VV.one (V1.c (C.slc 3 0 l.length none)), i64 (↑z.fst : Int), VV.one (V1.c (C.ptr 3 (0 + (↑z.fst : Int).toNat) 0)), boolv (rd (leftOf l most) (0 + (↑z.fst : Int).toNat) false), VV.any, VV.any, VV.any, VV.any,
 VV.any, VV.any, VV.one (V1.c (C.slc 9 0 2 none)), VV.one (V1.c (C.ptr 8 0 1)), i64 (rd l (0 + (↑z.fst : Int).toNat) (KK.dflt Kd.cell)).what, VV.one (V1.c (C.bool (decide ((rd l (0 + (↑z.fst : Int).toNat)
 (KK.dflt Kd.cell)).what ∈ [(3 : Int), (2 : Int)])))), boolv true, boolv true, VV.tup [], VV.tup [], VV.tup [], VV.tup [], VV.tup [], VV.tup [], VV.tup [], VV.tup [], boolv true, VV.any, VV.any, VV.any,
 VV.any, VV.any, VV.any, VV.any, VV.any, VV.any, VV.any, VV.any, VV.any, VV.any, VV.any, VV.any, VV.any, VV.any, VV.any, VV.any, VV.any, VV.any, VV.any, VV.any, VV.any, VV.any, VV.any, VV.any, VV.any, VV.any,
 VV.any, VV.any, VV.any, VV.any, VV.any, VV.any, VV.any, VV.any, VV.any, VV.any, VV.any, VV.any, VV.any, VV.any, VV.any, VV.any, VV.any, VV.any, VV.any, VV.any, VV.any, VV.any, VV.any, VV.any, VV.any, VV.any,
 VV.any, VV.any, VV.any, VV.any, VV.any, VV.any, VV.any, VV.any, VV.any, i64 ((↑z.fst : Int) + (1 : Int)), VV.any] [Atom.ro Kd.cell l, Atom.cells (25 : TypeId) [C.slc 0 0 l.length none], Atom.cells (34
 : TypeId) [C.nils, C.nils, C.int .i64 (0 : Int), C.int .i64 (0 : Int), C.int .i64 (0 : Int), C.int .i64 (0 : Int)], Atom.arr Kd.bool (leftOf l most), Atom.cells (34 : TypeId) [C.slc 6 0 z.snd.items.length
 none, C.slc 7 0 z.snd.left.length none, C.int .i64 z.snd.n0, C.int .i64 z.snd.b0, C.int .i64 z.snd.n1, C.int .i64 z.snd.b1], Atom.cells (65 : TypeId) [C.int .i64 z.snd.x0, C.int .i64 z.snd.y0, C.int .i64
 z.snd.x1, C.int .i64 z.snd.y1], Atom.arr Kd.item z.snd.items, Atom.arr Kd.int z.snd.left, Atom.cells 44 [C.str (rd l (0 + (↑z.fst : Int).toNat) (KK.dflt Kd.cell)).path, C.int .i64 (rd l (0 + (↑z.fst :
 Int).toNat) (KK.dflt Kd.cell)).what, C.int .i64 (rd l (0 + (↑z.fst : Int).toNat) (KK.dflt Kd.cell)).side, C.int .i64 (rd l (0 + (↑z.fst : Int).toNat) (KK.dflt Kd.cell)).mode, C.int .i64 (rd l (0 + (↑z.fst
 : Int).toNat) (KK.dflt Kd.cell)).keep, C.int .i64 (rd l (0 + (↑z.fst : Int).toNat) (KK.dflt Kd.cell)).take, C.int .i64 (rd l (0 + (↑z.fst : Int).toNat) (KK.dflt Kd.cell)).names, C.int .i64 (rd l (0 + (↑z.fst
 : Int).toNat) (KK.dflt Kd.cell)).bytes, C.int .i64 (rd l (0 + (↑z.fst : Int).toNat) (KK.dflt Kd.cell)).hadN, C.int .i64 (rd l (0 + (↑z.fst : Int).toNat) (KK.dflt Kd.cell)).hadB], Atom.arr Kd.int [(3 :
 Int), (2 : Int)]]))) (EndsAs 1 (ct_of l most) (VV.one (V1.agg [C.slc 6 0 z.snd.items.length none, C.slc 7 0 z.snd.left.length none, C.int .i64 z.snd.n0, C.int .i64 z.snd.b0, C.int .i64 z.snd.n1, C.int
 .i64 z.snd.b1])) [Atom.ro Kd.cell l, Atom.cells (25 : TypeId) [C.slc 0 0 l.length none], Atom.cells (34 : TypeId) [C.slc 6 0 z.snd.items.length none, C.slc 7 0 z.snd.left.length none, C.int .i64 z.snd.n0,
 C.int .i64 z.snd.b0, C.int .i64 z.snd.n1, C.int .i64 z.snd.b1], Atom.arr Kd.bool (leftOf l most), Atom.cells (34 : TypeId) [C.slc 6 0 z.snd.items.length none, C.slc 7 0 z.snd.left.length none, C.int .i64
 z.snd.n0, C.int .i64 z.snd.b0, C.int .i64 z.snd.n1, C.int .i64 z.snd.b1], Atom.cells (65 : TypeId) [C.int .i64 z.snd.x0, C.int .i64 z.snd.y0, C.int .i64 z.snd.x1, C.int .i64 z.snd.y1], Atom.arr Kd.item
 z.snd.items, Atom.arr Kd.int z.snd.left])) := by kernel_rfl
theorem ps_next {l : List Cell} {most : Int} {i : Nat} {s s' : PS} (hs : s = ofS l (leftOf l most) i) (h : ofStep l (leftOf l most) i s = s') : s' = ofS l (leftOf l most) (i + 1) := by
  subst hs; exact h.symm
theorem max_ok {a b : Int} (ha : i64ok a) (hb : i64ok b) : i64ok (max a b) := by unfold i64ok at *; omega
set_option maxHeartbeats 4000000 in
theorem of_ok (l : List Cell) (most : Int) : CtOk Try.prog 12 (ct_of l most) := CtOk_of KK_ok tab6 (ann1 (inv_of l most)) (fn := Try.f12) rfl (fun _ _ => rfl) fun hn => by
  obtain ⟨hl, hn, hm⟩ := hn
  rw [vc_of]
  simp only [Int.toNat_natCast, Nat.zero_add]
  have hll : (leftOf l most).length = l.length := by unfold leftOf leaveF marks; exact tb_len _ _
  refine ⟨⟨hl, by omega, by unfold i64ok at *; omega⟩, into_mk (by kernel_rfl) (by (repeat' first | exact trivial | exact rfl | apply And.intro)) (by (repeat' first | exact trivial | exact rfl | apply And.intro)), fun _ _ => ⟨⟨((0, ps0) : Nat × PS), [.item, .int], [0, 1, 2, 3, 4, 5, 6, 7], ⟨Nat.zero_le _, rfl, Nat.le_refl _, Nat.le_refl _, ⟨i64z, i64z, i64z, i64z, i64z, i64z, i64z, i64z⟩⟩, trivial, into_mk (by kernel_rfl) ?_ ?_⟩, fun z hz => ?_⟩⟩
  · (repeat' first | exact trivial | exact rfl | apply And.intro)
  · (repeat' first | exact trivial | exact rfl | apply And.intro)
  · obtain ⟨i, s⟩ := z
    obtain ⟨hi, hs, h6, h7, k1, k2, k3, k4, k5, k6, k7, k8⟩ := hz
    refine ite2_decide (fun hz1 => ?_) (fun hz1 => ?_)
    · have hc : (cAt l i).Ok := hl.rd i
      have c1 := max0_ok hc.names
      have c2 := max0_ok hc.bytes
      have c3 := max0_ok hc.hadN
      have c4 := max0_ok hc.hadB
      have hi1 : i64ok ((i : Int) + 1) := by unfold i64ok; omega
      have z1 : (0 : Int) ≤ i ∧ (i : Int) < l.length := ⟨by omega, hz1⟩
      have z2 : i < l.length := by omega
      have z3 : i < (leftOf l most).length := by omega
      have m1 : i + 1 ≤ l.length := by omega
      have m2 : l.length - (i + 1) < l.length - i := by omega
      have i2 : i64ok 2 := ⟨by decide, by decide⟩
      have i3 : i64ok ((s.items.length : Int) + 1) := by unfold i64ok; simp only at h6; omega
      have a1 : (s.left.length + 1) * 8 ≤ 140737488355328 := by simp only at h7; omega
      have a2 : (s.items.length + 1) * 64 ≤ 140737488355328 := by simp only at h6; omega
      have same : ∀ b, rd (leftOf l most) i false = b → True := fun _ _ => trivial
      simp only [] at *
      refine ⟨z1, z2, trivial, z2, z1, z3, trivial, z3, ite2_mk (fun hL => ?_) (fun hL => ?_)⟩
      · have hE : ofStep l (leftOf l most) i s = stLeft i s := if_pos hL
        refine ⟨by simp, by simp, a1, hi1, ⟨((i + 1, stLeft i s) : Nat × PS), [], [0, 1, 2, 3, 4, 5, 6, 10], ⟨m1, ps_next hs hE, by show s.items.length ≤ i + 1; omega, by show (s.left ++ [(i : Int)]).length ≤ i + 1; rw [List.length_append]; simp; omega, ⟨k1, k2, k3, k4, k5, k6, k7, k8⟩⟩, m2, into_mk (by kernel_rfl) ?_ ?_⟩⟩
        · (repeat' first | exact trivial | exact rfl | apply And.intro)
        · (repeat' first | exact trivial | exact rfl | apply And.intro)
          all_goals (show s.left.length + 1 = (s.left ++ [(i : Int)]).length; rw [List.length_append]; rfl)
      · have hL' : ¬ rd (leftOf l most) i false = true := by rw [hL]; decide
        have x1 := addF_ok _ _ k5 c1.1
        have x2 := addF_ok _ _ k6 c2.1
        have x3 := addF_ok _ _ x1 c3.2
        have x4 := addF_ok _ _ x2 c4.2
        have x5 := max_ok k1 x1
        have x6 := max_ok k2 x2
        have y1 := addF_ok _ _ k7 c1.1
        have y2 := addF_ok _ _ k8 c2.1
        have y3 := addF_ok _ _ y1 c3.2
        have y4 := addF_ok _ _ y2 c4.2
        have y5 := max_ok k3 y1
        have y6 := max_ok k4 y2
        have c1a := c1.1
        have c2a := c2.1
        have c3a := c3.2
        have c4a := c4.2
        refine ⟨i2, into_mk (by kernel_rfl) (by (repeat' first | exact trivial | exact rfl | apply And.intro)) (by (repeat' first | exact trivial | exact rfl | apply And.intro)), fun _ _ => ite2_decide (fun hw => ?_) (fun hw => ?_)⟩
        · have hw' : (cAt l i).what = 3 ∨ (cAt l i).what = 2 := by simpa using hw
          refine ite2_decide (fun h1 => ⟨i3, ite2_decide (fun h2 => absurd (h1.symm.trans h2) (by decide)) (fun h2 => ite2_decide (fun h3 => ?_) (fun h3 => ?_))⟩) (fun h1 => ite2_decide (fun h2 => ⟨i3, ite2_decide (fun h2' => ite2_decide (fun h3 => ?_) (fun h3 => ?_)) (fun h2' => absurd h2 h2')⟩) (fun h2 => ?_))
          · have hE : ofStep l (leftOf l most) i s = stBoth l i 0 1 s := by unfold ofStep; rw [if_neg hL', if_pos hw', if_pos h1, if_pos h3]
            (repeat' first | exact trivial | exact rfl | assumption | (intro _ _) | (refine into_mk (by kernel_rfl) ?_ ?_) | (refine ⟨((i + 1, stBoth l i 0 1 s) : Nat × PS), [], [0, 1, 2, 3, 4, 5, 12, 7], ⟨m1, ps_next hs hE, ?_, ?_, ?_⟩, m2, into_mk (by kernel_rfl) ?_ ?_⟩) | apply And.intro)
            all_goals first | omega | decide | (show (s.items ++ [_]).length ≤ i + 1; rw [List.length_append]; simp; omega) | (show s.items.length + 1 = (s.items ++ [_]).length; rw [List.length_append]; rfl) | (show s.left.length ≤ i + 1; omega) | (show s.items.length ≤ i + 1; omega)
          · have hE : ofStep l (leftOf l most) i s = stTo1 l i s := by unfold ofStep; rw [if_neg hL', if_pos hw', if_pos h1, if_neg h3]
            (repeat' first | exact trivial | exact rfl | assumption | (intro _ _) | (refine into_mk (by kernel_rfl) ?_ ?_) | (refine ⟨((i + 1, stTo1 l i s) : Nat × PS), [], [0, 1, 2, 3, 4, 5, 14, 7], ⟨m1, ps_next hs hE, ?_, ?_, ?_⟩, m2, into_mk (by kernel_rfl) ?_ ?_⟩) | apply And.intro)
            all_goals first | omega | decide | (show (s.items ++ [_]).length ≤ i + 1; rw [List.length_append]; simp; omega) | (show s.items.length + 1 = (s.items ++ [_]).length; rw [List.length_append]; rfl) | (show s.left.length ≤ i + 1; omega) | (show s.items.length ≤ i + 1; omega)
          · have hE : ofStep l (leftOf l most) i s = stBoth l i 1 0 s := by unfold ofStep; rw [if_neg hL', if_pos hw', if_neg h1, if_pos h2, if_pos h3]
            (repeat' first | exact trivial | exact rfl | assumption | (intro _ _) | (refine into_mk (by kernel_rfl) ?_ ?_) | (refine ⟨((i + 1, stBoth l i 1 0 s) : Nat × PS), [], [0, 1, 2, 3, 4, 5, 12, 7], ⟨m1, ps_next hs hE, ?_, ?_, ?_⟩, m2, into_mk (by kernel_rfl) ?_ ?_⟩) | apply And.intro)
            all_goals first | omega | decide | (show (s.items ++ [_]).length ≤ i + 1; rw [List.length_append]; simp; omega) | (show s.items.length + 1 = (s.items ++ [_]).length; rw [List.length_append]; rfl) | (show s.left.length ≤ i + 1; omega) | (show s.items.length ≤ i + 1; omega)
          · have hE : ofStep l (leftOf l most) i s = stTo0 l i s := by unfold ofStep; rw [if_neg hL', if_pos hw', if_neg h1, if_pos h2, if_neg h3]
            (repeat' first | exact trivial | exact rfl | assumption | (intro _ _) | (refine into_mk (by kernel_rfl) ?_ ?_) | (refine ⟨((i + 1, stTo0 l i s) : Nat × PS), [], [0, 1, 2, 3, 4, 5, 14, 7], ⟨m1, ps_next hs hE, ?_, ?_, ?_⟩, m2, into_mk (by kernel_rfl) ?_ ?_⟩) | apply And.intro)
            all_goals first | omega | decide | (show (s.items ++ [_]).length ≤ i + 1; rw [List.length_append]; simp; omega) | (show s.items.length + 1 = (s.items ++ [_]).length; rw [List.length_append]; rfl) | (show s.left.length ≤ i + 1; omega) | (show s.items.length ≤ i + 1; omega)
          · have hE : ofStep l (leftOf l most) i s = s := by unfold ofStep; rw [if_neg hL', if_pos hw', if_neg h1, if_neg h2]
            (repeat' first | exact trivial | exact rfl | assumption | (intro _ _) | (refine into_mk (by kernel_rfl) ?_ ?_) | (refine ⟨((i + 1, s) : Nat × PS), [], [0, 1, 2, 3, 4, 5, 6, 7], ⟨m1, ps_next hs hE, ?_, ?_, ?_⟩, m2, into_mk (by kernel_rfl) ?_ ?_⟩) | apply And.intro)
            all_goals first | omega | decide | (show (s.items ++ [_]).length ≤ i + 1; rw [List.length_append]; simp; omega) | (show s.items.length + 1 = (s.items ++ [_]).length; rw [List.length_append]; rfl) | (show s.left.length ≤ i + 1; omega) | (show s.items.length ≤ i + 1; omega)
        · have hE : ofStep l (leftOf l most) i s = s := by
            have hw' : ¬ ((cAt l i).what = 3 ∨ (cAt l i).what = 2) := by simpa using hw
            unfold ofStep; rw [if_neg hL', if_neg hw']
          (repeat' first | exact trivial | exact rfl | assumption | (intro _ _) | (refine into_mk (by kernel_rfl) ?_ ?_) | (refine ⟨((i + 1, s) : Nat × PS), [], [0, 1, 2, 3, 4, 5, 6, 7], ⟨m1, ps_next hs hE, ?_, ?_, ?_⟩, m2, into_mk (by kernel_rfl) ?_ ?_⟩) | apply And.intro)
          all_goals first | omega | decide | (show (s.items ++ [_]).length ≤ i + 1; rw [List.length_append]; simp; omega) | (show s.items.length + 1 = (s.items ++ [_]).length; rw [List.length_append]; rfl) | (show s.left.length ≤ i + 1; omega) | (show s.items.length ≤ i + 1; omega)
    · have e : i = l.length := by simp only at hi hz1; omega
      subst e
      have hs' : s = ofS l (leftOf l most) l.length := hs
      clear hs
      subst hs'
      refine ⟨(), [], [0, 6, 7], trivial, ?_⟩
      (repeat' first | exact trivial | exact rfl | apply And.intro)
end Go.Proofs.Ytljamcgngojaeaa.T
