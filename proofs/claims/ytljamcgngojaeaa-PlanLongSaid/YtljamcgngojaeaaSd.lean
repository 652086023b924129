/- The law: are two plans the same? The law: long merges, the function. The law: long merges, its condition. The law: long merges, proof. -/
import Derived.Test.YtljamcgngojaeaaSc
namespace Go.Proofs.Ytljamcgngojaeaa.T
open Go.Proofs.Ytljamcgngojaeaa.E
set_option maxRecDepth 100000
set_option linter.unusedVariables false
def ct_samePlan (s t : PS) : Ct KK := { need := s = t ∧ i64ok s.items.length ∧ i64ok s.left.length, pre := [.ro .item s.items, .ro .int s.left, .ro .item t.items, .ro .int t.left], args := [.agg [.slc 0 0 s.items.length none, .slc 1 0 s.left.length none, .int .i64 s.n0, .int .i64 s.b0, .int .i64 s.n1, .int .i64 s.b1], .agg [.slc 2 0 t.items.length none, .slc 3 0 t.left.length none, .int .i64 t.n0, .int .i64 t.b0, .int .i64 t.n1, .int .i64 t.b1]], Y := Unit, ok := fun _ => True, ret := fun _ => boolv true, post := fun _ => [.gone, .gone, .gone, .gone] }
theorem vc_samePlan (s t : PS) : evFn tab15 ann0 Try.f19 (ct_samePlan s t) = ( ite2 (decide (s.n0 = t.n0) && (decide (s.b0 = t.b0) && true) && (decide (s.n1 = t.n1) && (decide (s.b1 = t.b1) && true) && true)) ((s.items = t.items ∧ i64ok (↑s.items.length : Int)) ∧ Into (K := KK)
 0 [] [0, 2] [VV.one (V1.c (C.slc 0 0 s.items.length none)), VV.one (V1.c (C.slc 2 0 t.items.length none))] [Atom.ro Kd.item s.items, Atom.ro Kd.int s.left, Atom.ro Kd.item t.items, Atom.ro Kd.int t.left,
 Atom.cells 34 [C.slc 0 0 s.items.length none, C.slc 1 0 s.left.length none, C.int .i64 s.n0, C.int .i64 s.b0, C.int .i64 s.n1, C.int .i64 s.b1], Atom.cells 34 [C.slc 2 0 t.items.length none, C.slc 3 0
 t.left.length none, C.int .i64 t.n0, C.int .i64 t.b0, C.int .i64 t.n1, C.int .i64 t.b1]] [VV.one (V1.c (C.slc 0 0 s.items.length none)), VV.one (V1.c (C.slc 1 0 t.items.length none))] [Atom.ro Kd.item
 s.items, Atom.ro Kd.item t.items] ∧ ∀ (y : Unit), True → i64ok (↑s.left.length : Int) ∧ Into (K := KK) 0 [] [1, 3] [VV.one (V1.c (C.slc 1 0 s.left.length none)), VV.one (V1.c (C.slc 3 0 t.left.length none))]
 [Atom.ro Kd.item s.items, Atom.ro Kd.int s.left, Atom.ro Kd.item t.items, Atom.ro Kd.int t.left, Atom.cells 34 [C.slc 0 0 s.items.length none, C.slc 1 0 s.left.length none, C.int .i64 s.n0, C.int .i64
 s.b0, C.int .i64 s.n1, C.int .i64 s.b1], Atom.cells 34 [C.slc 2 0 t.items.length none, C.slc 3 0 t.left.length none, C.int .i64 t.n0, C.int .i64 t.b0, C.int .i64 t.n1, C.int .i64 t.b1]] [VV.one (V1.c (C.slc
 0 0 s.left.length none)), VV.one (V1.c (C.slc 1 0 t.left.length none))] [Atom.ro Kd.int s.left, Atom.ro Kd.int t.left] ∧ ∀ (y : Unit), True → EndsAs (1 + 1 + 1 + 1) (ct_samePlan s t) (boolv (decide (s.left
 = t.left))) [Atom.ro Kd.item s.items, Atom.ro Kd.int s.left, Atom.ro Kd.item t.items, Atom.ro Kd.int t.left, Atom.cells 34 [C.slc 0 0 s.items.length none, C.slc 1 0 s.left.length none, C.int .i64 s.n0,
 C.int .i64 s.b0, C.int .i64 s.n1, C.int .i64 s.b1], Atom.cells 34 [C.slc 2 0 t.items.length none, C.slc 3 0 t.left.length none, C.int .i64 t.n0, C.int .i64 t.b0, C.int .i64 t.n1, C.int .i64 t.b1]]) (EndsAs
 (1 + 1 + 1 + 1) (ct_samePlan s t) (boolv false) [Atom.ro Kd.item s.items, Atom.ro Kd.int s.left, Atom.ro Kd.item t.items, Atom.ro Kd.int t.left, Atom.cells 34 [C.slc 0 0 s.items.length none, C.slc 1 0
 s.left.length none, C.int .i64 s.n0, C.int .i64 s.b0, C.int .i64 s.n1, C.int .i64 s.b1], Atom.cells 34 [C.slc 2 0 t.items.length none, C.slc 3 0 t.left.length none, C.int .i64 t.n0, C.int .i64 t.b0, C.int
 .i64 t.n1, C.int .i64 t.b1]])) := by kernel_rfl
end Go.Proofs.Ytljamcgngojaeaa.T
namespace Go.Proofs.Ytljamcgngojaeaa.T
open Go.Proofs.Ytljamcgngojaeaa.E
set_option maxRecDepth 100000
set_option linter.unusedVariables false
theorem samePlan_ok (s t : PS) : CtOk Try.prog 19 (ct_samePlan s t) := CtOk_of KK_ok tab15 ann0 (fn := Try.f19) rfl (fun _ _ => rfl) fun hn => by
  obtain ⟨rfl, h1, h2⟩ := hn
  rw [vc_samePlan]
  have hq : decide (s.left = s.left) = true := decide_eq_true rfl
  exact ite2_mk (fun _ => ⟨⟨rfl, h1⟩, into_mk (by kernel_rfl) (by (repeat' first | exact trivial | exact rfl | apply And.intro)) (by (repeat' first | exact trivial | exact rfl | apply And.intro)), fun _ _ => ⟨h2, into_mk (by kernel_rfl) (by (repeat' first | exact trivial | exact rfl | apply And.intro)) (by (repeat' first | exact trivial | exact rfl | apply And.intro)), fun _ _ => ⟨(), [], [0, 1, 2, 3], trivial, by (repeat' first | exact trivial | exact rfl | exact hq | apply And.intro)⟩⟩⟩) (fun hb => absurd hb (by simp))
def tab16 : Tab Try.prog KK := ⟨mixed, fun f args H => match f, args with
  | 20, [.one (.agg [.slc n 0 len none]), .one (.c (.int _ a))] => match getL .cell (at_ H n) with
    | some l => some (ct_rof l a, [], [n])
    | none => none
  | 19, [.one (.agg [.slc i 0 ilen none, .slc j 0 jlen none, .int _ p, .int _ q, .int _ r, .int _ s]), .one (.agg [.slc i' 0 ilen' none, .slc j' 0 jlen' none, .int _ p', .int _ q', .int _ r', .int _ s'])] => match getL .item (at_ H i), getL .int (at_ H j), getL .item (at_ H i'), getL .int (at_ H j') with
    | some x, some y, some x', some y' => some (ct_samePlan ⟨x, y, p, q, r, s, 0, 0, 0, 0⟩ ⟨x', y', p', q', r', s', 0, 0, 0, 0⟩, [], [i, j, i', j'])
    | _, _, _, _ => none
  | f, args => tab15.pick f args H, fun f args H ct ks τ h => by
    split at h
    · split at h
      · cases h; exact rof_ok _ _
      · cases h
    · split at h
      · cases h; exact samePlan_ok _ _
      · cases h
    · exact tab15.ok _ _ _ _ _ _ h⟩
def ct_planLong (seed count less : Int) : Ct KK := { need := i64ok seed ∧ i64ok count ∧ i64ok less, pre := [], args := [i64 seed, i64 count, i64 less], Y := Unit, ok := fun _ => True, ret := fun _ => boolv true, post := fun _ => [] }
structure LS where
  i : Nat
  l : List Cell
  need : Int
  x : Int
def inv_long6 (less n : Int) : Inv KK := { X := LS, fr := fun s => [.any, .any, i64 less, .any, .any, .any, .any, i64 n, .c (.ptr 0 0 0), .c (.ptr 1 0 0), i64 s.need, i64 s.i] ++ anys 97, H := fun s => [.cells 48 [.int .i64 s.x], .cells 25 [.slc 2 0 s.i none], .arr .cell s.l], ok := fun s => (s.i : Int) ≤ n ∧ s.l.length = s.i ∧ Cells s.l ∧ (0 ≤ s.need ∧ s.need ≤ 8 * (s.i : Int)) ∧ 0 ≤ s.x ∧ s.x < 2147483648, meas := fun s => (n - s.i).toNat }
def inv_long18 (less n need i : Int) (len : Nat) (l : List Cell) : Inv KK := { X := Cell × Int, fr := fun _ => [.any, .any, i64 less, .any, .any, .any, .any, i64 n, .c (.ptr 0 0 0), .c (.ptr 1 0 0), i64 need, i64 i, .c (.ptr 3 0 0)] ++ anys 96, H := fun y => [.cells 48 [.int .i64 y.2], .cells 25 [.slc 2 0 len none], .arr .cell l, .cells 44 (KK.enc .cell y.1)], ok := fun y => y.1.Ok ∧ (0 ≤ y.1.keep ∧ y.1.keep < 8) ∧ (0 ≤ y.1.take ∧ y.1.take < 8) ∧ 0 ≤ y.2 ∧ y.2 < 2147483648, meas := fun _ => 0 }
def lenOf (a : Atom KK) : Nat := match a with
  | .cells _ [.slc _ _ n _] => n
  | _ => 0
def annLong (less : Int) : Ann KK := ⟨fun id fr H => match id, fr.getD 7 .any with
  | 6, .one (.c (.int _ n)) => some (inv_long6 less n)
  | _, _ => none, fun id fr H => match id, fr.getD 7 .any, fr.getD 10 .any, fr.getD 11 .any, getL .cell (at_ H 2) with
  | 18, .one (.c (.int _ n)), .one (.c (.int _ need)), .one (.c (.int _ i)), some l => some (inv_long18 less n need i (lenOf (at_ H 1)) l)
  | _, _, _, _, _ => none⟩
end Go.Proofs.Ytljamcgngojaeaa.T
namespace Go.Proofs.Ytljamcgngojaeaa.T
open Go.Proofs.Ytljamcgngojaeaa.E
set_option maxRecDepth 100000
set_option linter.unusedVariables false
theorem vc_planLong (seed count less : Int) : evFn tab16 (annLong less) Try.f6 (ct_planLong seed count less) = ( (i64ok count ∧ i64ok (1200 : Int) ∧ (0 : Int) < (1200 : Int)) ∧ Into (K := KK) 0 [] [] [i64 count, i64 (1200 : Int)] [] [i64 count, i64 (1200 : Int)] [] ∧ ∀ (y : Int), (0 : Int) ≤ y ∧ y < (1200 : Int)
 → (i64ok seed ∧ i64ok (2147483647 : Int) ∧ (0 : Int) < (2147483647 : Int)) ∧ Into (K := KK) 0 [] [] [i64 seed, i64 (2147483647 : Int)] [] [i64 seed, i64 (2147483647 : Int)] [] ∧ ∀ (y_1 : Int), (0 : Int)
 ≤ y_1 ∧ y_1 < (2147483647 : Int) → Enter 0 (inv_long6 less y) (fun (x : LS) => True) [i64 seed, i64 count, i64 less, VV.any, VV.any, VV.any, boolv false, i64 y, VV.one (V1.c (C.ptr 0 0 0)), VV.one (V1.c
 (C.ptr 1 0 0)), i64 (0 : Int), i64 (0 : Int), VV.any, VV.any, i64 count, i64 y, i64 seed, i64 y_1, VV.one (V1.agg [C.int .i64 y_1]), VV.one (V1.c (C.ptr 0 0 0)), VV.any, VV.any, VV.any, VV.any, VV.any,
 VV.any, VV.any, VV.any, VV.any, VV.any, VV.any, VV.any, VV.any, VV.any, VV.any, VV.any, VV.any, VV.any, VV.any, VV.any, VV.any, VV.any, VV.any, VV.any, VV.any, VV.any, VV.any, VV.any, VV.any, VV.any, VV.any,
 VV.any, VV.any, VV.any, VV.any, VV.any, VV.any, VV.any, VV.any, VV.any, VV.any, VV.any, VV.any, VV.any, VV.any, VV.any, VV.any, VV.any, VV.any, VV.any, VV.any, VV.any, VV.any, VV.any, VV.any, VV.any, VV.any,
 VV.any, VV.any, VV.any, VV.any, VV.any, VV.any, VV.any, VV.any, VV.any, VV.any, VV.any, VV.any, VV.any, VV.any, VV.any, VV.any, VV.any, VV.any, VV.any, VV.any, VV.any, VV.any, VV.any, VV.any, VV.any, VV.any,
 VV.any, VV.any, VV.any, VV.any, VV.any, VV.any] [Atom.cells 48 [C.int .i64 y_1], Atom.cells 25 [C.nils]] ∧ ∀ (z : LS), (↑z.i : Int) ≤ y ∧ z.l.length = z.i ∧ (∀ (c : Cell), List.Mem c z.l → c.Ok) ∧ ((0
 : Int) ≤ z.need ∧ z.need ≤ (8 : Int) * (↑z.i : Int)) ∧ (0 : Int) ≤ z.x ∧ z.x < (2147483648 : Int) → ite2 (decide ((↑z.i : Int) < y)) (True ∧ Into (K := KK) 0 [] [] [i64 (↑z.i : Int)] [Atom.cells 48 [C.int
 .i64 z.x], Atom.cells 25 [C.slc 2 0 z.i none], Atom.arr Kd.cell z.l] [i64 (↑z.i : Int)] [] ∧ ∀ (y_2 : ByteArray), y_2.size = 4 → (((0 : Int) ≤ z.x ∧ z.x < (2147483648 : Int)) ∧ (0 : Int) < (6 : Int) ∧
 i64ok (6 : Int)) ∧ Into (K := KK) 0 [] [0] [VV.one (V1.c (C.ptr 0 0 0)), i64 (6 : Int)] [Atom.cells 48 [C.int .i64 z.x], Atom.cells 25 [C.slc 2 0 z.i none], Atom.arr Kd.cell z.l] [VV.one (V1.c (C.ptr 0
 0 0)), i64 (6 : Int)] [Atom.cells 48 [C.int .i64 z.x]] ∧ ∀ (y_3 : Int × Int), ((0 : Int) ≤ y_3.fst ∧ y_3.fst < (6 : Int)) ∧ (0 : Int) ≤ y_3.snd ∧ y_3.snd < (2147483648 : Int) → i64ok ((1 : Int) + y_3.fst)
 ∧ (((0 : Int) ≤ y_3.snd ∧ y_3.snd < (2147483648 : Int)) ∧ (0 : Int) < (5 : Int) ∧ i64ok (5 : Int)) ∧ Into (K := KK) 0 [] [0] [VV.one (V1.c (C.ptr 0 0 0)), i64 (5 : Int)] [Atom.cells 48 [C.int .i64 y_3.snd],
 Atom.cells 25 [C.slc 2 0 z.i none], Atom.arr Kd.cell z.l] [VV.one (V1.c (C.ptr 0 0 0)), i64 (5 : Int)] [Atom.cells 48 [C.int .i64 y_3.snd]] ∧ ∀ (y_4 : Int × Int), ((0 : Int) ≤ y_4.fst ∧ y_4.fst < (5 :
 Int)) ∧ (0 : Int) ≤ y_4.snd ∧ y_4.snd < (2147483648 : Int) → (((0 : Int) ≤ y_4.snd ∧ y_4.snd < (2147483648 : Int)) ∧ (0 : Int) < (5 : Int) ∧ i64ok (5 : Int)) ∧ Into (K := KK) 0 [] [0] [VV.one (V1.c (C.ptr
 0 0 0)), i64 (5 : Int)] [Atom.cells 48 [C.int .i64 y_4.snd], Atom.cells 25 [C.slc 2 0 z.i none], Atom.arr Kd.cell z.l] [VV.one (V1.c (C.ptr 0 0 0)), i64 (5 : Int)] [Atom.cells 48 [C.int .i64 y_4.snd]]
 ∧ ∀ (y_5 : Int × Int), ((0 : Int) ≤ y_5.fst ∧ y_5.fst < (5 : Int)) ∧ (0 : Int) ≤ y_5.snd ∧ y_5.snd < (2147483648 : Int) → ite2 (decide ((1 : Int) + y_3.fst = (3 : Int))) (True ∧ (((0 : Int) ≤ y_5.snd ∧
 y_5.snd < (2147483648 : Int)) ∧ (0 : Int) < (2 : Int) ∧ i64ok (2 : Int)) ∧ Into (K := KK) 0 [] [0] [VV.one (V1.c (C.ptr 0 0 0)), i64 (2 : Int)] [Atom.cells 48 [C.int .i64 y_5.snd], Atom.cells 25 [C.slc
 2 0 z.i none], Atom.arr Kd.cell z.l, Atom.cells 44 [C.str y_2, C.int .i64 ((1 : Int) + y_3.fst), C.int .i64 (0 : Int), C.int .i64 (0 : Int), C.int .i64 y_4.fst, C.int .i64 y_5.fst, C.int .i64 (0 : Int),
 C.int .i64 (0 : Int), C.int .i64 (0 : Int), C.int .i64 (0 : Int)]] [VV.one (V1.c (C.ptr 0 0 0)), i64 (2 : Int)] [Atom.cells 48 [C.int .i64 y_5.snd]] ∧ ∀ (y_6 : Int × Int), ((0 : Int) ≤ y_6.fst ∧ y_6.fst
 < (2 : Int)) ∧ (0 : Int) ≤ y_6.snd ∧ y_6.snd < (2147483648 : Int) → i64ok ((1 : Int) + y_6.fst) ∧ (i64 y_5.fst = i64 y_5.fst ∧ True) ∧ (((0 : Int) ≤ y_6.snd ∧ y_6.snd < (2147483648 : Int)) ∧ (0 : Int)
 < (900 : Int) ∧ i64ok (900 : Int)) ∧ Into (K := KK) 0 [] [0] [VV.one (V1.c (C.ptr 0 0 0)), i64 (900 : Int)] [Atom.cells 48 [C.int .i64 y_6.snd], Atom.cells 25 [C.slc 2 0 z.i none], Atom.arr Kd.cell z.l,
 Atom.cells 44 [C.str y_2, C.int .i64 ((1 : Int) + y_3.fst), C.int .i64 (0 : Int), C.int .i64 (0 : Int), C.int .i64 y_4.fst, C.int .i64 y_5.fst, C.int .i64 (0 : Int), C.int .i64 (0 : Int), C.int .i64 (0
 : Int), C.int .i64 (0 : Int)]] [VV.one (V1.c (C.ptr 0 0 0)), i64 (900 : Int)] [Atom.cells 48 [C.int .i64 y_6.snd]] ∧ ∀ (y_7 : Int × Int), ((0 : Int) ≤ y_7.fst ∧ y_7.fst < (900 : Int)) ∧ (0 : Int) ≤ y_7.snd
 ∧ y_7.snd < (2147483648 : Int) → (i64 y_5.fst = i64 y_5.fst ∧ True) ∧ True ∧ True ∧ True ∧ (((0 : Int) ≤ y_7.snd ∧ y_7.snd < (2147483648 : Int)) ∧ (0 : Int) < (4 : Int) ∧ i64ok (4 : Int)) ∧ Into (K :=
 KK) 0 [] [0] [VV.one (V1.c (C.ptr 0 0 0)), i64 (4 : Int)] [Atom.cells 48 [C.int .i64 y_7.snd], Atom.cells 25 [C.slc 2 0 z.i none], Atom.arr Kd.cell z.l, Atom.cells 44 [C.str y_2, C.int .i64 ((1 : Int)
 + y_3.fst), C.int .i64 ((1 : Int) + y_6.fst), C.int .i64 (0 : Int), C.int .i64 y_4.fst, C.int .i64 y_5.fst, C.int .i64 y_5.fst, C.int .i64 y_7.fst, C.int .i64 (0 : Int), C.int .i64 (0 : Int)]] [VV.one
 (V1.c (C.ptr 0 0 0)), i64 (4 : Int)] [Atom.cells 48 [C.int .i64 y_7.snd]] ∧ ∀ (y_8 : Int × Int), ((0 : Int) ≤ y_8.fst ∧ y_8.fst < (4 : Int)) ∧ (0 : Int) ≤ y_8.snd ∧ y_8.snd < (2147483648 : Int) → (((0
 : Int) ≤ y_8.snd ∧ y_8.snd < (2147483648 : Int)) ∧ (0 : Int) < (900 : Int) ∧ i64ok (900 : Int)) ∧ Into (K := KK) 0 [] [0] [VV.one (V1.c (C.ptr 0 0 0)), i64 (900 : Int)] [Atom.cells 48 [C.int .i64 y_8.snd],
 Atom.cells 25 [C.slc 2 0 z.i none], Atom.arr Kd.cell z.l, Atom.cells 44 [C.str y_2, C.int .i64 ((1 : Int) + y_3.fst), C.int .i64 ((1 : Int) + y_6.fst), C.int .i64 (0 : Int), C.int .i64 y_4.fst, C.int .i64
 y_5.fst, C.int .i64 y_5.fst, C.int .i64 y_7.fst, C.int .i64 (0 : Int), C.int .i64 (0 : Int)]] [VV.one (V1.c (C.ptr 0 0 0)), i64 (900 : Int)] [Atom.cells 48 [C.int .i64 y_8.snd]] ∧ ∀ (y_9 : Int × Int),
 ((0 : Int) ≤ y_9.fst ∧ y_9.fst < (900 : Int)) ∧ (0 : Int) ≤ y_9.snd ∧ y_9.snd < (2147483648 : Int) → Enter 0 (inv_long18 less y z.need (↑z.i : Int) z.i z.l) (fun (x : Cell × Int) => True) [VV.any, VV.any,
 i64 less, VV.any, VV.any, VV.any, VV.any, i64 y, VV.one (V1.c (C.ptr 0 0 0)), VV.one (V1.c (C.ptr 1 0 0)), i64 z.need, VV.one (V1.c (C.int .i64 (↑z.i : Int))), VV.one (V1.c (C.ptr 3 0 0)), VV.any, VV.any,
 VV.any, VV.any, VV.any, VV.any, VV.any, VV.one (V1.c (C.int .i64 (↑z.i : Int))), i64 y, boolv true, VV.any, VV.any, VV.one (V1.c (C.int .i64 (↑z.i : Int))), VV.one (V1.c (C.str y_2)), VV.one (V1.c (C.ptr
 0 0 0)), i64 y_3.fst, VV.one (V1.c (C.int .i64 ((1 : Int) + y_3.fst))), VV.one (V1.c (C.ptr 0 0 0)), i64 y_4.fst, VV.one (V1.c (C.ptr 0 0 0)), i64 y_5.fst, VV.one (V1.agg [C.str y_2, C.int .i64 ((1 : Int)
 + y_3.fst), C.int .i64 (0 : Int), C.int .i64 (0 : Int), C.int .i64 y_4.fst, C.int .i64 y_5.fst, C.int .i64 (0 : Int), C.int .i64 (0 : Int), C.int .i64 (0 : Int), C.int .i64 (0 : Int)]), VV.one (V1.c (C.ptr
 3 0 1)), VV.one (V1.c (C.int .i64 ((1 : Int) + y_3.fst))), boolv true, boolv true, VV.one (V1.c (C.ptr 0 0 0)), i64 y_6.fst, VV.one (V1.c (C.int .i64 ((1 : Int) + y_6.fst))), VV.one (V1.c (C.ptr 3 0 5)),
 i64 y_5.fst, VV.one (V1.c (C.ptr 0 0 0)), i64 y_7.fst, VV.one (V1.c (C.ptr 3 0 2)), VV.one (V1.c (C.ptr 3 0 6)), VV.one (V1.c (C.ptr 3 0 7)), VV.one (V1.c (C.ptr 0 0 0)), i64 y_8.fst, VV.one (V1.c (C.ptr
 0 0 0)), i64 y_9.fst, VV.one (V1.agg [C.int .i64 y_8.fst, C.int .i64 y_9.fst]), VV.one (V1.c (C.ptr 3 0 8)), VV.any, VV.any, VV.any, VV.any, VV.any, VV.any, VV.any, VV.any, VV.any, VV.any, VV.any, VV.any,
 VV.any, VV.any, VV.any, VV.any, VV.any, VV.any, VV.any, VV.any, VV.any, VV.any, VV.any, VV.any, VV.any, VV.any, VV.any, VV.any, VV.any, VV.any, VV.any, VV.any, VV.any, VV.any, VV.any, VV.any, VV.any, VV.any,
 VV.any, VV.any, VV.any, VV.any, VV.any, VV.any, VV.any, VV.any, VV.any, VV.any, VV.any, VV.any, VV.any, VV.any, VV.any, VV.any] [Atom.cells 48 [C.int .i64 y_9.snd], Atom.cells 25 [C.slc 2 0 z.i none],
 Atom.arr Kd.cell z.l, Atom.cells 44 [C.str y_2, C.int .i64 ((1 : Int) + y_3.fst), C.int .i64 ((1 : Int) + y_6.fst), C.int .i64 (0 : Int), C.int .i64 y_4.fst, C.int .i64 y_5.fst, C.int .i64 y_5.fst, C.int
 .i64 y_7.fst, C.int .i64 y_8.fst, C.int .i64 y_9.fst]]) (ite2 (decide ((1 : Int) + y_3.fst = (2 : Int))) ((((0 : Int) ≤ y_5.snd ∧ y_5.snd < (2147483648 : Int)) ∧ (0 : Int) < (3 : Int) ∧ i64ok (3 : Int))
 ∧ Into (K := KK) 0 [] [0] [VV.one (V1.c (C.ptr 0 0 0)), i64 (3 : Int)] [Atom.cells 48 [C.int .i64 y_5.snd], Atom.cells 25 [C.slc 2 0 z.i none], Atom.arr Kd.cell z.l, Atom.cells 44 [C.str y_2, C.int .i64
 ((1 : Int) + y_3.fst), C.int .i64 (0 : Int), C.int .i64 (0 : Int), C.int .i64 y_4.fst, C.int .i64 y_5.fst, C.int .i64 (0 : Int), C.int .i64 (0 : Int), C.int .i64 (0 : Int), C.int .i64 (0 : Int)]] [VV.one
 (V1.c (C.ptr 0 0 0)), i64 (3 : Int)] [Atom.cells 48 [C.int .i64 y_5.snd]] ∧ ∀ (y_6 : Int × Int), ((0 : Int) ≤ y_6.fst ∧ y_6.fst < (3 : Int)) ∧ (0 : Int) ≤ y_6.snd ∧ y_6.snd < (2147483648 : Int) → (((0
 : Int) ≤ y_6.snd ∧ y_6.snd < (2147483648 : Int)) ∧ (0 : Int) < (9 : Int) ∧ i64ok (9 : Int)) ∧ Into (K := KK) 0 [] [0] [VV.one (V1.c (C.ptr 0 0 0)), i64 (9 : Int)] [Atom.cells 48 [C.int .i64 y_6.snd], Atom.cells
 25 [C.slc 2 0 z.i none], Atom.arr Kd.cell z.l, Atom.cells 44 [C.str y_2, C.int .i64 ((1 : Int) + y_3.fst), C.int .i64 (0 : Int), C.int .i64 (0 : Int), C.int .i64 y_4.fst, C.int .i64 y_5.fst, C.int .i64
 (0 : Int), C.int .i64 (0 : Int), C.int .i64 (0 : Int), C.int .i64 (0 : Int)]] [VV.one (V1.c (C.ptr 0 0 0)), i64 (9 : Int)] [Atom.cells 48 [C.int .i64 y_6.snd]] ∧ ∀ (y_7 : Int × Int), ((0 : Int) ≤ y_7.fst
 ∧ y_7.fst < (9 : Int)) ∧ (0 : Int) ≤ y_7.snd ∧ y_7.snd < (2147483648 : Int) → Enter 0 (inv_long18 less y z.need (↑z.i : Int) z.i z.l) (fun (x : Cell × Int) => True) [VV.any, VV.any, i64 less, VV.any, VV.any,
 VV.any, VV.any, i64 y, VV.one (V1.c (C.ptr 0 0 0)), VV.one (V1.c (C.ptr 1 0 0)), i64 z.need, i64 (↑z.i : Int), VV.one (V1.c (C.ptr 3 0 0)), VV.any, VV.any, VV.any, VV.any, VV.any, VV.any, VV.any, i64 (↑z.i
 : Int), i64 y, boolv true, VV.any, VV.any, i64 (↑z.i : Int), VV.one (V1.c (C.str y_2)), VV.one (V1.c (C.ptr 0 0 0)), i64 y_3.fst, i64 ((1 : Int) + y_3.fst), VV.one (V1.c (C.ptr 0 0 0)), i64 y_4.fst, VV.one
 (V1.c (C.ptr 0 0 0)), i64 y_5.fst, VV.one (V1.agg [C.str y_2, C.int .i64 ((1 : Int) + y_3.fst), C.int .i64 (0 : Int), C.int .i64 (0 : Int), C.int .i64 y_4.fst, C.int .i64 y_5.fst, C.int .i64 (0 : Int),
 C.int .i64 (0 : Int), C.int .i64 (0 : Int), C.int .i64 (0 : Int)]), VV.one (V1.c (C.ptr 3 0 1)), i64 ((1 : Int) + y_3.fst), boolv false, boolv false, VV.any, VV.any, VV.any, VV.any, VV.any, VV.any, VV.any,
 VV.any, VV.any, VV.any, VV.any, VV.any, VV.any, VV.any, VV.any, VV.any, boolv true, boolv true, VV.one (V1.c (C.ptr 0 0 0)), i64 y_6.fst, VV.one (V1.c (C.ptr 0 0 0)), i64 y_7.fst, VV.one (V1.c (C.ptr 3
 0 2)), VV.one (V1.c (C.ptr 3 0 3)), VV.one (V1.c (C.ptr 3 0 5)), VV.any, VV.any, VV.any, VV.any, VV.any, VV.any, VV.any, VV.any, VV.any, VV.any, VV.any, VV.any, VV.any, VV.any, VV.any, VV.any, VV.any,
 VV.any, VV.any, VV.any, VV.any, VV.any, VV.any, VV.any, VV.any, VV.any, VV.any, VV.any, VV.any, VV.any, VV.any, VV.any, VV.any, VV.any, VV.any, VV.any, VV.any, VV.any, VV.any, VV.any, VV.any, VV.any, VV.any,
 VV.any, VV.any] [Atom.cells 48 [C.int .i64 y_7.snd], Atom.cells 25 [C.slc 2 0 z.i none], Atom.arr Kd.cell z.l, Atom.cells 44 [C.str y_2, C.int .i64 ((1 : Int) + y_3.fst), C.int .i64 y_6.fst, C.int .i64
 y_7.fst, C.int .i64 y_4.fst, C.int .i64 (1 : Int), C.int .i64 (0 : Int), C.int .i64 (0 : Int), C.int .i64 (0 : Int), C.int .i64 (0 : Int)]]) (ite2 (decide ((1 : Int) + y_3.fst = (5 : Int))) ((((0 : Int)
 ≤ y_5.snd ∧ y_5.snd < (2147483648 : Int)) ∧ (0 : Int) < (9 : Int) ∧ i64ok (9 : Int)) ∧ Into (K := KK) 0 [] [0] [VV.one (V1.c (C.ptr 0 0 0)), i64 (9 : Int)] [Atom.cells 48 [C.int .i64 y_5.snd], Atom.cells
 25 [C.slc 2 0 z.i none], Atom.arr Kd.cell z.l, Atom.cells 44 [C.str y_2, C.int .i64 ((1 : Int) + y_3.fst), C.int .i64 (0 : Int), C.int .i64 (0 : Int), C.int .i64 y_4.fst, C.int .i64 y_5.fst, C.int .i64
 (0 : Int), C.int .i64 (0 : Int), C.int .i64 (0 : Int), C.int .i64 (0 : Int)]] [VV.one (V1.c (C.ptr 0 0 0)), i64 (9 : Int)] [Atom.cells 48 [C.int .i64 y_5.snd]] ∧ ∀ (y_6 : Int × Int), ((0 : Int) ≤ y_6.fst
 ∧ y_6.fst < (9 : Int)) ∧ (0 : Int) ≤ y_6.snd ∧ y_6.snd < (2147483648 : Int) → Enter 0 (inv_long18 less y z.need (↑z.i : Int) z.i z.l) (fun (x : Cell × Int) => True) [VV.any, VV.any, i64 less, VV.any, VV.any,
 VV.any, VV.any, i64 y, VV.one (V1.c (C.ptr 0 0 0)), VV.one (V1.c (C.ptr 1 0 0)), i64 z.need, i64 (↑z.i : Int), VV.one (V1.c (C.ptr 3 0 0)), VV.any, VV.any, VV.any, VV.any, VV.any, VV.any, VV.any, i64 (↑z.i
 : Int), i64 y, boolv true, VV.any, VV.any, i64 (↑z.i : Int), VV.one (V1.c (C.str y_2)), VV.one (V1.c (C.ptr 0 0 0)), i64 y_3.fst, i64 ((1 : Int) + y_3.fst), VV.one (V1.c (C.ptr 0 0 0)), i64 y_4.fst, VV.one
 (V1.c (C.ptr 0 0 0)), i64 y_5.fst, VV.one (V1.agg [C.str y_2, C.int .i64 ((1 : Int) + y_3.fst), C.int .i64 (0 : Int), C.int .i64 (0 : Int), C.int .i64 y_4.fst, C.int .i64 y_5.fst, C.int .i64 (0 : Int),
 C.int .i64 (0 : Int), C.int .i64 (0 : Int), C.int .i64 (0 : Int)]), VV.one (V1.c (C.ptr 3 0 1)), i64 ((1 : Int) + y_3.fst), boolv false, boolv false, VV.any, VV.any, VV.any, VV.any, VV.any, VV.any, VV.any,
 VV.any, VV.any, VV.any, VV.any, VV.any, VV.any, VV.any, VV.any, VV.any, boolv false, boolv false, VV.any, VV.any, VV.any, VV.any, VV.any, VV.any, VV.any, boolv true, boolv true, VV.any, VV.one (V1.c (C.ptr
 0 0 0)), i64 y_6.fst, VV.one (V1.c (C.ptr 3 0 3)), VV.one (V1.c (C.ptr 3 0 5)), VV.any, VV.any, VV.any, VV.any, VV.any, VV.any, VV.any, VV.any, VV.any, VV.any, VV.any, VV.any, VV.any, VV.any, VV.any, VV.any,
 VV.any, VV.any, VV.any, VV.any, VV.any, VV.any, VV.any, VV.any, VV.any, VV.any, VV.any, VV.any, VV.any, VV.any, VV.any, VV.any, VV.any, VV.any, VV.any, VV.any, VV.any, VV.any] [Atom.cells 48 [C.int .i64
 y_6.snd], Atom.cells 25 [C.slc 2 0 z.i none], Atom.arr Kd.cell z.l, Atom.cells 44 [C.str y_2, C.int .i64 ((1 : Int) + y_3.fst), C.int .i64 (0 : Int), C.int .i64 y_6.fst, C.int .i64 y_4.fst, C.int .i64
 (1 : Int), C.int .i64 (0 : Int), C.int .i64 (0 : Int), C.int .i64 (0 : Int), C.int .i64 (0 : Int)]]) (ite2 (decide ((1 : Int) + y_3.fst = (6 : Int))) ((((0 : Int) ≤ y_5.snd ∧ y_5.snd < (2147483648 : Int))
 ∧ (0 : Int) < (9 : Int) ∧ i64ok (9 : Int)) ∧ Into (K := KK) 0 [] [0] [VV.one (V1.c (C.ptr 0 0 0)), i64 (9 : Int)] [Atom.cells 48 [C.int .i64 y_5.snd], Atom.cells 25 [C.slc 2 0 z.i none], Atom.arr Kd.cell
 z.l, Atom.cells 44 [C.str y_2, C.int .i64 ((1 : Int) + y_3.fst), C.int .i64 (0 : Int), C.int .i64 (0 : Int), C.int .i64 y_4.fst, C.int .i64 y_5.fst, C.int .i64 (0 : Int), C.int .i64 (0 : Int), C.int .i64
 (0 : Int), C.int .i64 (0 : Int)]] [VV.one (V1.c (C.ptr 0 0 0)), i64 (9 : Int)] [Atom.cells 48 [C.int .i64 y_5.snd]] ∧ ∀ (y_6 : Int × Int), ((0 : Int) ≤ y_6.fst ∧ y_6.fst < (9 : Int)) ∧ (0 : Int) ≤ y_6.snd
 ∧ y_6.snd < (2147483648 : Int) → Enter 0 (inv_long18 less y z.need (↑z.i : Int) z.i z.l) (fun (x : Cell × Int) => True) [VV.any, VV.any, i64 less, VV.any, VV.any, VV.any, VV.any, i64 y, VV.one (V1.c (C.ptr
 0 0 0)), VV.one (V1.c (C.ptr 1 0 0)), i64 z.need, i64 (↑z.i : Int), VV.one (V1.c (C.ptr 3 0 0)), VV.any, VV.any, VV.any, VV.any, VV.any, VV.any, VV.any, i64 (↑z.i : Int), i64 y, boolv true, VV.any, VV.any,
 i64 (↑z.i : Int), VV.one (V1.c (C.str y_2)), VV.one (V1.c (C.ptr 0 0 0)), i64 y_3.fst, i64 ((1 : Int) + y_3.fst), VV.one (V1.c (C.ptr 0 0 0)), i64 y_4.fst, VV.one (V1.c (C.ptr 0 0 0)), i64 y_5.fst, VV.one
 (V1.agg [C.str y_2, C.int .i64 ((1 : Int) + y_3.fst), C.int .i64 (0 : Int), C.int .i64 (0 : Int), C.int .i64 y_4.fst, C.int .i64 y_5.fst, C.int .i64 (0 : Int), C.int .i64 (0 : Int), C.int .i64 (0 : Int),
 C.int .i64 (0 : Int)]), VV.one (V1.c (C.ptr 3 0 1)), i64 ((1 : Int) + y_3.fst), boolv false, boolv false, VV.any, VV.any, VV.any, VV.any, VV.any, VV.any, VV.any, VV.any, VV.any, VV.any, VV.any, VV.any,
 VV.any, VV.any, VV.any, VV.any, boolv false, boolv false, VV.any, VV.any, VV.any, VV.any, VV.any, VV.any, VV.any, boolv true, boolv false, boolv true, VV.one (V1.c (C.ptr 0 0 0)), i64 y_6.fst, VV.one (V1.c
 (C.ptr 3 0 3)), VV.one (V1.c (C.ptr 3 0 5)), VV.any, VV.any, VV.any, VV.any, VV.any, VV.any, VV.any, VV.any, VV.any, VV.any, VV.any, VV.any, VV.any, VV.any, VV.any, VV.any, VV.any, VV.any, VV.any, VV.any,
 VV.any, VV.any, VV.any, VV.any, VV.any, VV.any, VV.any, VV.any, VV.any, VV.any, VV.any, VV.any, VV.any, VV.any, VV.any, VV.any, VV.any, VV.any] [Atom.cells 48 [C.int .i64 y_6.snd], Atom.cells 25 [C.slc
 2 0 z.i none], Atom.arr Kd.cell z.l, Atom.cells 44 [C.str y_2, C.int .i64 ((1 : Int) + y_3.fst), C.int .i64 (0 : Int), C.int .i64 y_6.fst, C.int .i64 y_4.fst, C.int .i64 (1 : Int), C.int .i64 (0 : Int),
 C.int .i64 (0 : Int), C.int .i64 (0 : Int), C.int .i64 (0 : Int)]]) (Enter 0 (inv_long18 less y z.need (↑z.i : Int) z.i z.l) (fun (x : Cell × Int) => True) [VV.any, VV.any, i64 less, VV.any, VV.any, VV.any,
 VV.any, i64 y, VV.one (V1.c (C.ptr 0 0 0)), VV.one (V1.c (C.ptr 1 0 0)), i64 z.need, i64 (↑z.i : Int), VV.one (V1.c (C.ptr 3 0 0)), VV.any, VV.any, VV.any, VV.any, VV.any, VV.any, VV.any, i64 (↑z.i : Int),
 i64 y, boolv true, VV.any, VV.any, i64 (↑z.i : Int), VV.one (V1.c (C.str y_2)), VV.one (V1.c (C.ptr 0 0 0)), i64 y_3.fst, i64 ((1 : Int) + y_3.fst), VV.one (V1.c (C.ptr 0 0 0)), i64 y_4.fst, VV.one (V1.c
 (C.ptr 0 0 0)), i64 y_5.fst, VV.one (V1.agg [C.str y_2, C.int .i64 ((1 : Int) + y_3.fst), C.int .i64 (0 : Int), C.int .i64 (0 : Int), C.int .i64 y_4.fst, C.int .i64 y_5.fst, C.int .i64 (0 : Int), C.int
 .i64 (0 : Int), C.int .i64 (0 : Int), C.int .i64 (0 : Int)]), VV.one (V1.c (C.ptr 3 0 1)), i64 ((1 : Int) + y_3.fst), boolv false, boolv false, VV.any, VV.any, VV.any, VV.any, VV.any, VV.any, VV.any, VV.any,
 VV.any, VV.any, VV.any, VV.any, VV.any, VV.any, VV.any, VV.any, boolv false, boolv false, VV.any, VV.any, VV.any, VV.any, VV.any, VV.any, VV.any, boolv false, boolv false, boolv false, VV.any, VV.any,
 VV.any, VV.any, VV.any, VV.any, VV.any, VV.any, VV.any, VV.any, VV.any, VV.any, VV.any, VV.any, VV.any, VV.any, VV.any, VV.any, VV.any, VV.any, VV.any, VV.any, VV.any, VV.any, VV.any, VV.any, VV.any, VV.any,
 VV.any, VV.any, VV.any, VV.any, VV.any, VV.any, VV.any, VV.any, VV.any, VV.any, VV.any, VV.any, VV.any, VV.any] [Atom.cells 48 [C.int .i64 y_5.snd], Atom.cells 25 [C.slc 2 0 z.i none], Atom.arr Kd.cell
 z.l, Atom.cells 44 [C.str y_2, C.int .i64 ((1 : Int) + y_3.fst), C.int .i64 (0 : Int), C.int .i64 (0 : Int), C.int .i64 y_4.fst, C.int .i64 y_5.fst, C.int .i64 (0 : Int), C.int .i64 (0 : Int), C.int .i64
 (0 : Int), C.int .i64 (0 : Int)]])))) ∧ ∀ (z_1 : Cell × Int), z_1.fst.Ok ∧ ((0 : Int) ≤ z_1.fst.keep ∧ z_1.fst.keep < (8 : Int)) ∧ ((0 : Int) ≤ z_1.fst.take ∧ z_1.fst.take < (8 : Int)) ∧ (0 : Int) ≤ z_1.snd
 ∧ z_1.snd < (2147483648 : Int) → i64ok (z.need + max z_1.fst.keep z_1.fst.take) ∧ z.i = z.l.length ∧ (1 ≤ 1 ∧ True) ∧ (z.l.length + 1) * 88 ≤ 140737488355328 ∧ i64ok ((↑z.i : Int) + (1 : Int)) ∧ Enter
 0 (inv_long6 less y) (fun (z' : LS) => (y - (↑z'.i : Int)).toNat < (y - (↑z.i : Int)).toNat) [VV.any, VV.any, i64 less, VV.any, VV.any, VV.any, VV.any, i64 y, VV.one (V1.c (C.ptr 0 0 0)), VV.one (V1.c
 (C.ptr 1 0 0)), i64 (z.need + max z_1.fst.keep z_1.fst.take), i64 ((↑z.i : Int) + (1 : Int)), VV.one (V1.c (C.ptr 3 0 0)), VV.any, VV.any, VV.any, VV.any, VV.any, VV.any, VV.any, VV.any, VV.any, VV.any,
 i64 (↑z.i : Int), i64 ((↑z.i : Int) + (1 : Int)), VV.any, VV.any, VV.any, VV.any, VV.any, VV.any, VV.any, VV.any, VV.any, VV.any, VV.any, VV.any, VV.any, VV.any, VV.any, VV.any, VV.any, VV.any, VV.any,
 VV.any, VV.any, VV.any, VV.any, VV.any, VV.any, VV.any, VV.any, VV.any, VV.any, VV.any, VV.any, VV.any, VV.any, VV.any, VV.any, VV.any, VV.any, VV.any, VV.any, VV.any, VV.any, VV.any, VV.any, VV.any, VV.any,
 VV.any, i64 z.need, VV.one (V1.c (C.ptr 3 0 4)), i64 z_1.fst.keep, VV.one (V1.c (C.ptr 3 0 5)), i64 z_1.fst.take, i64 (max z_1.fst.keep z_1.fst.take), i64 (z.need + max z_1.fst.keep z_1.fst.take), VV.one
 (V1.c (C.ptr 1 0 0)), VV.one (V1.c (C.slc 2 0 z.i none)), VV.one (V1.agg [C.str z_1.fst.path, C.int .i64 z_1.fst.what, C.int .i64 z_1.fst.side, C.int .i64 z_1.fst.mode, C.int .i64 z_1.fst.keep, C.int .i64
 z_1.fst.take, C.int .i64 z_1.fst.names, C.int .i64 z_1.fst.bytes, C.int .i64 z_1.fst.hadN, C.int .i64 z_1.fst.hadB]), VV.one (V1.c (C.slc 4 0 1 none)), VV.one (V1.c (C.slc 5 0 (z.l.length + 1) none)),
 VV.one (V1.c (C.ptr 1 0 0)), VV.any, VV.any, VV.any, VV.any, VV.any, VV.any, VV.any, VV.any, VV.any, VV.any, VV.any, VV.any, VV.any, VV.any, VV.any, VV.any, VV.any, VV.any, VV.any, VV.any, VV.any, VV.any,
 VV.any, VV.any, VV.any] [Atom.cells 48 [C.int .i64 z_1.snd], Atom.cells 25 [C.slc 5 0 (z.l.length + 1) none], Atom.gone, Atom.cells 44 [C.str z_1.fst.path, C.int .i64 z_1.fst.what, C.int .i64 z_1.fst.side,
 C.int .i64 z_1.fst.mode, C.int .i64 z_1.fst.keep, C.int .i64 z_1.fst.take, C.int .i64 z_1.fst.names, C.int .i64 z_1.fst.bytes, C.int .i64 z_1.fst.hadN, C.int .i64 z_1.fst.hadB], Atom.arr Kd.cell [(Cell.mk
 (z_1.fst.path) (z_1.fst.what) (z_1.fst.side) (z_1.fst.mode) (z_1.fst.keep) (z_1.fst.take) (z_1.fst.names) (z_1.fst.bytes) (z_1.fst.hadN) (z_1.fst.hadB))], Atom.arr Kd.cell (z.l ++ [(Cell.mk (z_1.fst.path)
 (z_1.fst.what) (z_1.fst.side) (z_1.fst.mode) (z_1.fst.keep) (z_1.fst.take) (z_1.fst.names) (z_1.fst.bytes) (z_1.fst.hadN) (z_1.fst.hadB))])]) (i64ok (z.need + (1 : Int)) ∧ (i64ok less ∧ i64ok (z.need +
 (1 : Int)) ∧ (0 : Int) < z.need + (1 : Int)) ∧ Into (K := KK) 0 [] [] [i64 less, i64 (z.need + (1 : Int))] [Atom.cells 48 [C.int .i64 z.x], Atom.cells 25 [C.slc 2 0 z.i none], Atom.arr Kd.cell z.l] [i64
 less, i64 (z.need + (1 : Int))] [] ∧ ∀ (y : Int), (0 : Int) ≤ y ∧ y < z.need + (1 : Int) → i64ok (z.need - y) ∧ True ∧ True ∧ Into (K := KK) 0 [] [] [] [Atom.cells 48 [C.int .i64 z.x], Atom.cells 25 [C.slc
 2 0 z.i none], Atom.arr Kd.cell z.l] [] [] ∧ ∀ (y_2 : Unit), True → True ∧ ((∀ (c : Cell), List.Mem c z.l → c.Ok) ∧ z.l.length ≤ 100000 ∧ i64ok (z.need - y)) ∧ Into (K := KK) 0 [] [2] [VV.one (V1.agg [C.slc
 2 0 z.i none]), i64 (z.need - y)] [Atom.cells 48 [C.int .i64 z.x], Atom.cells 25 [C.slc 2 0 z.i none], Atom.arr Kd.cell z.l] [VV.one (V1.agg [C.slc 0 0 z.l.length none]), i64 (z.need - y)] [Atom.ro Kd.cell
 z.l] ∧ ∀ (y_3 : Unit), True → (VV.one (V1.agg [C.slc 2 0 z.i none]) = VV.one (V1.agg [C.slc 2 0 z.i none]) ∧ True) ∧ ((∀ (c : Cell), List.Mem c z.l → c.Ok) ∧ z.l.length ≤ 100000 ∧ i64ok (z.need - y)) ∧
 Into (K := KK) 0 [] [2] [VV.one (V1.agg [C.slc 2 0 z.i none]), i64 (z.need - y)] [Atom.cells 48 [C.int .i64 z.x], Atom.cells 25 [C.slc 2 0 z.i none], Atom.arr Kd.cell z.l, Atom.arr Kd.item (ofF z.l (z.need
 - y)).items, Atom.arr Kd.int (ofF z.l (z.need - y)).left] [VV.one (V1.agg [C.slc 0 0 z.l.length none]), i64 (z.need - y)] [Atom.ro Kd.cell z.l] ∧ ∀ (y_4 : Unit), True → True ∧ ((PS.mk ((ofF z.l (z.need
 - y)).items) ((ofF z.l (z.need - y)).left) ((ofF z.l (z.need - y)).n0) ((ofF z.l (z.need - y)).b0) ((ofF z.l (z.need - y)).n1) ((ofF z.l (z.need - y)).b1) ((0 : Int)) ((0 : Int)) ((0 : Int)) ((0 : Int)))
 = (PS.mk ((ofF z.l (z.need - y)).items) ((ofF z.l (z.need - y)).left) ((ofF z.l (z.need - y)).n0) ((ofF z.l (z.need - y)).b0) ((ofF z.l (z.need - y)).n1) ((ofF z.l (z.need - y)).b1) ((0 : Int)) ((0 : Int))
 ((0 : Int)) ((0 : Int))) ∧ i64ok (↑(ofF z.l (z.need - y)).items.length : Int) ∧ i64ok (↑(ofF z.l (z.need - y)).left.length : Int)) ∧ Into (K := KK) 0 [] [3, 4, 5, 6] [VV.one (V1.agg [C.slc 3 0 (ofF z.l
 (z.need - y)).items.length none, C.slc 4 0 (ofF z.l (z.need - y)).left.length none, C.int .i64 (ofF z.l (z.need - y)).n0, C.int .i64 (ofF z.l (z.need - y)).b0, C.int .i64 (ofF z.l (z.need - y)).n1, C.int
 .i64 (ofF z.l (z.need - y)).b1]), VV.one (V1.agg [C.slc 5 0 (ofF z.l (z.need - y)).items.length none, C.slc 6 0 (ofF z.l (z.need - y)).left.length none, C.int .i64 (ofF z.l (z.need - y)).n0, C.int .i64
 (ofF z.l (z.need - y)).b0, C.int .i64 (ofF z.l (z.need - y)).n1, C.int .i64 (ofF z.l (z.need - y)).b1])] [Atom.cells 48 [C.int .i64 z.x], Atom.cells 25 [C.slc 2 0 z.i none], Atom.arr Kd.cell z.l, Atom.arr
 Kd.item (ofF z.l (z.need - y)).items, Atom.arr Kd.int (ofF z.l (z.need - y)).left, Atom.arr Kd.item (ofF z.l (z.need - y)).items, Atom.arr Kd.int (ofF z.l (z.need - y)).left] [VV.one (V1.agg [C.slc 0 0
 (ofF z.l (z.need - y)).items.length none, C.slc 1 0 (ofF z.l (z.need - y)).left.length none, C.int .i64 (ofF z.l (z.need - y)).n0, C.int .i64 (ofF z.l (z.need - y)).b0, C.int .i64 (ofF z.l (z.need - y)).n1,
 C.int .i64 (ofF z.l (z.need - y)).b1]), VV.one (V1.agg [C.slc 2 0 (ofF z.l (z.need - y)).items.length none, C.slc 3 0 (ofF z.l (z.need - y)).left.length none, C.int .i64 (ofF z.l (z.need - y)).n0, C.int
 .i64 (ofF z.l (z.need - y)).b0, C.int .i64 (ofF z.l (z.need - y)).n1, C.int .i64 (ofF z.l (z.need - y)).b1])] [Atom.ro Kd.item (ofF z.l (z.need - y)).items, Atom.ro Kd.int (ofF z.l (z.need - y)).left,
 Atom.ro Kd.item (ofF z.l (z.need - y)).items, Atom.ro Kd.int (ofF z.l (z.need - y)).left] ∧ ∀ (y_5 : Unit), True → True ∧ ((∀ (c : Cell), List.Mem c z.l → c.Ok) ∧ z.l.length ≤ 100000 ∧ i64ok z.need) ∧
 Into (K := KK) 0 [] [2] [VV.one (V1.agg [C.slc 2 0 z.i none]), i64 z.need] [Atom.cells 48 [C.int .i64 z.x], Atom.cells 25 [C.slc 2 0 z.i none], Atom.arr Kd.cell z.l, Atom.arr Kd.item (ofF z.l (z.need -
 y)).items, Atom.arr Kd.int (ofF z.l (z.need - y)).left, Atom.arr Kd.item (ofF z.l (z.need - y)).items, Atom.arr Kd.int (ofF z.l (z.need - y)).left] [VV.one (V1.agg [C.slc 0 0 z.l.length none]), i64 z.need]
 [Atom.ro Kd.cell z.l] ∧ ∀ (y_6 : Unit), True → (VV.one (V1.agg [C.slc 2 0 z.i none]) = VV.one (V1.agg [C.slc 2 0 z.i none]) ∧ True) ∧ ((∀ (c : Cell), List.Mem c z.l → c.Ok) ∧ z.l.length ≤ 100000 ∧ i64ok
 z.need) ∧ Into (K := KK) 0 [] [2] [VV.one (V1.agg [C.slc 2 0 z.i none]), i64 z.need] [Atom.cells 48 [C.int .i64 z.x], Atom.cells 25 [C.slc 2 0 z.i none], Atom.arr Kd.cell z.l, Atom.arr Kd.item (ofF z.l
 (z.need - y)).items, Atom.arr Kd.int (ofF z.l (z.need - y)).left, Atom.arr Kd.item (ofF z.l (z.need - y)).items, Atom.arr Kd.int (ofF z.l (z.need - y)).left, Atom.arr Kd.item (ofF z.l z.need).items, Atom.arr
 Kd.int (ofF z.l z.need).left] [VV.one (V1.agg [C.slc 0 0 z.l.length none]), i64 z.need] [Atom.ro Kd.cell z.l] ∧ ∀ (y_7 : Unit), True → True ∧ ((PS.mk ((ofF z.l z.need).items) ((ofF z.l z.need).left) ((ofF
 z.l z.need).n0) ((ofF z.l z.need).b0) ((ofF z.l z.need).n1) ((ofF z.l z.need).b1) ((0 : Int)) ((0 : Int)) ((0 : Int)) ((0 : Int))) = (PS.mk ((ofF z.l z.need).items) ((ofF z.l z.need).left) ((ofF z.l z.need).n0)
 ((ofF z.l z.need).b0) ((ofF z.l z.need).n1) ((ofF z.l z.need).b1) ((0 : Int)) ((0 : Int)) ((0 : Int)) ((0 : Int))) ∧ i64ok (↑(ofF z.l z.need).items.length : Int) ∧ i64ok (↑(ofF z.l z.need).left.length
 : Int)) ∧ Into (K := KK) 0 [] [7, 8, 9, 10] [VV.one (V1.agg [C.slc 7 0 (ofF z.l z.need).items.length none, C.slc 8 0 (ofF z.l z.need).left.length none, C.int .i64 (ofF z.l z.need).n0, C.int .i64 (ofF z.l
 z.need).b0, C.int .i64 (ofF z.l z.need).n1, C.int .i64 (ofF z.l z.need).b1]), VV.one (V1.agg [C.slc 9 0 (ofF z.l z.need).items.length none, C.slc 10 0 (ofF z.l z.need).left.length none, C.int .i64 (ofF
 z.l z.need).n0, C.int .i64 (ofF z.l z.need).b0, C.int .i64 (ofF z.l z.need).n1, C.int .i64 (ofF z.l z.need).b1])] [Atom.cells 48 [C.int .i64 z.x], Atom.cells 25 [C.slc 2 0 z.i none], Atom.arr Kd.cell z.l,
 Atom.arr Kd.item (ofF z.l (z.need - y)).items, Atom.arr Kd.int (ofF z.l (z.need - y)).left, Atom.arr Kd.item (ofF z.l (z.need - y)).items, Atom.arr Kd.int (ofF z.l (z.need - y)).left, Atom.arr Kd.item
 (ofF z.l z.need).items, Atom.arr Kd.int (ofF z.l z.need).left, Atom.arr Kd.item (ofF z.l z.need).items, Atom.arr Kd.int (ofF z.l z.need).left] [VV.one (V1.agg [C.slc 0 0 (ofF z.l z.need).items.length none,
 C.slc 1 0 (ofF z.l z.need).left.length none, C.int .i64 (ofF z.l z.need).n0, C.int .i64 (ofF z.l z.need).b0, C.int .i64 (ofF z.l z.need).n1, C.int .i64 (ofF z.l z.need).b1]), VV.one (V1.agg [C.slc 2 0
 (ofF z.l z.need).items.length none, C.slc 3 0 (ofF z.l z.need).left.length none, C.int .i64 (ofF z.l z.need).n0, C.int .i64 (ofF z.l z.need).b0, C.int .i64 (ofF z.l z.need).n1, C.int .i64 (ofF z.l z.need).b1])]
 [Atom.ro Kd.item (ofF z.l z.need).items, Atom.ro Kd.int (ofF z.l z.need).left, Atom.ro Kd.item (ofF z.l z.need).items, Atom.ro Kd.int (ofF z.l z.need).left] ∧ ∀ (y_8 : Unit), True → True ∧ True ∧ EndsAs
 0 (ct_planLong seed count less) (boolv true) [Atom.cells 48 [C.int .i64 z.x], Atom.cells 25 [C.slc 2 0 z.i none], Atom.arr Kd.cell z.l, Atom.arr Kd.item (ofF z.l (z.need - y)).items, Atom.arr Kd.int (ofF
 z.l (z.need - y)).left, Atom.arr Kd.item (ofF z.l (z.need - y)).items, Atom.arr Kd.int (ofF z.l (z.need - y)).left, Atom.arr Kd.item (ofF z.l z.need).items, Atom.arr Kd.int (ofF z.l z.need).left, Atom.arr
 Kd.item (ofF z.l z.need).items, Atom.arr Kd.int (ofF z.l z.need).left])) := by kernel_rfl
end Go.Proofs.Ytljamcgngojaeaa.T
namespace Go.Proofs.Ytljamcgngojaeaa.T
open Go.Proofs.Ytljamcgngojaeaa.E
set_option maxRecDepth 100000
set_option linter.unusedVariables false
theorem cell_snoc {l : List Cell} {c : Cell} (h : Cells l) (hc : c.Ok) : Cells (l ++ [c]) := fun d hd => by
  rcases List.mem_append.1 hd with hd | hd
  · exact h d hd
  · obtain rfl := List.mem_singleton.1 hd
    exact hc
theorem cell_mk {p : ByteArray} {a b c d e f g h i : Int} (ha : i64ok a ∧ i64ok b ∧ i64ok c ∧ i64ok d ∧ i64ok e ∧ i64ok f ∧ i64ok g ∧ i64ok h ∧ i64ok i) : (Cell.mk p a b c d e f g h i).Ok := ⟨ha.1, ha.2.1, ha.2.2.1, ha.2.2.2.1, ha.2.2.2.2.1, ha.2.2.2.2.2.1, ha.2.2.2.2.2.2.1, ha.2.2.2.2.2.2.2.1, ha.2.2.2.2.2.2.2.2⟩
set_option maxHeartbeats 8000000 in
theorem planLong_ok (seed count less : Int) : CtOk Try.prog 6 (ct_planLong seed count less) := CtOk_of KK_ok tab16 (annLong less) (fn := Try.f6) rfl (fun _ _ => rfl) fun hn => by
  obtain ⟨h1, h2, h3⟩ := hn
  rw [vc_planLong]
  refine ⟨⟨h2, by unfold i64ok; decide, by decide⟩, into_mk (by kernel_rfl) (by (repeat' first | exact trivial | exact rfl | apply And.intro)) (by (repeat' first | exact trivial | exact rfl | apply And.intro)), fun n hn => ⟨⟨h1, by unfold i64ok; decide, by decide⟩, into_mk (by kernel_rfl) (by (repeat' first | exact trivial | exact rfl | apply And.intro)) (by (repeat' first | exact trivial | exact rfl | apply And.intro)), fun x0 hx0 => ⟨⟨(⟨0, [], 0, x0⟩ : LS), [.cell], [0, 1, 2], ⟨hn.1, rfl, fun c hc => (by cases hc), ⟨Int.le_refl _, by simp⟩, hx0.1, by show x0 < 2147483648; omega⟩, trivial, into_mk (by kernel_rfl) (by (repeat' first | exact trivial | exact rfl | apply And.intro)) (by (repeat' first | exact trivial | exact rfl | apply And.intro))⟩, fun z hz => ?_⟩⟩⟩
  obtain ⟨i, l, need, x⟩ := z
  obtain ⟨hi, hll, hc, hnd, hx⟩ := hz
  simp only [] at hi hll hc hnd hx
  dsimp only
  subst hll
  have hI : ∀ a, i64ok ((ofF l a).items.length : Int) := fun a => by
    have : (ofF l a).items.length ≤ l.length := (ofS_items l (leftOf l a) l.length).1
    unfold i64ok; omega
  have hJ : ∀ a, i64ok ((ofF l a).left.length : Int) := fun a => by
    have e : (ofF l a).left = bl (leftOf l a) l.length := ofS_left _ _ _
    have : (ofF l a).left.length ≤ l.length := by rw [e]; exact bl_le _ _
    unfold i64ok; omega
  refine ite2_decide (fun hlt => ?_) (fun hge => ?_)
  · repeat' first | exact trivial | exact rfl | exact hx | exact hc | exact hI _ | exact hJ _ | omega | (intro _ _) | apply And.intro
    · refine ite2_decide (fun h3 => ?_) (fun h3 => ite2_decide (fun h2 => ?_) (fun h2 => ite2_decide (fun h5 => ?_) (fun h5 => ite2_decide (fun h6 => ?_) (fun h6 => ?_))))
      · repeat' first | exact trivial | exact rfl | exact hx | exact hc | exact hI _ | exact hJ _ | omega | (intro _ _) | apply And.intro
        rename_i y2 k2 y3 k3 y4 k4 y5 k5 y6 k6 y7 k7 y8 k8 y9 k9
        refine ⟨((Cell.mk y2 (1 + y3.1) (1 + y6.1) 0 y4.1 y5.1 y5.1 y7.1 y8.1 y9.1, y9.2) : Cell × Int), [], [0, 1, 2, 3], ⟨cell_mk (by unfold i64ok; omega), ?_⟩, trivial, into_mk (by kernel_rfl) (by (repeat' first | exact trivial | exact rfl | apply And.intro)) (by (repeat' first | exact trivial | exact rfl | apply And.intro))⟩
        dsimp only
        omega
      · repeat' first | exact trivial | exact rfl | exact hx | exact hc | exact hI _ | exact hJ _ | omega | (intro _ _) | apply And.intro
        rename_i y2 k2 y3 k3 y4 k4 y5 k5 y6 k6 y7 k7
        refine ⟨((Cell.mk y2 (1 + y3.1) y6.1 y7.1 y4.1 1 0 0 0 0, y7.2) : Cell × Int), [], [0, 1, 2, 3], ⟨cell_mk (by unfold i64ok; omega), ?_⟩, trivial, into_mk (by kernel_rfl) (by (repeat' first | exact trivial | exact rfl | apply And.intro)) (by (repeat' first | exact trivial | exact rfl | apply And.intro))⟩
        dsimp only
        omega
      · repeat' first | exact trivial | exact rfl | exact hx | exact hc | exact hI _ | exact hJ _ | omega | (intro _ _) | apply And.intro
        rename_i y2 k2 y3 k3 y4 k4 y5 k5 y6 k6
        refine ⟨((Cell.mk y2 (1 + y3.1) 0 y6.1 y4.1 1 0 0 0 0, y6.2) : Cell × Int), [], [0, 1, 2, 3], ⟨cell_mk (by unfold i64ok; omega), ?_⟩, trivial, into_mk (by kernel_rfl) (by (repeat' first | exact trivial | exact rfl | apply And.intro)) (by (repeat' first | exact trivial | exact rfl | apply And.intro))⟩
        dsimp only
        omega
      · repeat' first | exact trivial | exact rfl | exact hx | exact hc | exact hI _ | exact hJ _ | omega | (intro _ _) | apply And.intro
        rename_i y2 k2 y3 k3 y4 k4 y5 k5 y6 k6
        refine ⟨((Cell.mk y2 (1 + y3.1) 0 y6.1 y4.1 1 0 0 0 0, y6.2) : Cell × Int), [], [0, 1, 2, 3], ⟨cell_mk (by unfold i64ok; omega), ?_⟩, trivial, into_mk (by kernel_rfl) (by (repeat' first | exact trivial | exact rfl | apply And.intro)) (by (repeat' first | exact trivial | exact rfl | apply And.intro))⟩
        dsimp only
        omega
      · rename_i y2 k2 y3 k3 y4 k4 y5 k5
        refine ⟨((Cell.mk y2 (1 + y3.1) 0 0 y4.1 y5.1 0 0 0 0, y5.2) : Cell × Int), [], [0, 1, 2, 3], ⟨cell_mk (by unfold i64ok; omega), ?_⟩, trivial, into_mk (by kernel_rfl) (by (repeat' first | exact trivial | exact rfl | apply And.intro)) (by (repeat' first | exact trivial | exact rfl | apply And.intro))⟩
        dsimp only
        omega
    · rename_i z1 kz
      refine ⟨(⟨l.length + 1, l ++ [z1.1], need + max z1.1.keep z1.1.take, z1.2⟩ : LS), [], [0, 1, 5], ⟨?_, ?_, cell_snoc hc kz.1, ?_⟩, ?_, into_mk (by kernel_rfl) (by (repeat' first | exact trivial | exact rfl | apply And.intro)) (by (repeat' first | exact trivial | exact rfl | apply And.intro))⟩
      · dsimp only; omega
      · simp
      · dsimp only; omega
      · dsimp only; omega
  · repeat' first | exact trivial | exact rfl | exact hx | exact hc | exact hI _ | exact hJ _ | omega | (intro _ _) | apply And.intro
    exact ⟨(), [], [], trivial, by (repeat' first | exact trivial | exact rfl | apply And.intro)⟩
end Go.Proofs.Ytljamcgngojaeaa.T
