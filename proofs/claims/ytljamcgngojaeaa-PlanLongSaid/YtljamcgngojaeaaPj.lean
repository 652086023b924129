/- The plan: known. -/
import Derived.Test.YtljamcgngojaeaaPi
namespace Go.Proofs.Ytljamcgngojaeaa.T
open Go.Proofs.Ytljamcgngojaeaa.E
set_option maxRecDepth 100000
set_option linter.unusedVariables false
def tab8 : Tab Try.prog KK := ⟨mixed, fun f args H => match f, args with
  | 22, [.one (.c (.slc n 0 len none)), .one (.c (.slc m 0 len' none))] => match getL .int (at_ H n), getL .int (at_ H m) with
    | some a, some b => some (ct_sameInts a b, [], [n, m])
    | _, _ => none
  | f, args => tab7.pick f args H, fun f args H ct ks τ h => by
    split at h
    · split at h
      · cases h; exact sameInts_ok _ _
      · cases h
    · exact tab7.ok _ _ _ _ _ _ h⟩
def c5 : List Cell := [Cell.mk ⟨#[]⟩ 2 0 0 1 1 0 0 0 0, Cell.mk ⟨#[97]⟩ 3 1 0 0 3 3 100 1 40, Cell.mk ⟨#[98]⟩ 1 0 0 0 2 0 0 0 0, Cell.mk ⟨#[99]⟩ 3 2 0 2 0 0 0 0 0, Cell.mk ⟨#[100]⟩ 3 1 0 1 4 2 10 0 0]
def ct_known : Ct KK := { need := True, pre := [], args := [], Y := Unit, ok := fun _ => True, ret := fun _ => boolv true, post := fun _ => [] }
theorem vc_known (u : Unit) : evFn tab8 ann0 Try.f10 ct_known = ( True ∧ ((∀ (c : Cell), List.Mem c c5 → c.Ok) ∧ 5 ≤ 100000 ∧ i64ok (12 : Int)) ∧ Into (K := KK) 0 [] [0] [VV.one (V1.agg [C.slc 0 0 5 none]), i64 (12 : Int)] [Atom.arr Kd.cell c5, Atom.cells 25 [C.slc
 0 0 5 none], Atom.gone, Atom.gone, Atom.gone] [VV.one (V1.agg [C.slc 0 0 5 none]), i64 (12 : Int)] [Atom.ro Kd.cell c5] ∧ ∀ (y : Unit), True → (VV.one (V1.agg [C.slc 0 0 5 none]) = VV.one (V1.agg [C.slc
 0 0 5 none]) ∧ VV.one (V1.agg [C.slc 0 0 5 none]) = VV.one (V1.agg [C.slc 0 0 5 none]) ∧ True) ∧ ((∀ (c : Cell), List.Mem c c5 → c.Ok) ∧ 5 ≤ 100000 ∧ i64ok (11 : Int)) ∧ Into (K := KK) 0 [] [0] [VV.one
 (V1.agg [C.slc 0 0 5 none]), i64 (11 : Int)] [Atom.arr Kd.cell c5, Atom.cells 25 [C.slc 0 0 5 none], Atom.gone, Atom.gone, Atom.gone, Atom.arr Kd.item (ofF c5 (12 : Int)).items, Atom.arr Kd.int (ofF c5
 (12 : Int)).left] [VV.one (V1.agg [C.slc 0 0 5 none]), i64 (11 : Int)] [Atom.ro Kd.cell c5] ∧ ∀ (y : Unit), True → (VV.one (V1.agg [C.slc 0 0 5 none]) = VV.one (V1.agg [C.slc 0 0 5 none]) ∧ True) ∧ ((∀
 (c : Cell), List.Mem c c5 → c.Ok) ∧ 5 ≤ 100000 ∧ i64ok (3 : Int)) ∧ Into (K := KK) 0 [] [0] [VV.one (V1.agg [C.slc 0 0 5 none]), i64 (3 : Int)] [Atom.arr Kd.cell c5, Atom.cells 25 [C.slc 0 0 5 none], Atom.gone,
 Atom.gone, Atom.gone, Atom.arr Kd.item (ofF c5 (12 : Int)).items, Atom.arr Kd.int (ofF c5 (12 : Int)).left, Atom.arr Kd.item (ofF c5 (11 : Int)).items, Atom.arr Kd.int (ofF c5 (11 : Int)).left] [VV.one
 (V1.agg [C.slc 0 0 5 none]), i64 (3 : Int)] [Atom.ro Kd.cell c5] ∧ ∀ (y : Unit), True → True ∧ True ∧ True ∧ True ∧ i64ok (1 : Int) ∧ Into (K := KK) 0 [] [8, 11] [VV.one (V1.c (C.slc 8 0 1 none)), VV.one
 (V1.c (C.slc 11 0 1 none))] [Atom.arr Kd.cell c5, Atom.cells 25 [C.slc 0 0 5 none], Atom.cells 34 [C.slc 5 0 3 none, C.slc 6 0 0 none, C.int .i64 (0 : Int), C.int .i64 (0 : Int), C.int .i64 (4 : Int),
 C.int .i64 (100 : Int)], Atom.cells 34 [C.slc 7 0 2 none, C.slc 8 0 1 none, C.int .i64 (0 : Int), C.int .i64 (0 : Int), C.int .i64 (3 : Int), C.int .i64 (100 : Int)], Atom.cells 34 [C.slc 9 0 1 none, C.slc
 10 0 3 none, C.int .i64 (0 : Int), C.int .i64 (0 : Int), C.int .i64 (0 : Int), C.int .i64 (0 : Int)], Atom.arr Kd.item (ofF c5 (12 : Int)).items, Atom.arr Kd.int (ofF c5 (12 : Int)).left, Atom.arr Kd.item
 (ofF c5 (11 : Int)).items, Atom.arr Kd.int (ofF c5 (11 : Int)).left, Atom.arr Kd.item (ofF c5 (3 : Int)).items, Atom.arr Kd.int (ofF c5 (3 : Int)).left, Atom.arr Kd.int [(4 : Int)]] [VV.one (V1.c (C.slc
 0 0 1 none)), VV.one (V1.c (C.slc 1 0 1 none))] [Atom.ro Kd.int (ofF c5 (11 : Int)).left, Atom.ro Kd.int [(4 : Int)]] ∧ ∀ (y : Unit), True → i64ok (3 : Int) ∧ Into (K := KK) 0 [] [10, 12] [VV.one (V1.c
 (C.slc 10 0 3 none)), VV.one (V1.c (C.slc 12 0 3 none))] [Atom.arr Kd.cell c5, Atom.cells 25 [C.slc 0 0 5 none], Atom.cells 34 [C.slc 5 0 3 none, C.slc 6 0 0 none, C.int .i64 (0 : Int), C.int .i64 (0 :
 Int), C.int .i64 (4 : Int), C.int .i64 (100 : Int)], Atom.cells 34 [C.slc 7 0 2 none, C.slc 8 0 1 none, C.int .i64 (0 : Int), C.int .i64 (0 : Int), C.int .i64 (3 : Int), C.int .i64 (100 : Int)], Atom.cells
 34 [C.slc 9 0 1 none, C.slc 10 0 3 none, C.int .i64 (0 : Int), C.int .i64 (0 : Int), C.int .i64 (0 : Int), C.int .i64 (0 : Int)], Atom.arr Kd.item (ofF c5 (12 : Int)).items, Atom.arr Kd.int (ofF c5 (12
 : Int)).left, Atom.arr Kd.item (ofF c5 (11 : Int)).items, Atom.arr Kd.int (ofF c5 (11 : Int)).left, Atom.arr Kd.item (ofF c5 (3 : Int)).items, Atom.arr Kd.int (ofF c5 (3 : Int)).left, Atom.arr Kd.int [(4
 : Int)], Atom.arr Kd.int [(1 : Int), (2 : Int), (4 : Int)]] [VV.one (V1.c (C.slc 0 0 3 none)), VV.one (V1.c (C.slc 1 0 3 none))] [Atom.ro Kd.int (ofF c5 (3 : Int)).left, Atom.ro Kd.int [(1 : Int), (2 :
 Int), (4 : Int)]] ∧ ∀ (y : Unit), True → ((0 : Int) ≤ (1 : Int) ∧ (1 : Int) < (3 : Int)) ∧ 1 < 3 ∧ True ∧ 1 < 3 ∧ True ∧ True ∧ EndsAs 0 ct_known (boolv true) [Atom.arr Kd.cell c5, Atom.cells 25 [C.slc
 0 0 5 none], Atom.cells 34 [C.slc 5 0 3 none, C.slc 6 0 0 none, C.int .i64 (0 : Int), C.int .i64 (0 : Int), C.int .i64 (4 : Int), C.int .i64 (100 : Int)], Atom.cells 34 [C.slc 7 0 2 none, C.slc 8 0 1 none,
 C.int .i64 (0 : Int), C.int .i64 (0 : Int), C.int .i64 (3 : Int), C.int .i64 (100 : Int)], Atom.cells 34 [C.slc 9 0 1 none, C.slc 10 0 3 none, C.int .i64 (0 : Int), C.int .i64 (0 : Int), C.int .i64 (0
 : Int), C.int .i64 (0 : Int)], Atom.arr Kd.item (ofF c5 (12 : Int)).items, Atom.arr Kd.int (ofF c5 (12 : Int)).left, Atom.arr Kd.item (ofF c5 (11 : Int)).items, Atom.arr Kd.int (ofF c5 (11 : Int)).left,
 Atom.arr Kd.item (ofF c5 (3 : Int)).items, Atom.arr Kd.int (ofF c5 (3 : Int)).left, Atom.arr Kd.int [(4 : Int)], Atom.arr Kd.int [(1 : Int), (2 : Int), (4 : Int)], Atom.cells 42 [C.int .i64 (2 : Int),
 C.int .i64 (3 : Int), C.str (ByteArray.mk (#[(99 : UInt8)])), C.int .i64 (3 : Int), C.int .i64 (1 : Int), C.int .i64 (0 : Int), C.int .i64 (0 : Int)]]) := by kernel_rfl
theorem c5_ok : Cells c5 := by
  intro c hc
  simp only [c5, List.mem_cons, List.not_mem_nil, or_false] at hc
  rcases hc with rfl | rfl | rfl | rfl | rfl <;> constructor <;> (simp only [i64ok]; decide)
theorem i64d {z : Int} (h : decide (-9223372036854775808 ≤ z ∧ z ≤ 9223372036854775807) = true) : i64ok z := by simpa [i64ok] using of_decide_eq_true h
theorem known_ok : CtOk Try.prog 10 ct_known := CtOk_of KK_ok tab8 ann0 (fn := Try.f10) rfl (fun _ _ => rfl) fun hn => by
  rw [vc_known ()]
  have c := c5_ok
  refine ⟨trivial, ⟨c, by decide, i64d rfl⟩, into_mk (by kernel_rfl) (by (repeat' first | exact trivial | exact rfl | apply And.intro)) (by (repeat' first | exact trivial | exact rfl | apply And.intro)), fun _ _ => ⟨⟨rfl, rfl, trivial⟩, ⟨c, by decide, i64d rfl⟩, into_mk (by kernel_rfl) (by (repeat' first | exact trivial | exact rfl | apply And.intro)) (by (repeat' first | exact trivial | exact rfl | apply And.intro)), fun _ _ => ⟨⟨rfl, trivial⟩, ⟨c, by decide, i64d rfl⟩, into_mk (by kernel_rfl) (by (repeat' first | exact trivial | exact rfl | apply And.intro)) (by (repeat' first | exact trivial | exact rfl | apply And.intro)), fun _ _ => ⟨trivial, trivial, trivial, trivial, i64d rfl, into_mk (by kernel_rfl) (by (repeat' first | exact trivial | exact rfl | apply And.intro)) (by (repeat' first | exact trivial | exact rfl | apply And.intro)), fun _ _ => ⟨i64d rfl, into_mk (by kernel_rfl) (by (repeat' first | exact trivial | exact rfl | apply And.intro)) (by (repeat' first | exact trivial | exact rfl | apply And.intro)), fun _ _ => ⟨⟨by decide, by decide⟩, by decide, trivial, by decide, trivial, trivial, ?_⟩⟩⟩⟩⟩⟩
  refine ⟨(), [], [], trivial, ?_⟩
  (repeat' first | exact trivial | exact rfl | apply And.intro)
end Go.Proofs.Ytljamcgngojaeaa.T
