/- The room: texts are laid; what is behind them is looked at. -/
import Derived.Test.YtnmidichehjbgaaTe
import Derived.Test.YtnmidichehjbgaaTa
import Derived.Test.YtnmidichehjbgaaEk
namespace Go.Proofs.Ytnmidichehjbgaa.T
open Go.Proofs.Ytnmidichehjbgaa.E
set_option maxRecDepth 100000
set_option linter.unusedVariables false
def words (n : Nat) : List ByteArray := (List.range n).map fun i : Nat => wordF i
/-- How long a list is with its marks. -/
def far (l : List ByteArray) : Nat := l.length + 40
def layPost (l : List ByteArray) (ts : List RS) (ps : List Int) (φ : Bag KK) (y : Nat × Nat) : VH KK := [.cells 40 (roomC (.slc 5 0 (ts.length + 1) none) (.slc 6 0 (ps.length + 1) none)), .gone, .gone, .gone, .bag (bput φ y.1 (.row Kd.str y.2 (l ++ words 40))), .arr .rstr (ts ++ [RS.mk y.1 0 (far l) y.2]), .arr .int (ps ++ [(l.length : Int)])]
def ct_lay (l : List ByteArray) (ts : List RS) (ps : List Int) (φ : Bag KK) : Ct KK := { need := l.length ≤ 1000000 ∧ ts.length ≤ 1000 ∧ ps.length ≤ 1000, pre := roomH ts ps ++ [.ro .str l, .bag φ], args := [.c (.ptr 0 0 0), .c (.slc 3 0 l.length none), i64 40], Y := Nat × Nat, ok := fun y => φ y.1 = none ∧ far l ≤ y.2, ret := fun y => .c (.rs 9 1 (.mk y.1 0 l.length (far l))), post := layPost l ts ps φ }
def inv_lay (l : List ByteArray) (ts : List RS) (ps : List Int) (φ : Bag KK) : Inv KK := { X := Nat, fr := fun i => [.c (.ptr 0 0 0), .c (.slc 3 0 l.length none), i64 40, .any, .any, .any, .any, .c (.slc 5 0 (l.length + i) none), i64 i] ++ anys 41, H := fun i => roomH ts ps ++ [.ro .str l, .bag φ, .arr .str (l ++ words i)], ok := fun i => i ≤ 40, meas := fun i : Nat => 40 - i }
def ann_lay (l : List ByteArray) (ts : List RS) (ps : List Int) (φ : Bag KK) : Ann KK := { loop := fun _ _ _ => some (inv_lay l ts ps φ), cut := fun _ _ _ => none, frz := fun | 7 => [(7, 9)] | _ => [] }
theorem vc_lay (l : List ByteArray) (ts : List RS) (ps : List Int) (φ : Bag KK) : evFn tab1 (ann_lay l ts ps φ) Try.f13 (ct_lay l ts ps φ) = ( 0 = 0 ∧ (0 + l.length ≤ l.length ∧ True) ∧ (0 + (List.take l.length l).length) * 16 ≤ 140737488355328 ∧ Enter (1 + 1 + 1 + 1 + 1) (inv_lay l ts ps φ) (fun (x : Nat) => True) [VV.one (V1.c (C.ptr 0 0 0)),
 VV.one (V1.c (C.slc 3 0 l.length none)), i64 (40 : Int), VV.any, VV.any, VV.any, VV.one (V1.c C.nils), VV.one (V1.c (C.slc 6 0 (0 + (List.take l.length l).length) none)), i64 (0 : Int), VV.one (V1.c (C.slc
 5 0 0 none)), VV.one (V1.c (C.slc 5 0 0 none)), VV.one (V1.c (C.slc 3 0 l.length none)), VV.one (V1.c (C.slc 6 0 (0 + (List.take l.length l).length) none)), VV.any, VV.any, VV.any, VV.any, VV.any, VV.any,
 VV.any, VV.any, VV.any, VV.any, VV.any, VV.any, VV.any, VV.any, VV.any, VV.any, VV.any, VV.any, VV.any, VV.any, VV.any, VV.any, VV.any, VV.any, VV.any, VV.any, VV.any, VV.any, VV.any, VV.any, VV.any, VV.any,
 VV.any, VV.any, VV.any, VV.any, VV.any] [Atom.cells 40 [C.nils, C.nils, C.nils, C.nils, C.slc 1 0 ts.length none, C.slc 2 0 ps.length none, C.nils, C.nils, C.nils, C.nils, C.nils, C.nils, C.nils, C.nils,
 C.nils, C.nils, C.nils, C.nils, C.nils, C.nils, C.nils, C.nils, C.nils, C.nils, C.nils, C.nils], Atom.arr Kd.rstr ts, Atom.arr Kd.int ps, Atom.ro Kd.str l, Atom.bag φ, Atom.gone, Atom.arr Kd.str (List.take
 l.length l)] ∧ ∀ (z : Nat), z ≤ 40 → ite2 (decide ((↑z : Int) < (40 : Int))) (True ∧ Into (K := KK) 0 [] [] [i64 (↑z : Int)] [Atom.cells 40 [C.nils, C.nils, C.nils, C.nils, C.slc 1 0 ts.length none, C.slc
 2 0 ps.length none, C.nils, C.nils, C.nils, C.nils, C.nils, C.nils, C.nils, C.nils, C.nils, C.nils, C.nils, C.nils, C.nils, C.nils, C.nils, C.nils, C.nils, C.nils, C.nils, C.nils], Atom.arr Kd.rstr ts,
 Atom.arr Kd.int ps, Atom.ro Kd.str l, Atom.bag φ, Atom.arr Kd.str (l ++ words z)] [i64 (↑z : Int)] [] ∧ ∀ (y : Unit), True → l.length + z = (l ++ words z).length ∧ (1 ≤ 1 ∧ True) ∧ ((l ++ words z).length
 + 1) * 16 ≤ 140737488355328 ∧ i64ok ((↑z : Int) + (1 : Int)) ∧ Enter (1 + 1 + 1 + 1 + 1) (inv_lay l ts ps φ) (fun (z' : Nat) => 40 - z' < 40 - z) [VV.one (V1.c (C.ptr 0 0 0)), VV.one (V1.c (C.slc 3 0 l.length
 none)), i64 (40 : Int), VV.any, VV.any, VV.any, VV.any, VV.one (V1.c (C.slc 7 0 ((l ++ words z).length + 1) none)), i64 ((↑z : Int) + (1 : Int)), VV.any, VV.any, VV.any, VV.any, i64 (↑z : Int), i64 (40
 : Int), boolv true, i64 (↑z : Int), i64 ((↑z : Int) + (1 : Int)), VV.one (V1.c (C.slc 5 0 (l.length + z) none)), i64 (↑z : Int), VV.one (V1.c (C.str (wordF (↑z : Int)))), VV.one (V1.c (C.slc 6 0 1 none)),
 VV.one (V1.c (C.slc 7 0 ((l ++ words z).length + 1) none)), VV.any, VV.any, VV.any, VV.any, VV.any, VV.any, VV.any, VV.any, VV.any, VV.any, VV.any, VV.any, VV.any, VV.any, VV.any, VV.any, VV.any, VV.any,
 VV.any, VV.any, VV.any, VV.any, VV.any, VV.any, VV.any, VV.any, VV.any] [Atom.cells 40 [C.nils, C.nils, C.nils, C.nils, C.slc 1 0 ts.length none, C.slc 2 0 ps.length none, C.nils, C.nils, C.nils, C.nils,
 C.nils, C.nils, C.nils, C.nils, C.nils, C.nils, C.nils, C.nils, C.nils, C.nils, C.nils, C.nils, C.nils, C.nils, C.nils, C.nils], Atom.arr Kd.rstr ts, Atom.arr Kd.int ps, Atom.ro Kd.str l, Atom.bag φ, Atom.gone,
 Atom.arr Kd.str [wordF (↑z : Int)], Atom.arr Kd.str (l ++ words z ++ [wordF (↑z : Int)])]) (l.length + z = (l ++ words z).length ∧ (l ++ words z = [] → ts.length = ts.length ∧ (1 ≤ 1 ∧ True) ∧ (ts.length
 + 1) * 24 ≤ 140737488355328 ∧ ps.length = ps.length ∧ (1 ≤ 1 ∧ True) ∧ (ps.length + 1) * 8 ≤ 140737488355328 ∧ ((0 : Int) ≤ (0 : Int) ∧ (0 : Int) ≤ (↑l.length : Int) ∧ (↑l.length : Int) ≤ (0 : Int) ∧ (0
 : Int) ≤ (0 : Int)) ∧ EndsAs (1 + 1 + 1 + 1 + 1) (ct_lay l ts ps φ) (VV.one (V1.c (C.rs 9 1 (RS.cut 0 (↑l.length : Int).toNat 0 RS.nil)))) [Atom.cells 40 [C.nils, C.nils, C.nils, C.nils, C.slc 7 0 (ts.length
 + 1) none, C.slc 9 0 (ps.length + 1) none, C.nils, C.nils, C.nils, C.nils, C.nils, C.nils, C.nils, C.nils, C.nils, C.nils, C.nils, C.nils, C.nils, C.nils, C.nils, C.nils, C.nils, C.nils, C.nils, C.nils],
 Atom.gone, Atom.gone, Atom.ro Kd.str l, Atom.bag φ, Atom.gone, Atom.arr Kd.rstr [RS.nil], Atom.arr Kd.rstr (ts ++ [RS.nil]), Atom.arr Kd.int [(↑l.length : Int)], Atom.arr Kd.int (ps ++ [(↑l.length : Int)])])
 ∧ ∀ (b c : Nat), φ b = none → (l ++ words z).length ≤ c → ts.length = ts.length ∧ (1 ≤ 1 ∧ True) ∧ (ts.length + 1) * 24 ≤ 140737488355328 ∧ ps.length = ps.length ∧ (1 ≤ 1 ∧ True) ∧ (ps.length + 1) * 8
 ≤ 140737488355328 ∧ ((0 : Int) ≤ (0 : Int) ∧ (0 : Int) ≤ (↑l.length : Int) ∧ (↑l.length : Int) ≤ (↑(RS.mk b 0 (l.length + z) c).len : Int) ∧ (↑(RS.mk b 0 (l.length + z) c).len : Int) ≤ (↑(RS.mk b 0 (l.length
 + z) c).cap : Int)) ∧ EndsAs (1 + 1 + 1 + 1 + 1) (ct_lay l ts ps φ) (VV.one (V1.c (C.rs 9 1 (RS.cut 0 (↑l.length : Int).toNat (↑(RS.mk b 0 (l.length + z) c).len : Int).toNat (RS.mk b 0 (l.length + z) c)))))
 [Atom.cells 40 [C.nils, C.nils, C.nils, C.nils, C.slc 7 0 (ts.length + 1) none, C.slc 9 0 (ps.length + 1) none, C.nils, C.nils, C.nils, C.nils, C.nils, C.nils, C.nils, C.nils, C.nils, C.nils, C.nils, C.nils,
 C.nils, C.nils, C.nils, C.nils, C.nils, C.nils, C.nils, C.nils], Atom.gone, Atom.gone, Atom.ro Kd.str l, Atom.bag (bput φ b (BI.row Kd.str c (l ++ words z))), Atom.gone, Atom.arr Kd.rstr [RS.mk b 0 (l.length
 + z) c], Atom.arr Kd.rstr (ts ++ [RS.mk b 0 (l.length + z) c]), Atom.arr Kd.int [(↑l.length : Int)], Atom.arr Kd.int (ps ++ [(↑l.length : Int)])])) := by kernel_rfl
theorem words_succ (z : Nat) : words (z + 1) = words z ++ [wordF z] := by simp [words, List.range_succ]
theorem words_len (z : Nat) : (words z).length = z := by simp [words]
theorem lay_ok (l : List ByteArray) (ts : List RS) (ps : List Int) (φ : Bag KK) : CtOk Try.prog 13 (ct_lay l ts ps φ) := CtOk_of KK_ok tab1 (ann_lay l ts ps φ) (fn := Try.f13) rfl (fun _ _ => rfl) fun hn => by
  obtain ⟨hl, ht, hp⟩ := hn
  rw [vc_lay]
  simp only [Int.toNat_natCast, Nat.zero_add, List.take_length]
  have hq : (List.take l.length l : List ByteArray) = l ++ words 0 := by simp [words]
  have len : ∀ z, (l ++ words z).length = l.length + z := fun z => by rw [List.length_append, words_len]
  refine ⟨trivial, ⟨by omega, trivial⟩, by omega, ⟨(0 : Nat), [], [0, 1, 2, 3, 4, 6], Nat.zero_le _, trivial, into_mk (by kernel_rfl) (by (repeat' first | exact trivial | exact rfl | apply And.intro)) (by (repeat' first | exact trivial | exact rfl | exact hq | apply And.intro))⟩, fun z hz => ite2_decide (fun h1 => ?_) (fun h1 => ?_)⟩
  · have hz1 : z < 40 := by omega
    have e := len z
    have hq : l ++ words z ++ [wordF z] = l ++ words (z + 1) := by rw [words_succ, List.append_assoc]
    have hq2 : (l ++ words z).length + 1 = l.length + (z + 1) := by omega
    exact ⟨trivial, into_mk (by kernel_rfl) (by (repeat' first | exact trivial | exact rfl | apply And.intro)) (by (repeat' first | exact trivial | exact rfl | apply And.intro)), fun _ _ => ⟨e.symm, ⟨by omega, trivial⟩, by omega, by unfold i64ok; omega, (z + 1 : Nat), [], [0, 1, 2, 3, 4, 7], by show z + 1 ≤ 40; omega, by omega, into_mk (by kernel_rfl) (by (repeat' first | exact trivial | exact rfl | exact hq2 | apply And.intro)) (by (repeat' first | exact trivial | exact rfl | exact hq | apply And.intro))⟩⟩
  · obtain rfl : z = 40 := by omega
    have e := len 40
    refine ⟨e.symm, fun h => by rw [h] at e; simp at e, fun b c hb hc => ⟨trivial, ⟨by omega, trivial⟩, by omega, trivial, ⟨by omega, trivial⟩, by omega, ⟨by omega, by omega, by simp only [RS.len]; omega, by simp only [RS.len, RS.cap]; omega⟩, (b, c), [], [0, 1, 2, 3, 4, 7, 9], ⟨hb, by show l.length + 40 ≤ c; omega⟩, ?_⟩⟩
    have hq : RS.cut 0 l.length (RS.mk b 0 (l.length + 40) c).len (RS.mk b 0 (l.length + 40) c) = RS.mk b 0 l.length (l.length + 40) := by simp [RS.cut, RS.len]
    (repeat' first | exact trivial | exact rfl | exact hq | apply And.intro)
end Go.Proofs.Ytnmidichehjbgaa.T
