/- The room: bytes are laid; what is behind its lists is looked at. -/
import Derived.Test.YtndlpbheifalhaaGreatDoorRb
namespace Go.Proofs.YtndlpbheifalhaaGreatDoor.T
open Go.Proofs.YtndlpbheifalhaaGreatDoor.E
set_option maxRecDepth 100000
set_option linter.unusedVariables false
def tabLot : Tab Tryz.prog KK := ⟨mixed, fun f args H => match f, args with
  | 66, [.one (.c (.int _ i))] => some (ct_lot i, [], [])
  | _, _ => none, fun f args H ct ks τ h => by
    split at h
    · cases h; exact lot_ok _
    · cases h⟩
def layPost (l : List Int) (ts : List RS) (ps : List Int) (φ : Bag KK) (y : Nat × Nat) : VH KK := [.cells 40 (roomC (.slc 5 0 (ts.length + 1) none) (.slc 6 0 (ps.length + 1) none)), .gone, .gone, .gone, .bag (bput φ y.1 (.row Kd.u8 y.2 (l ++ lots 600))), .arr .ru8 (ts ++ [RS.mk y.1 0 (far l) y.2]), .arr .int (ps ++ [(l.length : Int)])]
def ct_lay (l : List Int) (ts : List RS) (ps : List Int) (φ : Bag KK) : Ct KK := { need := l.length ≤ 1000000 ∧ ts.length ≤ 1000 ∧ ps.length ≤ 1000, pre := roomH ts ps ++ [.ro .u8 l, .bag φ], args := [.c (.ptr 0 0 0), .c (.slc 3 0 l.length none), i64 600], Y := Nat × Nat, ok := fun y => φ y.1 = none ∧ far l ≤ y.2, ret := fun y => .c (.rs 5 1 (.mk y.1 0 l.length (far l))), post := layPost l ts ps φ }
def inv_lay (l : List Int) (ts : List RS) (ps : List Int) (φ : Bag KK) : Inv KK := { X := Nat, fr := fun i => [.c (.ptr 0 0 0), .c (.slc 3 0 l.length none), i64 600, .any, .any, .any, .any, .c (.slc 5 0 (l.length + i) none), i64 i] ++ anys 42, H := fun i => roomH ts ps ++ [.ro .u8 l, .bag φ, .arr .u8 (l ++ lots i)], ok := fun i => i ≤ 600, meas := fun i : Nat => 600 - i }
def ann_lay (l : List Int) (ts : List RS) (ps : List Int) (φ : Bag KK) : Ann KK := { loop := fun _ _ _ => some (inv_lay l ts ps φ), cut := fun _ _ _ => none, keep := some 9, frz := fun | 7 => [(7, 5)] | _ => [] }
/-- Behind each list its marks stand. -/
def Marks (ts : List RS) (ps : List Int) (φ : Bag KK) : Prop := ps.length = ts.length ∧ ts.length ≤ 1000 ∧ ∀ i, i < ts.length → ∃ xs : List Int, (rd ts i .nil).row φ Kd.u8 = some xs ∧ xs.length ≤ 2000000 ∧ (0 ≤ rd ps i 0 ∧ rd ps i 0 ≤ xs.length) ∧ ∀ k : Nat, rd ps i 0 ≤ (k : Int) → k < xs.length → rd xs k 0 = lotB ((k : Int) - rd ps i 0)
def ct_holdT (ts : List RS) (ps : List Int) (φ : Bag KK) : Ct KK := { need := Marks ts ps φ, pre := roomH ts ps ++ [.bag φ], args := [.c (.ptr 0 0 0)], Y := Unit, ok := fun _ => True, ret := fun _ => boolv true, post := fun _ => roomH ts ps ++ [.bag φ] }
def inv_holdT (ts : List RS) (ps : List Int) (φ : Bag KK) : Inv KK := { X := Nat, fr := fun i => [.c (.ptr 0 0 0), .any, .any, i64 i] ++ anys 49, H := fun _ => roomH ts ps ++ [.bag φ], ok := fun i => i ≤ ts.length, meas := fun i : Nat => ts.length - i }
def inv_holdTk (ts : List RS) (ps : List Int) (φ : Bag KK) (i : Int) : Inv KK := { X := Nat, fr := fun k => [.c (.ptr 0 0 0), .any, .any, i64 i, i64 (rd ps i.toNat 0), i64 k] ++ anys 47, H := fun _ => roomH ts ps ++ [.bag φ], ok := fun k => rd ps i.toNat 0 ≤ (k : Int) ∧ k ≤ (rd ts i.toNat .nil).len, meas := fun k : Nat => (rd ts i.toNat .nil).len - k }
def ann_holdT (ts : List RS) (ps : List Int) (φ : Bag KK) : Ann KK := { loop := fun id fr _ => match id with | 2 => some (inv_holdT ts ps φ) | _ => (match fr.getD 3 .any with | .one (.c (.int _ i)) => some (inv_holdTk ts ps φ i) | _ => none), cut := fun _ _ _ => none, keep := some 6 }
theorem vc_lay (l : List Int) (ts : List RS) (ps : List Int) (φ : Bag KK) : evFn tabLot (ann_lay l ts ps φ) Tryz.f20 (ct_lay l ts ps φ) = ( 0 = 0 ∧ (0 + l.length ≤ l.length ∧ True) ∧ (0 + (List.take l.length l).length) * 1 ≤ 140737488355328 ∧ Enter 5 (inv_lay l ts ps φ) (fun (x : Nat) => True) ([VV.one (V1.c (C.ptr 0 0 0)), VV.one (V1.c (C.slc
 3 0 l.length none)), i64 (600 : Int), VV.any, VV.any, VV.any, VV.one (V1.c C.nils), VV.one (V1.c (C.slc 6 0 (0 + (List.take l.length l).length) none)), i64 (0 : Int)] ++ anys 42) [Atom.cells 40 [C.slc
 1 0 ts.length none, C.slc 2 0 ps.length none, C.nils, C.nils, C.nils, C.nils, C.nils, C.nils, C.nils, C.nils, C.nils, C.nils, C.nils, C.nils, C.nils, C.nils, C.nils, C.nils, C.nils, C.nils, C.nils, C.nils,
 C.nils, C.nils, C.nils, C.nils], Atom.arr Kd.ru8 ts, Atom.arr Kd.int ps, Atom.ro Kd.u8 l, Atom.bag φ, Atom.gone, Atom.arr Kd.u8 (List.take l.length l)] ∧ ∀ (z : Nat), z ≤ 600 → ite2 (decide ((↑z : Int)
 < (600 : Int))) (True ∧ Into (K := KK) 0 [] [] [i64 (↑z : Int)] [Atom.cells 40 [C.slc 1 0 ts.length none, C.slc 2 0 ps.length none, C.nils, C.nils, C.nils, C.nils, C.nils, C.nils, C.nils, C.nils, C.nils,
 C.nils, C.nils, C.nils, C.nils, C.nils, C.nils, C.nils, C.nils, C.nils, C.nils, C.nils, C.nils, C.nils, C.nils, C.nils], Atom.arr Kd.ru8 ts, Atom.arr Kd.int ps, Atom.ro Kd.u8 l, Atom.bag φ, Atom.arr Kd.u8
 (l ++ lots z)] [i64 (↑z : Int)] [] ∧ ∀ (y : Unit), True → l.length + z = (l ++ lots z).length ∧ (1 ≤ 1 ∧ True) ∧ ((l ++ lots z).length + 1) * 1 ≤ 140737488355328 ∧ i64ok ((↑z : Int) + (1 : Int)) ∧ Enter
 5 (inv_lay l ts ps φ) (fun (z' : Nat) => 600 - z' < 600 - z) ([VV.one (V1.c (C.ptr 0 0 0)), VV.one (V1.c (C.slc 3 0 l.length none)), i64 (600 : Int), VV.any, VV.any, VV.any, VV.any, VV.one (V1.c (C.slc
 7 0 ((l ++ lots z).length + 1) none)), i64 ((↑z : Int) + (1 : Int))] ++ anys 42) [Atom.cells 40 [C.slc 1 0 ts.length none, C.slc 2 0 ps.length none, C.nils, C.nils, C.nils, C.nils, C.nils, C.nils, C.nils,
 C.nils, C.nils, C.nils, C.nils, C.nils, C.nils, C.nils, C.nils, C.nils, C.nils, C.nils, C.nils, C.nils, C.nils, C.nils, C.nils, C.nils], Atom.arr Kd.ru8 ts, Atom.arr Kd.int ps, Atom.ro Kd.u8 l, Atom.bag
 φ, Atom.gone, Atom.arr Kd.u8 [IntKind.wrap .u8 (lotF (↑z : Int))], Atom.arr Kd.u8 (l ++ lots z ++ [IntKind.wrap .u8 (lotF (↑z : Int))])]) (l.length + z = (l ++ lots z).length ∧ (l ++ lots z = [] → ts.length
 = ts.length ∧ (1 ≤ 1 ∧ True) ∧ (ts.length + 1) * 24 ≤ 140737488355328 ∧ ps.length = ps.length ∧ (1 ≤ 1 ∧ True) ∧ (ps.length + 1) * 8 ≤ 140737488355328 ∧ ((0 : Int) ≤ (0 : Int) ∧ (0 : Int) ≤ (↑l.length
 : Int) ∧ (↑l.length : Int) ≤ (0 : Int) ∧ (0 : Int) ≤ (0 : Int)) ∧ EndsAs 5 (ct_lay l ts ps φ) (VV.one (V1.c (C.rs 5 1 (RS.cut 0 (↑l.length : Int).toNat 0 RS.nil)))) [Atom.cells 40 [C.slc 7 0 (ts.length
 + 1) none, C.slc 9 0 (ps.length + 1) none, C.nils, C.nils, C.nils, C.nils, C.nils, C.nils, C.nils, C.nils, C.nils, C.nils, C.nils, C.nils, C.nils, C.nils, C.nils, C.nils, C.nils, C.nils, C.nils, C.nils,
 C.nils, C.nils, C.nils, C.nils], Atom.gone, Atom.gone, Atom.ro Kd.u8 l, Atom.bag φ, Atom.gone, Atom.arr Kd.ru8 [RS.nil], Atom.arr Kd.ru8 (ts ++ [RS.nil]), Atom.arr Kd.int [(↑l.length : Int)], Atom.arr
 Kd.int (ps ++ [(↑l.length : Int)])]) ∧ ∀ (b c : Nat), φ b = none → (l ++ lots z).length ≤ c → ts.length = ts.length ∧ (1 ≤ 1 ∧ True) ∧ (ts.length + 1) * 24 ≤ 140737488355328 ∧ ps.length = ps.length ∧ (1
 ≤ 1 ∧ True) ∧ (ps.length + 1) * 8 ≤ 140737488355328 ∧ ((0 : Int) ≤ (0 : Int) ∧ (0 : Int) ≤ (↑l.length : Int) ∧ (↑l.length : Int) ≤ (↑(RS.mk b 0 (l.length + z) c).len : Int) ∧ (↑(RS.mk b 0 (l.length + z)
 c).len : Int) ≤ (↑(RS.mk b 0 (l.length + z) c).cap : Int)) ∧ EndsAs 5 (ct_lay l ts ps φ) (VV.one (V1.c (C.rs 5 1 (RS.cut 0 (↑l.length : Int).toNat (↑(RS.mk b 0 (l.length + z) c).len : Int).toNat (RS.mk
 b 0 (l.length + z) c))))) [Atom.cells 40 [C.slc 7 0 (ts.length + 1) none, C.slc 9 0 (ps.length + 1) none, C.nils, C.nils, C.nils, C.nils, C.nils, C.nils, C.nils, C.nils, C.nils, C.nils, C.nils, C.nils,
 C.nils, C.nils, C.nils, C.nils, C.nils, C.nils, C.nils, C.nils, C.nils, C.nils, C.nils, C.nils], Atom.gone, Atom.gone, Atom.ro Kd.u8 l, Atom.bag (bput φ b (BI.row Kd.u8 c (l ++ lots z))), Atom.gone, Atom.arr
 Kd.ru8 [RS.mk b 0 (l.length + z) c], Atom.arr Kd.ru8 (ts ++ [RS.mk b 0 (l.length + z) c]), Atom.arr Kd.int [(↑l.length : Int)], Atom.arr Kd.int (ps ++ [(↑l.length : Int)])])) := by kernel_rfl
theorem vc_holdT (ts : List RS) (ps : List Int) (φ : Bag KK) : evFn tabLot (ann_holdT ts ps φ) Tryz.f21 (ct_holdT ts ps φ) = ( Enter 4 (inv_holdT ts ps φ) (fun (x : Nat) => True) ([VV.one (V1.c (C.ptr 0 0 0)), VV.any, boolv false, i64 (0 : Int)] ++ anys 49) [Atom.cells 40 [C.slc 1 0 ts.length none, C.slc 2 0 ps.length none, C.nils,
 C.nils, C.nils, C.nils, C.nils, C.nils, C.nils, C.nils, C.nils, C.nils, C.nils, C.nils, C.nils, C.nils, C.nils, C.nils, C.nils, C.nils, C.nils, C.nils, C.nils, C.nils, C.nils, C.nils], Atom.arr Kd.ru8
 ts, Atom.arr Kd.int ps, Atom.bag φ] ∧ ∀ (z : Nat), z ≤ ts.length → ite2 (decide ((↑z : Int) < (↑ts.length : Int))) (((0 : Int) ≤ (↑z : Int) ∧ (↑z : Int) < (↑ps.length : Int)) ∧ (↑z : Int).toNat < ps.length
 ∧ True ∧ (↑z : Int).toNat < ps.length ∧ Enter 4 (inv_holdTk ts ps φ (↑z : Int)) (fun (x : Nat) => True) ([VV.one (V1.c (C.ptr 0 0 0)), VV.any, VV.any, i64 (↑z : Int), i64 (rd ps (↑z : Int).toNat (0 : Int)),
 i64 (rd ps (↑z : Int).toNat (0 : Int))] ++ anys 47) [Atom.cells 40 [C.slc 1 0 ts.length none, C.slc 2 0 ps.length none, C.nils, C.nils, C.nils, C.nils, C.nils, C.nils, C.nils, C.nils, C.nils, C.nils, C.nils,
 C.nils, C.nils, C.nils, C.nils, C.nils, C.nils, C.nils, C.nils, C.nils, C.nils, C.nils, C.nils, C.nils], Atom.arr Kd.ru8 ts, Atom.arr Kd.int ps, Atom.bag φ] ∧ ∀ (z_1 : Nat), rd ps (↑z : Int).toNat (0 :
 Int) ≤ (↑z_1 : Int) ∧ z_1 ≤ (rd ts (↑z : Int).toNat RS.nil).len → ((0 : Int) ≤ (↑z : Int) ∧ (↑z : Int) < (↑ts.length : Int)) ∧ (↑z : Int).toNat < ts.length ∧ True ∧ (↑z : Int).toNat < ts.length ∧ ite2
 (decide ((↑z_1 : Int) < (↑(RS.len (rd ts (↑z : Int).toNat RS.nil)) : Int))) (((0 : Int) ≤ (↑z : Int) ∧ (↑z : Int) < (↑ts.length : Int)) ∧ (↑z : Int).toNat < ts.length ∧ True ∧ (↑z : Int).toNat < ts.length
 ∧ ((0 : Int) ≤ (↑z_1 : Int) ∧ (↑z_1 : Int) < (↑(RS.len (rd ts (↑z : Int).toNat RS.nil)) : Int)) ∧ ∃ (cap : Nat), ∃ (xs : List (Int)), φ (RS.blk (rd ts (↑z : Int).toNat RS.nil)) = some (BI.row Kd.u8 cap
 xs) ∧ RS.lo (rd ts (↑z : Int).toNat RS.nil) + (↑z_1 : Int).toNat < xs.length ∧ i64ok ((↑z_1 : Int) - rd ps (↑z : Int).toNat (0 : Int)) ∧ True ∧ Into (K := KK) 0 [] [] [i64 ((↑z_1 : Int) - rd ps (↑z : Int).toNat
 (0 : Int))] [Atom.cells 40 [C.slc 1 0 ts.length none, C.slc 2 0 ps.length none, C.nils, C.nils, C.nils, C.nils, C.nils, C.nils, C.nils, C.nils, C.nils, C.nils, C.nils, C.nils, C.nils, C.nils, C.nils, C.nils,
 C.nils, C.nils, C.nils, C.nils, C.nils, C.nils, C.nils, C.nils], Atom.arr Kd.ru8 ts, Atom.arr Kd.int ps, Atom.bag φ] [i64 ((↑z_1 : Int) - rd ps (↑z : Int).toNat (0 : Int))] [] ∧ ∀ (y : Unit), True → ite2
 (decide (rd xs (RS.lo (rd ts (↑z : Int).toNat RS.nil) + (↑z_1 : Int).toNat) (0 : Int) = IntKind.wrap .u8 (lotF ((↑z_1 : Int) - rd ps (↑z : Int).toNat (0 : Int))))) (i64ok ((↑z_1 : Int) + (1 : Int)) ∧ Enter
 4 (inv_holdTk ts ps φ (↑z : Int)) (fun (z' : Nat) => (rd ts (↑z : Int).toNat RS.nil).len - z' < (rd ts (↑z : Int).toNat RS.nil).len - z_1) ([VV.one (V1.c (C.ptr 0 0 0)), VV.any, VV.any, i64 (↑z : Int),
 i64 (rd ps (↑z : Int).toNat (0 : Int)), i64 ((↑z_1 : Int) + (1 : Int))] ++ anys 47) [Atom.cells 40 [C.slc 1 0 ts.length none, C.slc 2 0 ps.length none, C.nils, C.nils, C.nils, C.nils, C.nils, C.nils, C.nils,
 C.nils, C.nils, C.nils, C.nils, C.nils, C.nils, C.nils, C.nils, C.nils, C.nils, C.nils, C.nils, C.nils, C.nils, C.nils, C.nils, C.nils], Atom.arr Kd.ru8 ts, Atom.arr Kd.int ps, Atom.bag φ]) (EndsAs 4 (ct_holdT
 ts ps φ) (boolv false) [Atom.cells 40 [C.slc 1 0 ts.length none, C.slc 2 0 ps.length none, C.nils, C.nils, C.nils, C.nils, C.nils, C.nils, C.nils, C.nils, C.nils, C.nils, C.nils, C.nils, C.nils, C.nils,
 C.nils, C.nils, C.nils, C.nils, C.nils, C.nils, C.nils, C.nils, C.nils, C.nils], Atom.arr Kd.ru8 ts, Atom.arr Kd.int ps, Atom.bag φ])) (i64ok ((↑z : Int) + (1 : Int)) ∧ Enter 4 (inv_holdT ts ps φ) (fun
 (z' : Nat) => ts.length - z' < ts.length - z) ([VV.one (V1.c (C.ptr 0 0 0)), VV.any, VV.any, i64 ((↑z : Int) + (1 : Int)), i64 (rd ps (↑z : Int).toNat (0 : Int)), i64 (↑z_1 : Int)] ++ anys 47) [Atom.cells
 40 [C.slc 1 0 ts.length none, C.slc 2 0 ps.length none, C.nils, C.nils, C.nils, C.nils, C.nils, C.nils, C.nils, C.nils, C.nils, C.nils, C.nils, C.nils, C.nils, C.nils, C.nils, C.nils, C.nils, C.nils, C.nils,
 C.nils, C.nils, C.nils, C.nils, C.nils], Atom.arr Kd.ru8 ts, Atom.arr Kd.int ps, Atom.bag φ])) (EndsAs 4 (ct_holdT ts ps φ) (boolv true) [Atom.cells 40 [C.slc 1 0 ts.length none, C.slc 2 0 ps.length none,
 C.nils, C.nils, C.nils, C.nils, C.nils, C.nils, C.nils, C.nils, C.nils, C.nils, C.nils, C.nils, C.nils, C.nils, C.nils, C.nils, C.nils, C.nils, C.nils, C.nils, C.nils, C.nils, C.nils, C.nils], Atom.arr
 Kd.ru8 ts, Atom.arr Kd.int ps, Atom.bag φ])) := by kernel_rfl
theorem lay_ok (l : List Int) (ts : List RS) (ps : List Int) (φ : Bag KK) : CtOk Tryz.prog 20 (ct_lay l ts ps φ) := CtOk_of KK_ok tabLot (ann_lay l ts ps φ) (fn := Tryz.f20) rfl (fun _ _ => rfl) fun hn => by
  obtain ⟨hl, ht, hp⟩ := hn
  rw [vc_lay]
  simp only [Int.toNat_natCast, Nat.zero_add, List.take_length]
  have hq : (List.take l.length l : List Int) = l ++ lots 0 := by simp [lots]
  have len : ∀ z, (l ++ lots z).length = l.length + z := fun z => by rw [List.length_append, lots_len]
  refine ⟨trivial, ⟨by omega, trivial⟩, by omega, ⟨(0 : Nat), [], [0, 1, 2, 3, 4, 6], Nat.zero_le _, trivial, into_mk (by kernel_rfl) (by (repeat' first | exact trivial | exact rfl | apply And.intro)) (by (repeat' first | exact trivial | exact rfl | exact hq | apply And.intro))⟩, fun z hz => ite2_decide (fun h1 => ?_) (fun h1 => ?_)⟩
  · have hz1 : z < 600 := by omega
    have e := len z
    have hq : l ++ lots z ++ [lotB z] = l ++ lots (z + 1) := by rw [lots_succ, List.append_assoc]
    have hq2 : (l ++ lots z).length + 1 = l.length + (z + 1) := by omega
    exact ⟨trivial, into_mk (by kernel_rfl) (by (repeat' first | exact trivial | exact rfl | apply And.intro)) (by (repeat' first | exact trivial | exact rfl | apply And.intro)), fun _ _ => ⟨e.symm, ⟨by omega, trivial⟩, by omega, by unfold i64ok; omega, (z + 1 : Nat), [], [0, 1, 2, 3, 4, 7], by show z + 1 ≤ 600; omega, by omega, into_mk (by kernel_rfl) (by (repeat' first | exact trivial | exact rfl | exact hq2 | apply And.intro)) (by (repeat' first | exact trivial | exact rfl | exact hq | apply And.intro))⟩⟩
  · obtain rfl : z = 600 := by omega
    have e := len 600
    refine ⟨e.symm, fun h => by rw [h] at e; simp at e, fun b c hb hc => ⟨trivial, ⟨by omega, trivial⟩, by omega, trivial, ⟨by omega, trivial⟩, by omega, ⟨by omega, by omega, by simp only [RS.len]; omega, by simp only [RS.len, RS.cap]; omega⟩, (b, c), [], [0, 1, 2, 3, 4, 7, 9], ⟨hb, by show l.length + 600 ≤ c; omega⟩, ?_⟩⟩
    have hq : RS.cut 0 l.length (RS.mk b 0 (l.length + 600) c).len (RS.mk b 0 (l.length + 600) c) = RS.mk b 0 l.length (l.length + 600) := by simp [RS.cut, RS.len]
    (repeat' first | exact trivial | exact rfl | exact hq | apply And.intro)
theorem holdT_ok (ts : List RS) (ps : List Int) (φ : Bag KK) : CtOk Tryz.prog 21 (ct_holdT ts ps φ) := CtOk_of KK_ok tabLot (ann_holdT ts ps φ) (fn := Tryz.f21) rfl (fun _ _ => rfl) fun hn => by
  obtain ⟨hlen, hsm, hall⟩ := hn
  rw [vc_holdT]
  simp only [Int.toNat_natCast, Nat.zero_add]
  refine ⟨⟨(0 : Nat), [], [0, 1, 2, 3], Nat.zero_le _, trivial, into_mk (by kernel_rfl) (by (repeat' first | exact trivial | exact rfl | apply And.intro)) (by (repeat' first | exact trivial | exact rfl | apply And.intro))⟩, fun z hz => ite2_decide (fun h1 => ?_) (fun h1 => ⟨(), [], [0, 1, 2, 3], trivial, by (repeat' first | exact trivial | exact rfl | apply And.intro)⟩)⟩
  have hz1 : z < ts.length := by omega
  obtain ⟨xs, hrow, hxl, ⟨hp0, hp1⟩, hk⟩ := hall z hz1
  have hrl := RS.row_len hrow
  have hrl : xs.length = (rd ts z RS.nil).len := hrl
  have hq : rd ps z 0 = ((rd ps z 0).toNat : Int) := (Int.toNat_of_nonneg hp0).symm
  refine ⟨⟨by omega, by omega⟩, by omega, trivial, by omega, ⟨(rd ps z 0).toNat, [], [0, 1, 2, 3], ⟨by show rd ps (z : Int).toNat 0 ≤ _; rw [Int.toNat_natCast]; exact Int.le_of_eq hq, by show _ ≤ (rd ts (z : Int).toNat RS.nil).len; rw [Int.toNat_natCast]; omega⟩, trivial, into_mk (by kernel_rfl) (by (repeat' first | exact trivial | exact rfl | exact hq | apply And.intro)) (by (repeat' first | exact trivial | exact rfl | apply And.intro))⟩, fun k hkk => ?_⟩
  obtain ⟨hk0, hk1⟩ := hkk
  refine ⟨⟨by omega, by omega⟩, hz1, trivial, hz1, ite2_decide (fun h2 => ?_) (fun h2 => ?_)⟩
  · have hk2 : k < (rd ts z RS.nil).len := by omega
    obtain ⟨cap, ys, e1, e2, e3⟩ := RS.rd hrow hk2 (0 : Int)
    refine ⟨⟨by omega, by omega⟩, hz1, trivial, hz1, ⟨by omega, by omega⟩, cap, ys, e1, e2, by unfold i64ok; omega, trivial, into_mk (by kernel_rfl) (by (repeat' first | exact trivial | exact rfl | apply And.intro)) (by (repeat' first | exact trivial | exact rfl | apply And.intro)), fun _ _ => ite2_decide (fun h3 => ?_) (fun h3 => absurd (e3.trans (hk k hk0 (by omega))) h3)⟩
    exact ⟨by unfold i64ok; omega, (k + 1 : Nat), [], [0, 1, 2, 3], ⟨by show rd ps (z : Int).toNat 0 ≤ _; rw [Int.toNat_natCast]; omega, by show _ ≤ (rd ts (z : Int).toNat RS.nil).len; rw [Int.toNat_natCast]; omega⟩, by omega, into_mk (by kernel_rfl) (by (repeat' first | exact trivial | exact rfl | apply And.intro)) (by (repeat' first | exact trivial | exact rfl | apply And.intro))⟩
  · exact ⟨by unfold i64ok; omega, (z + 1 : Nat), [], [0, 1, 2, 3], by show z + 1 ≤ ts.length; omega, by omega, into_mk (by kernel_rfl) (by (repeat' first | exact trivial | exact rfl | apply And.intro)) (by (repeat' first | exact trivial | exact rfl | apply And.intro))⟩
end Go.Proofs.YtndlpbheifalhaaGreatDoor.T
