/- The room: texts are laid; what is behind them is looked at. -/
import Derived.Test.YtnmidichehjbgaaTf
namespace Go.Proofs.Ytnmidichehjbgaa.T
open Go.Proofs.Ytnmidichehjbgaa.E
set_option maxRecDepth 100000
set_option linter.unusedVariables false
def tab3 : Tab Try.prog KK := ⟨mixed, fun f args H => match f, args with
  | 13, [.one (.c (.ptr 0 _ _)), .one (.c (.slc 3 _ _ _)), .one (.c (.int _ 40))] => match at_ H 1, at_ H 2, at_ H 3, at_ H 4 with
    | .arr .rstr ts, .arr .int ps, .ro .str l, .bag φ => some (ct_lay l ts ps φ, [], [0, 1, 2, 3, 4])
    | _, _, _, _ => none
  | f, args => tab1.pick f args H, fun f args H ct ks τ h => by
    split at h
    · split at h
      · cases h; exact lay_ok _ _ _ _
      · cases h
    · exact tab1.ok _ _ _ _ _ _ h⟩
def ct_texts (l : List ByteArray) (ts : List RS) (ps : List Int) (φ : Bag KK) : Ct KK := { need := l.length ≤ 1000000 ∧ ts.length ≤ 1000 ∧ ps.length ≤ 1000, pre := roomH ts ps ++ [.ro .str l, .bag φ], args := [.c (.ptr 0 0 0), .c (.slc 3 0 l.length none)], Y := Nat × Nat, ok := fun y => φ y.1 = none ∧ far l ≤ y.2, ret := fun y => .c (.rs 9 1 (.mk y.1 0 l.length (far l))), post := layPost l ts ps φ }
/-- Behind each list its marks stand. -/
def Marks (ts : List RS) (ps : List Int) (φ : Bag KK) : Prop := ps.length = ts.length ∧ ts.length ≤ 1000 ∧ ∀ i, i < ts.length → ∃ xs : List ByteArray, (rd ts i .nil).row φ Kd.str = some xs ∧ xs.length ≤ 2000000 ∧ (0 ≤ rd ps i 0 ∧ rd ps i 0 ≤ xs.length) ∧ ∀ k : Nat, rd ps i 0 ≤ (k : Int) → k < xs.length → rd xs k .empty = wordF ((k : Int) - rd ps i 0)
def ct_holdT (ts : List RS) (ps : List Int) (φ : Bag KK) : Ct KK := { need := Marks ts ps φ, pre := roomH ts ps ++ [.bag φ], args := [.c (.ptr 0 0 0)], Y := Unit, ok := fun _ => True, ret := fun _ => boolv true, post := fun _ => roomH ts ps ++ [.bag φ] }
def inv_holdT (ts : List RS) (ps : List Int) (φ : Bag KK) : Inv KK := { X := Nat, fr := fun i => [.c (.ptr 0 0 0), .any, .any, i64 i] ++ anys 48, H := fun _ => roomH ts ps ++ [.bag φ], ok := fun i => i ≤ ts.length, meas := fun i : Nat => ts.length - i }
def inv_holdTk (ts : List RS) (ps : List Int) (φ : Bag KK) (i : Int) : Inv KK := { X := Nat, fr := fun k => [.c (.ptr 0 0 0), .any, .any, i64 i, i64 (rd ps i.toNat 0), i64 k] ++ anys 46, H := fun _ => roomH ts ps ++ [.bag φ], ok := fun k => rd ps i.toNat 0 ≤ (k : Int) ∧ k ≤ (rd ts i.toNat .nil).len, meas := fun k : Nat => (rd ts i.toNat .nil).len - k }
def ann_holdT (ts : List RS) (ps : List Int) (φ : Bag KK) : Ann KK := { loop := fun id fr _ => match id with | 2 => some (inv_holdT ts ps φ) | _ => (match fr.getD 3 .any with | .one (.c (.int _ i)) => some (inv_holdTk ts ps φ i) | _ => none), cut := fun _ _ _ => none }
theorem vc_texts (l : List ByteArray) (ts : List RS) (ps : List Int) (φ : Bag KK) : evFn tab3 ann0 Try.f5 (ct_texts l ts ps φ) = ( (l.length ≤ 1000000 ∧ ts.length ≤ 1000 ∧ ps.length ≤ 1000) ∧ Into (K := KK) 0 [] [0, 1, 2, 3, 4] [VV.one (V1.c (C.ptr 0 0 0)), VV.one (V1.c (C.slc 3 0 l.length none)), i64 (40 : Int)] [Atom.cells 40 [C.nils,
 C.nils, C.nils, C.nils, C.slc 1 0 ts.length none, C.slc 2 0 ps.length none, C.nils, C.nils, C.nils, C.nils, C.nils, C.nils, C.nils, C.nils, C.nils, C.nils, C.nils, C.nils, C.nils, C.nils, C.nils, C.nils,
 C.nils, C.nils, C.nils, C.nils], Atom.arr Kd.rstr ts, Atom.arr Kd.int ps, Atom.ro Kd.str l, Atom.bag φ] [VV.one (V1.c (C.ptr 0 0 0)), VV.one (V1.c (C.slc 3 0 l.length none)), i64 (40 : Int)] [Atom.cells
 40 [C.nils, C.nils, C.nils, C.nils, C.slc 1 0 ts.length none, C.slc 2 0 ps.length none, C.nils, C.nils, C.nils, C.nils, C.nils, C.nils, C.nils, C.nils, C.nils, C.nils, C.nils, C.nils, C.nils, C.nils, C.nils,
 C.nils, C.nils, C.nils, C.nils, C.nils], Atom.arr Kd.rstr ts, Atom.arr Kd.int ps, Atom.ro Kd.str l, Atom.bag φ] ∧ ∀ (y : Nat × Nat), φ y.fst = none ∧ far l ≤ y.snd → EndsAs (1 + 1 + 1 + 1 + 1) (ct_texts
 l ts ps φ) (VV.one (V1.c (C.rs 9 1 (RS.mk y.fst 0 l.length (far l))))) [Atom.cells 40 [C.nils, C.nils, C.nils, C.nils, C.slc 5 0 (ts.length + 1) none, C.slc 6 0 (ps.length + 1) none, C.nils, C.nils, C.nils,
 C.nils, C.nils, C.nils, C.nils, C.nils, C.nils, C.nils, C.nils, C.nils, C.nils, C.nils, C.nils, C.nils, C.nils, C.nils, C.nils, C.nils], Atom.gone, Atom.gone, Atom.ro Kd.str l, Atom.bag (bput φ y.fst (BI.row
 Kd.str y.snd (l ++ words 40))), Atom.arr Kd.rstr (ts ++ [RS.mk y.fst 0 (far l) y.snd]), Atom.arr Kd.int (ps ++ [(↑l.length : Int)])]) := by kernel_rfl
theorem vc_holdT (ts : List RS) (ps : List Int) (φ : Bag KK) : evFn tab1 (ann_holdT ts ps φ) Try.f17 (ct_holdT ts ps φ) = ( Enter (1 + 1 + 1 + 1) (inv_holdT ts ps φ) (fun (x : Nat) => True) [VV.one (V1.c (C.ptr 0 0 0)), VV.any, boolv false, i64 (0 : Int), VV.any, VV.any, VV.any, VV.any, VV.any, VV.any, VV.any, VV.any, VV.any,
 VV.any, VV.any, VV.any, VV.any, VV.any, VV.any, VV.any, VV.any, VV.any, VV.any, VV.any, VV.any, VV.any, VV.any, VV.any, VV.any, VV.any, VV.any, VV.any, VV.any, VV.any, VV.any, VV.any, VV.any, VV.any, VV.any,
 VV.any, VV.any, VV.any, VV.any, VV.any, VV.any, VV.any, VV.any, VV.any, VV.any, VV.any, VV.any, VV.any] [Atom.cells 40 [C.nils, C.nils, C.nils, C.nils, C.slc 1 0 ts.length none, C.slc 2 0 ps.length none,
 C.nils, C.nils, C.nils, C.nils, C.nils, C.nils, C.nils, C.nils, C.nils, C.nils, C.nils, C.nils, C.nils, C.nils, C.nils, C.nils, C.nils, C.nils, C.nils, C.nils], Atom.arr Kd.rstr ts, Atom.arr Kd.int ps,
 Atom.bag φ] ∧ ∀ (z : Nat), z ≤ ts.length → ite2 (decide ((↑z : Int) < (↑ts.length : Int))) (((0 : Int) ≤ (↑z : Int) ∧ (↑z : Int) < (↑ps.length : Int)) ∧ 0 + (↑z : Int).toNat < ps.length ∧ True ∧ 0 + (↑z
 : Int).toNat < ps.length ∧ Enter (1 + 1 + 1 + 1) (inv_holdTk ts ps φ (↑z : Int)) (fun (x : Nat) => True) [VV.one (V1.c (C.ptr 0 0 0)), VV.any, VV.any, i64 (↑z : Int), i64 (rd ps (0 + (↑z : Int).toNat)
 (0 : Int)), i64 (rd ps (0 + (↑z : Int).toNat) (0 : Int)), VV.any, i64 (↑z : Int), VV.one (V1.c (C.ptr 0 0 0)), VV.one (V1.c (C.ptr 0 0 0)), VV.one (V1.c (C.ptr 0 0 4)), VV.one (V1.c (C.slc 1 0 ts.length
 none)), i64 (↑ts.length : Int), boolv true, VV.any, VV.any, VV.one (V1.c (C.ptr 0 0 0)), VV.one (V1.c (C.ptr 0 0 0)), VV.one (V1.c (C.ptr 0 0 5)), VV.one (V1.c (C.slc 2 0 ps.length none)), i64 (↑z : Int),
 VV.one (V1.c (C.ptr 2 (0 + (↑z : Int).toNat) 0)), i64 (rd ps (0 + (↑z : Int).toNat) (0 : Int)), i64 (rd ps (0 + (↑z : Int).toNat) (0 : Int)), VV.any, VV.any, VV.any, VV.any, VV.any, VV.any, VV.any, VV.any,
 VV.any, VV.any, VV.any, VV.any, VV.any, VV.any, VV.any, VV.any, VV.any, VV.any, VV.any, VV.any, VV.any, VV.any, VV.any, VV.any, VV.any, VV.any, VV.any, VV.any] [Atom.cells 40 [C.nils, C.nils, C.nils, C.nils,
 C.slc 1 0 ts.length none, C.slc 2 0 ps.length none, C.nils, C.nils, C.nils, C.nils, C.nils, C.nils, C.nils, C.nils, C.nils, C.nils, C.nils, C.nils, C.nils, C.nils, C.nils, C.nils, C.nils, C.nils, C.nils,
 C.nils], Atom.arr Kd.rstr ts, Atom.arr Kd.int ps, Atom.bag φ] ∧ ∀ (z_1 : Nat), rd ps (↑z : Int).toNat (0 : Int) ≤ (↑z_1 : Int) ∧ z_1 ≤ (rd ts (↑z : Int).toNat RS.nil).len → ((0 : Int) ≤ (↑z : Int) ∧ (↑z
 : Int) < (↑ts.length : Int)) ∧ 0 + (↑z : Int).toNat < ts.length ∧ True ∧ 0 + (↑z : Int).toNat < ts.length ∧ ite2 (decide ((↑z_1 : Int) < (↑(RS.len (rd ts (0 + (↑z : Int).toNat) RS.nil)) : Int))) (((0 :
 Int) ≤ (↑z : Int) ∧ (↑z : Int) < (↑ts.length : Int)) ∧ 0 + (↑z : Int).toNat < ts.length ∧ True ∧ 0 + (↑z : Int).toNat < ts.length ∧ ((0 : Int) ≤ (↑z_1 : Int) ∧ (↑z_1 : Int) < (↑(RS.len (rd ts (0 + (↑z
 : Int).toNat) RS.nil)) : Int)) ∧ ∃ (cap : Nat), ∃ (xs : List (KK.α Kd.str)), φ (RS.blk (rd ts (0 + (↑z : Int).toNat) RS.nil)) = some (BI.row Kd.str cap xs) ∧ RS.lo (rd ts (0 + (↑z : Int).toNat) RS.nil)
 + (↑z_1 : Int).toNat < xs.length ∧ i64ok ((↑z_1 : Int) - rd ps (↑z : Int).toNat (0 : Int)) ∧ True ∧ Into (K := KK) 0 [] [] [i64 ((↑z_1 : Int) - rd ps (↑z : Int).toNat (0 : Int))] [Atom.cells 40 [C.nils,
 C.nils, C.nils, C.nils, C.slc 1 0 ts.length none, C.slc 2 0 ps.length none, C.nils, C.nils, C.nils, C.nils, C.nils, C.nils, C.nils, C.nils, C.nils, C.nils, C.nils, C.nils, C.nils, C.nils, C.nils, C.nils,
 C.nils, C.nils, C.nils, C.nils], Atom.arr Kd.rstr ts, Atom.arr Kd.int ps, Atom.bag φ] [i64 ((↑z_1 : Int) - rd ps (↑z : Int).toNat (0 : Int))] [] ∧ ∀ (y : Unit), True → ite2 (decide (ByteArray.toList (rd
 xs (RS.lo (rd ts (0 + (↑z : Int).toNat) RS.nil) + (↑z_1 : Int).toNat) (ByteArray.mk (#[]))) = (wordF ((↑z_1 : Int) - rd ps (↑z : Int).toNat (0 : Int))).toList)) (i64ok ((↑z_1 : Int) + (1 : Int)) ∧ Enter
 (1 + 1 + 1 + 1) (inv_holdTk ts ps φ (↑z : Int)) (fun (z' : Nat) => (rd ts (↑z : Int).toNat RS.nil).len - z' < (rd ts (↑z : Int).toNat RS.nil).len - z_1) [VV.one (V1.c (C.ptr 0 0 0)), VV.any, VV.any, i64
 (↑z : Int), i64 (rd ps (↑z : Int).toNat (0 : Int)), i64 ((↑z_1 : Int) + (1 : Int)), VV.one (V1.c (C.str (rd xs (RS.lo (rd ts (0 + (↑z : Int).toNat) RS.nil) + (↑z_1 : Int).toNat) (ByteArray.mk (#[]))))),
 VV.any, VV.any, VV.any, VV.any, VV.any, VV.any, VV.any, VV.any, VV.any, VV.any, VV.any, VV.any, VV.any, VV.any, VV.any, VV.any, VV.any, i64 (↑z_1 : Int), VV.one (V1.c (C.ptr 0 0 0)), VV.one (V1.c (C.ptr
 0 0 0)), VV.one (V1.c (C.ptr 0 0 4)), VV.one (V1.c (C.slc 1 0 ts.length none)), i64 (↑z : Int), VV.one (V1.c (C.ptr 1 (0 + (↑z : Int).toNat) 0)), VV.one (V1.c (C.rs 9 1 (rd ts (0 + (↑z : Int).toNat) RS.nil))),
 VV.one (V1.c (C.int .i64 (↑(RS.len (rd ts (0 + (↑z : Int).toNat) RS.nil)) : Int))), boolv true, i64 (↑z_1 : Int), i64 ((↑z_1 : Int) + (1 : Int)), VV.one (V1.c (C.ptr 0 0 0)), VV.one (V1.c (C.ptr 0 0 0)),
 VV.one (V1.c (C.ptr 0 0 4)), VV.one (V1.c (C.slc 1 0 ts.length none)), i64 (↑z : Int), VV.one (V1.c (C.ptr 1 (0 + (↑z : Int).toNat) 0)), VV.one (V1.c (C.rs 9 1 (rd ts (0 + (↑z : Int).toNat) RS.nil))),
 i64 (↑z_1 : Int), VV.one (V1.c (C.rp 9 1 (RS.blk (rd ts (0 + (↑z : Int).toNat) RS.nil)) (RS.lo (rd ts (0 + (↑z : Int).toNat) RS.nil) + (↑z_1 : Int).toNat) 0)), VV.one (V1.c (C.str (rd xs (RS.lo (rd ts
 (0 + (↑z : Int).toNat) RS.nil) + (↑z_1 : Int).toNat) (ByteArray.mk (#[]))))), VV.one (V1.c (C.str (rd xs (RS.lo (rd ts (0 + (↑z : Int).toNat) RS.nil) + (↑z_1 : Int).toNat) (ByteArray.mk (#[]))))), i64
 (↑z_1 : Int), i64 (rd ps (↑z : Int).toNat (0 : Int)), i64 ((↑z_1 : Int) - rd ps (↑z : Int).toNat (0 : Int)), VV.one (V1.c (C.str (wordF ((↑z_1 : Int) - rd ps (↑z : Int).toNat (0 : Int))))), boolv false]
 [Atom.cells 40 [C.nils, C.nils, C.nils, C.nils, C.slc 1 0 ts.length none, C.slc 2 0 ps.length none, C.nils, C.nils, C.nils, C.nils, C.nils, C.nils, C.nils, C.nils, C.nils, C.nils, C.nils, C.nils, C.nils,
 C.nils, C.nils, C.nils, C.nils, C.nils, C.nils, C.nils], Atom.arr Kd.rstr ts, Atom.arr Kd.int ps, Atom.bag φ]) (EndsAs (1 + 1 + 1 + 1) (ct_holdT ts ps φ) (boolv false) [Atom.cells 40 [C.nils, C.nils, C.nils,
 C.nils, C.slc 1 0 ts.length none, C.slc 2 0 ps.length none, C.nils, C.nils, C.nils, C.nils, C.nils, C.nils, C.nils, C.nils, C.nils, C.nils, C.nils, C.nils, C.nils, C.nils, C.nils, C.nils, C.nils, C.nils,
 C.nils, C.nils], Atom.arr Kd.rstr ts, Atom.arr Kd.int ps, Atom.bag φ])) (i64ok ((↑z : Int) + (1 : Int)) ∧ Enter (1 + 1 + 1 + 1) (inv_holdT ts ps φ) (fun (z' : Nat) => ts.length - z' < ts.length - z) [VV.one
 (V1.c (C.ptr 0 0 0)), VV.any, VV.any, i64 ((↑z : Int) + (1 : Int)), i64 (rd ps (↑z : Int).toNat (0 : Int)), i64 (↑z_1 : Int), VV.any, VV.any, VV.any, VV.any, VV.any, VV.any, VV.any, VV.any, i64 (↑z : Int),
 i64 ((↑z : Int) + (1 : Int)), VV.any, VV.any, VV.any, VV.any, VV.any, VV.any, VV.any, VV.any, i64 (↑z_1 : Int), VV.one (V1.c (C.ptr 0 0 0)), VV.one (V1.c (C.ptr 0 0 0)), VV.one (V1.c (C.ptr 0 0 4)), VV.one
 (V1.c (C.slc 1 0 ts.length none)), i64 (↑z : Int), VV.one (V1.c (C.ptr 1 (0 + (↑z : Int).toNat) 0)), VV.one (V1.c (C.rs 9 1 (rd ts (0 + (↑z : Int).toNat) RS.nil))), i64 (↑(RS.len (rd ts (0 + (↑z : Int).toNat)
 RS.nil)) : Int), boolv false, VV.any, VV.any, VV.any, VV.any, VV.any, VV.any, VV.any, VV.any, VV.any, VV.any, VV.any, VV.any, VV.any, VV.any, VV.any, VV.any, VV.any, VV.any] [Atom.cells 40 [C.nils, C.nils,
 C.nils, C.nils, C.slc 1 0 ts.length none, C.slc 2 0 ps.length none, C.nils, C.nils, C.nils, C.nils, C.nils, C.nils, C.nils, C.nils, C.nils, C.nils, C.nils, C.nils, C.nils, C.nils, C.nils, C.nils, C.nils,
 C.nils, C.nils, C.nils], Atom.arr Kd.rstr ts, Atom.arr Kd.int ps, Atom.bag φ])) (EndsAs (1 + 1 + 1 + 1) (ct_holdT ts ps φ) (boolv true) [Atom.cells 40 [C.nils, C.nils, C.nils, C.nils, C.slc 1 0 ts.length
 none, C.slc 2 0 ps.length none, C.nils, C.nils, C.nils, C.nils, C.nils, C.nils, C.nils, C.nils, C.nils, C.nils, C.nils, C.nils, C.nils, C.nils, C.nils, C.nils, C.nils, C.nils, C.nils, C.nils], Atom.arr
 Kd.rstr ts, Atom.arr Kd.int ps, Atom.bag φ])) := by kernel_rfl
theorem texts_ok (l : List ByteArray) (ts : List RS) (ps : List Int) (φ : Bag KK) : CtOk Try.prog 5 (ct_texts l ts ps φ) := CtOk_of KK_ok tab3 ann0 (fn := Try.f5) rfl (fun _ _ => rfl) fun hn => by
  rw [vc_texts]
  exact ⟨hn, into_mk (by kernel_rfl) (by (repeat' first | exact trivial | exact rfl | apply And.intro)) (by (repeat' first | exact trivial | exact rfl | apply And.intro)), fun y hy => ⟨y, [], [0, 1, 2, 3, 4, 5, 6], hy, by (repeat' first | exact trivial | exact rfl | apply And.intro)⟩⟩
theorem holdT_ok (ts : List RS) (ps : List Int) (φ : Bag KK) : CtOk Try.prog 17 (ct_holdT ts ps φ) := CtOk_of KK_ok tab1 (ann_holdT ts ps φ) (fn := Try.f17) rfl (fun _ _ => rfl) fun hn => by
  obtain ⟨hlen, hsm, hall⟩ := hn
  rw [vc_holdT]
  simp only [Int.toNat_natCast, Nat.zero_add]
  refine ⟨⟨(0 : Nat), [], [0, 1, 2, 3], Nat.zero_le _, trivial, into_mk (by kernel_rfl) (by (repeat' first | exact trivial | exact rfl | apply And.intro)) (by (repeat' first | exact trivial | exact rfl | apply And.intro))⟩, fun z hz => ite2_decide (fun h1 => ?_) (fun h1 => ⟨(), [], [0, 1, 2, 3], trivial, by (repeat' first | exact trivial | exact rfl | apply And.intro)⟩)⟩
  have hz1 : z < ts.length := by omega
  obtain ⟨xs, hrow, hxl, ⟨hp0, hp1⟩, hk⟩ := hall z hz1
  have hrl := RS.row_len hrow
  have hrl : xs.length = (rd ts z RS.nil).len := hrl
  have hq : rd ps z 0 = ((rd ps z 0).toNat : Int) := (Int.toNat_of_nonneg hp0).symm
  refine ⟨⟨by omega, by omega⟩, by omega, trivial, by omega, ⟨(rd ps z 0).toNat, [], [0, 1, 2, 3], ⟨by show rd ps (z : Int).toNat 0 ≤ _; rw [Int.toNat_natCast]; exact Int.le_of_eq hq, by show _ ≤ (rd ts (z : Int).toNat RS.nil).len; rw [Int.toNat_natCast]; omega⟩, trivial, into_mk (by kernel_rfl) (by (repeat' first | exact trivial | exact rfl | exact hq | apply And.intro)) (by (repeat' first | exact trivial | exact rfl | apply And.intro))⟩, fun k hkk => ?_⟩
  obtain ⟨hk0, hk1⟩ := hkk
  refine ⟨⟨by omega, by omega⟩, hz1, trivial, hz1, ite2_decide (fun h2 => ?_) (fun h2 => ?_)⟩
  · have hk2 : k < (rd ts z RS.nil).len := by omega
    obtain ⟨cap, ys, e1, e2, e3⟩ := RS.rd hrow hk2 (ByteArray.mk #[])
    refine ⟨⟨by omega, by omega⟩, hz1, trivial, hz1, ⟨by omega, by omega⟩, cap, ys, e1, e2, by unfold i64ok; omega, trivial, into_mk (by kernel_rfl) (by (repeat' first | exact trivial | exact rfl | apply And.intro)) (by (repeat' first | exact trivial | exact rfl | apply And.intro)), fun _ _ => ite2_decide (fun h3 => ?_) (fun h3 => absurd (congrArg ByteArray.toList (e3.trans (hk k hk0 (by omega)))) h3)⟩
    exact ⟨by unfold i64ok; omega, (k + 1 : Nat), [], [0, 1, 2, 3], ⟨by show rd ps (z : Int).toNat 0 ≤ _; rw [Int.toNat_natCast]; omega, by show _ ≤ (rd ts (z : Int).toNat RS.nil).len; rw [Int.toNat_natCast]; omega⟩, by omega, into_mk (by kernel_rfl) (by (repeat' first | exact trivial | exact rfl | apply And.intro)) (by (repeat' first | exact trivial | exact rfl | apply And.intro))⟩
  · exact ⟨by unfold i64ok; omega, (z + 1 : Nat), [], [0, 1, 2, 3], by show z + 1 ≤ ts.length; omega, by omega, into_mk (by kernel_rfl) (by (repeat' first | exact trivial | exact rfl | apply And.intro)) (by (repeat' first | exact trivial | exact rfl | apply And.intro))⟩
end Go.Proofs.Ytnmidichehjbgaa.T
