/- The book: what is due is written full. -/
import Derived.Test.YtndlpbheifalhaaGreatDoorBb
namespace Go.Proofs.YtndlpbheifalhaaGreatDoor.T
open Go.Proofs.YtndlpbheifalhaaGreatDoor.E
set_option maxRecDepth 100000
set_option linter.unusedVariables false
abbrev BS.bk (B : BS) : Bk := ⟨B.o, B.t, B.w, B.n, B.f⟩
structure BookOk (φ : Bag KK) (B : BS) : Prop where
  good : BkOk φ Kd.u8 1000000 B.bk
  tab : HasTab φ
  lm : B.m.length = B.w.length
  ld : B.d.length = B.w.length
  lr : B.r.length = B.f.length
  mb : ∀ x ∈ B.m, -1000000000000 ≤ x ∧ x ≤ 1000000000000
  rb : ∀ x ∈ B.r, -1000000000000 ≤ x ∧ x ≤ 1000000000000
  cnt : (B.o.length : Int) + 2 * B.w.length + B.f.length = 2 * B.seen
  few : B.seen ≤ 100000
  turn : 0 ≤ B.turn ∧ B.turn ≤ 1000000
def SameB (B B' : BS) : Prop := B'.turn = B.turn ∧ B'.deep = B.deep ∧ B'.seen = B.seen
/-- The book, its lists told anew. -/
def bookM (B : BS) (φ : Bag KK) : VH KK := [.cells 46 (bookC false false B.turn B.deep [.slc 10 0 B.o.length none, .slc 11 0 B.t.length none, .slc 12 0 B.w.length none, .slc 13 0 B.n.length none, .slc 14 0 B.f.length none, .slc 15 0 B.m.length none, .slc 16 0 B.d.length none, .slc 17 0 B.r.length none, .int .i64 B.seen]),
  .gone, .gone, .gone, .gone, .gone, .gone, .gone, .gone, .bag φ, .arr .ru8 B.o, .arr .ru8 B.t, .arr .ru8 B.w, .arr .ru8 B.n, .arr .ru8 B.f, .arr .int B.m, .arr .int B.d, .arr .int B.r]
def ct_mT (B : BS) (φ : Bag KK) : Ct KK := { need := BookOk φ B, pre := bookH B ++ [.bag φ], args := [.c (.ptr 0 0 0)], Y := BS × Bag KK, ok := fun y => BookOk y.2 y.1 ∧ SameB B y.1 ∧ Stays φ B.bk y.2 y.1.bk, ret := fun _ => .tup [], post := fun y => bookM y.1 y.2 }
/-- The book while its waiting lists (ws, ..) are gone through. -/
def mkH (B : BS) (ws ns : List RS) (ms ds : List Int) (φ : Bag KK) : VH KK :=
  [.cells 46 (bookC false false B.turn B.deep [.slc 10 0 B.o.length none, .slc 11 0 B.t.length none, .slc 18 0 B.w.length none, .slc 19 0 B.n.length none, .slc 12 0 B.f.length none, .slc 20 0 B.m.length none, .slc 21 0 B.d.length none, .slc 13 0 B.r.length none, .int .i64 B.seen]),
   .gone, .gone, .gone, .gone, .gone, .gone, .gone, .gone, .bag φ, .arr .ru8 B.o, .arr .ru8 B.t, .arr .ru8 B.f, .arr .int B.r, .arr .ru8 ws, .arr .ru8 ns, .arr .int ms, .arr .int ds, .arr .ru8 B.w, .arr .ru8 B.n, .arr .int B.m, .arr .int B.d]
def mkFr (ws ns : List RS) (ms ds : List Int) (k : Int) : List VV := [.c (.ptr 0 0 0), .any, .c (.slc 14 0 ws.length none), .c (.slc 15 0 ns.length none), .c (.slc 16 0 ms.length none), .c (.slc 17 0 ds.length none), i64 k]
def BS.rest (B : BS) (ws ns : List RS) (ms ds : List Int) (k : Nat) : BS := { B with w := B.w ++ ws.drop k, n := B.n ++ ns.drop k, m := B.m ++ ms.drop k, d := B.d ++ ds.drop k }
def inv_mT (B : BS) (φ : Bag KK) : Inv KK := { X := BS × Bag KK × Nat, fr := fun z => mkFr B.w B.n B.m B.d z.2.2 ++ anys 182, H := fun z => mkH z.1 B.w B.n B.m B.d z.2.1, ok := fun z => z.2.2 ≤ B.w.length ∧ BookOk z.2.1 (z.1.rest B.w B.n B.m B.d z.2.2) ∧ z.1.w.length = z.1.n.length ∧ z.1.m.length = z.1.w.length ∧ z.1.d.length = z.1.w.length ∧ SameB B z.1 ∧ Stays φ B.bk z.2.1 (z.1.rest B.w B.n B.m B.d z.2.2).bk, meas := fun z => B.w.length - z.2.2 }
def inv_mTi (B : BS) (ws ns : List RS) (ms ds : List Int) (k : Int) (x : RS) (mark : Int) (φ : Bag KK) : Inv KK := { X := Nat × Bag KK, fr := fun z => mkFr ws ns ms ds k ++ ([.c (.rs 5 1 x), i64 mark, i64 z.1] ++ anys 179), H := fun z => mkH B ws ns ms ds z.2, ok := fun z => z.1 ≤ x.len ∧ BkOk z.2 Kd.u8 1000000 (B.rest ws ns ms ds (k.toNat + 1)).bk ∧ Alone z.2 Kd.u8 1000000 (B.rest ws ns ms ds (k.toNat + 1)).bk x ∧ HasTab z.2 ∧ Keep1 φ (B.rest ws ns ms ds (k.toNat + 1)).bk x z.2, meas := fun z => x.len - z.1 }
def ann_mT (B : BS) (φ : Bag KK) : Ann KK := { loop := fun id fr H => match id with
  | 7 => some (inv_mT B φ)
  | _ => match fr.getD 6 .any, fr.getD 7 .any, fr.getD 8 .any, at_ H 0, at_ H 9, at_ H 10, at_ H 11, at_ H 12, at_ H 13, at_ H 18, at_ H 19, at_ H 20, at_ H 21 with
    | .one (.c (.int _ k)), .one (.c (.rs _ _ x)), .one (.c (.int _ mark)), .cells _ (.bool _ :: .bool _ :: .int _ turn :: .int _ deep :: cs), .bag φ1, .arr .ru8 o, .arr .ru8 t, .arr .ru8 f, .arr .int r, .arr .ru8 w, .arr .ru8 n, .arr .int m, .arr .int d =>
      match cs.getD 8 .nils with
      | .int _ seen => some (inv_mTi ⟨turn, deep, o, t, w, n, f, m, d, r, seen⟩ B.w B.n B.m B.d k x mark φ1)
      | _ => none
    | _, _, _, _, _, _, _, _, _, _, _, _, _ => none, cut := fun _ _ _ => none, keep := some 10 }
def tabB : Tab Tryz.prog KK := ⟨mixed, fun f args H => match f, args with
  | 70, [.one (.c (.rs _ _ x)), .one (.c (.rs _ _ y))] => match at_ H 9 with
    | .bag φ => some (ct_sameT x y φ, [], [9])
    | _ => none
  | _, _ => none, fun f args H ct ks τ h => by
    split at h
    · split at h
      · cases h; exact sameT_ok _ _ _
      · cases h
    · cases h⟩
theorem vc_mT (B : BS) (φ : Bag KK) : evFn tabB (ann_mT B φ) Tryz.f92 (ct_mT B φ) = ( ite2 (decide ((↑B.w.length : Int) = (0 : Int))) (EndsAs 10 (ct_mT B φ) (VV.tup []) [Atom.cells 46 (bookC false false B.turn B.deep [C.slc 1 0 B.o.length none, C.slc 2 0 B.t.length none, C.slc 3 0 B.w.length
 none, C.slc 4 0 B.n.length none, C.slc 5 0 B.f.length none, C.slc 6 0 B.m.length none, C.slc 7 0 B.d.length none, C.slc 8 0 B.r.length none, C.int .i64 B.seen]), Atom.arr Kd.ru8 B.o, Atom.arr Kd.ru8 B.t,
 Atom.arr Kd.ru8 B.w, Atom.arr Kd.ru8 B.n, Atom.arr Kd.ru8 B.f, Atom.arr Kd.int B.m, Atom.arr Kd.int B.d, Atom.arr Kd.int B.r, Atom.bag φ]) (Enter 10 (inv_mT B φ) (fun (x : BS × Bag KK × Nat) => True) ([VV.one
 (V1.c (C.ptr 0 0 0)), VV.any, VV.one (V1.c (C.slc 3 0 B.w.length none)), VV.one (V1.c (C.slc 4 0 B.n.length none)), VV.one (V1.c (C.slc 6 0 B.m.length none)), VV.one (V1.c (C.slc 7 0 B.d.length none)),
 i64 (0 : Int)] ++ anys 182) [Atom.cells 46 (bookC false false B.turn B.deep [C.slc 1 0 B.o.length none, C.slc 2 0 B.t.length none, C.nils, C.nils, C.slc 5 0 B.f.length none, C.nils, C.nils, C.slc 8 0 B.r.length
 none, C.int .i64 B.seen]), Atom.arr Kd.ru8 B.o, Atom.arr Kd.ru8 B.t, Atom.arr Kd.ru8 B.w, Atom.arr Kd.ru8 B.n, Atom.arr Kd.ru8 B.f, Atom.arr Kd.int B.m, Atom.arr Kd.int B.d, Atom.arr Kd.int B.r, Atom.bag
 φ] ∧ ∀ (z : BS × Bag KK × Nat), (z.snd.snd ≤ B.w.length ∧ BookOk z.snd.fst (BS.mk (z.fst.turn) (z.fst.deep) (z.fst.o) (z.fst.t) (z.fst.w ++ List.drop z.snd.snd B.w) (z.fst.n ++ List.drop z.snd.snd B.n)
 (z.fst.f) (z.fst.m ++ List.drop z.snd.snd B.m) (z.fst.d ++ List.drop z.snd.snd B.d) (z.fst.r) (z.fst.seen)) ∧ z.fst.w.length = z.fst.n.length ∧ z.fst.m.length = z.fst.w.length ∧ z.fst.d.length = z.fst.w.length
 ∧ (z.fst.turn = B.turn ∧ z.fst.deep = B.deep ∧ z.fst.seen = B.seen) ∧ ∀ (b : Nat) (i : BI KK), φ b = some i → (∀ (y : RS), List.Mem y (B.o ++ (B.t ++ (B.w ++ (B.n ++ B.f)))) → ¬y.At b) → z.snd.fst b =
 some i ∧ ∀ (y : RS), List.Mem y (z.fst.o ++ (z.fst.t ++ (z.fst.w ++ List.drop z.snd.snd B.w ++ (z.fst.n ++ List.drop z.snd.snd B.n ++ z.fst.f)))) → ¬y.At b) → ite2 (decide ((↑z.snd.snd : Int) < (↑B.w.length
 : Int))) (((0 : Int) ≤ (↑z.snd.snd : Int) ∧ (↑z.snd.snd : Int) < (↑B.w.length : Int)) ∧ (↑z.snd.snd : Int).toNat < B.w.length ∧ True ∧ (↑z.snd.snd : Int).toNat < B.w.length ∧ ((0 : Int) ≤ (↑z.snd.snd :
 Int) ∧ (↑z.snd.snd : Int) < (↑B.m.length : Int)) ∧ (↑z.snd.snd : Int).toNat < B.m.length ∧ True ∧ (↑z.snd.snd : Int).toNat < B.m.length ∧ ((0 : Int) ≤ (↑z.snd.snd : Int) ∧ (↑z.snd.snd : Int) < (↑B.d.length
 : Int)) ∧ (↑z.snd.snd : Int).toNat < B.d.length ∧ True ∧ (↑z.snd.snd : Int).toNat < B.d.length ∧ ite2 (decide (z.fst.turn < rd B.d (↑z.snd.snd : Int).toNat (0 : Int))) (True ∧ z.fst.w.length = z.fst.w.length
 ∧ (1 ≤ 1 ∧ True) ∧ (z.fst.w.length + 1) * 24 ≤ 140737488355328 ∧ ((0 : Int) ≤ (↑z.snd.snd : Int) ∧ (↑z.snd.snd : Int) < (↑B.n.length : Int)) ∧ (↑z.snd.snd : Int).toNat < B.n.length ∧ True ∧ (↑z.snd.snd
 : Int).toNat < B.n.length ∧ True ∧ (VV.one (V1.c (C.slc 19 0 z.fst.n.length none)) = VV.one (V1.c (C.slc 19 0 z.fst.n.length none)) ∧ True) ∧ z.fst.n.length = z.fst.n.length ∧ (1 ≤ 1 ∧ True) ∧ (z.fst.n.length
 + 1) * 24 ≤ 140737488355328 ∧ True ∧ True ∧ z.fst.m.length = z.fst.m.length ∧ (1 ≤ 1 ∧ True) ∧ (z.fst.m.length + 1) * 8 ≤ 140737488355328 ∧ ((0 : Int) ≤ (↑z.snd.snd : Int) ∧ (↑z.snd.snd : Int) < (↑B.d.length
 : Int)) ∧ (↑z.snd.snd : Int).toNat < B.d.length ∧ True ∧ (↑z.snd.snd : Int).toNat < B.d.length ∧ True ∧ (VV.one (V1.c (C.slc 21 0 z.fst.d.length none)) = VV.one (V1.c (C.slc 21 0 z.fst.d.length none))
 ∧ True) ∧ z.fst.d.length = z.fst.d.length ∧ (1 ≤ 1 ∧ True) ∧ (z.fst.d.length + 1) * 8 ≤ 140737488355328 ∧ True ∧ True ∧ i64ok ((↑z.snd.snd : Int) + (1 : Int)) ∧ Enter 10 (inv_mT B φ) (fun (z' : BS × Bag
 KK × Nat) => B.w.length - z'.snd.snd < B.w.length - z.snd.snd) ([VV.one (V1.c (C.ptr 0 0 0)), VV.any, VV.one (V1.c (C.slc 14 0 B.w.length none)), VV.one (V1.c (C.slc 15 0 B.n.length none)), VV.one (V1.c
 (C.slc 16 0 B.m.length none)), VV.one (V1.c (C.slc 17 0 B.d.length none)), VV.one (V1.c (C.int .i64 ((↑z.snd.snd : Int) + (1 : Int)))), VV.one (V1.c (C.rs 5 1 (rd B.w (↑z.snd.snd : Int).toNat RS.nil))),
 VV.one (V1.c (C.int .i64 (rd B.m (↑z.snd.snd : Int).toNat (0 : Int))))] ++ anys 180) [Atom.cells 46 (bookC false false z.fst.turn z.fst.deep [C.slc 10 0 z.fst.o.length none, C.slc 11 0 z.fst.t.length none,
 C.slc 23 0 (z.fst.w.length + 1) none, C.slc 25 0 (z.fst.n.length + 1) none, C.slc 12 0 z.fst.f.length none, C.slc 27 0 (z.fst.m.length + 1) none, C.slc 29 0 (z.fst.d.length + 1) none, C.slc 13 0 z.fst.r.length
 none, C.int .i64 z.fst.seen]), Atom.gone, Atom.gone, Atom.gone, Atom.gone, Atom.gone, Atom.gone, Atom.gone, Atom.gone, Atom.bag z.snd.fst, Atom.arr Kd.ru8 z.fst.o, Atom.arr Kd.ru8 z.fst.t, Atom.arr Kd.ru8
 z.fst.f, Atom.arr Kd.int z.fst.r, Atom.arr Kd.ru8 B.w, Atom.arr Kd.ru8 B.n, Atom.arr Kd.int B.m, Atom.arr Kd.int B.d, Atom.gone, Atom.gone, Atom.gone, Atom.gone, Atom.arr Kd.ru8 [rd B.w (↑z.snd.snd : Int).toNat
 RS.nil], Atom.arr Kd.ru8 (z.fst.w ++ [rd B.w (↑z.snd.snd : Int).toNat RS.nil]), Atom.arr Kd.ru8 [rd B.n (↑z.snd.snd : Int).toNat RS.nil], Atom.arr Kd.ru8 (z.fst.n ++ [rd B.n (↑z.snd.snd : Int).toNat RS.nil]),
 Atom.arr Kd.int [rd B.m (↑z.snd.snd : Int).toNat (0 : Int)], Atom.arr Kd.int (z.fst.m ++ [rd B.m (↑z.snd.snd : Int).toNat (0 : Int)]), Atom.arr Kd.int [rd B.d (↑z.snd.snd : Int).toNat (0 : Int)], Atom.arr
 Kd.int (z.fst.d ++ [rd B.d (↑z.snd.snd : Int).toNat (0 : Int)])]) (True ∧ ((0 : Int) ≤ (↑z.snd.snd : Int) ∧ (↑z.snd.snd : Int) < (↑B.n.length : Int)) ∧ (↑z.snd.snd : Int).toNat < B.n.length ∧ True ∧ (↑z.snd.snd
 : Int).toNat < B.n.length ∧ (∃ (xs : List (Int)), RS.row z.snd.fst Kd.u8 (rd B.w (↑z.snd.snd : Int).toNat RS.nil) = some xs ∧ RS.row z.snd.fst Kd.u8 (rd B.n (↑z.snd.snd : Int).toNat RS.nil) = some xs ∧
 xs.length ≤ 1000000000) ∧ Into (K := KK) 0 [] [9] [VV.one (V1.c (C.rs 5 1 (rd B.w (↑z.snd.snd : Int).toNat RS.nil))), VV.one (V1.c (C.rs 5 1 (rd B.n (↑z.snd.snd : Int).toNat RS.nil)))] [Atom.cells 46 (bookC
 false false z.fst.turn z.fst.deep [C.slc 10 0 z.fst.o.length none, C.slc 11 0 z.fst.t.length none, C.slc 18 0 z.fst.w.length none, C.slc 19 0 z.fst.n.length none, C.slc 12 0 z.fst.f.length none, C.slc
 20 0 z.fst.m.length none, C.slc 21 0 z.fst.d.length none, C.slc 13 0 z.fst.r.length none, C.int .i64 z.fst.seen]), Atom.gone, Atom.gone, Atom.gone, Atom.gone, Atom.gone, Atom.gone, Atom.gone, Atom.gone,
 Atom.bag z.snd.fst, Atom.arr Kd.ru8 z.fst.o, Atom.arr Kd.ru8 z.fst.t, Atom.arr Kd.ru8 z.fst.f, Atom.arr Kd.int z.fst.r, Atom.arr Kd.ru8 B.w, Atom.arr Kd.ru8 B.n, Atom.arr Kd.int B.m, Atom.arr Kd.int B.d,
 Atom.arr Kd.ru8 z.fst.w, Atom.arr Kd.ru8 z.fst.n, Atom.arr Kd.int z.fst.m, Atom.arr Kd.int z.fst.d] [VV.one (V1.c (C.rs 5 1 (rd B.w (↑z.snd.snd : Int).toNat RS.nil))), VV.one (V1.c (C.rs 5 1 (rd B.n (↑z.snd.snd
 : Int).toNat RS.nil)))] [Atom.bag z.snd.fst] ∧ ∀ (y : Unit), True → Enter 10 (inv_mTi (BS.mk (z.fst.turn) (z.fst.deep) (z.fst.o) (z.fst.t) (z.fst.w) (z.fst.n) (z.fst.f) (z.fst.m) (z.fst.d) (z.fst.r) (z.fst.seen))
 B.w B.n B.m B.d (↑z.snd.snd : Int) (rd B.w (↑z.snd.snd : Int).toNat RS.nil) (rd B.m (↑z.snd.snd : Int).toNat (0 : Int)) z.snd.fst) (fun (x : Nat × Bag KK) => True) ([VV.one (V1.c (C.ptr 0 0 0)), VV.any,
 VV.one (V1.c (C.slc 14 0 B.w.length none)), VV.one (V1.c (C.slc 15 0 B.n.length none)), VV.one (V1.c (C.slc 16 0 B.m.length none)), VV.one (V1.c (C.slc 17 0 B.d.length none)), i64 (↑z.snd.snd : Int), VV.one
 (V1.c (C.rs 5 1 (rd B.w (↑z.snd.snd : Int).toNat RS.nil))), i64 (rd B.m (↑z.snd.snd : Int).toNat (0 : Int)), i64 (0 : Int)] ++ anys 179) [Atom.cells 46 (bookC false false z.fst.turn z.fst.deep [C.slc 10
 0 z.fst.o.length none, C.slc 11 0 z.fst.t.length none, C.slc 18 0 z.fst.w.length none, C.slc 19 0 z.fst.n.length none, C.slc 12 0 z.fst.f.length none, C.slc 20 0 z.fst.m.length none, C.slc 21 0 z.fst.d.length
 none, C.slc 13 0 z.fst.r.length none, C.int .i64 z.fst.seen]), Atom.gone, Atom.gone, Atom.gone, Atom.gone, Atom.gone, Atom.gone, Atom.gone, Atom.gone, Atom.bag z.snd.fst, Atom.arr Kd.ru8 z.fst.o, Atom.arr
 Kd.ru8 z.fst.t, Atom.arr Kd.ru8 z.fst.f, Atom.arr Kd.int z.fst.r, Atom.arr Kd.ru8 B.w, Atom.arr Kd.ru8 B.n, Atom.arr Kd.int B.m, Atom.arr Kd.int B.d, Atom.arr Kd.ru8 z.fst.w, Atom.arr Kd.ru8 z.fst.n, Atom.arr
 Kd.int z.fst.m, Atom.arr Kd.int z.fst.d] ∧ ∀ (z_1 : Nat × Bag KK), (z_1.fst ≤ RS.len (rd B.w (↑z.snd.snd : Int).toNat RS.nil) ∧ BkOk z_1.snd Kd.u8 1000000 (Bk.mk (z.fst.o) (z.fst.t) (z.fst.w ++ List.drop
 ((↑z.snd.snd : Int).toNat + 1) B.w) (z.fst.n ++ List.drop ((↑z.snd.snd : Int).toNat + 1) B.n) (z.fst.f)) ∧ Alone z_1.snd Kd.u8 1000000 (Bk.mk (z.fst.o) (z.fst.t) (z.fst.w ++ List.drop ((↑z.snd.snd : Int).toNat
 + 1) B.w) (z.fst.n ++ List.drop ((↑z.snd.snd : Int).toNat + 1) B.n) (z.fst.f)) (rd B.w (↑z.snd.snd : Int).toNat RS.nil) ∧ HasTab z_1.snd ∧ ∀ (b : Nat) (i : BI KK), z.snd.fst b = some i → (∀ (y : RS), List.Mem
 y (z.fst.o ++ (z.fst.t ++ (z.fst.w ++ List.drop ((↑z.snd.snd : Int).toNat + 1) B.w ++ (z.fst.n ++ List.drop ((↑z.snd.snd : Int).toNat + 1) B.n ++ z.fst.f)))) → ¬y.At b) → ¬RS.At (rd B.w (↑z.snd.snd : Int).toNat
 RS.nil) b → z_1.snd b = some i) → ite2 (decide ((↑z_1.fst : Int) < (↑(RS.len (rd B.w (↑z.snd.snd : Int).toNat RS.nil)) : Int))) (i64ok ((3 : Int) * (↑z_1.fst : Int)) ∧ i64ok (rd B.m (↑z.snd.snd : Int).toNat
 (0 : Int) + (3 : Int) * (↑z_1.fst : Int)) ∧ ((0 : Int) ≤ (↑z_1.fst : Int) ∧ (↑z_1.fst : Int) < (↑(RS.len (rd B.w (↑z.snd.snd : Int).toNat RS.nil)) : Int)) ∧ ∃ (cap : Nat), ∃ (xs : List (Int)), z_1.snd
 (RS.blk (rd B.w (↑z.snd.snd : Int).toNat RS.nil)) = some (BI.row Kd.u8 cap xs) ∧ RS.lo (rd B.w (↑z.snd.snd : Int).toNat RS.nil) + (↑z_1.fst : Int).toNat < xs.length ∧ i64ok ((↑z_1.fst : Int) + (1 : Int))
 ∧ Enter 10 (inv_mTi (BS.mk (z.fst.turn) (z.fst.deep) (z.fst.o) (z.fst.t) (z.fst.w) (z.fst.n) (z.fst.f) (z.fst.m) (z.fst.d) (z.fst.r) (z.fst.seen)) B.w B.n B.m B.d (↑z.snd.snd : Int) (rd B.w (↑z.snd.snd
 : Int).toNat RS.nil) (rd B.m (↑z.snd.snd : Int).toNat (0 : Int)) z.snd.fst) (fun (z' : Nat × Bag KK) => RS.len (rd B.w (↑z.snd.snd : Int).toNat RS.nil) - z'.fst < RS.len (rd B.w (↑z.snd.snd : Int).toNat
 RS.nil) - z_1.fst) ([VV.one (V1.c (C.ptr 0 0 0)), VV.any, VV.one (V1.c (C.slc 14 0 B.w.length none)), VV.one (V1.c (C.slc 15 0 B.n.length none)), VV.one (V1.c (C.slc 16 0 B.m.length none)), VV.one (V1.c
 (C.slc 17 0 B.d.length none)), i64 (↑z.snd.snd : Int), VV.one (V1.c (C.rs 5 1 (rd B.w (↑z.snd.snd : Int).toNat RS.nil))), VV.one (V1.c (C.int .i64 (rd B.m (↑z.snd.snd : Int).toNat (0 : Int)))), i64 ((↑z_1.fst
 : Int) + (1 : Int))] ++ anys 179) [Atom.cells 46 (bookC false false z.fst.turn z.fst.deep [C.slc 10 0 z.fst.o.length none, C.slc 11 0 z.fst.t.length none, C.slc 18 0 z.fst.w.length none, C.slc 19 0 z.fst.n.length
 none, C.slc 12 0 z.fst.f.length none, C.slc 20 0 z.fst.m.length none, C.slc 21 0 z.fst.d.length none, C.slc 13 0 z.fst.r.length none, C.int .i64 z.fst.seen]), Atom.gone, Atom.gone, Atom.gone, Atom.gone,
 Atom.gone, Atom.gone, Atom.gone, Atom.gone, Atom.bag (bput z_1.snd (RS.blk (rd B.w (↑z.snd.snd : Int).toNat RS.nil)) (BI.row Kd.u8 cap (xs.set (RS.lo (rd B.w (↑z.snd.snd : Int).toNat RS.nil) + (↑z_1.fst
 : Int).toNat) (IntKind.wrap .u8 (rd B.m (↑z.snd.snd : Int).toNat (0 : Int) + (3 : Int) * (↑z_1.fst : Int)))))), Atom.arr Kd.ru8 z.fst.o, Atom.arr Kd.ru8 z.fst.t, Atom.arr Kd.ru8 z.fst.f, Atom.arr Kd.int
 z.fst.r, Atom.arr Kd.ru8 B.w, Atom.arr Kd.ru8 B.n, Atom.arr Kd.int B.m, Atom.arr Kd.int B.d, Atom.arr Kd.ru8 z.fst.w, Atom.arr Kd.ru8 z.fst.n, Atom.arr Kd.int z.fst.m, Atom.arr Kd.int z.fst.d]) (z.fst.o.length
 = z.fst.o.length ∧ (1 ≤ 1 ∧ True) ∧ (z.fst.o.length + 1) * 24 ≤ 140737488355328 ∧ True ∧ (VV.one (V1.c (C.slc 11 0 z.fst.t.length none)) = VV.one (V1.c (C.slc 11 0 z.fst.t.length none)) ∧ True) ∧ 0 = 0
 ∧ ∃ (ys : List (Int)), RS.row z_1.snd Kd.u8 (rd B.w (↑z.snd.snd : Int).toNat RS.nil) = some ys ∧ (0 + ys.length) * 1 ≤ 140737488355328 ∧ (VV.one (V1.c (C.slc 11 0 z.fst.t.length none)) = VV.one (V1.c (C.slc
 11 0 z.fst.t.length none)) ∧ True) ∧ 0 + ys.length = ys.length ∧ (ys = [] → (VV.one (V1.c (C.slc 11 0 z.fst.t.length none)) = VV.one (V1.c (C.slc 11 0 z.fst.t.length none)) ∧ True) ∧ z.fst.t.length = z.fst.t.length
 ∧ (1 ≤ 1 ∧ True) ∧ (z.fst.t.length + 1) * 24 ≤ 140737488355328 ∧ True ∧ True ∧ z.fst.f.length = z.fst.f.length ∧ (1 ≤ 1 ∧ True) ∧ (z.fst.f.length + 1) * 24 ≤ 140737488355328 ∧ z.fst.r.length = z.fst.r.length
 ∧ (1 ≤ 1 ∧ True) ∧ (z.fst.r.length + 1) * 8 ≤ 140737488355328 ∧ i64ok ((↑z.snd.snd : Int) + (1 : Int)) ∧ Enter 10 (inv_mT B φ) (fun (z' : BS × Bag KK × Nat) => B.w.length - z'.snd.snd < B.w.length - z.snd.snd)
 ([VV.one (V1.c (C.ptr 0 0 0)), VV.any, VV.one (V1.c (C.slc 14 0 B.w.length none)), VV.one (V1.c (C.slc 15 0 B.n.length none)), VV.one (V1.c (C.slc 16 0 B.m.length none)), VV.one (V1.c (C.slc 17 0 B.d.length
 none)), VV.one (V1.c (C.int .i64 ((↑z.snd.snd : Int) + (1 : Int)))), VV.one (V1.c (C.rs 5 1 (rd B.w (↑z.snd.snd : Int).toNat RS.nil))), VV.one (V1.c (C.int .i64 (rd B.m (↑z.snd.snd : Int).toNat (0 : Int)))),
 VV.one (V1.c (C.int .i64 (↑z_1.fst : Int)))] ++ anys 179) [Atom.cells 46 (bookC false false z.fst.turn z.fst.deep [C.slc 23 0 (z.fst.o.length + 1) none, C.slc 27 0 (z.fst.t.length + 1) none, C.slc 18 0
 z.fst.w.length none, C.slc 19 0 z.fst.n.length none, C.slc 29 0 (z.fst.f.length + 1) none, C.slc 20 0 z.fst.m.length none, C.slc 21 0 z.fst.d.length none, C.slc 31 0 (z.fst.r.length + 1) none, C.int .i64
 z.fst.seen]), Atom.gone, Atom.gone, Atom.gone, Atom.gone, Atom.gone, Atom.gone, Atom.gone, Atom.gone, Atom.bag z_1.snd, Atom.gone, Atom.gone, Atom.gone, Atom.gone, Atom.arr Kd.ru8 B.w, Atom.arr Kd.ru8
 B.n, Atom.arr Kd.int B.m, Atom.arr Kd.int B.d, Atom.arr Kd.ru8 z.fst.w, Atom.arr Kd.ru8 z.fst.n, Atom.arr Kd.int z.fst.m, Atom.arr Kd.int z.fst.d, Atom.arr Kd.ru8 [rd B.w (↑z.snd.snd : Int).toNat RS.nil],
 Atom.arr Kd.ru8 (z.fst.o ++ [rd B.w (↑z.snd.snd : Int).toNat RS.nil]), Atom.gone, Atom.gone, Atom.arr Kd.ru8 [RS.nil], Atom.arr Kd.ru8 (z.fst.t ++ [RS.nil]), Atom.arr Kd.ru8 [rd B.w (↑z.snd.snd : Int).toNat
 RS.nil], Atom.arr Kd.ru8 (z.fst.f ++ [rd B.w (↑z.snd.snd : Int).toNat RS.nil]), Atom.arr Kd.int [rd B.m (↑z.snd.snd : Int).toNat (0 : Int)], Atom.arr Kd.int (z.fst.r ++ [rd B.m (↑z.snd.snd : Int).toNat
 (0 : Int)])]) ∧ ∀ (b c : Nat), z_1.snd b = none → ys.length ≤ c → (VV.one (V1.c (C.slc 11 0 z.fst.t.length none)) = VV.one (V1.c (C.slc 11 0 z.fst.t.length none)) ∧ True) ∧ z.fst.t.length = z.fst.t.length
 ∧ (1 ≤ 1 ∧ True) ∧ (z.fst.t.length + 1) * 24 ≤ 140737488355328 ∧ True ∧ True ∧ z.fst.f.length = z.fst.f.length ∧ (1 ≤ 1 ∧ True) ∧ (z.fst.f.length + 1) * 24 ≤ 140737488355328 ∧ z.fst.r.length = z.fst.r.length
 ∧ (1 ≤ 1 ∧ True) ∧ (z.fst.r.length + 1) * 8 ≤ 140737488355328 ∧ i64ok ((↑z.snd.snd : Int) + (1 : Int)) ∧ Enter 10 (inv_mT B φ) (fun (z' : BS × Bag KK × Nat) => B.w.length - z'.snd.snd < B.w.length - z.snd.snd)
 ([VV.one (V1.c (C.ptr 0 0 0)), VV.any, VV.one (V1.c (C.slc 14 0 B.w.length none)), VV.one (V1.c (C.slc 15 0 B.n.length none)), VV.one (V1.c (C.slc 16 0 B.m.length none)), VV.one (V1.c (C.slc 17 0 B.d.length
 none)), VV.one (V1.c (C.int .i64 ((↑z.snd.snd : Int) + (1 : Int)))), VV.one (V1.c (C.rs 5 1 (rd B.w (↑z.snd.snd : Int).toNat RS.nil))), VV.one (V1.c (C.int .i64 (rd B.m (↑z.snd.snd : Int).toNat (0 : Int)))),
 VV.one (V1.c (C.int .i64 (↑z_1.fst : Int)))] ++ anys 179) [Atom.cells 46 (bookC false false z.fst.turn z.fst.deep [C.slc 23 0 (z.fst.o.length + 1) none, C.slc 27 0 (z.fst.t.length + 1) none, C.slc 18 0
 z.fst.w.length none, C.slc 19 0 z.fst.n.length none, C.slc 29 0 (z.fst.f.length + 1) none, C.slc 20 0 z.fst.m.length none, C.slc 21 0 z.fst.d.length none, C.slc 31 0 (z.fst.r.length + 1) none, C.int .i64
 z.fst.seen]), Atom.gone, Atom.gone, Atom.gone, Atom.gone, Atom.gone, Atom.gone, Atom.gone, Atom.gone, Atom.bag (bput z_1.snd b (BI.row Kd.u8 c ys)), Atom.gone, Atom.gone, Atom.gone, Atom.gone, Atom.arr
 Kd.ru8 B.w, Atom.arr Kd.ru8 B.n, Atom.arr Kd.int B.m, Atom.arr Kd.int B.d, Atom.arr Kd.ru8 z.fst.w, Atom.arr Kd.ru8 z.fst.n, Atom.arr Kd.int z.fst.m, Atom.arr Kd.int z.fst.d, Atom.arr Kd.ru8 [rd B.w (↑z.snd.snd
 : Int).toNat RS.nil], Atom.arr Kd.ru8 (z.fst.o ++ [rd B.w (↑z.snd.snd : Int).toNat RS.nil]), Atom.gone, Atom.gone, Atom.arr Kd.ru8 [RS.mk b 0 (0 + ys.length) c], Atom.arr Kd.ru8 (z.fst.t ++ [RS.mk b 0
 (0 + ys.length) c]), Atom.arr Kd.ru8 [rd B.w (↑z.snd.snd : Int).toNat RS.nil], Atom.arr Kd.ru8 (z.fst.f ++ [rd B.w (↑z.snd.snd : Int).toNat RS.nil]), Atom.arr Kd.int [rd B.m (↑z.snd.snd : Int).toNat (0
 : Int)], Atom.arr Kd.int (z.fst.r ++ [rd B.m (↑z.snd.snd : Int).toNat (0 : Int)])]))) (EndsAs 10 (ct_mT B φ) (VV.tup []) [Atom.cells 46 (bookC false false z.fst.turn z.fst.deep [C.slc 10 0 z.fst.o.length
 none, C.slc 11 0 z.fst.t.length none, C.slc 18 0 z.fst.w.length none, C.slc 19 0 z.fst.n.length none, C.slc 12 0 z.fst.f.length none, C.slc 20 0 z.fst.m.length none, C.slc 21 0 z.fst.d.length none, C.slc
 13 0 z.fst.r.length none, C.int .i64 z.fst.seen]), Atom.gone, Atom.gone, Atom.gone, Atom.gone, Atom.gone, Atom.gone, Atom.gone, Atom.gone, Atom.bag z.snd.fst, Atom.arr Kd.ru8 z.fst.o, Atom.arr Kd.ru8 z.fst.t,
 Atom.arr Kd.ru8 z.fst.f, Atom.arr Kd.int z.fst.r, Atom.arr Kd.ru8 B.w, Atom.arr Kd.ru8 B.n, Atom.arr Kd.int B.m, Atom.arr Kd.int B.d, Atom.arr Kd.ru8 z.fst.w, Atom.arr Kd.ru8 z.fst.n, Atom.arr Kd.int z.fst.m,
 Atom.arr Kd.int z.fst.d]))) := by kernel_rfl
end Go.Proofs.YtndlpbheifalhaaGreatDoor.T
