/- The book: what it holds is looked at; all kinds, one behind the other. -/
import Derived.Test.YtndlpbheifalhaaGreatDoorBe
namespace Go.Proofs.YtndlpbheifalhaaGreatDoor.T
open Go.Proofs.YtndlpbheifalhaaGreatDoor.E
set_option maxRecDepth 100000
set_option linter.unusedVariables false
/-- The book that stands at name 0, and the names of its lists. -/
def getB (H : VH KK) : Option (BS × List Nat) := match at_ H 0 with
  | .cells _ (_ :: _ :: .int _ turn :: .int _ deep :: cs) => match cs.drop 0 with
    | .slc a _ _ _ :: .slc b _ _ _ :: .slc c _ _ _ :: .slc d _ _ _ :: .slc e _ _ _ :: .slc f _ _ _ :: .slc g _ _ _ :: .slc h _ _ _ :: .int _ seen :: _ =>
      match at_ H a, at_ H b, at_ H c, at_ H d, at_ H e, at_ H f, at_ H g, at_ H h with
      | .arr .ru8 o, .arr .ru8 t, .arr .ru8 w, .arr .ru8 n, .arr .ru8 fr, .arr .int m, .arr .int du, .arr .int r => some (⟨turn, deep, o, t, w, n, fr, m, du, r, seen⟩, [0, a, b, c, d, e, f, g, h])
      | _, _, _, _, _, _, _, _ => none
    | _ => none
  | _ => none
def getBB (H : VH KK) : Option (BS × Bag KK × List Nat) := match getB H, at_ H 9 with
  | some (B, τ), .bag φ => some (B, φ, τ ++ [9])
  | _, _ => none
def ct_hT (B : BS) (φ : Bag KK) : Ct KK := { need := BookOk φ B, pre := bookH B ++ [.bag φ], args := [.c (.ptr 0 0 0)], Y := Unit, ok := fun _ => True, ret := fun _ => boolv true, post := fun _ => bookH B ++ [.bag φ] }
def inv_hT1 (B : BS) (φ : Bag KK) : Inv KK := { X := Nat, fr := fun i => [.c (.ptr 0 0 0), .any, .any, i64 i] ++ anys 51, H := fun _ => bookH B ++ [.bag φ], ok := fun i => i ≤ B.o.length, meas := fun i : Nat => B.o.length - i }
def inv_hT2 (B : BS) (φ : Bag KK) : Inv KK := { X := Nat, fr := fun i => [.c (.ptr 0 0 0), .any, .any, .any, i64 i] ++ anys 50, H := fun _ => bookH B ++ [.bag φ], ok := fun i => i ≤ B.w.length, meas := fun i : Nat => B.w.length - i }
def loop_hT (B : BS) (φ : Bag KK) (id : Nat) (fr : List VV) (H : VH KK) : Option (Inv KK) := match id with
  | 2 => some (inv_hT1 B φ)
  | _ => some (inv_hT2 B φ)
def ann_hT (B : BS) (φ : Bag KK) : Ann KK := { loop := loop_hT B φ, cut := fun _ _ _ => none, keep := some 5 }
def ct_marks (B : BS) (φ : Bag KK) : Ct KK := { need := BookOk φ B, pre := bookH B ++ [.bag φ], args := [.c (.ptr 0 0 0)], Y := BS × Bag KK, ok := fun y => BookOk y.2 y.1 ∧ SameB B y.1 ∧ Stays φ B.bk y.2 y.1.bk, ret := fun _ => .tup [], post := fun y => bookM y.1 y.2 }
def ct_grows (B : BS) (φ : Bag KK) : Ct KK := { need := BookOk φ B, pre := bookH B ++ [.bag φ], args := [.c (.ptr 0 0 0)], Y := BS × Bag KK, ok := fun y => (BookOk y.2 y.1 ∧ SameB B y.1 ∧ Stays φ B.bk y.2 y.1.bk) ∧ y.1.f = [] ∧ y.1.r = [], ret := fun _ => .tup [], post := fun y => bookM y.1 y.2 }
def pick_tabM (f : FuncId) (B : BS) (τ : List Nat) : Option (Ct KK × List KK.Kd × List Nat) := match f with
  | 93 => some (ct_b B (.tup []), [], τ)
  | 94 => some (ct_b B (.tup []), [], τ)
  | 95 => some (ct_b B (.tup []), [], τ)
  | 96 => some (ct_b B (.tup []), [], τ)
  | 97 => some (ct_b B (.tup []), [], τ)
  | 98 => some (ct_b B (.tup []), [], τ)
  | 99 => some (ct_b B (.tup []), [], τ)
  | 100 => some (ct_b B (.tup []), [], τ)
  | 101 => some (ct_b B (.tup []), [], τ)
  | 102 => some (ct_b B (.tup []), [], τ)
  | 103 => some (ct_b B (.tup []), [], τ)
  | 104 => some (ct_b B (.tup []), [], τ)
  | 105 => some (ct_b B (.tup []), [], τ)
  | 106 => some (ct_b B (.tup []), [], τ)
  | 107 => some (ct_b B (.tup []), [], τ)
  | _ => none
theorem pick_tabM_ok (f : FuncId) (B : BS) (τ : List Nat) (ct ks ρ) (h : pick_tabM f B τ = some (ct, ks, ρ)) : CtOk Tryz.prog f ct := by
  unfold pick_tabM at h
  split at h
  · cases h; exact mInts_ok _
  · cases h; exact mTexts_ok _
  · cases h; exact mLosts_ok _
  · cases h; exact mChanges_ok _
  · cases h; exact mCells_ok _
  · cases h; exact mItems_ok _
  · cases h; exact mEntries_ok _
  · cases h; exact mPlaceds_ok _
  · cases h; exact mRules_ok _
  · cases h; exact mFaults_ok _
  · cases h; exact mChunks_ok _
  · cases h; exact mThings_ok _
  · cases h; exact mDones_ok _
  · cases h; exact mNodes_ok _
  · cases h; exact mSteps_ok _
  · cases h
def tabM : Tab Tryz.prog KK := ⟨mixed, fun f args H => match args with
  | [.one (.c (.ptr 0 0 0))] => match f with
    | 92 => match getBB H with
      | some (B, φ, τ) => some (ct_mT B φ, [], τ)
      | none => none
    | f => match getB H with
      | some (B, τ) => pick_tabM f B τ
      | none => none
  | _ => none, fun f args H ct ks τ h => by
    split at h
    · split at h
      · split at h
        · cases h; exact mT_ok _ _
        · cases h
      · split at h
        · exact pick_tabM_ok _ _ _ _ _ _ h
        · cases h
    · cases h⟩
def pick_tabG (f : FuncId) (B : BS) (τ : List Nat) : Option (Ct KK × List KK.Kd × List Nat) := match f with
  | 109 => some (ct_b B (.tup []), [], τ)
  | 110 => some (ct_b B (.tup []), [], τ)
  | 111 => some (ct_b B (.tup []), [], τ)
  | 112 => some (ct_b B (.tup []), [], τ)
  | 113 => some (ct_b B (.tup []), [], τ)
  | 114 => some (ct_b B (.tup []), [], τ)
  | 115 => some (ct_b B (.tup []), [], τ)
  | 116 => some (ct_b B (.tup []), [], τ)
  | 117 => some (ct_b B (.tup []), [], τ)
  | 118 => some (ct_b B (.tup []), [], τ)
  | 119 => some (ct_b B (.tup []), [], τ)
  | 120 => some (ct_b B (.tup []), [], τ)
  | 121 => some (ct_b B (.tup []), [], τ)
  | 122 => some (ct_b B (.tup []), [], τ)
  | 123 => some (ct_b B (.tup []), [], τ)
  | _ => none
theorem pick_tabG_ok (f : FuncId) (B : BS) (τ : List Nat) (ct ks ρ) (h : pick_tabG f B τ = some (ct, ks, ρ)) : CtOk Tryz.prog f ct := by
  unfold pick_tabG at h
  split at h
  · cases h; exact gInts_ok _
  · cases h; exact gTexts_ok _
  · cases h; exact gLosts_ok _
  · cases h; exact gChanges_ok _
  · cases h; exact gCells_ok _
  · cases h; exact gItems_ok _
  · cases h; exact gEntries_ok _
  · cases h; exact gPlaceds_ok _
  · cases h; exact gRules_ok _
  · cases h; exact gFaults_ok _
  · cases h; exact gChunks_ok _
  · cases h; exact gThings_ok _
  · cases h; exact gDones_ok _
  · cases h; exact gNodes_ok _
  · cases h; exact gSteps_ok _
  · cases h
def tabG : Tab Tryz.prog KK := ⟨mixed, fun f args H => match args with
  | [.one (.c (.ptr 0 0 0))] => match f with
    | 108 => match getBB H with
      | some (B, φ, τ) => some (ct_gT B φ, [], τ)
      | none => none
    | f => match getB H with
      | some (B, τ) => pick_tabG f B τ
      | none => none
  | _ => none, fun f args H ct ks τ h => by
    split at h
    · split at h
      · split at h
        · cases h; exact gT_ok _ _
        · cases h
      · split at h
        · exact pick_tabG_ok _ _ _ _ _ _ h
        · cases h
    · cases h⟩
theorem vc_hT (B : BS) (φ : Bag KK) : evFn tabB (ann_hT B φ) Tryz.f36 (ct_hT B φ) = ( Enter 10 (inv_hT1 B φ) (fun (x : Nat) => True) ([VV.one (V1.c (C.ptr 0 0 0)), VV.any, boolv false, i64 (0 : Int)] ++ anys 51) (bookH B ++ [.bag φ]) ∧ ∀ (z : Nat), z ≤ B.o.length → ite2 (decide ((↑z :
 Int) < (↑B.o.length : Int))) (((0 : Int) ≤ (↑z : Int) ∧ (↑z : Int) < (↑B.o.length : Int)) ∧ (↑z : Int).toNat < B.o.length ∧ True ∧ (↑z : Int).toNat < B.o.length ∧ ((0 : Int) ≤ (↑z : Int) ∧ (↑z : Int) <
 (↑B.t.length : Int)) ∧ (↑z : Int).toNat < B.t.length ∧ True ∧ (↑z : Int).toNat < B.t.length ∧ True ∧ (∃ (xs : List (Int)), RS.row φ Kd.u8 (rd B.o (↑z : Int).toNat RS.nil) = some xs ∧ RS.row φ Kd.u8 (rd
 B.t (↑z : Int).toNat RS.nil) = some xs ∧ xs.length ≤ 1000000000) ∧ Into (K := KK) 0 [] [9] [VV.one (V1.c (C.rs 5 1 (rd B.o (↑z : Int).toNat RS.nil))), VV.one (V1.c (C.rs 5 1 (rd B.t (↑z : Int).toNat RS.nil)))]
 (bookH B ++ [.bag φ]) [VV.one (V1.c (C.rs 5 1 (rd B.o (↑z : Int).toNat RS.nil))), VV.one (V1.c (C.rs 5 1 (rd B.t (↑z : Int).toNat RS.nil)))] [Atom.bag φ] ∧ ∀ (y : Unit), True → True ∧ i64ok ((↑z : Int)
 + (1 : Int)) ∧ Enter 10 (inv_hT1 B φ) (fun (z' : Nat) => B.o.length - z' < B.o.length - z) ([VV.one (V1.c (C.ptr 0 0 0)), VV.any, VV.any, i64 ((↑z : Int) + (1 : Int))] ++ anys 51) (bookH B ++ [.bag φ]))
 (Enter 10 (inv_hT2 B φ) (fun (x : Nat) => True) ([VV.one (V1.c (C.ptr 0 0 0)), VV.any, VV.any, i64 (↑z : Int), i64 (0 : Int)] ++ anys 50) (bookH B ++ [.bag φ]) ∧ ∀ (z : Nat), z ≤ B.w.length → ite2 (decide
 ((↑z : Int) < (↑B.w.length : Int))) (((0 : Int) ≤ (↑z : Int) ∧ (↑z : Int) < (↑B.w.length : Int)) ∧ (↑z : Int).toNat < B.w.length ∧ True ∧ (↑z : Int).toNat < B.w.length ∧ ((0 : Int) ≤ (↑z : Int) ∧ (↑z :
 Int) < (↑B.n.length : Int)) ∧ (↑z : Int).toNat < B.n.length ∧ True ∧ (↑z : Int).toNat < B.n.length ∧ True ∧ (∃ (xs : List (Int)), RS.row φ Kd.u8 (rd B.w (↑z : Int).toNat RS.nil) = some xs ∧ RS.row φ Kd.u8
 (rd B.n (↑z : Int).toNat RS.nil) = some xs ∧ xs.length ≤ 1000000000) ∧ Into (K := KK) 0 [] [9] [VV.one (V1.c (C.rs 5 1 (rd B.w (↑z : Int).toNat RS.nil))), VV.one (V1.c (C.rs 5 1 (rd B.n (↑z : Int).toNat
 RS.nil)))] (bookH B ++ [.bag φ]) [VV.one (V1.c (C.rs 5 1 (rd B.w (↑z : Int).toNat RS.nil))), VV.one (V1.c (C.rs 5 1 (rd B.n (↑z : Int).toNat RS.nil)))] [Atom.bag φ] ∧ ∀ (y : Unit), True → True ∧ i64ok
 ((↑z : Int) + (1 : Int)) ∧ Enter 10 (inv_hT2 B φ) (fun (z' : Nat) => B.w.length - z' < B.w.length - z) ([VV.one (V1.c (C.ptr 0 0 0)), VV.any, VV.any, VV.any, i64 ((↑z : Int) + (1 : Int))] ++ anys 50) (bookH
 B ++ [.bag φ])) (EndsAs 10 (ct_hT B φ) (boolv true) (bookH B ++ [.bag φ])))) := by kernel_rfl
theorem vc_marks (B : BS) (φ : Bag KK) : evFn tabM ann0 Tryz.f68 (ct_marks B φ) = ( BookOk φ (BS.mk (B.turn) (B.deep) (B.o) (B.t) (B.w) (B.n) (B.f) (B.m) (B.d) (B.r) (B.seen)) ∧ Into (K := KK) 0 [] [0, 1, 2, 3, 4, 5, 6, 7, 8, 9] [VV.one (V1.c (C.ptr 0 0 0))] (bookH B ++ [.bag φ]) [VV.one
 (V1.c (C.ptr 0 0 0))] (bookH B ++ [.bag φ]) ∧ ∀ (y : BS × Bag KK), (BookOk y.snd y.fst ∧ (y.fst.turn = B.turn ∧ y.fst.deep = B.deep ∧ y.fst.seen = B.seen) ∧ ∀ (b : Nat) (i : BI KK), φ b = some i → (∀ (y
 : RS), List.Mem y (B.o ++ (B.t ++ (B.w ++ (B.n ++ B.f)))) → ¬y.At b) → y.snd b = some i ∧ ∀ (y_1 : RS), List.Mem y_1 (y.fst.o ++ (y.fst.t ++ (y.fst.w ++ (y.fst.n ++ y.fst.f)))) → ¬y_1.At b) → True ∧ Into
 (K := KK) 0 [] [0, 10, 11, 12, 13, 14, 15, 16, 17] [VV.one (V1.c (C.ptr 0 0 0))] [Atom.cells 46 (bookC false false y.fst.turn y.fst.deep [C.slc 10 0 y.fst.o.length none, C.slc 11 0 y.fst.t.length none,
 C.slc 12 0 y.fst.w.length none, C.slc 13 0 y.fst.n.length none, C.slc 14 0 y.fst.f.length none, C.slc 15 0 y.fst.m.length none, C.slc 16 0 y.fst.d.length none, C.slc 17 0 y.fst.r.length none, C.int .i64
 y.fst.seen]), Atom.gone, Atom.gone, Atom.gone, Atom.gone, Atom.gone, Atom.gone, Atom.gone, Atom.gone, Atom.bag y.snd, Atom.arr Kd.ru8 y.fst.o, Atom.arr Kd.ru8 y.fst.t, Atom.arr Kd.ru8 y.fst.w, Atom.arr
 Kd.ru8 y.fst.n, Atom.arr Kd.ru8 y.fst.f, Atom.arr Kd.int y.fst.m, Atom.arr Kd.int y.fst.d, Atom.arr Kd.int y.fst.r] [VV.one (V1.c (C.ptr 0 0 0))] [Atom.cells 46 (bookC false false y.fst.turn y.fst.deep
 [C.slc 1 0 y.fst.o.length none, C.slc 2 0 y.fst.t.length none, C.slc 3 0 y.fst.w.length none, C.slc 4 0 y.fst.n.length none, C.slc 5 0 y.fst.f.length none, C.slc 6 0 y.fst.m.length none, C.slc 7 0 y.fst.d.length
 none, C.slc 8 0 y.fst.r.length none, C.int .i64 y.fst.seen]), Atom.arr Kd.ru8 y.fst.o, Atom.arr Kd.ru8 y.fst.t, Atom.arr Kd.ru8 y.fst.w, Atom.arr Kd.ru8 y.fst.n, Atom.arr Kd.ru8 y.fst.f, Atom.arr Kd.int
 y.fst.m, Atom.arr Kd.int y.fst.d, Atom.arr Kd.int y.fst.r] ∧ ∀ (y_1 : Unit), True → True ∧ Into (K := KK) 0 [] [0, 10, 11, 12, 13, 14, 15, 16, 17] [VV.one (V1.c (C.ptr 0 0 0))] [Atom.cells 46 (bookC false
 false y.fst.turn y.fst.deep [C.slc 10 0 y.fst.o.length none, C.slc 11 0 y.fst.t.length none, C.slc 12 0 y.fst.w.length none, C.slc 13 0 y.fst.n.length none, C.slc 14 0 y.fst.f.length none, C.slc 15 0 y.fst.m.length
 none, C.slc 16 0 y.fst.d.length none, C.slc 17 0 y.fst.r.length none, C.int .i64 y.fst.seen]), Atom.gone, Atom.gone, Atom.gone, Atom.gone, Atom.gone, Atom.gone, Atom.gone, Atom.gone, Atom.bag y.snd, Atom.arr
 Kd.ru8 y.fst.o, Atom.arr Kd.ru8 y.fst.t, Atom.arr Kd.ru8 y.fst.w, Atom.arr Kd.ru8 y.fst.n, Atom.arr Kd.ru8 y.fst.f, Atom.arr Kd.int y.fst.m, Atom.arr Kd.int y.fst.d, Atom.arr Kd.int y.fst.r] [VV.one (V1.c
 (C.ptr 0 0 0))] [Atom.cells 46 (bookC false false y.fst.turn y.fst.deep [C.slc 1 0 y.fst.o.length none, C.slc 2 0 y.fst.t.length none, C.slc 3 0 y.fst.w.length none, C.slc 4 0 y.fst.n.length none, C.slc
 5 0 y.fst.f.length none, C.slc 6 0 y.fst.m.length none, C.slc 7 0 y.fst.d.length none, C.slc 8 0 y.fst.r.length none, C.int .i64 y.fst.seen]), Atom.arr Kd.ru8 y.fst.o, Atom.arr Kd.ru8 y.fst.t, Atom.arr
 Kd.ru8 y.fst.w, Atom.arr Kd.ru8 y.fst.n, Atom.arr Kd.ru8 y.fst.f, Atom.arr Kd.int y.fst.m, Atom.arr Kd.int y.fst.d, Atom.arr Kd.int y.fst.r] ∧ ∀ (y_2 : Unit), True → True ∧ Into (K := KK) 0 [] [0, 10,
 11, 12, 13, 14, 15, 16, 17] [VV.one (V1.c (C.ptr 0 0 0))] [Atom.cells 46 (bookC false false y.fst.turn y.fst.deep [C.slc 10 0 y.fst.o.length none, C.slc 11 0 y.fst.t.length none, C.slc 12 0 y.fst.w.length
 none, C.slc 13 0 y.fst.n.length none, C.slc 14 0 y.fst.f.length none, C.slc 15 0 y.fst.m.length none, C.slc 16 0 y.fst.d.length none, C.slc 17 0 y.fst.r.length none, C.int .i64 y.fst.seen]), Atom.gone,
 Atom.gone, Atom.gone, Atom.gone, Atom.gone, Atom.gone, Atom.gone, Atom.gone, Atom.bag y.snd, Atom.arr Kd.ru8 y.fst.o, Atom.arr Kd.ru8 y.fst.t, Atom.arr Kd.ru8 y.fst.w, Atom.arr Kd.ru8 y.fst.n, Atom.arr
 Kd.ru8 y.fst.f, Atom.arr Kd.int y.fst.m, Atom.arr Kd.int y.fst.d, Atom.arr Kd.int y.fst.r] [VV.one (V1.c (C.ptr 0 0 0))] [Atom.cells 46 (bookC false false y.fst.turn y.fst.deep [C.slc 1 0 y.fst.o.length
 none, C.slc 2 0 y.fst.t.length none, C.slc 3 0 y.fst.w.length none, C.slc 4 0 y.fst.n.length none, C.slc 5 0 y.fst.f.length none, C.slc 6 0 y.fst.m.length none, C.slc 7 0 y.fst.d.length none, C.slc 8 0
 y.fst.r.length none, C.int .i64 y.fst.seen]), Atom.arr Kd.ru8 y.fst.o, Atom.arr Kd.ru8 y.fst.t, Atom.arr Kd.ru8 y.fst.w, Atom.arr Kd.ru8 y.fst.n, Atom.arr Kd.ru8 y.fst.f, Atom.arr Kd.int y.fst.m, Atom.arr
 Kd.int y.fst.d, Atom.arr Kd.int y.fst.r] ∧ ∀ (y_3 : Unit), True → True ∧ Into (K := KK) 0 [] [0, 10, 11, 12, 13, 14, 15, 16, 17] [VV.one (V1.c (C.ptr 0 0 0))] [Atom.cells 46 (bookC false false y.fst.turn
 y.fst.deep [C.slc 10 0 y.fst.o.length none, C.slc 11 0 y.fst.t.length none, C.slc 12 0 y.fst.w.length none, C.slc 13 0 y.fst.n.length none, C.slc 14 0 y.fst.f.length none, C.slc 15 0 y.fst.m.length none,
 C.slc 16 0 y.fst.d.length none, C.slc 17 0 y.fst.r.length none, C.int .i64 y.fst.seen]), Atom.gone, Atom.gone, Atom.gone, Atom.gone, Atom.gone, Atom.gone, Atom.gone, Atom.gone, Atom.bag y.snd, Atom.arr
 Kd.ru8 y.fst.o, Atom.arr Kd.ru8 y.fst.t, Atom.arr Kd.ru8 y.fst.w, Atom.arr Kd.ru8 y.fst.n, Atom.arr Kd.ru8 y.fst.f, Atom.arr Kd.int y.fst.m, Atom.arr Kd.int y.fst.d, Atom.arr Kd.int y.fst.r] [VV.one (V1.c
 (C.ptr 0 0 0))] [Atom.cells 46 (bookC false false y.fst.turn y.fst.deep [C.slc 1 0 y.fst.o.length none, C.slc 2 0 y.fst.t.length none, C.slc 3 0 y.fst.w.length none, C.slc 4 0 y.fst.n.length none, C.slc
 5 0 y.fst.f.length none, C.slc 6 0 y.fst.m.length none, C.slc 7 0 y.fst.d.length none, C.slc 8 0 y.fst.r.length none, C.int .i64 y.fst.seen]), Atom.arr Kd.ru8 y.fst.o, Atom.arr Kd.ru8 y.fst.t, Atom.arr
 Kd.ru8 y.fst.w, Atom.arr Kd.ru8 y.fst.n, Atom.arr Kd.ru8 y.fst.f, Atom.arr Kd.int y.fst.m, Atom.arr Kd.int y.fst.d, Atom.arr Kd.int y.fst.r] ∧ ∀ (y_4 : Unit), True → True ∧ Into (K := KK) 0 [] [0, 10,
 11, 12, 13, 14, 15, 16, 17] [VV.one (V1.c (C.ptr 0 0 0))] [Atom.cells 46 (bookC false false y.fst.turn y.fst.deep [C.slc 10 0 y.fst.o.length none, C.slc 11 0 y.fst.t.length none, C.slc 12 0 y.fst.w.length
 none, C.slc 13 0 y.fst.n.length none, C.slc 14 0 y.fst.f.length none, C.slc 15 0 y.fst.m.length none, C.slc 16 0 y.fst.d.length none, C.slc 17 0 y.fst.r.length none, C.int .i64 y.fst.seen]), Atom.gone,
 Atom.gone, Atom.gone, Atom.gone, Atom.gone, Atom.gone, Atom.gone, Atom.gone, Atom.bag y.snd, Atom.arr Kd.ru8 y.fst.o, Atom.arr Kd.ru8 y.fst.t, Atom.arr Kd.ru8 y.fst.w, Atom.arr Kd.ru8 y.fst.n, Atom.arr
 Kd.ru8 y.fst.f, Atom.arr Kd.int y.fst.m, Atom.arr Kd.int y.fst.d, Atom.arr Kd.int y.fst.r] [VV.one (V1.c (C.ptr 0 0 0))] [Atom.cells 46 (bookC false false y.fst.turn y.fst.deep [C.slc 1 0 y.fst.o.length
 none, C.slc 2 0 y.fst.t.length none, C.slc 3 0 y.fst.w.length none, C.slc 4 0 y.fst.n.length none, C.slc 5 0 y.fst.f.length none, C.slc 6 0 y.fst.m.length none, C.slc 7 0 y.fst.d.length none, C.slc 8 0
 y.fst.r.length none, C.int .i64 y.fst.seen]), Atom.arr Kd.ru8 y.fst.o, Atom.arr Kd.ru8 y.fst.t, Atom.arr Kd.ru8 y.fst.w, Atom.arr Kd.ru8 y.fst.n, Atom.arr Kd.ru8 y.fst.f, Atom.arr Kd.int y.fst.m, Atom.arr
 Kd.int y.fst.d, Atom.arr Kd.int y.fst.r] ∧ ∀ (y_5 : Unit), True → True ∧ Into (K := KK) 0 [] [0, 10, 11, 12, 13, 14, 15, 16, 17] [VV.one (V1.c (C.ptr 0 0 0))] [Atom.cells 46 (bookC false false y.fst.turn
 y.fst.deep [C.slc 10 0 y.fst.o.length none, C.slc 11 0 y.fst.t.length none, C.slc 12 0 y.fst.w.length none, C.slc 13 0 y.fst.n.length none, C.slc 14 0 y.fst.f.length none, C.slc 15 0 y.fst.m.length none,
 C.slc 16 0 y.fst.d.length none, C.slc 17 0 y.fst.r.length none, C.int .i64 y.fst.seen]), Atom.gone, Atom.gone, Atom.gone, Atom.gone, Atom.gone, Atom.gone, Atom.gone, Atom.gone, Atom.bag y.snd, Atom.arr
 Kd.ru8 y.fst.o, Atom.arr Kd.ru8 y.fst.t, Atom.arr Kd.ru8 y.fst.w, Atom.arr Kd.ru8 y.fst.n, Atom.arr Kd.ru8 y.fst.f, Atom.arr Kd.int y.fst.m, Atom.arr Kd.int y.fst.d, Atom.arr Kd.int y.fst.r] [VV.one (V1.c
 (C.ptr 0 0 0))] [Atom.cells 46 (bookC false false y.fst.turn y.fst.deep [C.slc 1 0 y.fst.o.length none, C.slc 2 0 y.fst.t.length none, C.slc 3 0 y.fst.w.length none, C.slc 4 0 y.fst.n.length none, C.slc
 5 0 y.fst.f.length none, C.slc 6 0 y.fst.m.length none, C.slc 7 0 y.fst.d.length none, C.slc 8 0 y.fst.r.length none, C.int .i64 y.fst.seen]), Atom.arr Kd.ru8 y.fst.o, Atom.arr Kd.ru8 y.fst.t, Atom.arr
 Kd.ru8 y.fst.w, Atom.arr Kd.ru8 y.fst.n, Atom.arr Kd.ru8 y.fst.f, Atom.arr Kd.int y.fst.m, Atom.arr Kd.int y.fst.d, Atom.arr Kd.int y.fst.r] ∧ ∀ (y_6 : Unit), True → True ∧ Into (K := KK) 0 [] [0, 10,
 11, 12, 13, 14, 15, 16, 17] [VV.one (V1.c (C.ptr 0 0 0))] [Atom.cells 46 (bookC false false y.fst.turn y.fst.deep [C.slc 10 0 y.fst.o.length none, C.slc 11 0 y.fst.t.length none, C.slc 12 0 y.fst.w.length
 none, C.slc 13 0 y.fst.n.length none, C.slc 14 0 y.fst.f.length none, C.slc 15 0 y.fst.m.length none, C.slc 16 0 y.fst.d.length none, C.slc 17 0 y.fst.r.length none, C.int .i64 y.fst.seen]), Atom.gone,
 Atom.gone, Atom.gone, Atom.gone, Atom.gone, Atom.gone, Atom.gone, Atom.gone, Atom.bag y.snd, Atom.arr Kd.ru8 y.fst.o, Atom.arr Kd.ru8 y.fst.t, Atom.arr Kd.ru8 y.fst.w, Atom.arr Kd.ru8 y.fst.n, Atom.arr
 Kd.ru8 y.fst.f, Atom.arr Kd.int y.fst.m, Atom.arr Kd.int y.fst.d, Atom.arr Kd.int y.fst.r] [VV.one (V1.c (C.ptr 0 0 0))] [Atom.cells 46 (bookC false false y.fst.turn y.fst.deep [C.slc 1 0 y.fst.o.length
 none, C.slc 2 0 y.fst.t.length none, C.slc 3 0 y.fst.w.length none, C.slc 4 0 y.fst.n.length none, C.slc 5 0 y.fst.f.length none, C.slc 6 0 y.fst.m.length none, C.slc 7 0 y.fst.d.length none, C.slc 8 0
 y.fst.r.length none, C.int .i64 y.fst.seen]), Atom.arr Kd.ru8 y.fst.o, Atom.arr Kd.ru8 y.fst.t, Atom.arr Kd.ru8 y.fst.w, Atom.arr Kd.ru8 y.fst.n, Atom.arr Kd.ru8 y.fst.f, Atom.arr Kd.int y.fst.m, Atom.arr
 Kd.int y.fst.d, Atom.arr Kd.int y.fst.r] ∧ ∀ (y_7 : Unit), True → True ∧ Into (K := KK) 0 [] [0, 10, 11, 12, 13, 14, 15, 16, 17] [VV.one (V1.c (C.ptr 0 0 0))] [Atom.cells 46 (bookC false false y.fst.turn
 y.fst.deep [C.slc 10 0 y.fst.o.length none, C.slc 11 0 y.fst.t.length none, C.slc 12 0 y.fst.w.length none, C.slc 13 0 y.fst.n.length none, C.slc 14 0 y.fst.f.length none, C.slc 15 0 y.fst.m.length none,
 C.slc 16 0 y.fst.d.length none, C.slc 17 0 y.fst.r.length none, C.int .i64 y.fst.seen]), Atom.gone, Atom.gone, Atom.gone, Atom.gone, Atom.gone, Atom.gone, Atom.gone, Atom.gone, Atom.bag y.snd, Atom.arr
 Kd.ru8 y.fst.o, Atom.arr Kd.ru8 y.fst.t, Atom.arr Kd.ru8 y.fst.w, Atom.arr Kd.ru8 y.fst.n, Atom.arr Kd.ru8 y.fst.f, Atom.arr Kd.int y.fst.m, Atom.arr Kd.int y.fst.d, Atom.arr Kd.int y.fst.r] [VV.one (V1.c
 (C.ptr 0 0 0))] [Atom.cells 46 (bookC false false y.fst.turn y.fst.deep [C.slc 1 0 y.fst.o.length none, C.slc 2 0 y.fst.t.length none, C.slc 3 0 y.fst.w.length none, C.slc 4 0 y.fst.n.length none, C.slc
 5 0 y.fst.f.length none, C.slc 6 0 y.fst.m.length none, C.slc 7 0 y.fst.d.length none, C.slc 8 0 y.fst.r.length none, C.int .i64 y.fst.seen]), Atom.arr Kd.ru8 y.fst.o, Atom.arr Kd.ru8 y.fst.t, Atom.arr
 Kd.ru8 y.fst.w, Atom.arr Kd.ru8 y.fst.n, Atom.arr Kd.ru8 y.fst.f, Atom.arr Kd.int y.fst.m, Atom.arr Kd.int y.fst.d, Atom.arr Kd.int y.fst.r] ∧ ∀ (y_8 : Unit), True → True ∧ Into (K := KK) 0 [] [0, 10,
 11, 12, 13, 14, 15, 16, 17] [VV.one (V1.c (C.ptr 0 0 0))] [Atom.cells 46 (bookC false false y.fst.turn y.fst.deep [C.slc 10 0 y.fst.o.length none, C.slc 11 0 y.fst.t.length none, C.slc 12 0 y.fst.w.length
 none, C.slc 13 0 y.fst.n.length none, C.slc 14 0 y.fst.f.length none, C.slc 15 0 y.fst.m.length none, C.slc 16 0 y.fst.d.length none, C.slc 17 0 y.fst.r.length none, C.int .i64 y.fst.seen]), Atom.gone,
 Atom.gone, Atom.gone, Atom.gone, Atom.gone, Atom.gone, Atom.gone, Atom.gone, Atom.bag y.snd, Atom.arr Kd.ru8 y.fst.o, Atom.arr Kd.ru8 y.fst.t, Atom.arr Kd.ru8 y.fst.w, Atom.arr Kd.ru8 y.fst.n, Atom.arr
 Kd.ru8 y.fst.f, Atom.arr Kd.int y.fst.m, Atom.arr Kd.int y.fst.d, Atom.arr Kd.int y.fst.r] [VV.one (V1.c (C.ptr 0 0 0))] [Atom.cells 46 (bookC false false y.fst.turn y.fst.deep [C.slc 1 0 y.fst.o.length
 none, C.slc 2 0 y.fst.t.length none, C.slc 3 0 y.fst.w.length none, C.slc 4 0 y.fst.n.length none, C.slc 5 0 y.fst.f.length none, C.slc 6 0 y.fst.m.length none, C.slc 7 0 y.fst.d.length none, C.slc 8 0
 y.fst.r.length none, C.int .i64 y.fst.seen]), Atom.arr Kd.ru8 y.fst.o, Atom.arr Kd.ru8 y.fst.t, Atom.arr Kd.ru8 y.fst.w, Atom.arr Kd.ru8 y.fst.n, Atom.arr Kd.ru8 y.fst.f, Atom.arr Kd.int y.fst.m, Atom.arr
 Kd.int y.fst.d, Atom.arr Kd.int y.fst.r] ∧ ∀ (y_9 : Unit), True → True ∧ Into (K := KK) 0 [] [0, 10, 11, 12, 13, 14, 15, 16, 17] [VV.one (V1.c (C.ptr 0 0 0))] [Atom.cells 46 (bookC false false y.fst.turn
 y.fst.deep [C.slc 10 0 y.fst.o.length none, C.slc 11 0 y.fst.t.length none, C.slc 12 0 y.fst.w.length none, C.slc 13 0 y.fst.n.length none, C.slc 14 0 y.fst.f.length none, C.slc 15 0 y.fst.m.length none,
 C.slc 16 0 y.fst.d.length none, C.slc 17 0 y.fst.r.length none, C.int .i64 y.fst.seen]), Atom.gone, Atom.gone, Atom.gone, Atom.gone, Atom.gone, Atom.gone, Atom.gone, Atom.gone, Atom.bag y.snd, Atom.arr
 Kd.ru8 y.fst.o, Atom.arr Kd.ru8 y.fst.t, Atom.arr Kd.ru8 y.fst.w, Atom.arr Kd.ru8 y.fst.n, Atom.arr Kd.ru8 y.fst.f, Atom.arr Kd.int y.fst.m, Atom.arr Kd.int y.fst.d, Atom.arr Kd.int y.fst.r] [VV.one (V1.c
 (C.ptr 0 0 0))] [Atom.cells 46 (bookC false false y.fst.turn y.fst.deep [C.slc 1 0 y.fst.o.length none, C.slc 2 0 y.fst.t.length none, C.slc 3 0 y.fst.w.length none, C.slc 4 0 y.fst.n.length none, C.slc
 5 0 y.fst.f.length none, C.slc 6 0 y.fst.m.length none, C.slc 7 0 y.fst.d.length none, C.slc 8 0 y.fst.r.length none, C.int .i64 y.fst.seen]), Atom.arr Kd.ru8 y.fst.o, Atom.arr Kd.ru8 y.fst.t, Atom.arr
 Kd.ru8 y.fst.w, Atom.arr Kd.ru8 y.fst.n, Atom.arr Kd.ru8 y.fst.f, Atom.arr Kd.int y.fst.m, Atom.arr Kd.int y.fst.d, Atom.arr Kd.int y.fst.r] ∧ ∀ (y_10 : Unit), True → True ∧ Into (K := KK) 0 [] [0, 10,
 11, 12, 13, 14, 15, 16, 17] [VV.one (V1.c (C.ptr 0 0 0))] [Atom.cells 46 (bookC false false y.fst.turn y.fst.deep [C.slc 10 0 y.fst.o.length none, C.slc 11 0 y.fst.t.length none, C.slc 12 0 y.fst.w.length
 none, C.slc 13 0 y.fst.n.length none, C.slc 14 0 y.fst.f.length none, C.slc 15 0 y.fst.m.length none, C.slc 16 0 y.fst.d.length none, C.slc 17 0 y.fst.r.length none, C.int .i64 y.fst.seen]), Atom.gone,
 Atom.gone, Atom.gone, Atom.gone, Atom.gone, Atom.gone, Atom.gone, Atom.gone, Atom.bag y.snd, Atom.arr Kd.ru8 y.fst.o, Atom.arr Kd.ru8 y.fst.t, Atom.arr Kd.ru8 y.fst.w, Atom.arr Kd.ru8 y.fst.n, Atom.arr
 Kd.ru8 y.fst.f, Atom.arr Kd.int y.fst.m, Atom.arr Kd.int y.fst.d, Atom.arr Kd.int y.fst.r] [VV.one (V1.c (C.ptr 0 0 0))] [Atom.cells 46 (bookC false false y.fst.turn y.fst.deep [C.slc 1 0 y.fst.o.length
 none, C.slc 2 0 y.fst.t.length none, C.slc 3 0 y.fst.w.length none, C.slc 4 0 y.fst.n.length none, C.slc 5 0 y.fst.f.length none, C.slc 6 0 y.fst.m.length none, C.slc 7 0 y.fst.d.length none, C.slc 8 0
 y.fst.r.length none, C.int .i64 y.fst.seen]), Atom.arr Kd.ru8 y.fst.o, Atom.arr Kd.ru8 y.fst.t, Atom.arr Kd.ru8 y.fst.w, Atom.arr Kd.ru8 y.fst.n, Atom.arr Kd.ru8 y.fst.f, Atom.arr Kd.int y.fst.m, Atom.arr
 Kd.int y.fst.d, Atom.arr Kd.int y.fst.r] ∧ ∀ (y_11 : Unit), True → True ∧ Into (K := KK) 0 [] [0, 10, 11, 12, 13, 14, 15, 16, 17] [VV.one (V1.c (C.ptr 0 0 0))] [Atom.cells 46 (bookC false false y.fst.turn
 y.fst.deep [C.slc 10 0 y.fst.o.length none, C.slc 11 0 y.fst.t.length none, C.slc 12 0 y.fst.w.length none, C.slc 13 0 y.fst.n.length none, C.slc 14 0 y.fst.f.length none, C.slc 15 0 y.fst.m.length none,
 C.slc 16 0 y.fst.d.length none, C.slc 17 0 y.fst.r.length none, C.int .i64 y.fst.seen]), Atom.gone, Atom.gone, Atom.gone, Atom.gone, Atom.gone, Atom.gone, Atom.gone, Atom.gone, Atom.bag y.snd, Atom.arr
 Kd.ru8 y.fst.o, Atom.arr Kd.ru8 y.fst.t, Atom.arr Kd.ru8 y.fst.w, Atom.arr Kd.ru8 y.fst.n, Atom.arr Kd.ru8 y.fst.f, Atom.arr Kd.int y.fst.m, Atom.arr Kd.int y.fst.d, Atom.arr Kd.int y.fst.r] [VV.one (V1.c
 (C.ptr 0 0 0))] [Atom.cells 46 (bookC false false y.fst.turn y.fst.deep [C.slc 1 0 y.fst.o.length none, C.slc 2 0 y.fst.t.length none, C.slc 3 0 y.fst.w.length none, C.slc 4 0 y.fst.n.length none, C.slc
 5 0 y.fst.f.length none, C.slc 6 0 y.fst.m.length none, C.slc 7 0 y.fst.d.length none, C.slc 8 0 y.fst.r.length none, C.int .i64 y.fst.seen]), Atom.arr Kd.ru8 y.fst.o, Atom.arr Kd.ru8 y.fst.t, Atom.arr
 Kd.ru8 y.fst.w, Atom.arr Kd.ru8 y.fst.n, Atom.arr Kd.ru8 y.fst.f, Atom.arr Kd.int y.fst.m, Atom.arr Kd.int y.fst.d, Atom.arr Kd.int y.fst.r] ∧ ∀ (y_12 : Unit), True → True ∧ Into (K := KK) 0 [] [0, 10,
 11, 12, 13, 14, 15, 16, 17] [VV.one (V1.c (C.ptr 0 0 0))] [Atom.cells 46 (bookC false false y.fst.turn y.fst.deep [C.slc 10 0 y.fst.o.length none, C.slc 11 0 y.fst.t.length none, C.slc 12 0 y.fst.w.length
 none, C.slc 13 0 y.fst.n.length none, C.slc 14 0 y.fst.f.length none, C.slc 15 0 y.fst.m.length none, C.slc 16 0 y.fst.d.length none, C.slc 17 0 y.fst.r.length none, C.int .i64 y.fst.seen]), Atom.gone,
 Atom.gone, Atom.gone, Atom.gone, Atom.gone, Atom.gone, Atom.gone, Atom.gone, Atom.bag y.snd, Atom.arr Kd.ru8 y.fst.o, Atom.arr Kd.ru8 y.fst.t, Atom.arr Kd.ru8 y.fst.w, Atom.arr Kd.ru8 y.fst.n, Atom.arr
 Kd.ru8 y.fst.f, Atom.arr Kd.int y.fst.m, Atom.arr Kd.int y.fst.d, Atom.arr Kd.int y.fst.r] [VV.one (V1.c (C.ptr 0 0 0))] [Atom.cells 46 (bookC false false y.fst.turn y.fst.deep [C.slc 1 0 y.fst.o.length
 none, C.slc 2 0 y.fst.t.length none, C.slc 3 0 y.fst.w.length none, C.slc 4 0 y.fst.n.length none, C.slc 5 0 y.fst.f.length none, C.slc 6 0 y.fst.m.length none, C.slc 7 0 y.fst.d.length none, C.slc 8 0
 y.fst.r.length none, C.int .i64 y.fst.seen]), Atom.arr Kd.ru8 y.fst.o, Atom.arr Kd.ru8 y.fst.t, Atom.arr Kd.ru8 y.fst.w, Atom.arr Kd.ru8 y.fst.n, Atom.arr Kd.ru8 y.fst.f, Atom.arr Kd.int y.fst.m, Atom.arr
 Kd.int y.fst.d, Atom.arr Kd.int y.fst.r] ∧ ∀ (y_13 : Unit), True → True ∧ Into (K := KK) 0 [] [0, 10, 11, 12, 13, 14, 15, 16, 17] [VV.one (V1.c (C.ptr 0 0 0))] [Atom.cells 46 (bookC false false y.fst.turn
 y.fst.deep [C.slc 10 0 y.fst.o.length none, C.slc 11 0 y.fst.t.length none, C.slc 12 0 y.fst.w.length none, C.slc 13 0 y.fst.n.length none, C.slc 14 0 y.fst.f.length none, C.slc 15 0 y.fst.m.length none,
 C.slc 16 0 y.fst.d.length none, C.slc 17 0 y.fst.r.length none, C.int .i64 y.fst.seen]), Atom.gone, Atom.gone, Atom.gone, Atom.gone, Atom.gone, Atom.gone, Atom.gone, Atom.gone, Atom.bag y.snd, Atom.arr
 Kd.ru8 y.fst.o, Atom.arr Kd.ru8 y.fst.t, Atom.arr Kd.ru8 y.fst.w, Atom.arr Kd.ru8 y.fst.n, Atom.arr Kd.ru8 y.fst.f, Atom.arr Kd.int y.fst.m, Atom.arr Kd.int y.fst.d, Atom.arr Kd.int y.fst.r] [VV.one (V1.c
 (C.ptr 0 0 0))] [Atom.cells 46 (bookC false false y.fst.turn y.fst.deep [C.slc 1 0 y.fst.o.length none, C.slc 2 0 y.fst.t.length none, C.slc 3 0 y.fst.w.length none, C.slc 4 0 y.fst.n.length none, C.slc
 5 0 y.fst.f.length none, C.slc 6 0 y.fst.m.length none, C.slc 7 0 y.fst.d.length none, C.slc 8 0 y.fst.r.length none, C.int .i64 y.fst.seen]), Atom.arr Kd.ru8 y.fst.o, Atom.arr Kd.ru8 y.fst.t, Atom.arr
 Kd.ru8 y.fst.w, Atom.arr Kd.ru8 y.fst.n, Atom.arr Kd.ru8 y.fst.f, Atom.arr Kd.int y.fst.m, Atom.arr Kd.int y.fst.d, Atom.arr Kd.int y.fst.r] ∧ ∀ (y_14 : Unit), True → True ∧ Into (K := KK) 0 [] [0, 10,
 11, 12, 13, 14, 15, 16, 17] [VV.one (V1.c (C.ptr 0 0 0))] [Atom.cells 46 (bookC false false y.fst.turn y.fst.deep [C.slc 10 0 y.fst.o.length none, C.slc 11 0 y.fst.t.length none, C.slc 12 0 y.fst.w.length
 none, C.slc 13 0 y.fst.n.length none, C.slc 14 0 y.fst.f.length none, C.slc 15 0 y.fst.m.length none, C.slc 16 0 y.fst.d.length none, C.slc 17 0 y.fst.r.length none, C.int .i64 y.fst.seen]), Atom.gone,
 Atom.gone, Atom.gone, Atom.gone, Atom.gone, Atom.gone, Atom.gone, Atom.gone, Atom.bag y.snd, Atom.arr Kd.ru8 y.fst.o, Atom.arr Kd.ru8 y.fst.t, Atom.arr Kd.ru8 y.fst.w, Atom.arr Kd.ru8 y.fst.n, Atom.arr
 Kd.ru8 y.fst.f, Atom.arr Kd.int y.fst.m, Atom.arr Kd.int y.fst.d, Atom.arr Kd.int y.fst.r] [VV.one (V1.c (C.ptr 0 0 0))] [Atom.cells 46 (bookC false false y.fst.turn y.fst.deep [C.slc 1 0 y.fst.o.length
 none, C.slc 2 0 y.fst.t.length none, C.slc 3 0 y.fst.w.length none, C.slc 4 0 y.fst.n.length none, C.slc 5 0 y.fst.f.length none, C.slc 6 0 y.fst.m.length none, C.slc 7 0 y.fst.d.length none, C.slc 8 0
 y.fst.r.length none, C.int .i64 y.fst.seen]), Atom.arr Kd.ru8 y.fst.o, Atom.arr Kd.ru8 y.fst.t, Atom.arr Kd.ru8 y.fst.w, Atom.arr Kd.ru8 y.fst.n, Atom.arr Kd.ru8 y.fst.f, Atom.arr Kd.int y.fst.m, Atom.arr
 Kd.int y.fst.d, Atom.arr Kd.int y.fst.r] ∧ ∀ (y_15 : Unit), True → EndsAs 10 (ct_marks B φ) (VV.tup []) [Atom.cells 46 (bookC false false y.fst.turn y.fst.deep [C.slc 10 0 y.fst.o.length none, C.slc 11
 0 y.fst.t.length none, C.slc 12 0 y.fst.w.length none, C.slc 13 0 y.fst.n.length none, C.slc 14 0 y.fst.f.length none, C.slc 15 0 y.fst.m.length none, C.slc 16 0 y.fst.d.length none, C.slc 17 0 y.fst.r.length
 none, C.int .i64 y.fst.seen]), Atom.gone, Atom.gone, Atom.gone, Atom.gone, Atom.gone, Atom.gone, Atom.gone, Atom.gone, Atom.bag y.snd, Atom.arr Kd.ru8 y.fst.o, Atom.arr Kd.ru8 y.fst.t, Atom.arr Kd.ru8
 y.fst.w, Atom.arr Kd.ru8 y.fst.n, Atom.arr Kd.ru8 y.fst.f, Atom.arr Kd.int y.fst.m, Atom.arr Kd.int y.fst.d, Atom.arr Kd.int y.fst.r]) := by kernel_rfl
theorem vc_grows (B : BS) (φ : Bag KK) : evFn tabG ann0 Tryz.f69 (ct_grows B φ) = ( BookOk φ (BS.mk (B.turn) (B.deep) (B.o) (B.t) (B.w) (B.n) (B.f) (B.m) (B.d) (B.r) (B.seen)) ∧ Into (K := KK) 0 [] [0, 1, 2, 3, 4, 5, 6, 7, 8, 9] [VV.one (V1.c (C.ptr 0 0 0))] (bookH B ++ [.bag φ]) [VV.one
 (V1.c (C.ptr 0 0 0))] (bookH B ++ [.bag φ]) ∧ ∀ (y : BS × Bag KK), (BookOk y.snd y.fst ∧ (y.fst.turn = B.turn ∧ y.fst.deep = B.deep ∧ y.fst.seen = B.seen) ∧ ∀ (b : Nat) (i : BI KK), φ b = some i → (∀ (y
 : RS), List.Mem y (B.o ++ (B.t ++ (B.w ++ (B.n ++ B.f)))) → ¬y.At b) → y.snd b = some i ∧ ∀ (y_1 : RS), List.Mem y_1 (y.fst.o ++ (y.fst.t ++ (y.fst.w ++ (y.fst.n ++ y.fst.f)))) → ¬y_1.At b) ∧ y.fst.f =
 [] ∧ y.fst.r = [] → True ∧ Into (K := KK) 0 [] [0, 10, 11, 12, 13, 14, 15, 16, 17] [VV.one (V1.c (C.ptr 0 0 0))] [Atom.cells 46 (bookC false false y.fst.turn y.fst.deep [C.slc 10 0 y.fst.o.length none,
 C.slc 11 0 y.fst.t.length none, C.slc 12 0 y.fst.w.length none, C.slc 13 0 y.fst.n.length none, C.slc 14 0 y.fst.f.length none, C.slc 15 0 y.fst.m.length none, C.slc 16 0 y.fst.d.length none, C.slc 17
 0 y.fst.r.length none, C.int .i64 y.fst.seen]), Atom.gone, Atom.gone, Atom.gone, Atom.gone, Atom.gone, Atom.gone, Atom.gone, Atom.gone, Atom.bag y.snd, Atom.arr Kd.ru8 y.fst.o, Atom.arr Kd.ru8 y.fst.t,
 Atom.arr Kd.ru8 y.fst.w, Atom.arr Kd.ru8 y.fst.n, Atom.arr Kd.ru8 y.fst.f, Atom.arr Kd.int y.fst.m, Atom.arr Kd.int y.fst.d, Atom.arr Kd.int y.fst.r] [VV.one (V1.c (C.ptr 0 0 0))] [Atom.cells 46 (bookC
 false false y.fst.turn y.fst.deep [C.slc 1 0 y.fst.o.length none, C.slc 2 0 y.fst.t.length none, C.slc 3 0 y.fst.w.length none, C.slc 4 0 y.fst.n.length none, C.slc 5 0 y.fst.f.length none, C.slc 6 0 y.fst.m.length
 none, C.slc 7 0 y.fst.d.length none, C.slc 8 0 y.fst.r.length none, C.int .i64 y.fst.seen]), Atom.arr Kd.ru8 y.fst.o, Atom.arr Kd.ru8 y.fst.t, Atom.arr Kd.ru8 y.fst.w, Atom.arr Kd.ru8 y.fst.n, Atom.arr
 Kd.ru8 y.fst.f, Atom.arr Kd.int y.fst.m, Atom.arr Kd.int y.fst.d, Atom.arr Kd.int y.fst.r] ∧ ∀ (y_1 : Unit), True → True ∧ Into (K := KK) 0 [] [0, 10, 11, 12, 13, 14, 15, 16, 17] [VV.one (V1.c (C.ptr 0
 0 0))] [Atom.cells 46 (bookC false false y.fst.turn y.fst.deep [C.slc 10 0 y.fst.o.length none, C.slc 11 0 y.fst.t.length none, C.slc 12 0 y.fst.w.length none, C.slc 13 0 y.fst.n.length none, C.slc 14
 0 y.fst.f.length none, C.slc 15 0 y.fst.m.length none, C.slc 16 0 y.fst.d.length none, C.slc 17 0 y.fst.r.length none, C.int .i64 y.fst.seen]), Atom.gone, Atom.gone, Atom.gone, Atom.gone, Atom.gone, Atom.gone,
 Atom.gone, Atom.gone, Atom.bag y.snd, Atom.arr Kd.ru8 y.fst.o, Atom.arr Kd.ru8 y.fst.t, Atom.arr Kd.ru8 y.fst.w, Atom.arr Kd.ru8 y.fst.n, Atom.arr Kd.ru8 y.fst.f, Atom.arr Kd.int y.fst.m, Atom.arr Kd.int
 y.fst.d, Atom.arr Kd.int y.fst.r] [VV.one (V1.c (C.ptr 0 0 0))] [Atom.cells 46 (bookC false false y.fst.turn y.fst.deep [C.slc 1 0 y.fst.o.length none, C.slc 2 0 y.fst.t.length none, C.slc 3 0 y.fst.w.length
 none, C.slc 4 0 y.fst.n.length none, C.slc 5 0 y.fst.f.length none, C.slc 6 0 y.fst.m.length none, C.slc 7 0 y.fst.d.length none, C.slc 8 0 y.fst.r.length none, C.int .i64 y.fst.seen]), Atom.arr Kd.ru8
 y.fst.o, Atom.arr Kd.ru8 y.fst.t, Atom.arr Kd.ru8 y.fst.w, Atom.arr Kd.ru8 y.fst.n, Atom.arr Kd.ru8 y.fst.f, Atom.arr Kd.int y.fst.m, Atom.arr Kd.int y.fst.d, Atom.arr Kd.int y.fst.r] ∧ ∀ (y_2 : Unit),
 True → True ∧ Into (K := KK) 0 [] [0, 10, 11, 12, 13, 14, 15, 16, 17] [VV.one (V1.c (C.ptr 0 0 0))] [Atom.cells 46 (bookC false false y.fst.turn y.fst.deep [C.slc 10 0 y.fst.o.length none, C.slc 11 0 y.fst.t.length
 none, C.slc 12 0 y.fst.w.length none, C.slc 13 0 y.fst.n.length none, C.slc 14 0 y.fst.f.length none, C.slc 15 0 y.fst.m.length none, C.slc 16 0 y.fst.d.length none, C.slc 17 0 y.fst.r.length none, C.int
 .i64 y.fst.seen]), Atom.gone, Atom.gone, Atom.gone, Atom.gone, Atom.gone, Atom.gone, Atom.gone, Atom.gone, Atom.bag y.snd, Atom.arr Kd.ru8 y.fst.o, Atom.arr Kd.ru8 y.fst.t, Atom.arr Kd.ru8 y.fst.w, Atom.arr
 Kd.ru8 y.fst.n, Atom.arr Kd.ru8 y.fst.f, Atom.arr Kd.int y.fst.m, Atom.arr Kd.int y.fst.d, Atom.arr Kd.int y.fst.r] [VV.one (V1.c (C.ptr 0 0 0))] [Atom.cells 46 (bookC false false y.fst.turn y.fst.deep
 [C.slc 1 0 y.fst.o.length none, C.slc 2 0 y.fst.t.length none, C.slc 3 0 y.fst.w.length none, C.slc 4 0 y.fst.n.length none, C.slc 5 0 y.fst.f.length none, C.slc 6 0 y.fst.m.length none, C.slc 7 0 y.fst.d.length
 none, C.slc 8 0 y.fst.r.length none, C.int .i64 y.fst.seen]), Atom.arr Kd.ru8 y.fst.o, Atom.arr Kd.ru8 y.fst.t, Atom.arr Kd.ru8 y.fst.w, Atom.arr Kd.ru8 y.fst.n, Atom.arr Kd.ru8 y.fst.f, Atom.arr Kd.int
 y.fst.m, Atom.arr Kd.int y.fst.d, Atom.arr Kd.int y.fst.r] ∧ ∀ (y_3 : Unit), True → True ∧ Into (K := KK) 0 [] [0, 10, 11, 12, 13, 14, 15, 16, 17] [VV.one (V1.c (C.ptr 0 0 0))] [Atom.cells 46 (bookC false
 false y.fst.turn y.fst.deep [C.slc 10 0 y.fst.o.length none, C.slc 11 0 y.fst.t.length none, C.slc 12 0 y.fst.w.length none, C.slc 13 0 y.fst.n.length none, C.slc 14 0 y.fst.f.length none, C.slc 15 0 y.fst.m.length
 none, C.slc 16 0 y.fst.d.length none, C.slc 17 0 y.fst.r.length none, C.int .i64 y.fst.seen]), Atom.gone, Atom.gone, Atom.gone, Atom.gone, Atom.gone, Atom.gone, Atom.gone, Atom.gone, Atom.bag y.snd, Atom.arr
 Kd.ru8 y.fst.o, Atom.arr Kd.ru8 y.fst.t, Atom.arr Kd.ru8 y.fst.w, Atom.arr Kd.ru8 y.fst.n, Atom.arr Kd.ru8 y.fst.f, Atom.arr Kd.int y.fst.m, Atom.arr Kd.int y.fst.d, Atom.arr Kd.int y.fst.r] [VV.one (V1.c
 (C.ptr 0 0 0))] [Atom.cells 46 (bookC false false y.fst.turn y.fst.deep [C.slc 1 0 y.fst.o.length none, C.slc 2 0 y.fst.t.length none, C.slc 3 0 y.fst.w.length none, C.slc 4 0 y.fst.n.length none, C.slc
 5 0 y.fst.f.length none, C.slc 6 0 y.fst.m.length none, C.slc 7 0 y.fst.d.length none, C.slc 8 0 y.fst.r.length none, C.int .i64 y.fst.seen]), Atom.arr Kd.ru8 y.fst.o, Atom.arr Kd.ru8 y.fst.t, Atom.arr
 Kd.ru8 y.fst.w, Atom.arr Kd.ru8 y.fst.n, Atom.arr Kd.ru8 y.fst.f, Atom.arr Kd.int y.fst.m, Atom.arr Kd.int y.fst.d, Atom.arr Kd.int y.fst.r] ∧ ∀ (y_4 : Unit), True → True ∧ Into (K := KK) 0 [] [0, 10,
 11, 12, 13, 14, 15, 16, 17] [VV.one (V1.c (C.ptr 0 0 0))] [Atom.cells 46 (bookC false false y.fst.turn y.fst.deep [C.slc 10 0 y.fst.o.length none, C.slc 11 0 y.fst.t.length none, C.slc 12 0 y.fst.w.length
 none, C.slc 13 0 y.fst.n.length none, C.slc 14 0 y.fst.f.length none, C.slc 15 0 y.fst.m.length none, C.slc 16 0 y.fst.d.length none, C.slc 17 0 y.fst.r.length none, C.int .i64 y.fst.seen]), Atom.gone,
 Atom.gone, Atom.gone, Atom.gone, Atom.gone, Atom.gone, Atom.gone, Atom.gone, Atom.bag y.snd, Atom.arr Kd.ru8 y.fst.o, Atom.arr Kd.ru8 y.fst.t, Atom.arr Kd.ru8 y.fst.w, Atom.arr Kd.ru8 y.fst.n, Atom.arr
 Kd.ru8 y.fst.f, Atom.arr Kd.int y.fst.m, Atom.arr Kd.int y.fst.d, Atom.arr Kd.int y.fst.r] [VV.one (V1.c (C.ptr 0 0 0))] [Atom.cells 46 (bookC false false y.fst.turn y.fst.deep [C.slc 1 0 y.fst.o.length
 none, C.slc 2 0 y.fst.t.length none, C.slc 3 0 y.fst.w.length none, C.slc 4 0 y.fst.n.length none, C.slc 5 0 y.fst.f.length none, C.slc 6 0 y.fst.m.length none, C.slc 7 0 y.fst.d.length none, C.slc 8 0
 y.fst.r.length none, C.int .i64 y.fst.seen]), Atom.arr Kd.ru8 y.fst.o, Atom.arr Kd.ru8 y.fst.t, Atom.arr Kd.ru8 y.fst.w, Atom.arr Kd.ru8 y.fst.n, Atom.arr Kd.ru8 y.fst.f, Atom.arr Kd.int y.fst.m, Atom.arr
 Kd.int y.fst.d, Atom.arr Kd.int y.fst.r] ∧ ∀ (y_5 : Unit), True → True ∧ Into (K := KK) 0 [] [0, 10, 11, 12, 13, 14, 15, 16, 17] [VV.one (V1.c (C.ptr 0 0 0))] [Atom.cells 46 (bookC false false y.fst.turn
 y.fst.deep [C.slc 10 0 y.fst.o.length none, C.slc 11 0 y.fst.t.length none, C.slc 12 0 y.fst.w.length none, C.slc 13 0 y.fst.n.length none, C.slc 14 0 y.fst.f.length none, C.slc 15 0 y.fst.m.length none,
 C.slc 16 0 y.fst.d.length none, C.slc 17 0 y.fst.r.length none, C.int .i64 y.fst.seen]), Atom.gone, Atom.gone, Atom.gone, Atom.gone, Atom.gone, Atom.gone, Atom.gone, Atom.gone, Atom.bag y.snd, Atom.arr
 Kd.ru8 y.fst.o, Atom.arr Kd.ru8 y.fst.t, Atom.arr Kd.ru8 y.fst.w, Atom.arr Kd.ru8 y.fst.n, Atom.arr Kd.ru8 y.fst.f, Atom.arr Kd.int y.fst.m, Atom.arr Kd.int y.fst.d, Atom.arr Kd.int y.fst.r] [VV.one (V1.c
 (C.ptr 0 0 0))] [Atom.cells 46 (bookC false false y.fst.turn y.fst.deep [C.slc 1 0 y.fst.o.length none, C.slc 2 0 y.fst.t.length none, C.slc 3 0 y.fst.w.length none, C.slc 4 0 y.fst.n.length none, C.slc
 5 0 y.fst.f.length none, C.slc 6 0 y.fst.m.length none, C.slc 7 0 y.fst.d.length none, C.slc 8 0 y.fst.r.length none, C.int .i64 y.fst.seen]), Atom.arr Kd.ru8 y.fst.o, Atom.arr Kd.ru8 y.fst.t, Atom.arr
 Kd.ru8 y.fst.w, Atom.arr Kd.ru8 y.fst.n, Atom.arr Kd.ru8 y.fst.f, Atom.arr Kd.int y.fst.m, Atom.arr Kd.int y.fst.d, Atom.arr Kd.int y.fst.r] ∧ ∀ (y_6 : Unit), True → True ∧ Into (K := KK) 0 [] [0, 10,
 11, 12, 13, 14, 15, 16, 17] [VV.one (V1.c (C.ptr 0 0 0))] [Atom.cells 46 (bookC false false y.fst.turn y.fst.deep [C.slc 10 0 y.fst.o.length none, C.slc 11 0 y.fst.t.length none, C.slc 12 0 y.fst.w.length
 none, C.slc 13 0 y.fst.n.length none, C.slc 14 0 y.fst.f.length none, C.slc 15 0 y.fst.m.length none, C.slc 16 0 y.fst.d.length none, C.slc 17 0 y.fst.r.length none, C.int .i64 y.fst.seen]), Atom.gone,
 Atom.gone, Atom.gone, Atom.gone, Atom.gone, Atom.gone, Atom.gone, Atom.gone, Atom.bag y.snd, Atom.arr Kd.ru8 y.fst.o, Atom.arr Kd.ru8 y.fst.t, Atom.arr Kd.ru8 y.fst.w, Atom.arr Kd.ru8 y.fst.n, Atom.arr
 Kd.ru8 y.fst.f, Atom.arr Kd.int y.fst.m, Atom.arr Kd.int y.fst.d, Atom.arr Kd.int y.fst.r] [VV.one (V1.c (C.ptr 0 0 0))] [Atom.cells 46 (bookC false false y.fst.turn y.fst.deep [C.slc 1 0 y.fst.o.length
 none, C.slc 2 0 y.fst.t.length none, C.slc 3 0 y.fst.w.length none, C.slc 4 0 y.fst.n.length none, C.slc 5 0 y.fst.f.length none, C.slc 6 0 y.fst.m.length none, C.slc 7 0 y.fst.d.length none, C.slc 8 0
 y.fst.r.length none, C.int .i64 y.fst.seen]), Atom.arr Kd.ru8 y.fst.o, Atom.arr Kd.ru8 y.fst.t, Atom.arr Kd.ru8 y.fst.w, Atom.arr Kd.ru8 y.fst.n, Atom.arr Kd.ru8 y.fst.f, Atom.arr Kd.int y.fst.m, Atom.arr
 Kd.int y.fst.d, Atom.arr Kd.int y.fst.r] ∧ ∀ (y_7 : Unit), True → True ∧ Into (K := KK) 0 [] [0, 10, 11, 12, 13, 14, 15, 16, 17] [VV.one (V1.c (C.ptr 0 0 0))] [Atom.cells 46 (bookC false false y.fst.turn
 y.fst.deep [C.slc 10 0 y.fst.o.length none, C.slc 11 0 y.fst.t.length none, C.slc 12 0 y.fst.w.length none, C.slc 13 0 y.fst.n.length none, C.slc 14 0 y.fst.f.length none, C.slc 15 0 y.fst.m.length none,
 C.slc 16 0 y.fst.d.length none, C.slc 17 0 y.fst.r.length none, C.int .i64 y.fst.seen]), Atom.gone, Atom.gone, Atom.gone, Atom.gone, Atom.gone, Atom.gone, Atom.gone, Atom.gone, Atom.bag y.snd, Atom.arr
 Kd.ru8 y.fst.o, Atom.arr Kd.ru8 y.fst.t, Atom.arr Kd.ru8 y.fst.w, Atom.arr Kd.ru8 y.fst.n, Atom.arr Kd.ru8 y.fst.f, Atom.arr Kd.int y.fst.m, Atom.arr Kd.int y.fst.d, Atom.arr Kd.int y.fst.r] [VV.one (V1.c
 (C.ptr 0 0 0))] [Atom.cells 46 (bookC false false y.fst.turn y.fst.deep [C.slc 1 0 y.fst.o.length none, C.slc 2 0 y.fst.t.length none, C.slc 3 0 y.fst.w.length none, C.slc 4 0 y.fst.n.length none, C.slc
 5 0 y.fst.f.length none, C.slc 6 0 y.fst.m.length none, C.slc 7 0 y.fst.d.length none, C.slc 8 0 y.fst.r.length none, C.int .i64 y.fst.seen]), Atom.arr Kd.ru8 y.fst.o, Atom.arr Kd.ru8 y.fst.t, Atom.arr
 Kd.ru8 y.fst.w, Atom.arr Kd.ru8 y.fst.n, Atom.arr Kd.ru8 y.fst.f, Atom.arr Kd.int y.fst.m, Atom.arr Kd.int y.fst.d, Atom.arr Kd.int y.fst.r] ∧ ∀ (y_8 : Unit), True → True ∧ Into (K := KK) 0 [] [0, 10,
 11, 12, 13, 14, 15, 16, 17] [VV.one (V1.c (C.ptr 0 0 0))] [Atom.cells 46 (bookC false false y.fst.turn y.fst.deep [C.slc 10 0 y.fst.o.length none, C.slc 11 0 y.fst.t.length none, C.slc 12 0 y.fst.w.length
 none, C.slc 13 0 y.fst.n.length none, C.slc 14 0 y.fst.f.length none, C.slc 15 0 y.fst.m.length none, C.slc 16 0 y.fst.d.length none, C.slc 17 0 y.fst.r.length none, C.int .i64 y.fst.seen]), Atom.gone,
 Atom.gone, Atom.gone, Atom.gone, Atom.gone, Atom.gone, Atom.gone, Atom.gone, Atom.bag y.snd, Atom.arr Kd.ru8 y.fst.o, Atom.arr Kd.ru8 y.fst.t, Atom.arr Kd.ru8 y.fst.w, Atom.arr Kd.ru8 y.fst.n, Atom.arr
 Kd.ru8 y.fst.f, Atom.arr Kd.int y.fst.m, Atom.arr Kd.int y.fst.d, Atom.arr Kd.int y.fst.r] [VV.one (V1.c (C.ptr 0 0 0))] [Atom.cells 46 (bookC false false y.fst.turn y.fst.deep [C.slc 1 0 y.fst.o.length
 none, C.slc 2 0 y.fst.t.length none, C.slc 3 0 y.fst.w.length none, C.slc 4 0 y.fst.n.length none, C.slc 5 0 y.fst.f.length none, C.slc 6 0 y.fst.m.length none, C.slc 7 0 y.fst.d.length none, C.slc 8 0
 y.fst.r.length none, C.int .i64 y.fst.seen]), Atom.arr Kd.ru8 y.fst.o, Atom.arr Kd.ru8 y.fst.t, Atom.arr Kd.ru8 y.fst.w, Atom.arr Kd.ru8 y.fst.n, Atom.arr Kd.ru8 y.fst.f, Atom.arr Kd.int y.fst.m, Atom.arr
 Kd.int y.fst.d, Atom.arr Kd.int y.fst.r] ∧ ∀ (y_9 : Unit), True → True ∧ Into (K := KK) 0 [] [0, 10, 11, 12, 13, 14, 15, 16, 17] [VV.one (V1.c (C.ptr 0 0 0))] [Atom.cells 46 (bookC false false y.fst.turn
 y.fst.deep [C.slc 10 0 y.fst.o.length none, C.slc 11 0 y.fst.t.length none, C.slc 12 0 y.fst.w.length none, C.slc 13 0 y.fst.n.length none, C.slc 14 0 y.fst.f.length none, C.slc 15 0 y.fst.m.length none,
 C.slc 16 0 y.fst.d.length none, C.slc 17 0 y.fst.r.length none, C.int .i64 y.fst.seen]), Atom.gone, Atom.gone, Atom.gone, Atom.gone, Atom.gone, Atom.gone, Atom.gone, Atom.gone, Atom.bag y.snd, Atom.arr
 Kd.ru8 y.fst.o, Atom.arr Kd.ru8 y.fst.t, Atom.arr Kd.ru8 y.fst.w, Atom.arr Kd.ru8 y.fst.n, Atom.arr Kd.ru8 y.fst.f, Atom.arr Kd.int y.fst.m, Atom.arr Kd.int y.fst.d, Atom.arr Kd.int y.fst.r] [VV.one (V1.c
 (C.ptr 0 0 0))] [Atom.cells 46 (bookC false false y.fst.turn y.fst.deep [C.slc 1 0 y.fst.o.length none, C.slc 2 0 y.fst.t.length none, C.slc 3 0 y.fst.w.length none, C.slc 4 0 y.fst.n.length none, C.slc
 5 0 y.fst.f.length none, C.slc 6 0 y.fst.m.length none, C.slc 7 0 y.fst.d.length none, C.slc 8 0 y.fst.r.length none, C.int .i64 y.fst.seen]), Atom.arr Kd.ru8 y.fst.o, Atom.arr Kd.ru8 y.fst.t, Atom.arr
 Kd.ru8 y.fst.w, Atom.arr Kd.ru8 y.fst.n, Atom.arr Kd.ru8 y.fst.f, Atom.arr Kd.int y.fst.m, Atom.arr Kd.int y.fst.d, Atom.arr Kd.int y.fst.r] ∧ ∀ (y_10 : Unit), True → True ∧ Into (K := KK) 0 [] [0, 10,
 11, 12, 13, 14, 15, 16, 17] [VV.one (V1.c (C.ptr 0 0 0))] [Atom.cells 46 (bookC false false y.fst.turn y.fst.deep [C.slc 10 0 y.fst.o.length none, C.slc 11 0 y.fst.t.length none, C.slc 12 0 y.fst.w.length
 none, C.slc 13 0 y.fst.n.length none, C.slc 14 0 y.fst.f.length none, C.slc 15 0 y.fst.m.length none, C.slc 16 0 y.fst.d.length none, C.slc 17 0 y.fst.r.length none, C.int .i64 y.fst.seen]), Atom.gone,
 Atom.gone, Atom.gone, Atom.gone, Atom.gone, Atom.gone, Atom.gone, Atom.gone, Atom.bag y.snd, Atom.arr Kd.ru8 y.fst.o, Atom.arr Kd.ru8 y.fst.t, Atom.arr Kd.ru8 y.fst.w, Atom.arr Kd.ru8 y.fst.n, Atom.arr
 Kd.ru8 y.fst.f, Atom.arr Kd.int y.fst.m, Atom.arr Kd.int y.fst.d, Atom.arr Kd.int y.fst.r] [VV.one (V1.c (C.ptr 0 0 0))] [Atom.cells 46 (bookC false false y.fst.turn y.fst.deep [C.slc 1 0 y.fst.o.length
 none, C.slc 2 0 y.fst.t.length none, C.slc 3 0 y.fst.w.length none, C.slc 4 0 y.fst.n.length none, C.slc 5 0 y.fst.f.length none, C.slc 6 0 y.fst.m.length none, C.slc 7 0 y.fst.d.length none, C.slc 8 0
 y.fst.r.length none, C.int .i64 y.fst.seen]), Atom.arr Kd.ru8 y.fst.o, Atom.arr Kd.ru8 y.fst.t, Atom.arr Kd.ru8 y.fst.w, Atom.arr Kd.ru8 y.fst.n, Atom.arr Kd.ru8 y.fst.f, Atom.arr Kd.int y.fst.m, Atom.arr
 Kd.int y.fst.d, Atom.arr Kd.int y.fst.r] ∧ ∀ (y_11 : Unit), True → True ∧ Into (K := KK) 0 [] [0, 10, 11, 12, 13, 14, 15, 16, 17] [VV.one (V1.c (C.ptr 0 0 0))] [Atom.cells 46 (bookC false false y.fst.turn
 y.fst.deep [C.slc 10 0 y.fst.o.length none, C.slc 11 0 y.fst.t.length none, C.slc 12 0 y.fst.w.length none, C.slc 13 0 y.fst.n.length none, C.slc 14 0 y.fst.f.length none, C.slc 15 0 y.fst.m.length none,
 C.slc 16 0 y.fst.d.length none, C.slc 17 0 y.fst.r.length none, C.int .i64 y.fst.seen]), Atom.gone, Atom.gone, Atom.gone, Atom.gone, Atom.gone, Atom.gone, Atom.gone, Atom.gone, Atom.bag y.snd, Atom.arr
 Kd.ru8 y.fst.o, Atom.arr Kd.ru8 y.fst.t, Atom.arr Kd.ru8 y.fst.w, Atom.arr Kd.ru8 y.fst.n, Atom.arr Kd.ru8 y.fst.f, Atom.arr Kd.int y.fst.m, Atom.arr Kd.int y.fst.d, Atom.arr Kd.int y.fst.r] [VV.one (V1.c
 (C.ptr 0 0 0))] [Atom.cells 46 (bookC false false y.fst.turn y.fst.deep [C.slc 1 0 y.fst.o.length none, C.slc 2 0 y.fst.t.length none, C.slc 3 0 y.fst.w.length none, C.slc 4 0 y.fst.n.length none, C.slc
 5 0 y.fst.f.length none, C.slc 6 0 y.fst.m.length none, C.slc 7 0 y.fst.d.length none, C.slc 8 0 y.fst.r.length none, C.int .i64 y.fst.seen]), Atom.arr Kd.ru8 y.fst.o, Atom.arr Kd.ru8 y.fst.t, Atom.arr
 Kd.ru8 y.fst.w, Atom.arr Kd.ru8 y.fst.n, Atom.arr Kd.ru8 y.fst.f, Atom.arr Kd.int y.fst.m, Atom.arr Kd.int y.fst.d, Atom.arr Kd.int y.fst.r] ∧ ∀ (y_12 : Unit), True → True ∧ Into (K := KK) 0 [] [0, 10,
 11, 12, 13, 14, 15, 16, 17] [VV.one (V1.c (C.ptr 0 0 0))] [Atom.cells 46 (bookC false false y.fst.turn y.fst.deep [C.slc 10 0 y.fst.o.length none, C.slc 11 0 y.fst.t.length none, C.slc 12 0 y.fst.w.length
 none, C.slc 13 0 y.fst.n.length none, C.slc 14 0 y.fst.f.length none, C.slc 15 0 y.fst.m.length none, C.slc 16 0 y.fst.d.length none, C.slc 17 0 y.fst.r.length none, C.int .i64 y.fst.seen]), Atom.gone,
 Atom.gone, Atom.gone, Atom.gone, Atom.gone, Atom.gone, Atom.gone, Atom.gone, Atom.bag y.snd, Atom.arr Kd.ru8 y.fst.o, Atom.arr Kd.ru8 y.fst.t, Atom.arr Kd.ru8 y.fst.w, Atom.arr Kd.ru8 y.fst.n, Atom.arr
 Kd.ru8 y.fst.f, Atom.arr Kd.int y.fst.m, Atom.arr Kd.int y.fst.d, Atom.arr Kd.int y.fst.r] [VV.one (V1.c (C.ptr 0 0 0))] [Atom.cells 46 (bookC false false y.fst.turn y.fst.deep [C.slc 1 0 y.fst.o.length
 none, C.slc 2 0 y.fst.t.length none, C.slc 3 0 y.fst.w.length none, C.slc 4 0 y.fst.n.length none, C.slc 5 0 y.fst.f.length none, C.slc 6 0 y.fst.m.length none, C.slc 7 0 y.fst.d.length none, C.slc 8 0
 y.fst.r.length none, C.int .i64 y.fst.seen]), Atom.arr Kd.ru8 y.fst.o, Atom.arr Kd.ru8 y.fst.t, Atom.arr Kd.ru8 y.fst.w, Atom.arr Kd.ru8 y.fst.n, Atom.arr Kd.ru8 y.fst.f, Atom.arr Kd.int y.fst.m, Atom.arr
 Kd.int y.fst.d, Atom.arr Kd.int y.fst.r] ∧ ∀ (y_13 : Unit), True → True ∧ Into (K := KK) 0 [] [0, 10, 11, 12, 13, 14, 15, 16, 17] [VV.one (V1.c (C.ptr 0 0 0))] [Atom.cells 46 (bookC false false y.fst.turn
 y.fst.deep [C.slc 10 0 y.fst.o.length none, C.slc 11 0 y.fst.t.length none, C.slc 12 0 y.fst.w.length none, C.slc 13 0 y.fst.n.length none, C.slc 14 0 y.fst.f.length none, C.slc 15 0 y.fst.m.length none,
 C.slc 16 0 y.fst.d.length none, C.slc 17 0 y.fst.r.length none, C.int .i64 y.fst.seen]), Atom.gone, Atom.gone, Atom.gone, Atom.gone, Atom.gone, Atom.gone, Atom.gone, Atom.gone, Atom.bag y.snd, Atom.arr
 Kd.ru8 y.fst.o, Atom.arr Kd.ru8 y.fst.t, Atom.arr Kd.ru8 y.fst.w, Atom.arr Kd.ru8 y.fst.n, Atom.arr Kd.ru8 y.fst.f, Atom.arr Kd.int y.fst.m, Atom.arr Kd.int y.fst.d, Atom.arr Kd.int y.fst.r] [VV.one (V1.c
 (C.ptr 0 0 0))] [Atom.cells 46 (bookC false false y.fst.turn y.fst.deep [C.slc 1 0 y.fst.o.length none, C.slc 2 0 y.fst.t.length none, C.slc 3 0 y.fst.w.length none, C.slc 4 0 y.fst.n.length none, C.slc
 5 0 y.fst.f.length none, C.slc 6 0 y.fst.m.length none, C.slc 7 0 y.fst.d.length none, C.slc 8 0 y.fst.r.length none, C.int .i64 y.fst.seen]), Atom.arr Kd.ru8 y.fst.o, Atom.arr Kd.ru8 y.fst.t, Atom.arr
 Kd.ru8 y.fst.w, Atom.arr Kd.ru8 y.fst.n, Atom.arr Kd.ru8 y.fst.f, Atom.arr Kd.int y.fst.m, Atom.arr Kd.int y.fst.d, Atom.arr Kd.int y.fst.r] ∧ ∀ (y_14 : Unit), True → True ∧ Into (K := KK) 0 [] [0, 10,
 11, 12, 13, 14, 15, 16, 17] [VV.one (V1.c (C.ptr 0 0 0))] [Atom.cells 46 (bookC false false y.fst.turn y.fst.deep [C.slc 10 0 y.fst.o.length none, C.slc 11 0 y.fst.t.length none, C.slc 12 0 y.fst.w.length
 none, C.slc 13 0 y.fst.n.length none, C.slc 14 0 y.fst.f.length none, C.slc 15 0 y.fst.m.length none, C.slc 16 0 y.fst.d.length none, C.slc 17 0 y.fst.r.length none, C.int .i64 y.fst.seen]), Atom.gone,
 Atom.gone, Atom.gone, Atom.gone, Atom.gone, Atom.gone, Atom.gone, Atom.gone, Atom.bag y.snd, Atom.arr Kd.ru8 y.fst.o, Atom.arr Kd.ru8 y.fst.t, Atom.arr Kd.ru8 y.fst.w, Atom.arr Kd.ru8 y.fst.n, Atom.arr
 Kd.ru8 y.fst.f, Atom.arr Kd.int y.fst.m, Atom.arr Kd.int y.fst.d, Atom.arr Kd.int y.fst.r] [VV.one (V1.c (C.ptr 0 0 0))] [Atom.cells 46 (bookC false false y.fst.turn y.fst.deep [C.slc 1 0 y.fst.o.length
 none, C.slc 2 0 y.fst.t.length none, C.slc 3 0 y.fst.w.length none, C.slc 4 0 y.fst.n.length none, C.slc 5 0 y.fst.f.length none, C.slc 6 0 y.fst.m.length none, C.slc 7 0 y.fst.d.length none, C.slc 8 0
 y.fst.r.length none, C.int .i64 y.fst.seen]), Atom.arr Kd.ru8 y.fst.o, Atom.arr Kd.ru8 y.fst.t, Atom.arr Kd.ru8 y.fst.w, Atom.arr Kd.ru8 y.fst.n, Atom.arr Kd.ru8 y.fst.f, Atom.arr Kd.int y.fst.m, Atom.arr
 Kd.int y.fst.d, Atom.arr Kd.int y.fst.r] ∧ ∀ (y_15 : Unit), True → EndsAs 10 (ct_grows B φ) (VV.tup []) [Atom.cells 46 (bookC false false y.fst.turn y.fst.deep [C.slc 10 0 y.fst.o.length none, C.slc 11
 0 y.fst.t.length none, C.slc 12 0 y.fst.w.length none, C.slc 13 0 y.fst.n.length none, C.slc 14 0 y.fst.f.length none, C.slc 15 0 y.fst.m.length none, C.slc 16 0 y.fst.d.length none, C.slc 17 0 y.fst.r.length
 none, C.int .i64 y.fst.seen]), Atom.gone, Atom.gone, Atom.gone, Atom.gone, Atom.gone, Atom.gone, Atom.gone, Atom.gone, Atom.bag y.snd, Atom.arr Kd.ru8 y.fst.o, Atom.arr Kd.ru8 y.fst.t, Atom.arr Kd.ru8
 y.fst.w, Atom.arr Kd.ru8 y.fst.n, Atom.arr Kd.ru8 y.fst.f, Atom.arr Kd.int y.fst.m, Atom.arr Kd.int y.fst.d, Atom.arr Kd.int y.fst.r]) := by kernel_rfl
theorem hT_ok (B : BS) (φ : Bag KK) : CtOk Tryz.prog 36 (ct_hT B φ) := CtOk_of KK_ok tabB (ann_hT B φ) (fn := Tryz.f36) rfl (fun _ _ => rfl) fun hn => by
  have hn : BookOk φ B := hn
  have hto : B.o.length = B.t.length := All2.length hn.good.told
  have hon : B.w.length = B.n.length := All2.length hn.good.note
  have hcB := hn.cnt
  have hfB := hn.few
  rw [vc_hT]
  simp only [Int.toNat_natCast, Nat.zero_add, Nat.add_zero]
  refine ⟨⟨(0 : Nat), [], [0, 1, 2, 3, 4, 5, 6, 7, 8, 9], Nat.zero_le _, trivial, into_mk (by kernel_rfl) (by (repeat' first | exact trivial | exact rfl | apply And.intro)) (by (repeat' first | exact trivial | exact rfl | apply And.intro))⟩, fun i hi => ite2_decide (fun hl => ?_) (fun hl => ⟨⟨(0 : Nat), [], [0, 1, 2, 3, 4, 5, 6, 7, 8, 9], Nat.zero_le _, trivial, into_mk (by kernel_rfl) (by (repeat' first | exact trivial | exact rfl | apply And.intro)) (by (repeat' first | exact trivial | exact rfl | apply And.intro))⟩, fun j hj => ite2_decide (fun hl2 => ?_) (fun hl2 => ⟨(), [], [0, 1, 2, 3, 4, 5, 6, 7, 8, 9], trivial, by (repeat' first | exact trivial | exact rfl | apply And.intro)⟩)⟩)⟩
  · have h1 : i < B.o.length := by omega
    have h2 : i < B.t.length := by omega
    obtain ⟨xs, x1, x2, x3⟩ := hn.good.told.rd .nil .nil i h1
    have x3' : (xs : List Int).length ≤ 1000150 := x3
    exact ⟨⟨by omega, by omega⟩, h1, trivial, h1, ⟨by omega, by omega⟩, h2, trivial, h2, trivial, ⟨xs, x1, x2, le_big (by first | exact x3 | exact le_150 x3)⟩, into_mk (by kernel_rfl) (by (repeat' first | exact trivial | exact rfl | apply And.intro)) (by (repeat' first | exact trivial | exact rfl | apply And.intro)), fun _ _ => ⟨trivial, by unfold i64ok; omega, (i + 1 : Nat), [], [0, 1, 2, 3, 4, 5, 6, 7, 8, 9], h1, by omega, into_mk (by kernel_rfl) (by (repeat' first | exact trivial | exact rfl | apply And.intro)) (by (repeat' first | exact trivial | exact rfl | apply And.intro))⟩⟩
  · have h1 : j < B.w.length := by omega
    have h2 : j < B.n.length := by omega
    obtain ⟨xs, x1, x2, x3⟩ := hn.good.note.rd .nil .nil j h1
    have x3' : (xs : List Int).length ≤ 1000000 := x3
    exact ⟨⟨by omega, by omega⟩, h1, trivial, h1, ⟨by omega, by omega⟩, h2, trivial, h2, trivial, ⟨xs, x1, x2, le_big (by first | exact x3 | exact le_150 x3)⟩, into_mk (by kernel_rfl) (by (repeat' first | exact trivial | exact rfl | apply And.intro)) (by (repeat' first | exact trivial | exact rfl | apply And.intro)), fun _ _ => ⟨trivial, by unfold i64ok; omega, (j + 1 : Nat), [], [0, 1, 2, 3, 4, 5, 6, 7, 8, 9], h1, by omega, into_mk (by kernel_rfl) (by (repeat' first | exact trivial | exact rfl | apply And.intro)) (by (repeat' first | exact trivial | exact rfl | apply And.intro))⟩⟩
theorem marks_ok (B : BS) (φ : Bag KK) : CtOk Tryz.prog 68 (ct_marks B φ) := CtOk_of KK_ok tabM ann0 (fn := Tryz.f68) rfl (fun _ _ => rfl) fun hn => by
  rw [vc_marks]
  exact ⟨hn, into_mk (by kernel_rfl) (by (repeat' first | exact trivial | exact rfl | apply And.intro)) (by (repeat' first | exact trivial | exact rfl | apply And.intro)), fun y hy => ⟨trivial, into_mk (by kernel_rfl) (by (repeat' first | exact trivial | exact rfl | apply And.intro)) (by (repeat' first | exact trivial | exact rfl | apply And.intro)), fun _ _ => ⟨trivial, into_mk (by kernel_rfl) (by (repeat' first | exact trivial | exact rfl | apply And.intro)) (by (repeat' first | exact trivial | exact rfl | apply And.intro)), fun _ _ => ⟨trivial, into_mk (by kernel_rfl) (by (repeat' first | exact trivial | exact rfl | apply And.intro)) (by (repeat' first | exact trivial | exact rfl | apply And.intro)), fun _ _ => ⟨trivial, into_mk (by kernel_rfl) (by (repeat' first | exact trivial | exact rfl | apply And.intro)) (by (repeat' first | exact trivial | exact rfl | apply And.intro)), fun _ _ => ⟨trivial, into_mk (by kernel_rfl) (by (repeat' first | exact trivial | exact rfl | apply And.intro)) (by (repeat' first | exact trivial | exact rfl | apply And.intro)), fun _ _ => ⟨trivial, into_mk (by kernel_rfl) (by (repeat' first | exact trivial | exact rfl | apply And.intro)) (by (repeat' first | exact trivial | exact rfl | apply And.intro)), fun _ _ => ⟨trivial, into_mk (by kernel_rfl) (by (repeat' first | exact trivial | exact rfl | apply And.intro)) (by (repeat' first | exact trivial | exact rfl | apply And.intro)), fun _ _ => ⟨trivial, into_mk (by kernel_rfl) (by (repeat' first | exact trivial | exact rfl | apply And.intro)) (by (repeat' first | exact trivial | exact rfl | apply And.intro)), fun _ _ => ⟨trivial, into_mk (by kernel_rfl) (by (repeat' first | exact trivial | exact rfl | apply And.intro)) (by (repeat' first | exact trivial | exact rfl | apply And.intro)), fun _ _ => ⟨trivial, into_mk (by kernel_rfl) (by (repeat' first | exact trivial | exact rfl | apply And.intro)) (by (repeat' first | exact trivial | exact rfl | apply And.intro)), fun _ _ => ⟨trivial, into_mk (by kernel_rfl) (by (repeat' first | exact trivial | exact rfl | apply And.intro)) (by (repeat' first | exact trivial | exact rfl | apply And.intro)), fun _ _ => ⟨trivial, into_mk (by kernel_rfl) (by (repeat' first | exact trivial | exact rfl | apply And.intro)) (by (repeat' first | exact trivial | exact rfl | apply And.intro)), fun _ _ => ⟨trivial, into_mk (by kernel_rfl) (by (repeat' first | exact trivial | exact rfl | apply And.intro)) (by (repeat' first | exact trivial | exact rfl | apply And.intro)), fun _ _ => ⟨trivial, into_mk (by kernel_rfl) (by (repeat' first | exact trivial | exact rfl | apply And.intro)) (by (repeat' first | exact trivial | exact rfl | apply And.intro)), fun _ _ => ⟨trivial, into_mk (by kernel_rfl) (by (repeat' first | exact trivial | exact rfl | apply And.intro)) (by (repeat' first | exact trivial | exact rfl | apply And.intro)), fun _ _ => ⟨y, [], [0, 1, 2, 3, 4, 5, 6, 7, 8, 9, 10, 11, 12, 13, 14, 15, 16, 17], hy, by (repeat' first | exact trivial | exact rfl | apply And.intro)⟩⟩⟩⟩⟩⟩⟩⟩⟩⟩⟩⟩⟩⟩⟩⟩⟩
theorem grows_ok (B : BS) (φ : Bag KK) : CtOk Tryz.prog 69 (ct_grows B φ) := CtOk_of KK_ok tabG ann0 (fn := Tryz.f69) rfl (fun _ _ => rfl) fun hn => by
  rw [vc_grows]
  exact ⟨hn, into_mk (by kernel_rfl) (by (repeat' first | exact trivial | exact rfl | apply And.intro)) (by (repeat' first | exact trivial | exact rfl | apply And.intro)), fun y hy => ⟨trivial, into_mk (by kernel_rfl) (by (repeat' first | exact trivial | exact rfl | apply And.intro)) (by (repeat' first | exact trivial | exact rfl | apply And.intro)), fun _ _ => ⟨trivial, into_mk (by kernel_rfl) (by (repeat' first | exact trivial | exact rfl | apply And.intro)) (by (repeat' first | exact trivial | exact rfl | apply And.intro)), fun _ _ => ⟨trivial, into_mk (by kernel_rfl) (by (repeat' first | exact trivial | exact rfl | apply And.intro)) (by (repeat' first | exact trivial | exact rfl | apply And.intro)), fun _ _ => ⟨trivial, into_mk (by kernel_rfl) (by (repeat' first | exact trivial | exact rfl | apply And.intro)) (by (repeat' first | exact trivial | exact rfl | apply And.intro)), fun _ _ => ⟨trivial, into_mk (by kernel_rfl) (by (repeat' first | exact trivial | exact rfl | apply And.intro)) (by (repeat' first | exact trivial | exact rfl | apply And.intro)), fun _ _ => ⟨trivial, into_mk (by kernel_rfl) (by (repeat' first | exact trivial | exact rfl | apply And.intro)) (by (repeat' first | exact trivial | exact rfl | apply And.intro)), fun _ _ => ⟨trivial, into_mk (by kernel_rfl) (by (repeat' first | exact trivial | exact rfl | apply And.intro)) (by (repeat' first | exact trivial | exact rfl | apply And.intro)), fun _ _ => ⟨trivial, into_mk (by kernel_rfl) (by (repeat' first | exact trivial | exact rfl | apply And.intro)) (by (repeat' first | exact trivial | exact rfl | apply And.intro)), fun _ _ => ⟨trivial, into_mk (by kernel_rfl) (by (repeat' first | exact trivial | exact rfl | apply And.intro)) (by (repeat' first | exact trivial | exact rfl | apply And.intro)), fun _ _ => ⟨trivial, into_mk (by kernel_rfl) (by (repeat' first | exact trivial | exact rfl | apply And.intro)) (by (repeat' first | exact trivial | exact rfl | apply And.intro)), fun _ _ => ⟨trivial, into_mk (by kernel_rfl) (by (repeat' first | exact trivial | exact rfl | apply And.intro)) (by (repeat' first | exact trivial | exact rfl | apply And.intro)), fun _ _ => ⟨trivial, into_mk (by kernel_rfl) (by (repeat' first | exact trivial | exact rfl | apply And.intro)) (by (repeat' first | exact trivial | exact rfl | apply And.intro)), fun _ _ => ⟨trivial, into_mk (by kernel_rfl) (by (repeat' first | exact trivial | exact rfl | apply And.intro)) (by (repeat' first | exact trivial | exact rfl | apply And.intro)), fun _ _ => ⟨trivial, into_mk (by kernel_rfl) (by (repeat' first | exact trivial | exact rfl | apply And.intro)) (by (repeat' first | exact trivial | exact rfl | apply And.intro)), fun _ _ => ⟨trivial, into_mk (by kernel_rfl) (by (repeat' first | exact trivial | exact rfl | apply And.intro)) (by (repeat' first | exact trivial | exact rfl | apply And.intro)), fun _ _ => ⟨y, [], [0, 1, 2, 3, 4, 5, 6, 7, 8, 9, 10, 11, 12, 13, 14, 15, 16, 17], hy, by (repeat' first | exact trivial | exact rfl | apply And.intro)⟩⟩⟩⟩⟩⟩⟩⟩⟩⟩⟩⟩⟩⟩⟩⟩⟩
end Go.Proofs.YtndlpbheifalhaaGreatDoor.T
