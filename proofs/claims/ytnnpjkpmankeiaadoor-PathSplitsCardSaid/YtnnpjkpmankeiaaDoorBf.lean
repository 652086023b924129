/- The book: what it holds is looked at; all kinds, one behind the other. -/
import Derived.Test.YtnnpjkpmankeiaaDoorBe
namespace Go.Proofs.YtnnpjkpmankeiaaDoor.T
open Go.Proofs.YtnnpjkpmankeiaaDoor.E
set_option maxRecDepth 100000
set_option linter.unusedVariables false
/-- The book that stands at name 0, and the names of its lists. -/
def getB (H : VH KK) : Option (BS × List Nat) := match at_ H 0 with
  | .cells _ (_ :: _ :: .int _ turn :: .int _ deep :: cs) => match cs.drop 18 with
    | .slc a _ _ _ :: .slc b _ _ _ :: .slc c _ _ _ :: .slc d _ _ _ :: .slc e _ _ _ :: .slc f _ _ _ :: .slc g _ _ _ :: .slc h _ _ _ :: .int _ seen :: _ =>
      match at_ H a, at_ H b, at_ H c, at_ H d, at_ H e, at_ H f, at_ H g, at_ H h with
      | .arr .rstr o, .arr .rstr t, .arr .rstr w, .arr .rstr n, .arr .rstr fr, .arr .int m, .arr .int du, .arr .int r => some (⟨turn, deep, o, t, w, n, fr, m, du, r, seen⟩, [0, a, b, c, d, e, f, g, h])
      | _, _, _, _, _, _, _, _ => none
    | _ => none
  | _ => none
def getBB (H : VH KK) : Option (BS × Bag KK × List Nat) := match getB H, at_ H 9 with
  | some (B, τ), .bag φ => some (B, φ, τ ++ [9])
  | _, _ => none
def ct_hT (B : BS) (φ : Bag KK) : Ct KK := { need := BookOk φ B, pre := bookH B ++ [.bag φ], args := [.c (.ptr 0 0 0)], Y := Unit, ok := fun _ => True, ret := fun _ => boolv true, post := fun _ => bookH B ++ [.bag φ] }
def inv_hT1 (B : BS) (φ : Bag KK) : Inv KK := { X := Nat, fr := fun i => [.c (.ptr 0 0 0), .any, .any, i64 i] ++ anys 51, H := fun _ => bookH B ++ [.bag φ], ok := fun i => i ≤ B.o.length, meas := fun i : Nat => B.o.length - i }
def inv_hT2 (B : BS) (φ : Bag KK) : Inv KK := { X := Nat, fr := fun i => [.c (.ptr 0 0 0), .any, .any, .any, i64 i] ++ anys 50, H := fun _ => bookH B ++ [.bag φ], ok := fun i => i ≤ B.w.length, meas := fun i : Nat => B.w.length - i }
def loop_hT (B : BS) (φ : Bag KK) (id : Nat) (fr : List VV) (H : VH KK) : Option (Inv KK) := match id with
  | 2 => some (inv_hT1 B φ)
  | _ => some (inv_hT2 B φ)
def ann_hT (B : BS) (φ : Bag KK) : Ann KK := { loop := loop_hT B φ, cut := fun _ _ _ => none, keep := some 5 }
def ct_marks (B : BS) (φ : Bag KK) : Ct KK := { need := BookOk φ B, pre := bookH B ++ [.bag φ], args := [.c (.ptr 0 0 0)], Y := BS × Bag KK, ok := fun y => BookOk y.2 y.1 ∧ SameB B y.1, ret := fun _ => .tup [], post := fun y => bookM y.1 y.2 }
def ct_grows (B : BS) (φ : Bag KK) : Ct KK := { need := BookOk φ B, pre := bookH B ++ [.bag φ], args := [.c (.ptr 0 0 0)], Y := BS × Bag KK, ok := fun y => (BookOk y.2 y.1 ∧ SameB B y.1) ∧ y.1.f = [] ∧ y.1.r = [], ret := fun _ => .tup [], post := fun y => bookM y.1 y.2 }
def pick_tabM (f : FuncId) (B : BS) (τ : List Nat) : Option (Ct KK × List KK.Kd × List Nat) := match f with
  | 50 => some (ct_b B (.tup []), [], τ)
  | 51 => some (ct_b B (.tup []), [], τ)
  | 53 => some (ct_b B (.tup []), [], τ)
  | 54 => some (ct_b B (.tup []), [], τ)
  | 55 => some (ct_b B (.tup []), [], τ)
  | 56 => some (ct_b B (.tup []), [], τ)
  | 57 => some (ct_b B (.tup []), [], τ)
  | 58 => some (ct_b B (.tup []), [], τ)
  | 59 => some (ct_b B (.tup []), [], τ)
  | 60 => some (ct_b B (.tup []), [], τ)
  | 61 => some (ct_b B (.tup []), [], τ)
  | 62 => some (ct_b B (.tup []), [], τ)
  | 63 => some (ct_b B (.tup []), [], τ)
  | 64 => some (ct_b B (.tup []), [], τ)
  | 65 => some (ct_b B (.tup []), [], τ)
  | _ => none
theorem pick_tabM_ok (f : FuncId) (B : BS) (τ : List Nat) (ct ks ρ) (h : pick_tabM f B τ = some (ct, ks, ρ)) : CtOk Tryd.prog f ct := by
  unfold pick_tabM at h
  split at h
  · cases h; exact mBytes_ok _
  · cases h; exact mInts_ok _
  · cases h; exact mLosts_ok _
  · cases h; exact mChanges_ok _
  · cases h; exact mCells_ok _
  · cases h; exact mItems_ok _
  · cases h; exact mEntries_ok _
  · cases h; exact mPlaceds_ok _
  · cases h; exact mRules_ok _
  · cases h; exact mFaults_ok _
  · cases h; exact mChunks_ok _
  · cases h; exact mThings_ok _
  · cases h; exact mDones_ok _
  · cases h; exact mNodes_ok _
  · cases h; exact mSteps_ok _
  · cases h
def tabM : Tab Tryd.prog KK := ⟨mixed, fun f args H => match args with
  | [.one (.c (.ptr 0 0 0))] => match f with
    | 52 => match getBB H with
      | some (B, φ, τ) => some (ct_mT B φ, [], τ)
      | none => none
    | f => match getB H with
      | some (B, τ) => pick_tabM f B τ
      | none => none
  | _ => none, fun f args H ct ks τ h => by
    split at h
    · split at h
      · split at h
        · cases h; exact mT_ok _ _
        · cases h
      · split at h
        · exact pick_tabM_ok _ _ _ _ _ _ h
        · cases h
    · cases h⟩
def pick_tabG (f : FuncId) (B : BS) (τ : List Nat) : Option (Ct KK × List KK.Kd × List Nat) := match f with
  | 66 => some (ct_b B (.tup []), [], τ)
  | 67 => some (ct_b B (.tup []), [], τ)
  | 69 => some (ct_b B (.tup []), [], τ)
  | 70 => some (ct_b B (.tup []), [], τ)
  | 71 => some (ct_b B (.tup []), [], τ)
  | 72 => some (ct_b B (.tup []), [], τ)
  | 73 => some (ct_b B (.tup []), [], τ)
  | 74 => some (ct_b B (.tup []), [], τ)
  | 75 => some (ct_b B (.tup []), [], τ)
  | 76 => some (ct_b B (.tup []), [], τ)
  | 77 => some (ct_b B (.tup []), [], τ)
  | 78 => some (ct_b B (.tup []), [], τ)
  | 79 => some (ct_b B (.tup []), [], τ)
  | 80 => some (ct_b B (.tup []), [], τ)
  | 81 => some (ct_b B (.tup []), [], τ)
  | _ => none
theorem pick_tabG_ok (f : FuncId) (B : BS) (τ : List Nat) (ct ks ρ) (h : pick_tabG f B τ = some (ct, ks, ρ)) : CtOk Tryd.prog f ct := by
  unfold pick_tabG at h
  split at h
  · cases h; exact gBytes_ok _
  · cases h; exact gInts_ok _
  · cases h; exact gLosts_ok _
  · cases h; exact gChanges_ok _
  · cases h; exact gCells_ok _
  · cases h; exact gItems_ok _
  · cases h; exact gEntries_ok _
  · cases h; exact gPlaceds_ok _
  · cases h; exact gRules_ok _
  · cases h; exact gFaults_ok _
  · cases h; exact gChunks_ok _
  · cases h; exact gThings_ok _
  · cases h; exact gDones_ok _
  · cases h; exact gNodes_ok _
  · cases h; exact gSteps_ok _
  · cases h
def tabG : Tab Tryd.prog KK := ⟨mixed, fun f args H => match args with
  | [.one (.c (.ptr 0 0 0))] => match f with
    | 68 => match getBB H with
      | some (B, φ, τ) => some (ct_gT B φ, [], τ)
      | none => none
    | f => match getB H with
      | some (B, τ) => pick_tabG f B τ
      | none => none
  | _ => none, fun f args H ct ks τ h => by
    split at h
    · split at h
      · split at h
        · cases h; exact gT_ok _ _
        · cases h
      · split at h
        · exact pick_tabG_ok _ _ _ _ _ _ h
        · cases h
    · cases h⟩
theorem vc_hT (B : BS) (φ : Bag KK) : evFn tabB (ann_hT B φ) Tryd.f18 (ct_hT B φ) = ( Enter 10 (inv_hT1 B φ) (fun (x : Nat) => True) ([VV.one (V1.c (C.ptr 0 0 0)), VV.any, boolv false, i64 (0 : Int)] ++ anys 51) (bookH B ++ [.bag φ]) ∧ ∀ (z : Nat), z ≤ B.o.length → ite2 (decide ((↑z :
 Int) < (↑B.o.length : Int))) (((0 : Int) ≤ (↑z : Int) ∧ (↑z : Int) < (↑B.o.length : Int)) ∧ (↑z : Int).toNat < B.o.length ∧ True ∧ (↑z : Int).toNat < B.o.length ∧ ((0 : Int) ≤ (↑z : Int) ∧ (↑z : Int) <
 (↑B.t.length : Int)) ∧ (↑z : Int).toNat < B.t.length ∧ True ∧ (↑z : Int).toNat < B.t.length ∧ True ∧ (∃ (xs : List (KK.α Kd.str)), RS.row φ Kd.str (rd B.o (↑z : Int).toNat RS.nil) = some xs ∧ RS.row φ
 Kd.str (rd B.t (↑z : Int).toNat RS.nil) = some xs ∧ xs.length ≤ 1000000000) ∧ Into (K := KK) 0 [] [9] [VV.one (V1.c (C.rs 9 1 (rd B.o (↑z : Int).toNat RS.nil))), VV.one (V1.c (C.rs 9 1 (rd B.t (↑z : Int).toNat
 RS.nil)))] (bookH B ++ [.bag φ]) [VV.one (V1.c (C.rs 9 1 (rd B.o (↑z : Int).toNat RS.nil))), VV.one (V1.c (C.rs 9 1 (rd B.t (↑z : Int).toNat RS.nil)))] [Atom.bag φ] ∧ ∀ (y : Unit), True → True ∧ i64ok
 ((↑z : Int) + (1 : Int)) ∧ Enter 10 (inv_hT1 B φ) (fun (z' : Nat) => B.o.length - z' < B.o.length - z) ([VV.one (V1.c (C.ptr 0 0 0)), VV.any, VV.any, i64 ((↑z : Int) + (1 : Int))] ++ anys 51) (bookH B
 ++ [.bag φ])) (Enter 10 (inv_hT2 B φ) (fun (x : Nat) => True) ([VV.one (V1.c (C.ptr 0 0 0)), VV.any, VV.any, i64 (↑z : Int), i64 (0 : Int)] ++ anys 50) (bookH B ++ [.bag φ]) ∧ ∀ (z : Nat), z ≤ B.w.length
 → ite2 (decide ((↑z : Int) < (↑B.w.length : Int))) (((0 : Int) ≤ (↑z : Int) ∧ (↑z : Int) < (↑B.w.length : Int)) ∧ (↑z : Int).toNat < B.w.length ∧ True ∧ (↑z : Int).toNat < B.w.length ∧ ((0 : Int) ≤ (↑z
 : Int) ∧ (↑z : Int) < (↑B.n.length : Int)) ∧ (↑z : Int).toNat < B.n.length ∧ True ∧ (↑z : Int).toNat < B.n.length ∧ True ∧ (∃ (xs : List (KK.α Kd.str)), RS.row φ Kd.str (rd B.w (↑z : Int).toNat RS.nil)
 = some xs ∧ RS.row φ Kd.str (rd B.n (↑z : Int).toNat RS.nil) = some xs ∧ xs.length ≤ 1000000000) ∧ Into (K := KK) 0 [] [9] [VV.one (V1.c (C.rs 9 1 (rd B.w (↑z : Int).toNat RS.nil))), VV.one (V1.c (C.rs
 9 1 (rd B.n (↑z : Int).toNat RS.nil)))] (bookH B ++ [.bag φ]) [VV.one (V1.c (C.rs 9 1 (rd B.w (↑z : Int).toNat RS.nil))), VV.one (V1.c (C.rs 9 1 (rd B.n (↑z : Int).toNat RS.nil)))] [Atom.bag φ] ∧ ∀ (y
 : Unit), True → True ∧ i64ok ((↑z : Int) + (1 : Int)) ∧ Enter 10 (inv_hT2 B φ) (fun (z' : Nat) => B.w.length - z' < B.w.length - z) ([VV.one (V1.c (C.ptr 0 0 0)), VV.any, VV.any, VV.any, i64 ((↑z : Int)
 + (1 : Int))] ++ anys 50) (bookH B ++ [.bag φ])) (EndsAs 10 (ct_hT B φ) (boolv true) (bookH B ++ [.bag φ])))) := by kernel_rfl
theorem vc_marks (B : BS) (φ : Bag KK) : evFn tabM ann0 Tryd.f32 (ct_marks B φ) = ( True ∧ Into (K := KK) 0 [] [0, 1, 2, 3, 4, 5, 6, 7, 8] [VV.one (V1.c (C.ptr 0 0 0))] (bookH B ++ [.bag φ]) [VV.one (V1.c (C.ptr 0 0 0))] (bookH B) ∧ ∀ (y : Unit), True → True ∧ Into (K := KK) 0 [] [0,
 1, 2, 3, 4, 5, 6, 7, 8] [VV.one (V1.c (C.ptr 0 0 0))] (bookH B ++ [.bag φ]) [VV.one (V1.c (C.ptr 0 0 0))] (bookH B) ∧ ∀ (y : Unit), True → BookOk φ (BS.mk (B.turn) (B.deep) (B.o) (B.t) (B.w) (B.n) (B.f)
 (B.m) (B.d) (B.r) (B.seen)) ∧ Into (K := KK) 0 [] [0, 1, 2, 3, 4, 5, 6, 7, 8, 9] [VV.one (V1.c (C.ptr 0 0 0))] (bookH B ++ [.bag φ]) [VV.one (V1.c (C.ptr 0 0 0))] (bookH B ++ [.bag φ]) ∧ ∀ (y : BS × Bag
 KK), BookOk y.snd y.fst ∧ y.fst.turn = B.turn ∧ y.fst.deep = B.deep ∧ y.fst.seen = B.seen → True ∧ Into (K := KK) 0 [] [0, 10, 11, 12, 13, 14, 15, 16, 17] [VV.one (V1.c (C.ptr 0 0 0))] [Atom.cells 41 (bookC
 false false y.fst.turn y.fst.deep [C.slc 10 0 y.fst.o.length none, C.slc 11 0 y.fst.t.length none, C.slc 12 0 y.fst.w.length none, C.slc 13 0 y.fst.n.length none, C.slc 14 0 y.fst.f.length none, C.slc
 15 0 y.fst.m.length none, C.slc 16 0 y.fst.d.length none, C.slc 17 0 y.fst.r.length none, C.int .i64 y.fst.seen]), Atom.gone, Atom.gone, Atom.gone, Atom.gone, Atom.gone, Atom.gone, Atom.gone, Atom.gone,
 Atom.bag y.snd, Atom.arr Kd.rstr y.fst.o, Atom.arr Kd.rstr y.fst.t, Atom.arr Kd.rstr y.fst.w, Atom.arr Kd.rstr y.fst.n, Atom.arr Kd.rstr y.fst.f, Atom.arr Kd.int y.fst.m, Atom.arr Kd.int y.fst.d, Atom.arr
 Kd.int y.fst.r] [VV.one (V1.c (C.ptr 0 0 0))] [Atom.cells 41 (bookC false false y.fst.turn y.fst.deep [C.slc 1 0 y.fst.o.length none, C.slc 2 0 y.fst.t.length none, C.slc 3 0 y.fst.w.length none, C.slc
 4 0 y.fst.n.length none, C.slc 5 0 y.fst.f.length none, C.slc 6 0 y.fst.m.length none, C.slc 7 0 y.fst.d.length none, C.slc 8 0 y.fst.r.length none, C.int .i64 y.fst.seen]), Atom.arr Kd.rstr y.fst.o, Atom.arr
 Kd.rstr y.fst.t, Atom.arr Kd.rstr y.fst.w, Atom.arr Kd.rstr y.fst.n, Atom.arr Kd.rstr y.fst.f, Atom.arr Kd.int y.fst.m, Atom.arr Kd.int y.fst.d, Atom.arr Kd.int y.fst.r] ∧ ∀ (y_1 : Unit), True → True ∧
 Into (K := KK) 0 [] [0, 10, 11, 12, 13, 14, 15, 16, 17] [VV.one (V1.c (C.ptr 0 0 0))] [Atom.cells 41 (bookC false false y.fst.turn y.fst.deep [C.slc 10 0 y.fst.o.length none, C.slc 11 0 y.fst.t.length
 none, C.slc 12 0 y.fst.w.length none, C.slc 13 0 y.fst.n.length none, C.slc 14 0 y.fst.f.length none, C.slc 15 0 y.fst.m.length none, C.slc 16 0 y.fst.d.length none, C.slc 17 0 y.fst.r.length none, C.int
 .i64 y.fst.seen]), Atom.gone, Atom.gone, Atom.gone, Atom.gone, Atom.gone, Atom.gone, Atom.gone, Atom.gone, Atom.bag y.snd, Atom.arr Kd.rstr y.fst.o, Atom.arr Kd.rstr y.fst.t, Atom.arr Kd.rstr y.fst.w,
 Atom.arr Kd.rstr y.fst.n, Atom.arr Kd.rstr y.fst.f, Atom.arr Kd.int y.fst.m, Atom.arr Kd.int y.fst.d, Atom.arr Kd.int y.fst.r] [VV.one (V1.c (C.ptr 0 0 0))] [Atom.cells 41 (bookC false false y.fst.turn
 y.fst.deep [C.slc 1 0 y.fst.o.length none, C.slc 2 0 y.fst.t.length none, C.slc 3 0 y.fst.w.length none, C.slc 4 0 y.fst.n.length none, C.slc 5 0 y.fst.f.length none, C.slc 6 0 y.fst.m.length none, C.slc
 7 0 y.fst.d.length none, C.slc 8 0 y.fst.r.length none, C.int .i64 y.fst.seen]), Atom.arr Kd.rstr y.fst.o, Atom.arr Kd.rstr y.fst.t, Atom.arr Kd.rstr y.fst.w, Atom.arr Kd.rstr y.fst.n, Atom.arr Kd.rstr
 y.fst.f, Atom.arr Kd.int y.fst.m, Atom.arr Kd.int y.fst.d, Atom.arr Kd.int y.fst.r] ∧ ∀ (y_2 : Unit), True → True ∧ Into (K := KK) 0 [] [0, 10, 11, 12, 13, 14, 15, 16, 17] [VV.one (V1.c (C.ptr 0 0 0))]
 [Atom.cells 41 (bookC false false y.fst.turn y.fst.deep [C.slc 10 0 y.fst.o.length none, C.slc 11 0 y.fst.t.length none, C.slc 12 0 y.fst.w.length none, C.slc 13 0 y.fst.n.length none, C.slc 14 0 y.fst.f.length
 none, C.slc 15 0 y.fst.m.length none, C.slc 16 0 y.fst.d.length none, C.slc 17 0 y.fst.r.length none, C.int .i64 y.fst.seen]), Atom.gone, Atom.gone, Atom.gone, Atom.gone, Atom.gone, Atom.gone, Atom.gone,
 Atom.gone, Atom.bag y.snd, Atom.arr Kd.rstr y.fst.o, Atom.arr Kd.rstr y.fst.t, Atom.arr Kd.rstr y.fst.w, Atom.arr Kd.rstr y.fst.n, Atom.arr Kd.rstr y.fst.f, Atom.arr Kd.int y.fst.m, Atom.arr Kd.int y.fst.d,
 Atom.arr Kd.int y.fst.r] [VV.one (V1.c (C.ptr 0 0 0))] [Atom.cells 41 (bookC false false y.fst.turn y.fst.deep [C.slc 1 0 y.fst.o.length none, C.slc 2 0 y.fst.t.length none, C.slc 3 0 y.fst.w.length none,
 C.slc 4 0 y.fst.n.length none, C.slc 5 0 y.fst.f.length none, C.slc 6 0 y.fst.m.length none, C.slc 7 0 y.fst.d.length none, C.slc 8 0 y.fst.r.length none, C.int .i64 y.fst.seen]), Atom.arr Kd.rstr y.fst.o,
 Atom.arr Kd.rstr y.fst.t, Atom.arr Kd.rstr y.fst.w, Atom.arr Kd.rstr y.fst.n, Atom.arr Kd.rstr y.fst.f, Atom.arr Kd.int y.fst.m, Atom.arr Kd.int y.fst.d, Atom.arr Kd.int y.fst.r] ∧ ∀ (y_3 : Unit), True
 → True ∧ Into (K := KK) 0 [] [0, 10, 11, 12, 13, 14, 15, 16, 17] [VV.one (V1.c (C.ptr 0 0 0))] [Atom.cells 41 (bookC false false y.fst.turn y.fst.deep [C.slc 10 0 y.fst.o.length none, C.slc 11 0 y.fst.t.length
 none, C.slc 12 0 y.fst.w.length none, C.slc 13 0 y.fst.n.length none, C.slc 14 0 y.fst.f.length none, C.slc 15 0 y.fst.m.length none, C.slc 16 0 y.fst.d.length none, C.slc 17 0 y.fst.r.length none, C.int
 .i64 y.fst.seen]), Atom.gone, Atom.gone, Atom.gone, Atom.gone, Atom.gone, Atom.gone, Atom.gone, Atom.gone, Atom.bag y.snd, Atom.arr Kd.rstr y.fst.o, Atom.arr Kd.rstr y.fst.t, Atom.arr Kd.rstr y.fst.w,
 Atom.arr Kd.rstr y.fst.n, Atom.arr Kd.rstr y.fst.f, Atom.arr Kd.int y.fst.m, Atom.arr Kd.int y.fst.d, Atom.arr Kd.int y.fst.r] [VV.one (V1.c (C.ptr 0 0 0))] [Atom.cells 41 (bookC false false y.fst.turn
 y.fst.deep [C.slc 1 0 y.fst.o.length none, C.slc 2 0 y.fst.t.length none, C.slc 3 0 y.fst.w.length none, C.slc 4 0 y.fst.n.length none, C.slc 5 0 y.fst.f.length none, C.slc 6 0 y.fst.m.length none, C.slc
 7 0 y.fst.d.length none, C.slc 8 0 y.fst.r.length none, C.int .i64 y.fst.seen]), Atom.arr Kd.rstr y.fst.o, Atom.arr Kd.rstr y.fst.t, Atom.arr Kd.rstr y.fst.w, Atom.arr Kd.rstr y.fst.n, Atom.arr Kd.rstr
 y.fst.f, Atom.arr Kd.int y.fst.m, Atom.arr Kd.int y.fst.d, Atom.arr Kd.int y.fst.r] ∧ ∀ (y_4 : Unit), True → True ∧ Into (K := KK) 0 [] [0, 10, 11, 12, 13, 14, 15, 16, 17] [VV.one (V1.c (C.ptr 0 0 0))]
 [Atom.cells 41 (bookC false false y.fst.turn y.fst.deep [C.slc 10 0 y.fst.o.length none, C.slc 11 0 y.fst.t.length none, C.slc 12 0 y.fst.w.length none, C.slc 13 0 y.fst.n.length none, C.slc 14 0 y.fst.f.length
 none, C.slc 15 0 y.fst.m.length none, C.slc 16 0 y.fst.d.length none, C.slc 17 0 y.fst.r.length none, C.int .i64 y.fst.seen]), Atom.gone, Atom.gone, Atom.gone, Atom.gone, Atom.gone, Atom.gone, Atom.gone,
 Atom.gone, Atom.bag y.snd, Atom.arr Kd.rstr y.fst.o, Atom.arr Kd.rstr y.fst.t, Atom.arr Kd.rstr y.fst.w, Atom.arr Kd.rstr y.fst.n, Atom.arr Kd.rstr y.fst.f, Atom.arr Kd.int y.fst.m, Atom.arr Kd.int y.fst.d,
 Atom.arr Kd.int y.fst.r] [VV.one (V1.c (C.ptr 0 0 0))] [Atom.cells 41 (bookC false false y.fst.turn y.fst.deep [C.slc 1 0 y.fst.o.length none, C.slc 2 0 y.fst.t.length none, C.slc 3 0 y.fst.w.length none,
 C.slc 4 0 y.fst.n.length none, C.slc 5 0 y.fst.f.length none, C.slc 6 0 y.fst.m.length none, C.slc 7 0 y.fst.d.length none, C.slc 8 0 y.fst.r.length none, C.int .i64 y.fst.seen]), Atom.arr Kd.rstr y.fst.o,
 Atom.arr Kd.rstr y.fst.t, Atom.arr Kd.rstr y.fst.w, Atom.arr Kd.rstr y.fst.n, Atom.arr Kd.rstr y.fst.f, Atom.arr Kd.int y.fst.m, Atom.arr Kd.int y.fst.d, Atom.arr Kd.int y.fst.r] ∧ ∀ (y_5 : Unit), True
 → True ∧ Into (K := KK) 0 [] [0, 10, 11, 12, 13, 14, 15, 16, 17] [VV.one (V1.c (C.ptr 0 0 0))] [Atom.cells 41 (bookC false false y.fst.turn y.fst.deep [C.slc 10 0 y.fst.o.length none, C.slc 11 0 y.fst.t.length
 none, C.slc 12 0 y.fst.w.length none, C.slc 13 0 y.fst.n.length none, C.slc 14 0 y.fst.f.length none, C.slc 15 0 y.fst.m.length none, C.slc 16 0 y.fst.d.length none, C.slc 17 0 y.fst.r.length none, C.int
 .i64 y.fst.seen]), Atom.gone, Atom.gone, Atom.gone, Atom.gone, Atom.gone, Atom.gone, Atom.gone, Atom.gone, Atom.bag y.snd, Atom.arr Kd.rstr y.fst.o, Atom.arr Kd.rstr y.fst.t, Atom.arr Kd.rstr y.fst.w,
 Atom.arr Kd.rstr y.fst.n, Atom.arr Kd.rstr y.fst.f, Atom.arr Kd.int y.fst.m, Atom.arr Kd.int y.fst.d, Atom.arr Kd.int y.fst.r] [VV.one (V1.c (C.ptr 0 0 0))] [Atom.cells 41 (bookC false false y.fst.turn
 y.fst.deep [C.slc 1 0 y.fst.o.length none, C.slc 2 0 y.fst.t.length none, C.slc 3 0 y.fst.w.length none, C.slc 4 0 y.fst.n.length none, C.slc 5 0 y.fst.f.length none, C.slc 6 0 y.fst.m.length none, C.slc
 7 0 y.fst.d.length none, C.slc 8 0 y.fst.r.length none, C.int .i64 y.fst.seen]), Atom.arr Kd.rstr y.fst.o, Atom.arr Kd.rstr y.fst.t, Atom.arr Kd.rstr y.fst.w, Atom.arr Kd.rstr y.fst.n, Atom.arr Kd.rstr
 y.fst.f, Atom.arr Kd.int y.fst.m, Atom.arr Kd.int y.fst.d, Atom.arr Kd.int y.fst.r] ∧ ∀ (y_6 : Unit), True → True ∧ Into (K := KK) 0 [] [0, 10, 11, 12, 13, 14, 15, 16, 17] [VV.one (V1.c (C.ptr 0 0 0))]
 [Atom.cells 41 (bookC false false y.fst.turn y.fst.deep [C.slc 10 0 y.fst.o.length none, C.slc 11 0 y.fst.t.length none, C.slc 12 0 y.fst.w.length none, C.slc 13 0 y.fst.n.length none, C.slc 14 0 y.fst.f.length
 none, C.slc 15 0 y.fst.m.length none, C.slc 16 0 y.fst.d.length none, C.slc 17 0 y.fst.r.length none, C.int .i64 y.fst.seen]), Atom.gone, Atom.gone, Atom.gone, Atom.gone, Atom.gone, Atom.gone, Atom.gone,
 Atom.gone, Atom.bag y.snd, Atom.arr Kd.rstr y.fst.o, Atom.arr Kd.rstr y.fst.t, Atom.arr Kd.rstr y.fst.w, Atom.arr Kd.rstr y.fst.n, Atom.arr Kd.rstr y.fst.f, Atom.arr Kd.int y.fst.m, Atom.arr Kd.int y.fst.d,
 Atom.arr Kd.int y.fst.r] [VV.one (V1.c (C.ptr 0 0 0))] [Atom.cells 41 (bookC false false y.fst.turn y.fst.deep [C.slc 1 0 y.fst.o.length none, C.slc 2 0 y.fst.t.length none, C.slc 3 0 y.fst.w.length none,
 C.slc 4 0 y.fst.n.length none, C.slc 5 0 y.fst.f.length none, C.slc 6 0 y.fst.m.length none, C.slc 7 0 y.fst.d.length none, C.slc 8 0 y.fst.r.length none, C.int .i64 y.fst.seen]), Atom.arr Kd.rstr y.fst.o,
 Atom.arr Kd.rstr y.fst.t, Atom.arr Kd.rstr y.fst.w, Atom.arr Kd.rstr y.fst.n, Atom.arr Kd.rstr y.fst.f, Atom.arr Kd.int y.fst.m, Atom.arr Kd.int y.fst.d, Atom.arr Kd.int y.fst.r] ∧ ∀ (y_7 : Unit), True
 → True ∧ Into (K := KK) 0 [] [0, 10, 11, 12, 13, 14, 15, 16, 17] [VV.one (V1.c (C.ptr 0 0 0))] [Atom.cells 41 (bookC false false y.fst.turn y.fst.deep [C.slc 10 0 y.fst.o.length none, C.slc 11 0 y.fst.t.length
 none, C.slc 12 0 y.fst.w.length none, C.slc 13 0 y.fst.n.length none, C.slc 14 0 y.fst.f.length none, C.slc 15 0 y.fst.m.length none, C.slc 16 0 y.fst.d.length none, C.slc 17 0 y.fst.r.length none, C.int
 .i64 y.fst.seen]), Atom.gone, Atom.gone, Atom.gone, Atom.gone, Atom.gone, Atom.gone, Atom.gone, Atom.gone, Atom.bag y.snd, Atom.arr Kd.rstr y.fst.o, Atom.arr Kd.rstr y.fst.t, Atom.arr Kd.rstr y.fst.w,
 Atom.arr Kd.rstr y.fst.n, Atom.arr Kd.rstr y.fst.f, Atom.arr Kd.int y.fst.m, Atom.arr Kd.int y.fst.d, Atom.arr Kd.int y.fst.r] [VV.one (V1.c (C.ptr 0 0 0))] [Atom.cells 41 (bookC false false y.fst.turn
 y.fst.deep [C.slc 1 0 y.fst.o.length none, C.slc 2 0 y.fst.t.length none, C.slc 3 0 y.fst.w.length none, C.slc 4 0 y.fst.n.length none, C.slc 5 0 y.fst.f.length none, C.slc 6 0 y.fst.m.length none, C.slc
 7 0 y.fst.d.length none, C.slc 8 0 y.fst.r.length none, C.int .i64 y.fst.seen]), Atom.arr Kd.rstr y.fst.o, Atom.arr Kd.rstr y.fst.t, Atom.arr Kd.rstr y.fst.w, Atom.arr Kd.rstr y.fst.n, Atom.arr Kd.rstr
 y.fst.f, Atom.arr Kd.int y.fst.m, Atom.arr Kd.int y.fst.d, Atom.arr Kd.int y.fst.r] ∧ ∀ (y_8 : Unit), True → True ∧ Into (K := KK) 0 [] [0, 10, 11, 12, 13, 14, 15, 16, 17] [VV.one (V1.c (C.ptr 0 0 0))]
 [Atom.cells 41 (bookC false false y.fst.turn y.fst.deep [C.slc 10 0 y.fst.o.length none, C.slc 11 0 y.fst.t.length none, C.slc 12 0 y.fst.w.length none, C.slc 13 0 y.fst.n.length none, C.slc 14 0 y.fst.f.length
 none, C.slc 15 0 y.fst.m.length none, C.slc 16 0 y.fst.d.length none, C.slc 17 0 y.fst.r.length none, C.int .i64 y.fst.seen]), Atom.gone, Atom.gone, Atom.gone, Atom.gone, Atom.gone, Atom.gone, Atom.gone,
 Atom.gone, Atom.bag y.snd, Atom.arr Kd.rstr y.fst.o, Atom.arr Kd.rstr y.fst.t, Atom.arr Kd.rstr y.fst.w, Atom.arr Kd.rstr y.fst.n, Atom.arr Kd.rstr y.fst.f, Atom.arr Kd.int y.fst.m, Atom.arr Kd.int y.fst.d,
 Atom.arr Kd.int y.fst.r] [VV.one (V1.c (C.ptr 0 0 0))] [Atom.cells 41 (bookC false false y.fst.turn y.fst.deep [C.slc 1 0 y.fst.o.length none, C.slc 2 0 y.fst.t.length none, C.slc 3 0 y.fst.w.length none,
 C.slc 4 0 y.fst.n.length none, C.slc 5 0 y.fst.f.length none, C.slc 6 0 y.fst.m.length none, C.slc 7 0 y.fst.d.length none, C.slc 8 0 y.fst.r.length none, C.int .i64 y.fst.seen]), Atom.arr Kd.rstr y.fst.o,
 Atom.arr Kd.rstr y.fst.t, Atom.arr Kd.rstr y.fst.w, Atom.arr Kd.rstr y.fst.n, Atom.arr Kd.rstr y.fst.f, Atom.arr Kd.int y.fst.m, Atom.arr Kd.int y.fst.d, Atom.arr Kd.int y.fst.r] ∧ ∀ (y_9 : Unit), True
 → True ∧ Into (K := KK) 0 [] [0, 10, 11, 12, 13, 14, 15, 16, 17] [VV.one (V1.c (C.ptr 0 0 0))] [Atom.cells 41 (bookC false false y.fst.turn y.fst.deep [C.slc 10 0 y.fst.o.length none, C.slc 11 0 y.fst.t.length
 none, C.slc 12 0 y.fst.w.length none, C.slc 13 0 y.fst.n.length none, C.slc 14 0 y.fst.f.length none, C.slc 15 0 y.fst.m.length none, C.slc 16 0 y.fst.d.length none, C.slc 17 0 y.fst.r.length none, C.int
 .i64 y.fst.seen]), Atom.gone, Atom.gone, Atom.gone, Atom.gone, Atom.gone, Atom.gone, Atom.gone, Atom.gone, Atom.bag y.snd, Atom.arr Kd.rstr y.fst.o, Atom.arr Kd.rstr y.fst.t, Atom.arr Kd.rstr y.fst.w,
 Atom.arr Kd.rstr y.fst.n, Atom.arr Kd.rstr y.fst.f, Atom.arr Kd.int y.fst.m, Atom.arr Kd.int y.fst.d, Atom.arr Kd.int y.fst.r] [VV.one (V1.c (C.ptr 0 0 0))] [Atom.cells 41 (bookC false false y.fst.turn
 y.fst.deep [C.slc 1 0 y.fst.o.length none, C.slc 2 0 y.fst.t.length none, C.slc 3 0 y.fst.w.length none, C.slc 4 0 y.fst.n.length none, C.slc 5 0 y.fst.f.length none, C.slc 6 0 y.fst.m.length none, C.slc
 7 0 y.fst.d.length none, C.slc 8 0 y.fst.r.length none, C.int .i64 y.fst.seen]), Atom.arr Kd.rstr y.fst.o, Atom.arr Kd.rstr y.fst.t, Atom.arr Kd.rstr y.fst.w, Atom.arr Kd.rstr y.fst.n, Atom.arr Kd.rstr
 y.fst.f, Atom.arr Kd.int y.fst.m, Atom.arr Kd.int y.fst.d, Atom.arr Kd.int y.fst.r] ∧ ∀ (y_10 : Unit), True → True ∧ Into (K := KK) 0 [] [0, 10, 11, 12, 13, 14, 15, 16, 17] [VV.one (V1.c (C.ptr 0 0 0))]
 [Atom.cells 41 (bookC false false y.fst.turn y.fst.deep [C.slc 10 0 y.fst.o.length none, C.slc 11 0 y.fst.t.length none, C.slc 12 0 y.fst.w.length none, C.slc 13 0 y.fst.n.length none, C.slc 14 0 y.fst.f.length
 none, C.slc 15 0 y.fst.m.length none, C.slc 16 0 y.fst.d.length none, C.slc 17 0 y.fst.r.length none, C.int .i64 y.fst.seen]), Atom.gone, Atom.gone, Atom.gone, Atom.gone, Atom.gone, Atom.gone, Atom.gone,
 Atom.gone, Atom.bag y.snd, Atom.arr Kd.rstr y.fst.o, Atom.arr Kd.rstr y.fst.t, Atom.arr Kd.rstr y.fst.w, Atom.arr Kd.rstr y.fst.n, Atom.arr Kd.rstr y.fst.f, Atom.arr Kd.int y.fst.m, Atom.arr Kd.int y.fst.d,
 Atom.arr Kd.int y.fst.r] [VV.one (V1.c (C.ptr 0 0 0))] [Atom.cells 41 (bookC false false y.fst.turn y.fst.deep [C.slc 1 0 y.fst.o.length none, C.slc 2 0 y.fst.t.length none, C.slc 3 0 y.fst.w.length none,
 C.slc 4 0 y.fst.n.length none, C.slc 5 0 y.fst.f.length none, C.slc 6 0 y.fst.m.length none, C.slc 7 0 y.fst.d.length none, C.slc 8 0 y.fst.r.length none, C.int .i64 y.fst.seen]), Atom.arr Kd.rstr y.fst.o,
 Atom.arr Kd.rstr y.fst.t, Atom.arr Kd.rstr y.fst.w, Atom.arr Kd.rstr y.fst.n, Atom.arr Kd.rstr y.fst.f, Atom.arr Kd.int y.fst.m, Atom.arr Kd.int y.fst.d, Atom.arr Kd.int y.fst.r] ∧ ∀ (y_11 : Unit), True
 → True ∧ Into (K := KK) 0 [] [0, 10, 11, 12, 13, 14, 15, 16, 17] [VV.one (V1.c (C.ptr 0 0 0))] [Atom.cells 41 (bookC false false y.fst.turn y.fst.deep [C.slc 10 0 y.fst.o.length none, C.slc 11 0 y.fst.t.length
 none, C.slc 12 0 y.fst.w.length none, C.slc 13 0 y.fst.n.length none, C.slc 14 0 y.fst.f.length none, C.slc 15 0 y.fst.m.length none, C.slc 16 0 y.fst.d.length none, C.slc 17 0 y.fst.r.length none, C.int
 .i64 y.fst.seen]), Atom.gone, Atom.gone, Atom.gone, Atom.gone, Atom.gone, Atom.gone, Atom.gone, Atom.gone, Atom.bag y.snd, Atom.arr Kd.rstr y.fst.o, Atom.arr Kd.rstr y.fst.t, Atom.arr Kd.rstr y.fst.w,
 Atom.arr Kd.rstr y.fst.n, Atom.arr Kd.rstr y.fst.f, Atom.arr Kd.int y.fst.m, Atom.arr Kd.int y.fst.d, Atom.arr Kd.int y.fst.r] [VV.one (V1.c (C.ptr 0 0 0))] [Atom.cells 41 (bookC false false y.fst.turn
 y.fst.deep [C.slc 1 0 y.fst.o.length none, C.slc 2 0 y.fst.t.length none, C.slc 3 0 y.fst.w.length none, C.slc 4 0 y.fst.n.length none, C.slc 5 0 y.fst.f.length none, C.slc 6 0 y.fst.m.length none, C.slc
 7 0 y.fst.d.length none, C.slc 8 0 y.fst.r.length none, C.int .i64 y.fst.seen]), Atom.arr Kd.rstr y.fst.o, Atom.arr Kd.rstr y.fst.t, Atom.arr Kd.rstr y.fst.w, Atom.arr Kd.rstr y.fst.n, Atom.arr Kd.rstr
 y.fst.f, Atom.arr Kd.int y.fst.m, Atom.arr Kd.int y.fst.d, Atom.arr Kd.int y.fst.r] ∧ ∀ (y_12 : Unit), True → True ∧ Into (K := KK) 0 [] [0, 10, 11, 12, 13, 14, 15, 16, 17] [VV.one (V1.c (C.ptr 0 0 0))]
 [Atom.cells 41 (bookC false false y.fst.turn y.fst.deep [C.slc 10 0 y.fst.o.length none, C.slc 11 0 y.fst.t.length none, C.slc 12 0 y.fst.w.length none, C.slc 13 0 y.fst.n.length none, C.slc 14 0 y.fst.f.length
 none, C.slc 15 0 y.fst.m.length none, C.slc 16 0 y.fst.d.length none, C.slc 17 0 y.fst.r.length none, C.int .i64 y.fst.seen]), Atom.gone, Atom.gone, Atom.gone, Atom.gone, Atom.gone, Atom.gone, Atom.gone,
 Atom.gone, Atom.bag y.snd, Atom.arr Kd.rstr y.fst.o, Atom.arr Kd.rstr y.fst.t, Atom.arr Kd.rstr y.fst.w, Atom.arr Kd.rstr y.fst.n, Atom.arr Kd.rstr y.fst.f, Atom.arr Kd.int y.fst.m, Atom.arr Kd.int y.fst.d,
 Atom.arr Kd.int y.fst.r] [VV.one (V1.c (C.ptr 0 0 0))] [Atom.cells 41 (bookC false false y.fst.turn y.fst.deep [C.slc 1 0 y.fst.o.length none, C.slc 2 0 y.fst.t.length none, C.slc 3 0 y.fst.w.length none,
 C.slc 4 0 y.fst.n.length none, C.slc 5 0 y.fst.f.length none, C.slc 6 0 y.fst.m.length none, C.slc 7 0 y.fst.d.length none, C.slc 8 0 y.fst.r.length none, C.int .i64 y.fst.seen]), Atom.arr Kd.rstr y.fst.o,
 Atom.arr Kd.rstr y.fst.t, Atom.arr Kd.rstr y.fst.w, Atom.arr Kd.rstr y.fst.n, Atom.arr Kd.rstr y.fst.f, Atom.arr Kd.int y.fst.m, Atom.arr Kd.int y.fst.d, Atom.arr Kd.int y.fst.r] ∧ ∀ (y_13 : Unit), True
 → EndsAs 10 (ct_marks B φ) (VV.tup []) [Atom.cells 41 (bookC false false y.fst.turn y.fst.deep [C.slc 10 0 y.fst.o.length none, C.slc 11 0 y.fst.t.length none, C.slc 12 0 y.fst.w.length none, C.slc 13
 0 y.fst.n.length none, C.slc 14 0 y.fst.f.length none, C.slc 15 0 y.fst.m.length none, C.slc 16 0 y.fst.d.length none, C.slc 17 0 y.fst.r.length none, C.int .i64 y.fst.seen]), Atom.gone, Atom.gone, Atom.gone,
 Atom.gone, Atom.gone, Atom.gone, Atom.gone, Atom.gone, Atom.bag y.snd, Atom.arr Kd.rstr y.fst.o, Atom.arr Kd.rstr y.fst.t, Atom.arr Kd.rstr y.fst.w, Atom.arr Kd.rstr y.fst.n, Atom.arr Kd.rstr y.fst.f,
 Atom.arr Kd.int y.fst.m, Atom.arr Kd.int y.fst.d, Atom.arr Kd.int y.fst.r]) := by kernel_rfl
theorem vc_grows (B : BS) (φ : Bag KK) : evFn tabG ann0 Tryd.f33 (ct_grows B φ) = ( True ∧ Into (K := KK) 0 [] [0, 1, 2, 3, 4, 5, 6, 7, 8] [VV.one (V1.c (C.ptr 0 0 0))] (bookH B ++ [.bag φ]) [VV.one (V1.c (C.ptr 0 0 0))] (bookH B) ∧ ∀ (y : Unit), True → True ∧ Into (K := KK) 0 [] [0,
 1, 2, 3, 4, 5, 6, 7, 8] [VV.one (V1.c (C.ptr 0 0 0))] (bookH B ++ [.bag φ]) [VV.one (V1.c (C.ptr 0 0 0))] (bookH B) ∧ ∀ (y : Unit), True → BookOk φ (BS.mk (B.turn) (B.deep) (B.o) (B.t) (B.w) (B.n) (B.f)
 (B.m) (B.d) (B.r) (B.seen)) ∧ Into (K := KK) 0 [] [0, 1, 2, 3, 4, 5, 6, 7, 8, 9] [VV.one (V1.c (C.ptr 0 0 0))] (bookH B ++ [.bag φ]) [VV.one (V1.c (C.ptr 0 0 0))] (bookH B ++ [.bag φ]) ∧ ∀ (y : BS × Bag
 KK), (BookOk y.snd y.fst ∧ y.fst.turn = B.turn ∧ y.fst.deep = B.deep ∧ y.fst.seen = B.seen) ∧ y.fst.f = [] ∧ y.fst.r = [] → True ∧ Into (K := KK) 0 [] [0, 10, 11, 12, 13, 14, 15, 16, 17] [VV.one (V1.c
 (C.ptr 0 0 0))] [Atom.cells 41 (bookC false false y.fst.turn y.fst.deep [C.slc 10 0 y.fst.o.length none, C.slc 11 0 y.fst.t.length none, C.slc 12 0 y.fst.w.length none, C.slc 13 0 y.fst.n.length none,
 C.slc 14 0 y.fst.f.length none, C.slc 15 0 y.fst.m.length none, C.slc 16 0 y.fst.d.length none, C.slc 17 0 y.fst.r.length none, C.int .i64 y.fst.seen]), Atom.gone, Atom.gone, Atom.gone, Atom.gone, Atom.gone,
 Atom.gone, Atom.gone, Atom.gone, Atom.bag y.snd, Atom.arr Kd.rstr y.fst.o, Atom.arr Kd.rstr y.fst.t, Atom.arr Kd.rstr y.fst.w, Atom.arr Kd.rstr y.fst.n, Atom.arr Kd.rstr y.fst.f, Atom.arr Kd.int y.fst.m,
 Atom.arr Kd.int y.fst.d, Atom.arr Kd.int y.fst.r] [VV.one (V1.c (C.ptr 0 0 0))] [Atom.cells 41 (bookC false false y.fst.turn y.fst.deep [C.slc 1 0 y.fst.o.length none, C.slc 2 0 y.fst.t.length none, C.slc
 3 0 y.fst.w.length none, C.slc 4 0 y.fst.n.length none, C.slc 5 0 y.fst.f.length none, C.slc 6 0 y.fst.m.length none, C.slc 7 0 y.fst.d.length none, C.slc 8 0 y.fst.r.length none, C.int .i64 y.fst.seen]),
 Atom.arr Kd.rstr y.fst.o, Atom.arr Kd.rstr y.fst.t, Atom.arr Kd.rstr y.fst.w, Atom.arr Kd.rstr y.fst.n, Atom.arr Kd.rstr y.fst.f, Atom.arr Kd.int y.fst.m, Atom.arr Kd.int y.fst.d, Atom.arr Kd.int y.fst.r]
 ∧ ∀ (y_1 : Unit), True → True ∧ Into (K := KK) 0 [] [0, 10, 11, 12, 13, 14, 15, 16, 17] [VV.one (V1.c (C.ptr 0 0 0))] [Atom.cells 41 (bookC false false y.fst.turn y.fst.deep [C.slc 10 0 y.fst.o.length
 none, C.slc 11 0 y.fst.t.length none, C.slc 12 0 y.fst.w.length none, C.slc 13 0 y.fst.n.length none, C.slc 14 0 y.fst.f.length none, C.slc 15 0 y.fst.m.length none, C.slc 16 0 y.fst.d.length none, C.slc
 17 0 y.fst.r.length none, C.int .i64 y.fst.seen]), Atom.gone, Atom.gone, Atom.gone, Atom.gone, Atom.gone, Atom.gone, Atom.gone, Atom.gone, Atom.bag y.snd, Atom.arr Kd.rstr y.fst.o, Atom.arr Kd.rstr y.fst.t,
 Atom.arr Kd.rstr y.fst.w, Atom.arr Kd.rstr y.fst.n, Atom.arr Kd.rstr y.fst.f, Atom.arr Kd.int y.fst.m, Atom.arr Kd.int y.fst.d, Atom.arr Kd.int y.fst.r] [VV.one (V1.c (C.ptr 0 0 0))] [Atom.cells 41 (bookC
 false false y.fst.turn y.fst.deep [C.slc 1 0 y.fst.o.length none, C.slc 2 0 y.fst.t.length none, C.slc 3 0 y.fst.w.length none, C.slc 4 0 y.fst.n.length none, C.slc 5 0 y.fst.f.length none, C.slc 6 0 y.fst.m.length
 none, C.slc 7 0 y.fst.d.length none, C.slc 8 0 y.fst.r.length none, C.int .i64 y.fst.seen]), Atom.arr Kd.rstr y.fst.o, Atom.arr Kd.rstr y.fst.t, Atom.arr Kd.rstr y.fst.w, Atom.arr Kd.rstr y.fst.n, Atom.arr
 Kd.rstr y.fst.f, Atom.arr Kd.int y.fst.m, Atom.arr Kd.int y.fst.d, Atom.arr Kd.int y.fst.r] ∧ ∀ (y_2 : Unit), True → True ∧ Into (K := KK) 0 [] [0, 10, 11, 12, 13, 14, 15, 16, 17] [VV.one (V1.c (C.ptr
 0 0 0))] [Atom.cells 41 (bookC false false y.fst.turn y.fst.deep [C.slc 10 0 y.fst.o.length none, C.slc 11 0 y.fst.t.length none, C.slc 12 0 y.fst.w.length none, C.slc 13 0 y.fst.n.length none, C.slc 14
 0 y.fst.f.length none, C.slc 15 0 y.fst.m.length none, C.slc 16 0 y.fst.d.length none, C.slc 17 0 y.fst.r.length none, C.int .i64 y.fst.seen]), Atom.gone, Atom.gone, Atom.gone, Atom.gone, Atom.gone, Atom.gone,
 Atom.gone, Atom.gone, Atom.bag y.snd, Atom.arr Kd.rstr y.fst.o, Atom.arr Kd.rstr y.fst.t, Atom.arr Kd.rstr y.fst.w, Atom.arr Kd.rstr y.fst.n, Atom.arr Kd.rstr y.fst.f, Atom.arr Kd.int y.fst.m, Atom.arr
 Kd.int y.fst.d, Atom.arr Kd.int y.fst.r] [VV.one (V1.c (C.ptr 0 0 0))] [Atom.cells 41 (bookC false false y.fst.turn y.fst.deep [C.slc 1 0 y.fst.o.length none, C.slc 2 0 y.fst.t.length none, C.slc 3 0 y.fst.w.length
 none, C.slc 4 0 y.fst.n.length none, C.slc 5 0 y.fst.f.length none, C.slc 6 0 y.fst.m.length none, C.slc 7 0 y.fst.d.length none, C.slc 8 0 y.fst.r.length none, C.int .i64 y.fst.seen]), Atom.arr Kd.rstr
 y.fst.o, Atom.arr Kd.rstr y.fst.t, Atom.arr Kd.rstr y.fst.w, Atom.arr Kd.rstr y.fst.n, Atom.arr Kd.rstr y.fst.f, Atom.arr Kd.int y.fst.m, Atom.arr Kd.int y.fst.d, Atom.arr Kd.int y.fst.r] ∧ ∀ (y_3 : Unit),
 True → True ∧ Into (K := KK) 0 [] [0, 10, 11, 12, 13, 14, 15, 16, 17] [VV.one (V1.c (C.ptr 0 0 0))] [Atom.cells 41 (bookC false false y.fst.turn y.fst.deep [C.slc 10 0 y.fst.o.length none, C.slc 11 0 y.fst.t.length
 none, C.slc 12 0 y.fst.w.length none, C.slc 13 0 y.fst.n.length none, C.slc 14 0 y.fst.f.length none, C.slc 15 0 y.fst.m.length none, C.slc 16 0 y.fst.d.length none, C.slc 17 0 y.fst.r.length none, C.int
 .i64 y.fst.seen]), Atom.gone, Atom.gone, Atom.gone, Atom.gone, Atom.gone, Atom.gone, Atom.gone, Atom.gone, Atom.bag y.snd, Atom.arr Kd.rstr y.fst.o, Atom.arr Kd.rstr y.fst.t, Atom.arr Kd.rstr y.fst.w,
 Atom.arr Kd.rstr y.fst.n, Atom.arr Kd.rstr y.fst.f, Atom.arr Kd.int y.fst.m, Atom.arr Kd.int y.fst.d, Atom.arr Kd.int y.fst.r] [VV.one (V1.c (C.ptr 0 0 0))] [Atom.cells 41 (bookC false false y.fst.turn
 y.fst.deep [C.slc 1 0 y.fst.o.length none, C.slc 2 0 y.fst.t.length none, C.slc 3 0 y.fst.w.length none, C.slc 4 0 y.fst.n.length none, C.slc 5 0 y.fst.f.length none, C.slc 6 0 y.fst.m.length none, C.slc
 7 0 y.fst.d.length none, C.slc 8 0 y.fst.r.length none, C.int .i64 y.fst.seen]), Atom.arr Kd.rstr y.fst.o, Atom.arr Kd.rstr y.fst.t, Atom.arr Kd.rstr y.fst.w, Atom.arr Kd.rstr y.fst.n, Atom.arr Kd.rstr
 y.fst.f, Atom.arr Kd.int y.fst.m, Atom.arr Kd.int y.fst.d, Atom.arr Kd.int y.fst.r] ∧ ∀ (y_4 : Unit), True → True ∧ Into (K := KK) 0 [] [0, 10, 11, 12, 13, 14, 15, 16, 17] [VV.one (V1.c (C.ptr 0 0 0))]
 [Atom.cells 41 (bookC false false y.fst.turn y.fst.deep [C.slc 10 0 y.fst.o.length none, C.slc 11 0 y.fst.t.length none, C.slc 12 0 y.fst.w.length none, C.slc 13 0 y.fst.n.length none, C.slc 14 0 y.fst.f.length
 none, C.slc 15 0 y.fst.m.length none, C.slc 16 0 y.fst.d.length none, C.slc 17 0 y.fst.r.length none, C.int .i64 y.fst.seen]), Atom.gone, Atom.gone, Atom.gone, Atom.gone, Atom.gone, Atom.gone, Atom.gone,
 Atom.gone, Atom.bag y.snd, Atom.arr Kd.rstr y.fst.o, Atom.arr Kd.rstr y.fst.t, Atom.arr Kd.rstr y.fst.w, Atom.arr Kd.rstr y.fst.n, Atom.arr Kd.rstr y.fst.f, Atom.arr Kd.int y.fst.m, Atom.arr Kd.int y.fst.d,
 Atom.arr Kd.int y.fst.r] [VV.one (V1.c (C.ptr 0 0 0))] [Atom.cells 41 (bookC false false y.fst.turn y.fst.deep [C.slc 1 0 y.fst.o.length none, C.slc 2 0 y.fst.t.length none, C.slc 3 0 y.fst.w.length none,
 C.slc 4 0 y.fst.n.length none, C.slc 5 0 y.fst.f.length none, C.slc 6 0 y.fst.m.length none, C.slc 7 0 y.fst.d.length none, C.slc 8 0 y.fst.r.length none, C.int .i64 y.fst.seen]), Atom.arr Kd.rstr y.fst.o,
 Atom.arr Kd.rstr y.fst.t, Atom.arr Kd.rstr y.fst.w, Atom.arr Kd.rstr y.fst.n, Atom.arr Kd.rstr y.fst.f, Atom.arr Kd.int y.fst.m, Atom.arr Kd.int y.fst.d, Atom.arr Kd.int y.fst.r] ∧ ∀ (y_5 : Unit), True
 → True ∧ Into (K := KK) 0 [] [0, 10, 11, 12, 13, 14, 15, 16, 17] [VV.one (V1.c (C.ptr 0 0 0))] [Atom.cells 41 (bookC false false y.fst.turn y.fst.deep [C.slc 10 0 y.fst.o.length none, C.slc 11 0 y.fst.t.length
 none, C.slc 12 0 y.fst.w.length none, C.slc 13 0 y.fst.n.length none, C.slc 14 0 y.fst.f.length none, C.slc 15 0 y.fst.m.length none, C.slc 16 0 y.fst.d.length none, C.slc 17 0 y.fst.r.length none, C.int
 .i64 y.fst.seen]), Atom.gone, Atom.gone, Atom.gone, Atom.gone, Atom.gone, Atom.gone, Atom.gone, Atom.gone, Atom.bag y.snd, Atom.arr Kd.rstr y.fst.o, Atom.arr Kd.rstr y.fst.t, Atom.arr Kd.rstr y.fst.w,
 Atom.arr Kd.rstr y.fst.n, Atom.arr Kd.rstr y.fst.f, Atom.arr Kd.int y.fst.m, Atom.arr Kd.int y.fst.d, Atom.arr Kd.int y.fst.r] [VV.one (V1.c (C.ptr 0 0 0))] [Atom.cells 41 (bookC false false y.fst.turn
 y.fst.deep [C.slc 1 0 y.fst.o.length none, C.slc 2 0 y.fst.t.length none, C.slc 3 0 y.fst.w.length none, C.slc 4 0 y.fst.n.length none, C.slc 5 0 y.fst.f.length none, C.slc 6 0 y.fst.m.length none, C.slc
 7 0 y.fst.d.length none, C.slc 8 0 y.fst.r.length none, C.int .i64 y.fst.seen]), Atom.arr Kd.rstr y.fst.o, Atom.arr Kd.rstr y.fst.t, Atom.arr Kd.rstr y.fst.w, Atom.arr Kd.rstr y.fst.n, Atom.arr Kd.rstr
 y.fst.f, Atom.arr Kd.int y.fst.m, Atom.arr Kd.int y.fst.d, Atom.arr Kd.int y.fst.r] ∧ ∀ (y_6 : Unit), True → True ∧ Into (K := KK) 0 [] [0, 10, 11, 12, 13, 14, 15, 16, 17] [VV.one (V1.c (C.ptr 0 0 0))]
 [Atom.cells 41 (bookC false false y.fst.turn y.fst.deep [C.slc 10 0 y.fst.o.length none, C.slc 11 0 y.fst.t.length none, C.slc 12 0 y.fst.w.length none, C.slc 13 0 y.fst.n.length none, C.slc 14 0 y.fst.f.length
 none, C.slc 15 0 y.fst.m.length none, C.slc 16 0 y.fst.d.length none, C.slc 17 0 y.fst.r.length none, C.int .i64 y.fst.seen]), Atom.gone, Atom.gone, Atom.gone, Atom.gone, Atom.gone, Atom.gone, Atom.gone,
 Atom.gone, Atom.bag y.snd, Atom.arr Kd.rstr y.fst.o, Atom.arr Kd.rstr y.fst.t, Atom.arr Kd.rstr y.fst.w, Atom.arr Kd.rstr y.fst.n, Atom.arr Kd.rstr y.fst.f, Atom.arr Kd.int y.fst.m, Atom.arr Kd.int y.fst.d,
 Atom.arr Kd.int y.fst.r] [VV.one (V1.c (C.ptr 0 0 0))] [Atom.cells 41 (bookC false false y.fst.turn y.fst.deep [C.slc 1 0 y.fst.o.length none, C.slc 2 0 y.fst.t.length none, C.slc 3 0 y.fst.w.length none,
 C.slc 4 0 y.fst.n.length none, C.slc 5 0 y.fst.f.length none, C.slc 6 0 y.fst.m.length none, C.slc 7 0 y.fst.d.length none, C.slc 8 0 y.fst.r.length none, C.int .i64 y.fst.seen]), Atom.arr Kd.rstr y.fst.o,
 Atom.arr Kd.rstr y.fst.t, Atom.arr Kd.rstr y.fst.w, Atom.arr Kd.rstr y.fst.n, Atom.arr Kd.rstr y.fst.f, Atom.arr Kd.int y.fst.m, Atom.arr Kd.int y.fst.d, Atom.arr Kd.int y.fst.r] ∧ ∀ (y_7 : Unit), True
 → True ∧ Into (K := KK) 0 [] [0, 10, 11, 12, 13, 14, 15, 16, 17] [VV.one (V1.c (C.ptr 0 0 0))] [Atom.cells 41 (bookC false false y.fst.turn y.fst.deep [C.slc 10 0 y.fst.o.length none, C.slc 11 0 y.fst.t.length
 none, C.slc 12 0 y.fst.w.length none, C.slc 13 0 y.fst.n.length none, C.slc 14 0 y.fst.f.length none, C.slc 15 0 y.fst.m.length none, C.slc 16 0 y.fst.d.length none, C.slc 17 0 y.fst.r.length none, C.int
 .i64 y.fst.seen]), Atom.gone, Atom.gone, Atom.gone, Atom.gone, Atom.gone, Atom.gone, Atom.gone, Atom.gone, Atom.bag y.snd, Atom.arr Kd.rstr y.fst.o, Atom.arr Kd.rstr y.fst.t, Atom.arr Kd.rstr y.fst.w,
 Atom.arr Kd.rstr y.fst.n, Atom.arr Kd.rstr y.fst.f, Atom.arr Kd.int y.fst.m, Atom.arr Kd.int y.fst.d, Atom.arr Kd.int y.fst.r] [VV.one (V1.c (C.ptr 0 0 0))] [Atom.cells 41 (bookC false false y.fst.turn
 y.fst.deep [C.slc 1 0 y.fst.o.length none, C.slc 2 0 y.fst.t.length none, C.slc 3 0 y.fst.w.length none, C.slc 4 0 y.fst.n.length none, C.slc 5 0 y.fst.f.length none, C.slc 6 0 y.fst.m.length none, C.slc
 7 0 y.fst.d.length none, C.slc 8 0 y.fst.r.length none, C.int .i64 y.fst.seen]), Atom.arr Kd.rstr y.fst.o, Atom.arr Kd.rstr y.fst.t, Atom.arr Kd.rstr y.fst.w, Atom.arr Kd.rstr y.fst.n, Atom.arr Kd.rstr
 y.fst.f, Atom.arr Kd.int y.fst.m, Atom.arr Kd.int y.fst.d, Atom.arr Kd.int y.fst.r] ∧ ∀ (y_8 : Unit), True → True ∧ Into (K := KK) 0 [] [0, 10, 11, 12, 13, 14, 15, 16, 17] [VV.one (V1.c (C.ptr 0 0 0))]
 [Atom.cells 41 (bookC false false y.fst.turn y.fst.deep [C.slc 10 0 y.fst.o.length none, C.slc 11 0 y.fst.t.length none, C.slc 12 0 y.fst.w.length none, C.slc 13 0 y.fst.n.length none, C.slc 14 0 y.fst.f.length
 none, C.slc 15 0 y.fst.m.length none, C.slc 16 0 y.fst.d.length none, C.slc 17 0 y.fst.r.length none, C.int .i64 y.fst.seen]), Atom.gone, Atom.gone, Atom.gone, Atom.gone, Atom.gone, Atom.gone, Atom.gone,
 Atom.gone, Atom.bag y.snd, Atom.arr Kd.rstr y.fst.o, Atom.arr Kd.rstr y.fst.t, Atom.arr Kd.rstr y.fst.w, Atom.arr Kd.rstr y.fst.n, Atom.arr Kd.rstr y.fst.f, Atom.arr Kd.int y.fst.m, Atom.arr Kd.int y.fst.d,
 Atom.arr Kd.int y.fst.r] [VV.one (V1.c (C.ptr 0 0 0))] [Atom.cells 41 (bookC false false y.fst.turn y.fst.deep [C.slc 1 0 y.fst.o.length none, C.slc 2 0 y.fst.t.length none, C.slc 3 0 y.fst.w.length none,
 C.slc 4 0 y.fst.n.length none, C.slc 5 0 y.fst.f.length none, C.slc 6 0 y.fst.m.length none, C.slc 7 0 y.fst.d.length none, C.slc 8 0 y.fst.r.length none, C.int .i64 y.fst.seen]), Atom.arr Kd.rstr y.fst.o,
 Atom.arr Kd.rstr y.fst.t, Atom.arr Kd.rstr y.fst.w, Atom.arr Kd.rstr y.fst.n, Atom.arr Kd.rstr y.fst.f, Atom.arr Kd.int y.fst.m, Atom.arr Kd.int y.fst.d, Atom.arr Kd.int y.fst.r] ∧ ∀ (y_9 : Unit), True
 → True ∧ Into (K := KK) 0 [] [0, 10, 11, 12, 13, 14, 15, 16, 17] [VV.one (V1.c (C.ptr 0 0 0))] [Atom.cells 41 (bookC false false y.fst.turn y.fst.deep [C.slc 10 0 y.fst.o.length none, C.slc 11 0 y.fst.t.length
 none, C.slc 12 0 y.fst.w.length none, C.slc 13 0 y.fst.n.length none, C.slc 14 0 y.fst.f.length none, C.slc 15 0 y.fst.m.length none, C.slc 16 0 y.fst.d.length none, C.slc 17 0 y.fst.r.length none, C.int
 .i64 y.fst.seen]), Atom.gone, Atom.gone, Atom.gone, Atom.gone, Atom.gone, Atom.gone, Atom.gone, Atom.gone, Atom.bag y.snd, Atom.arr Kd.rstr y.fst.o, Atom.arr Kd.rstr y.fst.t, Atom.arr Kd.rstr y.fst.w,
 Atom.arr Kd.rstr y.fst.n, Atom.arr Kd.rstr y.fst.f, Atom.arr Kd.int y.fst.m, Atom.arr Kd.int y.fst.d, Atom.arr Kd.int y.fst.r] [VV.one (V1.c (C.ptr 0 0 0))] [Atom.cells 41 (bookC false false y.fst.turn
 y.fst.deep [C.slc 1 0 y.fst.o.length none, C.slc 2 0 y.fst.t.length none, C.slc 3 0 y.fst.w.length none, C.slc 4 0 y.fst.n.length none, C.slc 5 0 y.fst.f.length none, C.slc 6 0 y.fst.m.length none, C.slc
 7 0 y.fst.d.length none, C.slc 8 0 y.fst.r.length none, C.int .i64 y.fst.seen]), Atom.arr Kd.rstr y.fst.o, Atom.arr Kd.rstr y.fst.t, Atom.arr Kd.rstr y.fst.w, Atom.arr Kd.rstr y.fst.n, Atom.arr Kd.rstr
 y.fst.f, Atom.arr Kd.int y.fst.m, Atom.arr Kd.int y.fst.d, Atom.arr Kd.int y.fst.r] ∧ ∀ (y_10 : Unit), True → True ∧ Into (K := KK) 0 [] [0, 10, 11, 12, 13, 14, 15, 16, 17] [VV.one (V1.c (C.ptr 0 0 0))]
 [Atom.cells 41 (bookC false false y.fst.turn y.fst.deep [C.slc 10 0 y.fst.o.length none, C.slc 11 0 y.fst.t.length none, C.slc 12 0 y.fst.w.length none, C.slc 13 0 y.fst.n.length none, C.slc 14 0 y.fst.f.length
 none, C.slc 15 0 y.fst.m.length none, C.slc 16 0 y.fst.d.length none, C.slc 17 0 y.fst.r.length none, C.int .i64 y.fst.seen]), Atom.gone, Atom.gone, Atom.gone, Atom.gone, Atom.gone, Atom.gone, Atom.gone,
 Atom.gone, Atom.bag y.snd, Atom.arr Kd.rstr y.fst.o, Atom.arr Kd.rstr y.fst.t, Atom.arr Kd.rstr y.fst.w, Atom.arr Kd.rstr y.fst.n, Atom.arr Kd.rstr y.fst.f, Atom.arr Kd.int y.fst.m, Atom.arr Kd.int y.fst.d,
 Atom.arr Kd.int y.fst.r] [VV.one (V1.c (C.ptr 0 0 0))] [Atom.cells 41 (bookC false false y.fst.turn y.fst.deep [C.slc 1 0 y.fst.o.length none, C.slc 2 0 y.fst.t.length none, C.slc 3 0 y.fst.w.length none,
 C.slc 4 0 y.fst.n.length none, C.slc 5 0 y.fst.f.length none, C.slc 6 0 y.fst.m.length none, C.slc 7 0 y.fst.d.length none, C.slc 8 0 y.fst.r.length none, C.int .i64 y.fst.seen]), Atom.arr Kd.rstr y.fst.o,
 Atom.arr Kd.rstr y.fst.t, Atom.arr Kd.rstr y.fst.w, Atom.arr Kd.rstr y.fst.n, Atom.arr Kd.rstr y.fst.f, Atom.arr Kd.int y.fst.m, Atom.arr Kd.int y.fst.d, Atom.arr Kd.int y.fst.r] ∧ ∀ (y_11 : Unit), True
 → True ∧ Into (K := KK) 0 [] [0, 10, 11, 12, 13, 14, 15, 16, 17] [VV.one (V1.c (C.ptr 0 0 0))] [Atom.cells 41 (bookC false false y.fst.turn y.fst.deep [C.slc 10 0 y.fst.o.length none, C.slc 11 0 y.fst.t.length
 none, C.slc 12 0 y.fst.w.length none, C.slc 13 0 y.fst.n.length none, C.slc 14 0 y.fst.f.length none, C.slc 15 0 y.fst.m.length none, C.slc 16 0 y.fst.d.length none, C.slc 17 0 y.fst.r.length none, C.int
 .i64 y.fst.seen]), Atom.gone, Atom.gone, Atom.gone, Atom.gone, Atom.gone, Atom.gone, Atom.gone, Atom.gone, Atom.bag y.snd, Atom.arr Kd.rstr y.fst.o, Atom.arr Kd.rstr y.fst.t, Atom.arr Kd.rstr y.fst.w,
 Atom.arr Kd.rstr y.fst.n, Atom.arr Kd.rstr y.fst.f, Atom.arr Kd.int y.fst.m, Atom.arr Kd.int y.fst.d, Atom.arr Kd.int y.fst.r] [VV.one (V1.c (C.ptr 0 0 0))] [Atom.cells 41 (bookC false false y.fst.turn
 y.fst.deep [C.slc 1 0 y.fst.o.length none, C.slc 2 0 y.fst.t.length none, C.slc 3 0 y.fst.w.length none, C.slc 4 0 y.fst.n.length none, C.slc 5 0 y.fst.f.length none, C.slc 6 0 y.fst.m.length none, C.slc
 7 0 y.fst.d.length none, C.slc 8 0 y.fst.r.length none, C.int .i64 y.fst.seen]), Atom.arr Kd.rstr y.fst.o, Atom.arr Kd.rstr y.fst.t, Atom.arr Kd.rstr y.fst.w, Atom.arr Kd.rstr y.fst.n, Atom.arr Kd.rstr
 y.fst.f, Atom.arr Kd.int y.fst.m, Atom.arr Kd.int y.fst.d, Atom.arr Kd.int y.fst.r] ∧ ∀ (y_12 : Unit), True → True ∧ Into (K := KK) 0 [] [0, 10, 11, 12, 13, 14, 15, 16, 17] [VV.one (V1.c (C.ptr 0 0 0))]
 [Atom.cells 41 (bookC false false y.fst.turn y.fst.deep [C.slc 10 0 y.fst.o.length none, C.slc 11 0 y.fst.t.length none, C.slc 12 0 y.fst.w.length none, C.slc 13 0 y.fst.n.length none, C.slc 14 0 y.fst.f.length
 none, C.slc 15 0 y.fst.m.length none, C.slc 16 0 y.fst.d.length none, C.slc 17 0 y.fst.r.length none, C.int .i64 y.fst.seen]), Atom.gone, Atom.gone, Atom.gone, Atom.gone, Atom.gone, Atom.gone, Atom.gone,
 Atom.gone, Atom.bag y.snd, Atom.arr Kd.rstr y.fst.o, Atom.arr Kd.rstr y.fst.t, Atom.arr Kd.rstr y.fst.w, Atom.arr Kd.rstr y.fst.n, Atom.arr Kd.rstr y.fst.f, Atom.arr Kd.int y.fst.m, Atom.arr Kd.int y.fst.d,
 Atom.arr Kd.int y.fst.r] [VV.one (V1.c (C.ptr 0 0 0))] [Atom.cells 41 (bookC false false y.fst.turn y.fst.deep [C.slc 1 0 y.fst.o.length none, C.slc 2 0 y.fst.t.length none, C.slc 3 0 y.fst.w.length none,
 C.slc 4 0 y.fst.n.length none, C.slc 5 0 y.fst.f.length none, C.slc 6 0 y.fst.m.length none, C.slc 7 0 y.fst.d.length none, C.slc 8 0 y.fst.r.length none, C.int .i64 y.fst.seen]), Atom.arr Kd.rstr y.fst.o,
 Atom.arr Kd.rstr y.fst.t, Atom.arr Kd.rstr y.fst.w, Atom.arr Kd.rstr y.fst.n, Atom.arr Kd.rstr y.fst.f, Atom.arr Kd.int y.fst.m, Atom.arr Kd.int y.fst.d, Atom.arr Kd.int y.fst.r] ∧ ∀ (y_13 : Unit), True
 → EndsAs 10 (ct_grows B φ) (VV.tup []) [Atom.cells 41 (bookC false false y.fst.turn y.fst.deep [C.slc 10 0 y.fst.o.length none, C.slc 11 0 y.fst.t.length none, C.slc 12 0 y.fst.w.length none, C.slc 13
 0 y.fst.n.length none, C.slc 14 0 y.fst.f.length none, C.slc 15 0 y.fst.m.length none, C.slc 16 0 y.fst.d.length none, C.slc 17 0 y.fst.r.length none, C.int .i64 y.fst.seen]), Atom.gone, Atom.gone, Atom.gone,
 Atom.gone, Atom.gone, Atom.gone, Atom.gone, Atom.gone, Atom.bag y.snd, Atom.arr Kd.rstr y.fst.o, Atom.arr Kd.rstr y.fst.t, Atom.arr Kd.rstr y.fst.w, Atom.arr Kd.rstr y.fst.n, Atom.arr Kd.rstr y.fst.f,
 Atom.arr Kd.int y.fst.m, Atom.arr Kd.int y.fst.d, Atom.arr Kd.int y.fst.r]) := by kernel_rfl
theorem hT_ok (B : BS) (φ : Bag KK) : CtOk Tryd.prog 18 (ct_hT B φ) := CtOk_of KK_ok tabB (ann_hT B φ) (fn := Tryd.f18) rfl (fun _ _ => rfl) fun hn => by
  have hn : BookOk φ B := hn
  have hto : B.o.length = B.t.length := All2.length hn.good.told
  have hon : B.w.length = B.n.length := All2.length hn.good.note
  have hcB := hn.cnt
  have hfB := hn.few
  rw [vc_hT]
  simp only [Int.toNat_natCast, Nat.zero_add, Nat.add_zero]
  refine ⟨⟨(0 : Nat), [], [0, 1, 2, 3, 4, 5, 6, 7, 8, 9], Nat.zero_le _, trivial, into_mk (by kernel_rfl) (by (repeat' first | exact trivial | exact rfl | apply And.intro)) (by (repeat' first | exact trivial | exact rfl | apply And.intro))⟩, fun i hi => ite2_decide (fun hl => ?_) (fun hl => ⟨⟨(0 : Nat), [], [0, 1, 2, 3, 4, 5, 6, 7, 8, 9], Nat.zero_le _, trivial, into_mk (by kernel_rfl) (by (repeat' first | exact trivial | exact rfl | apply And.intro)) (by (repeat' first | exact trivial | exact rfl | apply And.intro))⟩, fun j hj => ite2_decide (fun hl2 => ?_) (fun hl2 => ⟨(), [], [0, 1, 2, 3, 4, 5, 6, 7, 8, 9], trivial, by (repeat' first | exact trivial | exact rfl | apply And.intro)⟩)⟩)⟩
  · have h1 : i < B.o.length := by omega
    have h2 : i < B.t.length := by omega
    obtain ⟨xs, x1, x2, x3⟩ := hn.good.told.rd .nil .nil i h1
    exact ⟨⟨by omega, by omega⟩, h1, trivial, h1, ⟨by omega, by omega⟩, h2, trivial, h2, trivial, ⟨xs, x1, x2, by omega⟩, into_mk (by kernel_rfl) (by (repeat' first | exact trivial | exact rfl | apply And.intro)) (by (repeat' first | exact trivial | exact rfl | apply And.intro)), fun _ _ => ⟨trivial, by unfold i64ok; omega, (i + 1 : Nat), [], [0, 1, 2, 3, 4, 5, 6, 7, 8, 9], h1, by omega, into_mk (by kernel_rfl) (by (repeat' first | exact trivial | exact rfl | apply And.intro)) (by (repeat' first | exact trivial | exact rfl | apply And.intro))⟩⟩
  · have h1 : j < B.w.length := by omega
    have h2 : j < B.n.length := by omega
    obtain ⟨xs, x1, x2, x3⟩ := hn.good.note.rd .nil .nil j h1
    exact ⟨⟨by omega, by omega⟩, h1, trivial, h1, ⟨by omega, by omega⟩, h2, trivial, h2, trivial, ⟨xs, x1, x2, by omega⟩, into_mk (by kernel_rfl) (by (repeat' first | exact trivial | exact rfl | apply And.intro)) (by (repeat' first | exact trivial | exact rfl | apply And.intro)), fun _ _ => ⟨trivial, by unfold i64ok; omega, (j + 1 : Nat), [], [0, 1, 2, 3, 4, 5, 6, 7, 8, 9], h1, by omega, into_mk (by kernel_rfl) (by (repeat' first | exact trivial | exact rfl | apply And.intro)) (by (repeat' first | exact trivial | exact rfl | apply And.intro))⟩⟩
theorem marks_ok (B : BS) (φ : Bag KK) : CtOk Tryd.prog 32 (ct_marks B φ) := CtOk_of KK_ok tabM ann0 (fn := Tryd.f32) rfl (fun _ _ => rfl) fun hn => by
  rw [vc_marks]
  exact ⟨trivial, into_mk (by kernel_rfl) (by (repeat' first | exact trivial | exact rfl | apply And.intro)) (by (repeat' first | exact trivial | exact rfl | apply And.intro)), fun _ _ => ⟨trivial, into_mk (by kernel_rfl) (by (repeat' first | exact trivial | exact rfl | apply And.intro)) (by (repeat' first | exact trivial | exact rfl | apply And.intro)), fun _ _ => ⟨hn, into_mk (by kernel_rfl) (by (repeat' first | exact trivial | exact rfl | apply And.intro)) (by (repeat' first | exact trivial | exact rfl | apply And.intro)), fun y hy => ⟨trivial, into_mk (by kernel_rfl) (by (repeat' first | exact trivial | exact rfl | apply And.intro)) (by (repeat' first | exact trivial | exact rfl | apply And.intro)), fun _ _ => ⟨trivial, into_mk (by kernel_rfl) (by (repeat' first | exact trivial | exact rfl | apply And.intro)) (by (repeat' first | exact trivial | exact rfl | apply And.intro)), fun _ _ => ⟨trivial, into_mk (by kernel_rfl) (by (repeat' first | exact trivial | exact rfl | apply And.intro)) (by (repeat' first | exact trivial | exact rfl | apply And.intro)), fun _ _ => ⟨trivial, into_mk (by kernel_rfl) (by (repeat' first | exact trivial | exact rfl | apply And.intro)) (by (repeat' first | exact trivial | exact rfl | apply And.intro)), fun _ _ => ⟨trivial, into_mk (by kernel_rfl) (by (repeat' first | exact trivial | exact rfl | apply And.intro)) (by (repeat' first | exact trivial | exact rfl | apply And.intro)), fun _ _ => ⟨trivial, into_mk (by kernel_rfl) (by (repeat' first | exact trivial | exact rfl | apply And.intro)) (by (repeat' first | exact trivial | exact rfl | apply And.intro)), fun _ _ => ⟨trivial, into_mk (by kernel_rfl) (by (repeat' first | exact trivial | exact rfl | apply And.intro)) (by (repeat' first | exact trivial | exact rfl | apply And.intro)), fun _ _ => ⟨trivial, into_mk (by kernel_rfl) (by (repeat' first | exact trivial | exact rfl | apply And.intro)) (by (repeat' first | exact trivial | exact rfl | apply And.intro)), fun _ _ => ⟨trivial, into_mk (by kernel_rfl) (by (repeat' first | exact trivial | exact rfl | apply And.intro)) (by (repeat' first | exact trivial | exact rfl | apply And.intro)), fun _ _ => ⟨trivial, into_mk (by kernel_rfl) (by (repeat' first | exact trivial | exact rfl | apply And.intro)) (by (repeat' first | exact trivial | exact rfl | apply And.intro)), fun _ _ => ⟨trivial, into_mk (by kernel_rfl) (by (repeat' first | exact trivial | exact rfl | apply And.intro)) (by (repeat' first | exact trivial | exact rfl | apply And.intro)), fun _ _ => ⟨trivial, into_mk (by kernel_rfl) (by (repeat' first | exact trivial | exact rfl | apply And.intro)) (by (repeat' first | exact trivial | exact rfl | apply And.intro)), fun _ _ => ⟨trivial, into_mk (by kernel_rfl) (by (repeat' first | exact trivial | exact rfl | apply And.intro)) (by (repeat' first | exact trivial | exact rfl | apply And.intro)), fun _ _ => ⟨y, [], [0, 1, 2, 3, 4, 5, 6, 7, 8, 9, 10, 11, 12, 13, 14, 15, 16, 17], hy, by (repeat' first | exact trivial | exact rfl | apply And.intro)⟩⟩⟩⟩⟩⟩⟩⟩⟩⟩⟩⟩⟩⟩⟩⟩⟩
theorem grows_ok (B : BS) (φ : Bag KK) : CtOk Tryd.prog 33 (ct_grows B φ) := CtOk_of KK_ok tabG ann0 (fn := Tryd.f33) rfl (fun _ _ => rfl) fun hn => by
  rw [vc_grows]
  exact ⟨trivial, into_mk (by kernel_rfl) (by (repeat' first | exact trivial | exact rfl | apply And.intro)) (by (repeat' first | exact trivial | exact rfl | apply And.intro)), fun _ _ => ⟨trivial, into_mk (by kernel_rfl) (by (repeat' first | exact trivial | exact rfl | apply And.intro)) (by (repeat' first | exact trivial | exact rfl | apply And.intro)), fun _ _ => ⟨hn, into_mk (by kernel_rfl) (by (repeat' first | exact trivial | exact rfl | apply And.intro)) (by (repeat' first | exact trivial | exact rfl | apply And.intro)), fun y hy => ⟨trivial, into_mk (by kernel_rfl) (by (repeat' first | exact trivial | exact rfl | apply And.intro)) (by (repeat' first | exact trivial | exact rfl | apply And.intro)), fun _ _ => ⟨trivial, into_mk (by kernel_rfl) (by (repeat' first | exact trivial | exact rfl | apply And.intro)) (by (repeat' first | exact trivial | exact rfl | apply And.intro)), fun _ _ => ⟨trivial, into_mk (by kernel_rfl) (by (repeat' first | exact trivial | exact rfl | apply And.intro)) (by (repeat' first | exact trivial | exact rfl | apply And.intro)), fun _ _ => ⟨trivial, into_mk (by kernel_rfl) (by (repeat' first | exact trivial | exact rfl | apply And.intro)) (by (repeat' first | exact trivial | exact rfl | apply And.intro)), fun _ _ => ⟨trivial, into_mk (by kernel_rfl) (by (repeat' first | exact trivial | exact rfl | apply And.intro)) (by (repeat' first | exact trivial | exact rfl | apply And.intro)), fun _ _ => ⟨trivial, into_mk (by kernel_rfl) (by (repeat' first | exact trivial | exact rfl | apply And.intro)) (by (repeat' first | exact trivial | exact rfl | apply And.intro)), fun _ _ => ⟨trivial, into_mk (by kernel_rfl) (by (repeat' first | exact trivial | exact rfl | apply And.intro)) (by (repeat' first | exact trivial | exact rfl | apply And.intro)), fun _ _ => ⟨trivial, into_mk (by kernel_rfl) (by (repeat' first | exact trivial | exact rfl | apply And.intro)) (by (repeat' first | exact trivial | exact rfl | apply And.intro)), fun _ _ => ⟨trivial, into_mk (by kernel_rfl) (by (repeat' first | exact trivial | exact rfl | apply And.intro)) (by (repeat' first | exact trivial | exact rfl | apply And.intro)), fun _ _ => ⟨trivial, into_mk (by kernel_rfl) (by (repeat' first | exact trivial | exact rfl | apply And.intro)) (by (repeat' first | exact trivial | exact rfl | apply And.intro)), fun _ _ => ⟨trivial, into_mk (by kernel_rfl) (by (repeat' first | exact trivial | exact rfl | apply And.intro)) (by (repeat' first | exact trivial | exact rfl | apply And.intro)), fun _ _ => ⟨trivial, into_mk (by kernel_rfl) (by (repeat' first | exact trivial | exact rfl | apply And.intro)) (by (repeat' first | exact trivial | exact rfl | apply And.intro)), fun _ _ => ⟨trivial, into_mk (by kernel_rfl) (by (repeat' first | exact trivial | exact rfl | apply And.intro)) (by (repeat' first | exact trivial | exact rfl | apply And.intro)), fun _ _ => ⟨y, [], [0, 1, 2, 3, 4, 5, 6, 7, 8, 9, 10, 11, 12, 13, 14, 15, 16, 17], hy, by (repeat' first | exact trivial | exact rfl | apply And.intro)⟩⟩⟩⟩⟩⟩⟩⟩⟩⟩⟩⟩⟩⟩⟩⟩⟩
end Go.Proofs.YtnnpjkpmankeiaaDoor.T
