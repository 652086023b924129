/- The book: a list comes; is all as it was noted? -/
import Derived.Test.YtndlpbheifalhaaGreatDoorBg
namespace Go.Proofs.YtndlpbheifalhaaGreatDoor.T
open Go.Proofs.YtndlpbheifalhaaGreatDoor.E
set_option maxRecDepth 100000
set_option linter.unusedVariables false
def ct_bBytes (l : RS) (mark : Int) (B : BS) (φ : Bag KK) : Ct KK := { need := RestOk φ B ∧ Alone φ Kd.u8 1000000 B.bk l ∧ (-1000000000000 ≤ mark ∧ mark ≤ 1000000000000) ∧ B.seen < 100000, pre := bookH B ++ [.bag φ], args := [.c (.ptr 0 0 0), .c (.rs 5 1 l), i64 mark], Y := BS × Bag KK, ok := fun y => RestOk y.2 y.1 ∧ y.1.seen = B.seen + 1 ∧ StaysX φ B.bk l y.2 y.1.bk, ret := fun _ => .tup [], post := fun y => bookM y.1 y.2 }
def ct_bHold (B : BS) (φ : Bag KK) : Ct KK := { need := BookOk φ B, pre := bookH B ++ [.bag φ], args := [.c (.ptr 0 0 0)], Y := Unit, ok := fun _ => True, ret := fun _ => boolv true, post := fun _ => bookH B ++ [.bag φ] }
def tabT : Tab Tryz.prog KK := ⟨mixed, fun f args H => match f, args with
  | 34, [.one (.c (.ptr 0 0 0)), .one (.c (.int _ n))] => match getB H with
    | some (B, τ) => some (ct_due B n, [], τ)
    | none => none
  | 35, [.one (.c (.ptr 0 0 0))] => match getBB H with
    | some (B, φ, τ) => some (ct_done B φ, [], τ)
    | none => none
  | _, _ => none, fun f args H ct ks τ h => by
    split at h
    · split at h
      · cases h; exact due_ok _ _
      · cases h
    · split at h
      · cases h; exact done_ok _ _
      · cases h
    · cases h⟩
def pick_tabH (f : FuncId) (B : BS) (τ : List Nat) : Option (Ct KK × List KK.Kd × List Nat) := match f with
  | 37 => some (ct_b B (boolv true), [], τ)
  | 38 => some (ct_b B (boolv true), [], τ)
  | 39 => some (ct_b B (boolv true), [], τ)
  | 40 => some (ct_b B (boolv true), [], τ)
  | 41 => some (ct_b B (boolv true), [], τ)
  | 42 => some (ct_b B (boolv true), [], τ)
  | 43 => some (ct_b B (boolv true), [], τ)
  | 44 => some (ct_b B (boolv true), [], τ)
  | 45 => some (ct_b B (boolv true), [], τ)
  | 46 => some (ct_b B (boolv true), [], τ)
  | 47 => some (ct_b B (boolv true), [], τ)
  | 48 => some (ct_b B (boolv true), [], τ)
  | 49 => some (ct_b B (boolv true), [], τ)
  | 50 => some (ct_b B (boolv true), [], τ)
  | 51 => some (ct_b B (boolv true), [], τ)
  | _ => none
theorem pick_tabH_ok (f : FuncId) (B : BS) (τ : List Nat) (ct ks ρ) (h : pick_tabH f B τ = some (ct, ks, ρ)) : CtOk Tryz.prog f ct := by
  unfold pick_tabH at h
  split at h
  · cases h; exact hInts_ok _
  · cases h; exact hTexts_ok _
  · cases h; exact hLosts_ok _
  · cases h; exact hChanges_ok _
  · cases h; exact hCells_ok _
  · cases h; exact hItems_ok _
  · cases h; exact hEntries_ok _
  · cases h; exact hPlaceds_ok _
  · cases h; exact hRules_ok _
  · cases h; exact hFaults_ok _
  · cases h; exact hChunks_ok _
  · cases h; exact hThings_ok _
  · cases h; exact hDones_ok _
  · cases h; exact hNodes_ok _
  · cases h; exact hSteps_ok _
  · cases h
def tabH : Tab Tryz.prog KK := ⟨mixed, fun f args H => match args with
  | [.one (.c (.ptr 0 0 0))] => match f with
    | 36 => match getBB H with
      | some (B, φ, τ) => some (ct_hT B φ, [], τ)
      | none => none
    | f => match getB H with
      | some (B, τ) => pick_tabH f B τ
      | none => none
  | _ => none, fun f args H ct ks τ h => by
    split at h
    · split at h
      · split at h
        · cases h; exact hT_ok _ _
        · cases h
      · split at h
        · exact pick_tabH_ok _ _ _ _ _ _ h
        · cases h
    · cases h⟩
theorem vc_bBytes (l : RS) (mark : Int) (B : BS) (φ : Bag KK) : evFn tabT ann0 Tryz.f14 (ct_bBytes l mark B φ) = ( i64ok (B.deep + (1 : Int)) ∧ B.w.length = B.w.length ∧ (1 ≤ 1 ∧ True) ∧ (B.w.length + 1) * 24 ≤ 140737488355328 ∧ True ∧ (VV.one (V1.c (C.slc 4 0 B.n.length none)) = VV.one (V1.c (C.slc 4 0 B.n.length
 none)) ∧ True) ∧ 0 = 0 ∧ ∃ (ys : List (Int)), RS.row φ Kd.u8 l = some ys ∧ (0 + ys.length) * 1 ≤ 140737488355328 ∧ (VV.one (V1.c (C.slc 4 0 B.n.length none)) = VV.one (V1.c (C.slc 4 0 B.n.length none))
 ∧ True) ∧ 0 + ys.length = ys.length ∧ (ys = [] → (VV.one (V1.c (C.slc 4 0 B.n.length none)) = VV.one (V1.c (C.slc 4 0 B.n.length none)) ∧ True) ∧ B.n.length = B.n.length ∧ (1 ≤ 1 ∧ True) ∧ (B.n.length
 + 1) * 24 ≤ 140737488355328 ∧ True ∧ True ∧ B.m.length = B.m.length ∧ (1 ≤ 1 ∧ True) ∧ (B.m.length + 1) * 8 ≤ 140737488355328 ∧ True ∧ (((0 : Int) ≤ B.turn ∧ B.turn ≤ (1000000 : Int)) ∧ (0 : Int) ≤ B.seen
 ∧ B.seen ≤ (1000000 : Int)) ∧ Into (K := KK) 0 [] [0, 1, 2, 11, 15, 5, 17, 7, 8] [VV.one (V1.c (C.ptr 0 0 0)), i64 B.seen] [Atom.cells 46 (bookC false false B.turn (B.deep + (1 : Int)) [C.slc 1 0 B.o.length
 none, C.slc 2 0 B.t.length none, C.slc 11 0 (B.w.length + 1) none, C.slc 15 0 (B.n.length + 1) none, C.slc 5 0 B.f.length none, C.slc 17 0 (B.m.length + 1) none, C.slc 7 0 B.d.length none, C.slc 8 0 B.r.length
 none, C.int .i64 B.seen]), Atom.arr Kd.ru8 B.o, Atom.arr Kd.ru8 B.t, Atom.gone, Atom.gone, Atom.arr Kd.ru8 B.f, Atom.gone, Atom.arr Kd.int B.d, Atom.arr Kd.int B.r, Atom.bag φ, Atom.arr Kd.ru8 [l], Atom.arr
 Kd.ru8 (B.w ++ [l]), Atom.gone, Atom.gone, Atom.arr Kd.ru8 [RS.nil], Atom.arr Kd.ru8 (B.n ++ [RS.nil]), Atom.arr Kd.int [mark], Atom.arr Kd.int (B.m ++ [mark])] [VV.one (V1.c (C.ptr 0 0 0)), i64 B.seen]
 [Atom.cells 46 (bookC false false B.turn (B.deep + (1 : Int)) [C.slc 1 0 B.o.length none, C.slc 2 0 B.t.length none, C.slc 3 0 (B.w ++ [l]).length none, C.slc 4 0 (B.n ++ [RS.nil]).length none, C.slc 5
 0 B.f.length none, C.slc 6 0 (B.m ++ [mark]).length none, C.slc 7 0 B.d.length none, C.slc 8 0 B.r.length none, C.int .i64 B.seen]), Atom.arr Kd.ru8 B.o, Atom.arr Kd.ru8 B.t, Atom.arr Kd.ru8 (B.w ++ [l]),
 Atom.arr Kd.ru8 (B.n ++ [RS.nil]), Atom.arr Kd.ru8 B.f, Atom.arr Kd.int (B.m ++ [mark]), Atom.arr Kd.int B.d, Atom.arr Kd.int B.r] ∧ ∀ (y : Int), (0 : Int) ≤ y ∧ y ≤ (2000000 : Int) → (VV.one (V1.c (C.slc
 7 0 B.d.length none)) = VV.one (V1.c (C.slc 7 0 B.d.length none)) ∧ True) ∧ (VV.one (V1.c (C.slc 7 0 B.d.length none)) = VV.one (V1.c (C.slc 7 0 B.d.length none)) ∧ True) ∧ B.d.length = B.d.length ∧ (1
 ≤ 1 ∧ True) ∧ (B.d.length + 1) * 8 ≤ 140737488355328 ∧ True ∧ True ∧ i64ok (B.seen + (1 : Int)) ∧ (BookOk φ (BS.mk (B.turn) (B.deep + (1 : Int)) (B.o) (B.t) (B.w ++ [l]) (B.n ++ [RS.nil]) (B.f) (B.m ++
 [mark]) (B.d ++ [y]) (B.r) (B.seen + (1 : Int))) ∧ B.deep + (1 : Int) = (1 : Int) ∧ B.turn + (1 : Int) = B.seen + (1 : Int)) ∧ Into (K := KK) 0 [] [0, 1, 2, 11, 15, 5, 17, 19, 8, 9] [VV.one (V1.c (C.ptr
 0 0 0))] [Atom.cells 46 (bookC false false B.turn (B.deep + (1 : Int)) [C.slc 1 0 B.o.length none, C.slc 2 0 B.t.length none, C.slc 11 0 (B.w ++ [l]).length none, C.slc 15 0 (B.n ++ [RS.nil]).length none,
 C.slc 5 0 B.f.length none, C.slc 17 0 (B.m ++ [mark]).length none, C.slc 19 0 (B.d.length + 1) none, C.slc 8 0 B.r.length none, C.int .i64 (B.seen + (1 : Int))]), Atom.arr Kd.ru8 B.o, Atom.arr Kd.ru8 B.t,
 Atom.gone, Atom.gone, Atom.arr Kd.ru8 B.f, Atom.gone, Atom.gone, Atom.arr Kd.int B.r, Atom.bag φ, Atom.arr Kd.ru8 [l], Atom.arr Kd.ru8 (B.w ++ [l]), Atom.gone, Atom.gone, Atom.arr Kd.ru8 [RS.nil], Atom.arr
 Kd.ru8 (B.n ++ [RS.nil]), Atom.arr Kd.int [mark], Atom.arr Kd.int (B.m ++ [mark]), Atom.arr Kd.int [y], Atom.arr Kd.int (B.d ++ [y])] [VV.one (V1.c (C.ptr 0 0 0))] [Atom.cells 46 (bookC false false B.turn
 (B.deep + (1 : Int)) [C.slc 1 0 B.o.length none, C.slc 2 0 B.t.length none, C.slc 3 0 (B.w ++ [l]).length none, C.slc 4 0 (B.n ++ [RS.nil]).length none, C.slc 5 0 B.f.length none, C.slc 6 0 (B.m ++ [mark]).length
 none, C.slc 7 0 (B.d ++ [y]).length none, C.slc 8 0 B.r.length none, C.int .i64 (B.seen + (1 : Int))]), Atom.arr Kd.ru8 B.o, Atom.arr Kd.ru8 B.t, Atom.arr Kd.ru8 (B.w ++ [l]), Atom.arr Kd.ru8 (B.n ++ [RS.nil]),
 Atom.arr Kd.ru8 B.f, Atom.arr Kd.int (B.m ++ [mark]), Atom.arr Kd.int (B.d ++ [y]), Atom.arr Kd.int B.r, Atom.bag φ] ∧ ∀ (y_1 : BS × Bag KK), (RestOk y_1.snd y_1.fst ∧ y_1.fst.seen = B.seen + (1 : Int)
 ∧ ∀ (b : Nat) (i : BI KK), φ b = some i → (∀ (y : RS), List.Mem y (B.o ++ (B.t ++ (B.w ++ [l] ++ (B.n ++ [RS.nil] ++ B.f)))) → ¬y.At b) → y_1.snd b = some i ∧ ∀ (y : RS), List.Mem y (y_1.fst.o ++ (y_1.fst.t
 ++ (y_1.fst.w ++ (y_1.fst.n ++ y_1.fst.f)))) → ¬y.At b) → EndsAs 10 (ct_bBytes l mark B φ) (VV.tup []) [Atom.cells 46 (bookC false false y_1.fst.turn y_1.fst.deep [C.slc 20 0 y_1.fst.o.length none, C.slc
 21 0 y_1.fst.t.length none, C.slc 22 0 y_1.fst.w.length none, C.slc 23 0 y_1.fst.n.length none, C.slc 24 0 y_1.fst.f.length none, C.slc 25 0 y_1.fst.m.length none, C.slc 26 0 y_1.fst.d.length none, C.slc
 27 0 y_1.fst.r.length none, C.int .i64 y_1.fst.seen]), Atom.gone, Atom.gone, Atom.gone, Atom.gone, Atom.gone, Atom.gone, Atom.gone, Atom.gone, Atom.bag y_1.snd, Atom.arr Kd.ru8 [l], Atom.gone, Atom.gone,
 Atom.gone, Atom.arr Kd.ru8 [RS.nil], Atom.gone, Atom.arr Kd.int [mark], Atom.gone, Atom.arr Kd.int [y], Atom.gone, Atom.arr Kd.ru8 y_1.fst.o, Atom.arr Kd.ru8 y_1.fst.t, Atom.arr Kd.ru8 y_1.fst.w, Atom.arr
 Kd.ru8 y_1.fst.n, Atom.arr Kd.ru8 y_1.fst.f, Atom.arr Kd.int y_1.fst.m, Atom.arr Kd.int y_1.fst.d, Atom.arr Kd.int y_1.fst.r]) ∧ ∀ (b c : Nat), φ b = none → ys.length ≤ c → (VV.one (V1.c (C.slc 4 0 B.n.length
 none)) = VV.one (V1.c (C.slc 4 0 B.n.length none)) ∧ True) ∧ B.n.length = B.n.length ∧ (1 ≤ 1 ∧ True) ∧ (B.n.length + 1) * 24 ≤ 140737488355328 ∧ True ∧ True ∧ B.m.length = B.m.length ∧ (1 ≤ 1 ∧ True)
 ∧ (B.m.length + 1) * 8 ≤ 140737488355328 ∧ True ∧ (((0 : Int) ≤ B.turn ∧ B.turn ≤ (1000000 : Int)) ∧ (0 : Int) ≤ B.seen ∧ B.seen ≤ (1000000 : Int)) ∧ Into (K := KK) 0 [] [0, 1, 2, 11, 15, 5, 17, 7, 8]
 [VV.one (V1.c (C.ptr 0 0 0)), i64 B.seen] [Atom.cells 46 (bookC false false B.turn (B.deep + (1 : Int)) [C.slc 1 0 B.o.length none, C.slc 2 0 B.t.length none, C.slc 11 0 (B.w.length + 1) none, C.slc 15
 0 (B.n.length + 1) none, C.slc 5 0 B.f.length none, C.slc 17 0 (B.m.length + 1) none, C.slc 7 0 B.d.length none, C.slc 8 0 B.r.length none, C.int .i64 B.seen]), Atom.arr Kd.ru8 B.o, Atom.arr Kd.ru8 B.t,
 Atom.gone, Atom.gone, Atom.arr Kd.ru8 B.f, Atom.gone, Atom.arr Kd.int B.d, Atom.arr Kd.int B.r, Atom.bag (bput φ b (BI.row Kd.u8 c ys)), Atom.arr Kd.ru8 [l], Atom.arr Kd.ru8 (B.w ++ [l]), Atom.gone, Atom.gone,
 Atom.arr Kd.ru8 [RS.mk b 0 (0 + ys.length) c], Atom.arr Kd.ru8 (B.n ++ [RS.mk b 0 (0 + ys.length) c]), Atom.arr Kd.int [mark], Atom.arr Kd.int (B.m ++ [mark])] [VV.one (V1.c (C.ptr 0 0 0)), i64 B.seen]
 [Atom.cells 46 (bookC false false B.turn (B.deep + (1 : Int)) [C.slc 1 0 B.o.length none, C.slc 2 0 B.t.length none, C.slc 3 0 (B.w ++ [l]).length none, C.slc 4 0 (B.n ++ [RS.mk b 0 (0 + ys.length) c]).length
 none, C.slc 5 0 B.f.length none, C.slc 6 0 (B.m ++ [mark]).length none, C.slc 7 0 B.d.length none, C.slc 8 0 B.r.length none, C.int .i64 B.seen]), Atom.arr Kd.ru8 B.o, Atom.arr Kd.ru8 B.t, Atom.arr Kd.ru8
 (B.w ++ [l]), Atom.arr Kd.ru8 (B.n ++ [RS.mk b 0 (0 + ys.length) c]), Atom.arr Kd.ru8 B.f, Atom.arr Kd.int (B.m ++ [mark]), Atom.arr Kd.int B.d, Atom.arr Kd.int B.r] ∧ ∀ (y : Int), (0 : Int) ≤ y ∧ y ≤
 (2000000 : Int) → (VV.one (V1.c (C.slc 7 0 B.d.length none)) = VV.one (V1.c (C.slc 7 0 B.d.length none)) ∧ True) ∧ (VV.one (V1.c (C.slc 7 0 B.d.length none)) = VV.one (V1.c (C.slc 7 0 B.d.length none))
 ∧ True) ∧ B.d.length = B.d.length ∧ (1 ≤ 1 ∧ True) ∧ (B.d.length + 1) * 8 ≤ 140737488355328 ∧ True ∧ True ∧ i64ok (B.seen + (1 : Int)) ∧ (BookOk (bput φ b (BI.row Kd.u8 c ys)) (BS.mk (B.turn) (B.deep +
 (1 : Int)) (B.o) (B.t) (B.w ++ [l]) (B.n ++ [RS.mk b 0 (0 + ys.length) c]) (B.f) (B.m ++ [mark]) (B.d ++ [y]) (B.r) (B.seen + (1 : Int))) ∧ B.deep + (1 : Int) = (1 : Int) ∧ B.turn + (1 : Int) = B.seen
 + (1 : Int)) ∧ Into (K := KK) 0 [] [0, 1, 2, 11, 15, 5, 17, 19, 8, 9] [VV.one (V1.c (C.ptr 0 0 0))] [Atom.cells 46 (bookC false false B.turn (B.deep + (1 : Int)) [C.slc 1 0 B.o.length none, C.slc 2 0 B.t.length
 none, C.slc 11 0 (B.w ++ [l]).length none, C.slc 15 0 (B.n ++ [RS.mk b 0 (0 + ys.length) c]).length none, C.slc 5 0 B.f.length none, C.slc 17 0 (B.m ++ [mark]).length none, C.slc 19 0 (B.d.length + 1)
 none, C.slc 8 0 B.r.length none, C.int .i64 (B.seen + (1 : Int))]), Atom.arr Kd.ru8 B.o, Atom.arr Kd.ru8 B.t, Atom.gone, Atom.gone, Atom.arr Kd.ru8 B.f, Atom.gone, Atom.gone, Atom.arr Kd.int B.r, Atom.bag
 (bput φ b (BI.row Kd.u8 c ys)), Atom.arr Kd.ru8 [l], Atom.arr Kd.ru8 (B.w ++ [l]), Atom.gone, Atom.gone, Atom.arr Kd.ru8 [RS.mk b 0 (0 + ys.length) c], Atom.arr Kd.ru8 (B.n ++ [RS.mk b 0 (0 + ys.length)
 c]), Atom.arr Kd.int [mark], Atom.arr Kd.int (B.m ++ [mark]), Atom.arr Kd.int [y], Atom.arr Kd.int (B.d ++ [y])] [VV.one (V1.c (C.ptr 0 0 0))] [Atom.cells 46 (bookC false false B.turn (B.deep + (1 : Int))
 [C.slc 1 0 B.o.length none, C.slc 2 0 B.t.length none, C.slc 3 0 (B.w ++ [l]).length none, C.slc 4 0 (B.n ++ [RS.mk b 0 (0 + ys.length) c]).length none, C.slc 5 0 B.f.length none, C.slc 6 0 (B.m ++ [mark]).length
 none, C.slc 7 0 (B.d ++ [y]).length none, C.slc 8 0 B.r.length none, C.int .i64 (B.seen + (1 : Int))]), Atom.arr Kd.ru8 B.o, Atom.arr Kd.ru8 B.t, Atom.arr Kd.ru8 (B.w ++ [l]), Atom.arr Kd.ru8 (B.n ++ [RS.mk
 b 0 (0 + ys.length) c]), Atom.arr Kd.ru8 B.f, Atom.arr Kd.int (B.m ++ [mark]), Atom.arr Kd.int (B.d ++ [y]), Atom.arr Kd.int B.r, Atom.bag (bput φ b (BI.row Kd.u8 c ys))] ∧ ∀ (y_1 : BS × Bag KK), (RestOk
 y_1.snd y_1.fst ∧ y_1.fst.seen = B.seen + (1 : Int) ∧ ∀ (b_1 : Nat) (i : BI KK), bput φ b (BI.row Kd.u8 c ys) b_1 = some i → (∀ (y : RS), List.Mem y (B.o ++ (B.t ++ (B.w ++ [l] ++ (B.n ++ [RS.mk b 0 (0
 + ys.length) c] ++ B.f)))) → ¬y.At b_1) → y_1.snd b_1 = some i ∧ ∀ (y : RS), List.Mem y (y_1.fst.o ++ (y_1.fst.t ++ (y_1.fst.w ++ (y_1.fst.n ++ y_1.fst.f)))) → ¬y.At b_1) → EndsAs 10 (ct_bBytes l mark
 B φ) (VV.tup []) [Atom.cells 46 (bookC false false y_1.fst.turn y_1.fst.deep [C.slc 20 0 y_1.fst.o.length none, C.slc 21 0 y_1.fst.t.length none, C.slc 22 0 y_1.fst.w.length none, C.slc 23 0 y_1.fst.n.length
 none, C.slc 24 0 y_1.fst.f.length none, C.slc 25 0 y_1.fst.m.length none, C.slc 26 0 y_1.fst.d.length none, C.slc 27 0 y_1.fst.r.length none, C.int .i64 y_1.fst.seen]), Atom.gone, Atom.gone, Atom.gone,
 Atom.gone, Atom.gone, Atom.gone, Atom.gone, Atom.gone, Atom.bag y_1.snd, Atom.arr Kd.ru8 [l], Atom.gone, Atom.gone, Atom.gone, Atom.arr Kd.ru8 [RS.mk b 0 (0 + ys.length) c], Atom.gone, Atom.arr Kd.int
 [mark], Atom.gone, Atom.arr Kd.int [y], Atom.gone, Atom.arr Kd.ru8 y_1.fst.o, Atom.arr Kd.ru8 y_1.fst.t, Atom.arr Kd.ru8 y_1.fst.w, Atom.arr Kd.ru8 y_1.fst.n, Atom.arr Kd.ru8 y_1.fst.f, Atom.arr Kd.int
 y_1.fst.m, Atom.arr Kd.int y_1.fst.d, Atom.arr Kd.int y_1.fst.r]) := by kernel_rfl
theorem vc_bHold (B : BS) (φ : Bag KK) : evFn tabH ann0 Tryz.f15 (ct_bHold B φ) = ( BookOk φ (BS.mk (B.turn) (B.deep) (B.o) (B.t) (B.w) (B.n) (B.f) (B.m) (B.d) (B.r) (B.seen)) ∧ Into (K := KK) 0 [] [0, 1, 2, 3, 4, 5, 6, 7, 8, 9] [VV.one (V1.c (C.ptr 0 0 0))] (bookH B ++ [.bag φ]) [VV.one
 (V1.c (C.ptr 0 0 0))] (bookH B ++ [.bag φ]) ∧ ∀ (y : Unit), True → True ∧ Into (K := KK) 0 [] [0, 1, 2, 3, 4, 5, 6, 7, 8] [VV.one (V1.c (C.ptr 0 0 0))] (bookH B ++ [.bag φ]) [VV.one (V1.c (C.ptr 0 0 0))]
 (bookH B) ∧ ∀ (y : Unit), True → True ∧ Into (K := KK) 0 [] [0, 1, 2, 3, 4, 5, 6, 7, 8] [VV.one (V1.c (C.ptr 0 0 0))] (bookH B ++ [.bag φ]) [VV.one (V1.c (C.ptr 0 0 0))] (bookH B) ∧ ∀ (y : Unit), True
 → True ∧ Into (K := KK) 0 [] [0, 1, 2, 3, 4, 5, 6, 7, 8] [VV.one (V1.c (C.ptr 0 0 0))] (bookH B ++ [.bag φ]) [VV.one (V1.c (C.ptr 0 0 0))] (bookH B) ∧ ∀ (y : Unit), True → True ∧ Into (K := KK) 0 [] [0,
 1, 2, 3, 4, 5, 6, 7, 8] [VV.one (V1.c (C.ptr 0 0 0))] (bookH B ++ [.bag φ]) [VV.one (V1.c (C.ptr 0 0 0))] (bookH B) ∧ ∀ (y : Unit), True → True ∧ Into (K := KK) 0 [] [0, 1, 2, 3, 4, 5, 6, 7, 8] [VV.one
 (V1.c (C.ptr 0 0 0))] (bookH B ++ [.bag φ]) [VV.one (V1.c (C.ptr 0 0 0))] (bookH B) ∧ ∀ (y : Unit), True → True ∧ Into (K := KK) 0 [] [0, 1, 2, 3, 4, 5, 6, 7, 8] [VV.one (V1.c (C.ptr 0 0 0))] (bookH B
 ++ [.bag φ]) [VV.one (V1.c (C.ptr 0 0 0))] (bookH B) ∧ ∀ (y : Unit), True → True ∧ Into (K := KK) 0 [] [0, 1, 2, 3, 4, 5, 6, 7, 8] [VV.one (V1.c (C.ptr 0 0 0))] (bookH B ++ [.bag φ]) [VV.one (V1.c (C.ptr
 0 0 0))] (bookH B) ∧ ∀ (y : Unit), True → True ∧ Into (K := KK) 0 [] [0, 1, 2, 3, 4, 5, 6, 7, 8] [VV.one (V1.c (C.ptr 0 0 0))] (bookH B ++ [.bag φ]) [VV.one (V1.c (C.ptr 0 0 0))] (bookH B) ∧ ∀ (y : Unit),
 True → True ∧ Into (K := KK) 0 [] [0, 1, 2, 3, 4, 5, 6, 7, 8] [VV.one (V1.c (C.ptr 0 0 0))] (bookH B ++ [.bag φ]) [VV.one (V1.c (C.ptr 0 0 0))] (bookH B) ∧ ∀ (y : Unit), True → True ∧ Into (K := KK) 0
 [] [0, 1, 2, 3, 4, 5, 6, 7, 8] [VV.one (V1.c (C.ptr 0 0 0))] (bookH B ++ [.bag φ]) [VV.one (V1.c (C.ptr 0 0 0))] (bookH B) ∧ ∀ (y : Unit), True → True ∧ Into (K := KK) 0 [] [0, 1, 2, 3, 4, 5, 6, 7, 8]
 [VV.one (V1.c (C.ptr 0 0 0))] (bookH B ++ [.bag φ]) [VV.one (V1.c (C.ptr 0 0 0))] (bookH B) ∧ ∀ (y : Unit), True → True ∧ Into (K := KK) 0 [] [0, 1, 2, 3, 4, 5, 6, 7, 8] [VV.one (V1.c (C.ptr 0 0 0))] (bookH
 B ++ [.bag φ]) [VV.one (V1.c (C.ptr 0 0 0))] (bookH B) ∧ ∀ (y : Unit), True → True ∧ Into (K := KK) 0 [] [0, 1, 2, 3, 4, 5, 6, 7, 8] [VV.one (V1.c (C.ptr 0 0 0))] (bookH B ++ [.bag φ]) [VV.one (V1.c (C.ptr
 0 0 0))] (bookH B) ∧ ∀ (y : Unit), True → True ∧ Into (K := KK) 0 [] [0, 1, 2, 3, 4, 5, 6, 7, 8] [VV.one (V1.c (C.ptr 0 0 0))] (bookH B ++ [.bag φ]) [VV.one (V1.c (C.ptr 0 0 0))] (bookH B) ∧ ∀ (y : Unit),
 True → True ∧ Into (K := KK) 0 [] [0, 1, 2, 3, 4, 5, 6, 7, 8] [VV.one (V1.c (C.ptr 0 0 0))] (bookH B ++ [.bag φ]) [VV.one (V1.c (C.ptr 0 0 0))] (bookH B) ∧ ∀ (y : Unit), True → EndsAs 10 (ct_bHold B φ)
 (VV.one (V1.c (C.bool true))) (bookH B ++ [.bag φ])) := by kernel_rfl
theorem bHold_ok (B : BS) (φ : Bag KK) : CtOk Tryz.prog 15 (ct_bHold B φ) := CtOk_of KK_ok tabH ann0 (fn := Tryz.f15) rfl (fun _ _ => rfl) fun hn => by
  rw [vc_bHold]
  exact ⟨hn, into_mk (by kernel_rfl) (by (repeat' first | exact trivial | exact rfl | apply And.intro)) (by (repeat' first | exact trivial | exact rfl | apply And.intro)), fun _ _ => ⟨trivial, into_mk (by kernel_rfl) (by (repeat' first | exact trivial | exact rfl | apply And.intro)) (by (repeat' first | exact trivial | exact rfl | apply And.intro)), fun _ _ => ⟨trivial, into_mk (by kernel_rfl) (by (repeat' first | exact trivial | exact rfl | apply And.intro)) (by (repeat' first | exact trivial | exact rfl | apply And.intro)), fun _ _ => ⟨trivial, into_mk (by kernel_rfl) (by (repeat' first | exact trivial | exact rfl | apply And.intro)) (by (repeat' first | exact trivial | exact rfl | apply And.intro)), fun _ _ => ⟨trivial, into_mk (by kernel_rfl) (by (repeat' first | exact trivial | exact rfl | apply And.intro)) (by (repeat' first | exact trivial | exact rfl | apply And.intro)), fun _ _ => ⟨trivial, into_mk (by kernel_rfl) (by (repeat' first | exact trivial | exact rfl | apply And.intro)) (by (repeat' first | exact trivial | exact rfl | apply And.intro)), fun _ _ => ⟨trivial, into_mk (by kernel_rfl) (by (repeat' first | exact trivial | exact rfl | apply And.intro)) (by (repeat' first | exact trivial | exact rfl | apply And.intro)), fun _ _ => ⟨trivial, into_mk (by kernel_rfl) (by (repeat' first | exact trivial | exact rfl | apply And.intro)) (by (repeat' first | exact trivial | exact rfl | apply And.intro)), fun _ _ => ⟨trivial, into_mk (by kernel_rfl) (by (repeat' first | exact trivial | exact rfl | apply And.intro)) (by (repeat' first | exact trivial | exact rfl | apply And.intro)), fun _ _ => ⟨trivial, into_mk (by kernel_rfl) (by (repeat' first | exact trivial | exact rfl | apply And.intro)) (by (repeat' first | exact trivial | exact rfl | apply And.intro)), fun _ _ => ⟨trivial, into_mk (by kernel_rfl) (by (repeat' first | exact trivial | exact rfl | apply And.intro)) (by (repeat' first | exact trivial | exact rfl | apply And.intro)), fun _ _ => ⟨trivial, into_mk (by kernel_rfl) (by (repeat' first | exact trivial | exact rfl | apply And.intro)) (by (repeat' first | exact trivial | exact rfl | apply And.intro)), fun _ _ => ⟨trivial, into_mk (by kernel_rfl) (by (repeat' first | exact trivial | exact rfl | apply And.intro)) (by (repeat' first | exact trivial | exact rfl | apply And.intro)), fun _ _ => ⟨trivial, into_mk (by kernel_rfl) (by (repeat' first | exact trivial | exact rfl | apply And.intro)) (by (repeat' first | exact trivial | exact rfl | apply And.intro)), fun _ _ => ⟨trivial, into_mk (by kernel_rfl) (by (repeat' first | exact trivial | exact rfl | apply And.intro)) (by (repeat' first | exact trivial | exact rfl | apply And.intro)), fun _ _ => ⟨trivial, into_mk (by kernel_rfl) (by (repeat' first | exact trivial | exact rfl | apply And.intro)) (by (repeat' first | exact trivial | exact rfl | apply And.intro)), fun _ _ => ⟨(), [], [0, 1, 2, 3, 4, 5, 6, 7, 8, 9], trivial, by (repeat' first | exact trivial | exact rfl | apply And.intro)⟩⟩⟩⟩⟩⟩⟩⟩⟩⟩⟩⟩⟩⟩⟩⟩⟩
theorem rest_new {φ φ' : Bag KK} {B : BS} {l y : RS} {zs : List Int} {mark due : Int} (h : RestOk φ B) (ha : Alone φ Kd.u8 1000000 B.bk l) (hm : -1000000000000 ≤ mark ∧ mark ≤ 1000000000000) (hs : B.seen < 100000) (hr : l.row φ Kd.u8 = some zs) (hy : Frz φ Kd.u8 zs y φ') :
    BookOk φ' { B with deep := B.deep + 1, w := B.w ++ [l], n := B.n ++ [y], m := B.m ++ [mark], d := B.d ++ [due], seen := B.seen + 1 } := by
  obtain ⟨hb, hf, hrr, hd, ht⟩ := h
  have h1 := hb.cnt
  have h2 := hb.lm
  have h3 := hb.ld
  refine ⟨hb.good.handed ha hr hy, hb.tab.frz hy, by simp [h2], by simp [h3], hb.lr, fun x hx => ?_, hb.rb, ?_, by show B.seen + 1 ≤ 100000; omega, hb.turn⟩
  · rcases List.mem_append.1 hx with hx | hx
    · exact hb.mb x hx
    · rw [List.mem_singleton.1 hx]; exact hm
  · show (B.o.length : Int) + 2 * ((B.w ++ [l]).length : Nat) + B.f.length = 2 * (B.seen + 1)
    rw [List.length_append, List.length_singleton]
    omega
theorem bBytes_ok (l : RS) (mark : Int) (B : BS) (φ : Bag KK) : CtOk Tryz.prog 14 (ct_bBytes l mark B φ) := CtOk_of KK_ok tabT ann0 (fn := Tryz.f14) rfl (fun _ _ => rfl) fun hn => by
  obtain ⟨hb, ha, hm, hs⟩ := hn
  have hfew := hb.ok.few
  have hcnt := hb.ok.cnt
  have hlm := hb.ok.lm
  have hld := hb.ok.ld
  have hd := hb.deep
  have ht := hb.turn
  have h0 := hb.ok.turn
  have hon : B.w.length = B.n.length := All2.length hb.ok.good.note
  obtain ⟨zs, z1, z2, z3⟩ := ha.whole
  have z3' : (zs : List Int).length ≤ 1000000 := z3
  rw [vc_bBytes]
  have hfew : B.seen ≤ 100000 := hfew
  have step : ∀ (c : Bool) y φ' due, Frz φ Kd.u8 zs y φ' → 0 ≤ due ∧ due ≤ 2000000 → BookOk φ' { B with deep := B.deep + 1, w := B.w ++ [l], n := B.n ++ [y], m := B.m ++ [mark], d := B.d ++ [due], seen := B.seen + 1 } := fun _ y φ' due hy _ => rest_new hb ha hm hs z2 hy
  refine ⟨by unfold i64ok; omega, rfl, ⟨Nat.le_refl _, trivial⟩, by omega, trivial, ⟨rfl, trivial⟩, rfl, zs, z2, by rw [Nat.zero_add]; exact le_lim (le_150 z3), ⟨rfl, trivial⟩, Nat.zero_add _, fun hz => ?_, fun b c hfr hc => ?_⟩
  · refine ⟨⟨rfl, trivial⟩, rfl, ⟨Nat.le_refl _, trivial⟩, by omega, trivial, trivial, rfl, ⟨Nat.le_refl _, trivial⟩, by omega, trivial, ⟨by omega, by omega, by omega⟩, into_mk (by kernel_rfl) (by (repeat' first | exact trivial | exact rfl | exact len_snoc _ _ | apply And.intro)) (by (repeat' first | exact trivial | exact rfl | exact len_snoc _ _ | apply And.intro)), fun due hdue => ⟨⟨rfl, trivial⟩, ⟨rfl, trivial⟩, rfl, ⟨Nat.le_refl _, trivial⟩, by omega, trivial, trivial, by unfold i64ok; omega, ⟨step true _ _ due (.nil_ hz) hdue, by omega, by omega⟩, into_mk (by kernel_rfl) (by (repeat' first | exact trivial | exact rfl | exact len_snoc _ _ | apply And.intro)) (by (repeat' first | exact trivial | exact rfl | exact len_snoc _ _ | apply And.intro)), fun y hy => ⟨y, [], [0, 1, 2, 3, 4, 5, 6, 7, 8, 9, 20, 21, 22, 23, 24, 25, 26, 27], ⟨hy.1, hy.2.1, (Frz.nil_ hz).handed.trans hy.2.2⟩, by (repeat' first | exact trivial | exact rfl | apply And.intro)⟩⟩⟩
  · have hq : 0 + (zs : List Int).length = zs.length := Nat.zero_add _
    have e2 : ∀ y : BS × Bag KK, Stays (bput φ b (.row Kd.u8 c zs)) ⟨B.o, B.t, B.w ++ [l], B.n ++ [RS.mk b 0 (0 + zs.length) c], B.f⟩ y.2 y.1.bk → StaysX φ B.bk l y.2 y.1.bk := fun y h => by
      rw [hq] at h
      exact (Frz.mk (kd := Kd.u8) b c hfr hc).handed.trans h
    refine ⟨⟨rfl, trivial⟩, rfl, ⟨Nat.le_refl _, trivial⟩, by omega, trivial, trivial, rfl, ⟨Nat.le_refl _, trivial⟩, by omega, trivial, ⟨by omega, by omega, by omega⟩, into_mk (by kernel_rfl) (by (repeat' first | exact trivial | exact rfl | exact len_snoc _ _ | exact zero_mk _ _ _ | exact zero_mks _ _ _ _ | apply And.intro)) (by (repeat' first | exact trivial | exact rfl | exact len_snoc _ _ | exact zero_mk _ _ _ | exact zero_mks _ _ _ _ | apply And.intro)), fun due hdue => ⟨⟨rfl, trivial⟩, ⟨rfl, trivial⟩, rfl, ⟨Nat.le_refl _, trivial⟩, by omega, trivial, trivial, by unfold i64ok; omega, ⟨?_, by omega, by omega⟩, into_mk (by kernel_rfl) (by (repeat' first | exact trivial | exact rfl | exact len_snoc _ _ | exact zero_mk _ _ _ | exact zero_mks _ _ _ _ | apply And.intro)) (by (repeat' first | exact trivial | exact rfl | exact len_snoc _ _ | exact zero_mk _ _ _ | exact zero_mks _ _ _ _ | apply And.intro)), fun y hy => ⟨y, [], [0, 1, 2, 3, 4, 5, 6, 7, 8, 9, 20, 21, 22, 23, 24, 25, 26, 27], ⟨hy.1, hy.2.1, e2 y hy.2.2⟩, by (repeat' first | exact trivial | exact rfl | apply And.intro)⟩⟩⟩
    have := step true _ _ due (.mk b c hfr hc) hdue
    rw [← hq] at this
    exact this
end Go.Proofs.YtndlpbheifalhaaGreatDoor.T
