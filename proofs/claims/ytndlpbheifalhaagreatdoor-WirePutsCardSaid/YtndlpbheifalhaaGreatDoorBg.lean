/- The book: a call is at its end. -/
import Derived.Test.YtndlpbheifalhaaGreatDoorBf
namespace Go.Proofs.YtndlpbheifalhaaGreatDoor.T
open Go.Proofs.YtndlpbheifalhaaGreatDoor.E
set_option maxRecDepth 100000
set_option linter.unusedVariables false
/-- A book between two calls. -/
structure RestOk (φ : Bag KK) (B : BS) : Prop where
  ok : BookOk φ B
  f : B.f = []
  r : B.r = []
  deep : B.deep = 0
  turn : B.turn = B.seen
def ct_done (B : BS) (φ : Bag KK) : Ct KK := { need := BookOk φ B ∧ B.deep = 1 ∧ B.turn + 1 = B.seen, pre := bookH B ++ [.bag φ], args := [.c (.ptr 0 0 0)], Y := BS × Bag KK, ok := fun y => RestOk y.2 y.1 ∧ y.1.seen = B.seen ∧ Stays φ B.bk y.2 y.1.bk, ret := fun _ => .tup [], post := fun y => bookM y.1 y.2 }
def tabD : Tab Tryz.prog KK := ⟨mixed, fun f args H => match args with
  | [.one (.c (.ptr 0 0 0))] => match getBB H with
    | some (B, φ, τ) => match f with
      | 68 => some (ct_marks B φ, [], τ)
      | 69 => some (ct_grows B φ, [], τ)
      | _ => none
    | none => none
  | _ => none, fun f args H ct ks τ h => by
    split at h
    · split at h
      · split at h
        · cases h; exact marks_ok _ _
        · cases h; exact grows_ok _ _
        · cases h
      · cases h
    · cases h⟩
theorem vc_done (B : BS) (φ : Bag KK) : evFn tabD ann0 Tryz.f35 (ct_done B φ) = ( i64ok (B.deep - (1 : Int)) ∧ ite2 (decide ((0 : Int) < B.deep - (1 : Int))) (EndsAs 10 (ct_done B φ) (VV.tup []) [Atom.cells 46 (bookC false false B.turn (B.deep - (1 : Int)) [C.slc 1 0 B.o.length none,
 C.slc 2 0 B.t.length none, C.slc 3 0 B.w.length none, C.slc 4 0 B.n.length none, C.slc 5 0 B.f.length none, C.slc 6 0 B.m.length none, C.slc 7 0 B.d.length none, C.slc 8 0 B.r.length none, C.int .i64 B.seen]),
 Atom.arr Kd.ru8 B.o, Atom.arr Kd.ru8 B.t, Atom.arr Kd.ru8 B.w, Atom.arr Kd.ru8 B.n, Atom.arr Kd.ru8 B.f, Atom.arr Kd.int B.m, Atom.arr Kd.int B.d, Atom.arr Kd.int B.r, Atom.bag φ]) (BookOk φ (BS.mk (B.turn)
 (B.deep - (1 : Int)) (B.o) (B.t) (B.w) (B.n) (B.f) (B.m) (B.d) (B.r) (B.seen)) ∧ Into (K := KK) 0 [] [0, 1, 2, 3, 4, 5, 6, 7, 8, 9] [VV.one (V1.c (C.ptr 0 0 0))] [Atom.cells 46 (bookC false false B.turn
 (B.deep - (1 : Int)) [C.slc 1 0 B.o.length none, C.slc 2 0 B.t.length none, C.slc 3 0 B.w.length none, C.slc 4 0 B.n.length none, C.slc 5 0 B.f.length none, C.slc 6 0 B.m.length none, C.slc 7 0 B.d.length
 none, C.slc 8 0 B.r.length none, C.int .i64 B.seen]), Atom.arr Kd.ru8 B.o, Atom.arr Kd.ru8 B.t, Atom.arr Kd.ru8 B.w, Atom.arr Kd.ru8 B.n, Atom.arr Kd.ru8 B.f, Atom.arr Kd.int B.m, Atom.arr Kd.int B.d,
 Atom.arr Kd.int B.r, Atom.bag φ] [VV.one (V1.c (C.ptr 0 0 0))] [Atom.cells 46 (bookC false false B.turn (B.deep - (1 : Int)) [C.slc 1 0 B.o.length none, C.slc 2 0 B.t.length none, C.slc 3 0 B.w.length
 none, C.slc 4 0 B.n.length none, C.slc 5 0 B.f.length none, C.slc 6 0 B.m.length none, C.slc 7 0 B.d.length none, C.slc 8 0 B.r.length none, C.int .i64 B.seen]), Atom.arr Kd.ru8 B.o, Atom.arr Kd.ru8 B.t,
 Atom.arr Kd.ru8 B.w, Atom.arr Kd.ru8 B.n, Atom.arr Kd.ru8 B.f, Atom.arr Kd.int B.m, Atom.arr Kd.int B.d, Atom.arr Kd.int B.r, Atom.bag φ] ∧ ∀ (y : BS × Bag KK), (BookOk y.snd y.fst ∧ (y.fst.turn = B.turn
 ∧ y.fst.deep = B.deep - (1 : Int) ∧ y.fst.seen = B.seen) ∧ ∀ (b : Nat) (i : BI KK), φ b = some i → (∀ (y : RS), List.Mem y (B.o ++ (B.t ++ (B.w ++ (B.n ++ B.f)))) → ¬y.At b) → y.snd b = some i ∧ ∀ (y_1
 : RS), List.Mem y_1 (y.fst.o ++ (y.fst.t ++ (y.fst.w ++ (y.fst.n ++ y.fst.f)))) → ¬y_1.At b) → BookOk y.snd (BS.mk (y.fst.turn) (y.fst.deep) (y.fst.o) (y.fst.t) (y.fst.w) (y.fst.n) (y.fst.f) (y.fst.m)
 (y.fst.d) (y.fst.r) (y.fst.seen)) ∧ Into (K := KK) 0 [] [0, 10, 11, 12, 13, 14, 15, 16, 17, 9] [VV.one (V1.c (C.ptr 0 0 0))] [Atom.cells 46 (bookC false false y.fst.turn y.fst.deep [C.slc 10 0 y.fst.o.length
 none, C.slc 11 0 y.fst.t.length none, C.slc 12 0 y.fst.w.length none, C.slc 13 0 y.fst.n.length none, C.slc 14 0 y.fst.f.length none, C.slc 15 0 y.fst.m.length none, C.slc 16 0 y.fst.d.length none, C.slc
 17 0 y.fst.r.length none, C.int .i64 y.fst.seen]), Atom.gone, Atom.gone, Atom.gone, Atom.gone, Atom.gone, Atom.gone, Atom.gone, Atom.gone, Atom.bag y.snd, Atom.arr Kd.ru8 y.fst.o, Atom.arr Kd.ru8 y.fst.t,
 Atom.arr Kd.ru8 y.fst.w, Atom.arr Kd.ru8 y.fst.n, Atom.arr Kd.ru8 y.fst.f, Atom.arr Kd.int y.fst.m, Atom.arr Kd.int y.fst.d, Atom.arr Kd.int y.fst.r] [VV.one (V1.c (C.ptr 0 0 0))] [Atom.cells 46 (bookC
 false false y.fst.turn y.fst.deep [C.slc 1 0 y.fst.o.length none, C.slc 2 0 y.fst.t.length none, C.slc 3 0 y.fst.w.length none, C.slc 4 0 y.fst.n.length none, C.slc 5 0 y.fst.f.length none, C.slc 6 0 y.fst.m.length
 none, C.slc 7 0 y.fst.d.length none, C.slc 8 0 y.fst.r.length none, C.int .i64 y.fst.seen]), Atom.arr Kd.ru8 y.fst.o, Atom.arr Kd.ru8 y.fst.t, Atom.arr Kd.ru8 y.fst.w, Atom.arr Kd.ru8 y.fst.n, Atom.arr
 Kd.ru8 y.fst.f, Atom.arr Kd.int y.fst.m, Atom.arr Kd.int y.fst.d, Atom.arr Kd.int y.fst.r, Atom.bag y.snd] ∧ ∀ (y_1 : BS × Bag KK), (BookOk y_1.snd y_1.fst ∧ (y_1.fst.turn = y.fst.turn ∧ y_1.fst.deep =
 y.fst.deep ∧ y_1.fst.seen = y.fst.seen) ∧ ∀ (b : Nat) (i : BI KK), y.snd b = some i → (∀ (y_2 : RS), List.Mem y_2 (y.fst.o ++ (y.fst.t ++ (y.fst.w ++ (y.fst.n ++ y.fst.f)))) → ¬y_2.At b) → y_1.snd b =
 some i ∧ ∀ (y : RS), List.Mem y (y_1.fst.o ++ (y_1.fst.t ++ (y_1.fst.w ++ (y_1.fst.n ++ y_1.fst.f)))) → ¬y.At b) ∧ y_1.fst.f = [] ∧ y_1.fst.r = [] → i64ok (y_1.fst.turn + (1 : Int)) ∧ EndsAs 10 (ct_done
 B φ) (VV.tup []) [Atom.cells 46 (bookC false false (y_1.fst.turn + (1 : Int)) y_1.fst.deep [C.slc 18 0 y_1.fst.o.length none, C.slc 19 0 y_1.fst.t.length none, C.slc 20 0 y_1.fst.w.length none, C.slc 21
 0 y_1.fst.n.length none, C.slc 22 0 y_1.fst.f.length none, C.slc 23 0 y_1.fst.m.length none, C.slc 24 0 y_1.fst.d.length none, C.slc 25 0 y_1.fst.r.length none, C.int .i64 y_1.fst.seen]), Atom.gone, Atom.gone,
 Atom.gone, Atom.gone, Atom.gone, Atom.gone, Atom.gone, Atom.gone, Atom.bag y_1.snd, Atom.gone, Atom.gone, Atom.gone, Atom.gone, Atom.gone, Atom.gone, Atom.gone, Atom.gone, Atom.arr Kd.ru8 y_1.fst.o, Atom.arr
 Kd.ru8 y_1.fst.t, Atom.arr Kd.ru8 y_1.fst.w, Atom.arr Kd.ru8 y_1.fst.n, Atom.arr Kd.ru8 y_1.fst.f, Atom.arr Kd.int y_1.fst.m, Atom.arr Kd.int y_1.fst.d, Atom.arr Kd.int y_1.fst.r])) := by kernel_rfl
theorem done_ok (B : BS) (φ : Bag KK) : CtOk Tryz.prog 35 (ct_done B φ) := CtOk_of KK_ok tabD ann0 (fn := Tryz.f35) rfl (fun _ _ => rfl) fun hn => by
  obtain ⟨hb, hd, ht⟩ := hn
  have hfew := hb.few
  have hturn := hb.turn
  rw [vc_done]
  refine ⟨by unfold i64ok; omega, ite2_decide (fun h => absurd h (by omega)) (fun h => ⟨⟨hb.good, hb.tab, hb.lm, hb.ld, hb.lr, hb.mb, hb.rb, hb.cnt, hb.few, hb.turn⟩, into_mk (by kernel_rfl) (by (repeat' first | exact trivial | exact rfl | apply And.intro)) (by (repeat' first | exact trivial | exact rfl | apply And.intro)), ?_⟩)⟩
  rintro ⟨C, φ'⟩ ⟨hc, ⟨s1, s2, s3⟩, st1⟩
  refine ⟨hc, into_mk (by kernel_rfl) (by (repeat' first | exact trivial | exact rfl | apply And.intro)) (by (repeat' first | exact trivial | exact rfl | apply And.intro)), ?_⟩
  rintro ⟨D, φ''⟩ ⟨⟨hd', ⟨t1, t2, t3⟩, st2⟩, t4, t5⟩
  have st1 : Stays φ B.bk φ' C.bk := st1
  have st2 : Stays φ' C.bk φ'' D.bk := st2
  have s1 : C.turn = B.turn := s1
  have s2 : C.deep = B.deep - 1 := s2
  have s3 : C.seen = B.seen := s3
  have t1 : D.turn = C.turn := t1
  have t2 : D.deep = C.deep := t2
  have t3 : D.seen = C.seen := t3
  have t4 : D.f = [] := t4
  have t5 : D.r = [] := t5
  have hf' := hd'.few
  have hf' : D.seen ≤ 100000 := hf'
  exact ⟨by show i64ok (D.turn + 1); unfold i64ok; omega, ({ D with turn := D.turn + 1 }, φ''), [], [0, 1, 2, 3, 4, 5, 6, 7, 8, 9, 18, 19, 20, 21, 22, 23, 24, 25], ⟨⟨⟨hd'.good, hd'.tab, hd'.lm, hd'.ld, hd'.lr, hd'.mb, hd'.rb, hd'.cnt, hd'.few, ⟨by show 0 ≤ D.turn + 1; omega, by show D.turn + 1 ≤ 1000000; omega⟩⟩, t4, t5, by show D.deep = 0; omega, by show D.turn + 1 = D.seen; omega⟩, by show D.seen = B.seen; omega, st1.trans st2⟩, by (repeat' first | exact trivial | exact rfl | apply And.intro)⟩
end Go.Proofs.YtndlpbheifalhaaGreatDoor.T
