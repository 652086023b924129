/- The law PathSplits, over any input. -/
import Derived.Test.YtnnpjkpmankeiaaDoorSb
import Derived.Test.YtnnpjkpmankeiaaDoorBh
namespace Go.Proofs.YtnnpjkpmankeiaaDoor.T
open Go.Proofs.YtnnpjkpmankeiaaDoor.E
open Go.Proofs.YtnnpjkpmankeiaaDoor.MStr
set_option maxRecDepth 100000
set_option linter.unusedVariables false
def ct_law (s : ByteArray) (n : Int) (φ : Bag KK) : Ct KK := { need := i64ok n ∧ HasTab φ, pre := [.bag φ], args := [.c (.str s), i64 n], Y := Bag KK, ok := fun ψ => HasTab ψ, ret := fun _ => boolv true, post := fun ψ => [.bag ψ] }
/-- The law's book: the bag is at name 0 here; the book and its lists, then what is wanted. -/
def lawH (s : ByteArray) (n : Int) (B : BS) (φ : Bag KK) : VH KK := [.bag φ, .cells 41 (bookC false false B.turn B.deep [.slc 2 0 B.o.length none, .slc 3 0 B.t.length none, .slc 4 0 B.w.length none, .slc 5 0 B.n.length none, .slc 6 0 B.f.length none, .slc 7 0 B.m.length none, .slc 8 0 B.d.length none, .slc 9 0 B.r.length none, .int .i64 B.seen]), .arr .rstr B.o, .arr .rstr B.t, .arr .rstr B.w, .arr .rstr B.n, .arr .rstr B.f, .arr .int B.m, .arr .int B.d, .arr .int B.r, .arr .str (splitB s n).1]
def inv_law (s : ByteArray) (n : Int) : Inv KK := { X := Nat × BS × Bag KK, fr := fun z => [.c (.str s), i64 n, .any, .any, .any, .c (.ptr 1 0 0), .c (.slc 10 0 (splitB s n).1.length none), i64 (splitB s n).2, i64 z.1] ++ anys 40, H := fun z => lawH s n z.2.1 z.2.2, ok := fun z => z.1 ≤ 3 ∧ RestOk z.2.2 z.2.1 ∧ z.2.1.seen = z.1, meas := fun z => 3 - z.1 }
def ann_law (s : ByteArray) (n : Int) : Ann KK := { loop := fun _ _ _ => some (inv_law s n), cut := fun _ _ _ => none, keep := some 9, frz := fun | 11 => [(9, 9)] | _ => [] }
/-- The book that stands at a name, and the names of its lists. -/
def getAt (q : Nat) (H : VH KK) : Option (BS × List Nat) := match at_ H q with
  | .cells _ (_ :: _ :: .int _ turn :: .int _ deep :: cs) => match cs.drop 18 with
    | .slc a _ _ _ :: .slc b _ _ _ :: .slc c _ _ _ :: .slc d _ _ _ :: .slc e _ _ _ :: .slc f _ _ _ :: .slc g _ _ _ :: .slc h _ _ _ :: .int _ seen :: _ =>
      match at_ H a, at_ H b, at_ H c, at_ H d, at_ H e, at_ H f, at_ H g, at_ H h with
      | .arr .rstr o, .arr .rstr t, .arr .rstr w, .arr .rstr n, .arr .rstr fr, .arr .int m, .arr .int du, .arr .int r => some (⟨turn, deep, o, t, w, n, fr, m, du, r, seen⟩, [q, a, b, c, d, e, f, g, h])
      | _, _, _, _, _, _, _, _ => none
    | _ => none
  | _ => none
def tabL : Tab Tryd.prog KK := ⟨mixed, fun f args H => match f, args with
  | 5, [.one (.c (.str s)), .one (.c (.int _ n))] => some (ct_split s n, [], [])
  | 4, [.one (.c (.str s)), .one (.c (.int _ n))] => some (ct_rsplit s n, [], [])
  | 6, [.one (.c (.int _ n))] => some (ct_num n, [], [])
  | 7, [.one (.c (.slc a _ _ _)), .one (.c (.slc b _ _ _))] => match at_ H a with
    | .arr .str l => some (ct_eqT l, [], [a, b])
    | _ => none
  | 8, [.one (.c (.ptr q _ _)), .one (.c (.rs _ _ l)), .one (.c (.int _ mark))] => match getAt q H, at_ H 0 with
    | some (B, τ), .bag φ => some (ct_bTexts l mark B φ, [], τ ++ [0])
    | _, _ => none
  | 9, [.one (.c (.ptr q _ _))] => match getAt q H, at_ H 0 with
    | some (B, τ), .bag φ => some (ct_bHold B φ, [], τ ++ [0])
    | _, _ => none
  | _, _ => none, fun f args H ct ks τ h => by
    split at h
    · cases h; exact split_ok _ _
    · cases h; exact rsplit_ok _ _
    · cases h; exact num_ok _
    · split at h
      · cases h; exact eqT_ok _
      · cases h
    · split at h
      · cases h; exact bTexts_ok _ _ _ _
      · cases h
    · split at h
      · cases h; exact bHold_ok _ _
      · cases h
    · cases h⟩
theorem vc_law (s : ByteArray) (n : Int) (φ : Bag KK) : evFn tabL (ann_law s n) Tryd.f3 (ct_law s n φ) = ( ite2 (decide ((20000 : Int) < (↑s.size : Int))) (EndsAs 1 (ct_law s n φ) (boolv true) [Atom.bag φ]) ((s.size ≤ 1000000 ∧ i64ok n) ∧ Into (K := KK) 0 [] [] [VV.one (V1.c (C.str s)), i64 n] [Atom.bag φ,
 Atom.cells 41 (bookC false false (0 : Int) (0 : Int) [C.nils, C.nils, C.nils, C.nils, C.nils, C.nils, C.nils, C.nils, C.int .i64 (0 : Int)])] [VV.one (V1.c (C.str s)), i64 n] [] ∧ ∀ (y : Unit), True →
 Enter 1 (inv_law s n) (fun (x : Nat × BS × Bag KK) => True) ([VV.one (V1.c (C.str s)), i64 n, VV.any, VV.any, boolv false, VV.one (V1.c (C.ptr 1 0 0)), VV.one (V1.c (C.slc 2 0 (splitB s n).fst.length none)),
 i64 (splitB s n).snd, i64 (0 : Int)] ++ anys 40) [Atom.bag φ, Atom.cells 41 (bookC false false (0 : Int) (0 : Int) [C.nils, C.nils, C.nils, C.nils, C.nils, C.nils, C.nils, C.nils, C.int .i64 (0 : Int)]),
 Atom.arr Kd.str (splitB s n).fst] ∧ ∀ (z : Nat × BS × Bag KK), z.fst ≤ 3 ∧ RestOk z.snd.snd z.snd.fst ∧ z.snd.fst.seen = (↑z.fst : Int) → ite2 (decide ((↑z.fst : Int) < (3 : Int))) ((s.size ≤ 1000000 ∧
 i64ok n) ∧ Into (K := KK) 0 [] [] [VV.one (V1.c (C.str s)), i64 n] [Atom.bag z.snd.snd, Atom.cells 41 (bookC false false z.snd.fst.turn z.snd.fst.deep [C.slc 2 0 z.snd.fst.o.length none, C.slc 3 0 z.snd.fst.t.length
 none, C.slc 4 0 z.snd.fst.w.length none, C.slc 5 0 z.snd.fst.n.length none, C.slc 6 0 z.snd.fst.f.length none, C.slc 7 0 z.snd.fst.m.length none, C.slc 8 0 z.snd.fst.d.length none, C.slc 9 0 z.snd.fst.r.length
 none, C.int .i64 z.snd.fst.seen]), Atom.arr Kd.rstr z.snd.fst.o, Atom.arr Kd.rstr z.snd.fst.t, Atom.arr Kd.rstr z.snd.fst.w, Atom.arr Kd.rstr z.snd.fst.n, Atom.arr Kd.rstr z.snd.fst.f, Atom.arr Kd.int
 z.snd.fst.m, Atom.arr Kd.int z.snd.fst.d, Atom.arr Kd.int z.snd.fst.r, Atom.arr Kd.str (splitB s n).fst] [VV.one (V1.c (C.str s)), i64 n] [] ∧ ∀ (y : Unit), True → i64ok (splitB s n).snd ∧ Into (K := KK)
 0 [] [] [i64 (splitB s n).snd] [Atom.bag z.snd.snd, Atom.cells 41 (bookC false false z.snd.fst.turn z.snd.fst.deep [C.slc 2 0 z.snd.fst.o.length none, C.slc 3 0 z.snd.fst.t.length none, C.slc 4 0 z.snd.fst.w.length
 none, C.slc 5 0 z.snd.fst.n.length none, C.slc 6 0 z.snd.fst.f.length none, C.slc 7 0 z.snd.fst.m.length none, C.slc 8 0 z.snd.fst.d.length none, C.slc 9 0 z.snd.fst.r.length none, C.int .i64 z.snd.fst.seen]),
 Atom.arr Kd.rstr z.snd.fst.o, Atom.arr Kd.rstr z.snd.fst.t, Atom.arr Kd.rstr z.snd.fst.w, Atom.arr Kd.rstr z.snd.fst.n, Atom.arr Kd.rstr z.snd.fst.f, Atom.arr Kd.int z.snd.fst.m, Atom.arr Kd.int z.snd.fst.d,
 Atom.arr Kd.int z.snd.fst.r, Atom.arr Kd.str (splitB s n).fst, Atom.arr Kd.str (splitB s n).fst] [i64 (splitB s n).snd] [] ∧ ∀ (y : Unit), True → ite2 (decide ((splitB s n).snd = (splitB s n).snd)) ((splitB
 s n).fst.length ≤ 1000000000 ∧ Into (K := KK) 0 [] [11, 10] [VV.one (V1.c (C.slc 11 0 (splitB s n).fst.length none)), VV.one (V1.c (C.slc 10 0 (splitB s n).fst.length none))] [Atom.bag z.snd.snd, Atom.cells
 41 (bookC false false z.snd.fst.turn z.snd.fst.deep [C.slc 2 0 z.snd.fst.o.length none, C.slc 3 0 z.snd.fst.t.length none, C.slc 4 0 z.snd.fst.w.length none, C.slc 5 0 z.snd.fst.n.length none, C.slc 6
 0 z.snd.fst.f.length none, C.slc 7 0 z.snd.fst.m.length none, C.slc 8 0 z.snd.fst.d.length none, C.slc 9 0 z.snd.fst.r.length none, C.int .i64 z.snd.fst.seen]), Atom.arr Kd.rstr z.snd.fst.o, Atom.arr Kd.rstr
 z.snd.fst.t, Atom.arr Kd.rstr z.snd.fst.w, Atom.arr Kd.rstr z.snd.fst.n, Atom.arr Kd.rstr z.snd.fst.f, Atom.arr Kd.int z.snd.fst.m, Atom.arr Kd.int z.snd.fst.d, Atom.arr Kd.int z.snd.fst.r, Atom.arr Kd.str
 (splitB s n).fst, Atom.arr Kd.str (splitB s n).fst] [VV.one (V1.c (C.slc 0 0 (splitB s n).fst.length none)), VV.one (V1.c (C.slc 1 0 (splitB s n).fst.length none))] [Atom.ro Kd.str (splitB s n).fst, Atom.ro
 Kd.str (splitB s n).fst] ∧ ∀ (y : Unit), True → (splitB s n).fst.length = (splitB s n).fst.length ∧ ((splitB s n).fst = [] → i64ok ((100 : Int) * (↑z.fst : Int)) ∧ (RestOk z.snd.snd (BS.mk (z.snd.fst.turn)
 (z.snd.fst.deep) (z.snd.fst.o) (z.snd.fst.t) (z.snd.fst.w) (z.snd.fst.n) (z.snd.fst.f) (z.snd.fst.m) (z.snd.fst.d) (z.snd.fst.r) (z.snd.fst.seen)) ∧ Alone z.snd.snd Kd.str 1000000 (Bk.mk (z.snd.fst.o)
 (z.snd.fst.t) (z.snd.fst.w) (z.snd.fst.n) (z.snd.fst.f)) RS.nil ∧ ((-1000000000000 : Int) ≤ (100 : Int) * (↑z.fst : Int) ∧ (100 : Int) * (↑z.fst : Int) ≤ (1000000000000 : Int)) ∧ z.snd.fst.seen < (100000
 : Int)) ∧ Into (K := KK) 0 [] [1, 2, 3, 4, 5, 6, 7, 8, 9, 0] [VV.one (V1.c (C.ptr 1 0 0)), VV.one (V1.c (C.rs 9 1 RS.nil)), i64 ((100 : Int) * (↑z.fst : Int))] [Atom.bag z.snd.snd, Atom.cells 41 (bookC
 false false z.snd.fst.turn z.snd.fst.deep [C.slc 2 0 z.snd.fst.o.length none, C.slc 3 0 z.snd.fst.t.length none, C.slc 4 0 z.snd.fst.w.length none, C.slc 5 0 z.snd.fst.n.length none, C.slc 6 0 z.snd.fst.f.length
 none, C.slc 7 0 z.snd.fst.m.length none, C.slc 8 0 z.snd.fst.d.length none, C.slc 9 0 z.snd.fst.r.length none, C.int .i64 z.snd.fst.seen]), Atom.arr Kd.rstr z.snd.fst.o, Atom.arr Kd.rstr z.snd.fst.t, Atom.arr
 Kd.rstr z.snd.fst.w, Atom.arr Kd.rstr z.snd.fst.n, Atom.arr Kd.rstr z.snd.fst.f, Atom.arr Kd.int z.snd.fst.m, Atom.arr Kd.int z.snd.fst.d, Atom.arr Kd.int z.snd.fst.r, Atom.arr Kd.str (splitB s n).fst,
 Atom.gone] [VV.one (V1.c (C.ptr 0 0 0)), VV.one (V1.c (C.rs 9 1 RS.nil)), i64 ((100 : Int) * (↑z.fst : Int))] [Atom.cells 41 (bookC false false z.snd.fst.turn z.snd.fst.deep [C.slc 1 0 z.snd.fst.o.length
 none, C.slc 2 0 z.snd.fst.t.length none, C.slc 3 0 z.snd.fst.w.length none, C.slc 4 0 z.snd.fst.n.length none, C.slc 5 0 z.snd.fst.f.length none, C.slc 6 0 z.snd.fst.m.length none, C.slc 7 0 z.snd.fst.d.length
 none, C.slc 8 0 z.snd.fst.r.length none, C.int .i64 z.snd.fst.seen]), Atom.arr Kd.rstr z.snd.fst.o, Atom.arr Kd.rstr z.snd.fst.t, Atom.arr Kd.rstr z.snd.fst.w, Atom.arr Kd.rstr z.snd.fst.n, Atom.arr Kd.rstr
 z.snd.fst.f, Atom.arr Kd.int z.snd.fst.m, Atom.arr Kd.int z.snd.fst.d, Atom.arr Kd.int z.snd.fst.r, Atom.bag z.snd.snd] ∧ ∀ (y : BS × Bag KK), RestOk y.snd y.fst ∧ y.fst.seen = z.snd.fst.seen + (1 : Int)
 → i64ok ((↑z.fst : Int) + (1 : Int)) ∧ Enter 1 (inv_law s n) (fun (z' : Nat × BS × Bag KK) => 3 - z'.fst < 3 - z.fst) ([VV.one (V1.c (C.str s)), i64 n, VV.any, VV.any, VV.any, VV.one (V1.c (C.ptr 1 0 0)),
 VV.one (V1.c (C.slc 10 0 (splitB s n).fst.length none)), i64 (splitB s n).snd, i64 ((↑z.fst : Int) + (1 : Int))] ++ anys 40) [Atom.bag y.snd, Atom.cells 41 (bookC false false y.fst.turn y.fst.deep [C.slc
 12 0 y.fst.o.length none, C.slc 13 0 y.fst.t.length none, C.slc 14 0 y.fst.w.length none, C.slc 15 0 y.fst.n.length none, C.slc 16 0 y.fst.f.length none, C.slc 17 0 y.fst.m.length none, C.slc 18 0 y.fst.d.length
 none, C.slc 19 0 y.fst.r.length none, C.int .i64 y.fst.seen]), Atom.gone, Atom.gone, Atom.gone, Atom.gone, Atom.gone, Atom.gone, Atom.gone, Atom.gone, Atom.arr Kd.str (splitB s n).fst, Atom.gone, Atom.arr
 Kd.rstr y.fst.o, Atom.arr Kd.rstr y.fst.t, Atom.arr Kd.rstr y.fst.w, Atom.arr Kd.rstr y.fst.n, Atom.arr Kd.rstr y.fst.f, Atom.arr Kd.int y.fst.m, Atom.arr Kd.int y.fst.d, Atom.arr Kd.int y.fst.r]) ∧ ∀
 (b c : Nat), z.snd.snd b = none → (splitB s n).fst.length ≤ c → i64ok ((100 : Int) * (↑z.fst : Int)) ∧ (RestOk (bput z.snd.snd b (BI.row Kd.str c (splitB s n).fst)) (BS.mk (z.snd.fst.turn) (z.snd.fst.deep)
 (z.snd.fst.o) (z.snd.fst.t) (z.snd.fst.w) (z.snd.fst.n) (z.snd.fst.f) (z.snd.fst.m) (z.snd.fst.d) (z.snd.fst.r) (z.snd.fst.seen)) ∧ Alone (bput z.snd.snd b (BI.row Kd.str c (splitB s n).fst)) Kd.str 1000000
 (Bk.mk (z.snd.fst.o) (z.snd.fst.t) (z.snd.fst.w) (z.snd.fst.n) (z.snd.fst.f)) (RS.mk b 0 (splitB s n).fst.length c) ∧ ((-1000000000000 : Int) ≤ (100 : Int) * (↑z.fst : Int) ∧ (100 : Int) * (↑z.fst : Int)
 ≤ (1000000000000 : Int)) ∧ z.snd.fst.seen < (100000 : Int)) ∧ Into (K := KK) 0 [] [1, 2, 3, 4, 5, 6, 7, 8, 9, 0] [VV.one (V1.c (C.ptr 1 0 0)), VV.one (V1.c (C.rs 9 1 (RS.mk b 0 (splitB s n).fst.length
 c))), i64 ((100 : Int) * (↑z.fst : Int))] [Atom.bag (bput z.snd.snd b (BI.row Kd.str c (splitB s n).fst)), Atom.cells 41 (bookC false false z.snd.fst.turn z.snd.fst.deep [C.slc 2 0 z.snd.fst.o.length none,
 C.slc 3 0 z.snd.fst.t.length none, C.slc 4 0 z.snd.fst.w.length none, C.slc 5 0 z.snd.fst.n.length none, C.slc 6 0 z.snd.fst.f.length none, C.slc 7 0 z.snd.fst.m.length none, C.slc 8 0 z.snd.fst.d.length
 none, C.slc 9 0 z.snd.fst.r.length none, C.int .i64 z.snd.fst.seen]), Atom.arr Kd.rstr z.snd.fst.o, Atom.arr Kd.rstr z.snd.fst.t, Atom.arr Kd.rstr z.snd.fst.w, Atom.arr Kd.rstr z.snd.fst.n, Atom.arr Kd.rstr
 z.snd.fst.f, Atom.arr Kd.int z.snd.fst.m, Atom.arr Kd.int z.snd.fst.d, Atom.arr Kd.int z.snd.fst.r, Atom.arr Kd.str (splitB s n).fst, Atom.gone] [VV.one (V1.c (C.ptr 0 0 0)), VV.one (V1.c (C.rs 9 1 (RS.mk
 b 0 (splitB s n).fst.length c))), i64 ((100 : Int) * (↑z.fst : Int))] [Atom.cells 41 (bookC false false z.snd.fst.turn z.snd.fst.deep [C.slc 1 0 z.snd.fst.o.length none, C.slc 2 0 z.snd.fst.t.length none,
 C.slc 3 0 z.snd.fst.w.length none, C.slc 4 0 z.snd.fst.n.length none, C.slc 5 0 z.snd.fst.f.length none, C.slc 6 0 z.snd.fst.m.length none, C.slc 7 0 z.snd.fst.d.length none, C.slc 8 0 z.snd.fst.r.length
 none, C.int .i64 z.snd.fst.seen]), Atom.arr Kd.rstr z.snd.fst.o, Atom.arr Kd.rstr z.snd.fst.t, Atom.arr Kd.rstr z.snd.fst.w, Atom.arr Kd.rstr z.snd.fst.n, Atom.arr Kd.rstr z.snd.fst.f, Atom.arr Kd.int
 z.snd.fst.m, Atom.arr Kd.int z.snd.fst.d, Atom.arr Kd.int z.snd.fst.r, Atom.bag (bput z.snd.snd b (BI.row Kd.str c (splitB s n).fst))] ∧ ∀ (y : BS × Bag KK), RestOk y.snd y.fst ∧ y.fst.seen = z.snd.fst.seen
 + (1 : Int) → i64ok ((↑z.fst : Int) + (1 : Int)) ∧ Enter 1 (inv_law s n) (fun (z' : Nat × BS × Bag KK) => 3 - z'.fst < 3 - z.fst) ([VV.one (V1.c (C.str s)), i64 n, VV.any, VV.any, VV.any, VV.one (V1.c
 (C.ptr 1 0 0)), VV.one (V1.c (C.slc 10 0 (splitB s n).fst.length none)), i64 (splitB s n).snd, i64 ((↑z.fst : Int) + (1 : Int))] ++ anys 40) [Atom.bag y.snd, Atom.cells 41 (bookC false false y.fst.turn
 y.fst.deep [C.slc 12 0 y.fst.o.length none, C.slc 13 0 y.fst.t.length none, C.slc 14 0 y.fst.w.length none, C.slc 15 0 y.fst.n.length none, C.slc 16 0 y.fst.f.length none, C.slc 17 0 y.fst.m.length none,
 C.slc 18 0 y.fst.d.length none, C.slc 19 0 y.fst.r.length none, C.int .i64 y.fst.seen]), Atom.gone, Atom.gone, Atom.gone, Atom.gone, Atom.gone, Atom.gone, Atom.gone, Atom.gone, Atom.arr Kd.str (splitB
 s n).fst, Atom.gone, Atom.arr Kd.rstr y.fst.o, Atom.arr Kd.rstr y.fst.t, Atom.arr Kd.rstr y.fst.w, Atom.arr Kd.rstr y.fst.n, Atom.arr Kd.rstr y.fst.f, Atom.arr Kd.int y.fst.m, Atom.arr Kd.int y.fst.d,
 Atom.arr Kd.int y.fst.r]) (EndsAs 1 (ct_law s n φ) (boolv false) [Atom.bag z.snd.snd, Atom.cells 41 (bookC false false z.snd.fst.turn z.snd.fst.deep [C.slc 2 0 z.snd.fst.o.length none, C.slc 3 0 z.snd.fst.t.length
 none, C.slc 4 0 z.snd.fst.w.length none, C.slc 5 0 z.snd.fst.n.length none, C.slc 6 0 z.snd.fst.f.length none, C.slc 7 0 z.snd.fst.m.length none, C.slc 8 0 z.snd.fst.d.length none, C.slc 9 0 z.snd.fst.r.length
 none, C.int .i64 z.snd.fst.seen]), Atom.arr Kd.rstr z.snd.fst.o, Atom.arr Kd.rstr z.snd.fst.t, Atom.arr Kd.rstr z.snd.fst.w, Atom.arr Kd.rstr z.snd.fst.n, Atom.arr Kd.rstr z.snd.fst.f, Atom.arr Kd.int
 z.snd.fst.m, Atom.arr Kd.int z.snd.fst.d, Atom.arr Kd.int z.snd.fst.r, Atom.arr Kd.str (splitB s n).fst, Atom.arr Kd.str (splitB s n).fst])) (BookOk z.snd.snd (BS.mk (z.snd.fst.turn) (z.snd.fst.deep) (z.snd.fst.o)
 (z.snd.fst.t) (z.snd.fst.w) (z.snd.fst.n) (z.snd.fst.f) (z.snd.fst.m) (z.snd.fst.d) (z.snd.fst.r) (z.snd.fst.seen)) ∧ Into (K := KK) 0 [] [1, 2, 3, 4, 5, 6, 7, 8, 9, 0] [VV.one (V1.c (C.ptr 1 0 0))] [Atom.bag
 z.snd.snd, Atom.cells 41 (bookC false false z.snd.fst.turn z.snd.fst.deep [C.slc 2 0 z.snd.fst.o.length none, C.slc 3 0 z.snd.fst.t.length none, C.slc 4 0 z.snd.fst.w.length none, C.slc 5 0 z.snd.fst.n.length
 none, C.slc 6 0 z.snd.fst.f.length none, C.slc 7 0 z.snd.fst.m.length none, C.slc 8 0 z.snd.fst.d.length none, C.slc 9 0 z.snd.fst.r.length none, C.int .i64 z.snd.fst.seen]), Atom.arr Kd.rstr z.snd.fst.o,
 Atom.arr Kd.rstr z.snd.fst.t, Atom.arr Kd.rstr z.snd.fst.w, Atom.arr Kd.rstr z.snd.fst.n, Atom.arr Kd.rstr z.snd.fst.f, Atom.arr Kd.int z.snd.fst.m, Atom.arr Kd.int z.snd.fst.d, Atom.arr Kd.int z.snd.fst.r,
 Atom.arr Kd.str (splitB s n).fst] [VV.one (V1.c (C.ptr 0 0 0))] [Atom.cells 41 (bookC false false z.snd.fst.turn z.snd.fst.deep [C.slc 1 0 z.snd.fst.o.length none, C.slc 2 0 z.snd.fst.t.length none, C.slc
 3 0 z.snd.fst.w.length none, C.slc 4 0 z.snd.fst.n.length none, C.slc 5 0 z.snd.fst.f.length none, C.slc 6 0 z.snd.fst.m.length none, C.slc 7 0 z.snd.fst.d.length none, C.slc 8 0 z.snd.fst.r.length none,
 C.int .i64 z.snd.fst.seen]), Atom.arr Kd.rstr z.snd.fst.o, Atom.arr Kd.rstr z.snd.fst.t, Atom.arr Kd.rstr z.snd.fst.w, Atom.arr Kd.rstr z.snd.fst.n, Atom.arr Kd.rstr z.snd.fst.f, Atom.arr Kd.int z.snd.fst.m,
 Atom.arr Kd.int z.snd.fst.d, Atom.arr Kd.int z.snd.fst.r, Atom.bag z.snd.snd] ∧ ∀ (y : Unit), True → EndsAs 1 (ct_law s n φ) (boolv true) [Atom.bag z.snd.snd, Atom.cells 41 (bookC false false z.snd.fst.turn
 z.snd.fst.deep [C.slc 2 0 z.snd.fst.o.length none, C.slc 3 0 z.snd.fst.t.length none, C.slc 4 0 z.snd.fst.w.length none, C.slc 5 0 z.snd.fst.n.length none, C.slc 6 0 z.snd.fst.f.length none, C.slc 7 0
 z.snd.fst.m.length none, C.slc 8 0 z.snd.fst.d.length none, C.slc 9 0 z.snd.fst.r.length none, C.int .i64 z.snd.fst.seen]), Atom.arr Kd.rstr z.snd.fst.o, Atom.arr Kd.rstr z.snd.fst.t, Atom.arr Kd.rstr
 z.snd.fst.w, Atom.arr Kd.rstr z.snd.fst.n, Atom.arr Kd.rstr z.snd.fst.f, Atom.arr Kd.int z.snd.fst.m, Atom.arr Kd.int z.snd.fst.d, Atom.arr Kd.int z.snd.fst.r, Atom.arr Kd.str (splitB s n).fst]))) := by kernel_rfl
end Go.Proofs.YtnnpjkpmankeiaaDoor.T
