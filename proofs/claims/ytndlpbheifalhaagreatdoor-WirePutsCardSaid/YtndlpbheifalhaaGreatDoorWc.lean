/- The law WirePuts, over any input. -/
import Derived.Test.YtndlpbheifalhaaGreatDoorWb
import Derived.Test.YtndlpbheifalhaaGreatDoorRd
import Derived.Test.YtndlpbheifalhaaGreatDoorBh
namespace Go.Proofs.YtndlpbheifalhaaGreatDoor.T
open Go.Proofs.YtndlpbheifalhaaGreatDoor.E
set_option maxRecDepth 100000
set_option linter.unusedVariables false
def ct_puts (l : List Int) (n : Int) (s : ByteArray) (φ : Bag KK) : Ct KK := { need := 0 ≤ n ∧ n < 18446744073709551616, pre := [.ro .u8 l, .bag φ], args := [.c (.slc 0 0 l.length none), .c (.int .u64 n), .c (.str s)], Y := Bag KK, ok := fun _ => True, ret := fun _ => boolv true, post := fun ψ => [.gone, .bag ψ] }
def putsH (l : List Int) (b c : Nat) (B : BS) (φ : Bag KK) : VH KK := [.ro .u8 l, .bag φ, .cells 40 (roomC (.slc 4 0 1 none) (.slc 5 0 1 none)), .cells 46 (bookC false false B.turn B.deep [.slc 6 0 B.o.length none, .slc 7 0 B.t.length none, .slc 8 0 B.w.length none, .slc 9 0 B.n.length none, .slc 10 0 B.f.length none, .slc 11 0 B.m.length none, .slc 12 0 B.d.length none, .slc 13 0 B.r.length none, .int .i64 B.seen]), .arr .ru8 [RS.mk b 0 (far l) c], .arr .int [(l.length : Int)], .arr .ru8 B.o, .arr .ru8 B.t, .arr .ru8 B.w, .arr .ru8 B.n, .arr .ru8 B.f, .arr .int B.m, .arr .int B.d, .arr .int B.r]
def putsFr (l : List Int) (n : Int) (s : ByteArray) (b : Nat) : List VV := [.c (.slc 0 0 l.length none), .c (.int .u64 n), .c (.str s), .any, .any, .any, .any, .c (.ptr 2 0 0), .c (.ptr 3 0 0), .c (.rs 5 1 (.mk b 0 l.length (far l)))]
/-- A list of which the first places are written on. -/
def bump (l : List Int) (i : Nat) : List Int := (l.take i).map (fun x => IntKind.wrap .u8 (x + 1)) ++ l.drop i
/-- What the room lent stands in the bag, beside the book. -/
def Lent (l : List Int) (i b c : Nat) (B : BS) (φ : Bag KK) : Prop := φ b = some (.row Kd.u8 c (bump l i ++ lots 600)) ∧ far l ≤ c ∧ B.bk.Free b
def inv_puts1 (l : List Int) (n : Int) (s : ByteArray) : Inv KK := { X := Nat × BS × Bag KK × Nat × Nat, fr := fun z => putsFr l n s z.2.2.2.1 ++ (i64 z.1 :: anys 106), H := fun z => putsH l z.2.2.2.1 z.2.2.2.2 z.2.1 z.2.2.1, ok := fun z => z.1 ≤ 3 ∧ RestOk z.2.2.1 z.2.1 ∧ z.2.1.seen = 2 * z.1 ∧ Lent l 0 z.2.2.2.1 z.2.2.2.2 z.2.1 z.2.2.1, meas := fun z => 3 - z.1 }
def inv_puts2 (l : List Int) (n : Int) (s : ByteArray) (B : BS) (b c : Nat) : Inv KK := { X := Nat × Bag KK, fr := fun z => putsFr l n s b ++ ([.any, .any, .any, i64 z.1] ++ anys 103), H := fun z => putsH l b c B z.2, ok := fun z => z.1 ≤ l.length ∧ RestOk z.2 B ∧ Lent l z.1 b c B z.2, meas := fun z => l.length - z.1 }
/-- The book that stands at a name, and the names of its lists. -/
def getAt (q : Nat) (H : VH KK) : Option (BS × List Nat) := match at_ H q with
  | .cells _ (_ :: _ :: .int _ turn :: .int _ deep :: cs) => match cs.drop 0 with
    | .slc a _ _ _ :: .slc b _ _ _ :: .slc c _ _ _ :: .slc d _ _ _ :: .slc e _ _ _ :: .slc f _ _ _ :: .slc g _ _ _ :: .slc h _ _ _ :: .int _ seen :: _ =>
      match at_ H a, at_ H b, at_ H c, at_ H d, at_ H e, at_ H f, at_ H g, at_ H h with
      | .arr .ru8 o, .arr .ru8 t, .arr .ru8 w, .arr .ru8 n, .arr .ru8 fr, .arr .int m, .arr .int du, .arr .int r => some (⟨turn, deep, o, t, w, n, fr, m, du, r, seen⟩, [q, a, b, c, d, e, f, g, h])
      | _, _, _, _, _, _, _, _ => none
    | _ => none
  | _ => none
def getRoom (q : Nat) (H : VH KK) : Option (List RS × List Int × List Nat) := match at_ H q with
  | .cells _ (.slc a _ _ _ :: .slc b _ _ _ :: _) => match at_ H a, at_ H b with
    | .arr .ru8 ts, .arr .int ps => some (ts, ps, [q, a, b])
    | _, _ => none
  | _ => none
def u8at (H : VH KK) (n : Nat) : Option (List Int) := match at_ H n with
  | .ro .u8 l => some l
  | .arr .u8 l => some l
  | _ => none
def loop_puts (l : List Int) (n : Int) (s : ByteArray) (id : Nat) (H : VH KK) : Option (Inv KK) := match id with
  | 7 => some (inv_puts1 l n s)
  | _ => match getAt 3 H, at_ H 4 with
    | some (B, _), .arr .ru8 [.mk b _ _ c] => some (inv_puts2 l n s B b c)
    | _, _ => none
def ann_puts (l : List Int) (n : Int) (s : ByteArray) : Ann KK := { loop := fun id _ H => loop_puts l n s id H, cut := fun _ _ _ => none, keep := some 14, frz := fun | 12 => [(11, 5)] | 13 => [(12, 5)] | _ => [] }
def tabP : Tab Tryz.prog KK := ⟨mixed, fun f args H => match at_ H 1 with
  | .bag φ => match f, args with
    | 6, [.one (.c (.ptr n _ _)), .one (.c (.slc m _ _ _))] => match u8at H m with
      | some l => some (ct_rBytes l [] [] φ, [.ru8, .int], [n, H.length, H.length + 1, m, 1])
      | none => none
    | 7, [.one (.c (.rs _ _ x)), .one (.c (.int _ n))] => some (ct_putU x n φ, [], [1])
    | 8, [.one (.c (.rs _ _ x)), .one (.c (.str s))] => some (ct_putT x s φ, [], [1])
    | 8, [.one (.c .nils), .one (.c (.str s))] => some (ct_putT .nil s φ, [], [1])
    | 11, [.one (.c (.int _ n))] => some (ct_num n, [], [])
    | 12, [.one (.c (.str s))] => some (ct_words s, [], [])
    | 10, [.one (.c (.slc a _ _ _)), .one (.c (.slc b _ _ _))] => match u8at H a, u8at H b with
      | some x, some y => some (ct_behind x y, [], [a, b])
      | _, _ => none
    | 10, [.one (.c (.rs _ _ x)), .one (.c .nils)] => some (ct_behindR x φ, [], [1])
    | 9, [.one (.c (.slc a _ _ _)), .one (.c (.slc b _ _ _))] => match u8at H a, u8at H b with
      | some x, some y => some (ct_same x y, [], [a, b])
      | _, _ => none
    | 9, [.one (.c (.rs _ _ x)), .one (.c (.slc b _ _ _))] => match u8at H b with
      | some y => some (ct_sameR x y φ, [], [1, b])
      | none => none
    | 13, [.one (.c (.ptr q _ _))] => match getRoom q H with
      | some (ts, ps, τ) => some (ct_rHold ts ps φ, [], τ ++ [1])
      | none => none
    | 14, [.one (.c (.ptr q _ _)), .one (.c (.rs _ _ l)), .one (.c (.int _ mark))] => match getAt q H with
      | some (B, τ) => some (ct_bBytes l mark B φ, [], τ ++ [1])
      | none => none
    | 15, [.one (.c (.ptr q _ _))] => match getAt q H with
      | some (B, τ) => some (ct_bHold B φ, [], τ ++ [1])
      | none => none
    | _, _ => none
  | _ => none, fun f args H ct ks τ h => by
    split at h
    · split at h
      · split at h
        · cases h; exact rBytes_ok _ _ _ _
        · cases h
      · cases h; exact putU_ok _ _ _
      · cases h; exact putT_ok _ _ _
      · cases h; exact putT_ok _ _ _
      · cases h; exact num_ok _
      · cases h; exact words_ok _
      · split at h
        · cases h; exact behind_ok _ _
        · cases h
      · cases h; exact behindR_ok _ _
      · split at h
        · cases h; exact same_ok _ _
        · cases h
      · split at h
        · cases h; exact sameR_ok _ _ _
        · cases h
      · split at h
        · cases h; exact rHold_ok _ _ _
        · cases h
      · split at h
        · cases h; exact bBytes_ok _ _ _ _
        · cases h
      · split at h
        · cases h; exact bHold_ok _ _
        · cases h
      · cases h
    · cases h⟩
theorem vc_puts (l : List Int) (n : Int) (s : ByteArray) (φ : Bag KK) : evFn tabP (ann_puts l n s) Tryz.f3 (ct_puts l n s φ) = ( ite2 (decide ((65536 : Int) < (↑l.length : Int))) (EndsAs 2 (ct_puts l n s φ) (boolv true) [Atom.ro Kd.u8 l, Atom.bag φ]) (ite2 (decide ((65536 : Int) < (↑s.size : Int))) (EndsAs 2 (ct_puts l n s φ) (boolv
 true) [Atom.ro Kd.u8 l, Atom.bag φ]) ((l.length ≤ 1000000 ∧ 0 ≤ 1000 ∧ 0 ≤ 1000) ∧ Into (K := KK) 0 [Kd.ru8, Kd.int] [2, 3 + 1, 3 + 1 + 1, 0, 1] [VV.one (V1.c (C.ptr 2 0 0)), VV.one (V1.c (C.slc 0 0 l.length
 none))] [Atom.ro Kd.u8 l, Atom.bag φ, Atom.cells 40 [C.nils, C.nils, C.nils, C.nils, C.nils, C.nils, C.nils, C.nils, C.nils, C.nils, C.nils, C.nils, C.nils, C.nils, C.nils, C.nils, C.nils, C.nils, C.nils,
 C.nils, C.nils, C.nils, C.nils, C.nils, C.nils, C.nils], Atom.cells 46 (bookC false false (0 : Int) (0 : Int) [C.nils, C.nils, C.nils, C.nils, C.nils, C.nils, C.nils, C.nils, C.int .i64 (0 : Int)])] [VV.one
 (V1.c (C.ptr 0 0 0)), VV.one (V1.c (C.slc 3 0 l.length none))] [Atom.cells 40 [C.slc 1 0 0 none, C.slc 2 0 0 none, C.nils, C.nils, C.nils, C.nils, C.nils, C.nils, C.nils, C.nils, C.nils, C.nils, C.nils,
 C.nils, C.nils, C.nils, C.nils, C.nils, C.nils, C.nils, C.nils, C.nils, C.nils, C.nils, C.nils, C.nils], Atom.arr Kd.ru8 [], Atom.arr Kd.int [], Atom.ro Kd.u8 l, Atom.bag φ] ∧ ∀ (y : Nat × Nat), φ y.fst
 = none ∧ far l ≤ y.snd → Enter 2 (inv_puts1 l n s) (fun (x : Nat × BS × Bag KK × Nat × Nat) => True) ([VV.one (V1.c (C.slc 0 0 l.length none)), VV.one (V1.c (C.int .u64 n)), VV.one (V1.c (C.str s)), VV.any,
 VV.any, VV.any, boolv false, VV.one (V1.c (C.ptr 2 0 0)), VV.one (V1.c (C.ptr 3 0 0)), VV.one (V1.c (C.rs 5 1 (RS.mk y.fst 0 l.length (far l)))), i64 (0 : Int)] ++ anys 106) [Atom.ro Kd.u8 l, Atom.bag
 (bput φ y.fst (BI.row Kd.u8 y.snd (l ++ lots 600))), Atom.cells 40 [C.slc 6 0 1 none, C.slc 7 0 1 none, C.nils, C.nils, C.nils, C.nils, C.nils, C.nils, C.nils, C.nils, C.nils, C.nils, C.nils, C.nils, C.nils,
 C.nils, C.nils, C.nils, C.nils, C.nils, C.nils, C.nils, C.nils, C.nils, C.nils, C.nils], Atom.cells 46 (bookC false false (0 : Int) (0 : Int) [C.nils, C.nils, C.nils, C.nils, C.nils, C.nils, C.nils, C.nils,
 C.int .i64 (0 : Int)]), Atom.gone, Atom.gone, Atom.arr Kd.ru8 [RS.mk y.fst 0 (far l) y.snd], Atom.arr Kd.int [(↑l.length : Int)]] ∧ ∀ (z : Nat × BS × Bag KK × Nat × Nat), z.fst ≤ 3 ∧ RestOk z.snd.snd.fst
 z.snd.fst ∧ z.snd.fst.seen = (2 : Int) * (↑z.fst : Int) ∧ Lent l 0 z.snd.snd.snd.fst z.snd.snd.snd.snd z.snd.fst z.snd.snd.fst → ite2 (decide ((↑z.fst : Int) < (3 : Int))) ((Has z.snd.snd.fst (RS.mk z.snd.snd.snd.fst
 0 l.length (far l)) ∧ (0 : Int) ≤ n ∧ n < (18446744073709551616 : Int)) ∧ Into (K := KK) 0 [] [1] [VV.one (V1.c (C.rs 5 1 (RS.mk z.snd.snd.snd.fst 0 l.length (far l)))), VV.one (V1.c (C.int .u64 n))] [Atom.ro
 Kd.u8 l, Atom.bag z.snd.snd.fst, Atom.cells 40 [C.slc 4 0 1 none, C.slc 5 0 1 none, C.nils, C.nils, C.nils, C.nils, C.nils, C.nils, C.nils, C.nils, C.nils, C.nils, C.nils, C.nils, C.nils, C.nils, C.nils,
 C.nils, C.nils, C.nils, C.nils, C.nils, C.nils, C.nils, C.nils, C.nils], Atom.cells 46 (bookC false false z.snd.fst.turn z.snd.fst.deep [C.slc 6 0 z.snd.fst.o.length none, C.slc 7 0 z.snd.fst.t.length
 none, C.slc 8 0 z.snd.fst.w.length none, C.slc 9 0 z.snd.fst.n.length none, C.slc 10 0 z.snd.fst.f.length none, C.slc 11 0 z.snd.fst.m.length none, C.slc 12 0 z.snd.fst.d.length none, C.slc 13 0 z.snd.fst.r.length
 none, C.int .i64 z.snd.fst.seen]), Atom.arr Kd.ru8 [RS.mk z.snd.snd.snd.fst 0 (far l) z.snd.snd.snd.snd], Atom.arr Kd.int [(↑l.length : Int)], Atom.arr Kd.ru8 z.snd.fst.o, Atom.arr Kd.ru8 z.snd.fst.t,
 Atom.arr Kd.ru8 z.snd.fst.w, Atom.arr Kd.ru8 z.snd.fst.n, Atom.arr Kd.ru8 z.snd.fst.f, Atom.arr Kd.int z.snd.fst.m, Atom.arr Kd.int z.snd.fst.d, Atom.arr Kd.int z.snd.fst.r] [VV.one (V1.c (C.rs 5 1 (RS.mk
 z.snd.snd.snd.fst 0 l.length (far l)))), VV.one (V1.c (C.int .u64 n))] [Atom.bag z.snd.snd.fst] ∧ ∀ (y : Unit), True → (Has z.snd.snd.fst (RS.mk z.snd.snd.snd.fst 0 l.length (far l)) ∧ s.size ≤ 1000000)
 ∧ Into (K := KK) 0 [] [1] [VV.one (V1.c (C.rs 5 1 (RS.mk z.snd.snd.snd.fst 0 l.length (far l)))), VV.one (V1.c (C.str s))] [Atom.ro Kd.u8 l, Atom.bag z.snd.snd.fst, Atom.cells 40 [C.slc 4 0 1 none, C.slc
 5 0 1 none, C.nils, C.nils, C.nils, C.nils, C.nils, C.nils, C.nils, C.nils, C.nils, C.nils, C.nils, C.nils, C.nils, C.nils, C.nils, C.nils, C.nils, C.nils, C.nils, C.nils, C.nils, C.nils, C.nils, C.nils],
 Atom.cells 46 (bookC false false z.snd.fst.turn z.snd.fst.deep [C.slc 6 0 z.snd.fst.o.length none, C.slc 7 0 z.snd.fst.t.length none, C.slc 8 0 z.snd.fst.w.length none, C.slc 9 0 z.snd.fst.n.length none,
 C.slc 10 0 z.snd.fst.f.length none, C.slc 11 0 z.snd.fst.m.length none, C.slc 12 0 z.snd.fst.d.length none, C.slc 13 0 z.snd.fst.r.length none, C.int .i64 z.snd.fst.seen]), Atom.arr Kd.ru8 [RS.mk z.snd.snd.snd.fst
 0 (far l) z.snd.snd.snd.snd], Atom.arr Kd.int [(↑l.length : Int)], Atom.arr Kd.ru8 z.snd.fst.o, Atom.arr Kd.ru8 z.snd.fst.t, Atom.arr Kd.ru8 z.snd.fst.w, Atom.arr Kd.ru8 z.snd.fst.n, Atom.arr Kd.ru8 z.snd.fst.f,
 Atom.arr Kd.int z.snd.fst.m, Atom.arr Kd.int z.snd.fst.d, Atom.arr Kd.int z.snd.fst.r, Atom.arr Kd.u8 (cont z.snd.snd.fst (RS.mk z.snd.snd.snd.fst 0 l.length (far l)) ++ numF 9 n)] [VV.one (V1.c (C.rs
 5 1 (RS.mk z.snd.snd.snd.fst 0 l.length (far l)))), VV.one (V1.c (C.str s))] [Atom.bag z.snd.snd.fst] ∧ ∀ (y : Unit), True → ((0 : Int) ≤ n ∧ n < (18446744073709551616 : Int)) ∧ Into (K := KK) 0 [] []
 [VV.one (V1.c (C.int .u64 n))] [Atom.ro Kd.u8 l, Atom.bag z.snd.snd.fst, Atom.cells 40 [C.slc 4 0 1 none, C.slc 5 0 1 none, C.nils, C.nils, C.nils, C.nils, C.nils, C.nils, C.nils, C.nils, C.nils, C.nils,
 C.nils, C.nils, C.nils, C.nils, C.nils, C.nils, C.nils, C.nils, C.nils, C.nils, C.nils, C.nils, C.nils, C.nils], Atom.cells 46 (bookC false false z.snd.fst.turn z.snd.fst.deep [C.slc 6 0 z.snd.fst.o.length
 none, C.slc 7 0 z.snd.fst.t.length none, C.slc 8 0 z.snd.fst.w.length none, C.slc 9 0 z.snd.fst.n.length none, C.slc 10 0 z.snd.fst.f.length none, C.slc 11 0 z.snd.fst.m.length none, C.slc 12 0 z.snd.fst.d.length
 none, C.slc 13 0 z.snd.fst.r.length none, C.int .i64 z.snd.fst.seen]), Atom.arr Kd.ru8 [RS.mk z.snd.snd.snd.fst 0 (far l) z.snd.snd.snd.snd], Atom.arr Kd.int [(↑l.length : Int)], Atom.arr Kd.ru8 z.snd.fst.o,
 Atom.arr Kd.ru8 z.snd.fst.t, Atom.arr Kd.ru8 z.snd.fst.w, Atom.arr Kd.ru8 z.snd.fst.n, Atom.arr Kd.ru8 z.snd.fst.f, Atom.arr Kd.int z.snd.fst.m, Atom.arr Kd.int z.snd.fst.d, Atom.arr Kd.int z.snd.fst.r,
 Atom.arr Kd.u8 (cont z.snd.snd.fst (RS.mk z.snd.snd.snd.fst 0 l.length (far l)) ++ numF 9 n), Atom.arr Kd.u8 (cont z.snd.snd.fst (RS.mk z.snd.snd.snd.fst 0 l.length (far l)) ++ wordsF s)] [VV.one (V1.c
 (C.int .u64 n))] [] ∧ ∀ (y : Unit), True → (l.length ≤ 2000000 ∧ (numF 9 n).length ≤ 2000000) ∧ Into (K := KK) 0 [] [0, 16] [VV.one (V1.c (C.slc 0 0 l.length none)), VV.one (V1.c (C.slc 16 0 (numF 9 n).length
 none))] [Atom.ro Kd.u8 l, Atom.bag z.snd.snd.fst, Atom.cells 40 [C.slc 4 0 1 none, C.slc 5 0 1 none, C.nils, C.nils, C.nils, C.nils, C.nils, C.nils, C.nils, C.nils, C.nils, C.nils, C.nils, C.nils, C.nils,
 C.nils, C.nils, C.nils, C.nils, C.nils, C.nils, C.nils, C.nils, C.nils, C.nils, C.nils], Atom.cells 46 (bookC false false z.snd.fst.turn z.snd.fst.deep [C.slc 6 0 z.snd.fst.o.length none, C.slc 7 0 z.snd.fst.t.length
 none, C.slc 8 0 z.snd.fst.w.length none, C.slc 9 0 z.snd.fst.n.length none, C.slc 10 0 z.snd.fst.f.length none, C.slc 11 0 z.snd.fst.m.length none, C.slc 12 0 z.snd.fst.d.length none, C.slc 13 0 z.snd.fst.r.length
 none, C.int .i64 z.snd.fst.seen]), Atom.arr Kd.ru8 [RS.mk z.snd.snd.snd.fst 0 (far l) z.snd.snd.snd.snd], Atom.arr Kd.int [(↑l.length : Int)], Atom.arr Kd.ru8 z.snd.fst.o, Atom.arr Kd.ru8 z.snd.fst.t,
 Atom.arr Kd.ru8 z.snd.fst.w, Atom.arr Kd.ru8 z.snd.fst.n, Atom.arr Kd.ru8 z.snd.fst.f, Atom.arr Kd.int z.snd.fst.m, Atom.arr Kd.int z.snd.fst.d, Atom.arr Kd.int z.snd.fst.r, Atom.arr Kd.u8 (cont z.snd.snd.fst
 (RS.mk z.snd.snd.snd.fst 0 l.length (far l)) ++ numF 9 n), Atom.arr Kd.u8 (cont z.snd.snd.fst (RS.mk z.snd.snd.snd.fst 0 l.length (far l)) ++ wordsF s), Atom.arr Kd.u8 (numF 9 n)] [VV.one (V1.c (C.slc
 0 0 l.length none)), VV.one (V1.c (C.slc 1 0 (numF 9 n).length none))] [Atom.ro Kd.u8 l, Atom.ro Kd.u8 (numF 9 n)] ∧ ∀ (y : Unit), True → ((cont z.snd.snd.fst (RS.mk z.snd.snd.snd.fst 0 l.length (far l))
 ++ numF 9 n).length ≤ 2000000 ∧ (l ++ numF 9 n).length ≤ 2000000) ∧ Into (K := KK) 0 [] [14, 17] [VV.one (V1.c (C.slc 14 0 (cont z.snd.snd.fst (RS.mk z.snd.snd.snd.fst 0 l.length (far l)) ++ numF 9 n).length
 none)), VV.one (V1.c (C.slc 17 0 (l ++ numF 9 n).length none))] [Atom.ro Kd.u8 l, Atom.bag z.snd.snd.fst, Atom.cells 40 [C.slc 4 0 1 none, C.slc 5 0 1 none, C.nils, C.nils, C.nils, C.nils, C.nils, C.nils,
 C.nils, C.nils, C.nils, C.nils, C.nils, C.nils, C.nils, C.nils, C.nils, C.nils, C.nils, C.nils, C.nils, C.nils, C.nils, C.nils, C.nils, C.nils], Atom.cells 46 (bookC false false z.snd.fst.turn z.snd.fst.deep
 [C.slc 6 0 z.snd.fst.o.length none, C.slc 7 0 z.snd.fst.t.length none, C.slc 8 0 z.snd.fst.w.length none, C.slc 9 0 z.snd.fst.n.length none, C.slc 10 0 z.snd.fst.f.length none, C.slc 11 0 z.snd.fst.m.length
 none, C.slc 12 0 z.snd.fst.d.length none, C.slc 13 0 z.snd.fst.r.length none, C.int .i64 z.snd.fst.seen]), Atom.arr Kd.ru8 [RS.mk z.snd.snd.snd.fst 0 (far l) z.snd.snd.snd.snd], Atom.arr Kd.int [(↑l.length
 : Int)], Atom.arr Kd.ru8 z.snd.fst.o, Atom.arr Kd.ru8 z.snd.fst.t, Atom.arr Kd.ru8 z.snd.fst.w, Atom.arr Kd.ru8 z.snd.fst.n, Atom.arr Kd.ru8 z.snd.fst.f, Atom.arr Kd.int z.snd.fst.m, Atom.arr Kd.int z.snd.fst.d,
 Atom.arr Kd.int z.snd.fst.r, Atom.arr Kd.u8 (cont z.snd.snd.fst (RS.mk z.snd.snd.snd.fst 0 l.length (far l)) ++ numF 9 n), Atom.arr Kd.u8 (cont z.snd.snd.fst (RS.mk z.snd.snd.snd.fst 0 l.length (far l))
 ++ wordsF s), Atom.arr Kd.u8 (numF 9 n), Atom.arr Kd.u8 (l ++ numF 9 n)] [VV.one (V1.c (C.slc 0 0 (cont z.snd.snd.fst (RS.mk z.snd.snd.snd.fst 0 l.length (far l)) ++ numF 9 n).length none)), VV.one (V1.c
 (C.slc 1 0 (l ++ numF 9 n).length none))] [Atom.ro Kd.u8 (cont z.snd.snd.fst (RS.mk z.snd.snd.snd.fst 0 l.length (far l)) ++ numF 9 n), Atom.ro Kd.u8 (l ++ numF 9 n)] ∧ ∀ (y : Unit), True → ite2 (decide
 (cont z.snd.snd.fst (RS.mk z.snd.snd.snd.fst 0 l.length (far l)) ++ numF 9 n = l ++ numF 9 n)) (s.size ≤ 1000000 ∧ Into (K := KK) 0 [] [] [VV.one (V1.c (C.str s))] [Atom.ro Kd.u8 l, Atom.bag z.snd.snd.fst,
 Atom.cells 40 [C.slc 4 0 1 none, C.slc 5 0 1 none, C.nils, C.nils, C.nils, C.nils, C.nils, C.nils, C.nils, C.nils, C.nils, C.nils, C.nils, C.nils, C.nils, C.nils, C.nils, C.nils, C.nils, C.nils, C.nils,
 C.nils, C.nils, C.nils, C.nils, C.nils], Atom.cells 46 (bookC false false z.snd.fst.turn z.snd.fst.deep [C.slc 6 0 z.snd.fst.o.length none, C.slc 7 0 z.snd.fst.t.length none, C.slc 8 0 z.snd.fst.w.length
 none, C.slc 9 0 z.snd.fst.n.length none, C.slc 10 0 z.snd.fst.f.length none, C.slc 11 0 z.snd.fst.m.length none, C.slc 12 0 z.snd.fst.d.length none, C.slc 13 0 z.snd.fst.r.length none, C.int .i64 z.snd.fst.seen]),
 Atom.arr Kd.ru8 [RS.mk z.snd.snd.snd.fst 0 (far l) z.snd.snd.snd.snd], Atom.arr Kd.int [(↑l.length : Int)], Atom.arr Kd.ru8 z.snd.fst.o, Atom.arr Kd.ru8 z.snd.fst.t, Atom.arr Kd.ru8 z.snd.fst.w, Atom.arr
 Kd.ru8 z.snd.fst.n, Atom.arr Kd.ru8 z.snd.fst.f, Atom.arr Kd.int z.snd.fst.m, Atom.arr Kd.int z.snd.fst.d, Atom.arr Kd.int z.snd.fst.r, Atom.arr Kd.u8 (cont z.snd.snd.fst (RS.mk z.snd.snd.snd.fst 0 l.length
 (far l)) ++ numF 9 n), Atom.arr Kd.u8 (cont z.snd.snd.fst (RS.mk z.snd.snd.snd.fst 0 l.length (far l)) ++ wordsF s), Atom.arr Kd.u8 (numF 9 n), Atom.arr Kd.u8 (l ++ numF 9 n)] [VV.one (V1.c (C.str s))]
 [] ∧ ∀ (y : Unit), True → (l.length ≤ 2000000 ∧ (wordsF s).length ≤ 2000000) ∧ Into (K := KK) 0 [] [0, 18] [VV.one (V1.c (C.slc 0 0 l.length none)), VV.one (V1.c (C.slc 18 0 (wordsF s).length none))] [Atom.ro
 Kd.u8 l, Atom.bag z.snd.snd.fst, Atom.cells 40 [C.slc 4 0 1 none, C.slc 5 0 1 none, C.nils, C.nils, C.nils, C.nils, C.nils, C.nils, C.nils, C.nils, C.nils, C.nils, C.nils, C.nils, C.nils, C.nils, C.nils,
 C.nils, C.nils, C.nils, C.nils, C.nils, C.nils, C.nils, C.nils, C.nils], Atom.cells 46 (bookC false false z.snd.fst.turn z.snd.fst.deep [C.slc 6 0 z.snd.fst.o.length none, C.slc 7 0 z.snd.fst.t.length
 none, C.slc 8 0 z.snd.fst.w.length none, C.slc 9 0 z.snd.fst.n.length none, C.slc 10 0 z.snd.fst.f.length none, C.slc 11 0 z.snd.fst.m.length none, C.slc 12 0 z.snd.fst.d.length none, C.slc 13 0 z.snd.fst.r.length
 none, C.int .i64 z.snd.fst.seen]), Atom.arr Kd.ru8 [RS.mk z.snd.snd.snd.fst 0 (far l) z.snd.snd.snd.snd], Atom.arr Kd.int [(↑l.length : Int)], Atom.arr Kd.ru8 z.snd.fst.o, Atom.arr Kd.ru8 z.snd.fst.t,
 Atom.arr Kd.ru8 z.snd.fst.w, Atom.arr Kd.ru8 z.snd.fst.n, Atom.arr Kd.ru8 z.snd.fst.f, Atom.arr Kd.int z.snd.fst.m, Atom.arr Kd.int z.snd.fst.d, Atom.arr Kd.int z.snd.fst.r, Atom.arr Kd.u8 (cont z.snd.snd.fst
 (RS.mk z.snd.snd.snd.fst 0 l.length (far l)) ++ numF 9 n), Atom.arr Kd.u8 (cont z.snd.snd.fst (RS.mk z.snd.snd.snd.fst 0 l.length (far l)) ++ wordsF s), Atom.arr Kd.u8 (numF 9 n), Atom.arr Kd.u8 (l ++
 numF 9 n), Atom.arr Kd.u8 (wordsF s)] [VV.one (V1.c (C.slc 0 0 l.length none)), VV.one (V1.c (C.slc 1 0 (wordsF s).length none))] [Atom.ro Kd.u8 l, Atom.ro Kd.u8 (wordsF s)] ∧ ∀ (y : Unit), True → ((cont
 z.snd.snd.fst (RS.mk z.snd.snd.snd.fst 0 l.length (far l)) ++ wordsF s).length ≤ 2000000 ∧ (l ++ wordsF s).length ≤ 2000000) ∧ Into (K := KK) 0 [] [15, 19] [VV.one (V1.c (C.slc 15 0 (cont z.snd.snd.fst
 (RS.mk z.snd.snd.snd.fst 0 l.length (far l)) ++ wordsF s).length none)), VV.one (V1.c (C.slc 19 0 (l ++ wordsF s).length none))] [Atom.ro Kd.u8 l, Atom.bag z.snd.snd.fst, Atom.cells 40 [C.slc 4 0 1 none,
 C.slc 5 0 1 none, C.nils, C.nils, C.nils, C.nils, C.nils, C.nils, C.nils, C.nils, C.nils, C.nils, C.nils, C.nils, C.nils, C.nils, C.nils, C.nils, C.nils, C.nils, C.nils, C.nils, C.nils, C.nils, C.nils,
 C.nils], Atom.cells 46 (bookC false false z.snd.fst.turn z.snd.fst.deep [C.slc 6 0 z.snd.fst.o.length none, C.slc 7 0 z.snd.fst.t.length none, C.slc 8 0 z.snd.fst.w.length none, C.slc 9 0 z.snd.fst.n.length
 none, C.slc 10 0 z.snd.fst.f.length none, C.slc 11 0 z.snd.fst.m.length none, C.slc 12 0 z.snd.fst.d.length none, C.slc 13 0 z.snd.fst.r.length none, C.int .i64 z.snd.fst.seen]), Atom.arr Kd.ru8 [RS.mk
 z.snd.snd.snd.fst 0 (far l) z.snd.snd.snd.snd], Atom.arr Kd.int [(↑l.length : Int)], Atom.arr Kd.ru8 z.snd.fst.o, Atom.arr Kd.ru8 z.snd.fst.t, Atom.arr Kd.ru8 z.snd.fst.w, Atom.arr Kd.ru8 z.snd.fst.n,
 Atom.arr Kd.ru8 z.snd.fst.f, Atom.arr Kd.int z.snd.fst.m, Atom.arr Kd.int z.snd.fst.d, Atom.arr Kd.int z.snd.fst.r, Atom.arr Kd.u8 (cont z.snd.snd.fst (RS.mk z.snd.snd.snd.fst 0 l.length (far l)) ++ numF
 9 n), Atom.arr Kd.u8 (cont z.snd.snd.fst (RS.mk z.snd.snd.snd.fst 0 l.length (far l)) ++ wordsF s), Atom.arr Kd.u8 (numF 9 n), Atom.arr Kd.u8 (l ++ numF 9 n), Atom.arr Kd.u8 (wordsF s), Atom.arr Kd.u8
 (l ++ wordsF s)] [VV.one (V1.c (C.slc 0 0 (cont z.snd.snd.fst (RS.mk z.snd.snd.snd.fst 0 l.length (far l)) ++ wordsF s).length none)), VV.one (V1.c (C.slc 1 0 (l ++ wordsF s).length none))] [Atom.ro Kd.u8
 (cont z.snd.snd.fst (RS.mk z.snd.snd.snd.fst 0 l.length (far l)) ++ wordsF s), Atom.ro Kd.u8 (l ++ wordsF s)] ∧ ∀ (y : Unit), True → ite2 (decide (cont z.snd.snd.fst (RS.mk z.snd.snd.snd.fst 0 l.length
 (far l)) ++ wordsF s = l ++ wordsF s)) ((Has z.snd.snd.fst (RS.mk z.snd.snd.snd.fst 0 l.length (far l)) ∧ l.length ≤ 2000000) ∧ Into (K := KK) 0 [] [1, 0] [VV.one (V1.c (C.rs 5 1 (RS.mk z.snd.snd.snd.fst
 0 l.length (far l)))), VV.one (V1.c (C.slc 0 0 l.length none))] [Atom.ro Kd.u8 l, Atom.bag z.snd.snd.fst, Atom.cells 40 [C.slc 4 0 1 none, C.slc 5 0 1 none, C.nils, C.nils, C.nils, C.nils, C.nils, C.nils,
 C.nils, C.nils, C.nils, C.nils, C.nils, C.nils, C.nils, C.nils, C.nils, C.nils, C.nils, C.nils, C.nils, C.nils, C.nils, C.nils, C.nils, C.nils], Atom.cells 46 (bookC false false z.snd.fst.turn z.snd.fst.deep
 [C.slc 6 0 z.snd.fst.o.length none, C.slc 7 0 z.snd.fst.t.length none, C.slc 8 0 z.snd.fst.w.length none, C.slc 9 0 z.snd.fst.n.length none, C.slc 10 0 z.snd.fst.f.length none, C.slc 11 0 z.snd.fst.m.length
 none, C.slc 12 0 z.snd.fst.d.length none, C.slc 13 0 z.snd.fst.r.length none, C.int .i64 z.snd.fst.seen]), Atom.arr Kd.ru8 [RS.mk z.snd.snd.snd.fst 0 (far l) z.snd.snd.snd.snd], Atom.arr Kd.int [(↑l.length
 : Int)], Atom.arr Kd.ru8 z.snd.fst.o, Atom.arr Kd.ru8 z.snd.fst.t, Atom.arr Kd.ru8 z.snd.fst.w, Atom.arr Kd.ru8 z.snd.fst.n, Atom.arr Kd.ru8 z.snd.fst.f, Atom.arr Kd.int z.snd.fst.m, Atom.arr Kd.int z.snd.fst.d,
 Atom.arr Kd.int z.snd.fst.r, Atom.arr Kd.u8 (cont z.snd.snd.fst (RS.mk z.snd.snd.snd.fst 0 l.length (far l)) ++ numF 9 n), Atom.arr Kd.u8 (cont z.snd.snd.fst (RS.mk z.snd.snd.snd.fst 0 l.length (far l))
 ++ wordsF s), Atom.arr Kd.u8 (numF 9 n), Atom.arr Kd.u8 (l ++ numF 9 n), Atom.arr Kd.u8 (wordsF s), Atom.arr Kd.u8 (l ++ wordsF s)] [VV.one (V1.c (C.rs 5 1 (RS.mk z.snd.snd.snd.fst 0 l.length (far l)))),
 VV.one (V1.c (C.slc 1 0 l.length none))] [Atom.bag z.snd.snd.fst, Atom.ro Kd.u8 l] ∧ ∀ (y : Unit), True → ite2 (decide (cont z.snd.snd.fst (RS.mk z.snd.snd.snd.fst 0 l.length (far l)) = l)) (Marks [RS.mk
 z.snd.snd.snd.fst 0 (far l) z.snd.snd.snd.snd] [(↑l.length : Int)] z.snd.snd.fst ∧ Into (K := KK) 0 [] [2, 4, 5, 1] [VV.one (V1.c (C.ptr 2 0 0))] [Atom.ro Kd.u8 l, Atom.bag z.snd.snd.fst, Atom.cells 40
 [C.slc 4 0 1 none, C.slc 5 0 1 none, C.nils, C.nils, C.nils, C.nils, C.nils, C.nils, C.nils, C.nils, C.nils, C.nils, C.nils, C.nils, C.nils, C.nils, C.nils, C.nils, C.nils, C.nils, C.nils, C.nils, C.nils,
 C.nils, C.nils, C.nils], Atom.cells 46 (bookC false false z.snd.fst.turn z.snd.fst.deep [C.slc 6 0 z.snd.fst.o.length none, C.slc 7 0 z.snd.fst.t.length none, C.slc 8 0 z.snd.fst.w.length none, C.slc 9
 0 z.snd.fst.n.length none, C.slc 10 0 z.snd.fst.f.length none, C.slc 11 0 z.snd.fst.m.length none, C.slc 12 0 z.snd.fst.d.length none, C.slc 13 0 z.snd.fst.r.length none, C.int .i64 z.snd.fst.seen]), Atom.arr
 Kd.ru8 [RS.mk z.snd.snd.snd.fst 0 (far l) z.snd.snd.snd.snd], Atom.arr Kd.int [(↑l.length : Int)], Atom.arr Kd.ru8 z.snd.fst.o, Atom.arr Kd.ru8 z.snd.fst.t, Atom.arr Kd.ru8 z.snd.fst.w, Atom.arr Kd.ru8
 z.snd.fst.n, Atom.arr Kd.ru8 z.snd.fst.f, Atom.arr Kd.int z.snd.fst.m, Atom.arr Kd.int z.snd.fst.d, Atom.arr Kd.int z.snd.fst.r, Atom.arr Kd.u8 (cont z.snd.snd.fst (RS.mk z.snd.snd.snd.fst 0 l.length (far
 l)) ++ numF 9 n), Atom.arr Kd.u8 (cont z.snd.snd.fst (RS.mk z.snd.snd.snd.fst 0 l.length (far l)) ++ wordsF s), Atom.arr Kd.u8 (numF 9 n), Atom.arr Kd.u8 (l ++ numF 9 n), Atom.arr Kd.u8 (wordsF s), Atom.arr
 Kd.u8 (l ++ wordsF s)] [VV.one (V1.c (C.ptr 0 0 0))] [Atom.cells 40 [C.slc 1 0 1 none, C.slc 2 0 1 none, C.nils, C.nils, C.nils, C.nils, C.nils, C.nils, C.nils, C.nils, C.nils, C.nils, C.nils, C.nils,
 C.nils, C.nils, C.nils, C.nils, C.nils, C.nils, C.nils, C.nils, C.nils, C.nils, C.nils, C.nils], Atom.arr Kd.ru8 [RS.mk z.snd.snd.snd.fst 0 (far l) z.snd.snd.snd.snd], Atom.arr Kd.int [(↑l.length : Int)],
 Atom.bag z.snd.snd.fst] ∧ ∀ (y : Unit), True → (cont z.snd.snd.fst (RS.mk z.snd.snd.snd.fst 0 l.length (far l)) ++ numF 9 n).length = (cont z.snd.snd.fst (RS.mk z.snd.snd.snd.fst 0 l.length (far l)) ++
 numF 9 n).length ∧ (cont z.snd.snd.fst (RS.mk z.snd.snd.snd.fst 0 l.length (far l)) ++ numF 9 n = [] → i64ok ((100 : Int) * (↑z.fst : Int)) ∧ (RestOk z.snd.snd.fst (BS.mk (z.snd.fst.turn) (z.snd.fst.deep)
 (z.snd.fst.o) (z.snd.fst.t) (z.snd.fst.w) (z.snd.fst.n) (z.snd.fst.f) (z.snd.fst.m) (z.snd.fst.d) (z.snd.fst.r) (z.snd.fst.seen)) ∧ Alone z.snd.snd.fst Kd.u8 1000000 (Bk.mk (z.snd.fst.o) (z.snd.fst.t)
 (z.snd.fst.w) (z.snd.fst.n) (z.snd.fst.f)) RS.nil ∧ ((-1000000000000 : Int) ≤ (100 : Int) * (↑z.fst : Int) ∧ (100 : Int) * (↑z.fst : Int) ≤ (1000000000000 : Int)) ∧ z.snd.fst.seen < (100000 : Int)) ∧ Into
 (K := KK) 0 [] [3, 6, 7, 8, 9, 10, 11, 12, 13, 1] [VV.one (V1.c (C.ptr 3 0 0)), VV.one (V1.c (C.rs 5 1 RS.nil)), VV.one (V1.c (C.int .i64 ((100 : Int) * (↑z.fst : Int))))] [Atom.ro Kd.u8 l, Atom.bag z.snd.snd.fst,
 Atom.cells 40 [C.slc 4 0 1 none, C.slc 5 0 1 none, C.nils, C.nils, C.nils, C.nils, C.nils, C.nils, C.nils, C.nils, C.nils, C.nils, C.nils, C.nils, C.nils, C.nils, C.nils, C.nils, C.nils, C.nils, C.nils,
 C.nils, C.nils, C.nils, C.nils, C.nils], Atom.cells 46 (bookC false false z.snd.fst.turn z.snd.fst.deep [C.slc 6 0 z.snd.fst.o.length none, C.slc 7 0 z.snd.fst.t.length none, C.slc 8 0 z.snd.fst.w.length
 none, C.slc 9 0 z.snd.fst.n.length none, C.slc 10 0 z.snd.fst.f.length none, C.slc 11 0 z.snd.fst.m.length none, C.slc 12 0 z.snd.fst.d.length none, C.slc 13 0 z.snd.fst.r.length none, C.int .i64 z.snd.fst.seen]),
 Atom.arr Kd.ru8 [RS.mk z.snd.snd.snd.fst 0 (far l) z.snd.snd.snd.snd], Atom.arr Kd.int [(↑l.length : Int)], Atom.arr Kd.ru8 z.snd.fst.o, Atom.arr Kd.ru8 z.snd.fst.t, Atom.arr Kd.ru8 z.snd.fst.w, Atom.arr
 Kd.ru8 z.snd.fst.n, Atom.arr Kd.ru8 z.snd.fst.f, Atom.arr Kd.int z.snd.fst.m, Atom.arr Kd.int z.snd.fst.d, Atom.arr Kd.int z.snd.fst.r, Atom.gone, Atom.arr Kd.u8 (cont z.snd.snd.fst (RS.mk z.snd.snd.snd.fst
 0 l.length (far l)) ++ wordsF s), Atom.arr Kd.u8 (numF 9 n), Atom.arr Kd.u8 (l ++ numF 9 n), Atom.arr Kd.u8 (wordsF s), Atom.arr Kd.u8 (l ++ wordsF s)] [VV.one (V1.c (C.ptr 0 0 0)), VV.one (V1.c (C.rs
 5 1 RS.nil)), VV.one (V1.c (C.int .i64 ((100 : Int) * (↑z.fst : Int))))] [Atom.cells 46 (bookC false false z.snd.fst.turn z.snd.fst.deep [C.slc 1 0 z.snd.fst.o.length none, C.slc 2 0 z.snd.fst.t.length
 none, C.slc 3 0 z.snd.fst.w.length none, C.slc 4 0 z.snd.fst.n.length none, C.slc 5 0 z.snd.fst.f.length none, C.slc 6 0 z.snd.fst.m.length none, C.slc 7 0 z.snd.fst.d.length none, C.slc 8 0 z.snd.fst.r.length
 none, C.int .i64 z.snd.fst.seen]), Atom.arr Kd.ru8 z.snd.fst.o, Atom.arr Kd.ru8 z.snd.fst.t, Atom.arr Kd.ru8 z.snd.fst.w, Atom.arr Kd.ru8 z.snd.fst.n, Atom.arr Kd.ru8 z.snd.fst.f, Atom.arr Kd.int z.snd.fst.m,
 Atom.arr Kd.int z.snd.fst.d, Atom.arr Kd.int z.snd.fst.r, Atom.bag z.snd.snd.fst] ∧ ∀ (y : BS × Bag KK), (RestOk y.snd y.fst ∧ y.fst.seen = z.snd.fst.seen + (1 : Int) ∧ ∀ (b : Nat) (i : BI KK), z.snd.snd.fst
 b = some i → (∀ (y : RS), List.Mem y (z.snd.fst.o ++ (z.snd.fst.t ++ (z.snd.fst.w ++ (z.snd.fst.n ++ z.snd.fst.f)))) → ¬y.At b) → ¬RS.nil.At b → y.snd b = some i ∧ ∀ (y_1 : RS), List.Mem y_1 (y.fst.o ++
 (y.fst.t ++ (y.fst.w ++ (y.fst.n ++ y.fst.f)))) → ¬y_1.At b) → (cont z.snd.snd.fst (RS.mk z.snd.snd.snd.fst 0 l.length (far l)) ++ wordsF s).length = (cont z.snd.snd.fst (RS.mk z.snd.snd.snd.fst 0 l.length
 (far l)) ++ wordsF s).length ∧ (cont z.snd.snd.fst (RS.mk z.snd.snd.snd.fst 0 l.length (far l)) ++ wordsF s = [] → i64ok ((100 : Int) * (↑z.fst : Int)) ∧ i64ok ((100 : Int) * (↑z.fst : Int) + (50 : Int))
 ∧ (RestOk y.snd (BS.mk (y.fst.turn) (y.fst.deep) (y.fst.o) (y.fst.t) (y.fst.w) (y.fst.n) (y.fst.f) (y.fst.m) (y.fst.d) (y.fst.r) (y.fst.seen)) ∧ Alone y.snd Kd.u8 1000000 (Bk.mk (y.fst.o) (y.fst.t) (y.fst.w)
 (y.fst.n) (y.fst.f)) RS.nil ∧ ((-1000000000000 : Int) ≤ (100 : Int) * (↑z.fst : Int) + (50 : Int) ∧ (100 : Int) * (↑z.fst : Int) + (50 : Int) ≤ (1000000000000 : Int)) ∧ y.fst.seen < (100000 : Int)) ∧ Into
 (K := KK) 0 [] [3, 20, 21, 22, 23, 24, 25, 26, 27, 1] [VV.one (V1.c (C.ptr 3 0 0)), VV.one (V1.c (C.rs 5 1 RS.nil)), VV.one (V1.c (C.int .i64 ((100 : Int) * (↑z.fst : Int) + (50 : Int))))] [Atom.ro Kd.u8
 l, Atom.bag y.snd, Atom.cells 40 [C.slc 4 0 1 none, C.slc 5 0 1 none, C.nils, C.nils, C.nils, C.nils, C.nils, C.nils, C.nils, C.nils, C.nils, C.nils, C.nils, C.nils, C.nils, C.nils, C.nils, C.nils, C.nils,
 C.nils, C.nils, C.nils, C.nils, C.nils, C.nils, C.nils], Atom.cells 46 (bookC false false y.fst.turn y.fst.deep [C.slc 20 0 y.fst.o.length none, C.slc 21 0 y.fst.t.length none, C.slc 22 0 y.fst.w.length
 none, C.slc 23 0 y.fst.n.length none, C.slc 24 0 y.fst.f.length none, C.slc 25 0 y.fst.m.length none, C.slc 26 0 y.fst.d.length none, C.slc 27 0 y.fst.r.length none, C.int .i64 y.fst.seen]), Atom.arr Kd.ru8
 [RS.mk z.snd.snd.snd.fst 0 (far l) z.snd.snd.snd.snd], Atom.arr Kd.int [(↑l.length : Int)], Atom.gone, Atom.gone, Atom.gone, Atom.gone, Atom.gone, Atom.gone, Atom.gone, Atom.gone, Atom.gone, Atom.gone,
 Atom.arr Kd.u8 (numF 9 n), Atom.arr Kd.u8 (l ++ numF 9 n), Atom.arr Kd.u8 (wordsF s), Atom.arr Kd.u8 (l ++ wordsF s), Atom.arr Kd.ru8 y.fst.o, Atom.arr Kd.ru8 y.fst.t, Atom.arr Kd.ru8 y.fst.w, Atom.arr
 Kd.ru8 y.fst.n, Atom.arr Kd.ru8 y.fst.f, Atom.arr Kd.int y.fst.m, Atom.arr Kd.int y.fst.d, Atom.arr Kd.int y.fst.r] [VV.one (V1.c (C.ptr 0 0 0)), VV.one (V1.c (C.rs 5 1 RS.nil)), VV.one (V1.c (C.int .i64
 ((100 : Int) * (↑z.fst : Int) + (50 : Int))))] [Atom.cells 46 (bookC false false y.fst.turn y.fst.deep [C.slc 1 0 y.fst.o.length none, C.slc 2 0 y.fst.t.length none, C.slc 3 0 y.fst.w.length none, C.slc
 4 0 y.fst.n.length none, C.slc 5 0 y.fst.f.length none, C.slc 6 0 y.fst.m.length none, C.slc 7 0 y.fst.d.length none, C.slc 8 0 y.fst.r.length none, C.int .i64 y.fst.seen]), Atom.arr Kd.ru8 y.fst.o, Atom.arr
 Kd.ru8 y.fst.t, Atom.arr Kd.ru8 y.fst.w, Atom.arr Kd.ru8 y.fst.n, Atom.arr Kd.ru8 y.fst.f, Atom.arr Kd.int y.fst.m, Atom.arr Kd.int y.fst.d, Atom.arr Kd.int y.fst.r, Atom.bag y.snd] ∧ ∀ (y_1 : BS × Bag
 KK), (RestOk y_1.snd y_1.fst ∧ y_1.fst.seen = y.fst.seen + (1 : Int) ∧ ∀ (b : Nat) (i : BI KK), y.snd b = some i → (∀ (y_2 : RS), List.Mem y_2 (y.fst.o ++ (y.fst.t ++ (y.fst.w ++ (y.fst.n ++ y.fst.f))))
 → ¬y_2.At b) → ¬RS.nil.At b → y_1.snd b = some i ∧ ∀ (y : RS), List.Mem y (y_1.fst.o ++ (y_1.fst.t ++ (y_1.fst.w ++ (y_1.fst.n ++ y_1.fst.f)))) → ¬y.At b) → i64ok ((↑z.fst : Int) + (1 : Int)) ∧ Enter 2
 (inv_puts1 l n s) (fun (z' : Nat × BS × Bag KK × Nat × Nat) => 3 - z'.fst < (3 : Nat) - z.fst) ([VV.one (V1.c (C.slc (0 : Nat) (0 : Nat) l.length none)), VV.one (V1.c (C.int .u64 n)), VV.one (V1.c (C.str
 s)), VV.any, VV.any, VV.any, VV.any, VV.one (V1.c (C.ptr (2 : Nat) (0 : Nat) (0 : Nat))), VV.one (V1.c (C.ptr (3 : Nat) (0 : Nat) (0 : Nat))), VV.one (V1.c (C.rs 5 (1 : Nat) (RS.mk z.snd.snd.snd.fst (0
 : Nat) l.length (far l)))), VV.one (V1.c (C.int .i64 ((↑z.fst : Int) + (1 : Int)))), VV.one (V1.c (C.rs 5 (1 : Nat) RS.nil)), VV.one (V1.c (C.rs 5 (1 : Nat) RS.nil))] ++ anys 104) [Atom.ro Kd.u8 l, Atom.bag
 y_1.snd, Atom.cells 40 [C.slc (4 : Nat) (0 : Nat) (1 : Nat) none, C.slc (5 : Nat) (0 : Nat) (1 : Nat) none, C.nils, C.nils, C.nils, C.nils, C.nils, C.nils, C.nils, C.nils, C.nils, C.nils, C.nils, C.nils,
 C.nils, C.nils, C.nils, C.nils, C.nils, C.nils, C.nils, C.nils, C.nils, C.nils, C.nils, C.nils], Atom.cells 46 (bookC false false y_1.fst.turn y_1.fst.deep [C.slc (28 : Nat) (0 : Nat) y_1.fst.o.length
 none, C.slc (29 : Nat) (0 : Nat) y_1.fst.t.length none, C.slc (30 : Nat) (0 : Nat) y_1.fst.w.length none, C.slc (31 : Nat) (0 : Nat) y_1.fst.n.length none, C.slc (32 : Nat) (0 : Nat) y_1.fst.f.length none,
 C.slc (33 : Nat) (0 : Nat) y_1.fst.m.length none, C.slc (34 : Nat) (0 : Nat) y_1.fst.d.length none, C.slc (35 : Nat) (0 : Nat) y_1.fst.r.length none, C.int .i64 y_1.fst.seen]), Atom.arr Kd.ru8 [RS.mk z.snd.snd.snd.fst
 (0 : Nat) (far l) z.snd.snd.snd.snd], Atom.arr Kd.int [(↑l.length : Int)], Atom.gone, Atom.gone, Atom.gone, Atom.gone, Atom.gone, Atom.gone, Atom.gone, Atom.gone, Atom.gone, Atom.gone, Atom.arr Kd.u8 (numF
 (9 : Nat) n), Atom.arr Kd.u8 (l ++ numF (9 : Nat) n), Atom.arr Kd.u8 (wordsF s), Atom.arr Kd.u8 (l ++ wordsF s), Atom.gone, Atom.gone, Atom.gone, Atom.gone, Atom.gone, Atom.gone, Atom.gone, Atom.gone,
 Atom.arr Kd.ru8 y_1.fst.o, Atom.arr Kd.ru8 y_1.fst.t, Atom.arr Kd.ru8 y_1.fst.w, Atom.arr Kd.ru8 y_1.fst.n, Atom.arr Kd.ru8 y_1.fst.f, Atom.arr Kd.int y_1.fst.m, Atom.arr Kd.int y_1.fst.d, Atom.arr Kd.int
 y_1.fst.r]) ∧ ∀ (b c : Nat), y.snd b = none → (cont z.snd.snd.fst (RS.mk z.snd.snd.snd.fst 0 l.length (far l)) ++ wordsF s).length ≤ c → i64ok ((100 : Int) * (↑z.fst : Int)) ∧ i64ok ((100 : Int) * (↑z.fst
 : Int) + (50 : Int)) ∧ (RestOk (bput y.snd b (BI.row Kd.u8 c (cont z.snd.snd.fst (RS.mk z.snd.snd.snd.fst (0 : Nat) l.length (far l)) ++ wordsF s))) (BS.mk (y.fst.turn) (y.fst.deep) (y.fst.o) (y.fst.t)
 (y.fst.w) (y.fst.n) (y.fst.f) (y.fst.m) (y.fst.d) (y.fst.r) (y.fst.seen)) ∧ Alone (bput y.snd b (BI.row Kd.u8 c (cont z.snd.snd.fst (RS.mk z.snd.snd.snd.fst (0 : Nat) l.length (far l)) ++ wordsF s))) Kd.u8
 (1000000 : Nat) (Bk.mk (y.fst.o) (y.fst.t) (y.fst.w) (y.fst.n) (y.fst.f)) (RS.mk b 0 (cont z.snd.snd.fst (RS.mk z.snd.snd.snd.fst (0 : Nat) l.length (far l)) ++ wordsF s).length c) ∧ ((-1000000000000 :
 Int) ≤ (100 : Int) * (↑z.fst : Int) + (50 : Int) ∧ (100 : Int) * (↑z.fst : Int) + (50 : Int) ≤ (1000000000000 : Int)) ∧ y.fst.seen < (100000 : Int)) ∧ Into (K := KK) 0 [] [3, 20, 21, 22, 23, 24, 25, 26,
 27, 1] [VV.one (V1.c (C.ptr (3 : Nat) (0 : Nat) (0 : Nat))), VV.one (V1.c (C.rs 5 (1 : Nat) (RS.mk b (0 : Nat) (cont z.snd.snd.fst (RS.mk z.snd.snd.snd.fst (0 : Nat) l.length (far l)) ++ wordsF s).length
 c))), VV.one (V1.c (C.int .i64 ((100 : Int) * (↑z.fst : Int) + (50 : Int))))] [Atom.ro Kd.u8 l, Atom.bag (bput y.snd b (BI.row Kd.u8 c (cont z.snd.snd.fst (RS.mk z.snd.snd.snd.fst (0 : Nat) l.length (far
 l)) ++ wordsF s))), Atom.cells 40 [C.slc (4 : Nat) (0 : Nat) (1 : Nat) none, C.slc (5 : Nat) (0 : Nat) (1 : Nat) none, C.nils, C.nils, C.nils, C.nils, C.nils, C.nils, C.nils, C.nils, C.nils, C.nils, C.nils,
 C.nils, C.nils, C.nils, C.nils, C.nils, C.nils, C.nils, C.nils, C.nils, C.nils, C.nils, C.nils, C.nils], Atom.cells 46 (bookC false false y.fst.turn y.fst.deep [C.slc (20 : Nat) (0 : Nat) y.fst.o.length
 none, C.slc (21 : Nat) (0 : Nat) y.fst.t.length none, C.slc (22 : Nat) (0 : Nat) y.fst.w.length none, C.slc (23 : Nat) (0 : Nat) y.fst.n.length none, C.slc (24 : Nat) (0 : Nat) y.fst.f.length none, C.slc
 (25 : Nat) (0 : Nat) y.fst.m.length none, C.slc (26 : Nat) (0 : Nat) y.fst.d.length none, C.slc (27 : Nat) (0 : Nat) y.fst.r.length none, C.int .i64 y.fst.seen]), Atom.arr Kd.ru8 [RS.mk z.snd.snd.snd.fst
 (0 : Nat) (far l) z.snd.snd.snd.snd], Atom.arr Kd.int [(↑l.length : Int)], Atom.gone, Atom.gone, Atom.gone, Atom.gone, Atom.gone, Atom.gone, Atom.gone, Atom.gone, Atom.gone, Atom.gone, Atom.arr Kd.u8 (numF
 9 n), Atom.arr Kd.u8 (l ++ numF (9 : Nat) n), Atom.arr Kd.u8 (wordsF s), Atom.arr Kd.u8 (l ++ wordsF s), Atom.arr Kd.ru8 y.fst.o, Atom.arr Kd.ru8 y.fst.t, Atom.arr Kd.ru8 y.fst.w, Atom.arr Kd.ru8 y.fst.n,
 Atom.arr Kd.ru8 y.fst.f, Atom.arr Kd.int y.fst.m, Atom.arr Kd.int y.fst.d, Atom.arr Kd.int y.fst.r] [VV.one (V1.c (C.ptr (0 : Nat) (0 : Nat) (0 : Nat))), VV.one (V1.c (C.rs 5 (1 : Nat) (RS.mk b (0 : Nat)
 (cont z.snd.snd.fst (RS.mk z.snd.snd.snd.fst (0 : Nat) l.length (far l)) ++ wordsF s).length c))), VV.one (V1.c (C.int .i64 ((100 : Int) * (↑z.fst : Int) + (50 : Int))))] [Atom.cells 46 (bookC false false
 y.fst.turn y.fst.deep [C.slc (1 : Nat) (0 : Nat) y.fst.o.length none, C.slc (2 : Nat) (0 : Nat) y.fst.t.length none, C.slc (3 : Nat) (0 : Nat) y.fst.w.length none, C.slc (4 : Nat) (0 : Nat) y.fst.n.length
 none, C.slc (5 : Nat) (0 : Nat) y.fst.f.length none, C.slc (6 : Nat) (0 : Nat) y.fst.m.length none, C.slc (7 : Nat) (0 : Nat) y.fst.d.length none, C.slc (8 : Nat) (0 : Nat) y.fst.r.length none, C.int .i64
 y.fst.seen]), Atom.arr Kd.ru8 y.fst.o, Atom.arr Kd.ru8 y.fst.t, Atom.arr Kd.ru8 y.fst.w, Atom.arr Kd.ru8 y.fst.n, Atom.arr Kd.ru8 y.fst.f, Atom.arr Kd.int y.fst.m, Atom.arr Kd.int y.fst.d, Atom.arr Kd.int
 y.fst.r, Atom.bag (bput y.snd b (BI.row Kd.u8 c (cont z.snd.snd.fst (RS.mk z.snd.snd.snd.fst (0 : Nat) l.length (far l)) ++ wordsF s)))] ∧ ∀ (y_1 : BS × Bag KK), (RestOk y_1.snd y_1.fst ∧ y_1.fst.seen
 = y.fst.seen + (1 : Int) ∧ ∀ (b_1 : Nat) (i : BI KK), bput y.snd b (BI.row Kd.u8 c (cont z.snd.snd.fst (RS.mk z.snd.snd.snd.fst (0 : Nat) l.length (far l)) ++ wordsF s)) b_1 = some i → (∀ (y_2 : RS), List.Mem
 y_2 (y.fst.o ++ (y.fst.t ++ (y.fst.w ++ (y.fst.n ++ y.fst.f)))) → ¬y_2.At b_1) → ¬(RS.mk b (0 : Nat) (cont z.snd.snd.fst (RS.mk z.snd.snd.snd.fst (0 : Nat) l.length (far l)) ++ wordsF s).length c).At b_1
 → y_1.snd b_1 = some i ∧ ∀ (y : RS), List.Mem y (y_1.fst.o ++ (y_1.fst.t ++ (y_1.fst.w ++ (y_1.fst.n ++ y_1.fst.f)))) → ¬y.At b_1) → i64ok ((↑z.fst : Int) + (1 : Int)) ∧ Enter ((1 : Nat) + (1 : Nat)) (inv_puts1
 l n s) (fun (z' : Nat × BS × Bag KK × Nat × Nat) => (3 : Nat) - z'.fst < (3 : Nat) - z.fst) ([VV.one (V1.c (C.slc (0 : Nat) (0 : Nat) l.length none)), VV.one (V1.c (C.int .u64 n)), VV.one (V1.c (C.str
 s)), VV.any, VV.any, VV.any, VV.any, VV.one (V1.c (C.ptr (2 : Nat) (0 : Nat) (0 : Nat))), VV.one (V1.c (C.ptr (3 : Nat) (0 : Nat) (0 : Nat))), VV.one (V1.c (C.rs 5 (1 : Nat) (RS.mk z.snd.snd.snd.fst (0
 : Nat) l.length (far l)))), VV.one (V1.c (C.int .i64 ((↑z.fst : Int) + (1 : Int)))), VV.one (V1.c (C.rs 5 (1 : Nat) RS.nil)), VV.one (V1.c (C.rs 5 (1 : Nat) (RS.mk b (0 : Nat) (cont z.snd.snd.fst (RS.mk
 z.snd.snd.snd.fst (0 : Nat) l.length (far l)) ++ wordsF s).length c)))] ++ anys 104) [Atom.ro Kd.u8 l, Atom.bag y_1.snd, Atom.cells 40 [C.slc (4 : Nat) (0 : Nat) (1 : Nat) none, C.slc (5 : Nat) (0 : Nat)
 (1 : Nat) none, C.nils, C.nils, C.nils, C.nils, C.nils, C.nils, C.nils, C.nils, C.nils, C.nils, C.nils, C.nils, C.nils, C.nils, C.nils, C.nils, C.nils, C.nils, C.nils, C.nils, C.nils, C.nils, C.nils, C.nils],
 Atom.cells 46 (bookC false false y_1.fst.turn y_1.fst.deep [C.slc (28 : Nat) (0 : Nat) y_1.fst.o.length none, C.slc (29 : Nat) (0 : Nat) y_1.fst.t.length none, C.slc (30 : Nat) (0 : Nat) y_1.fst.w.length
 none, C.slc (31 : Nat) (0 : Nat) y_1.fst.n.length none, C.slc (32 : Nat) (0 : Nat) y_1.fst.f.length none, C.slc (33 : Nat) (0 : Nat) y_1.fst.m.length none, C.slc (34 : Nat) (0 : Nat) y_1.fst.d.length none,
 C.slc (35 : Nat) (0 : Nat) y_1.fst.r.length none, C.int .i64 y_1.fst.seen]), Atom.arr Kd.ru8 [RS.mk z.snd.snd.snd.fst (0 : Nat) (far l) z.snd.snd.snd.snd], Atom.arr Kd.int [(↑l.length : Int)], Atom.gone,
 Atom.gone, Atom.gone, Atom.gone, Atom.gone, Atom.gone, Atom.gone, Atom.gone, Atom.gone, Atom.gone, Atom.arr Kd.u8 (numF (9 : Nat) n), Atom.arr Kd.u8 (l ++ numF (9 : Nat) n), Atom.arr Kd.u8 (wordsF s),
 Atom.arr Kd.u8 (l ++ wordsF s), Atom.gone, Atom.gone, Atom.gone, Atom.gone, Atom.gone, Atom.gone, Atom.gone, Atom.gone, Atom.arr Kd.ru8 y_1.fst.o, Atom.arr Kd.ru8 y_1.fst.t, Atom.arr Kd.ru8 y_1.fst.w,
 Atom.arr Kd.ru8 y_1.fst.n, Atom.arr Kd.ru8 y_1.fst.f, Atom.arr Kd.int y_1.fst.m, Atom.arr Kd.int y_1.fst.d, Atom.arr Kd.int y_1.fst.r]) ∧ ∀ (b c : Nat), z.snd.snd.fst b = none → (cont z.snd.snd.fst (RS.mk
 z.snd.snd.snd.fst 0 l.length (far l)) ++ numF 9 n).length ≤ c → i64ok ((100 : Int) * (↑z.fst : Int)) ∧ (RestOk (bput z.snd.snd.fst b (BI.row Kd.u8 c (cont z.snd.snd.fst (RS.mk z.snd.snd.snd.fst 0 l.length
 (far l)) ++ numF 9 n))) (BS.mk (z.snd.fst.turn) (z.snd.fst.deep) (z.snd.fst.o) (z.snd.fst.t) (z.snd.fst.w) (z.snd.fst.n) (z.snd.fst.f) (z.snd.fst.m) (z.snd.fst.d) (z.snd.fst.r) (z.snd.fst.seen)) ∧ Alone
 (bput z.snd.snd.fst b (BI.row Kd.u8 c (cont z.snd.snd.fst (RS.mk z.snd.snd.snd.fst 0 l.length (far l)) ++ numF 9 n))) Kd.u8 1000000 (Bk.mk (z.snd.fst.o) (z.snd.fst.t) (z.snd.fst.w) (z.snd.fst.n) (z.snd.fst.f))
 (RS.mk b 0 (cont z.snd.snd.fst (RS.mk z.snd.snd.snd.fst 0 l.length (far l)) ++ numF 9 n).length c) ∧ ((-1000000000000 : Int) ≤ (100 : Int) * (↑z.fst : Int) ∧ (100 : Int) * (↑z.fst : Int) ≤ (1000000000000
 : Int)) ∧ z.snd.fst.seen < (100000 : Int)) ∧ Into (K := KK) 0 [] [3, 6, 7, 8, 9, 10, 11, 12, 13, 1] [VV.one (V1.c (C.ptr 3 0 0)), VV.one (V1.c (C.rs 5 1 (RS.mk b 0 (cont z.snd.snd.fst (RS.mk z.snd.snd.snd.fst
 0 l.length (far l)) ++ numF 9 n).length c))), VV.one (V1.c (C.int .i64 ((100 : Int) * (↑z.fst : Int))))] [Atom.ro Kd.u8 l, Atom.bag (bput z.snd.snd.fst b (BI.row Kd.u8 c (cont z.snd.snd.fst (RS.mk z.snd.snd.snd.fst
 0 l.length (far l)) ++ numF 9 n))), Atom.cells 40 [C.slc 4 0 1 none, C.slc 5 0 1 none, C.nils, C.nils, C.nils, C.nils, C.nils, C.nils, C.nils, C.nils, C.nils, C.nils, C.nils, C.nils, C.nils, C.nils, C.nils,
 C.nils, C.nils, C.nils, C.nils, C.nils, C.nils, C.nils, C.nils, C.nils], Atom.cells 46 (bookC false false z.snd.fst.turn z.snd.fst.deep [C.slc 6 0 z.snd.fst.o.length none, C.slc 7 0 z.snd.fst.t.length
 none, C.slc 8 0 z.snd.fst.w.length none, C.slc 9 0 z.snd.fst.n.length none, C.slc 10 0 z.snd.fst.f.length none, C.slc 11 0 z.snd.fst.m.length none, C.slc 12 0 z.snd.fst.d.length none, C.slc 13 0 z.snd.fst.r.length
 none, C.int .i64 z.snd.fst.seen]), Atom.arr Kd.ru8 [RS.mk z.snd.snd.snd.fst 0 (far l) z.snd.snd.snd.snd], Atom.arr Kd.int [(↑l.length : Int)], Atom.arr Kd.ru8 z.snd.fst.o, Atom.arr Kd.ru8 z.snd.fst.t,
 Atom.arr Kd.ru8 z.snd.fst.w, Atom.arr Kd.ru8 z.snd.fst.n, Atom.arr Kd.ru8 z.snd.fst.f, Atom.arr Kd.int z.snd.fst.m, Atom.arr Kd.int z.snd.fst.d, Atom.arr Kd.int z.snd.fst.r, Atom.gone, Atom.arr Kd.u8 (cont
 z.snd.snd.fst (RS.mk z.snd.snd.snd.fst 0 l.length (far l)) ++ wordsF s), Atom.arr Kd.u8 (numF 9 n), Atom.arr Kd.u8 (l ++ numF 9 n), Atom.arr Kd.u8 (wordsF s), Atom.arr Kd.u8 (l ++ wordsF s)] [VV.one (V1.c
 (C.ptr 0 0 0)), VV.one (V1.c (C.rs 5 1 (RS.mk b 0 (cont z.snd.snd.fst (RS.mk z.snd.snd.snd.fst 0 l.length (far l)) ++ numF 9 n).length c))), VV.one (V1.c (C.int .i64 ((100 : Int) * (↑z.fst : Int))))] [Atom.cells
 46 (bookC false false z.snd.fst.turn z.snd.fst.deep [C.slc 1 0 z.snd.fst.o.length none, C.slc 2 0 z.snd.fst.t.length none, C.slc 3 0 z.snd.fst.w.length none, C.slc 4 0 z.snd.fst.n.length none, C.slc 5
 0 z.snd.fst.f.length none, C.slc 6 0 z.snd.fst.m.length none, C.slc 7 0 z.snd.fst.d.length none, C.slc 8 0 z.snd.fst.r.length none, C.int .i64 z.snd.fst.seen]), Atom.arr Kd.ru8 z.snd.fst.o, Atom.arr Kd.ru8
 z.snd.fst.t, Atom.arr Kd.ru8 z.snd.fst.w, Atom.arr Kd.ru8 z.snd.fst.n, Atom.arr Kd.ru8 z.snd.fst.f, Atom.arr Kd.int z.snd.fst.m, Atom.arr Kd.int z.snd.fst.d, Atom.arr Kd.int z.snd.fst.r, Atom.bag (bput
 z.snd.snd.fst b (BI.row Kd.u8 c (cont z.snd.snd.fst (RS.mk z.snd.snd.snd.fst 0 l.length (far l)) ++ numF 9 n)))] ∧ ∀ (y : BS × Bag KK), (RestOk y.snd y.fst ∧ y.fst.seen = z.snd.fst.seen + (1 : Int) ∧ ∀
 (b_1 : Nat) (i : BI KK), bput z.snd.snd.fst b (BI.row Kd.u8 c (cont z.snd.snd.fst (RS.mk z.snd.snd.snd.fst 0 l.length (far l)) ++ numF 9 n)) b_1 = some i → (∀ (y : RS), List.Mem y (z.snd.fst.o ++ (z.snd.fst.t
 ++ (z.snd.fst.w ++ (z.snd.fst.n ++ z.snd.fst.f)))) → ¬y.At b_1) → ¬(RS.mk b 0 (cont z.snd.snd.fst (RS.mk z.snd.snd.snd.fst (0 : Nat) l.length (far l)) ++ numF (9 : Nat) n).length c).At b_1 → y.snd b_1
 = some i ∧ ∀ (y_1 : RS), List.Mem y_1 (y.fst.o ++ (y.fst.t ++ (y.fst.w ++ (y.fst.n ++ y.fst.f)))) → ¬y_1.At b_1) → (cont z.snd.snd.fst (RS.mk z.snd.snd.snd.fst 0 l.length (far l)) ++ wordsF s).length =
 (cont z.snd.snd.fst (RS.mk z.snd.snd.snd.fst 0 l.length (far l)) ++ wordsF s).length ∧ (cont z.snd.snd.fst (RS.mk z.snd.snd.snd.fst 0 l.length (far l)) ++ wordsF s = [] → i64ok ((100 : Int) * (↑z.fst :
 Int)) ∧ i64ok ((100 : Int) * (↑z.fst : Int) + (50 : Int)) ∧ (RestOk y.snd (BS.mk (y.fst.turn) (y.fst.deep) (y.fst.o) (y.fst.t) (y.fst.w) (y.fst.n) (y.fst.f) (y.fst.m) (y.fst.d) (y.fst.r) (y.fst.seen))
 ∧ Alone y.snd Kd.u8 (1000000 : Nat) (Bk.mk (y.fst.o) (y.fst.t) (y.fst.w) (y.fst.n) (y.fst.f)) RS.nil ∧ ((-1000000000000 : Int) ≤ (100 : Int) * (↑z.fst : Int) + (50 : Int) ∧ (100 : Int) * (↑z.fst : Int)
 + (50 : Int) ≤ (1000000000000 : Int)) ∧ y.fst.seen < (100000 : Int)) ∧ Into (K := KK) 0 [] [3, 20, 21, 22, 23, 24, 25, 26, 27, 1] [VV.one (V1.c (C.ptr (3 : Nat) (0 : Nat) (0 : Nat))), VV.one (V1.c (C.rs
 5 (1 : Nat) RS.nil)), VV.one (V1.c (C.int .i64 ((100 : Int) * (↑z.fst : Int) + (50 : Int))))] [Atom.ro Kd.u8 l, Atom.bag y.snd, Atom.cells 40 [C.slc (4 : Nat) (0 : Nat) (1 : Nat) none, C.slc (5 : Nat)
 (0 : Nat) (1 : Nat) none, C.nils, C.nils, C.nils, C.nils, C.nils, C.nils, C.nils, C.nils, C.nils, C.nils, C.nils, C.nils, C.nils, C.nils, C.nils, C.nils, C.nils, C.nils, C.nils, C.nils, C.nils, C.nils,
 C.nils, C.nils], Atom.cells 46 (bookC false false y.fst.turn y.fst.deep [C.slc (20 : Nat) (0 : Nat) y.fst.o.length none, C.slc (21 : Nat) (0 : Nat) y.fst.t.length none, C.slc (22 : Nat) (0 : Nat) y.fst.w.length
 none, C.slc (23 : Nat) (0 : Nat) y.fst.n.length none, C.slc (24 : Nat) (0 : Nat) y.fst.f.length none, C.slc (25 : Nat) (0 : Nat) y.fst.m.length none, C.slc (26 : Nat) (0 : Nat) y.fst.d.length none, C.slc
 (27 : Nat) (0 : Nat) y.fst.r.length none, C.int .i64 y.fst.seen]), Atom.arr Kd.ru8 [RS.mk z.snd.snd.snd.fst (0 : Nat) (far l) z.snd.snd.snd.snd], Atom.arr Kd.int [(↑l.length : Int)], Atom.gone, Atom.gone,
 Atom.gone, Atom.gone, Atom.gone, Atom.gone, Atom.gone, Atom.gone, Atom.gone, Atom.gone, Atom.arr Kd.u8 (numF 9 n), Atom.arr Kd.u8 (l ++ numF (9 : Nat) n), Atom.arr Kd.u8 (wordsF s), Atom.arr Kd.u8 (l ++
 wordsF s), Atom.arr Kd.ru8 y.fst.o, Atom.arr Kd.ru8 y.fst.t, Atom.arr Kd.ru8 y.fst.w, Atom.arr Kd.ru8 y.fst.n, Atom.arr Kd.ru8 y.fst.f, Atom.arr Kd.int y.fst.m, Atom.arr Kd.int y.fst.d, Atom.arr Kd.int
 y.fst.r] [VV.one (V1.c (C.ptr (0 : Nat) (0 : Nat) (0 : Nat))), VV.one (V1.c (C.rs 5 (1 : Nat) RS.nil)), VV.one (V1.c (C.int .i64 ((100 : Int) * (↑z.fst : Int) + (50 : Int))))] [Atom.cells 46 (bookC false
 false y.fst.turn y.fst.deep [C.slc (1 : Nat) (0 : Nat) y.fst.o.length none, C.slc (2 : Nat) (0 : Nat) y.fst.t.length none, C.slc (3 : Nat) (0 : Nat) y.fst.w.length none, C.slc (4 : Nat) (0 : Nat) y.fst.n.length
 none, C.slc (5 : Nat) (0 : Nat) y.fst.f.length none, C.slc (6 : Nat) (0 : Nat) y.fst.m.length none, C.slc (7 : Nat) (0 : Nat) y.fst.d.length none, C.slc (8 : Nat) (0 : Nat) y.fst.r.length none, C.int .i64
 y.fst.seen]), Atom.arr Kd.ru8 y.fst.o, Atom.arr Kd.ru8 y.fst.t, Atom.arr Kd.ru8 y.fst.w, Atom.arr Kd.ru8 y.fst.n, Atom.arr Kd.ru8 y.fst.f, Atom.arr Kd.int y.fst.m, Atom.arr Kd.int y.fst.d, Atom.arr Kd.int
 y.fst.r, Atom.bag y.snd] ∧ ∀ (y_1 : BS × Bag KK), (RestOk y_1.snd y_1.fst ∧ y_1.fst.seen = y.fst.seen + (1 : Int) ∧ ∀ (b : Nat) (i : BI KK), y.snd b = some i → (∀ (y_2 : RS), List.Mem y_2 (y.fst.o ++ (y.fst.t
 ++ (y.fst.w ++ (y.fst.n ++ y.fst.f)))) → ¬y_2.At b) → ¬RS.nil.At b → y_1.snd b = some i ∧ ∀ (y : RS), List.Mem y (y_1.fst.o ++ (y_1.fst.t ++ (y_1.fst.w ++ (y_1.fst.n ++ y_1.fst.f)))) → ¬y.At b) → i64ok
 ((↑z.fst : Int) + (1 : Int)) ∧ Enter ((1 : Nat) + (1 : Nat)) (inv_puts1 l n s) (fun (z' : Nat × BS × Bag KK × Nat × Nat) => (3 : Nat) - z'.fst < (3 : Nat) - z.fst) ([VV.one (V1.c (C.slc (0 : Nat) (0 :
 Nat) l.length none)), VV.one (V1.c (C.int .u64 n)), VV.one (V1.c (C.str s)), VV.any, VV.any, VV.any, VV.any, VV.one (V1.c (C.ptr (2 : Nat) (0 : Nat) (0 : Nat))), VV.one (V1.c (C.ptr (3 : Nat) (0 : Nat)
 (0 : Nat))), VV.one (V1.c (C.rs 5 (1 : Nat) (RS.mk z.snd.snd.snd.fst (0 : Nat) l.length (far l)))), VV.one (V1.c (C.int .i64 ((↑z.fst : Int) + (1 : Int)))), VV.one (V1.c (C.rs 5 (1 : Nat) (RS.mk b (0 :
 Nat) (cont z.snd.snd.fst (RS.mk z.snd.snd.snd.fst (0 : Nat) l.length (far l)) ++ numF (9 : Nat) n).length c))), VV.one (V1.c (C.rs 5 (1 : Nat) RS.nil))] ++ anys 104) [Atom.ro Kd.u8 l, Atom.bag y_1.snd,
 Atom.cells 40 [C.slc (4 : Nat) (0 : Nat) (1 : Nat) none, C.slc (5 : Nat) (0 : Nat) (1 : Nat) none, C.nils, C.nils, C.nils, C.nils, C.nils, C.nils, C.nils, C.nils, C.nils, C.nils, C.nils, C.nils, C.nils,
 C.nils, C.nils, C.nils, C.nils, C.nils, C.nils, C.nils, C.nils, C.nils, C.nils, C.nils], Atom.cells 46 (bookC false false y_1.fst.turn y_1.fst.deep [C.slc (28 : Nat) (0 : Nat) y_1.fst.o.length none, C.slc
 (29 : Nat) (0 : Nat) y_1.fst.t.length none, C.slc (30 : Nat) (0 : Nat) y_1.fst.w.length none, C.slc (31 : Nat) (0 : Nat) y_1.fst.n.length none, C.slc (32 : Nat) (0 : Nat) y_1.fst.f.length none, C.slc (33
 : Nat) (0 : Nat) y_1.fst.m.length none, C.slc (34 : Nat) (0 : Nat) y_1.fst.d.length none, C.slc (35 : Nat) (0 : Nat) y_1.fst.r.length none, C.int .i64 y_1.fst.seen]), Atom.arr Kd.ru8 [RS.mk z.snd.snd.snd.fst
 (0 : Nat) (far l) z.snd.snd.snd.snd], Atom.arr Kd.int [(↑l.length : Int)], Atom.gone, Atom.gone, Atom.gone, Atom.gone, Atom.gone, Atom.gone, Atom.gone, Atom.gone, Atom.gone, Atom.gone, Atom.arr Kd.u8 (numF
 (9 : Nat) n), Atom.arr Kd.u8 (l ++ numF (9 : Nat) n), Atom.arr Kd.u8 (wordsF s), Atom.arr Kd.u8 (l ++ wordsF s), Atom.gone, Atom.gone, Atom.gone, Atom.gone, Atom.gone, Atom.gone, Atom.gone, Atom.gone,
 Atom.arr Kd.ru8 y_1.fst.o, Atom.arr Kd.ru8 y_1.fst.t, Atom.arr Kd.ru8 y_1.fst.w, Atom.arr Kd.ru8 y_1.fst.n, Atom.arr Kd.ru8 y_1.fst.f, Atom.arr Kd.int y_1.fst.m, Atom.arr Kd.int y_1.fst.d, Atom.arr Kd.int
 y_1.fst.r]) ∧ ∀ (b_1 c_1 : Nat), y.snd b_1 = none → (cont z.snd.snd.fst (RS.mk z.snd.snd.snd.fst 0 l.length (far l)) ++ wordsF s).length ≤ c_1 → i64ok ((100 : Int) * (↑z.fst : Int)) ∧ i64ok ((100 : Int)
 * (↑z.fst : Int) + (50 : Int)) ∧ (RestOk (bput y.snd b_1 (BI.row Kd.u8 c_1 (cont z.snd.snd.fst (RS.mk z.snd.snd.snd.fst (0 : Nat) l.length (far l)) ++ wordsF s))) (BS.mk (y.fst.turn) (y.fst.deep) (y.fst.o)
 (y.fst.t) (y.fst.w) (y.fst.n) (y.fst.f) (y.fst.m) (y.fst.d) (y.fst.r) (y.fst.seen)) ∧ Alone (bput y.snd b_1 (BI.row Kd.u8 c_1 (cont z.snd.snd.fst (RS.mk z.snd.snd.snd.fst (0 : Nat) l.length (far l)) ++
 wordsF s))) Kd.u8 (1000000 : Nat) (Bk.mk (y.fst.o) (y.fst.t) (y.fst.w) (y.fst.n) (y.fst.f)) (RS.mk b_1 (0 : Nat) (cont z.snd.snd.fst (RS.mk z.snd.snd.snd.fst (0 : Nat) l.length (far l)) ++ wordsF s).length
 c_1) ∧ ((-1000000000000 : Int) ≤ (100 : Int) * (↑z.fst : Int) + (50 : Int) ∧ (100 : Int) * (↑z.fst : Int) + (50 : Int) ≤ (1000000000000 : Int)) ∧ y.fst.seen < (100000 : Int)) ∧ Into (K := KK) 0 [] [3,
 (20 : Nat), (21 : Nat), (22 : Nat), (23 : Nat), (24 : Nat), (25 : Nat), (26 : Nat), (27 : Nat), 1] [VV.one (V1.c (C.ptr (3 : Nat) (0 : Nat) (0 : Nat))), VV.one (V1.c (C.rs 5 (1 : Nat) (RS.mk b_1 (0 : Nat)
 (cont z.snd.snd.fst (RS.mk z.snd.snd.snd.fst (0 : Nat) l.length (far l)) ++ wordsF s).length c_1))), VV.one (V1.c (C.int .i64 ((100 : Int) * (↑z.fst : Int) + (50 : Int))))] [Atom.ro Kd.u8 l, Atom.bag (bput
 y.snd b_1 (BI.row Kd.u8 c_1 (cont z.snd.snd.fst (RS.mk z.snd.snd.snd.fst (0 : Nat) l.length (far l)) ++ wordsF s))), Atom.cells 40 [C.slc (4 : Nat) (0 : Nat) (1 : Nat) none, C.slc (5 : Nat) (0 : Nat) (1
 : Nat) none, C.nils, C.nils, C.nils, C.nils, C.nils, C.nils, C.nils, C.nils, C.nils, C.nils, C.nils, C.nils, C.nils, C.nils, C.nils, C.nils, C.nils, C.nils, C.nils, C.nils, C.nils, C.nils, C.nils, C.nils],
 Atom.cells 46 (bookC false false y.fst.turn y.fst.deep [C.slc (20 : Nat) (0 : Nat) y.fst.o.length none, C.slc (21 : Nat) (0 : Nat) y.fst.t.length none, C.slc (22 : Nat) (0 : Nat) y.fst.w.length none, C.slc
 (23 : Nat) (0 : Nat) y.fst.n.length none, C.slc (24 : Nat) (0 : Nat) y.fst.f.length none, C.slc (25 : Nat) (0 : Nat) y.fst.m.length none, C.slc (26 : Nat) (0 : Nat) y.fst.d.length none, C.slc (27 : Nat)
 (0 : Nat) y.fst.r.length none, C.int .i64 y.fst.seen]), Atom.arr Kd.ru8 [RS.mk z.snd.snd.snd.fst (0 : Nat) (far l) z.snd.snd.snd.snd], Atom.arr Kd.int [(↑l.length : Int)], Atom.gone, Atom.gone, Atom.gone,
 Atom.gone, Atom.gone, Atom.gone, Atom.gone, Atom.gone, Atom.gone, Atom.gone, Atom.arr Kd.u8 (numF (9 : Nat) n), Atom.arr Kd.u8 (l ++ numF (9 : Nat) n), Atom.arr Kd.u8 (wordsF s), Atom.arr Kd.u8 (l ++ wordsF
 s), Atom.arr Kd.ru8 y.fst.o, Atom.arr Kd.ru8 y.fst.t, Atom.arr Kd.ru8 y.fst.w, Atom.arr Kd.ru8 y.fst.n, Atom.arr Kd.ru8 y.fst.f, Atom.arr Kd.int y.fst.m, Atom.arr Kd.int y.fst.d, Atom.arr Kd.int y.fst.r]
 [VV.one (V1.c (C.ptr (0 : Nat) (0 : Nat) (0 : Nat))), VV.one (V1.c (C.rs 5 (1 : Nat) (RS.mk b_1 (0 : Nat) (cont z.snd.snd.fst (RS.mk z.snd.snd.snd.fst (0 : Nat) l.length (far l)) ++ wordsF s).length c_1))),
 VV.one (V1.c (C.int .i64 ((100 : Int) * (↑z.fst : Int) + (50 : Int))))] [Atom.cells 46 (bookC false false y.fst.turn y.fst.deep [C.slc (1 : Nat) (0 : Nat) y.fst.o.length none, C.slc (2 : Nat) (0 : Nat)
 y.fst.t.length none, C.slc (3 : Nat) (0 : Nat) y.fst.w.length none, C.slc (4 : Nat) (0 : Nat) y.fst.n.length none, C.slc (5 : Nat) (0 : Nat) y.fst.f.length none, C.slc (6 : Nat) (0 : Nat) y.fst.m.length
 none, C.slc (7 : Nat) (0 : Nat) y.fst.d.length none, C.slc (8 : Nat) (0 : Nat) y.fst.r.length none, C.int .i64 y.fst.seen]), Atom.arr Kd.ru8 y.fst.o, Atom.arr Kd.ru8 y.fst.t, Atom.arr Kd.ru8 y.fst.w, Atom.arr
 Kd.ru8 y.fst.n, Atom.arr Kd.ru8 y.fst.f, Atom.arr Kd.int y.fst.m, Atom.arr Kd.int y.fst.d, Atom.arr Kd.int y.fst.r, Atom.bag (bput y.snd b_1 (BI.row Kd.u8 c_1 (cont z.snd.snd.fst (RS.mk z.snd.snd.snd.fst
 (0 : Nat) l.length (far l)) ++ wordsF s)))] ∧ ∀ (y_1 : BS × Bag KK), (RestOk y_1.snd y_1.fst ∧ y_1.fst.seen = y.fst.seen + (1 : Int) ∧ ∀ (b : Nat) (i : BI KK), bput y.snd b_1 (BI.row Kd.u8 c_1 (cont z.snd.snd.fst
 (RS.mk z.snd.snd.snd.fst (0 : Nat) l.length (far l)) ++ wordsF s)) b = some i → (∀ (y_2 : RS), List.Mem y_2 (y.fst.o ++ (y.fst.t ++ (y.fst.w ++ (y.fst.n ++ y.fst.f)))) → ¬y_2.At b) → ¬(RS.mk b_1 (0 : Nat)
 (cont z.snd.snd.fst (RS.mk z.snd.snd.snd.fst (0 : Nat) l.length (far l)) ++ wordsF s).length c_1).At b → y_1.snd b = some i ∧ ∀ (y : RS), List.Mem y (y_1.fst.o ++ (y_1.fst.t ++ (y_1.fst.w ++ (y_1.fst.n
 ++ y_1.fst.f)))) → ¬y.At b) → i64ok ((↑z.fst : Int) + (1 : Int)) ∧ Enter ((1 : Nat) + (1 : Nat)) (inv_puts1 l n s) (fun (z' : Nat × BS × Bag KK × Nat × Nat) => (3 : Nat) - z'.fst < (3 : Nat) - z.fst) ([VV.one
 (V1.c (C.slc (0 : Nat) (0 : Nat) l.length none)), VV.one (V1.c (C.int .u64 n)), VV.one (V1.c (C.str s)), VV.any, VV.any, VV.any, VV.any, VV.one (V1.c (C.ptr (2 : Nat) (0 : Nat) (0 : Nat))), VV.one (V1.c
 (C.ptr (3 : Nat) (0 : Nat) (0 : Nat))), VV.one (V1.c (C.rs 5 (1 : Nat) (RS.mk z.snd.snd.snd.fst (0 : Nat) l.length (far l)))), VV.one (V1.c (C.int .i64 ((↑z.fst : Int) + (1 : Int)))), VV.one (V1.c (C.rs
 5 (1 : Nat) (RS.mk b (0 : Nat) (cont z.snd.snd.fst (RS.mk z.snd.snd.snd.fst (0 : Nat) l.length (far l)) ++ numF (9 : Nat) n).length c))), VV.one (V1.c (C.rs 5 (1 : Nat) (RS.mk b_1 (0 : Nat) (cont z.snd.snd.fst
 (RS.mk z.snd.snd.snd.fst (0 : Nat) l.length (far l)) ++ wordsF s).length c_1)))] ++ anys 104) [Atom.ro Kd.u8 l, Atom.bag y_1.snd, Atom.cells 40 [C.slc (4 : Nat) (0 : Nat) (1 : Nat) none, C.slc (5 : Nat)
 (0 : Nat) (1 : Nat) none, C.nils, C.nils, C.nils, C.nils, C.nils, C.nils, C.nils, C.nils, C.nils, C.nils, C.nils, C.nils, C.nils, C.nils, C.nils, C.nils, C.nils, C.nils, C.nils, C.nils, C.nils, C.nils,
 C.nils, C.nils], Atom.cells 46 (bookC false false y_1.fst.turn y_1.fst.deep [C.slc (28 : Nat) (0 : Nat) y_1.fst.o.length none, C.slc (29 : Nat) (0 : Nat) y_1.fst.t.length none, C.slc (30 : Nat) (0 : Nat)
 y_1.fst.w.length none, C.slc (31 : Nat) (0 : Nat) y_1.fst.n.length none, C.slc (32 : Nat) (0 : Nat) y_1.fst.f.length none, C.slc (33 : Nat) (0 : Nat) y_1.fst.m.length none, C.slc (34 : Nat) (0 : Nat) y_1.fst.d.length
 none, C.slc (35 : Nat) (0 : Nat) y_1.fst.r.length none, C.int .i64 y_1.fst.seen]), Atom.arr Kd.ru8 [RS.mk z.snd.snd.snd.fst (0 : Nat) (far l) z.snd.snd.snd.snd], Atom.arr Kd.int [(↑l.length : Int)], Atom.gone,
 Atom.gone, Atom.gone, Atom.gone, Atom.gone, Atom.gone, Atom.gone, Atom.gone, Atom.gone, Atom.gone, Atom.arr Kd.u8 (numF (9 : Nat) n), Atom.arr Kd.u8 (l ++ numF (9 : Nat) n), Atom.arr Kd.u8 (wordsF s),
 Atom.arr Kd.u8 (l ++ wordsF s), Atom.gone, Atom.gone, Atom.gone, Atom.gone, Atom.gone, Atom.gone, Atom.gone, Atom.gone, Atom.arr Kd.ru8 y_1.fst.o, Atom.arr Kd.ru8 y_1.fst.t, Atom.arr Kd.ru8 y_1.fst.w,
 Atom.arr Kd.ru8 y_1.fst.n, Atom.arr Kd.ru8 y_1.fst.f, Atom.arr Kd.int y_1.fst.m, Atom.arr Kd.int y_1.fst.d, Atom.arr Kd.int y_1.fst.r]) (EndsAs 2 (ct_puts l n s φ) (boolv false) [Atom.ro Kd.u8 l, Atom.bag
 z.snd.snd.fst, Atom.cells 40 [C.slc 4 0 1 none, C.slc 5 0 1 none, C.nils, C.nils, C.nils, C.nils, C.nils, C.nils, C.nils, C.nils, C.nils, C.nils, C.nils, C.nils, C.nils, C.nils, C.nils, C.nils, C.nils,
 C.nils, C.nils, C.nils, C.nils, C.nils, C.nils, C.nils], Atom.cells 46 (bookC false false z.snd.fst.turn z.snd.fst.deep [C.slc 6 0 z.snd.fst.o.length none, C.slc 7 0 z.snd.fst.t.length none, C.slc 8 0
 z.snd.fst.w.length none, C.slc 9 0 z.snd.fst.n.length none, C.slc 10 0 z.snd.fst.f.length none, C.slc 11 0 z.snd.fst.m.length none, C.slc 12 0 z.snd.fst.d.length none, C.slc 13 0 z.snd.fst.r.length none,
 C.int .i64 z.snd.fst.seen]), Atom.arr Kd.ru8 [RS.mk z.snd.snd.snd.fst 0 (far l) z.snd.snd.snd.snd], Atom.arr Kd.int [(↑l.length : Int)], Atom.arr Kd.ru8 z.snd.fst.o, Atom.arr Kd.ru8 z.snd.fst.t, Atom.arr
 Kd.ru8 z.snd.fst.w, Atom.arr Kd.ru8 z.snd.fst.n, Atom.arr Kd.ru8 z.snd.fst.f, Atom.arr Kd.int z.snd.fst.m, Atom.arr Kd.int z.snd.fst.d, Atom.arr Kd.int z.snd.fst.r, Atom.arr Kd.u8 (cont z.snd.snd.fst (RS.mk
 z.snd.snd.snd.fst 0 l.length (far l)) ++ numF 9 n), Atom.arr Kd.u8 (cont z.snd.snd.fst (RS.mk z.snd.snd.snd.fst 0 l.length (far l)) ++ wordsF s), Atom.arr Kd.u8 (numF 9 n), Atom.arr Kd.u8 (l ++ numF 9
 n), Atom.arr Kd.u8 (wordsF s), Atom.arr Kd.u8 (l ++ wordsF s)])) (EndsAs 2 (ct_puts l n s φ) (boolv false) [Atom.ro Kd.u8 l, Atom.bag z.snd.snd.fst, Atom.cells 40 [C.slc 4 0 1 none, C.slc 5 0 1 none, C.nils,
 C.nils, C.nils, C.nils, C.nils, C.nils, C.nils, C.nils, C.nils, C.nils, C.nils, C.nils, C.nils, C.nils, C.nils, C.nils, C.nils, C.nils, C.nils, C.nils, C.nils, C.nils, C.nils, C.nils], Atom.cells 46 (bookC
 false false z.snd.fst.turn z.snd.fst.deep [C.slc 6 0 z.snd.fst.o.length none, C.slc 7 0 z.snd.fst.t.length none, C.slc 8 0 z.snd.fst.w.length none, C.slc 9 0 z.snd.fst.n.length none, C.slc 10 0 z.snd.fst.f.length
 none, C.slc 11 0 z.snd.fst.m.length none, C.slc 12 0 z.snd.fst.d.length none, C.slc 13 0 z.snd.fst.r.length none, C.int .i64 z.snd.fst.seen]), Atom.arr Kd.ru8 [RS.mk z.snd.snd.snd.fst 0 (far l) z.snd.snd.snd.snd],
 Atom.arr Kd.int [(↑l.length : Int)], Atom.arr Kd.ru8 z.snd.fst.o, Atom.arr Kd.ru8 z.snd.fst.t, Atom.arr Kd.ru8 z.snd.fst.w, Atom.arr Kd.ru8 z.snd.fst.n, Atom.arr Kd.ru8 z.snd.fst.f, Atom.arr Kd.int z.snd.fst.m,
 Atom.arr Kd.int z.snd.fst.d, Atom.arr Kd.int z.snd.fst.r, Atom.arr Kd.u8 (cont z.snd.snd.fst (RS.mk z.snd.snd.snd.fst 0 l.length (far l)) ++ numF 9 n), Atom.arr Kd.u8 (cont z.snd.snd.fst (RS.mk z.snd.snd.snd.fst
 0 l.length (far l)) ++ wordsF s), Atom.arr Kd.u8 (numF 9 n), Atom.arr Kd.u8 (l ++ numF 9 n), Atom.arr Kd.u8 (wordsF s), Atom.arr Kd.u8 (l ++ wordsF s)])) (EndsAs 2 (ct_puts l n s φ) (boolv false) [Atom.ro
 Kd.u8 l, Atom.bag z.snd.snd.fst, Atom.cells 40 [C.slc 4 0 1 none, C.slc 5 0 1 none, C.nils, C.nils, C.nils, C.nils, C.nils, C.nils, C.nils, C.nils, C.nils, C.nils, C.nils, C.nils, C.nils, C.nils, C.nils,
 C.nils, C.nils, C.nils, C.nils, C.nils, C.nils, C.nils, C.nils, C.nils], Atom.cells 46 (bookC false false z.snd.fst.turn z.snd.fst.deep [C.slc 6 0 z.snd.fst.o.length none, C.slc 7 0 z.snd.fst.t.length
 none, C.slc 8 0 z.snd.fst.w.length none, C.slc 9 0 z.snd.fst.n.length none, C.slc 10 0 z.snd.fst.f.length none, C.slc 11 0 z.snd.fst.m.length none, C.slc 12 0 z.snd.fst.d.length none, C.slc 13 0 z.snd.fst.r.length
 none, C.int .i64 z.snd.fst.seen]), Atom.arr Kd.ru8 [RS.mk z.snd.snd.snd.fst 0 (far l) z.snd.snd.snd.snd], Atom.arr Kd.int [(↑l.length : Int)], Atom.arr Kd.ru8 z.snd.fst.o, Atom.arr Kd.ru8 z.snd.fst.t,
 Atom.arr Kd.ru8 z.snd.fst.w, Atom.arr Kd.ru8 z.snd.fst.n, Atom.arr Kd.ru8 z.snd.fst.f, Atom.arr Kd.int z.snd.fst.m, Atom.arr Kd.int z.snd.fst.d, Atom.arr Kd.int z.snd.fst.r, Atom.arr Kd.u8 (cont z.snd.snd.fst
 (RS.mk z.snd.snd.snd.fst 0 l.length (far l)) ++ numF 9 n), Atom.arr Kd.u8 (cont z.snd.snd.fst (RS.mk z.snd.snd.snd.fst 0 l.length (far l)) ++ wordsF s), Atom.arr Kd.u8 (numF 9 n), Atom.arr Kd.u8 (l ++
 numF 9 n)])) (Enter 2 (inv_puts2 l n s (BS.mk (z.snd.fst.turn) (z.snd.fst.deep) (z.snd.fst.o) (z.snd.fst.t) (z.snd.fst.w) (z.snd.fst.n) (z.snd.fst.f) (z.snd.fst.m) (z.snd.fst.d) (z.snd.fst.r) (z.snd.fst.seen))
 z.snd.snd.snd.fst z.snd.snd.snd.snd) (fun (x : Nat × Bag KK) => True) ([VV.one (V1.c (C.slc 0 0 l.length none)), VV.one (V1.c (C.int .u64 n)), VV.one (V1.c (C.str s)), VV.any, VV.any, VV.any, VV.any, VV.one
 (V1.c (C.ptr 2 0 0)), VV.one (V1.c (C.ptr 3 0 0)), VV.one (V1.c (C.rs 5 1 (RS.mk z.snd.snd.snd.fst 0 l.length (far l)))), i64 (↑z.fst : Int), VV.any, VV.any, i64 (0 : Int)] ++ anys 103) [Atom.ro Kd.u8
 l, Atom.bag z.snd.snd.fst, Atom.cells 40 [C.slc 4 0 1 none, C.slc 5 0 1 none, C.nils, C.nils, C.nils, C.nils, C.nils, C.nils, C.nils, C.nils, C.nils, C.nils, C.nils, C.nils, C.nils, C.nils, C.nils, C.nils,
 C.nils, C.nils, C.nils, C.nils, C.nils, C.nils, C.nils, C.nils], Atom.cells 46 (bookC false false z.snd.fst.turn z.snd.fst.deep [C.slc 6 0 z.snd.fst.o.length none, C.slc 7 0 z.snd.fst.t.length none, C.slc
 8 0 z.snd.fst.w.length none, C.slc 9 0 z.snd.fst.n.length none, C.slc 10 0 z.snd.fst.f.length none, C.slc 11 0 z.snd.fst.m.length none, C.slc 12 0 z.snd.fst.d.length none, C.slc 13 0 z.snd.fst.r.length
 none, C.int .i64 z.snd.fst.seen]), Atom.arr Kd.ru8 [RS.mk z.snd.snd.snd.fst 0 (far l) z.snd.snd.snd.snd], Atom.arr Kd.int [(↑l.length : Int)], Atom.arr Kd.ru8 z.snd.fst.o, Atom.arr Kd.ru8 z.snd.fst.t,
 Atom.arr Kd.ru8 z.snd.fst.w, Atom.arr Kd.ru8 z.snd.fst.n, Atom.arr Kd.ru8 z.snd.fst.f, Atom.arr Kd.int z.snd.fst.m, Atom.arr Kd.int z.snd.fst.d, Atom.arr Kd.int z.snd.fst.r] ∧ ∀ (z_1 : Nat × Bag KK), z_1.fst
 ≤ l.length ∧ RestOk z_1.snd (BS.mk (z.snd.fst.turn) (z.snd.fst.deep) (z.snd.fst.o) (z.snd.fst.t) (z.snd.fst.w) (z.snd.fst.n) (z.snd.fst.f) (z.snd.fst.m) (z.snd.fst.d) (z.snd.fst.r) (z.snd.fst.seen)) ∧
 Lent l z_1.fst z.snd.snd.snd.fst z.snd.snd.snd.snd (BS.mk (z.snd.fst.turn) (z.snd.fst.deep) (z.snd.fst.o) (z.snd.fst.t) (z.snd.fst.w) (z.snd.fst.n) (z.snd.fst.f) (z.snd.fst.m) (z.snd.fst.d) (z.snd.fst.r)
 (z.snd.fst.seen)) z_1.snd → ite2 (decide ((↑z_1.fst : Int) < (↑(RS.mk z.snd.snd.snd.fst 0 l.length (far l)).len : Int))) (((0 : Int) ≤ (↑z_1.fst : Int) ∧ (↑z_1.fst : Int) < (↑(RS.mk z.snd.snd.snd.fst 0
 l.length (far l)).len : Int)) ∧ ∃ (cap : Nat), ∃ (xs : List (Int)), z_1.snd (RS.mk z.snd.snd.snd.fst 0 l.length (far l)).blk = some (BI.row Kd.u8 cap xs) ∧ (RS.mk z.snd.snd.snd.fst 0 l.length (far l)).lo
 + (↑z_1.fst : Int).toNat < xs.length ∧ ((0 : Int) ≤ (↑z_1.fst : Int) ∧ (↑z_1.fst : Int) < (↑(RS.mk z.snd.snd.snd.fst 0 l.length (far l)).len : Int)) ∧ ∃ (cap : Nat), ∃ (xs_1 : List (Int)), z_1.snd (RS.mk
 z.snd.snd.snd.fst 0 l.length (far l)).blk = some (BI.row Kd.u8 cap xs_1) ∧ (RS.mk z.snd.snd.snd.fst 0 l.length (far l)).lo + (↑z_1.fst : Int).toNat < xs_1.length ∧ i64ok ((↑z_1.fst : Int) + (1 : Int))
 ∧ Enter 2 (inv_puts2 l n s (BS.mk (z.snd.fst.turn) (z.snd.fst.deep) (z.snd.fst.o) (z.snd.fst.t) (z.snd.fst.w) (z.snd.fst.n) (z.snd.fst.f) (z.snd.fst.m) (z.snd.fst.d) (z.snd.fst.r) (z.snd.fst.seen)) z.snd.snd.snd.fst
 z.snd.snd.snd.snd) (fun (z' : Nat × Bag KK) => l.length - z'.fst < l.length - z_1.fst) ([VV.one (V1.c (C.slc 0 0 l.length none)), VV.one (V1.c (C.int .u64 n)), VV.one (V1.c (C.str s)), VV.any, VV.any,
 VV.any, VV.any, VV.one (V1.c (C.ptr 2 0 0)), VV.one (V1.c (C.ptr 3 0 0)), VV.one (V1.c (C.rs 5 1 (RS.mk z.snd.snd.snd.fst 0 l.length (far l)))), VV.any, VV.any, VV.any, i64 ((↑z_1.fst : Int) + (1 : Int))]
 ++ anys 103) [Atom.ro Kd.u8 l, Atom.bag (bput z_1.snd (RS.mk z.snd.snd.snd.fst 0 l.length (far l)).blk (BI.row Kd.u8 cap (xs_1.set ((RS.mk z.snd.snd.snd.fst 0 l.length (far l)).lo + (↑z_1.fst : Int).toNat)
 (IntKind.wrap .u8 (rd xs ((RS.mk z.snd.snd.snd.fst 0 l.length (far l)).lo + (↑z_1.fst : Int).toNat) (0 : Int) + (1 : Int)))))), Atom.cells 40 [C.slc 4 0 1 none, C.slc 5 0 1 none, C.nils, C.nils, C.nils,
 C.nils, C.nils, C.nils, C.nils, C.nils, C.nils, C.nils, C.nils, C.nils, C.nils, C.nils, C.nils, C.nils, C.nils, C.nils, C.nils, C.nils, C.nils, C.nils, C.nils, C.nils], Atom.cells 46 (bookC false false
 z.snd.fst.turn z.snd.fst.deep [C.slc 6 0 z.snd.fst.o.length none, C.slc 7 0 z.snd.fst.t.length none, C.slc 8 0 z.snd.fst.w.length none, C.slc 9 0 z.snd.fst.n.length none, C.slc 10 0 z.snd.fst.f.length
 none, C.slc 11 0 z.snd.fst.m.length none, C.slc 12 0 z.snd.fst.d.length none, C.slc 13 0 z.snd.fst.r.length none, C.int .i64 z.snd.fst.seen]), Atom.arr Kd.ru8 [RS.mk z.snd.snd.snd.fst 0 (far l) z.snd.snd.snd.snd],
 Atom.arr Kd.int [(↑l.length : Int)], Atom.arr Kd.ru8 z.snd.fst.o, Atom.arr Kd.ru8 z.snd.fst.t, Atom.arr Kd.ru8 z.snd.fst.w, Atom.arr Kd.ru8 z.snd.fst.n, Atom.arr Kd.ru8 z.snd.fst.f, Atom.arr Kd.int z.snd.fst.m,
 Atom.arr Kd.int z.snd.fst.d, Atom.arr Kd.int z.snd.fst.r]) (Has z_1.snd (RS.mk z.snd.snd.snd.fst 0 l.length (far l)) ∧ Into (K := KK) 0 [] [1] [VV.one (V1.c (C.rs 5 1 (RS.mk z.snd.snd.snd.fst 0 l.length
 (far l)))), VV.one (V1.c C.nils)] [Atom.ro Kd.u8 l, Atom.bag z_1.snd, Atom.cells 40 [C.slc 4 0 1 none, C.slc 5 0 1 none, C.nils, C.nils, C.nils, C.nils, C.nils, C.nils, C.nils, C.nils, C.nils, C.nils,
 C.nils, C.nils, C.nils, C.nils, C.nils, C.nils, C.nils, C.nils, C.nils, C.nils, C.nils, C.nils, C.nils, C.nils], Atom.cells 46 (bookC false false z.snd.fst.turn z.snd.fst.deep [C.slc 6 0 z.snd.fst.o.length
 none, C.slc 7 0 z.snd.fst.t.length none, C.slc 8 0 z.snd.fst.w.length none, C.slc 9 0 z.snd.fst.n.length none, C.slc 10 0 z.snd.fst.f.length none, C.slc 11 0 z.snd.fst.m.length none, C.slc 12 0 z.snd.fst.d.length
 none, C.slc 13 0 z.snd.fst.r.length none, C.int .i64 z.snd.fst.seen]), Atom.arr Kd.ru8 [RS.mk z.snd.snd.snd.fst 0 (far l) z.snd.snd.snd.snd], Atom.arr Kd.int [(↑l.length : Int)], Atom.arr Kd.ru8 z.snd.fst.o,
 Atom.arr Kd.ru8 z.snd.fst.t, Atom.arr Kd.ru8 z.snd.fst.w, Atom.arr Kd.ru8 z.snd.fst.n, Atom.arr Kd.ru8 z.snd.fst.f, Atom.arr Kd.int z.snd.fst.m, Atom.arr Kd.int z.snd.fst.d, Atom.arr Kd.int z.snd.fst.r]
 [VV.one (V1.c (C.rs 5 1 (RS.mk z.snd.snd.snd.fst 0 l.length (far l)))), VV.one (V1.c C.nils)] [Atom.bag z_1.snd] ∧ ∀ (y : Unit), True → (Has z_1.snd (RS.mk z.snd.snd.snd.fst 0 l.length (far l)) ∧ (0 :
 Int) ≤ n ∧ n < (18446744073709551616 : Int)) ∧ Into (K := KK) 0 [] [1] [VV.one (V1.c (C.rs 5 1 (RS.mk z.snd.snd.snd.fst 0 l.length (far l)))), VV.one (V1.c (C.int .u64 n))] [Atom.ro Kd.u8 l, Atom.bag z_1.snd,
 Atom.cells 40 [C.slc 4 0 1 none, C.slc 5 0 1 none, C.nils, C.nils, C.nils, C.nils, C.nils, C.nils, C.nils, C.nils, C.nils, C.nils, C.nils, C.nils, C.nils, C.nils, C.nils, C.nils, C.nils, C.nils, C.nils,
 C.nils, C.nils, C.nils, C.nils, C.nils], Atom.cells 46 (bookC false false z.snd.fst.turn z.snd.fst.deep [C.slc 6 0 z.snd.fst.o.length none, C.slc 7 0 z.snd.fst.t.length none, C.slc 8 0 z.snd.fst.w.length
 none, C.slc 9 0 z.snd.fst.n.length none, C.slc 10 0 z.snd.fst.f.length none, C.slc 11 0 z.snd.fst.m.length none, C.slc 12 0 z.snd.fst.d.length none, C.slc 13 0 z.snd.fst.r.length none, C.int .i64 z.snd.fst.seen]),
 Atom.arr Kd.ru8 [RS.mk z.snd.snd.snd.fst 0 (far l) z.snd.snd.snd.snd], Atom.arr Kd.int [(↑l.length : Int)], Atom.arr Kd.ru8 z.snd.fst.o, Atom.arr Kd.ru8 z.snd.fst.t, Atom.arr Kd.ru8 z.snd.fst.w, Atom.arr
 Kd.ru8 z.snd.fst.n, Atom.arr Kd.ru8 z.snd.fst.f, Atom.arr Kd.int z.snd.fst.m, Atom.arr Kd.int z.snd.fst.d, Atom.arr Kd.int z.snd.fst.r, Atom.arr Kd.u8 (cont z_1.snd (RS.mk z.snd.snd.snd.fst 0 l.length
 (far l)))] [VV.one (V1.c (C.rs 5 1 (RS.mk z.snd.snd.snd.fst 0 l.length (far l)))), VV.one (V1.c (C.int .u64 n))] [Atom.bag z_1.snd] ∧ ∀ (y : Unit), True → ((0 : Int) ≤ n ∧ n < (18446744073709551616 : Int))
 ∧ Into (K := KK) 0 [] [] [VV.one (V1.c (C.int .u64 n))] [Atom.ro Kd.u8 l, Atom.bag z_1.snd, Atom.cells 40 [C.slc 4 0 1 none, C.slc 5 0 1 none, C.nils, C.nils, C.nils, C.nils, C.nils, C.nils, C.nils, C.nils,
 C.nils, C.nils, C.nils, C.nils, C.nils, C.nils, C.nils, C.nils, C.nils, C.nils, C.nils, C.nils, C.nils, C.nils, C.nils, C.nils], Atom.cells 46 (bookC false false z.snd.fst.turn z.snd.fst.deep [C.slc 6
 0 z.snd.fst.o.length none, C.slc 7 0 z.snd.fst.t.length none, C.slc 8 0 z.snd.fst.w.length none, C.slc 9 0 z.snd.fst.n.length none, C.slc 10 0 z.snd.fst.f.length none, C.slc 11 0 z.snd.fst.m.length none,
 C.slc 12 0 z.snd.fst.d.length none, C.slc 13 0 z.snd.fst.r.length none, C.int .i64 z.snd.fst.seen]), Atom.arr Kd.ru8 [RS.mk z.snd.snd.snd.fst 0 (far l) z.snd.snd.snd.snd], Atom.arr Kd.int [(↑l.length :
 Int)], Atom.arr Kd.ru8 z.snd.fst.o, Atom.arr Kd.ru8 z.snd.fst.t, Atom.arr Kd.ru8 z.snd.fst.w, Atom.arr Kd.ru8 z.snd.fst.n, Atom.arr Kd.ru8 z.snd.fst.f, Atom.arr Kd.int z.snd.fst.m, Atom.arr Kd.int z.snd.fst.d,
 Atom.arr Kd.int z.snd.fst.r, Atom.arr Kd.u8 (cont z_1.snd (RS.mk z.snd.snd.snd.fst 0 l.length (far l))), Atom.arr Kd.u8 (cont z_1.snd (RS.mk z.snd.snd.snd.fst 0 l.length (far l)) ++ numF 9 n)] [VV.one
 (V1.c (C.int .u64 n))] [] ∧ ∀ (y : Unit), True → ((cont z_1.snd (RS.mk z.snd.snd.snd.fst 0 l.length (far l))).length ≤ 2000000 ∧ (numF 9 n).length ≤ 2000000) ∧ Into (K := KK) 0 [] [14, 16] [VV.one (V1.c
 (C.slc 14 0 (cont z_1.snd (RS.mk z.snd.snd.snd.fst 0 l.length (far l))).length none)), VV.one (V1.c (C.slc 16 0 (numF 9 n).length none))] [Atom.ro Kd.u8 l, Atom.bag z_1.snd, Atom.cells 40 [C.slc 4 0 1
 none, C.slc 5 0 1 none, C.nils, C.nils, C.nils, C.nils, C.nils, C.nils, C.nils, C.nils, C.nils, C.nils, C.nils, C.nils, C.nils, C.nils, C.nils, C.nils, C.nils, C.nils, C.nils, C.nils, C.nils, C.nils, C.nils,
 C.nils], Atom.cells 46 (bookC false false z.snd.fst.turn z.snd.fst.deep [C.slc 6 0 z.snd.fst.o.length none, C.slc 7 0 z.snd.fst.t.length none, C.slc 8 0 z.snd.fst.w.length none, C.slc 9 0 z.snd.fst.n.length
 none, C.slc 10 0 z.snd.fst.f.length none, C.slc 11 0 z.snd.fst.m.length none, C.slc 12 0 z.snd.fst.d.length none, C.slc 13 0 z.snd.fst.r.length none, C.int .i64 z.snd.fst.seen]), Atom.arr Kd.ru8 [RS.mk
 z.snd.snd.snd.fst 0 (far l) z.snd.snd.snd.snd], Atom.arr Kd.int [(↑l.length : Int)], Atom.arr Kd.ru8 z.snd.fst.o, Atom.arr Kd.ru8 z.snd.fst.t, Atom.arr Kd.ru8 z.snd.fst.w, Atom.arr Kd.ru8 z.snd.fst.n,
 Atom.arr Kd.ru8 z.snd.fst.f, Atom.arr Kd.int z.snd.fst.m, Atom.arr Kd.int z.snd.fst.d, Atom.arr Kd.int z.snd.fst.r, Atom.arr Kd.u8 (cont z_1.snd (RS.mk z.snd.snd.snd.fst 0 l.length (far l))), Atom.arr
 Kd.u8 (cont z_1.snd (RS.mk z.snd.snd.snd.fst 0 l.length (far l)) ++ numF 9 n), Atom.arr Kd.u8 (numF 9 n)] [VV.one (V1.c (C.slc 0 0 (cont z_1.snd (RS.mk z.snd.snd.snd.fst 0 l.length (far l))).length none)),
 VV.one (V1.c (C.slc 1 0 (numF 9 n).length none))] [Atom.ro Kd.u8 (cont z_1.snd (RS.mk z.snd.snd.snd.fst 0 l.length (far l))), Atom.ro Kd.u8 (numF 9 n)] ∧ ∀ (y : Unit), True → ((cont z_1.snd (RS.mk z.snd.snd.snd.fst
 0 l.length (far l)) ++ numF 9 n).length ≤ 2000000 ∧ (cont z_1.snd (RS.mk z.snd.snd.snd.fst 0 l.length (far l)) ++ numF 9 n).length ≤ 2000000) ∧ Into (K := KK) 0 [] [15, 17] [VV.one (V1.c (C.slc 15 0 (cont
 z_1.snd (RS.mk z.snd.snd.snd.fst 0 l.length (far l)) ++ numF 9 n).length none)), VV.one (V1.c (C.slc 17 0 (cont z_1.snd (RS.mk z.snd.snd.snd.fst 0 l.length (far l)) ++ numF 9 n).length none))] [Atom.ro
 Kd.u8 l, Atom.bag z_1.snd, Atom.cells 40 [C.slc 4 0 1 none, C.slc 5 0 1 none, C.nils, C.nils, C.nils, C.nils, C.nils, C.nils, C.nils, C.nils, C.nils, C.nils, C.nils, C.nils, C.nils, C.nils, C.nils, C.nils,
 C.nils, C.nils, C.nils, C.nils, C.nils, C.nils, C.nils, C.nils], Atom.cells 46 (bookC false false z.snd.fst.turn z.snd.fst.deep [C.slc 6 0 z.snd.fst.o.length none, C.slc 7 0 z.snd.fst.t.length none, C.slc
 8 0 z.snd.fst.w.length none, C.slc 9 0 z.snd.fst.n.length none, C.slc 10 0 z.snd.fst.f.length none, C.slc 11 0 z.snd.fst.m.length none, C.slc 12 0 z.snd.fst.d.length none, C.slc 13 0 z.snd.fst.r.length
 none, C.int .i64 z.snd.fst.seen]), Atom.arr Kd.ru8 [RS.mk z.snd.snd.snd.fst 0 (far l) z.snd.snd.snd.snd], Atom.arr Kd.int [(↑l.length : Int)], Atom.arr Kd.ru8 z.snd.fst.o, Atom.arr Kd.ru8 z.snd.fst.t,
 Atom.arr Kd.ru8 z.snd.fst.w, Atom.arr Kd.ru8 z.snd.fst.n, Atom.arr Kd.ru8 z.snd.fst.f, Atom.arr Kd.int z.snd.fst.m, Atom.arr Kd.int z.snd.fst.d, Atom.arr Kd.int z.snd.fst.r, Atom.arr Kd.u8 (cont z_1.snd
 (RS.mk z.snd.snd.snd.fst 0 l.length (far l))), Atom.arr Kd.u8 (cont z_1.snd (RS.mk z.snd.snd.snd.fst 0 l.length (far l)) ++ numF 9 n), Atom.arr Kd.u8 (numF 9 n), Atom.arr Kd.u8 (cont z_1.snd (RS.mk z.snd.snd.snd.fst
 0 l.length (far l)) ++ numF 9 n)] [VV.one (V1.c (C.slc 0 0 (cont z_1.snd (RS.mk z.snd.snd.snd.fst 0 l.length (far l)) ++ numF 9 n).length none)), VV.one (V1.c (C.slc 1 0 (cont z_1.snd (RS.mk z.snd.snd.snd.fst
 0 l.length (far l)) ++ numF 9 n).length none))] [Atom.ro Kd.u8 (cont z_1.snd (RS.mk z.snd.snd.snd.fst 0 l.length (far l)) ++ numF 9 n), Atom.ro Kd.u8 (cont z_1.snd (RS.mk z.snd.snd.snd.fst 0 l.length (far
 l)) ++ numF 9 n)] ∧ ∀ (y : Unit), True → ite2 (decide (cont z_1.snd (RS.mk z.snd.snd.snd.fst 0 l.length (far l)) ++ numF 9 n = cont z_1.snd (RS.mk z.snd.snd.snd.fst 0 l.length (far l)) ++ numF 9 n)) ((Has
 z_1.snd RS.nil ∧ s.size ≤ 1000000) ∧ Into (K := KK) 0 [] [1] [VV.one (V1.c C.nils), VV.one (V1.c (C.str s))] [Atom.ro Kd.u8 l, Atom.bag z_1.snd, Atom.cells 40 [C.slc 4 0 1 none, C.slc 5 0 1 none, C.nils,
 C.nils, C.nils, C.nils, C.nils, C.nils, C.nils, C.nils, C.nils, C.nils, C.nils, C.nils, C.nils, C.nils, C.nils, C.nils, C.nils, C.nils, C.nils, C.nils, C.nils, C.nils, C.nils, C.nils], Atom.cells 46 (bookC
 false false z.snd.fst.turn z.snd.fst.deep [C.slc 6 0 z.snd.fst.o.length none, C.slc 7 0 z.snd.fst.t.length none, C.slc 8 0 z.snd.fst.w.length none, C.slc 9 0 z.snd.fst.n.length none, C.slc 10 0 z.snd.fst.f.length
 none, C.slc 11 0 z.snd.fst.m.length none, C.slc 12 0 z.snd.fst.d.length none, C.slc 13 0 z.snd.fst.r.length none, C.int .i64 z.snd.fst.seen]), Atom.arr Kd.ru8 [RS.mk z.snd.snd.snd.fst 0 (far l) z.snd.snd.snd.snd],
 Atom.arr Kd.int [(↑l.length : Int)], Atom.arr Kd.ru8 z.snd.fst.o, Atom.arr Kd.ru8 z.snd.fst.t, Atom.arr Kd.ru8 z.snd.fst.w, Atom.arr Kd.ru8 z.snd.fst.n, Atom.arr Kd.ru8 z.snd.fst.f, Atom.arr Kd.int z.snd.fst.m,
 Atom.arr Kd.int z.snd.fst.d, Atom.arr Kd.int z.snd.fst.r, Atom.arr Kd.u8 (cont z_1.snd (RS.mk z.snd.snd.snd.fst 0 l.length (far l))), Atom.arr Kd.u8 (cont z_1.snd (RS.mk z.snd.snd.snd.fst 0 l.length (far
 l)) ++ numF 9 n), Atom.arr Kd.u8 (numF 9 n), Atom.arr Kd.u8 (cont z_1.snd (RS.mk z.snd.snd.snd.fst 0 l.length (far l)) ++ numF 9 n)] [VV.one (V1.c (C.rs 5 1 RS.nil)), VV.one (V1.c (C.str s))] [Atom.bag
 z_1.snd] ∧ ∀ (y : Unit), True → s.size ≤ 1000000 ∧ Into (K := KK) 0 [] [] [VV.one (V1.c (C.str s))] [Atom.ro Kd.u8 l, Atom.bag z_1.snd, Atom.cells 40 [C.slc 4 0 1 none, C.slc 5 0 1 none, C.nils, C.nils,
 C.nils, C.nils, C.nils, C.nils, C.nils, C.nils, C.nils, C.nils, C.nils, C.nils, C.nils, C.nils, C.nils, C.nils, C.nils, C.nils, C.nils, C.nils, C.nils, C.nils, C.nils, C.nils], Atom.cells 46 (bookC false
 false z.snd.fst.turn z.snd.fst.deep [C.slc 6 0 z.snd.fst.o.length none, C.slc 7 0 z.snd.fst.t.length none, C.slc 8 0 z.snd.fst.w.length none, C.slc 9 0 z.snd.fst.n.length none, C.slc 10 0 z.snd.fst.f.length
 none, C.slc 11 0 z.snd.fst.m.length none, C.slc 12 0 z.snd.fst.d.length none, C.slc 13 0 z.snd.fst.r.length none, C.int .i64 z.snd.fst.seen]), Atom.arr Kd.ru8 [RS.mk z.snd.snd.snd.fst 0 (far l) z.snd.snd.snd.snd],
 Atom.arr Kd.int [(↑l.length : Int)], Atom.arr Kd.ru8 z.snd.fst.o, Atom.arr Kd.ru8 z.snd.fst.t, Atom.arr Kd.ru8 z.snd.fst.w, Atom.arr Kd.ru8 z.snd.fst.n, Atom.arr Kd.ru8 z.snd.fst.f, Atom.arr Kd.int z.snd.fst.m,
 Atom.arr Kd.int z.snd.fst.d, Atom.arr Kd.int z.snd.fst.r, Atom.arr Kd.u8 (cont z_1.snd (RS.mk z.snd.snd.snd.fst 0 l.length (far l))), Atom.arr Kd.u8 (cont z_1.snd (RS.mk z.snd.snd.snd.fst 0 l.length (far
 l)) ++ numF 9 n), Atom.arr Kd.u8 (numF 9 n), Atom.arr Kd.u8 (cont z_1.snd (RS.mk z.snd.snd.snd.fst 0 l.length (far l)) ++ numF 9 n), Atom.arr Kd.u8 (cont z_1.snd RS.nil ++ wordsF s)] [VV.one (V1.c (C.str
 s))] [] ∧ ∀ (y : Unit), True → ((cont z_1.snd RS.nil ++ wordsF s).length ≤ 2000000 ∧ (wordsF s).length ≤ 2000000) ∧ Into (K := KK) 0 [] [18, 19] [VV.one (V1.c (C.slc 18 0 (cont z_1.snd RS.nil ++ wordsF
 s).length none)), VV.one (V1.c (C.slc 19 0 (wordsF s).length none))] [Atom.ro Kd.u8 l, Atom.bag z_1.snd, Atom.cells 40 [C.slc 4 0 1 none, C.slc 5 0 1 none, C.nils, C.nils, C.nils, C.nils, C.nils, C.nils,
 C.nils, C.nils, C.nils, C.nils, C.nils, C.nils, C.nils, C.nils, C.nils, C.nils, C.nils, C.nils, C.nils, C.nils, C.nils, C.nils, C.nils, C.nils], Atom.cells 46 (bookC false false z.snd.fst.turn z.snd.fst.deep
 [C.slc 6 0 z.snd.fst.o.length none, C.slc 7 0 z.snd.fst.t.length none, C.slc 8 0 z.snd.fst.w.length none, C.slc 9 0 z.snd.fst.n.length none, C.slc 10 0 z.snd.fst.f.length none, C.slc 11 0 z.snd.fst.m.length
 none, C.slc 12 0 z.snd.fst.d.length none, C.slc 13 0 z.snd.fst.r.length none, C.int .i64 z.snd.fst.seen]), Atom.arr Kd.ru8 [RS.mk z.snd.snd.snd.fst 0 (far l) z.snd.snd.snd.snd], Atom.arr Kd.int [(↑l.length
 : Int)], Atom.arr Kd.ru8 z.snd.fst.o, Atom.arr Kd.ru8 z.snd.fst.t, Atom.arr Kd.ru8 z.snd.fst.w, Atom.arr Kd.ru8 z.snd.fst.n, Atom.arr Kd.ru8 z.snd.fst.f, Atom.arr Kd.int z.snd.fst.m, Atom.arr Kd.int z.snd.fst.d,
 Atom.arr Kd.int z.snd.fst.r, Atom.arr Kd.u8 (cont z_1.snd (RS.mk z.snd.snd.snd.fst 0 l.length (far l))), Atom.arr Kd.u8 (cont z_1.snd (RS.mk z.snd.snd.snd.fst 0 l.length (far l)) ++ numF 9 n), Atom.arr
 Kd.u8 (numF 9 n), Atom.arr Kd.u8 (cont z_1.snd (RS.mk z.snd.snd.snd.fst 0 l.length (far l)) ++ numF 9 n), Atom.arr Kd.u8 (cont z_1.snd RS.nil ++ wordsF s), Atom.arr Kd.u8 (wordsF s)] [VV.one (V1.c (C.slc
 0 0 (cont z_1.snd RS.nil ++ wordsF s).length none)), VV.one (V1.c (C.slc 1 0 (wordsF s).length none))] [Atom.ro Kd.u8 (cont z_1.snd RS.nil ++ wordsF s), Atom.ro Kd.u8 (wordsF s)] ∧ ∀ (y : Unit), True →
 ite2 (decide (cont z_1.snd RS.nil ++ wordsF s = wordsF s)) (BookOk z_1.snd (BS.mk (z.snd.fst.turn) (z.snd.fst.deep) (z.snd.fst.o) (z.snd.fst.t) (z.snd.fst.w) (z.snd.fst.n) (z.snd.fst.f) (z.snd.fst.m) (z.snd.fst.d)
 (z.snd.fst.r) (z.snd.fst.seen)) ∧ Into (K := KK) 0 [] [3, 6, 7, 8, 9, 10, 11, 12, 13, 1] [VV.one (V1.c (C.ptr 3 0 0))] [Atom.ro Kd.u8 l, Atom.bag z_1.snd, Atom.cells 40 [C.slc 4 0 1 none, C.slc 5 0 1 none,
 C.nils, C.nils, C.nils, C.nils, C.nils, C.nils, C.nils, C.nils, C.nils, C.nils, C.nils, C.nils, C.nils, C.nils, C.nils, C.nils, C.nils, C.nils, C.nils, C.nils, C.nils, C.nils, C.nils, C.nils], Atom.cells
 46 (bookC false false z.snd.fst.turn z.snd.fst.deep [C.slc 6 0 z.snd.fst.o.length none, C.slc 7 0 z.snd.fst.t.length none, C.slc 8 0 z.snd.fst.w.length none, C.slc 9 0 z.snd.fst.n.length none, C.slc 10
 0 z.snd.fst.f.length none, C.slc 11 0 z.snd.fst.m.length none, C.slc 12 0 z.snd.fst.d.length none, C.slc 13 0 z.snd.fst.r.length none, C.int .i64 z.snd.fst.seen]), Atom.arr Kd.ru8 [RS.mk z.snd.snd.snd.fst
 0 (far l) z.snd.snd.snd.snd], Atom.arr Kd.int [(↑l.length : Int)], Atom.arr Kd.ru8 z.snd.fst.o, Atom.arr Kd.ru8 z.snd.fst.t, Atom.arr Kd.ru8 z.snd.fst.w, Atom.arr Kd.ru8 z.snd.fst.n, Atom.arr Kd.ru8 z.snd.fst.f,
 Atom.arr Kd.int z.snd.fst.m, Atom.arr Kd.int z.snd.fst.d, Atom.arr Kd.int z.snd.fst.r, Atom.arr Kd.u8 (cont z_1.snd (RS.mk z.snd.snd.snd.fst 0 l.length (far l))), Atom.arr Kd.u8 (cont z_1.snd (RS.mk z.snd.snd.snd.fst
 0 l.length (far l)) ++ numF 9 n), Atom.arr Kd.u8 (numF 9 n), Atom.arr Kd.u8 (cont z_1.snd (RS.mk z.snd.snd.snd.fst 0 l.length (far l)) ++ numF 9 n), Atom.arr Kd.u8 (cont z_1.snd RS.nil ++ wordsF s), Atom.arr
 Kd.u8 (wordsF s)] [VV.one (V1.c (C.ptr 0 0 0))] [Atom.cells 46 (bookC false false z.snd.fst.turn z.snd.fst.deep [C.slc 1 0 z.snd.fst.o.length none, C.slc 2 0 z.snd.fst.t.length none, C.slc 3 0 z.snd.fst.w.length
 none, C.slc 4 0 z.snd.fst.n.length none, C.slc 5 0 z.snd.fst.f.length none, C.slc 6 0 z.snd.fst.m.length none, C.slc 7 0 z.snd.fst.d.length none, C.slc 8 0 z.snd.fst.r.length none, C.int .i64 z.snd.fst.seen]),
 Atom.arr Kd.ru8 z.snd.fst.o, Atom.arr Kd.ru8 z.snd.fst.t, Atom.arr Kd.ru8 z.snd.fst.w, Atom.arr Kd.ru8 z.snd.fst.n, Atom.arr Kd.ru8 z.snd.fst.f, Atom.arr Kd.int z.snd.fst.m, Atom.arr Kd.int z.snd.fst.d,
 Atom.arr Kd.int z.snd.fst.r, Atom.bag z_1.snd] ∧ ∀ (y : Unit), True → Marks [RS.mk z.snd.snd.snd.fst 0 (far l) z.snd.snd.snd.snd] [(↑l.length : Int)] z_1.snd ∧ Into (K := KK) 0 [] [2, 4, 5, 1] [VV.one
 (V1.c (C.ptr 2 0 0))] [Atom.ro Kd.u8 l, Atom.bag z_1.snd, Atom.cells 40 [C.slc 4 0 1 none, C.slc 5 0 1 none, C.nils, C.nils, C.nils, C.nils, C.nils, C.nils, C.nils, C.nils, C.nils, C.nils, C.nils, C.nils,
 C.nils, C.nils, C.nils, C.nils, C.nils, C.nils, C.nils, C.nils, C.nils, C.nils, C.nils, C.nils], Atom.cells 46 (bookC false false z.snd.fst.turn z.snd.fst.deep [C.slc 6 0 z.snd.fst.o.length none, C.slc
 7 0 z.snd.fst.t.length none, C.slc 8 0 z.snd.fst.w.length none, C.slc 9 0 z.snd.fst.n.length none, C.slc 10 0 z.snd.fst.f.length none, C.slc 11 0 z.snd.fst.m.length none, C.slc 12 0 z.snd.fst.d.length
 none, C.slc 13 0 z.snd.fst.r.length none, C.int .i64 z.snd.fst.seen]), Atom.arr Kd.ru8 [RS.mk z.snd.snd.snd.fst 0 (far l) z.snd.snd.snd.snd], Atom.arr Kd.int [(↑l.length : Int)], Atom.arr Kd.ru8 z.snd.fst.o,
 Atom.arr Kd.ru8 z.snd.fst.t, Atom.arr Kd.ru8 z.snd.fst.w, Atom.arr Kd.ru8 z.snd.fst.n, Atom.arr Kd.ru8 z.snd.fst.f, Atom.arr Kd.int z.snd.fst.m, Atom.arr Kd.int z.snd.fst.d, Atom.arr Kd.int z.snd.fst.r,
 Atom.arr Kd.u8 (cont z_1.snd (RS.mk z.snd.snd.snd.fst 0 l.length (far l))), Atom.arr Kd.u8 (cont z_1.snd (RS.mk z.snd.snd.snd.fst 0 l.length (far l)) ++ numF 9 n), Atom.arr Kd.u8 (numF 9 n), Atom.arr Kd.u8
 (cont z_1.snd (RS.mk z.snd.snd.snd.fst 0 l.length (far l)) ++ numF 9 n), Atom.arr Kd.u8 (cont z_1.snd RS.nil ++ wordsF s), Atom.arr Kd.u8 (wordsF s)] [VV.one (V1.c (C.ptr 0 0 0))] [Atom.cells 40 [C.slc
 1 0 1 none, C.slc 2 0 1 none, C.nils, C.nils, C.nils, C.nils, C.nils, C.nils, C.nils, C.nils, C.nils, C.nils, C.nils, C.nils, C.nils, C.nils, C.nils, C.nils, C.nils, C.nils, C.nils, C.nils, C.nils, C.nils,
 C.nils, C.nils], Atom.arr Kd.ru8 [RS.mk z.snd.snd.snd.fst 0 (far l) z.snd.snd.snd.snd], Atom.arr Kd.int [(↑l.length : Int)], Atom.bag z_1.snd] ∧ ∀ (y : Unit), True → EndsAs 2 (ct_puts l n s φ) (boolv true)
 [Atom.ro Kd.u8 l, Atom.bag z_1.snd, Atom.cells 40 [C.slc 4 0 1 none, C.slc 5 0 1 none, C.nils, C.nils, C.nils, C.nils, C.nils, C.nils, C.nils, C.nils, C.nils, C.nils, C.nils, C.nils, C.nils, C.nils, C.nils,
 C.nils, C.nils, C.nils, C.nils, C.nils, C.nils, C.nils, C.nils, C.nils], Atom.cells 46 (bookC false false z.snd.fst.turn z.snd.fst.deep [C.slc 6 0 z.snd.fst.o.length none, C.slc 7 0 z.snd.fst.t.length
 none, C.slc 8 0 z.snd.fst.w.length none, C.slc 9 0 z.snd.fst.n.length none, C.slc 10 0 z.snd.fst.f.length none, C.slc 11 0 z.snd.fst.m.length none, C.slc 12 0 z.snd.fst.d.length none, C.slc 13 0 z.snd.fst.r.length
 none, C.int .i64 z.snd.fst.seen]), Atom.arr Kd.ru8 [RS.mk z.snd.snd.snd.fst 0 (far l) z.snd.snd.snd.snd], Atom.arr Kd.int [(↑l.length : Int)], Atom.arr Kd.ru8 z.snd.fst.o, Atom.arr Kd.ru8 z.snd.fst.t,
 Atom.arr Kd.ru8 z.snd.fst.w, Atom.arr Kd.ru8 z.snd.fst.n, Atom.arr Kd.ru8 z.snd.fst.f, Atom.arr Kd.int z.snd.fst.m, Atom.arr Kd.int z.snd.fst.d, Atom.arr Kd.int z.snd.fst.r, Atom.arr Kd.u8 (cont z_1.snd
 (RS.mk z.snd.snd.snd.fst 0 l.length (far l))), Atom.arr Kd.u8 (cont z_1.snd (RS.mk z.snd.snd.snd.fst 0 l.length (far l)) ++ numF 9 n), Atom.arr Kd.u8 (numF 9 n), Atom.arr Kd.u8 (cont z_1.snd (RS.mk z.snd.snd.snd.fst
 0 l.length (far l)) ++ numF 9 n), Atom.arr Kd.u8 (cont z_1.snd RS.nil ++ wordsF s), Atom.arr Kd.u8 (wordsF s)]) (EndsAs 2 (ct_puts l n s φ) (boolv false) [Atom.ro Kd.u8 l, Atom.bag z_1.snd, Atom.cells
 40 [C.slc 4 0 1 none, C.slc 5 0 1 none, C.nils, C.nils, C.nils, C.nils, C.nils, C.nils, C.nils, C.nils, C.nils, C.nils, C.nils, C.nils, C.nils, C.nils, C.nils, C.nils, C.nils, C.nils, C.nils, C.nils, C.nils,
 C.nils, C.nils, C.nils], Atom.cells 46 (bookC false false z.snd.fst.turn z.snd.fst.deep [C.slc 6 0 z.snd.fst.o.length none, C.slc 7 0 z.snd.fst.t.length none, C.slc 8 0 z.snd.fst.w.length none, C.slc 9
 0 z.snd.fst.n.length none, C.slc 10 0 z.snd.fst.f.length none, C.slc 11 0 z.snd.fst.m.length none, C.slc 12 0 z.snd.fst.d.length none, C.slc 13 0 z.snd.fst.r.length none, C.int .i64 z.snd.fst.seen]), Atom.arr
 Kd.ru8 [RS.mk z.snd.snd.snd.fst 0 (far l) z.snd.snd.snd.snd], Atom.arr Kd.int [(↑l.length : Int)], Atom.arr Kd.ru8 z.snd.fst.o, Atom.arr Kd.ru8 z.snd.fst.t, Atom.arr Kd.ru8 z.snd.fst.w, Atom.arr Kd.ru8
 z.snd.fst.n, Atom.arr Kd.ru8 z.snd.fst.f, Atom.arr Kd.int z.snd.fst.m, Atom.arr Kd.int z.snd.fst.d, Atom.arr Kd.int z.snd.fst.r, Atom.arr Kd.u8 (cont z_1.snd (RS.mk z.snd.snd.snd.fst 0 l.length (far l))),
 Atom.arr Kd.u8 (cont z_1.snd (RS.mk z.snd.snd.snd.fst 0 l.length (far l)) ++ numF 9 n), Atom.arr Kd.u8 (numF 9 n), Atom.arr Kd.u8 (cont z_1.snd (RS.mk z.snd.snd.snd.fst 0 l.length (far l)) ++ numF 9 n),
 Atom.arr Kd.u8 (cont z_1.snd RS.nil ++ wordsF s), Atom.arr Kd.u8 (wordsF s)])) (EndsAs 2 (ct_puts l n s φ) (boolv false) [Atom.ro Kd.u8 l, Atom.bag z_1.snd, Atom.cells 40 [C.slc 4 0 1 none, C.slc 5 0 1
 none, C.nils, C.nils, C.nils, C.nils, C.nils, C.nils, C.nils, C.nils, C.nils, C.nils, C.nils, C.nils, C.nils, C.nils, C.nils, C.nils, C.nils, C.nils, C.nils, C.nils, C.nils, C.nils, C.nils, C.nils], Atom.cells
 46 (bookC false false z.snd.fst.turn z.snd.fst.deep [C.slc 6 0 z.snd.fst.o.length none, C.slc 7 0 z.snd.fst.t.length none, C.slc 8 0 z.snd.fst.w.length none, C.slc 9 0 z.snd.fst.n.length none, C.slc 10
 0 z.snd.fst.f.length none, C.slc 11 0 z.snd.fst.m.length none, C.slc 12 0 z.snd.fst.d.length none, C.slc 13 0 z.snd.fst.r.length none, C.int .i64 z.snd.fst.seen]), Atom.arr Kd.ru8 [RS.mk z.snd.snd.snd.fst
 0 (far l) z.snd.snd.snd.snd], Atom.arr Kd.int [(↑l.length : Int)], Atom.arr Kd.ru8 z.snd.fst.o, Atom.arr Kd.ru8 z.snd.fst.t, Atom.arr Kd.ru8 z.snd.fst.w, Atom.arr Kd.ru8 z.snd.fst.n, Atom.arr Kd.ru8 z.snd.fst.f,
 Atom.arr Kd.int z.snd.fst.m, Atom.arr Kd.int z.snd.fst.d, Atom.arr Kd.int z.snd.fst.r, Atom.arr Kd.u8 (cont z_1.snd (RS.mk z.snd.snd.snd.fst 0 l.length (far l))), Atom.arr Kd.u8 (cont z_1.snd (RS.mk z.snd.snd.snd.fst
 0 l.length (far l)) ++ numF 9 n), Atom.arr Kd.u8 (numF 9 n), Atom.arr Kd.u8 (cont z_1.snd (RS.mk z.snd.snd.snd.fst 0 l.length (far l)) ++ numF 9 n)])))))) := by kernel_rfl
end Go.Proofs.YtndlpbheifalhaaGreatDoor.T
