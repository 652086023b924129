/- The law of Join. -/
import Derived.Test.YtnmidichehjbgaaTi
import Derived.Test.YtnmidichehjbgaaTj
namespace Go.Proofs.Ytnmidichehjbgaa.T
open Go.Proofs.Ytnmidichehjbgaa.E
set_option maxRecDepth 100000
set_option linter.unusedVariables false
/-- What a slice holds, by its place. -/
def cont (φ : Bag KK) (x : RS) : List ByteArray := (x.row φ Kd.str).getD []
theorem cont_of {φ : Bag KK} {x : RS} {l : List ByteArray} (h : x.row φ Kd.str = some l) : cont φ x = l := by unfold cont; rw [h]; rfl
def ct_joinR (φ : Bag KK) (x : RS) : Ct KK := (ct_join (cont φ x)).raw 9 Kd.str x (cont φ x) φ []
def ct_rjoinR (φ : Bag KK) (x : RS) : Ct KK := (ct_rjoin (cont φ x)).raw 9 Kd.str x (cont φ x) φ []
theorem joinR_ok (φ : Bag KK) (x : RS) : CtOk Try.prog 6 (ct_joinR φ x) := CtOk.raw KK_ok (join_ok _) 9 rfl rfl (fun v hv => by cases hv) (fun _ => lt_of_nm rfl)
theorem rjoinR_ok (φ : Bag KK) (x : RS) : CtOk Try.prog 7 (ct_rjoinR φ x) := CtOk.raw KK_ok (rjoin_ok _) 9 rfl rfl (fun v hv => by cases hv) (fun _ => lt_of_nm rfl)
def tab7 : Tab Try.prog KK := ⟨mixed, fun f args H => match f, args with
  | 4, [.one (.c (.slc m 0 _ none))] => match at_ H m with
    | .ro .str l => some (ct_few l, [], [m])
    | _ => none
  | 5, [.one (.c (.ptr n 0 0)), .one (.c (.slc m 0 _ none))] => match at_ H m, at_ H 1 with
    | .ro .str l, .bag φ => some (ct_texts l [] [] φ, [.rstr, .int], [n, H.length, H.length + 1, m, 1])
    | _, _ => none
  | 6, [.one (.c (.rs _ _ x))] => match at_ H 1 with
    | .bag φ => some (ct_joinR φ x, [], [1])
    | _ => none
  | 7, [.one (.c (.rs _ _ x))] => match at_ H 1 with
    | .bag φ => some (ct_rjoinR φ x, [], [1])
    | _ => none
  | 7, [.one (.c (.slc m 0 _ none))] => match at_ H m with
    | .ro .str l => some (ct_rjoin l, [], [m])
    | _ => none
  | 8, [.one (.c (.rs _ _ x)), .one (.c (.slc m 0 _ none))] => match at_ H m, at_ H 1 with
    | .ro .str l, .bag φ => some (ct_same x l φ, [], [m, 1])
    | _, _ => none
  | 9, [.one (.c (.ptr n 0 0))] => match at_ H 5, at_ H 6, at_ H 1 with
    | .arr .rstr ts, .arr .int ps, .bag φ => some (ct_hold ts ps φ, [], [n, 5, 6, 1])
    | _, _, _ => none
  | _, _ => none, fun f args H ct ks τ h => by
    split at h
    · split at h
      · cases h; exact few_ok _
      · cases h
    · split at h
      · cases h; exact texts_ok _ _ _ _
      · cases h
    · split at h
      · cases h; exact joinR_ok _ _
      · cases h
    · split at h
      · cases h; exact rjoinR_ok _ _
      · cases h
    · split at h
      · cases h; exact rjoin_ok _
      · cases h
    · split at h
      · cases h; exact same_ok _ _ _
      · cases h
    · split at h
      · cases h; exact hold_ok _ _ _
      · cases h
    · cases h⟩
def bag0 : Bag KK := fun _ => none
def ct_law (l : List ByteArray) : Ct KK := { need := l.length ≤ 9223372036854775807 ∧ (∀ s ∈ l, s.size ≤ 9223372036854775807), pre := [.ro .str l, .bag bag0], args := [.c (.slc 0 0 l.length none)], Y := Unit, ok := fun _ => True, ret := fun _ => boolv true, post := fun _ => [.gone, .gone] }
/-- The list, its first ones longer. -/
def upto (l : List ByteArray) (i : Nat) : List ByteArray := (l.take i).map (fun s => s ++ ext_) ++ l.drop i
def bagAt (b c : Nat) (l : List ByteArray) (i : Nat) : Bag KK := bput bag0 b (.row Kd.str c (upto l i ++ words 40))
def inv_law (l : List ByteArray) (b c : Nat) : Inv KK := { X := Nat, fr := fun i => [.c (.slc 0 0 l.length none), .any, .any, .c (.ptr 2 0 0), .c (.rs 9 1 (.mk b 0 l.length (far l))), i64 i] ++ anys 47, H := fun i => [.ro .str l, .bag (bagAt b c l i), .cells 40 (roomC (.slc 5 0 1 none) (.slc 6 0 1 none)), .gone, .gone, .arr .rstr [RS.mk b 0 (far l) c], .arr .int [(l.length : Int)]], ok := fun i => i ≤ l.length, meas := fun i : Nat => l.length - i }
def ann_law (l : List ByteArray) : Ann KK := { loop := fun _ _ H => match at_ H 5 with | .arr .rstr [.mk b _ _ c] => some (inv_law l b c) | _ => none, cut := fun _ _ _ => none }
theorem vc_law (l : List ByteArray) : evFn tab7 (ann_law l) Try.f3 (ct_law l) = ( (i64ok (↑l.length : Int) ∧ ∀ (s : ByteArray), List.Mem s l → s.size ≤ 9223372036854775807) ∧ Into (K := KK) 0 [] [0] [VV.one (V1.c (C.slc 0 0 l.length none))] [Atom.ro Kd.str l, Atom.bag bag0] [VV.one
 (V1.c (C.slc 0 0 l.length none))] [Atom.ro Kd.str l] ∧ ∀ (y : Bool), (y = true → parts l ≤ 30000) → ite2 y ((l.length ≤ 1000000 ∧ 0 ≤ 1000 ∧ 0 ≤ 1000) ∧ Into (K := KK) 0 [Kd.rstr, Kd.int] [2, 3, 3 + 1,
 0, 1] [VV.one (V1.c (C.ptr 2 0 0)), VV.one (V1.c (C.slc 0 0 l.length none))] [Atom.ro Kd.str l, Atom.bag bag0, Atom.cells 40 [C.nils, C.nils, C.nils, C.nils, C.nils, C.nils, C.nils, C.nils, C.nils, C.nils,
 C.nils, C.nils, C.nils, C.nils, C.nils, C.nils, C.nils, C.nils, C.nils, C.nils, C.nils, C.nils, C.nils, C.nils, C.nils, C.nils]] [VV.one (V1.c (C.ptr 0 0 0)), VV.one (V1.c (C.slc 3 0 l.length none))] [Atom.cells
 40 [C.nils, C.nils, C.nils, C.nils, C.slc 1 0 0 none, C.slc 2 0 0 none, C.nils, C.nils, C.nils, C.nils, C.nils, C.nils, C.nils, C.nils, C.nils, C.nils, C.nils, C.nils, C.nils, C.nils, C.nils, C.nils, C.nils,
 C.nils, C.nils, C.nils], Atom.arr Kd.rstr [], Atom.arr Kd.int [], Atom.ro Kd.str l, Atom.bag bag0] ∧ ∀ (y_1 : Nat × Nat), bag0 y_1.fst = none ∧ far l ≤ y_1.snd → (((cont (bput bag0 y_1.fst (BI.row Kd.str
 y_1.snd (l ++ words 40))) (RS.mk y_1.fst 0 l.length (far l))).length ≤ 1000000 ∧ (joinB (cont (bput bag0 y_1.fst (BI.row Kd.str y_1.snd (l ++ words 40))) (RS.mk y_1.fst 0 l.length (far l)))).size ≤ 1000000000)
 ∧ RS.row (bput bag0 y_1.fst (BI.row Kd.str y_1.snd (l ++ words 40))) Kd.str (RS.mk y_1.fst 0 l.length (far l)) = some (cont (bput bag0 y_1.fst (BI.row Kd.str y_1.snd (l ++ words 40))) (RS.mk y_1.fst 0
 l.length (far l)))) ∧ Into (K := KK) 0 [] [1] [VV.one (V1.c (C.rs 9 1 (RS.mk y_1.fst 0 l.length (far l))))] [Atom.ro Kd.str l, Atom.bag (bput bag0 y_1.fst (BI.row Kd.str y_1.snd (l ++ words 40))), Atom.cells
 40 [C.nils, C.nils, C.nils, C.nils, C.slc 5 0 1 none, C.slc 6 0 1 none, C.nils, C.nils, C.nils, C.nils, C.nils, C.nils, C.nils, C.nils, C.nils, C.nils, C.nils, C.nils, C.nils, C.nils, C.nils, C.nils, C.nils,
 C.nils, C.nils, C.nils], Atom.gone, Atom.gone, Atom.arr Kd.rstr [RS.mk y_1.fst 0 (far l) y_1.snd], Atom.arr Kd.int [(↑l.length : Int)]] [VV.one (V1.c (C.rs 9 1 (RS.mk y_1.fst 0 l.length (far l))))] [Atom.bag
 (bput bag0 y_1.fst (BI.row Kd.str y_1.snd (l ++ words 40)))] ∧ ∀ (y_2 : Unit), True → (l.length ≤ 1000000 ∧ (joinB l).size ≤ 1000000000) ∧ Into (K := KK) 0 [] [0] [VV.one (V1.c (C.slc 0 0 l.length none))]
 [Atom.ro Kd.str l, Atom.bag (bput bag0 y_1.fst (BI.row Kd.str y_1.snd (l ++ words 40))), Atom.cells 40 [C.nils, C.nils, C.nils, C.nils, C.slc 5 0 1 none, C.slc 6 0 1 none, C.nils, C.nils, C.nils, C.nils,
 C.nils, C.nils, C.nils, C.nils, C.nils, C.nils, C.nils, C.nils, C.nils, C.nils, C.nils, C.nils, C.nils, C.nils, C.nils, C.nils], Atom.gone, Atom.gone, Atom.arr Kd.rstr [RS.mk y_1.fst 0 (far l) y_1.snd],
 Atom.arr Kd.int [(↑l.length : Int)]] [VV.one (V1.c (C.slc 0 0 l.length none))] [Atom.ro Kd.str l] ∧ ∀ (y_3 : Unit), True → ite2 (decide ((joinB (cont (bput bag0 y_1.fst (BI.row Kd.str y_1.snd (l ++ words
 40))) (RS.mk y_1.fst 0 l.length (far l)))).toList = (joinB l).toList)) ((i64ok (↑l.length : Int) ∧ RS.row (bput bag0 y_1.fst (BI.row Kd.str y_1.snd (l ++ words 40))) Kd.str (RS.mk y_1.fst 0 l.length (far
 l)) = some l) ∧ Into (K := KK) 0 [] [0, 1] [VV.one (V1.c (C.rs 9 1 (RS.mk y_1.fst 0 l.length (far l)))), VV.one (V1.c (C.slc 0 0 l.length none))] [Atom.ro Kd.str l, Atom.bag (bput bag0 y_1.fst (BI.row
 Kd.str y_1.snd (l ++ words 40))), Atom.cells 40 [C.nils, C.nils, C.nils, C.nils, C.slc 5 0 1 none, C.slc 6 0 1 none, C.nils, C.nils, C.nils, C.nils, C.nils, C.nils, C.nils, C.nils, C.nils, C.nils, C.nils,
 C.nils, C.nils, C.nils, C.nils, C.nils, C.nils, C.nils, C.nils, C.nils], Atom.gone, Atom.gone, Atom.arr Kd.rstr [RS.mk y_1.fst 0 (far l) y_1.snd], Atom.arr Kd.int [(↑l.length : Int)]] [VV.one (V1.c (C.rs
 9 1 (RS.mk y_1.fst 0 l.length (far l)))), VV.one (V1.c (C.slc 0 0 l.length none))] [Atom.ro Kd.str l, Atom.bag (bput bag0 y_1.fst (BI.row Kd.str y_1.snd (l ++ words 40)))] ∧ ∀ (y_4 : Unit), True → Marks
 [RS.mk y_1.fst 0 (far l) y_1.snd] [(↑l.length : Int)] (bput bag0 y_1.fst (BI.row Kd.str y_1.snd (l ++ words 40))) ∧ Into (K := KK) 0 [] [2, 5, 6, 1] [VV.one (V1.c (C.ptr 2 0 0))] [Atom.ro Kd.str l, Atom.bag
 (bput bag0 y_1.fst (BI.row Kd.str y_1.snd (l ++ words 40))), Atom.cells 40 [C.nils, C.nils, C.nils, C.nils, C.slc 5 0 1 none, C.slc 6 0 1 none, C.nils, C.nils, C.nils, C.nils, C.nils, C.nils, C.nils, C.nils,
 C.nils, C.nils, C.nils, C.nils, C.nils, C.nils, C.nils, C.nils, C.nils, C.nils, C.nils, C.nils], Atom.gone, Atom.gone, Atom.arr Kd.rstr [RS.mk y_1.fst 0 (far l) y_1.snd], Atom.arr Kd.int [(↑l.length :
 Int)]] [VV.one (V1.c (C.ptr 0 0 0))] [Atom.cells 40 [C.nils, C.nils, C.nils, C.nils, C.slc 1 0 1 none, C.slc 2 0 1 none, C.nils, C.nils, C.nils, C.nils, C.nils, C.nils, C.nils, C.nils, C.nils, C.nils,
 C.nils, C.nils, C.nils, C.nils, C.nils, C.nils, C.nils, C.nils, C.nils, C.nils], Atom.arr Kd.rstr [RS.mk y_1.fst 0 (far l) y_1.snd], Atom.arr Kd.int [(↑l.length : Int)], Atom.bag (bput bag0 y_1.fst (BI.row
 Kd.str y_1.snd (l ++ words 40)))] ∧ ∀ (y_5 : Unit), True → Enter 2 (inv_law l y_1.fst y_1.snd) (fun (x : Nat) => True) [VV.one (V1.c (C.slc 0 0 l.length none)), VV.any, boolv false, VV.one (V1.c (C.ptr
 2 0 0)), VV.one (V1.c (C.rs 9 1 (RS.mk y_1.fst 0 l.length (far l)))), i64 (0 : Int), VV.one (V1.c (C.slc 0 0 l.length none)), boolv y, boolv false, VV.one (V1.agg [C.nils, C.nils, C.nils, C.nils, C.nils,
 C.nils, C.nils, C.nils, C.nils, C.nils, C.nils, C.nils, C.nils, C.nils, C.nils, C.nils, C.nils, C.nils, C.nils, C.nils, C.nils, C.nils, C.nils, C.nils, C.nils, C.nils]), VV.one (V1.c (C.ptr 2 0 0)), VV.one
 (V1.c (C.ptr 2 0 0)), VV.one (V1.c (C.slc 0 0 l.length none)), VV.one (V1.c (C.rs 9 1 (RS.mk y_1.fst 0 l.length (far l)))), VV.one (V1.c (C.rs 9 1 (RS.mk y_1.fst 0 l.length (far l)))), VV.one (V1.c (C.str
 (joinB (cont (bput bag0 y_1.fst (BI.row Kd.str y_1.snd (l ++ words 40))) (RS.mk y_1.fst 0 l.length (far l)))))), VV.one (V1.c (C.slc 0 0 l.length none)), VV.one (V1.c (C.str (joinB l))), boolv false, boolv
 false, VV.one (V1.c (C.rs 9 1 (RS.mk y_1.fst 0 l.length (far l)))), VV.one (V1.c (C.slc 0 0 l.length none)), boolv true, boolv false, boolv false, boolv false, VV.one (V1.c (C.ptr 2 0 0)), boolv true,
 boolv false, boolv false, VV.any, VV.any, VV.any, VV.any, VV.any, VV.any, VV.any, VV.any, VV.any, VV.any, VV.any, VV.any, VV.any, VV.any, VV.any, VV.any, VV.any, VV.any, VV.any, VV.any, VV.any, VV.any,
 VV.any] [Atom.ro Kd.str l, Atom.bag (bput bag0 y_1.fst (BI.row Kd.str y_1.snd (l ++ words 40))), Atom.cells 40 [C.nils, C.nils, C.nils, C.nils, C.slc 5 0 1 none, C.slc 6 0 1 none, C.nils, C.nils, C.nils,
 C.nils, C.nils, C.nils, C.nils, C.nils, C.nils, C.nils, C.nils, C.nils, C.nils, C.nils, C.nils, C.nils, C.nils, C.nils, C.nils, C.nils], Atom.gone, Atom.gone, Atom.arr Kd.rstr [RS.mk y_1.fst 0 (far l)
 y_1.snd], Atom.arr Kd.int [(↑l.length : Int)]] ∧ ∀ (z : Nat), z ≤ l.length → ite2 (decide ((↑z : Int) < (↑(RS.mk y_1.fst 0 l.length (far l)).len : Int))) (((0 : Int) ≤ (↑z : Int) ∧ (↑z : Int) < (↑(RS.mk
 y_1.fst 0 l.length (far l)).len : Int)) ∧ ∃ (cap : Nat), ∃ (xs : List (KK.α Kd.str)), bagAt y_1.fst y_1.snd l z (RS.mk y_1.fst 0 l.length (far l)).blk = some (BI.row Kd.str cap xs) ∧ (RS.mk y_1.fst 0 l.length
 (far l)).lo + (↑z : Int).toNat < xs.length ∧ ByteArray.size (rd xs ((RS.mk y_1.fst 0 l.length (far l)).lo + (↑z : Int).toNat) (ByteArray.mk (#[]))) + 2 ≤ 9223372036854775807 ∧ ((0 : Int) ≤ (↑z : Int) ∧
 (↑z : Int) < (↑(RS.mk y_1.fst 0 l.length (far l)).len : Int)) ∧ ∃ (cap : Nat), ∃ (xs_1 : List (KK.α Kd.str)), bagAt y_1.fst y_1.snd l z (RS.mk y_1.fst 0 l.length (far l)).blk = some (BI.row Kd.str cap
 xs_1) ∧ (RS.mk y_1.fst 0 l.length (far l)).lo + (↑z : Int).toNat < xs_1.length ∧ i64ok ((↑z : Int) + (1 : Int)) ∧ Enter 2 (inv_law l y_1.fst y_1.snd) (fun (z' : Nat) => l.length - z' < l.length - z) [VV.one
 (V1.c (C.slc 0 0 l.length none)), VV.any, VV.any, VV.one (V1.c (C.ptr 2 0 0)), VV.one (V1.c (C.rs 9 1 (RS.mk y_1.fst 0 l.length (far l)))), i64 ((↑z : Int) + (1 : Int)), VV.any, VV.any, VV.any, VV.any,
 VV.any, VV.any, VV.any, VV.any, VV.any, VV.any, VV.any, VV.any, VV.any, VV.any, VV.any, VV.any, VV.any, VV.any, VV.any, VV.any, VV.any, VV.any, VV.any, VV.any, i64 (↑z : Int), VV.one (V1.c (C.rs 9 1 (RS.mk
 y_1.fst 0 l.length (far l)))), VV.one (V1.c (C.int .i64 (↑(RS.mk y_1.fst 0 l.length (far l)).len : Int))), boolv true, i64 (↑z : Int), i64 ((↑z : Int) + (1 : Int)), VV.one (V1.c (C.rs 9 1 (RS.mk y_1.fst
 0 l.length (far l)))), i64 (↑z : Int), VV.one (V1.c (C.rs 9 1 (RS.mk y_1.fst 0 l.length (far l)))), i64 (↑z : Int), VV.one (V1.c (C.rp 9 1 (RS.mk y_1.fst 0 l.length (far l)).blk ((RS.mk y_1.fst 0 l.length
 (far l)).lo + (↑z : Int).toNat) 0)), VV.one (V1.c (C.str (rd xs ((RS.mk y_1.fst 0 l.length (far l)).lo + (↑z : Int).toNat) (ByteArray.mk (#[]))))), VV.one (V1.c (C.str (ByteArray.append (rd xs ((RS.mk
 y_1.fst 0 l.length (far l)).lo + (↑z : Int).toNat) (ByteArray.mk (#[]))) (ByteArray.mk (#[(47 : UInt8), (120 : UInt8)]))))), VV.one (V1.c (C.rp 9 1 (RS.mk y_1.fst 0 l.length (far l)).blk ((RS.mk y_1.fst
 0 l.length (far l)).lo + (↑z : Int).toNat) 0)), VV.any, VV.any, VV.any, VV.any, VV.any, VV.any, VV.any, VV.any, VV.any] [Atom.ro Kd.str l, Atom.bag (bput (bagAt y_1.fst y_1.snd l z) (RS.mk y_1.fst 0 l.length
 (far l)).blk (BI.row Kd.str cap (xs_1.set ((RS.mk y_1.fst 0 l.length (far l)).lo + (↑z : Int).toNat) (ByteArray.append (rd xs ((RS.mk y_1.fst 0 l.length (far l)).lo + (↑z : Int).toNat) (ByteArray.mk (#[])))
 (ByteArray.mk (#[(47 : UInt8), (120 : UInt8)])))))), Atom.cells 40 [C.nils, C.nils, C.nils, C.nils, C.slc 5 0 1 none, C.slc 6 0 1 none, C.nils, C.nils, C.nils, C.nils, C.nils, C.nils, C.nils, C.nils, C.nils,
 C.nils, C.nils, C.nils, C.nils, C.nils, C.nils, C.nils, C.nils, C.nils, C.nils, C.nils], Atom.gone, Atom.gone, Atom.arr Kd.rstr [RS.mk y_1.fst 0 (far l) y_1.snd], Atom.arr Kd.int [(↑l.length : Int)]])
 ((((cont (bagAt y_1.fst y_1.snd l z) (RS.mk y_1.fst 0 l.length (far l))).length ≤ 1000000 ∧ (joinB (cont (bagAt y_1.fst y_1.snd l z) (RS.mk y_1.fst 0 l.length (far l)))).size ≤ 1000000000) ∧ RS.row (bagAt
 y_1.fst y_1.snd l z) Kd.str (RS.mk y_1.fst 0 l.length (far l)) = some (cont (bagAt y_1.fst y_1.snd l z) (RS.mk y_1.fst 0 l.length (far l)))) ∧ Into (K := KK) 0 [] [1] [VV.one (V1.c (C.rs 9 1 (RS.mk y_1.fst
 0 l.length (far l))))] [Atom.ro Kd.str l, Atom.bag (bagAt y_1.fst y_1.snd l z), Atom.cells 40 [C.nils, C.nils, C.nils, C.nils, C.slc 5 0 1 none, C.slc 6 0 1 none, C.nils, C.nils, C.nils, C.nils, C.nils,
 C.nils, C.nils, C.nils, C.nils, C.nils, C.nils, C.nils, C.nils, C.nils, C.nils, C.nils, C.nils, C.nils, C.nils, C.nils], Atom.gone, Atom.gone, Atom.arr Kd.rstr [RS.mk y_1.fst 0 (far l) y_1.snd], Atom.arr
 Kd.int [(↑l.length : Int)]] [VV.one (V1.c (C.rs 9 1 (RS.mk y_1.fst 0 l.length (far l))))] [Atom.bag (bagAt y_1.fst y_1.snd l z)] ∧ ∀ (y : Unit), True → (((cont (bagAt y_1.fst y_1.snd l z) (RS.mk y_1.fst
 0 l.length (far l))).length ≤ 1000000 ∧ (joinB (cont (bagAt y_1.fst y_1.snd l z) (RS.mk y_1.fst 0 l.length (far l)))).size ≤ 1000000000) ∧ RS.row (bagAt y_1.fst y_1.snd l z) Kd.str (RS.mk y_1.fst 0 l.length
 (far l)) = some (cont (bagAt y_1.fst y_1.snd l z) (RS.mk y_1.fst 0 l.length (far l)))) ∧ Into (K := KK) 0 [] [1] [VV.one (V1.c (C.rs 9 1 (RS.mk y_1.fst 0 l.length (far l))))] [Atom.ro Kd.str l, Atom.bag
 (bagAt y_1.fst y_1.snd l z), Atom.cells 40 [C.nils, C.nils, C.nils, C.nils, C.slc 5 0 1 none, C.slc 6 0 1 none, C.nils, C.nils, C.nils, C.nils, C.nils, C.nils, C.nils, C.nils, C.nils, C.nils, C.nils, C.nils,
 C.nils, C.nils, C.nils, C.nils, C.nils, C.nils, C.nils, C.nils], Atom.gone, Atom.gone, Atom.arr Kd.rstr [RS.mk y_1.fst 0 (far l) y_1.snd], Atom.arr Kd.int [(↑l.length : Int)]] [VV.one (V1.c (C.rs 9 1 (RS.mk
 y_1.fst 0 l.length (far l))))] [Atom.bag (bagAt y_1.fst y_1.snd l z)] ∧ ∀ (y : Unit), True → ite2 (decide ((joinB (cont (bagAt y_1.fst y_1.snd l z) (RS.mk y_1.fst 0 l.length (far l)))).toList = (joinB
 (cont (bagAt y_1.fst y_1.snd l z) (RS.mk y_1.fst 0 l.length (far l)))).toList)) (Marks [RS.mk y_1.fst 0 (far l) y_1.snd] [(↑l.length : Int)] (bagAt y_1.fst y_1.snd l z) ∧ Into (K := KK) 0 [] [2, 5, 6,
 1] [VV.one (V1.c (C.ptr 2 0 0))] [Atom.ro Kd.str l, Atom.bag (bagAt y_1.fst y_1.snd l z), Atom.cells 40 [C.nils, C.nils, C.nils, C.nils, C.slc 5 0 1 none, C.slc 6 0 1 none, C.nils, C.nils, C.nils, C.nils,
 C.nils, C.nils, C.nils, C.nils, C.nils, C.nils, C.nils, C.nils, C.nils, C.nils, C.nils, C.nils, C.nils, C.nils, C.nils, C.nils], Atom.gone, Atom.gone, Atom.arr Kd.rstr [RS.mk y_1.fst 0 (far l) y_1.snd],
 Atom.arr Kd.int [(↑l.length : Int)]] [VV.one (V1.c (C.ptr 0 0 0))] [Atom.cells 40 [C.nils, C.nils, C.nils, C.nils, C.slc 1 0 1 none, C.slc 2 0 1 none, C.nils, C.nils, C.nils, C.nils, C.nils, C.nils, C.nils,
 C.nils, C.nils, C.nils, C.nils, C.nils, C.nils, C.nils, C.nils, C.nils, C.nils, C.nils, C.nils, C.nils], Atom.arr Kd.rstr [RS.mk y_1.fst 0 (far l) y_1.snd], Atom.arr Kd.int [(↑l.length : Int)], Atom.bag
 (bagAt y_1.fst y_1.snd l z)] ∧ ∀ (y : Unit), True → EndsAs 2 (ct_law l) (boolv true) [Atom.ro Kd.str l, Atom.bag (bagAt y_1.fst y_1.snd l z), Atom.cells 40 [C.nils, C.nils, C.nils, C.nils, C.slc 5 0 1
 none, C.slc 6 0 1 none, C.nils, C.nils, C.nils, C.nils, C.nils, C.nils, C.nils, C.nils, C.nils, C.nils, C.nils, C.nils, C.nils, C.nils, C.nils, C.nils, C.nils, C.nils, C.nils, C.nils], Atom.gone, Atom.gone,
 Atom.arr Kd.rstr [RS.mk y_1.fst 0 (far l) y_1.snd], Atom.arr Kd.int [(↑l.length : Int)]]) (EndsAs 2 (ct_law l) (boolv false) [Atom.ro Kd.str l, Atom.bag (bagAt y_1.fst y_1.snd l z), Atom.cells 40 [C.nils,
 C.nils, C.nils, C.nils, C.slc 5 0 1 none, C.slc 6 0 1 none, C.nils, C.nils, C.nils, C.nils, C.nils, C.nils, C.nils, C.nils, C.nils, C.nils, C.nils, C.nils, C.nils, C.nils, C.nils, C.nils, C.nils, C.nils,
 C.nils, C.nils], Atom.gone, Atom.gone, Atom.arr Kd.rstr [RS.mk y_1.fst 0 (far l) y_1.snd], Atom.arr Kd.int [(↑l.length : Int)]]))) (EndsAs 2 (ct_law l) (boolv false) [Atom.ro Kd.str l, Atom.bag (bput bag0
 y_1.fst (BI.row Kd.str y_1.snd (l ++ words 40))), Atom.cells 40 [C.nils, C.nils, C.nils, C.nils, C.slc 5 0 1 none, C.slc 6 0 1 none, C.nils, C.nils, C.nils, C.nils, C.nils, C.nils, C.nils, C.nils, C.nils,
 C.nils, C.nils, C.nils, C.nils, C.nils, C.nils, C.nils, C.nils, C.nils, C.nils, C.nils], Atom.gone, Atom.gone, Atom.arr Kd.rstr [RS.mk y_1.fst 0 (far l) y_1.snd], Atom.arr Kd.int [(↑l.length : Int)]]))
 (EndsAs 2 (ct_law l) (boolv true) [Atom.ro Kd.str l, Atom.bag bag0])) := by kernel_rfl
end Go.Proofs.Ytnmidichehjbgaa.T
