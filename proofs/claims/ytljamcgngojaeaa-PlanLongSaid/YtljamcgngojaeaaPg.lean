/- The plan: leave. -/
import Derived.Test.YtljamcgngojaeaaPf
namespace Go.Proofs.Ytljamcgngojaeaa.T
open Go.Proofs.Ytljamcgngojaeaa.E
set_option maxRecDepth 100000
set_option linter.unusedVariables false
def tab5 : Tab Try.prog KK := ⟨mixed, fun f args H => match f, args with
  | 9, [.one (.agg [.slc n 0 len none])] => match getL .cell (at_ H n) with
    | some l => some (ct_few l, [], [n])
    | none => none
  | 11, [.one (.agg [.slc n 0 len none])] => match getL .cell (at_ H n) with
    | some l => some (ct_plain l, [], [n])
    | none => none
  | f, args => tab4.pick f args H, fun f args H ct ks τ h => by
    split at h
    · split at h
      · cases h; exact few_ok _
      · cases h
    · split at h
      · cases h; exact plain_ok _
      · cases h
    · exact tab4.ok _ _ _ _ _ _ h⟩
/-- A table over the first n numbers. -/
def tb {α : Type} (n : Nat) (f : Nat → α) : List α := (List.range n).map f
def srt (l : List Cell) (j : Nat) : Int := sortF (rd l j cell0)
/-- Is a cell behind the cut of its sort? -/
def behind (l : List Cell) (m1 m2 j : Nat) : Bool := decide ((srt l j = 1 ∧ m1 ≤ j) ∨ (srt l j = 2 ∧ m2 ≤ j))
def marks (l : List Cell) (m1 m2 : Nat) : List Bool := tb l.length (behind l m1 m2)
def still (l : List Cell) (m1 m2 : Nat) : List Int := tb l.length fun j => if behind l m1 m2 j then 0 else srt l j
def gr (l : List Cell) (i : Nat) : List Int := tb l.length fun j => if j < i then srt l j else 0
/-- The last cell of a sort ahead of a place. -/
def prevS (l : List Cell) (s : Int) : Nat → Option Nat
  | 0 => none
  | i + 1 => if srt l i = s then some i else prevS l s i
def cut (l : List Cell) (most : Int) : Nat → Nat → Nat → Nat × Nat
  | 0, m1, m2 => (m1, m2)
  | k + 1, m1, m2 => if pworstF l (marks l m1 m2) > most then
      match prevS l 1 m1 with
      | some i => cut l most k i m2
      | none => match prevS l 2 m2 with
        | some i => cut l most k m1 i
        | none => (m1, m2)
    else (m1, m2)
def final (l : List Cell) (most : Int) (m1 m2 : Nat) : Nat × Nat := cut l most (m1 + m2 + 1) m1 m2
def leaveF (l : List Cell) (most : Int) : List Bool := marks l (final l most l.length l.length).1 (final l most l.length l.length).2
def ct_leave (l : List Cell) (most : Int) : Ct KK := { need := Cells l ∧ l.length ≤ 1000000 ∧ i64ok most, pre := [.ro .cell l], args := [.c (.slc 0 0 l.length none), i64 most], Y := Unit, ok := fun _ => True, ret := fun _ => .c (.slc 1 0 l.length none), post := fun _ => [.gone, .arr .bool (leaveF l most)] }
def inv4 (l : List Cell) (most : Int) : Inv KK := { X := Nat, fr := fun i => [.c (.slc 0 0 l.length none), i64 most, .any, .any, .any, .c (.slc 1 0 l.length none), .c (.slc 2 0 l.length none)] ++ (anys 11 ++ ([.c (.slc 0 0 l.length none), i64 l.length, i64 i] ++ anys 45)), H := fun i => [.ro .cell l, .arr .bool (tb l.length fun _ => false), .arr .int (gr l i)], ok := fun i => i ≤ l.length, meas := fun i : Nat => l.length - i }
abbrev frL (l : List Cell) (most : Int) (s : VV) (i : VV) : List VV := [.c (.slc 0 0 l.length none), i64 most, .any, .any, .any, .c (.slc 1 0 l.length none), .any, .any, .any, .c (.slc 2 0 l.length none), s, i] ++ anys 54
abbrev HL (l : List Cell) (m1 m2 : Nat) : VH KK := [.ro .cell l, .arr .bool (marks l m1 m2), .arr .int (still l m1 m2)]
abbrev HX (l : List Cell) (A : List Bool) (B : List Int) : VH KK := [.ro .cell l, .arr .bool A, .arr .int B]
structure CutOk (l : List Cell) (most : Int) (a b : Nat) : Prop where
  m1 : a ≤ l.length
  m2 : b ≤ l.length
  same : final l most a b = final l most l.length l.length
def inv10 (l : List Cell) (most : Int) : Inv KK := { X := Nat × Nat, fr := fun _ => frL l most .any .any, H := fun x => HX l (marks l x.1 x.2) (still l x.1 x.2), ok := fun x => CutOk l most x.1 x.2, meas := fun x : Nat × Nat => x.1 + x.2 }
def NoneOf (B : List Int) (s : Int) (i : Nat) : Prop := ∀ j, i ≤ j → j < B.length → rd B j 0 ≠ s
def inv12 (l : List Cell) (most : Int) (A : List Bool) (B : List Int) : Inv KK := { X := Nat, fr := fun s => frL l most (i64 s) .any, H := fun _ => HX l A B, ok := fun s => 1 ≤ s ∧ s ≤ 3 ∧ (1 < s → NoneOf B 1 0) ∧ (2 < s → NoneOf B 2 0), meas := fun s : Nat => 3 - s }
def inv15 (l : List Cell) (most : Int) (A : List Bool) (B : List Int) (s : Int) : Inv KK := { X := Nat, fr := fun i => frL l most (i64 s) (i64 (i - 1)), H := fun _ => HX l A B, ok := fun i => i ≤ l.length ∧ NoneOf B s i, meas := fun i : Nat => i }
def annLeave (l : List Cell) (most : Int) : Ann KK := ⟨fun id fr H => match id with
  | 4 => some (inv4 l most)
  | 10 => some (inv10 l most)
  | 12 => match getL .bool (at_ H 1), getL .int (at_ H 2) with
    | some A, some B => some (inv12 l most A B)
    | _, _ => none
  | 15 => match getL .bool (at_ H 1), getL .int (at_ H 2), getO fr (.tmp 10) with
    | some A, some B, .one (.c (.int _ s)) => some (inv15 l most A B s)
    | _, _, _ => none
  | _ => none, fun _ _ _ => none⟩
theorem vc_leave (l : List Cell) (most : Int) : evFn tab5 (annLeave l most) Try.f29 (ct_leave l most) = ( ((0 : Int) ≤ (↑l.length : Int) ∧ (↑l.length : Int) ≤ (↑l.length : Int)) ∧ ((↑l.length : Int) ≤ (4611686018427387904 : Int) ∧ (1 : Int) * (↑l.length : Int) ≤ (281474976710656 : Int)) ∧ ((0 : Int) ≤ (↑l.length
 : Int) ∧ (↑l.length : Int) ≤ (↑l.length : Int)) ∧ ((↑l.length : Int) ≤ (4611686018427387904 : Int) ∧ (8 : Int) * (↑l.length : Int) ≤ (281474976710656 : Int)) ∧ Enter 1 (inv4 l most) (fun (x : Nat) => True)
 [VV.one (V1.c (C.slc 0 0 l.length none)), i64 most, VV.any, VV.any, VV.one (V1.c C.nils), VV.one (V1.c (C.slc 1 0 (↑l.length : Int).toNat none)), VV.one (V1.c (C.slc 2 0 (↑l.length : Int).toNat none)),
 VV.any, VV.any, VV.any, VV.any, VV.any, VV.one (V1.c (C.slc 0 0 l.length none)), i64 (↑l.length : Int), VV.one (V1.c (C.slc 1 0 (↑l.length : Int).toNat none)), VV.one (V1.c (C.slc 0 0 l.length none)),
 i64 (↑l.length : Int), VV.one (V1.c (C.slc 2 0 (↑l.length : Int).toNat none)), VV.one (V1.c (C.slc 0 0 l.length none)), i64 (↑l.length : Int), i64 (0 : Int), VV.any, VV.any, VV.any, VV.any, VV.any, VV.any,
 VV.any, VV.any, VV.any, VV.any, VV.any, VV.any, VV.any, VV.any, VV.any, VV.any, VV.any, VV.any, VV.any, VV.any, VV.any, VV.any, VV.any, VV.any, VV.any, VV.any, VV.any, VV.any, VV.any, VV.any, VV.any, VV.any,
 VV.any, VV.any, VV.any, VV.any, VV.any, VV.any, VV.any, VV.any, VV.any, VV.any, VV.any, VV.any, VV.any] [Atom.ro Kd.cell l, Atom.arr Kd.bool (List.replicate (↑l.length : Int).toNat false), Atom.arr Kd.int
 (List.replicate (↑l.length : Int).toNat (0 : Int))] ∧ ∀ (z : Nat), z ≤ l.length → ite2 (decide ((↑z : Int) < (↑l.length : Int))) (((0 : Int) ≤ (↑z : Int) ∧ (↑z : Int) < (↑l.length : Int)) ∧ 0 + (↑z : Int).toNat
 < l.length ∧ True ∧ 0 + (↑z : Int).toNat < l.length ∧ True ∧ Into (K := KK) 0 [] [] [VV.one (V1.agg [C.str (rd l (0 + (↑z : Int).toNat) (KK.dflt Kd.cell)).path, C.int .i64 (rd l (0 + (↑z : Int).toNat)
 (KK.dflt Kd.cell)).what, C.int .i64 (rd l (0 + (↑z : Int).toNat) (KK.dflt Kd.cell)).side, C.int .i64 (rd l (0 + (↑z : Int).toNat) (KK.dflt Kd.cell)).mode, C.int .i64 (rd l (0 + (↑z : Int).toNat) (KK.dflt
 Kd.cell)).keep, C.int .i64 (rd l (0 + (↑z : Int).toNat) (KK.dflt Kd.cell)).take, C.int .i64 (rd l (0 + (↑z : Int).toNat) (KK.dflt Kd.cell)).names, C.int .i64 (rd l (0 + (↑z : Int).toNat) (KK.dflt Kd.cell)).bytes,
 C.int .i64 (rd l (0 + (↑z : Int).toNat) (KK.dflt Kd.cell)).hadN, C.int .i64 (rd l (0 + (↑z : Int).toNat) (KK.dflt Kd.cell)).hadB])] [Atom.ro Kd.cell l, Atom.arr Kd.bool (tb l.length fun (x : Nat) => false),
 Atom.arr Kd.int (gr l z), Atom.cells 44 [C.str (rd l (0 + (↑z : Int).toNat) (KK.dflt Kd.cell)).path, C.int .i64 (rd l (0 + (↑z : Int).toNat) (KK.dflt Kd.cell)).what, C.int .i64 (rd l (0 + (↑z : Int).toNat)
 (KK.dflt Kd.cell)).side, C.int .i64 (rd l (0 + (↑z : Int).toNat) (KK.dflt Kd.cell)).mode, C.int .i64 (rd l (0 + (↑z : Int).toNat) (KK.dflt Kd.cell)).keep, C.int .i64 (rd l (0 + (↑z : Int).toNat) (KK.dflt
 Kd.cell)).take, C.int .i64 (rd l (0 + (↑z : Int).toNat) (KK.dflt Kd.cell)).names, C.int .i64 (rd l (0 + (↑z : Int).toNat) (KK.dflt Kd.cell)).bytes, C.int .i64 (rd l (0 + (↑z : Int).toNat) (KK.dflt Kd.cell)).hadN,
 C.int .i64 (rd l (0 + (↑z : Int).toNat) (KK.dflt Kd.cell)).hadB]] [VV.one (V1.agg [C.str (rd l (0 + (↑z : Int).toNat) (KK.dflt Kd.cell)).path, C.int .i64 (rd l (0 + (↑z : Int).toNat) (KK.dflt Kd.cell)).what,
 C.int .i64 (rd l (0 + (↑z : Int).toNat) (KK.dflt Kd.cell)).side, C.int .i64 (rd l (0 + (↑z : Int).toNat) (KK.dflt Kd.cell)).mode, C.int .i64 (rd l (0 + (↑z : Int).toNat) (KK.dflt Kd.cell)).keep, C.int
 .i64 (rd l (0 + (↑z : Int).toNat) (KK.dflt Kd.cell)).take, C.int .i64 (rd l (0 + (↑z : Int).toNat) (KK.dflt Kd.cell)).names, C.int .i64 (rd l (0 + (↑z : Int).toNat) (KK.dflt Kd.cell)).bytes, C.int .i64
 (rd l (0 + (↑z : Int).toNat) (KK.dflt Kd.cell)).hadN, C.int .i64 (rd l (0 + (↑z : Int).toNat) (KK.dflt Kd.cell)).hadB])] [] ∧ ∀ (y : Unit), True → ((0 : Int) ≤ (↑z : Int) ∧ (↑z : Int) < (↑l.length : Int))
 ∧ 0 + (↑z : Int).toNat < (gr l z).length ∧ True ∧ 0 + (↑z : Int).toNat < (gr l z).length ∧ i64ok ((↑z : Int) + (1 : Int)) ∧ Enter 1 (inv4 l most) (fun (z' : Nat) => l.length - z' < l.length - z) [VV.one
 (V1.c (C.slc 0 0 l.length none)), i64 most, VV.any, VV.any, VV.any, VV.one (V1.c (C.slc 1 0 l.length none)), VV.one (V1.c (C.slc 2 0 l.length none)), i64 (↑z : Int), VV.one (V1.c (C.ptr 3 0 0)), VV.any,
 VV.any, VV.any, VV.any, VV.any, VV.any, VV.any, VV.any, VV.any, VV.one (V1.c (C.slc 0 0 l.length none)), i64 (↑l.length : Int), i64 ((↑z : Int) + (1 : Int)), boolv true, i64 (↑z : Int), VV.one (V1.c (C.ptr
 0 (0 + (↑z : Int).toNat) 0)), VV.one (V1.agg [C.str (rd l (0 + (↑z : Int).toNat) (KK.dflt Kd.cell)).path, C.int .i64 (rd l (0 + (↑z : Int).toNat) (KK.dflt Kd.cell)).what, C.int .i64 (rd l (0 + (↑z : Int).toNat)
 (KK.dflt Kd.cell)).side, C.int .i64 (rd l (0 + (↑z : Int).toNat) (KK.dflt Kd.cell)).mode, C.int .i64 (rd l (0 + (↑z : Int).toNat) (KK.dflt Kd.cell)).keep, C.int .i64 (rd l (0 + (↑z : Int).toNat) (KK.dflt
 Kd.cell)).take, C.int .i64 (rd l (0 + (↑z : Int).toNat) (KK.dflt Kd.cell)).names, C.int .i64 (rd l (0 + (↑z : Int).toNat) (KK.dflt Kd.cell)).bytes, C.int .i64 (rd l (0 + (↑z : Int).toNat) (KK.dflt Kd.cell)).hadN,
 C.int .i64 (rd l (0 + (↑z : Int).toNat) (KK.dflt Kd.cell)).hadB]), VV.one (V1.c (C.slc 2 0 l.length none)), i64 (↑z : Int), VV.one (V1.agg [C.str (rd l (0 + (↑z : Int).toNat) (KK.dflt Kd.cell)).path, C.int
 .i64 (rd l (0 + (↑z : Int).toNat) (KK.dflt Kd.cell)).what, C.int .i64 (rd l (0 + (↑z : Int).toNat) (KK.dflt Kd.cell)).side, C.int .i64 (rd l (0 + (↑z : Int).toNat) (KK.dflt Kd.cell)).mode, C.int .i64 (rd
 l (0 + (↑z : Int).toNat) (KK.dflt Kd.cell)).keep, C.int .i64 (rd l (0 + (↑z : Int).toNat) (KK.dflt Kd.cell)).take, C.int .i64 (rd l (0 + (↑z : Int).toNat) (KK.dflt Kd.cell)).names, C.int .i64 (rd l (0
 + (↑z : Int).toNat) (KK.dflt Kd.cell)).bytes, C.int .i64 (rd l (0 + (↑z : Int).toNat) (KK.dflt Kd.cell)).hadN, C.int .i64 (rd l (0 + (↑z : Int).toNat) (KK.dflt Kd.cell)).hadB]), VV.one (V1.c (C.int .i64
 (sortF (Cell.mk ((rd l (0 + (↑z : Int).toNat) (KK.dflt Kd.cell)).path) ((rd l (0 + (↑z : Int).toNat) (KK.dflt Kd.cell)).what) ((rd l (0 + (↑z : Int).toNat) (KK.dflt Kd.cell)).side) ((rd l (0 + (↑z : Int).toNat)
 (KK.dflt Kd.cell)).mode) ((rd l (0 + (↑z : Int).toNat) (KK.dflt Kd.cell)).keep) ((rd l (0 + (↑z : Int).toNat) (KK.dflt Kd.cell)).take) ((rd l (0 + (↑z : Int).toNat) (KK.dflt Kd.cell)).names) ((rd l (0
 + (↑z : Int).toNat) (KK.dflt Kd.cell)).bytes) ((rd l (0 + (↑z : Int).toNat) (KK.dflt Kd.cell)).hadN) ((rd l (0 + (↑z : Int).toNat) (KK.dflt Kd.cell)).hadB))))), VV.one (V1.c (C.ptr 2 (0 + (↑z : Int).toNat)
 0)), i64 ((↑z : Int) + (1 : Int)), VV.any, VV.any, VV.any, VV.any, VV.any, VV.any, VV.any, VV.any, VV.any, VV.any, VV.any, VV.any, VV.any, VV.any, VV.any, VV.any, VV.any, VV.any, VV.any, VV.any, VV.any,
 VV.any, VV.any, VV.any, VV.any, VV.any, VV.any, VV.any, VV.any, VV.any, VV.any, VV.any, VV.any, VV.any, VV.any] [Atom.ro Kd.cell l, Atom.arr Kd.bool (tb l.length fun (x : Nat) => false), Atom.arr Kd.int
 ((gr l z).set (0 + (↑z : Int).toNat) (sortF (Cell.mk ((rd l (0 + (↑z : Int).toNat) (KK.dflt Kd.cell)).path) ((rd l (0 + (↑z : Int).toNat) (KK.dflt Kd.cell)).what) ((rd l (0 + (↑z : Int).toNat) (KK.dflt
 Kd.cell)).side) ((rd l (0 + (↑z : Int).toNat) (KK.dflt Kd.cell)).mode) ((rd l (0 + (↑z : Int).toNat) (KK.dflt Kd.cell)).keep) ((rd l (0 + (↑z : Int).toNat) (KK.dflt Kd.cell)).take) ((rd l (0 + (↑z : Int).toNat)
 (KK.dflt Kd.cell)).names) ((rd l (0 + (↑z : Int).toNat) (KK.dflt Kd.cell)).bytes) ((rd l (0 + (↑z : Int).toNat) (KK.dflt Kd.cell)).hadN) ((rd l (0 + (↑z : Int).toNat) (KK.dflt Kd.cell)).hadB)))), Atom.cells
 44 [C.str (rd l (0 + (↑z : Int).toNat) (KK.dflt Kd.cell)).path, C.int .i64 (rd l (0 + (↑z : Int).toNat) (KK.dflt Kd.cell)).what, C.int .i64 (rd l (0 + (↑z : Int).toNat) (KK.dflt Kd.cell)).side, C.int .i64
 (rd l (0 + (↑z : Int).toNat) (KK.dflt Kd.cell)).mode, C.int .i64 (rd l (0 + (↑z : Int).toNat) (KK.dflt Kd.cell)).keep, C.int .i64 (rd l (0 + (↑z : Int).toNat) (KK.dflt Kd.cell)).take, C.int .i64 (rd l
 (0 + (↑z : Int).toNat) (KK.dflt Kd.cell)).names, C.int .i64 (rd l (0 + (↑z : Int).toNat) (KK.dflt Kd.cell)).bytes, C.int .i64 (rd l (0 + (↑z : Int).toNat) (KK.dflt Kd.cell)).hadN, C.int .i64 (rd l (0 +
 (↑z : Int).toNat) (KK.dflt Kd.cell)).hadB]]) (((0 : Int) ≤ (↑l.length : Int) ∧ (↑l.length : Int) ≤ (↑l.length : Int)) ∧ ((↑l.length : Int) ≤ (4611686018427387904 : Int) ∧ (8 : Int) * (↑l.length : Int)
 ≤ (281474976710656 : Int)) ∧ (0 + (↑l.length : Int).toNat ≤ (List.replicate (↑l.length : Int).toNat (0 : Int)).length ∧ True) ∧ (0 + l.length ≤ (gr l z).length ∧ True) ∧ Enter 1 (inv10 l most) (fun (x
 : Nat × Nat) => True) [VV.one (V1.c (C.slc 0 0 l.length none)), i64 most, VV.any, VV.any, VV.any, VV.one (V1.c (C.slc 1 0 l.length none)), VV.one (V1.c (C.slc 2 0 l.length none)), VV.any, VV.any, VV.one
 (V1.c (C.slc 3 0 (↑l.length : Int).toNat none)), VV.any, VV.any, VV.any, VV.any, VV.any, VV.any, VV.any, VV.any, VV.one (V1.c (C.slc 0 0 l.length none)), i64 (↑l.length : Int), i64 (↑z : Int), boolv false,
 VV.any, VV.any, VV.any, VV.any, VV.any, VV.any, VV.any, VV.any, VV.any, VV.one (V1.c (C.slc 2 0 l.length none)), i64 (↑l.length : Int), VV.one (V1.c (C.slc 3 0 (↑l.length : Int).toNat none)), VV.one (V1.c
 (C.slc 3 0 (↑l.length : Int).toNat none)), VV.one (V1.c (C.slc 2 0 l.length none)), i64 (↑(min (List.take l.length (gr l z)).length (↑l.length : Int).toNat) : Int), VV.any, VV.any, VV.any, VV.any, VV.any,
 VV.any, VV.any, VV.any, VV.any, VV.any, VV.any, VV.any, VV.any, VV.any, VV.any, VV.any, VV.any, VV.any, VV.any, VV.any, VV.any, VV.any, VV.any, VV.any, VV.any, VV.any, VV.any, VV.any, VV.any] [Atom.ro
 Kd.cell l, Atom.arr Kd.bool (tb l.length fun (x : Nat) => false), Atom.arr Kd.int (gr l z), Atom.arr Kd.int (List.take (min (List.take l.length (gr l z)).length (↑l.length : Int).toNat) (List.take l.length
 (gr l z)) ++ List.drop (0 + (List.take (min (List.take l.length (gr l z)).length (↑l.length : Int).toNat) (List.take l.length (gr l z))).length) (List.replicate (↑l.length : Int).toNat (0 : Int)))] ∧ ∀
 (z : Nat × Nat), CutOk l most z.fst z.snd → ((∀ (c : Cell), List.Mem c l → c.Ok) ∧ l.length ≤ (marks l z.fst z.snd).length ∧ i64ok (↑l.length : Int)) ∧ Into (K := KK) 0 [] [0, 1] [VV.one (V1.c (C.slc 0
 0 l.length none)), VV.one (V1.c (C.slc 1 0 l.length none))] [Atom.ro Kd.cell l, Atom.arr Kd.bool (marks l z.fst z.snd), Atom.arr Kd.int (still l z.fst z.snd)] [VV.one (V1.c (C.slc 0 0 l.length none)),
 VV.one (V1.c (C.slc 1 0 (marks l z.fst z.snd).length none))] [Atom.ro Kd.cell l, Atom.ro Kd.bool (marks l z.fst z.snd)] ∧ ∀ (y : Unit), True → ite2 (decide (most < pworstF l (marks l z.fst z.snd))) (Enter
 1 (inv12 l most (castK KK (instDecidableEqKd._proof_1 Kd.bool Kd.bool (Nat.eq_of_beq_eq_true (Eq.refl (Kd.bool.ctorIdx.beq Kd.bool.ctorIdx)))) (marks l z.fst z.snd)) (castK KK (instDecidableEqKd._proof_1
 Kd.int Kd.int (Nat.eq_of_beq_eq_true (Eq.refl (Kd.int.ctorIdx.beq Kd.int.ctorIdx)))) (still l z.fst z.snd))) (fun (x : Nat) => True) [VV.one (V1.c (C.slc 0 0 l.length none)), i64 most, VV.any, VV.any,
 VV.any, VV.one (V1.c (C.slc 1 0 l.length none)), VV.any, VV.any, VV.any, VV.one (V1.c (C.slc 2 0 l.length none)), i64 (1 : Int), VV.any, VV.any, VV.any, VV.any, VV.any, VV.any, VV.any, VV.any, VV.any,
 VV.any, VV.any, VV.any, VV.any, VV.any, VV.any, VV.any, VV.any, VV.any, VV.any, VV.any, VV.any, VV.any, VV.any, VV.any, VV.any, VV.any, VV.one (V1.c (C.slc 0 0 l.length none)), VV.one (V1.c (C.slc 1 0
 l.length none)), i64 (pworstF l (marks l z.fst z.snd)), i64 most, boolv true, VV.any, VV.any, VV.any, VV.any, VV.any, VV.any, VV.any, VV.any, VV.any, VV.any, VV.any, VV.any, VV.any, VV.any, VV.any, VV.any,
 VV.any, VV.any, VV.any, VV.any, VV.any, VV.any, VV.any, VV.any] [Atom.ro Kd.cell l, Atom.arr Kd.bool (marks l z.fst z.snd), Atom.arr Kd.int (still l z.fst z.snd)] ∧ ∀ (z_1 : Nat), 1 ≤ z_1 ∧ z_1 ≤ 3 ∧ (1
 < z_1 → ∀ (j : Nat), 0 ≤ j → j < (still l z.fst z.snd).length → rd (still l z.fst z.snd) j (0 : Int) ≠ (1 : Int)) ∧ (2 < z_1 → ∀ (j : Nat), 0 ≤ j → j < (still l z.fst z.snd).length → rd (still l z.fst
 z.snd) j (0 : Int) ≠ (2 : Int)) → ite2 (decide ((↑z_1 : Int) ≤ (2 : Int))) (i64ok ((↑l.length : Int) - (1 : Int)) ∧ Enter 1 (inv15 l most (castK KK (instDecidableEqKd._proof_1 Kd.bool Kd.bool (Nat.eq_of_beq_eq_true
 (Eq.refl (Kd.bool.ctorIdx.beq Kd.bool.ctorIdx)))) (marks l z.fst z.snd)) (castK KK (instDecidableEqKd._proof_1 Kd.int Kd.int (Nat.eq_of_beq_eq_true (Eq.refl (Kd.int.ctorIdx.beq Kd.int.ctorIdx)))) (still
 l z.fst z.snd)) (↑z_1 : Int)) (fun (x : Nat) => True) [VV.one (V1.c (C.slc 0 0 l.length none)), i64 most, VV.any, VV.any, VV.any, VV.one (V1.c (C.slc 1 0 l.length none)), VV.any, VV.any, VV.any, VV.one
 (V1.c (C.slc 2 0 l.length none)), i64 (↑z_1 : Int), i64 ((↑l.length : Int) - (1 : Int)), VV.any, VV.any, VV.any, VV.any, VV.any, VV.any, VV.any, VV.any, VV.any, VV.any, VV.any, VV.any, VV.any, VV.any,
 VV.any, VV.any, VV.any, VV.any, VV.any, VV.any, VV.any, VV.any, VV.any, VV.any, VV.any, VV.any, VV.any, VV.any, VV.any, VV.any, i64 (↑z_1 : Int), boolv true, VV.any, VV.any, VV.one (V1.c (C.slc 0 0 l.length
 none)), i64 (↑l.length : Int), i64 ((↑l.length : Int) - (1 : Int)), VV.any, VV.any, VV.any, VV.any, VV.any, VV.any, VV.any, VV.any, VV.any, VV.any, VV.any, VV.any, VV.any, VV.any, VV.any, VV.any, VV.any]
 [Atom.ro Kd.cell l, Atom.arr Kd.bool (marks l z.fst z.snd), Atom.arr Kd.int (still l z.fst z.snd)] ∧ ∀ (z_2 : Nat), (z_2 ≤ l.length ∧ ∀ (j : Nat), z_2 ≤ j → j < (still l z.fst z.snd).length → rd (still
 l z.fst z.snd) j (0 : Int) ≠ (↑z_1 : Int)) → ite2 (decide ((0 : Int) ≤ (↑z_2 : Int) - (1 : Int))) (((0 : Int) ≤ (↑z_2 : Int) - (1 : Int) ∧ (↑z_2 : Int) - (1 : Int) < (↑l.length : Int)) ∧ 0 + ((↑z_2 : Int)
 - (1 : Int)).toNat < (still l z.fst z.snd).length ∧ True ∧ 0 + ((↑z_2 : Int) - (1 : Int)).toNat < (still l z.fst z.snd).length ∧ ite2 (decide (rd (still l z.fst z.snd) (0 + ((↑z_2 : Int) - (1 : Int)).toNat)
 (0 : Int) = (↑z_1 : Int))) (((0 : Int) ≤ (↑z_2 : Int) - (1 : Int) ∧ (↑z_2 : Int) - (1 : Int) < (↑l.length : Int)) ∧ 0 + ((↑z_2 : Int) - (1 : Int)).toNat < (still l z.fst z.snd).length ∧ True ∧ 0 + ((↑z_2
 : Int) - (1 : Int)).toNat < (still l z.fst z.snd).length ∧ ((0 : Int) ≤ (↑z_2 : Int) - (1 : Int) ∧ (↑z_2 : Int) - (1 : Int) < (↑l.length : Int)) ∧ 0 + ((↑z_2 : Int) - (1 : Int)).toNat < (marks l z.fst
 z.snd).length ∧ True ∧ 0 + ((↑z_2 : Int) - (1 : Int)).toNat < (marks l z.fst z.snd).length ∧ Enter 1 (inv10 l most) (fun (z' : Nat × Nat) => z'.fst + z'.snd < z.fst + z.snd) [VV.one (V1.c (C.slc 0 0 l.length
 none)), i64 most, VV.any, VV.any, VV.any, VV.one (V1.c (C.slc 1 0 l.length none)), VV.any, VV.any, VV.any, VV.one (V1.c (C.slc 2 0 l.length none)), i64 (↑z_1 : Int), i64 ((↑z_2 : Int) - (1 : Int)), VV.any,
 VV.any, VV.any, VV.any, VV.any, VV.any, VV.any, VV.any, VV.any, VV.any, VV.any, VV.any, VV.any, VV.any, VV.any, VV.any, VV.any, VV.any, VV.any, VV.any, VV.any, VV.any, VV.any, VV.any, VV.any, VV.any, VV.any,
 VV.any, VV.any, VV.any, VV.any, VV.any, VV.any, VV.any, VV.any, VV.any, VV.any, i64 ((↑z_2 : Int) - (1 : Int)), boolv true, VV.any, VV.any, VV.one (V1.c (C.slc 2 0 l.length none)), i64 ((↑z_2 : Int) -
 (1 : Int)), VV.one (V1.c (C.ptr 2 (0 + ((↑z_2 : Int) - (1 : Int)).toNat) 0)), VV.one (V1.c (C.int .i64 (rd (still l z.fst z.snd) (0 + ((↑z_2 : Int) - (1 : Int)).toNat) (0 : Int)))), i64 (↑z_1 : Int), boolv
 true, VV.one (V1.c (C.slc 2 0 l.length none)), i64 ((↑z_2 : Int) - (1 : Int)), VV.one (V1.c (C.slc 1 0 l.length none)), i64 ((↑z_2 : Int) - (1 : Int)), VV.one (V1.c (C.ptr 2 (0 + ((↑z_2 : Int) - (1 : Int)).toNat)
 0)), VV.one (V1.c (C.ptr 1 (0 + ((↑z_2 : Int) - (1 : Int)).toNat) 0)), VV.any] [Atom.ro Kd.cell l, Atom.arr Kd.bool ((marks l z.fst z.snd).set (0 + ((↑z_2 : Int) - (1 : Int)).toNat) true), Atom.arr Kd.int
 ((still l z.fst z.snd).set (0 + ((↑z_2 : Int) - (1 : Int)).toNat) (0 : Int))]) (i64ok ((↑z_2 : Int) - (1 : Int) - (1 : Int)) ∧ Enter 1 (inv15 l most (castK KK (instDecidableEqKd._proof_1 Kd.bool Kd.bool
 (Nat.eq_of_beq_eq_true (Eq.refl (Kd.bool.ctorIdx.beq Kd.bool.ctorIdx)))) (marks l z.fst z.snd)) (castK KK (instDecidableEqKd._proof_1 Kd.int Kd.int (Nat.eq_of_beq_eq_true (Eq.refl (Kd.int.ctorIdx.beq Kd.int.ctorIdx))))
 (still l z.fst z.snd)) (↑z_1 : Int)) (fun (z' : Nat) => z' < z_2) [VV.one (V1.c (C.slc 0 0 l.length none)), i64 most, VV.any, VV.any, VV.any, VV.one (V1.c (C.slc 1 0 l.length none)), VV.any, VV.any, VV.any,
 VV.one (V1.c (C.slc 2 0 l.length none)), i64 (↑z_1 : Int), i64 ((↑z_2 : Int) - (1 : Int) - (1 : Int)), VV.any, VV.any, VV.any, VV.any, VV.any, VV.any, VV.any, VV.any, VV.any, VV.any, VV.any, VV.any, VV.any,
 VV.any, VV.any, VV.any, VV.any, VV.any, VV.any, VV.any, VV.any, VV.any, VV.any, VV.any, VV.any, VV.any, VV.any, VV.any, VV.any, VV.any, VV.any, VV.any, VV.any, VV.any, VV.any, VV.any, VV.any, i64 ((↑z_2
 : Int) - (1 : Int)), boolv true, i64 ((↑z_2 : Int) - (1 : Int)), i64 ((↑z_2 : Int) - (1 : Int) - (1 : Int)), VV.one (V1.c (C.slc 2 0 l.length none)), i64 ((↑z_2 : Int) - (1 : Int)), VV.one (V1.c (C.ptr
 2 (0 + ((↑z_2 : Int) - (1 : Int)).toNat) 0)), VV.one (V1.c (C.int .i64 (rd (still l z.fst z.snd) (0 + ((↑z_2 : Int) - (1 : Int)).toNat) (0 : Int)))), i64 (↑z_1 : Int), boolv false, VV.any, VV.any, VV.any,
 VV.any, VV.any, VV.any, VV.any] [Atom.ro Kd.cell l, Atom.arr Kd.bool (marks l z.fst z.snd), Atom.arr Kd.int (still l z.fst z.snd)])) (i64ok ((↑z_1 : Int) + (1 : Int)) ∧ Enter 1 (inv12 l most (castK KK
 (instDecidableEqKd._proof_1 Kd.bool Kd.bool (Nat.eq_of_beq_eq_true (Eq.refl (Kd.bool.ctorIdx.beq Kd.bool.ctorIdx)))) (marks l z.fst z.snd)) (castK KK (instDecidableEqKd._proof_1 Kd.int Kd.int (Nat.eq_of_beq_eq_true
 (Eq.refl (Kd.int.ctorIdx.beq Kd.int.ctorIdx)))) (still l z.fst z.snd))) (fun (z' : Nat) => 3 - z' < 3 - z_1) [VV.one (V1.c (C.slc 0 0 l.length none)), i64 most, VV.any, VV.any, VV.any, VV.one (V1.c (C.slc
 1 0 l.length none)), VV.any, VV.any, VV.any, VV.one (V1.c (C.slc 2 0 l.length none)), i64 ((↑z_1 : Int) + (1 : Int)), i64 ((↑z_2 : Int) - (1 : Int)), VV.any, VV.any, VV.any, VV.any, VV.any, VV.any, VV.any,
 VV.any, VV.any, VV.any, VV.any, VV.any, VV.any, VV.any, VV.any, VV.any, VV.any, VV.any, VV.any, VV.any, VV.any, VV.any, VV.any, VV.any, VV.any, VV.any, VV.any, VV.any, VV.any, VV.any, VV.any, VV.any, i64
 (↑z_1 : Int), i64 ((↑z_1 : Int) + (1 : Int)), VV.any, VV.any, VV.any, i64 ((↑z_2 : Int) - (1 : Int)), boolv false, VV.any, VV.any, VV.any, VV.any, VV.any, VV.any, VV.any, VV.any, VV.any, VV.any, VV.any,
 VV.any, VV.any, VV.any, VV.any] [Atom.ro Kd.cell l, Atom.arr Kd.bool (marks l z.fst z.snd), Atom.arr Kd.int (still l z.fst z.snd)])) (EndsAs 1 (ct_leave l most) (VV.one (V1.c (C.slc 1 0 l.length none)))
 [Atom.ro Kd.cell l, Atom.arr Kd.bool (marks l z.fst z.snd), Atom.arr Kd.int (still l z.fst z.snd)])) (EndsAs 1 (ct_leave l most) (VV.one (V1.c (C.slc 1 0 l.length none))) [Atom.ro Kd.cell l, Atom.arr Kd.bool
 (marks l z.fst z.snd), Atom.arr Kd.int (still l z.fst z.snd)]))) := by kernel_rfl
theorem tb_len {α : Type} (n : Nat) (f : Nat → α) : (tb n f).length = n := by simp [tb]
theorem rd_tb {α : Type} {n : Nat} {f : Nat → α} {j : Nat} (h : j < n) (d : α) : rd (tb n f) j d = f j := by
  unfold rd tb
  rw [List.getD_eq_getElem?_getD, List.getElem?_map, List.getElem?_range h]
  rfl
theorem tb_congr {α : Type} {n : Nat} {f g : Nat → α} (h : ∀ j, j < n → f j = g j) : tb n f = tb n g := by
  unfold tb
  exact List.map_congr_left fun j hj => h j (List.mem_range.1 hj)
theorem tb_set {α : Type} {n : Nat} {f : Nat → α} (i : Nat) (x : α) : (tb n f).set i x = tb n fun j => if j = i then x else f j := by
  apply List.ext_getElem?
  intro j
  rw [List.getElem?_set]
  unfold tb
  simp only [List.getElem?_map, List.length_map, List.length_range]
  by_cases hj : j < n
  · rw [List.getElem?_range hj]
    by_cases e : i = j
    · subst e; simp [hj]
    · rw [if_neg e]; simp [Ne.symm e]
  · rw [List.getElem?_eq_none (by simpa using hj)]
    by_cases e : i = j
    · subst e; simp [hj]
    · rw [if_neg e]; rfl
theorem prevS_some {l : List Cell} {s : Int} : ∀ {a i : Nat}, i < a → srt l i = s → (∀ j, i < j → j < a → srt l j ≠ s) → prevS l s a = some i
  | 0, i, h, _, _ => by omega
  | a + 1, i, h, hs, hn => by
    unfold prevS
    by_cases e : i = a
    · subst e; rw [if_pos hs]
    · rw [if_neg (hn a (by omega) (by omega))]
      exact prevS_some (by omega) hs fun j h1 h2 => hn j h1 (by omega)
theorem prevS_none {l : List Cell} {s : Int} : ∀ {a : Nat}, (∀ j, j < a → srt l j ≠ s) → prevS l s a = none
  | 0, _ => rfl
  | a + 1, hn => by
    unfold prevS
    rw [if_neg (hn a (by omega))]
    exact prevS_none fun j h => hn j (by omega)
theorem prevS_lt {l : List Cell} {s : Int} : ∀ {a i : Nat}, prevS l s a = some i → i < a
  | 0, i, h => by cases h
  | a + 1, i, h => by
    unfold prevS at h
    split at h
    · injection h with h; omega
    · have := prevS_lt h; omega
theorem cut_fuel {l : List Cell} {most : Int} : ∀ (k : Nat) {a b k' : Nat}, a + b + 1 ≤ k → a + b + 1 ≤ k' → cut l most k a b = cut l most k' a b
  | 0, a, b, k', h, _ => by omega
  | k + 1, a, b, 0, _, h => by omega
  | k + 1, a, b, k' + 1, h, h' => by
    simp only [cut]
    split
    · split
      · rename_i i hi
        have := prevS_lt hi
        exact cut_fuel k (by omega) (by omega)
      · split
        · rename_i i hi
          have := prevS_lt hi
          exact cut_fuel k (by omega) (by omega)
        · rfl
    · rfl
theorem final_one {l : List Cell} {most : Int} {a b i : Nat} (h : most < pworstF l (marks l a b)) (hi : prevS l 1 a = some i) : final l most a b = final l most i b := by
  have := prevS_lt hi
  unfold final
  rw [cut, if_pos h, hi]
  exact cut_fuel _ (by omega) (by omega)
theorem final_two {l : List Cell} {most : Int} {a b i : Nat} (h : most < pworstF l (marks l a b)) (h1 : prevS l 1 a = none) (hi : prevS l 2 b = some i) : final l most a b = final l most a i := by
  have := prevS_lt hi
  unfold final
  rw [cut, if_pos h, h1]
  simp only [hi]
  exact cut_fuel _ (by omega) (by omega)
theorem final_stop {l : List Cell} {most : Int} {a b : Nat} (h : ¬ most < pworstF l (marks l a b)) : final l most a b = (a, b) := by
  unfold final; rw [cut, if_neg h]
theorem final_none {l : List Cell} {most : Int} {a b : Nat} (h1 : prevS l 1 a = none) (h2 : prevS l 2 b = none) : final l most a b = (a, b) := by
  unfold final; rw [cut, h1]
  simp only [h2]
  split <;> rfl
theorem sortF_cases (c : Cell) : sortF c = 0 ∨ sortF c = 1 ∨ sortF c = 2 := by
  unfold sortF; (repeat' split) <;> simp
theorem rd_still {l : List Cell} {a b j : Nat} (h : j < l.length) : rd (still l a b) j 0 = if behind l a b j then 0 else srt l j := rd_tb h 0
theorem still_one {l : List Cell} {a b j : Nat} (h : j < l.length) : rd (still l a b) j 0 = 1 ↔ srt l j = 1 ∧ j < a := by
  rw [rd_still h]
  unfold behind
  by_cases h1 : (srt l j = 1 ∧ a ≤ j) ∨ (srt l j = 2 ∧ b ≤ j)
  · simp only [h1, decide_true, if_true]; omega
  · simp only [h1, decide_false]; simp; omega
theorem still_two {l : List Cell} {a b j : Nat} (h : j < l.length) : rd (still l a b) j 0 = 2 ↔ srt l j = 2 ∧ j < b := by
  rw [rd_still h]
  unfold behind
  by_cases h1 : (srt l j = 1 ∧ a ≤ j) ∨ (srt l j = 2 ∧ b ≤ j)
  · simp only [h1, decide_true, if_true]; omega
  · simp only [h1, decide_false]; simp; omega
theorem behind_one {l : List Cell} {a b i : Nat} (hi : srt l i = 1) (ha : i < a) (hn : ∀ j, i < j → j < l.length → ¬ (srt l j = 1 ∧ j < a)) : ∀ j, j < l.length → behind l i b j = if j = i then true else behind l a b j := fun j hj => by
  have := hn j
  by_cases e : j = i
  · subst e; simp [behind, hi]
  · rw [if_neg e]
    unfold behind
    exact decide_eq_decide.2 (by omega)
theorem behind_two {l : List Cell} {a b i : Nat} (hi : srt l i = 2) (hb : i < b) (hn : ∀ j, i < j → j < l.length → ¬ (srt l j = 2 ∧ j < b)) : ∀ j, j < l.length → behind l a i j = if j = i then true else behind l a b j := fun j hj => by
  have := hn j
  by_cases e : j = i
  · subst e; simp [behind, hi]
  · rw [if_neg e]
    unfold behind
    exact decide_eq_decide.2 (by omega)
theorem set_marks {l : List Cell} {a b a' b' i : Nat} (h : ∀ j, j < l.length → behind l a' b' j = if j = i then true else behind l a b j) : (marks l a b).set i true = marks l a' b' := by
  unfold marks; rw [tb_set]; exact tb_congr fun j hj => (h j hj).symm
theorem set_still {l : List Cell} {a b a' b' i : Nat} (h : ∀ j, j < l.length → behind l a' b' j = if j = i then true else behind l a b j) : (still l a b).set i 0 = still l a' b' := by
  unfold still; rw [tb_set]; refine tb_congr fun j hj => ?_
  rw [h j hj]
  by_cases e : j = i
  · simp [e]
  · simp [e]
/-- What one round does. -/
theorem round {l : List Cell} {most : Int} {a b i s : Nat} (hc : CutOk l most a b) (hw : most < pworstF l (marks l a b)) (hs : s = 1 ∨ s = 2) (hi : i < l.length) (hr : rd (still l a b) i 0 = (s : Int))
    (hn : ∀ j, i + 1 ≤ j → j < (still l a b).length → rd (still l a b) j 0 ≠ (s : Int)) (h1 : 1 < s → ∀ j, 0 ≤ j → j < (still l a b).length → rd (still l a b) j 0 ≠ 1) :
    ∃ a' b', CutOk l most a' b' ∧ a' + b' < a + b ∧ (marks l a b).set i true = marks l a' b' ∧ (still l a b).set i 0 = still l a' b' := by
  have hlen : (still l a b).length = l.length := tb_len _ _
  rw [hlen] at hn h1
  have ha := hc.m1
  have hb := hc.m2
  rcases hs with rfl | rfl
  · obtain ⟨h2, h3⟩ := (still_one hi).1 hr
    have hn' : ∀ j, i < j → j < l.length → ¬ (srt l j = 1 ∧ j < a) := fun j hj hjl h => hn j hj hjl ((still_one hjl).2 h)
    have hp := prevS_some (s := 1) h3 h2 fun j hj hja e => hn' j hj (by omega) ⟨e, hja⟩
    exact ⟨i, b, ⟨by omega, hb, by rw [← final_one hw hp]; exact hc.same⟩, by omega, set_marks (behind_one h2 h3 hn'), set_still (behind_one h2 h3 hn')⟩
  · obtain ⟨h2, h3⟩ := (still_two hi).1 hr
    have hn' : ∀ j, i < j → j < l.length → ¬ (srt l j = 2 ∧ j < b) := fun j hj hjl h => hn j hj hjl ((still_two hjl).2 h)
    have hp := prevS_some (s := 2) h3 h2 fun j hj hja e => hn' j hj (by omega) ⟨e, hja⟩
    have hq : prevS l 1 a = none := prevS_none fun j hj e => h1 (by omega) j (Nat.zero_le _) (by omega) ((still_one (by omega)).2 ⟨e, hj⟩)
    exact ⟨a, i, ⟨ha, by omega, by rw [← final_two hw hq hp]; exact hc.same⟩, by omega, set_marks (behind_two h2 h3 hn'), set_still (behind_two h2 h3 hn')⟩
theorem leave_stop {l : List Cell} {most : Int} {a b : Nat} (hc : CutOk l most a b) (h : final l most a b = (a, b)) : marks l a b = leaveF l most := by
  unfold leaveF; rw [← hc.same, h]
theorem gr_succ {l : List Cell} {z : Nat} (h : z < l.length) : (gr l z).set z (srt l z) = gr l (z + 1) := by
  unfold gr; rw [tb_set]; refine tb_congr fun j hj => ?_
  by_cases e : j = z
  · subst e; simp
  · rw [if_neg e]
    by_cases h1 : j < z
    · rw [if_pos h1, if_pos (by omega)]
    · rw [if_neg h1, if_neg (by omega)]
theorem gr_zero (l : List Cell) : List.replicate l.length (0 : Int) = gr l 0 := by
  unfold gr tb
  apply List.ext_getElem?
  intro j
  rw [List.getElem?_replicate, List.getElem?_map]
  by_cases h : j < l.length
  · rw [if_pos h, List.getElem?_range h]; simp
  · rw [if_neg h, List.getElem?_eq_none (by simpa using h)]; rfl
theorem false_zero (l : List Cell) : List.replicate l.length false = tb l.length fun _ => false := by
  unfold tb
  apply List.ext_getElem?
  intro j
  rw [List.getElem?_replicate, List.getElem?_map]
  by_cases h : j < l.length
  · rw [if_pos h, List.getElem?_range h]; simp
  · rw [if_neg h, List.getElem?_eq_none (by simpa using h)]; rfl
theorem behind_all {l : List Cell} {j : Nat} (h : j < l.length) : behind l l.length l.length j = false := decide_eq_false (by omega)
theorem marks_all (l : List Cell) : (tb l.length fun _ => false) = marks l l.length l.length := tb_congr fun j hj => (behind_all hj).symm
theorem still_all (l : List Cell) : gr l l.length = still l l.length l.length := tb_congr fun j hj => by rw [behind_all hj, if_pos hj]; rfl
theorem leave_ok (l : List Cell) (most : Int) : CtOk Try.prog 29 (ct_leave l most) := CtOk_of KK_ok tab5 (annLeave l most) (fn := Try.f29) rfl (fun _ _ => rfl) fun hn => by
  obtain ⟨hl, hn, hm⟩ := hn
  rw [vc_leave]
  have tk : ∀ z, List.take l.length (gr l z) = gr l z := fun z => List.take_of_length_le (by rw [gr, tb_len]; exact Nat.le_refl _)
  have glen : ∀ z, (gr l z).length = l.length := fun z => tb_len _ _
  have slen : ∀ a b, (still l a b).length = l.length := fun a b => tb_len _ _
  have mlen : ∀ a b, (marks l a b).length = l.length := fun a b => tb_len _ _
  simp only [Int.toNat_natCast, Nat.zero_add]
  refine ⟨by omega, by omega, by omega, by omega, ⟨(0 : Nat), [], [0, 1, 2], Nat.zero_le _, trivial, into_mk (by kernel_rfl) ?_ ?_⟩, fun z hz => ite2_decide (fun hz1 => ?_) (fun hz1 => ?_)⟩
  · (repeat' first | exact trivial | exact rfl | apply And.intro)
  · (repeat' first | exact trivial | exact rfl | apply And.intro)
    all_goals first | exact false_zero l | exact gr_zero l
  · have hi : i64ok ((z : Int) + 1) := by unfold i64ok; omega
    have z1 : (0 : Int) ≤ z ∧ (z : Int) < l.length := by omega
    have z2 : z < l.length := by omega
    have z3 : z < (gr l z).length := by rw [glen]; omega
    have hE := gr_succ z2
    repeat' first | exact trivial | exact rfl | assumption | (intro _ _) | (refine into_mk (by kernel_rfl) ?_ ?_) | (refine ⟨(z + 1 : Nat), [], [0, 1, 2], by show z + 1 ≤ l.length; omega, by omega, into_mk (by kernel_rfl) ?_ ?_⟩) | apply And.intro
    all_goals first | omega | exact hE
  · have e : z = l.length := by omega
    subst e
    rw [tk] at *
    have hcopy : List.take (min (gr l l.length).length l.length) (gr l l.length) ++ List.drop (List.take (min (gr l l.length).length l.length) (gr l l.length)).length (List.replicate l.length (0 : Int)) = still l l.length l.length := by
      rw [List.take_of_length_le (by rw [glen]; omega), List.drop_of_length_le (by rw [glen]; simp), List.append_nil, still_all]
    have i1 : i64ok (l.length : Int) := by unfold i64ok; omega
    have fin : ∀ a b, CutOk l most a b → final l most a b = (a, b) → EndsAs 1 (ct_leave l most) (VV.one (V1.c (C.slc 1 0 l.length none))) [Atom.ro Kd.cell l, Atom.arr Kd.bool (marks l a b), Atom.arr Kd.int (still l a b)] := fun a b hc hf => by
      refine ⟨(), [], [0, 1], trivial, ?_⟩
      (repeat' first | exact trivial | exact rfl | apply And.intro)
      all_goals exact leave_stop hc hf
    refine ⟨by omega, by omega, ⟨by simp, trivial⟩, ⟨by rw [glen]; exact Nat.le_refl _, trivial⟩, ⟨((l.length, l.length) : Nat × Nat), [], [0, 1, 3], ⟨Nat.le_refl _, Nat.le_refl _, rfl⟩, trivial, into_mk (by kernel_rfl) ?_ ?_⟩, fun z hc => ⟨⟨hl, by rw [mlen]; exact Nat.le_refl _, i1⟩, into_mk (by kernel_rfl) ?_ ?_, fun _ _ => ite2_decide (fun hw => ?_) (fun hw => fin _ _ hc (final_stop hw))⟩⟩
    · (repeat' first | exact trivial | exact rfl | apply And.intro)
    · (repeat' first | exact trivial | exact rfl | apply And.intro)
      all_goals first | exact marks_all l | exact hcopy
    · (repeat' first | exact trivial | exact rfl | apply And.intro)
      all_goals exact (mlen _ _).symm
    · (repeat' first | exact trivial | exact rfl | apply And.intro)
    · have l1 := slen z.1 z.2
      have l2 := mlen z.1 z.2
      refine ⟨⟨(1 : Nat), [], [0, 1, 2], ⟨by decide, by decide, fun h => by omega, fun h => by omega⟩, trivial, into_mk (by kernel_rfl) ?_ ?_⟩, fun s hs => ite2_decide (fun hs2 => ⟨by unfold i64ok; omega, ⟨(l.length : Nat), [], [0, 1, 2], ⟨Nat.le_refl _, fun j h1 h2 => by have h3 : j < (still l z.1 z.2).length := h2; omega⟩, trivial, into_mk (by kernel_rfl) ?_ ?_⟩, fun i hi => ite2_decide (fun h0 => ?_) (fun h0 => ?_)⟩) (fun hs2 => ?_)⟩
      · (repeat' first | exact trivial | exact rfl | apply And.intro)
      · (repeat' first | exact trivial | exact rfl | apply And.intro)
      · (repeat' first | exact trivial | exact rfl | apply And.intro)
      · (repeat' first | exact trivial | exact rfl | apply And.intro)
      · obtain ⟨q, rfl⟩ : ∃ q, i = q + 1 := ⟨i - 1, by omega⟩
        have e : (((q + 1 : Nat) : Int) - 1).toNat = q := by omega
        obtain ⟨hq, hnone⟩ := hi
        obtain ⟨hs0, hs3, hsa, hsb⟩ := hs
        have hs2' : s ≤ 2 := by omega
        simp only [e]
        refine ⟨by omega, by omega, trivial, by omega, ite2_decide (fun hr => ?_) (fun hr => ?_)⟩
        · obtain ⟨a', b', hc', hlt, hm', hs'⟩ := round hc hw (show s = 1 ∨ s = 2 by omega) (by omega) hr hnone hsa
          refine ⟨by omega, by omega, trivial, by omega, by omega, by omega, trivial, by omega, ⟨((a', b') : Nat × Nat), [], [0, 1, 2], hc', hlt, into_mk (by kernel_rfl) ?_ ?_⟩⟩
          · (repeat' first | exact trivial | exact rfl | apply And.intro)
          · (repeat' first | exact trivial | exact rfl | apply And.intro)
            all_goals first | exact hm' | exact hs'
        · refine ⟨by unfold i64ok; omega, ⟨(q : Nat), [], [0, 1, 2], ⟨by omega, fun j h1 h2 => ?_⟩, by omega, into_mk (by kernel_rfl) ?_ ?_⟩⟩
          · by_cases ej : j = q
            · subst ej; exact hr
            · exact hnone j (by omega) h2
          · (repeat' first | exact trivial | exact rfl | apply And.intro)
            all_goals (show ((q + 1 : Nat) : Int) - 1 - 1 = (q : Int) - 1; omega)
          · (repeat' first | exact trivial | exact rfl | apply And.intro)
      · obtain ⟨hq, hnone⟩ := hi
        obtain ⟨hs0, hs3, hsa, hsb⟩ := hs
        have hi0 : i = 0 := by omega
        subst hi0
        refine ⟨by unfold i64ok; omega, ⟨(s + 1 : Nat), [], [0, 1, 2], ⟨by omega, by omega, fun h => ?_, fun h => ?_⟩, by omega, into_mk (by kernel_rfl) ?_ ?_⟩⟩
        · by_cases es : s = 1
          · subst es; exact hnone
          · exact hsa (by omega)
        · have es : s = 2 := by omega
          subst es; exact hnone
        · (repeat' first | exact trivial | exact rfl | apply And.intro)
        · (repeat' first | exact trivial | exact rfl | apply And.intro)
      · obtain ⟨hs0, hs3, hsa, hsb⟩ := hs
        have hm1 := hc.m1
        have hm2 := hc.m2
        refine fin _ _ hc (final_none (prevS_none fun j hj e => ?_) (prevS_none fun j hj e => ?_))
        · exact hsa (by omega) j (Nat.zero_le _) (by omega) ((still_one (by omega)).2 ⟨e, hj⟩)
        · exact hsb (by omega) j (Nat.zero_le _) (by omega) ((still_two (by omega)).2 ⟨e, hj⟩)
end Go.Proofs.Ytljamcgngojaeaa.T
