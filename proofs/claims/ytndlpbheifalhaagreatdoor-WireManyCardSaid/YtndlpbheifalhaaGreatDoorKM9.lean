/- Text 10 of 13 texts that prove the statement of Vx; it holds without conditions beyond the statement's own. -/
import Derived.Laws.AppendOwn
import Derived.Laws.OwnMore
import Derived.Deep.MidRow
import Derived.Calls
import Derived.Deep.AppendSrc
import Derived.Maps.AppendAt
import Derived.IntWalk
import Derived.Tactics
import Derived.Laws.StructEq
import Derived.Laws.BytesString
import Derived.Orders
import Derived.Scope
import Derived.Deep.LoopGhost
import Derived.Recover
import Derived.Test.YtndlpbheifalhaaGreatDoorProg
import Derived.KernelRfl
import Derived.Test.YtndlpbheifalhaaGreatDoorKM0
import Derived.Test.YtndlpbheifalhaaGreatDoorKM7
import Derived.Test.YtndlpbheifalhaaGreatDoorKM8
set_option linter.unusedSimpArgs false
set_option linter.unusedVariables false
namespace Go.Proofs.YtndlpbheifalhaaGreatDoor
end Go.Proofs.YtndlpbheifalhaaGreatDoor
namespace Go.Proofs.YtndlpbheifalhaaGreatDoor.E
end Go.Proofs.YtndlpbheifalhaaGreatDoor.E
namespace Go.Proofs.YtndlpbheifalhaaGreatDoor.T
end Go.Proofs.YtndlpbheifalhaaGreatDoor.T
namespace Go.Proofs.YtndlpbheifalhaaGreatDoor.TwireMany
end Go.Proofs.YtndlpbheifalhaaGreatDoor.TwireMany
namespace Go.Proofs.YtndlpbheifalhaaGreatDoor.V
end Go.Proofs.YtndlpbheifalhaaGreatDoor.V
section
namespace Go.Proofs.YtndlpbheifalhaaGreatDoor.T
open Go.Proofs.YtndlpbheifalhaaGreatDoor.E
/-- One call of a reader. -/
abbrev OpT := Int × Bool × Int × Int
inductive Kd | int | u8 | ru8 | op | pair | flt
  deriving DecidableEq
@[reducible] def Kd.α : Kd → Type | .int => Int | .u8 => Int | .ru8 => RS | .op => OpT | .pair => Nat × Nat | .flt => Int × ByteArray × Int
def KK : Kinds where
  Kd := Kd
  deq := inferInstance
  α := Kd.α
  size := fun | .int => 1 | .u8 => 1 | .ru8 => 1 | .op => 4 | .pair => 2 | .flt => 3
  elem := fun | .int => 3 | .u8 => 5 | .ru8 => 22 | .op => 66 | .pair => 63 | .flt => 149
  enc := fun
    | .int => fun x => [.int .i64 x]
    | .u8 => fun x => [.int .u8 x]
    | .ru8 => fun x => [.rs 5 1 x]
    | .op => fun x => [.int .i64 x.1, .bool x.2.1, .int .u64 x.2.2.1, .int .i64 x.2.2.2]
    | .pair => fun x => [.rp 75 0 x.1 0 0, .rp 77 0 x.2 0 0]
    | .flt => fun x => [.int .i64 x.1, .str x.2.1, .int .i64 x.2.2]
  dec := fun
    | .int => fun | [.int .i64 x] => some x | _ => none
    | .u8 => fun | [.int .u8 x] => some x | _ => none
    | .ru8 => fun | [.rs 5 1 x] => some x | _ => none
    | .op => fun | [.int .i64 x, .bool y, .int .u64 z, .int .i64 u] => some (x, y, z, u) | _ => none
    | .pair => fun | [.rp 75 0 x 0 0, .rp 77 0 y 0 0] => some (x, y) | _ => none
    | .flt => fun | [.int .i64 x, .str y, .int .i64 z] => some (x, y, z) | _ => none
  dflt := fun | .int => (0 : Int) | .u8 => (0 : Int) | .ru8 => RS.nil | .op => ((0 : Int), false, (0 : Int), (0 : Int)) | .pair => ((0 : Nat), (0 : Nat)) | .flt => ((0 : Int), ByteArray.empty, (0 : Int))
  ofType := fun | 3 => some .int | 5 => some .u8 | 22 => some .ru8 | 66 => some .op | 63 => some .pair | 149 => some .flt | _ => none
theorem KK_ok : KK.Ok where
  pos := fun k => by cases k <;> decide
  len := fun k x => by cases k <;> rfl
  one := fun k x => List.all_eq_true.1 (by cases k <;> rfl)
  nm := fun k x c hc => Option.isNone_iff_eq_none.1 (List.all_eq_true.1 (show (KK.enc k x).all (fun c => c.nm.isNone) = true by cases k <;> rfl) c hc)
  dec := fun k cs x h => by
    cases k <;> simp only [KK] at h ⊢ <;> split at h <;> first | (injection h with h; subst h; rfl) | cases h
def mixed : TabBase Tryz.prog := ⟨by kernel_rfl, fun _ => none⟩
def tab0 : Tab Tryz.prog KK := ⟨mixed, fun _ _ _ => none, fun _ _ _ _ _ _ h => nomatch h⟩
def ann0 : Ann KK := { loop := fun _ _ _ => none, cut := fun _ _ _ => none }
def ann1 (inv : Inv KK) : Ann KK := { loop := fun _ _ _ => some inv, cut := fun _ _ _ => none }
abbrev anys (n : Nat) : List VV := List.replicate n .any
theorem into_mk {N0 : Nat} {ks : List KK.Kd} {τ : List Nat} {vs : List VV} {H : VH KK} {us : List VV} {H' : VH KK}
    (hg : (nodupB (live τ H') && (τ.all (fun n => Nat.blt n (H.length + ks.length)) && (prefB N0 τ && (Nat.ble N0 H'.length && (us.all (VV.ltB H'.length) && (H'.all (Atom.ltB H'.length))))))) = true)
    (h1 : EqVs H.length (fun n => τ.getD n 0) vs us) (h2 : EqH H.length (fun n => τ.getD n 0) (H ++ nilsOf ks) τ H') : Into N0 ks τ vs H us H' := guardP_iff.2 ⟨hg, h1, h2⟩
abbrev i64 (n : Int) : VV := .c (.int .i64 n)
abbrev boolv (b : Bool) : VV := .c (.bool b)
abbrev strv (s : ByteArray) : VV := .c (.str s)
abbrev u64v (n : Int) : VV := .c (.int .u64 n)
end Go.Proofs.YtndlpbheifalhaaGreatDoor.T
end
section
namespace Go.Proofs.YtndlpbheifalhaaGreatDoor.T
open Go.Proofs.YtndlpbheifalhaaGreatDoor.E
set_option maxRecDepth 100000
set_option linter.unusedVariables false
theorem flat_u8 (l : List Int) : flat (K := KK) Kd.u8 l = l.map fun x => C.int .u8 x := by
  induction l with
  | nil => rfl
  | cons x t ih =>
    show C.int .u8 x :: flat (K := KK) Kd.u8 t = C.int .u8 x :: t.map _
    exact congrArg _ ih
/-- What a slice holds, by its place. -/
def cont (φ : Bag KK) (x : RS) : List Int := (x.row φ Kd.u8).getD []
theorem cont_of {φ : Bag KK} {x : RS} {l : List Int} (h : x.row φ Kd.u8 = some l) : cont φ x = l := by unfold cont; rw [h]; rfl
def Has (φ : Bag KK) (x : RS) : Prop := x.row φ Kd.u8 = some (cont φ x) ∧ (cont φ x).length ≤ 1000000
theorem Has.of {φ : Bag KK} {x : RS} {l : List Int} (h : x.row φ Kd.u8 = some l) (hl : l.length ≤ 1000000) : Has φ x := by
  unfold Has; rw [cont_of h]; exact ⟨h, hl⟩
theorem Has.nil_ (φ : Bag KK) : Has φ .nil := Has.of rfl (Nat.zero_le _)
theorem take_succ_rd {l : List Int} {z : Nat} (h : z < l.length) : l.take (z + 1) = l.take z ++ [rd l z 0] := by
  rw [List.take_succ_eq_append_getElem h]; unfold rd; rw [List.getD_eq_getElem?_getD, List.getElem?_eq_getElem h]; rfl
theorem rd_of_eq {x y : List Int} (h : x = y) (z : Nat) : rd x z 0 = rd y z 0 := by rw [h]
end Go.Proofs.YtndlpbheifalhaaGreatDoor.T
end
section
namespace Go.Proofs.YtndlpbheifalhaaGreatDoor.T
open Go.Proofs.YtndlpbheifalhaaGreatDoor.E
set_option maxRecDepth 100000
set_option linter.unusedVariables false
set_option linter.unusedSimpArgs false
/-- A fault's block. -/
def faultI (at_ e : Int) : BI KK := .box 149 [.int .i64 at_, .str ⟨#[]⟩, .int .i64 e]
/-- A panic by a fault that lies in a block. -/
def chF (f : Nat) : List PanicEntry := [{ v := .iface 73 (.pointer (some ⟨f, 0, none⟩)), recovered := false }]
/-- A reader: its bytes, how many are taken, the fault. -/
def readC (x : RS) (p : Int) (e : C) : List C := [.rs 5 1 x, .int .i64 p, e]
def readH (φ : Bag KK) (x : RS) (p : Int) (e : C) : VH KK := [.bag φ, .cells 75 (readC x p e)]
def ct_fail (at_ e : Int) (φ : Bag KK) : Ct KK := { need := True, pre := [.bag φ], args := [i64 at_, i64 e], Y := Unit, ok := fun _ => True, ret := fun _ => .tup [], post := fun _ => [.bag φ], pan := some { Y := Nat, ok := fun f => φ f = none, ch := fun f => chF f, post := fun f => [.bag (bput φ f (faultI at_ e))], only := true } }
theorem vc_fail (p e : Int) (φ : Bag KK) : evFn tab0 ann0 Tryz.f89 (ct_fail p e φ) = (∀ (b : Nat), φ b = none → EndsP 1 (ct_fail p e φ) [(PanicEntry.mk (Value.iface 73 (Value.pointer (some (Addr.mk (b) (0) (none))))) (false) (false))] [Atom.bag (bput φ b (BI.box 149 [C.int .i64 p, C.str
 (ByteArray.mk (#[])), C.int .i64 e])), Atom.gone]) := by kernel_rfl
theorem fail_ok (p e : Int) (φ : Bag KK) : CtOk Tryz.prog 89 (ct_fail p e φ) := CtOk_of KK_ok tab0 ann0 (fn := Tryz.f89) rfl (fun _ _ => rfl) fun hn => by
  rw [vc_fail]
  exact fun b hb => ⟨b, [], [0], hb, rfl, by (repeat' first | exact trivial | exact rfl | apply And.intro)⟩
end Go.Proofs.YtndlpbheifalhaaGreatDoor.T
end
section
namespace Go.Proofs.YtndlpbheifalhaaGreatDoor.T
open Go.Proofs.YtndlpbheifalhaaGreatDoor.E
set_option maxRecDepth 100000
set_option linter.unusedVariables false
set_option linter.unusedSimpArgs false
def ct_take (n : Int) (x : RS) (p : Int) (φ : Bag KK) : Ct KK := { need := 0 ≤ n ∧ i64ok n ∧ (0 ≤ p ∧ p ≤ x.len) ∧ x.len ≤ x.cap ∧ x.len ≤ 1000000, pre := readH φ x p .nilp, args := [.c (.ptr 1 0 0), i64 n], Y := Unit, ok := fun _ => n ≤ (x.len : Int) - p, ret := fun _ => .c (.rs 5 1 (RS.cut p.toNat (p + n).toNat x.cap x)), post := fun _ => readH φ x (p + n) .nilp, pan := some { Y := Nat, ok := fun f => φ f = none ∧ (x.len : Int) - p < n, ch := fun f => chF f, post := fun f => readH (bput φ f (faultI x.len 10)) x p .nilp } }
def tabV : Tab Tryz.prog KK := ⟨mixed, fun f args H => match f, args, at_ H 0 with
  | 89, [.one (.c (.int _ a)), .one (.c (.int _ e))], .bag φ => some (ct_fail a e φ, [], [0])
  | _, _, _ => none, fun f args H ct ks τ h => by
    split at h
    · cases h; exact fail_ok _ _ _
    · cases h⟩
theorem vc_take (n : Int) (x : RS) (p : Int) (φ : Bag KK) : evFn tabV ann0 Tryz.f87 (ct_take n x p φ) = ( i64ok ((↑x.len : Int) - p) ∧ ite2 (decide ((↑x.len : Int) - p < n)) (True ∧ True ∧ Into (K := KK) 0 [] [0] [i64 (↑x.len : Int), i64 (10 : Int)] [Atom.bag φ, Atom.cells 75 [C.rs 5 1 x, C.int .i64 p, C.nilp]]
 [i64 (↑x.len : Int), i64 (10 : Int)] [Atom.bag φ] ∧ ∀ (z : Nat), φ z = none → EndsP 2 (ct_take n x p φ) [(PanicEntry.mk (Value.iface 73 (Value.pointer (some (Addr.mk (z) (0) (none))))) (false) (false))]
 [Atom.bag (bput φ z (BI.box 149 [C.int .i64 (↑x.len : Int), C.str (ByteArray.mk (#[])), C.int .i64 (10 : Int)])), Atom.cells 75 [C.rs 5 1 x, C.int .i64 p, C.nilp]]) (True ∧ i64ok (p + n) ∧ i64ok (p + n
 - n) ∧ ((0 : Int) ≤ p + n - n ∧ p + n - n ≤ p + n ∧ p + n ≤ (↑x.cap : Int)) ∧ True ∧ True ∧ EndsAs 2 (ct_take n x p φ) (VV.one (V1.c (C.rs 5 1 (RS.cut (p + n - n).toNat (p + n).toNat x.cap x)))) [Atom.bag
 φ, Atom.cells 75 [C.rs 5 1 x, C.int .i64 (p + n), C.nilp]])) := by kernel_rfl
theorem take_ok (n : Int) (x : RS) (p : Int) (φ : Bag KK) : CtOk Tryz.prog 87 (ct_take n x p φ) := CtOk_of KK_ok tabV ann0 (fn := Tryz.f87) rfl (fun _ _ => rfl) fun hn => by
  rw [vc_take]
  obtain ⟨n0, n1, ⟨p0, p1⟩, hc, hl⟩ := hn
  have e1 : p + n - n = p := by omega
  have ends : ∀ z : Nat, (φ z = none ∧ (x.len : Int) - p < n) → EndsP 2 (ct_take n x p φ) (chF z) (readH (bput φ z (faultI x.len 10)) x p .nilp) := fun z hz => ⟨z, [], [0, 1], hz, rfl, by (repeat' first | exact trivial | exact rfl | apply And.intro)⟩
  refine ⟨by unfold i64ok; omega, ite2_decide (fun h => ⟨trivial, trivial, into_mk (by kernel_rfl) (by (repeat' first | exact trivial | exact rfl | apply And.intro)) (by (repeat' first | exact trivial | exact rfl | apply And.intro)), fun z hz => ends z ⟨hz, h⟩⟩) (fun h => ⟨trivial, by unfold i64ok; omega, by unfold i64ok; omega, ⟨by omega, by omega, by omega⟩, trivial, trivial, ?_⟩)⟩
  rw [e1]
  exact ⟨(), [], [0, 1], by show n ≤ (x.len : Int) - p; omega, by (repeat' first | exact trivial | exact rfl | apply And.intro)⟩
end Go.Proofs.YtndlpbheifalhaaGreatDoor.T
end
section
namespace Go.Proofs.YtndlpbheifalhaaGreatDoor.T
open Go.Proofs.YtndlpbheifalhaaGreatDoor.E Go.Proofs.YtndlpbheifalhaaGreatDoor.V
set_option maxRecDepth 100000
set_option linter.unusedVariables false
set_option linter.unusedSimpArgs false
/-- A reader's bytes by their place. -/
def Bytes (φ : Bag KK) (x : RS) (xs : List Int) : Prop := x.full φ Kd.u8 = some xs ∧ x.row φ Kd.u8 = some xs ∧ xs.length ≤ 1000000 ∧ (∀ c ∈ xs, 0 ≤ c ∧ c < 256)
def badN (len p : Int) : NR → Option (Int × Int)
  | .short => some (len, 10)
  | .form i => some (p + i, 11)
  | .ok _ _ => none
def ct_num (x : RS) (p : Nat) (xs : List Int) (φ : Bag KK) : Ct KK := { need := Bytes φ x xs ∧ p ≤ xs.length, pre := readH φ x p .nilp, args := [.c (.ptr 1 0 0)], Y := Int × Nat, ok := fun y => numR (xs.drop p) 0 0 = .ok y.1 y.2, ret := fun y => u64v y.1, post := fun y => readH φ x ((p + y.2 : Nat) : Int) .nilp, pan := some { Y := Nat × Int × Int × Int, ok := fun z => φ z.1 = none ∧ badN xs.length p (numR (xs.drop p) 0 0) = some (z.2.1, z.2.2.1), ch := fun z => chF z.1, post := fun z => readH (bput φ z.1 (faultI z.2.1 z.2.2.1)) x z.2.2.2 .nilp } }
def numOk (xs : List Int) (p : Nat) (z : Nat × Int) : Prop := z.1 ≤ 9 ∧ p + z.1 ≤ xs.length ∧ (0 ≤ z.2 ∧ z.2 < 128 ^ z.1) ∧ numR (xs.drop (p + z.1)) z.1 z.2 = numR (xs.drop p) 0 0
def inv_num (x : RS) (p : Nat) (xs : List Int) (φ : Bag KK) : Inv KK := { X := Nat × Int, fr := fun z => [.c (.ptr 1 0 0), .any, .any, u64v z.2, i64 p, i64 z.1] ++ anys 40, H := fun z => readH φ x ((p + z.1 : Nat) : Int) .nilp, ok := fun z => numOk xs p z, meas := fun z => 10 - z.1 }
def ann_num (x : RS) (p : Nat) (xs : List Int) (φ : Bag KK) : Ann KK := { loop := fun _ _ _ => some (inv_num x p xs φ), cut := fun _ _ _ => none, keep := some 6 }
def tabVc : Tab Tryz.prog KK := ⟨mixed, fun f args H => match f, args, H with
  | 89, [.one (.c (.int _ a)), .one (.c (.int _ e))], .bag φ :: _ => some (ct_fail a e φ, [], [0])
  | 87, [.one (.c (.ptr 1 0 0)), .one (.c (.int _ n))], .bag φ :: .cells _ [.rs _ _ x, .int _ p, .nilp] :: _ => some (ct_take n x p φ, [], [0, 1])
  | _, _, _ => none, fun f args H ct ks τ h => by
    split at h
    · cases h; exact fail_ok _ _ _
    · cases h; exact take_ok _ _ _ _
    · cases h⟩
theorem vc_num (x : RS) (p : Nat) (xs : List Int) (φ : Bag KK) : evFn tabVc (ann_num x p xs φ) Tryz.f88 (ct_num x p xs φ) = ( True ∧ (i64 (↑p : Int) = i64 (↑p : Int) ∧ True) ∧ True ∧ Enter 2 (inv_num x p xs φ) (fun (x : Nat × Int) => True) ([VV.one (V1.c (C.ptr 1 0 0)), VV.any, VV.one (V1.c (C.int .u64 (0 : Int))), VV.one (V1.c
 (C.int .u64 (0 : Int))), i64 (↑p : Int), i64 (0 : Int)] ++ anys 40) [Atom.bag φ, Atom.cells 75 [C.rs 5 1 x, C.int .i64 (↑p : Int), C.nilp]] ∧ ∀ (z : Nat × Int), numOk xs p z → ((0 : Int) ≤ (1 : Int) ∧
 i64ok (1 : Int) ∧ ((0 : Int) ≤ (↑(p + z.fst) : Int) ∧ (↑(p + z.fst) : Int) ≤ (↑x.len : Int)) ∧ x.len ≤ x.cap ∧ x.len ≤ 1000000) ∧ Into (K := KK) 0 [] [0, 1] [VV.one (V1.c (C.ptr 1 0 0)), i64 (1 : Int)]
 [Atom.bag φ, Atom.cells 75 [C.rs 5 1 x, C.int .i64 (↑(p + z.fst) : Int), C.nilp]] [VV.one (V1.c (C.ptr 1 0 0)), i64 (1 : Int)] [Atom.bag φ, Atom.cells 75 [C.rs 5 1 x, C.int .i64 (↑(p + z.fst) : Int), C.nilp]]
 ∧ (∀ (y : Unit), (1 : Int) ≤ (↑x.len : Int) - (↑(p + z.fst) : Int) → ((0 : Int) ≤ (0 : Int) ∧ (0 : Int) < (↑(RS.cut (↑(p + z.fst) : Int).toNat ((↑(p + z.fst) : Int) + (1 : Int)).toNat x.cap x).len : Int))
 ∧ ∃ (cap : Nat), ∃ (xs_1 : List (Int)), φ (RS.cut (↑(p + z.fst) : Int).toNat ((↑(p + z.fst) : Int) + (1 : Int)).toNat x.cap x).blk = some (BI.row Kd.u8 cap xs_1) ∧ (RS.cut (↑(p + z.fst) : Int).toNat ((↑(p
 + z.fst) : Int) + (1 : Int)).toNat x.cap x).lo < xs_1.length ∧ ite2 (decide (rd xs_1 (RS.cut (↑(p + z.fst) : Int).toNat ((↑(p + z.fst) : Int) + (1 : Int)).toNat x.cap x).lo (0 : Int) = (0 : Int))) (ite2
 (decide ((0 : Int) < (↑z.fst : Int))) (i64ok ((↑p : Int) + (↑z.fst : Int)) ∧ True ∧ Into (K := KK) 0 [] [0] [i64 ((↑p : Int) + (↑z.fst : Int)), i64 (11 : Int)] [Atom.bag φ, Atom.cells 75 [C.rs 5 1 x, C.int
 .i64 ((↑(p + z.fst) : Int) + (1 : Int)), C.nilp]] [i64 ((↑p : Int) + (↑z.fst : Int)), i64 (11 : Int)] [Atom.bag φ] ∧ ∀ (z_1 : Nat), φ z_1 = none → EndsP 2 (ct_num x p xs φ) [(PanicEntry.mk (Value.iface
 73 (Value.pointer (some (Addr.mk (z_1) (0) (none))))) (false) (false))] [Atom.bag (bput φ z_1 (BI.box 149 [C.int .i64 ((↑p : Int) + (↑z.fst : Int)), C.str (ByteArray.mk (#[])), C.int .i64 (11 : Int)])),
 Atom.cells 75 [C.rs 5 1 x, C.int .i64 ((↑(p + z.fst) : Int) + (1 : Int)), C.nilp]]) (ite2 (decide (rd xs_1 (RS.cut (↑(p + z.fst) : Int).toNat ((↑(p + z.fst) : Int) + (1 : Int)).toNat x.cap x).lo (0 : Int)
 = (1 : Int))) (i64ok ((7 : Int) * (↑z.fst : Int)) ∧ (0 : Int) ≤ (7 : Int) * (↑z.fst : Int) ∧ ite2 (decide (rd xs_1 (RS.cut (↑(p + z.fst) : Int).toNat ((↑(p + z.fst) : Int) + (1 : Int)).toNat x.cap x).lo
 (0 : Int) < (128 : Int))) (EndsAs 2 (ct_num x p xs φ) (VV.one (V1.c (C.int .u64 (bitw BinOp.or .u64 z.snd (IntKind.wrap .u64 (IntKind.wrap .u64 (bitw BinOp.and .u8 (rd xs_1 (RS.cut (↑(p + z.fst) : Int).toNat
 ((↑(p + z.fst) : Int) + (1 : Int)).toNat x.cap x).lo (0 : Int)) (127 : Int)) * (2 : Int) ^ min ((7 : Int) * (↑z.fst : Int)).toNat 64)))))) [Atom.bag φ, Atom.cells 75 [C.rs 5 1 x, C.int .i64 ((↑(p + z.fst)
 : Int) + (1 : Int)), C.nilp]]) (i64ok ((↑z.fst : Int) + (1 : Int)) ∧ Enter 2 (inv_num x p xs φ) (fun (z' : Nat × Int) => 10 - z'.fst < 10 - z.fst) ([VV.one (V1.c (C.ptr 1 0 0)), VV.any, VV.any, VV.one
 (V1.c (C.int .u64 (bitw BinOp.or .u64 z.snd (IntKind.wrap .u64 (IntKind.wrap .u64 (bitw BinOp.and .u8 (rd xs_1 (RS.cut (↑(p + z.fst) : Int).toNat ((↑(p + z.fst) : Int) + (1 : Int)).toNat x.cap x).lo (0
 : Int)) (127 : Int)) * (2 : Int) ^ min ((7 : Int) * (↑z.fst : Int)).toNat 64))))), i64 (↑p : Int), i64 ((↑z.fst : Int) + (1 : Int))] ++ anys 40) [Atom.bag φ, Atom.cells 75 [C.rs 5 1 x, C.int .i64 ((↑(p
 + z.fst) : Int) + (1 : Int)), C.nilp]])) (ite2 (decide ((↑z.fst : Int) = (9 : Int))) (i64ok ((↑p : Int) + (↑z.fst : Int)) ∧ True ∧ Into (K := KK) 0 [] [0] [i64 ((↑p : Int) + (↑z.fst : Int)), i64 (11 :
 Int)] [Atom.bag φ, Atom.cells 75 [C.rs 5 1 x, C.int .i64 ((↑(p + z.fst) : Int) + (1 : Int)), C.nilp]] [i64 ((↑p : Int) + (↑z.fst : Int)), i64 (11 : Int)] [Atom.bag φ] ∧ ∀ (z_1 : Nat), φ z_1 = none → EndsP
 2 (ct_num x p xs φ) [(PanicEntry.mk (Value.iface 73 (Value.pointer (some (Addr.mk (z_1) (0) (none))))) (false) (false))] [Atom.bag (bput φ z_1 (BI.box 149 [C.int .i64 ((↑p : Int) + (↑z.fst : Int)), C.str
 (ByteArray.mk (#[])), C.int .i64 (11 : Int)])), Atom.cells 75 [C.rs 5 1 x, C.int .i64 ((↑(p + z.fst) : Int) + (1 : Int)), C.nilp]]) (i64ok ((7 : Int) * (↑z.fst : Int)) ∧ (0 : Int) ≤ (7 : Int) * (↑z.fst
 : Int) ∧ ite2 (decide (rd xs_1 (RS.cut (↑(p + z.fst) : Int).toNat ((↑(p + z.fst) : Int) + (1 : Int)).toNat x.cap x).lo (0 : Int) < (128 : Int))) (EndsAs 2 (ct_num x p xs φ) (VV.one (V1.c (C.int .u64 (bitw
 BinOp.or .u64 z.snd (IntKind.wrap .u64 (IntKind.wrap .u64 (bitw BinOp.and .u8 (rd xs_1 (RS.cut (↑(p + z.fst) : Int).toNat ((↑(p + z.fst) : Int) + (1 : Int)).toNat x.cap x).lo (0 : Int)) (127 : Int)) *
 (2 : Int) ^ min ((7 : Int) * (↑z.fst : Int)).toNat 64)))))) [Atom.bag φ, Atom.cells 75 [C.rs 5 1 x, C.int .i64 ((↑(p + z.fst) : Int) + (1 : Int)), C.nilp]]) (i64ok ((↑z.fst : Int) + (1 : Int)) ∧ Enter
 2 (inv_num x p xs φ) (fun (z' : Nat × Int) => 10 - z'.fst < 10 - z.fst) ([VV.one (V1.c (C.ptr 1 0 0)), VV.any, VV.any, VV.one (V1.c (C.int .u64 (bitw BinOp.or .u64 z.snd (IntKind.wrap .u64 (IntKind.wrap
 .u64 (bitw BinOp.and .u8 (rd xs_1 (RS.cut (↑(p + z.fst) : Int).toNat ((↑(p + z.fst) : Int) + (1 : Int)).toNat x.cap x).lo (0 : Int)) (127 : Int)) * (2 : Int) ^ min ((7 : Int) * (↑z.fst : Int)).toNat 64))))),
 i64 (↑p : Int), i64 ((↑z.fst : Int) + (1 : Int))] ++ anys 40) [Atom.bag φ, Atom.cells 75 [C.rs 5 1 x, C.int .i64 ((↑(p + z.fst) : Int) + (1 : Int)), C.nilp]]))))) (ite2 (decide (rd xs_1 (RS.cut (↑(p +
 z.fst) : Int).toNat ((↑(p + z.fst) : Int) + (1 : Int)).toNat x.cap x).lo (0 : Int) = (1 : Int))) (i64ok ((7 : Int) * (↑z.fst : Int)) ∧ (0 : Int) ≤ (7 : Int) * (↑z.fst : Int) ∧ ite2 (decide (rd xs_1 (RS.cut
 (↑(p + z.fst) : Int).toNat ((↑(p + z.fst) : Int) + (1 : Int)).toNat x.cap x).lo (0 : Int) < (128 : Int))) (EndsAs 2 (ct_num x p xs φ) (VV.one (V1.c (C.int .u64 (bitw BinOp.or .u64 z.snd (IntKind.wrap .u64
 (IntKind.wrap .u64 (bitw BinOp.and .u8 (rd xs_1 (RS.cut (↑(p + z.fst) : Int).toNat ((↑(p + z.fst) : Int) + (1 : Int)).toNat x.cap x).lo (0 : Int)) (127 : Int)) * (2 : Int) ^ min ((7 : Int) * (↑z.fst :
 Int)).toNat 64)))))) [Atom.bag φ, Atom.cells 75 [C.rs 5 1 x, C.int .i64 ((↑(p + z.fst) : Int) + (1 : Int)), C.nilp]]) (i64ok ((↑z.fst : Int) + (1 : Int)) ∧ Enter 2 (inv_num x p xs φ) (fun (z' : Nat × Int)
 => 10 - z'.fst < 10 - z.fst) ([VV.one (V1.c (C.ptr 1 0 0)), VV.any, VV.any, VV.one (V1.c (C.int .u64 (bitw BinOp.or .u64 z.snd (IntKind.wrap .u64 (IntKind.wrap .u64 (bitw BinOp.and .u8 (rd xs_1 (RS.cut
 (↑(p + z.fst) : Int).toNat ((↑(p + z.fst) : Int) + (1 : Int)).toNat x.cap x).lo (0 : Int)) (127 : Int)) * (2 : Int) ^ min ((7 : Int) * (↑z.fst : Int)).toNat 64))))), i64 (↑p : Int), i64 ((↑z.fst : Int)
 + (1 : Int))] ++ anys 40) [Atom.bag φ, Atom.cells 75 [C.rs 5 1 x, C.int .i64 ((↑(p + z.fst) : Int) + (1 : Int)), C.nilp]])) (ite2 (decide ((↑z.fst : Int) = (9 : Int))) (i64ok ((↑p : Int) + (↑z.fst : Int))
 ∧ True ∧ Into (K := KK) 0 [] [0] [i64 ((↑p : Int) + (↑z.fst : Int)), i64 (11 : Int)] [Atom.bag φ, Atom.cells 75 [C.rs 5 1 x, C.int .i64 ((↑(p + z.fst) : Int) + (1 : Int)), C.nilp]] [i64 ((↑p : Int) + (↑z.fst
 : Int)), i64 (11 : Int)] [Atom.bag φ] ∧ ∀ (z_1 : Nat), φ z_1 = none → EndsP 2 (ct_num x p xs φ) [(PanicEntry.mk (Value.iface 73 (Value.pointer (some (Addr.mk (z_1) (0) (none))))) (false) (false))] [Atom.bag
 (bput φ z_1 (BI.box 149 [C.int .i64 ((↑p : Int) + (↑z.fst : Int)), C.str (ByteArray.mk (#[])), C.int .i64 (11 : Int)])), Atom.cells 75 [C.rs 5 1 x, C.int .i64 ((↑(p + z.fst) : Int) + (1 : Int)), C.nilp]])
 (i64ok ((7 : Int) * (↑z.fst : Int)) ∧ (0 : Int) ≤ (7 : Int) * (↑z.fst : Int) ∧ ite2 (decide (rd xs_1 (RS.cut (↑(p + z.fst) : Int).toNat ((↑(p + z.fst) : Int) + (1 : Int)).toNat x.cap x).lo (0 : Int) <
 (128 : Int))) (EndsAs 2 (ct_num x p xs φ) (VV.one (V1.c (C.int .u64 (bitw BinOp.or .u64 z.snd (IntKind.wrap .u64 (IntKind.wrap .u64 (bitw BinOp.and .u8 (rd xs_1 (RS.cut (↑(p + z.fst) : Int).toNat ((↑(p
 + z.fst) : Int) + (1 : Int)).toNat x.cap x).lo (0 : Int)) (127 : Int)) * (2 : Int) ^ min ((7 : Int) * (↑z.fst : Int)).toNat 64)))))) [Atom.bag φ, Atom.cells 75 [C.rs 5 1 x, C.int .i64 ((↑(p + z.fst) :
 Int) + (1 : Int)), C.nilp]]) (i64ok ((↑z.fst : Int) + (1 : Int)) ∧ Enter 2 (inv_num x p xs φ) (fun (z' : Nat × Int) => 10 - z'.fst < 10 - z.fst) ([VV.one (V1.c (C.ptr 1 0 0)), VV.any, VV.any, VV.one (V1.c
 (C.int .u64 (bitw BinOp.or .u64 z.snd (IntKind.wrap .u64 (IntKind.wrap .u64 (bitw BinOp.and .u8 (rd xs_1 (RS.cut (↑(p + z.fst) : Int).toNat ((↑(p + z.fst) : Int) + (1 : Int)).toNat x.cap x).lo (0 : Int))
 (127 : Int)) * (2 : Int) ^ min ((7 : Int) * (↑z.fst : Int)).toNat 64))))), i64 (↑p : Int), i64 ((↑z.fst : Int) + (1 : Int))] ++ anys 40) [Atom.bag φ, Atom.cells 75 [C.rs 5 1 x, C.int .i64 ((↑(p + z.fst)
 : Int) + (1 : Int)), C.nilp]]))))) ∧ ∀ (z_1 : Nat), φ z_1 = none ∧ (↑x.len : Int) - (↑(p + z.fst) : Int) < (1 : Int) → EndsP 2 (ct_num x p xs φ) [(PanicEntry.mk (Value.iface 73 (Value.pointer (some (Addr.mk
 (z_1) (0) (none))))) (false) (false))] [Atom.bag (bput φ z_1 (BI.box 149 [C.int .i64 (↑x.len : Int), C.str (ByteArray.mk (#[])), C.int .i64 (10 : Int)])), Atom.cells 75 [C.rs 5 1 x, C.int .i64 (↑(p + z.fst)
 : Int), C.nilp]]) := by kernel_rfl
end Go.Proofs.YtndlpbheifalhaaGreatDoor.T
end
section
namespace Go.Proofs.YtndlpbheifalhaaGreatDoor.T
open Go.Proofs.YtndlpbheifalhaaGreatDoor.E Go.Proofs.YtndlpbheifalhaaGreatDoor.V
set_option maxRecDepth 100000
set_option linter.unusedVariables false
set_option linter.unusedSimpArgs false
theorem wr64 (n : Int) : IntKind.wrap .u64 n = n % 18446744073709551616 := by simp [IntKind.wrap, IntKind.bits, IntKind.signed]
theorem and_all : ∀ a : Fin 256, bitw .and .u8 ((a.val : Nat) : Int) 127 = ((a.val % 128 : Nat) : Int) := by decide +kernel
theorem and_low {c : Int} (h0 : 0 ≤ c) (h1 : c < 256) : bitw .and .u8 c 127 = c % 128 := by
  obtain ⟨a, rfl⟩ := Int.eq_ofNat_of_zero_le h0
  have h2 := and_all ⟨a, by omega⟩
  refine h2.trans ?_
  show ((a % 128 : Nat) : Int) = (a : Int) % 128
  omega
theorem pow_two (i : Nat) : (128 : Int) ^ i = 2 ^ (7 * i) := by
  rw [Int.pow_mul]; rfl
theorem or_add {n m : Int} {i : Nat} (h0 : 0 ≤ n) (h1 : n < 128 ^ i) (m0 : 0 ≤ m) (hb : n + m * 128 ^ i < 18446744073709551616) : bitw .or .u64 n (m * 128 ^ i) = n + m * 128 ^ i := by
  obtain ⟨a, rfl⟩ := Int.eq_ofNat_of_zero_le h0
  obtain ⟨b, rfl⟩ := Int.eq_ofNat_of_zero_le m0
  have e1 : (b : Int) * 128 ^ i = ((2 ^ (7 * i) * b : Nat) : Int) := by rw [pow_two]; push_cast; rw [Int.mul_comm]
  have e2 : (a : Int) < ((2 ^ (7 * i) : Nat) : Int) := by rw [pow_two] at h1; push_cast; exact h1
  rw [e1] at hb ⊢
  have e2 : a < 2 ^ (7 * i) := by exact_mod_cast e2
  have hor := Nat.two_pow_add_eq_or_of_lt e2 b
  generalize 2 ^ (7 * i) * b = y at *
  have ha : a < 2 ^ 64 := by omega
  have hy : y < 2 ^ 64 := by omega
  show IntKind.wrap .u64 ((BitVec.ofInt 64 (a : Int) ||| BitVec.ofInt 64 (y : Int)).toNat) = _
  rw [BitVec.toNat_or, BitVec.toNat_ofInt, BitVec.toNat_ofInt, wr64]
  have ea : (((a : Nat) : Int) % ((2 ^ 64 : Nat) : Int)).toNat = a := by omega
  have ey : (((y : Nat) : Int) % ((2 ^ 64 : Nat) : Int)).toNat = y := by omega
  rw [ea, ey, Nat.or_comm, ← hor]
  push_cast at hb ⊢
  omega
/-- A number's next part. -/
theorem acc_add {n c : Int} {i : Nat} (n0 : 0 ≤ n) (n1 : n < 128 ^ i) (c0 : 0 ≤ c) (c1 : c < 256) (hi : i ≤ 9) (h9 : i = 9 → c = 1) :
    bitw .or .u64 n (IntKind.wrap .u64 (IntKind.wrap .u64 (bitw .and .u8 c 127) * 2 ^ min (7 * (i : Int)).toNat 64)) = n + c % 128 * 128 ^ i := by
  have hm0 : 0 ≤ c % 128 := Int.emod_nonneg _ (by decide)
  have hm1 : c % 128 < 128 := Int.emod_lt_of_pos _ (by decide)
  have hp : (0 : Int) < 128 ^ i := Int.pow_pos (by decide)
  have hprod : 0 ≤ c % 128 * 128 ^ i := Int.mul_nonneg hm0 (Int.le_of_lt hp)
  have hb : n + c % 128 * 128 ^ i < 18446744073709551616 := by
    by_cases e : i = 9
    · subst e
      obtain rfl := h9 rfl
      have e9 : (128 : Int) ^ 9 = 9223372036854775808 := by decide
      rw [e9] at n1 ⊢
      omega
    · have hle : (128 : Int) ^ i ≤ 128 ^ 8 := by
        have := Nat.pow_le_pow_right (show 1 ≤ 128 by decide) (show i ≤ 8 by omega)
        exact_mod_cast this
      have e8 : (128 : Int) ^ 8 = 72057594037927936 := by decide
      have h2 : c % 128 * 128 ^ i ≤ 127 * 128 ^ i := Int.mul_le_mul_of_nonneg_right (by omega) (Int.le_of_lt hp)
      rw [e8] at hle
      omega
  have e1 : (min (7 * (i : Int)).toNat 64) = 7 * i := by omega
  rw [e1, and_low c0 c1, wr64 (c % 128), Int.emod_eq_of_lt hm0 (by omega), ← pow_two, wr64, Int.emod_eq_of_lt hprod (by omega)]
  exact or_add n0 n1 hm0 hb
theorem cut_rowK {φ : Bag KK} {kd : KK.Kd} {x : RS} {xs : List (KK.α kd)} (h : x.row φ kd = some xs) {a b : Nat} (hab : a ≤ b) (hb : b ≤ x.len) : (RS.cut a b x.cap x).row φ kd = some ((xs.drop a).take (b - a)) ∧ (RS.cut a b x.cap x).len = b - a := by
  cases x with
  | nil =>
    have h : some [] = some xs := h
    injection h with h
    subst h
    have hb : b ≤ 0 := hb
    have e : ((([] : List (KK.α kd)).drop a).take (b - a)) = [] := by simp
    rw [e]
    exact ⟨rfl, by show 0 = b - a; omega⟩
  | mk bl lo len cap =>
    obtain ⟨c, ys, hφ, h1, h2, h3, rfl⟩ := RS.row_mk h
    have hb : b ≤ len := hb
    refine ⟨?_, rfl⟩
    show (RS.mk bl (if cap = a then lo else lo + a) (b - a) (cap - a)).row φ kd = _
    by_cases e : cap = a
    · have e0 : b - a = 0 := by omega
      rw [if_pos e, RS.row_of hφ (by omega) (by omega) (by omega), e0]
      simp
    · rw [if_neg e, RS.row_of hφ (by omega) (by omega) (by omega)]
      congr 1
      apply List.ext_getElem?
      intro j
      simp only [List.getElem?_take, List.getElem?_drop]
      by_cases hj : j < b - a
      · rw [if_pos hj, if_pos hj, if_pos (by omega), Nat.add_assoc]
      · rw [if_neg hj, if_neg hj]
theorem cut_row {φ : Bag KK} {x : RS} {xs : List Int} (h : x.row φ Kd.u8 = some xs) {a b : Nat} (hab : a ≤ b) (hb : b ≤ x.len) : (RS.cut a b x.cap x).row φ Kd.u8 = some ((xs.drop a).take (b - a)) ∧ (RS.cut a b x.cap x).len = b - a := cut_rowK (kd := Kd.u8) h hab hb
theorem rdK {φ : Bag KK} {x : RS} {ys : List Int} (h : x.row φ Kd.u8 = some ys) {i : Nat} (hi : i < x.len) : ∃ cap, ∃ us : List Int, φ x.blk = some (.row Kd.u8 cap us) ∧ x.lo + i < us.length ∧ rd us (x.lo + i) 0 = rd ys i 0 := RS.rd (K := KK) (kd := Kd.u8) h hi (0 : Int)
theorem Bytes.cap {φ : Bag KK} {x : RS} {xs : List Int} (h : Bytes φ x xs) : x.len ≤ x.cap := by
  obtain ⟨_, h, _⟩ := h
  cases x with
  | nil => exact Nat.le_refl _
  | mk bl lo len cap => obtain ⟨c, ys, hφ, h1, h2, h3, _⟩ := RS.row_mk h; exact h3
theorem rd_at {l : List Int} {i : Nat} (h : i < l.length) (d : Int) : rd l i d = l[i] := by
  unfold rd
  rw [List.getD_eq_getElem?_getD, List.getElem?_eq_getElem h]
  rfl
theorem num_ok (x : RS) (p : Nat) (xs : List Int) (φ : Bag KK) : CtOk Tryz.prog 88 (ct_num x p xs φ) := CtOk_of KK_ok tabVc (ann_num x p xs φ) (fn := Tryz.f88) rfl (fun _ _ => rfl) fun hn => by
  rw [vc_num]
  obtain ⟨hby, hp⟩ := hn
  have hcap := hby.cap
  obtain ⟨h1, h2, h3, h4⟩ := hby
  have h2 : x.row φ Kd.u8 = some xs := h2
  have hlen : xs.length = x.len := RS.row_len h2
  refine ⟨trivial, ⟨rfl, trivial⟩, trivial, ⟨((0 : Nat), (0 : Int)), [], [0, 1], ⟨Nat.zero_le _, by simpa using hp, ⟨Int.le_refl _, by decide⟩, by simp⟩, trivial, into_mk (by kernel_rfl) (by (repeat' first | exact trivial | exact rfl | apply And.intro)) (by (repeat' first | exact trivial | exact rfl | apply And.intro))⟩, ?_⟩
  rintro ⟨i, n⟩ ⟨hi, hpi, ⟨n0, n1⟩, hq⟩
  dsimp only at hi hpi n0 n1 hq ⊢
  have bad : ∀ (f : Nat) (a e q : Int), φ f = none → badN xs.length p (numR (xs.drop p) 0 0) = some (a, e) → EndsP 2 (ct_num x p xs φ) (chF f) (readH (bput φ f (faultI a e)) x q .nilp) := fun f a e q hf hb => ⟨(f, a, e, q), [], [0, 1], ⟨hf, hb⟩, rfl, by (repeat' first | exact trivial | exact rfl | apply And.intro)⟩
  refine ⟨⟨by decide, by unfold i64ok; omega, ⟨by omega, by omega⟩, hcap, by omega⟩, into_mk (by kernel_rfl) (by (repeat' first | exact trivial | exact rfl | apply And.intro)) (by (repeat' first | exact trivial | exact rfl | apply And.intro)), fun _ hin => ?_, fun f hf => ?_⟩
  · have hil : p + i < xs.length := by omega
    have hd : xs.drop (p + i) = rd xs (p + i) 0 :: xs.drop (p + i + 1) := drop_rd hil 0
    have hx := h4 _ (List.getElem_mem hil)
    rw [← rd_at hil 0] at hx
    rw [hd] at hq
    generalize hR : numR (xs.drop p) 0 0 = R at hq
    unfold numR at hq
    have t1 : ((p + i : Nat) : Int).toNat = p + i := by omega
    have t2 : (((p + i : Nat) : Int) + 1).toNat = p + i + 1 := by omega
    obtain ⟨cr, cl⟩ := cut_row h2 (show p + i ≤ p + i + 1 by omega) (show p + i + 1 ≤ x.len by omega)
    obtain ⟨cap, us, u1, u2, u3⟩ := rdK cr (i := 0) (by rw [cl]; omega)
    rw [t1, t2]
    have u4 : rd us (RS.cut (p + i) (p + i + 1) x.cap x).lo 0 = rd xs (p + i) 0 := by
      have e : rd (α := Int) ((xs.drop (p + i)).take (p + i + 1 - (p + i))) 0 0 = rd xs (p + i) 0 := by
        rw [hd, show p + i + 1 - (p + i) = 1 by omega]; rfl
      exact u3.trans e
    refine ⟨⟨by decide, by rw [cl]; omega⟩, cap, us, u1, u2, ?_⟩
    rw [u4]
    generalize rd xs (p + i) 0 = c at *
    obtain ⟨c0, c1⟩ := hx
    have b1 : i64ok (7 * (i : Int)) := by unfold i64ok; omega
    have b2 : (0 : Int) ≤ 7 * (i : Int) := by omega
    have b3 : i64ok ((i : Int) + 1) := by unfold i64ok; omega
    have b4 : i64ok ((p : Int) + (i : Int)) := by unfold i64ok; omega
    have form : ((c = 0 ∧ 0 < i) ∨ (c ≠ 1 ∧ i = 9)) → ∀ f : Nat, φ f = none → EndsP 2 (ct_num x p xs φ) (chF f) (readH (bput φ f (faultI ((p : Int) + (i : Int)) 11)) x (((p + i : Nat) : Int) + 1) .nilp) := fun h f hf => bad f _ _ _ hf (by
      rw [if_pos h] at hq
      rw [hR, ← hq]; rfl)
    have acc : ¬ ((c = 0 ∧ 0 < i) ∨ (c ≠ 1 ∧ i = 9)) → bitw .or .u64 n (IntKind.wrap .u64 (IntKind.wrap .u64 (bitw .and .u8 c 127) * 2 ^ min (7 * (i : Int)).toNat 64)) = n + c % 128 * 128 ^ i := fun h => acc_add n0 n1 c0 c1 hi (fun e => by
      by_cases e1 : c = 1
      · exact e1
      · exact absurd (.inr ⟨e1, e⟩) h)
    have stop : ¬ ((c = 0 ∧ 0 < i) ∨ (c ≠ 1 ∧ i = 9)) → c < 128 → EndsAs 2 (ct_num x p xs φ) (u64v (n + c % 128 * 128 ^ i)) (readH φ x (((p + i : Nat) : Int) + 1) .nilp) := fun h hlt => by
      rw [if_neg h, if_pos hlt] at hq
      have hz : ((p + i : Nat) : Int) + 1 = ((p + (i + 1) : Nat) : Int) := by omega
      exact ⟨(n + c % 128 * 128 ^ i, i + 1), [], [0, 1], hR.trans hq.symm, by (repeat' first | exact trivial | exact rfl | exact hz | exact congrArg _ hz | apply And.intro)⟩
    have goes : ¬ ((c = 0 ∧ 0 < i) ∨ (c ≠ 1 ∧ i = 9)) → ¬ c < 128 → ∀ fr, EqVs 2 (fun n => ([0, 1] : List Nat).getD n 0) fr ((inv_num x p xs φ).fr ((i + 1 : Nat), n + c % 128 * 128 ^ i)) → Enter 2 (inv_num x p xs φ) (fun (z' : Nat × Int) => 10 - z'.1 < 10 - i) fr (readH φ x (((p + i : Nat) : Int) + 1) .nilp) := fun h hge fr hfr => by
      rw [if_neg h, if_neg hge] at hq
      have hz : ((p + i : Nat) : Int) + 1 = ((p + (i + 1) : Nat) : Int) := by omega
      have h9 : i ≠ 9 := fun e => by
        by_cases e1 : c = 1
        · omega
        · exact h (.inr ⟨e1, e⟩)
      have hm0 : 0 ≤ c % 128 := Int.emod_nonneg _ (by decide)
      have hm1 : c % 128 < 128 := Int.emod_lt_of_pos _ (by decide)
      have hpw : (0 : Int) < 128 ^ i := Int.pow_pos (by decide)
      have hprod : 0 ≤ c % 128 * 128 ^ i := Int.mul_nonneg hm0 (Int.le_of_lt hpw)
      have hstep : n + c % 128 * 128 ^ i < 128 ^ (i + 1) := by
        have h2 : c % 128 * 128 ^ i ≤ 127 * 128 ^ i := Int.mul_le_mul_of_nonneg_right (by omega) (Int.le_of_lt hpw)
        rw [Int.pow_succ]
        omega
      refine ⟨((i + 1 : Nat), n + c % 128 * 128 ^ i), [], [0, 1], ⟨by show i + 1 ≤ 9; omega, by show p + (i + 1) ≤ xs.length; omega, ⟨by show 0 ≤ n + c % 128 * 128 ^ i; omega, hstep⟩, hq.trans hR.symm⟩, by show 10 - (i + 1) < 10 - i; omega, into_mk ?_ hfr ?_⟩
      · kernel_rfl
      · (repeat' first | exact trivial | exact rfl | exact hz | exact congrArg _ hz | apply And.intro)
    refine ite2_decide (fun h0 => ite2_decide (fun hi0 => ?_) (fun hi0 => ite2_decide (fun h1 => ?_) (fun h1 => ite2_decide (fun h9 => ?_) (fun h9 => ?_)))) (fun h0 => ite2_decide (fun h1 => ?_) (fun h1 => ite2_decide (fun h9 => ?_) (fun h9 => ?_)))
    · exact ⟨b4, trivial, into_mk (by kernel_rfl) (by (repeat' first | exact trivial | exact rfl | apply And.intro)) (by (repeat' first | exact trivial | exact rfl | apply And.intro)), fun f hf => form (by omega) f hf⟩
    · have hno : ¬ ((c = 0 ∧ 0 < i) ∨ (c ≠ 1 ∧ i = 9)) := by omega
      rw [acc hno]
      exact ⟨b1, b2, ite2_decide (fun hlt => stop hno hlt) (fun hge => ⟨b3, goes hno hge _ (by (repeat' first | exact trivial | exact rfl | apply And.intro))⟩)⟩
    · exact ⟨b4, trivial, into_mk (by kernel_rfl) (by (repeat' first | exact trivial | exact rfl | apply And.intro)) (by (repeat' first | exact trivial | exact rfl | apply And.intro)), fun f hf => form (by omega) f hf⟩
    · have hno : ¬ ((c = 0 ∧ 0 < i) ∨ (c ≠ 1 ∧ i = 9)) := by omega
      rw [acc hno]
      exact ⟨b1, b2, ite2_decide (fun hlt => stop hno hlt) (fun hge => ⟨b3, goes hno hge _ (by (repeat' first | exact trivial | exact rfl | apply And.intro))⟩)⟩
    · have hno : ¬ ((c = 0 ∧ 0 < i) ∨ (c ≠ 1 ∧ i = 9)) := by omega
      rw [acc hno]
      exact ⟨b1, b2, ite2_decide (fun hlt => stop hno hlt) (fun hge => ⟨b3, goes hno hge _ (by (repeat' first | exact trivial | exact rfl | apply And.intro))⟩)⟩
    · exact ⟨b4, trivial, into_mk (by kernel_rfl) (by (repeat' first | exact trivial | exact rfl | apply And.intro)) (by (repeat' first | exact trivial | exact rfl | apply And.intro)), fun f hf => form (by omega) f hf⟩
    · have hno : ¬ ((c = 0 ∧ 0 < i) ∨ (c ≠ 1 ∧ i = 9)) := by omega
      rw [acc hno]
      exact ⟨b1, b2, ite2_decide (fun hlt => stop hno hlt) (fun hge => ⟨b3, goes hno hge _ (by (repeat' first | exact trivial | exact rfl | apply And.intro))⟩)⟩
  · exact bad f _ _ _ hf.1 (by
      have : xs.drop (p + i) = [] := List.drop_of_length_le (by omega)
      rw [this] at hq
      rw [← hq, hlen]; rfl)
end Go.Proofs.YtndlpbheifalhaaGreatDoor.T
end
section
namespace Go.Proofs.YtndlpbheifalhaaGreatDoor.T
open Go.Proofs.YtndlpbheifalhaaGreatDoor.E Go.Proofs.YtndlpbheifalhaaGreatDoor.V
set_option maxRecDepth 100000
set_option linter.unusedVariables false
set_option linter.unusedSimpArgs false
def restOf : Option Code → Code
  | some (.seq _ c) => c
  | _ => .skip
def opOf : Option Code → Oper
  | some (.seq (.region _ ops _) _) => ops.getD 0 default
  | _ => default
abbrev faultP (f : Nat) : C := .rp 149 0 f 0 0
def readC1 (x : RS) (p : Int) (e : C) : VH KK := [.cells 75 (readC x p e)]
def ctn_ret (x : RS) (p a : Int) : Ct KK := { need := True, pre := readC1 x p .nilp, args := [.c (.ptr 0 0 0), i64 a], Y := Unit, ok := fun _ => True, ret := fun _ => .tup [], post := fun _ => readC1 x p .nilp }
def ctn_pan (f : Nat) (x : RS) (p a : Int) : Ct KK := { need := True, pre := readC1 x p .nilp, args := [.c (.ptr 0 0 0), i64 a], Y := Unit, ok := fun _ => True, ret := fun _ => .tup [], post := fun _ => readC1 x a (faultP f) }
def vF (f : Nat) : Value := .iface 73 (.pointer (some ⟨f, 0, none⟩))
theorem vc_noteR (x : RS) (p a : Int) : evCode tab0 ann0 1 (restOf Tryz.f86.body) (([.c (.ptr 0 0 0), i64 a] ++ anys 19).set 7 (.c (VC1 .nilIface))) (readC1 x p .nilp) (fnEnd Tryz.prog 1 Tryz.f86.results.toList (ctn_ret x p a)) = ( EndsAs 1 (ctn_ret x p a) (VV.tup []) [Atom.cells 75 [C.rs 5 1 x, C.int .i64 p, C.nilp]]) := by kernel_rfl
theorem vc_noteP (f : Nat) (x : RS) (p a : Int) : evCode tab0 ann0 1 (restOf Tryz.f86.body) (([.c (.ptr 0 0 0), i64 a] ++ anys 19).set 7 (.c (VC1 (vF f)))) (readC1 x p .nilp) (fnEnd Tryz.prog 1 Tryz.f86.results.toList (ctn_pan f x p a)) = ( EndsAs 1 (ctn_pan f x p a) (VV.tup []) [Atom.cells 75 [C.rs 5 1 x, C.int .i64 a, C.rp 149 0 f 0 0]]) := by kernel_rfl
theorem note_body : Tryz.f86.body = some (.seq (.region 0 #[opOf Tryz.f86.body] false) (restOf Tryz.f86.body)) := by kernel_rfl
theorem noteR_end (x : RS) (p a : Int) : EndsAs 1 (ctn_ret x p a) (.tup []) (readC1 x p .nilp) := ⟨(), [], [0], trivial, by (repeat' first | exact trivial | exact rfl | apply And.intro)⟩
theorem noteR_rec (c₀ : Frame) (cs : List Frame) (h : c₀.mode = .returning) : (match recoverD (c₀ :: cs) with | some (v', cs') => v' = Value.nilIface ∧ cs' = { c₀ with mode := .returning } :: cs | none => Value.nilIface = .nilIface ∧ FrameMode.returning = .returning) := by
  obtain ⟨⟩ := c₀
  simp only at h
  subst h
  exact ⟨rfl, rfl⟩
theorem noteR_ok (x : RS) (p a : Int) : CtOkD Tryz.prog 86 .returning .returning (ctn_ret x p a) :=
  CtOkD_of KK_ok tab0 ann0 (fn := Tryz.f86) (t := 7) (v := .nilIface) rfl (fun _ _ => rfl) note_body (fun _ _ => rfl) rfl rfl noteR_rec rfl (fun _ => cast (by kernel_rfl) (Eq.mpr (congrArg Bx (vc_noteR x p a)) ⟨noteR_end x p a⟩))
theorem noteP_end (f : Nat) (x : RS) (p a : Int) : EndsAs 1 (ctn_pan f x p a) (.tup []) (readC1 x a (faultP f)) := ⟨(), [], [0], trivial, by (repeat' first | exact trivial | exact rfl | apply And.intro)⟩
theorem noteP_rec (f : Nat) (c₀ : Frame) (cs : List Frame) (h : c₀.mode = .panicking (chF f)) : (match recoverD (c₀ :: cs) with | some (v', cs') => v' = vF f ∧ cs' = { c₀ with mode := .panicking [{ v := vF f, recovered := true }] } :: cs | none => vF f = .nilIface ∧ FrameMode.panicking [{ v := vF f, recovered := true }] = .panicking (chF f)) := by
  obtain ⟨⟩ := c₀
  simp only at h
  subst h
  exact ⟨rfl, rfl⟩
theorem noteP_ok (f : Nat) (x : RS) (p a : Int) : CtOkD Tryz.prog 86 (.panicking (chF f)) (.panicking [{ v := vF f, recovered := true }]) (ctn_pan f x p a) :=
  CtOkD_of KK_ok tab0 ann0 (fn := Tryz.f86) (t := 7) (v := vF f) rfl (fun _ _ => rfl) note_body (fun _ _ => rfl) rfl rfl (noteP_rec f) rfl (fun _ => cast (by kernel_rfl) (Eq.mpr (congrArg Bx (vc_noteP f x p a)) ⟨noteP_end f x p a⟩))
def pickNr (vs : List C) (H : VH KK) : Option (Ct KK × List Kd × List Nat) := match vs with
  | [.ptr n 0 0, .int _ a] => match at_ H n with
    | .cells _ [.rs _ _ x, .int _ p, .nilp] => some (ctn_ret x p a, [], [n])
    | _ => none
  | _ => none
def pickNp (vs : List C) (ch : List PanicEntry) (H : VH KK) : Option (Ct KK × List Kd × List Nat) := match ch with
  | [{ v := .iface 73 (.pointer (some ⟨f, 0, none⟩)), recovered := false, goexit := false }] => match vs with
    | [.ptr n 0 0, .int _ a] => match at_ H n with
      | .cells _ [.rs _ _ x, .int _ p, .nilp] => some (ctn_pan f x p a, [], [n])
      | _ => none
    | _ => none
  | _ => none
def dfrN : Dfr Tryz.prog KK 86 where
  ret := pickNr
  pan := pickNp
  enter := fun _ _ => rfl
  ret_ok := fun vs H ct ks τ h => by
    unfold pickNr at h
    split at h
    · split at h
      · cases h; exact noteR_ok _ _ _
      · cases h
    · cases h
  pan_ok := fun vs ch H ct ks τ h => by
    unfold pickNp at h
    split at h
    · split at h
      · split at h
        · cases h; exact ⟨_, rfl, noteP_ok _ _ _ _⟩
        · cases h
      · cases h
    · cases h
end Go.Proofs.YtndlpbheifalhaaGreatDoor.T
end
section
namespace Go.Proofs.YtndlpbheifalhaaGreatDoor.T
open Go.Proofs.YtndlpbheifalhaaGreatDoor.E Go.Proofs.YtndlpbheifalhaaGreatDoor.V
set_option maxRecDepth 100000
set_option linter.unusedVariables false
set_option linter.unusedSimpArgs false
/-- A reader behind a call. -/
def endH (φ : Bag KK) (x : RS) (s : St) (f : Nat) : VH KK := match s.e with
  | none => readH φ x s.p .nilp
  | some q => readH (bput φ f (faultI q.1 q.2)) x s.p (faultP f)
theorem endH_none {φ : Bag KK} {x : RS} {s : St} {f : Nat} (h : s.e = none) : endH φ x s f = readH φ x s.p .nilp := by unfold endH; rw [h]
theorem endH_some {φ : Bag KK} {x : RS} {s : St} {f : Nat} {q : Int × Int} (h : s.e = some q) : endH φ x s f = readH (bput φ f (faultI q.1 q.2)) x s.p (faultP f) := by unfold endH; rw [h]
def ct_rop (args : List VV) (ret : VV) (s s' : St) (x : RS) (φ : Bag KK) : Ct KK := { need := Bytes φ x s.l ∧ s.Ok ∧ s.e = none, pre := readH φ x s.p .nilp, args := .c (.ptr 1 0 0) :: args, Y := Nat, ok := fun f => s'.e = none ∨ φ f = none, ret := fun _ => ret, post := fun f => endH φ x s' f }
def ct_byte (s : St) (x : RS) (φ : Bag KK) : Ct KK := ct_rop [] (.c (.int .u8 (byteO s).1)) s (byteO s).2 x φ
def ct_uint (s : St) (m : Int) (x : RS) (φ : Bag KK) : Ct KK := ct_rop [u64v m] (u64v (uintO s m).1) s (uintO s m).2 x φ
def ct_text (s : St) (m : Int) (x : RS) (φ : Bag KK) : Ct KK := ct_rop [i64 m] (strv (textO s m).1) s (textO s m).2 x φ
def pickVf (s : St) (f : FuncId) (args : List VV) (H : VH KK) : Option (Ct KK × List Kd × List Nat) := match f, args, H with
  | 89, [.one (.c (.int _ a)), .one (.c (.int _ e))], .bag φ :: _ => some (ct_fail a e φ, [], [0])
  | 87, [.one (.c (.ptr 1 0 0)), .one (.c (.int _ n))], .bag φ :: .cells _ [.rs _ _ x, .int _ p, .nilp] :: _ => some (ct_take n x p φ, [], [0, 1])
  | 88, [.one (.c (.ptr 1 0 0))], .bag φ :: .cells _ [.rs _ _ x, .int _ _, .nilp] :: _ => some (ct_num x s.p s.l φ, [], [0, 1])
  | _, _, _ => none
def tabVf (s : St) : Tab Tryz.prog KK := ⟨mixed, pickVf s, fun f args H ct ks τ h => by
    unfold pickVf at h
    split at h
    · cases h; exact fail_ok _ _ _
    · cases h; exact take_ok _ _ _ _
    · cases h; exact num_ok _ _ _ _
    · cases h⟩
theorem vc_byte (s : St) (x : RS) (φ : Bag KK) : evFnD (tabVf s) ann0 Tryz.f56 (ct_byte s x φ) dfrN = ( ((0 : Int) ≤ (1 : Int) ∧ i64ok (1 : Int) ∧ ((0 : Int) ≤ (↑s.p : Int) ∧ (↑s.p : Int) ≤ (↑x.len : Int)) ∧ x.len ≤ x.cap ∧ x.len ≤ 1000000) ∧ Into (K := KK) 0 [] [0, 1] [VV.one (V1.c (C.ptr 1 0 0)), i64
 (1 : Int)] [Atom.bag φ, Atom.cells 75 [C.rs 5 1 x, C.int .i64 (↑s.p : Int), C.nilp]] [VV.one (V1.c (C.ptr 1 0 0)), i64 (1 : Int)] [Atom.bag φ, Atom.cells 75 [C.rs 5 1 x, C.int .i64 (↑s.p : Int), C.nilp]]
 ∧ (∀ (y : Unit), (1 : Int) ≤ (↑x.len : Int) - (↑s.p : Int) → ((0 : Int) ≤ (0 : Int) ∧ (0 : Int) < (↑(RS.cut (↑s.p : Int).toNat ((↑s.p : Int) + (1 : Int)).toNat x.cap x).len : Int)) ∧ ∃ (cap : Nat), ∃ (xs
 : List (Int)), φ (RS.cut (↑s.p : Int).toNat ((↑s.p : Int) + (1 : Int)).toNat x.cap x).blk = some (BI.row Kd.u8 cap xs) ∧ (RS.cut (↑s.p : Int).toNat ((↑s.p : Int) + (1 : Int)).toNat x.cap x).lo < xs.length
 ∧ True ∧ Into (K := KK) 0 [] [1] [VV.one (V1.c (C.ptr 1 0 0)), i64 (↑s.p : Int)] [Atom.bag φ, Atom.cells 75 [C.rs 5 1 x, C.int .i64 ((↑s.p : Int) + (1 : Int)), C.nilp]] [VV.one (V1.c (C.ptr 0 0 0)), i64
 (↑s.p : Int)] [Atom.cells 75 [C.rs 5 1 x, C.int .i64 ((↑s.p : Int) + (1 : Int)), C.nilp]] ∧ ∀ (y : Unit), True → EndsAs 2 (ct_byte s x φ) (VV.one (V1.c (C.int .u8 (rd xs (RS.cut (↑s.p : Int).toNat ((↑s.p
 : Int) + (1 : Int)).toNat x.cap x).lo (0 : Int))))) [Atom.bag φ, Atom.cells 75 [C.rs 5 1 x, C.int .i64 ((↑s.p : Int) + (1 : Int)), C.nilp]]) ∧ ∀ (z : Nat), φ z = none ∧ (↑x.len : Int) - (↑s.p : Int) <
 (1 : Int) → True ∧ Into (K := KK) 0 [] [1] [VV.one (V1.c (C.ptr 1 0 0)), i64 (↑s.p : Int)] [Atom.bag (bput φ z (BI.box 149 [C.int .i64 (↑x.len : Int), C.str (ByteArray.mk (#[])), C.int .i64 (10 : Int)])),
 Atom.cells 75 [C.rs 5 1 x, C.int .i64 (↑s.p : Int), C.nilp]] [VV.one (V1.c (C.ptr 0 0 0)), i64 (↑s.p : Int)] [Atom.cells 75 [C.rs 5 1 x, C.int .i64 (↑s.p : Int), C.nilp]] ∧ ∀ (y : Unit), True → EndsAs
 2 (ct_byte s x φ) (VV.one (V1.c (C.int .u8 (0 : Int)))) [Atom.bag (bput φ z (BI.box 149 [C.int .i64 (↑x.len : Int), C.str (ByteArray.mk (#[])), C.int .i64 (10 : Int)])), Atom.cells 75 [C.rs 5 1 x, C.int
 .i64 (↑s.p : Int), C.rp 149 0 z 0 0]]) := by kernel_rfl
theorem vc_uint (s : St) (m : Int) (x : RS) (φ : Bag KK) : evFnD (tabVf s) ann0 Tryz.f58 (ct_uint s m x φ) dfrN = ( (Bytes φ x s.l ∧ s.p ≤ s.l.length) ∧ Into (K := KK) 0 [] [0, 1] [VV.one (V1.c (C.ptr 1 0 0))] [Atom.bag φ, Atom.cells 75 [C.rs 5 1 x, C.int .i64 (↑s.p : Int), C.nilp]] [VV.one (V1.c (C.ptr 1 0 0))] [Atom.bag
 φ, Atom.cells 75 [C.rs 5 1 x, C.int .i64 (↑s.p : Int), C.nilp]] ∧ (∀ (y : Int × Nat), numR (List.drop s.p s.l) 0 (0 : Int) = NR.ok y.fst y.snd → ite2 (decide (m < y.fst)) (True ∧ Into (K := KK) 0 [] [0]
 [i64 (↑s.p : Int), i64 (12 : Int)] [Atom.bag φ, Atom.cells 75 [C.rs 5 1 x, C.int .i64 (↑(s.p + y.snd) : Int), C.nilp]] [i64 (↑s.p : Int), i64 (12 : Int)] [Atom.bag φ] ∧ ∀ (z : Nat), φ z = none → True ∧
 Into (K := KK) 0 [] [1] [VV.one (V1.c (C.ptr 1 0 0)), i64 (↑s.p : Int)] [Atom.bag (bput φ z (BI.box 149 [C.int .i64 (↑s.p : Int), C.str (ByteArray.mk (#[])), C.int .i64 (12 : Int)])), Atom.cells 75 [C.rs
 5 1 x, C.int .i64 (↑(s.p + y.snd) : Int), C.nilp]] [VV.one (V1.c (C.ptr 0 0 0)), i64 (↑s.p : Int)] [Atom.cells 75 [C.rs 5 1 x, C.int .i64 (↑(s.p + y.snd) : Int), C.nilp]] ∧ ∀ (y : Unit), True → EndsAs
 2 (ct_uint s m x φ) (VV.one (V1.c (C.int .u64 (0 : Int)))) [Atom.bag (bput φ z (BI.box 149 [C.int .i64 (↑s.p : Int), C.str (ByteArray.mk (#[])), C.int .i64 (12 : Int)])), Atom.cells 75 [C.rs 5 1 x, C.int
 .i64 (↑s.p : Int), C.rp 149 0 z 0 0]]) (True ∧ Into (K := KK) 0 [] [1] [VV.one (V1.c (C.ptr 1 0 0)), i64 (↑s.p : Int)] [Atom.bag φ, Atom.cells 75 [C.rs 5 1 x, C.int .i64 (↑(s.p + y.snd) : Int), C.nilp]]
 [VV.one (V1.c (C.ptr 0 0 0)), i64 (↑s.p : Int)] [Atom.cells 75 [C.rs 5 1 x, C.int .i64 (↑(s.p + y.snd) : Int), C.nilp]] ∧ ∀ (y_1 : Unit), True → EndsAs 2 (ct_uint s m x φ) (VV.one (V1.c (C.int .u64 y.fst)))
 [Atom.bag φ, Atom.cells 75 [C.rs 5 1 x, C.int .i64 (↑(s.p + y.snd) : Int), C.nilp]])) ∧ ∀ (z : Nat × Int × Int × Int), φ z.fst = none ∧ badN (↑s.l.length : Int) (↑s.p : Int) (numR (List.drop s.p s.l) 0
 (0 : Int)) = some (z.snd.fst, z.snd.snd.fst) → True ∧ Into (K := KK) 0 [] [1] [VV.one (V1.c (C.ptr 1 0 0)), i64 (↑s.p : Int)] [Atom.bag (bput φ z.fst (BI.box 149 [C.int .i64 z.snd.fst, C.str (ByteArray.mk
 (#[])), C.int .i64 z.snd.snd.fst])), Atom.cells 75 [C.rs 5 1 x, C.int .i64 z.snd.snd.snd, C.nilp]] [VV.one (V1.c (C.ptr 0 0 0)), i64 (↑s.p : Int)] [Atom.cells 75 [C.rs 5 1 x, C.int .i64 z.snd.snd.snd,
 C.nilp]] ∧ ∀ (y : Unit), True → EndsAs 2 (ct_uint s m x φ) (VV.one (V1.c (C.int .u64 (0 : Int)))) [Atom.bag (bput φ z.fst (BI.box 149 [C.int .i64 z.snd.fst, C.str (ByteArray.mk (#[])), C.int .i64 z.snd.snd.fst])),
 Atom.cells 75 [C.rs 5 1 x, C.int .i64 (↑s.p : Int), C.rp 149 0 z.fst 0 0]]) := by kernel_rfl
theorem bytesOf_u8 (ys : List Int) : (flat (K := KK) Kd.u8 ys).all isByte = true ∧ bytesOf (flat (K := KK) Kd.u8 ys) = txI ys := by
  constructor
  · rw [List.all_eq_true]
    intro c hc
    obtain ⟨y, _, hy⟩ := List.mem_flatMap.1 hc
    have hy : c ∈ [C.int .u8 y] := hy
    rw [List.mem_singleton.1 hy]; rfl
  · have e : (flat (K := KK) Kd.u8 ys).filterMap byteB = ys.map fun n => UInt8.ofNat n.toNat := by
      induction ys with
      | nil => rfl
      | cons y t ih =>
        show List.filterMap byteB ([C.int .u8 y] ++ flat (K := KK) Kd.u8 t) = _
        rw [List.filterMap_append, ih]
        rfl
    unfold bytesOf txI
    rw [e]
theorem byte_ok (s : St) (x : RS) (φ : Bag KK) : CtOk Tryz.prog 56 (ct_byte s x φ) := CtOk_ofD KK_ok (tabVf s) ann0 dfrN (fn := Tryz.f56) rfl (fun _ _ => rfl) fun hn => by
  rw [vc_byte]
  obtain ⟨hby, hs, he⟩ := hn
  have hcap := hby.cap
  obtain ⟨h1, h2, h3, h4⟩ := hby
  have h2 : x.row φ Kd.u8 = some s.l := h2
  have hlen : s.l.length = x.len := RS.row_len h2
  have hle := hs.le
  have t1 : ((s.p : Nat) : Int).toNat = s.p := by omega
  have t2 : ((s.p : Int) + 1).toNat = s.p + 1 := by omega
  refine ⟨⟨by decide, by unfold i64ok; omega, ⟨by omega, by omega⟩, hcap, by omega⟩, into_mk (by kernel_rfl) (by (repeat' first | exact trivial | exact rfl | apply And.intro)) (by (repeat' first | exact trivial | exact rfl | apply And.intro)), fun _ hin => ?_, fun f hf => ?_⟩
  · have hil : s.p < s.l.length := by omega
    obtain ⟨cr, cl⟩ := cut_row h2 (show s.p ≤ s.p + 1 by omega) (show s.p + 1 ≤ x.len by omega)
    obtain ⟨cap, us, u1, u2, u3⟩ := rdK cr (i := 0) (by rw [cl]; omega)
    rw [t1, t2]
    have hd : s.l.drop s.p = rd s.l s.p 0 :: s.l.drop (s.p + 1) := drop_rd hil 0
    have hO : byteO s = (rd s.l s.p 0, { s with p := s.p + 1 }) := by
      unfold byteO rawO St.rest
      rw [he]
      simp only
      rw [if_neg (by omega), hd]
      rfl
    have u4 : rd us (RS.cut s.p (s.p + 1) x.cap x).lo 0 = (byteO s).1 := by
      have e : rd (α := Int) ((s.l.drop s.p).take (s.p + 1 - s.p)) 0 0 = rd s.l s.p 0 := by
        rw [hd, show s.p + 1 - s.p = 1 by omega]; rfl
      rw [hO]
      exact u3.trans e
    refine ⟨⟨by decide, by rw [cl]; omega⟩, cap, us, u1, u2, trivial, into_mk (by kernel_rfl) (by (repeat' first | exact trivial | exact rfl | apply And.intro)) (by (repeat' first | exact trivial | exact rfl | apply And.intro)), fun _ _ => ?_⟩
    have e : (ct_byte s x φ).post (0 : Nat) = readH φ x ((s.p + 1 : Nat) : Int) .nilp := by
      show endH φ x (byteO s).2 0 = _
      rw [hO]
      exact endH_none he
    have hz : (s.p : Int) + 1 = ((s.p + 1 : Nat) : Int) := by omega
    refine ⟨(0 : Nat), [], [0, 1], .inl (by rw [hO]; exact he), ?_⟩
    rw [e, u4]
    (repeat' first | exact trivial | exact rfl | exact hz | exact congrArg _ hz | apply And.intro)
  · have hO : byteO s = (0, s.bad s.l.length 10) := by
      unfold byteO rawO
      rw [he]
      simp only
      rw [if_pos (by omega)]
      rfl
    have e : (ct_byte s x φ).post f = readH (bput φ f (faultI s.l.length 10)) x s.p (faultP f) := by
      show endH φ x (byteO s).2 f = _
      rw [hO]
      exact endH_some (show (s.bad (s.l.length : Int) 10).e = some ((s.l.length : Int), 10) from rfl)
    refine ⟨trivial, into_mk (by kernel_rfl) (by (repeat' first | exact trivial | exact rfl | apply And.intro)) (by (repeat' first | exact trivial | exact rfl | apply And.intro)), fun _ _ => ⟨f, [], [0, 1], .inr hf.1, ?_⟩⟩
    rw [e, hlen]
    have hq : (0 : Int) = (byteO s).1 := by rw [hO]
    (repeat' first | exact trivial | exact rfl | exact hq | apply And.intro)
theorem rop_bad {args : List VV} {ret : VV} {s : St} {x : RS} {φ : Bag KK} {a e : Int} {f : Nat} : (ct_rop args ret s (s.bad a e) x φ).post f = readH (bput φ f (faultI a e)) x s.p (faultP f) := endH_some (show (s.bad a e).e = some (a, e) from rfl)
theorem uint_ok (s : St) (m : Int) (x : RS) (φ : Bag KK) : CtOk Tryz.prog 58 (ct_uint s m x φ) := CtOk_ofD KK_ok (tabVf s) ann0 dfrN (fn := Tryz.f58) rfl (fun _ _ => rfl) fun hn => by
  rw [vc_uint]
  obtain ⟨hby, hs, he⟩ := hn
  have hle := hs.le
  have bad : ∀ (a e : Int) (f : Nat), φ f = none → uintO s m = (0, s.bad a e) → EndsAs 2 (ct_uint s m x φ) (u64v 0) (readH (bput φ f (faultI a e)) x s.p (faultP f)) := fun a e f hf hO => by
    have hp : (ct_uint s m x φ).post f = readH (bput φ f (faultI a e)) x s.p (faultP f) := by
      show (ct_rop _ _ s (uintO s m).2 x φ).post f = _
      rw [hO]
      exact rop_bad
    have hq : (0 : Int) = (uintO s m).1 := by rw [hO]
    refine ⟨f, [], [0, 1], .inr hf, ?_⟩
    rw [hp]
    (repeat' first | exact trivial | exact rfl | exact hq | apply And.intro)
  refine ⟨⟨hby, hle⟩, into_mk (by kernel_rfl) (by (repeat' first | exact trivial | exact rfl | apply And.intro)) (by (repeat' first | exact trivial | exact rfl | apply And.intro)), fun y hy => ite2_decide (fun hm => ?_) (fun hm => ?_), fun z hz => ?_⟩
  · have hO : uintO s m = (0, s.bad s.p 12) := by
      have hy : numR s.rest 0 0 = .ok y.1 y.2 := hy
      unfold uintO
      rw [he]
      simp only [hy]
      rw [if_pos hm]
    exact ⟨trivial, into_mk (by kernel_rfl) (by (repeat' first | exact trivial | exact rfl | apply And.intro)) (by (repeat' first | exact trivial | exact rfl | apply And.intro)), fun f hf => ⟨trivial, into_mk (by kernel_rfl) (by (repeat' first | exact trivial | exact rfl | apply And.intro)) (by (repeat' first | exact trivial | exact rfl | apply And.intro)), fun _ _ => bad _ _ f hf hO⟩⟩
  · have hO : uintO s m = (y.1, { s with p := s.p + y.2 }) := by
      have hy : numR s.rest 0 0 = .ok y.1 y.2 := hy
      unfold uintO
      rw [he]
      simp only [hy]
      rw [if_neg hm]
    refine ⟨trivial, into_mk (by kernel_rfl) (by (repeat' first | exact trivial | exact rfl | apply And.intro)) (by (repeat' first | exact trivial | exact rfl | apply And.intro)), fun _ _ => ?_⟩
    have hp : (ct_uint s m x φ).post (0 : Nat) = readH φ x ((s.p + y.2 : Nat) : Int) .nilp := by
      show endH φ x (uintO s m).2 0 = _
      rw [hO]
      exact endH_none he
    have hq : y.1 = (uintO s m).1 := by rw [hO]
    refine ⟨(0 : Nat), [], [0, 1], .inl (by rw [hO]; exact he), ?_⟩
    rw [hp]
    (repeat' first | exact trivial | exact rfl | exact hq | apply And.intro)
  · obtain ⟨hf, hb⟩ := hz
    have hO : uintO s m = (0, s.bad z.2.1 z.2.2.1) := by
      have hb : badN s.l.length s.p (numR s.rest 0 0) = some (z.2.1, z.2.2.1) := hb
      unfold uintO
      rw [he]
      cases hr : numR s.rest 0 0 with
      | ok n k => rw [hr] at hb; cases hb
      | form i => rw [hr] at hb; injection hb with hb; injection hb with e1 e2; rw [← e1, ← e2]
      | short => rw [hr] at hb; injection hb with hb; injection hb with e1 e2; rw [← e1, ← e2]
    exact ⟨trivial, into_mk (by kernel_rfl) (by (repeat' first | exact trivial | exact rfl | apply And.intro)) (by (repeat' first | exact trivial | exact rfl | apply And.intro)), fun _ _ => bad _ _ _ hf hO⟩
end Go.Proofs.YtndlpbheifalhaaGreatDoor.T
end
section
namespace Go.Proofs.YtndlpbheifalhaaGreatDoor.T
open Go.Proofs.YtndlpbheifalhaaGreatDoor.E Go.Proofs.YtndlpbheifalhaaGreatDoor.V
set_option maxRecDepth 100000
set_option linter.unusedVariables false
set_option linter.unusedSimpArgs false
def ct_raw (s : St) (n : Int) (x : RS) (φ : Bag KK) : Ct KK := { need := Bytes φ x s.l ∧ s.Ok ∧ s.e = none ∧ i64ok n, pre := readH φ x s.p .nilp, args := [.c (.ptr 1 0 0), i64 n], Y := Nat, ok := fun f => (rawO s n).2.e = none ∨ φ f = none, ret := fun _ => .c (.slc 2 0 (rawO s n).1.length none), post := fun f => endH φ x (rawO s n).2 f ++ [.arr .u8 (rawO s n).1] }
/-- Calls of a reader that has given up. -/
def ct_rfl (args : List VV) (ret : VV) (x : RS) (p : Int) (f : Nat) (φ : Bag KK) : Ct KK := { need := True, pre := readH φ x p (faultP f), args := .c (.ptr 1 0 0) :: args, Y := Unit, ok := fun _ => True, ret := fun _ => ret, post := fun _ => readH φ x p (faultP f) }
def ct_rawF (n : Int) (x : RS) (p : Int) (f : Nat) (φ : Bag KK) : Ct KK := { need := True, pre := readH φ x p (faultP f), args := [.c (.ptr 1 0 0), i64 n], Y := Unit, ok := fun _ => True, ret := fun _ => .c (.slc 2 0 0 none), post := fun _ => readH φ x p (faultP f) ++ [.arr .u8 []] }
def ct_at (x : RS) (p : Int) (e : C) (φ : Bag KK) : Ct KK := { need := True, pre := readH φ x p e, args := [.c (.ptr 1 0 0)], Y := Unit, ok := fun _ => True, ret := fun _ => i64 p, post := fun _ => readH φ x p e }
def ct_end (s : St) (x : RS) (φ : Bag KK) : Ct KK := { need := x.len = s.l.length ∧ s.e = none, pre := readH φ x s.p .nilp, args := [.c (.ptr 1 0 0)], Y := Nat, ok := fun f => (endO s).e = none ∨ φ f = none, ret := fun _ => .tup [], post := fun f => endH φ x (endO s) f }
/-- Err, of a reader without a fault, and with one. -/
def ct_err (x : RS) (p : Int) (φ : Bag KK) : Ct KK := { need := True, pre := readH φ x p .nilp, args := [.c (.ptr 1 0 0)], Y := Unit, ok := fun _ => True, ret := fun _ => .c (.lit .nilIface), post := fun _ => readH φ x p .nilp }
/-- Err of a reader with a fault: a copy. -/
def ct_errF (x : RS) (p : Int) (f : Nat) (q : Int × Int) (φ : Bag KK) : Ct KK := { need := φ f = some (faultI q.1 q.2), pre := readH φ x p (faultP f), args := [.c (.ptr 1 0 0)], Y := Nat, ok := fun g => φ g = none, ret := fun g => .c (.lit (vF g)), post := fun g => readH (bput φ g (faultI q.1 q.2)) x p (faultP f) }
def ct_told : Ct KK := { need := True, pre := [], args := [.c (.lit .nilIface)], Y := Unit, ok := fun _ => True, ret := fun _ => .tup [.c (.int .i64 0), .c (.int .i64 0), .c (.bool true)], post := fun _ => [] }
def ct_toldF (g : Nat) (q : Int × Int) (φ : Bag KK) : Ct KK := { need := φ g = some (faultI q.1 q.2) ∧ 1 ≤ q.2, pre := [.bag φ], args := [.c (.lit (vF g))], Y := Unit, ok := fun _ => True, ret := fun _ => .tup [.c (.int .i64 q.1), .c (.int .i64 q.2), .c (.bool true)], post := fun _ => [.bag φ] }
/-- A table of no calls. -/
def tabVn : Tab Tryz.prog KK := tab0
/-- End's new fault is known by its place before it is stored. -/
def annE : Ann KK := { loop := fun _ _ _ => none, cut := fun _ _ _ => none, frzOp := fun | 1 => (fun | 7 => [(25, 149)] | _ => []) | _ => fun _ => [] }
theorem vc_text (s : St) (m : Int) (x : RS) (φ : Bag KK) : evFnD (tabVf s) ann0 Tryz.f60 (ct_text s m x φ) dfrN = ( (Bytes φ x s.l ∧ s.p ≤ s.l.length) ∧ Into (K := KK) 0 [] [0, 1] [VV.one (V1.c (C.ptr 1 0 0))] [Atom.bag φ, Atom.cells 75 [C.rs 5 1 x, C.int .i64 (↑s.p : Int), C.nilp]] [VV.one (V1.c (C.ptr 1 0 0))] [Atom.bag
 φ, Atom.cells 75 [C.rs 5 1 x, C.int .i64 (↑s.p : Int), C.nilp]] ∧ (∀ (y : Int × Nat), numR (List.drop s.p s.l) 0 (0 : Int) = NR.ok y.fst y.snd → ite2 (decide (m < (0 : Int))) (True ∧ Into (K := KK) 0 []
 [0] [i64 (↑s.p : Int), i64 (12 : Int)] [Atom.bag φ, Atom.cells 75 [C.rs 5 1 x, C.int .i64 (↑(s.p + y.snd) : Int), C.nilp]] [i64 (↑s.p : Int), i64 (12 : Int)] [Atom.bag φ] ∧ ∀ (z : Nat), φ z = none → True
 ∧ Into (K := KK) 0 [] [1] [VV.one (V1.c (C.ptr 1 0 0)), i64 (↑s.p : Int)] [Atom.bag (bput φ z (BI.box 149 [C.int .i64 (↑s.p : Int), C.str (ByteArray.mk (#[])), C.int .i64 (12 : Int)])), Atom.cells 75 [C.rs
 5 1 x, C.int .i64 (↑(s.p + y.snd) : Int), C.nilp]] [VV.one (V1.c (C.ptr 0 0 0)), i64 (↑s.p : Int)] [Atom.cells 75 [C.rs 5 1 x, C.int .i64 (↑(s.p + y.snd) : Int), C.nilp]] ∧ ∀ (y : Unit), True → EndsAs
 2 (ct_text s m x φ) (VV.one (V1.c (C.str (ByteArray.mk (#[]))))) [Atom.bag (bput φ z (BI.box 149 [C.int .i64 (↑s.p : Int), C.str (ByteArray.mk (#[])), C.int .i64 (12 : Int)])), Atom.cells 75 [C.rs 5 1
 x, C.int .i64 (↑s.p : Int), C.rp 149 0 z 0 0]]) (ite2 (decide (IntKind.wrap .u64 m < y.fst)) (True ∧ Into (K := KK) 0 [] [0] [i64 (↑s.p : Int), i64 (12 : Int)] [Atom.bag φ, Atom.cells 75 [C.rs 5 1 x, C.int
 .i64 (↑(s.p + y.snd) : Int), C.nilp]] [i64 (↑s.p : Int), i64 (12 : Int)] [Atom.bag φ] ∧ ∀ (z : Nat), φ z = none → True ∧ Into (K := KK) 0 [] [1] [VV.one (V1.c (C.ptr 1 0 0)), i64 (↑s.p : Int)] [Atom.bag
 (bput φ z (BI.box 149 [C.int .i64 (↑s.p : Int), C.str (ByteArray.mk (#[])), C.int .i64 (12 : Int)])), Atom.cells 75 [C.rs 5 1 x, C.int .i64 (↑(s.p + y.snd) : Int), C.nilp]] [VV.one (V1.c (C.ptr 0 0 0)),
 i64 (↑s.p : Int)] [Atom.cells 75 [C.rs 5 1 x, C.int .i64 (↑(s.p + y.snd) : Int), C.nilp]] ∧ ∀ (y : Unit), True → EndsAs 2 (ct_text s m x φ) (VV.one (V1.c (C.str (ByteArray.mk (#[]))))) [Atom.bag (bput
 φ z (BI.box 149 [C.int .i64 (↑s.p : Int), C.str (ByteArray.mk (#[])), C.int .i64 (12 : Int)])), Atom.cells 75 [C.rs 5 1 x, C.int .i64 (↑s.p : Int), C.rp 149 0 z 0 0]]) (i64ok ((↑x.len : Int) - (↑(s.p +
 y.snd) : Int)) ∧ ite2 (decide (IntKind.wrap .u64 ((↑x.len : Int) - (↑(s.p + y.snd) : Int)) < y.fst)) (True ∧ True ∧ True ∧ Into (K := KK) 0 [] [0] [i64 (↑x.len : Int), i64 (10 : Int)] [Atom.bag φ, Atom.cells
 75 [C.rs 5 1 x, C.int .i64 (↑(s.p + y.snd) : Int), C.nilp]] [i64 (↑x.len : Int), i64 (10 : Int)] [Atom.bag φ] ∧ ∀ (z : Nat), φ z = none → True ∧ Into (K := KK) 0 [] [1] [VV.one (V1.c (C.ptr 1 0 0)), i64
 (↑s.p : Int)] [Atom.bag (bput φ z (BI.box 149 [C.int .i64 (↑x.len : Int), C.str (ByteArray.mk (#[])), C.int .i64 (10 : Int)])), Atom.cells 75 [C.rs 5 1 x, C.int .i64 (↑(s.p + y.snd) : Int), C.nilp]] [VV.one
 (V1.c (C.ptr 0 0 0)), i64 (↑s.p : Int)] [Atom.cells 75 [C.rs 5 1 x, C.int .i64 (↑(s.p + y.snd) : Int), C.nilp]] ∧ ∀ (y : Unit), True → EndsAs 2 (ct_text s m x φ) (VV.one (V1.c (C.str (ByteArray.mk (#[])))))
 [Atom.bag (bput φ z (BI.box 149 [C.int .i64 (↑x.len : Int), C.str (ByteArray.mk (#[])), C.int .i64 (10 : Int)])), Atom.cells 75 [C.rs 5 1 x, C.int .i64 (↑s.p : Int), C.rp 149 0 z 0 0]]) (True ∧ True ∧
 i64ok y.fst ∧ ((0 : Int) ≤ y.fst ∧ i64ok y.fst ∧ ((0 : Int) ≤ (↑(s.p + y.snd) : Int) ∧ (↑(s.p + y.snd) : Int) ≤ (↑x.len : Int)) ∧ x.len ≤ x.cap ∧ x.len ≤ 1000000) ∧ Into (K := KK) 0 [] [0, 1] [VV.one (V1.c
 (C.ptr 1 0 0)), i64 y.fst] [Atom.bag φ, Atom.cells 75 [C.rs 5 1 x, C.int .i64 (↑(s.p + y.snd) : Int), C.nilp]] [VV.one (V1.c (C.ptr 1 0 0)), i64 y.fst] [Atom.bag φ, Atom.cells 75 [C.rs 5 1 x, C.int .i64
 (↑(s.p + y.snd) : Int), C.nilp]] ∧ (∀ (y_1 : Unit), y.fst ≤ (↑x.len : Int) - (↑(s.p + y.snd) : Int) → ∃ (ys : List (Int)), RS.row φ Kd.u8 (RS.cut (↑(s.p + y.snd) : Int).toNat ((↑(s.p + y.snd) : Int) +
 y.fst).toNat x.cap x) = some ys ∧ (flat (K := KK) Kd.u8 ys).all isByte = true ∧ True ∧ Into (K := KK) 0 [] [1] [VV.one (V1.c (C.ptr 1 0 0)), i64 (↑s.p : Int)] [Atom.bag φ, Atom.cells 75 [C.rs 5 1 x, C.int
 .i64 ((↑(s.p + y.snd) : Int) + y.fst), C.nilp]] [VV.one (V1.c (C.ptr 0 0 0)), i64 (↑s.p : Int)] [Atom.cells 75 [C.rs 5 1 x, C.int .i64 ((↑(s.p + y.snd) : Int) + y.fst), C.nilp]] ∧ ∀ (y_2 : Unit), True
 → EndsAs 2 (ct_text s m x φ) (VV.one (V1.c (C.str (bytesOf (flat (K := KK) Kd.u8 ys))))) [Atom.bag φ, Atom.cells 75 [C.rs 5 1 x, C.int .i64 ((↑(s.p + y.snd) : Int) + y.fst), C.nilp]]) ∧ ∀ (z : Nat), φ
 z = none ∧ (↑x.len : Int) - (↑(s.p + y.snd) : Int) < y.fst → True ∧ Into (K := KK) 0 [] [1] [VV.one (V1.c (C.ptr 1 0 0)), i64 (↑s.p : Int)] [Atom.bag (bput φ z (BI.box 149 [C.int .i64 (↑x.len : Int), C.str
 (ByteArray.mk (#[])), C.int .i64 (10 : Int)])), Atom.cells 75 [C.rs 5 1 x, C.int .i64 (↑(s.p + y.snd) : Int), C.nilp]] [VV.one (V1.c (C.ptr 0 0 0)), i64 (↑s.p : Int)] [Atom.cells 75 [C.rs 5 1 x, C.int
 .i64 (↑(s.p + y.snd) : Int), C.nilp]] ∧ ∀ (y : Unit), True → EndsAs 2 (ct_text s m x φ) (VV.one (V1.c (C.str (ByteArray.mk (#[]))))) [Atom.bag (bput φ z (BI.box 149 [C.int .i64 (↑x.len : Int), C.str (ByteArray.mk
 (#[])), C.int .i64 (10 : Int)])), Atom.cells 75 [C.rs 5 1 x, C.int .i64 (↑s.p : Int), C.rp 149 0 z 0 0]])))) ∧ ∀ (z : Nat × Int × Int × Int), φ z.fst = none ∧ badN (↑s.l.length : Int) (↑s.p : Int) (numR
 (List.drop s.p s.l) 0 (0 : Int)) = some (z.snd.fst, z.snd.snd.fst) → True ∧ Into (K := KK) 0 [] [1] [VV.one (V1.c (C.ptr 1 0 0)), i64 (↑s.p : Int)] [Atom.bag (bput φ z.fst (BI.box 149 [C.int .i64 z.snd.fst,
 C.str (ByteArray.mk (#[])), C.int .i64 z.snd.snd.fst])), Atom.cells 75 [C.rs 5 1 x, C.int .i64 z.snd.snd.snd, C.nilp]] [VV.one (V1.c (C.ptr 0 0 0)), i64 (↑s.p : Int)] [Atom.cells 75 [C.rs 5 1 x, C.int
 .i64 z.snd.snd.snd, C.nilp]] ∧ ∀ (y : Unit), True → EndsAs 2 (ct_text s m x φ) (VV.one (V1.c (C.str (ByteArray.mk (#[]))))) [Atom.bag (bput φ z.fst (BI.box 149 [C.int .i64 z.snd.fst, C.str (ByteArray.mk
 (#[])), C.int .i64 z.snd.snd.fst])), Atom.cells 75 [C.rs 5 1 x, C.int .i64 (↑s.p : Int), C.rp 149 0 z.fst 0 0]]) := by kernel_rfl
theorem vc_raw (s : St) (n : Int) (x : RS) (φ : Bag KK) : evFnD (tabVf s) ann0 Tryz.f62 (ct_raw s n x φ) dfrN = ( ((0 : Int) ≤ max n (0 : Int) ∧ i64ok (max n (0 : Int)) ∧ ((0 : Int) ≤ (↑s.p : Int) ∧ (↑s.p : Int) ≤ (↑x.len : Int)) ∧ x.len ≤ x.cap ∧ x.len ≤ 1000000) ∧ Into (K := KK) 0 [] [0, 1] [VV.one (V1.c (C.ptr
 1 0 0)), i64 (max n (0 : Int))] [Atom.bag φ, Atom.cells 75 [C.rs 5 1 x, C.int .i64 (↑s.p : Int), C.nilp]] [VV.one (V1.c (C.ptr 1 0 0)), i64 (max n (0 : Int))] [Atom.bag φ, Atom.cells 75 [C.rs 5 1 x, C.int
 .i64 (↑s.p : Int), C.nilp]] ∧ (∀ (y : Unit), max n (0 : Int) ≤ (↑x.len : Int) - (↑s.p : Int) → ∃ (ys : List (Int)), RS.row φ Kd.u8 (RS.cut (↑s.p : Int).toNat ((↑s.p : Int) + max n (0 : Int)).toNat x.cap
 x) = some ys ∧ ys.length * 1 ≤ 140737488355328 ∧ True ∧ Into (K := KK) 0 [] [1] [VV.one (V1.c (C.ptr 1 0 0)), i64 (↑s.p : Int)] [Atom.bag φ, Atom.cells 75 [C.rs 5 1 x, C.int .i64 ((↑s.p : Int) + max n
 (0 : Int)), C.nilp], Atom.arr Kd.u8 ys] [VV.one (V1.c (C.ptr 0 0 0)), i64 (↑s.p : Int)] [Atom.cells 75 [C.rs 5 1 x, C.int .i64 ((↑s.p : Int) + max n (0 : Int)), C.nilp]] ∧ ∀ (y : Unit), True → EndsAs 2
 (ct_raw s n x φ) (VV.one (V1.c (C.slc 2 0 ys.length none))) [Atom.bag φ, Atom.cells 75 [C.rs 5 1 x, C.int .i64 ((↑s.p : Int) + max n (0 : Int)), C.nilp], Atom.arr Kd.u8 ys]) ∧ ∀ (z : Nat), φ z = none ∧
 (↑x.len : Int) - (↑s.p : Int) < max n (0 : Int) → True ∧ Into (K := KK) 0 [] [1] [VV.one (V1.c (C.ptr 1 0 0)), i64 (↑s.p : Int)] [Atom.bag (bput φ z (BI.box 149 [C.int .i64 (↑x.len : Int), C.str (ByteArray.mk
 (#[])), C.int .i64 (10 : Int)])), Atom.cells 75 [C.rs 5 1 x, C.int .i64 (↑s.p : Int), C.nilp]] [VV.one (V1.c (C.ptr 0 0 0)), i64 (↑s.p : Int)] [Atom.cells 75 [C.rs 5 1 x, C.int .i64 (↑s.p : Int), C.nilp]]
 ∧ ∀ (y : Unit), True → EndsAs 2 (ct_raw s n x φ) (VV.one (V1.c C.nils)) [Atom.bag (bput φ z (BI.box 149 [C.int .i64 (↑x.len : Int), C.str (ByteArray.mk (#[])), C.int .i64 (10 : Int)])), Atom.cells 75 [C.rs
 5 1 x, C.int .i64 (↑s.p : Int), C.rp 149 0 z 0 0]]) := by kernel_rfl
theorem vc_byteF (x : RS) (p : Int) (f : Nat) (φ : Bag KK) : evFnD tabVn ann0 Tryz.f56 (ct_rfl [] (.c (.int .u8 0)) x p f φ) dfrN = ( EndsAs 2 (ct_rfl [] (VV.c (C.int .u8 (0 : Int))) x p f φ) (VV.one (V1.c (C.int .u8 (0 : Int)))) [Atom.bag φ, Atom.cells 75 [C.rs 5 1 x, C.int .i64 p, C.rp 149 0 f 0 0]]) := by kernel_rfl
theorem vc_uintF (m : Int) (x : RS) (p : Int) (f : Nat) (φ : Bag KK) : evFnD tabVn ann0 Tryz.f58 (ct_rfl [u64v m] (u64v 0) x p f φ) dfrN = ( EndsAs 2 (ct_rfl [u64v m] (u64v (0 : Int)) x p f φ) (VV.one (V1.c (C.int .u64 (0 : Int)))) [Atom.bag φ, Atom.cells 75 [C.rs 5 1 x, C.int .i64 p, C.rp 149 0 f 0 0]]) := by kernel_rfl
theorem vc_textF (m : Int) (x : RS) (p : Int) (f : Nat) (φ : Bag KK) : evFnD tabVn ann0 Tryz.f60 (ct_rfl [i64 m] (strv ⟨#[]⟩) x p f φ) dfrN = ( EndsAs 2 (ct_rfl [i64 m] (strv (ByteArray.mk (#[]))) x p f φ) (VV.one (V1.c (C.str (ByteArray.mk (#[]))))) [Atom.bag φ, Atom.cells 75 [C.rs 5 1 x, C.int .i64 p, C.rp 149 0 f 0 0]]) := by kernel_rfl
theorem vc_rawF (n : Int) (x : RS) (p : Int) (f : Nat) (φ : Bag KK) : evFnD tabVn ann0 Tryz.f62 (ct_rawF n x p f φ) dfrN = ( EndsAs 2 (ct_rawF n x p f φ) (VV.one (V1.c C.nils)) [Atom.bag φ, Atom.cells 75 [C.rs 5 1 x, C.int .i64 p, C.rp 149 0 f 0 0]]) := by kernel_rfl
theorem vc_at (x : RS) (p : Int) (φ : Bag KK) : evFn tab0 ann0 Tryz.f54 (ct_at x p .nilp φ) = ( EndsAs 2 (ct_at x p C.nilp φ) (i64 p) [Atom.bag φ, Atom.cells 75 [C.rs 5 1 x, C.int .i64 p, C.nilp]]) := by kernel_rfl
theorem vc_atF (x : RS) (p : Int) (f : Nat) (φ : Bag KK) : evFn tab0 ann0 Tryz.f54 (ct_at x p (faultP f) φ) = ( EndsAs 2 (ct_at x p (faultP f) φ) (i64 p) [Atom.bag φ, Atom.cells 75 [C.rs 5 1 x, C.int .i64 p, C.rp 149 0 f 0 0]]) := by kernel_rfl
theorem vc_end (s : St) (x : RS) (φ : Bag KK) : evFn tab0 annE Tryz.f64 (ct_end s x φ) = ( ite2 (decide ((↑s.p : Int) < (↑x.len : Int))) (True ∧ ∀ (b : Nat), φ b = none → EndsAs 2 (ct_end s x φ) (VV.tup []) [Atom.bag (bput φ b (BI.box 149 [C.int .i64 (↑s.p : Int), C.str (ByteArray.mk (#[])),
 C.int .i64 (13 : Int)])), Atom.cells 75 [C.rs 5 1 x, C.int .i64 (↑s.p : Int), C.rp 149 0 b 0 0], Atom.gone]) (True ∧ EndsAs 2 (ct_end s x φ) (VV.tup []) [Atom.bag φ, Atom.cells 75 [C.rs 5 1 x, C.int .i64
 (↑s.p : Int), C.nilp]])) := by kernel_rfl
theorem vc_endF (x : RS) (p : Int) (f : Nat) (φ : Bag KK) : evFn tab0 ann0 Tryz.f64 (ct_rfl [] (.tup []) x p f φ) = ( True ∧ EndsAs 2 (ct_rfl [] (VV.tup []) x p f φ) (VV.tup []) [Atom.bag φ, Atom.cells 75 [C.rs 5 1 x, C.int .i64 p, C.rp 149 0 f 0 0]]) := by kernel_rfl
theorem vc_err (x : RS) (p : Int) (φ : Bag KK) : evFn tab0 ann0 Tryz.f53 (ct_err x p φ) = ( EndsAs 2 (ct_err x p φ) (VV.one (V1.c (C.lit Value.nilIface))) [Atom.bag φ, Atom.cells 75 [C.rs 5 1 x, C.int .i64 p, C.nilp]]) := by kernel_rfl
theorem vc_errF (x : RS) (p : Int) (f : Nat) (q : Int × Int) (φ : Bag KK) : evFn tab0 ann0 Tryz.f53 (ct_errF x p f q φ) = ( ∃ (x_1 : KK.α Kd.flt), cellsAt φ f = some [C.int .i64 x_1.fst, C.str x_1.snd.fst, C.int .i64 x_1.snd.snd] ∧ ∀ (b : Nat), φ b = none → EndsAs 2 (ct_errF x p f q φ) (VV.one (V1.c (C.lit (Value.iface 73
 (Value.pointer (some (Addr.mk (b) (0) (none)))))))) [Atom.bag (bput φ b (BI.box 149 [C.int .i64 x_1.fst, C.str x_1.snd.fst, C.int .i64 x_1.snd.snd])), Atom.cells 75 [C.rs 5 1 x, C.int .i64 p, C.rp 149
 0 f 0 0], Atom.gone]) := by kernel_rfl
theorem vc_told (u : Unit) : evFn tab0 ann0 Tryz.f52 ct_told = ( EndsAs 0 ct_told (VV.tup [V1.c (C.int .i64 (0 : Int)), V1.c (C.int .i64 (0 : Int)), V1.c (C.bool true)]) []) := by kernel_rfl
theorem vc_toldF (g : Nat) (q : Int × Int) (φ : Bag KK) : evFn tab0 ann0 Tryz.f52 (ct_toldF g q φ) = ( ∃ (s : ByteArray), boxAt φ g 1 = some (C.str s) ∧ ite2 (decide (s.toList = (ByteArray.mk (#[])).toList)) (∃ (n : Int), boxAt φ g 2 = some (C.int .i64 n) ∧ ite2 (decide (n = (0 : Int))) (EndsAs 1 (ct_toldF
 g q φ) (VV.tup [V1.c (C.int .i64 (0 : Int)), V1.c (C.int .i64 (0 : Int)), V1.c (C.bool false)]) [Atom.bag φ]) (∃ (n : Int), boxAt φ g 0 = some (C.int .i64 n) ∧ ∃ (n_1 : Int), boxAt φ g 2 = some (C.int
 .i64 n_1) ∧ True ∧ ((∃ (n : Int), boxAt φ g 2 = some (C.int .i64 n) ∧ i64 n = i64 n_1) ∧ True) ∧ True ∧ True ∧ EndsAs 1 (ct_toldF g q φ) (VV.tup [V1.c (C.int .i64 n), V1.c (C.int .i64 n_1), V1.c (C.bool
 true)]) [Atom.bag φ])) (EndsAs 1 (ct_toldF g q φ) (VV.tup [V1.c (C.int .i64 (0 : Int)), V1.c (C.int .i64 (0 : Int)), V1.c (C.bool false)]) [Atom.bag φ])) := by kernel_rfl
theorem boxAt_fault {φ : Bag KK} {f : Nat} {a e : Int} (h : φ f = some (faultI a e)) : boxAt φ f 0 = some (.int .i64 a) ∧ boxAt φ f 1 = some (.str ⟨#[]⟩) ∧ boxAt φ f 2 = some (.int .i64 e) := by
  have h1 := cellsAt_box h
  unfold boxAt
  rw [h1]
  exact ⟨rfl, rfl, rfl⟩
theorem text_ok (s : St) (m : Int) (hm : i64ok m) (x : RS) (φ : Bag KK) : CtOk Tryz.prog 60 (ct_text s m x φ) := CtOk_ofD KK_ok (tabVf s) ann0 dfrN (fn := Tryz.f60) rfl (fun _ _ => rfl) fun hn => by
  rw [vc_text]
  obtain ⟨hby, hs, he⟩ := hn
  have hle := hs.le
  have hfew := hs.few
  have hby' := hby
  have hcap := hby.cap
  obtain ⟨h1, h2, h3, h4⟩ := hby'
  have h2 : x.row φ Kd.u8 = some s.l := h2
  have hlen : s.l.length = x.len := RS.row_len h2
  unfold i64ok at hm
  have bad : ∀ (a e : Int) (f : Nat), φ f = none → textO s m = (⟨#[]⟩, s.bad a e) → EndsAs 2 (ct_text s m x φ) (strv ⟨#[]⟩) (readH (bput φ f (faultI a e)) x s.p (faultP f)) := fun a e f hf hO => by
    have hp : (ct_text s m x φ).post f = readH (bput φ f (faultI a e)) x s.p (faultP f) := by
      show (ct_rop _ _ s (textO s m).2 x φ).post f = _
      rw [hO]
      exact rop_bad
    have hq : (⟨#[]⟩ : ByteArray) = (textO s m).1 := by rw [hO]
    refine ⟨f, [], [0, 1], .inr hf, ?_⟩
    rw [hp]
    (repeat' first | exact trivial | exact rfl | exact hq | apply And.intro)
  refine ⟨⟨hby, hle⟩, into_mk (by kernel_rfl) (by (repeat' first | exact trivial | exact rfl | apply And.intro)) (by (repeat' first | exact trivial | exact rfl | apply And.intro)), fun y hy => ?_, fun z hz => ?_⟩
  · have hy : numR s.rest 0 0 = .ok y.1 y.2 := hy
    obtain ⟨⟨v0, v1⟩, _, _, k1⟩ := numR_ok _ _ _ hs.rest (by decide) (by decide) (by decide) hy
    rw [hs.rest_len] at k1
    have u1 : 0 ≤ m → IntKind.wrap .u64 m = m := fun h => by rw [wr64]; omega
    have u2 : IntKind.wrap .u64 ((x.len : Int) - ((s.p + y.2 : Nat) : Int)) = (s.l.length : Int) - s.p - y.2 := by rw [wr64]; omega
    have hO1 : (m < 0 ∨ m < y.1) → textO s m = (⟨#[]⟩, s.bad s.p 12) := fun h => by
      unfold textO
      rw [he]
      simp only [hy]
      rw [if_pos h]
    refine ite2_decide (fun hm0 => ?_) (fun hm0 => ite2_decide (fun hm1 => ?_) (fun hm1 => ⟨by unfold i64ok; omega, ite2_decide (fun hm2 => ?_) (fun hm2 => ?_)⟩))
    · exact ⟨trivial, into_mk (by kernel_rfl) (by (repeat' first | exact trivial | exact rfl | apply And.intro)) (by (repeat' first | exact trivial | exact rfl | apply And.intro)), fun f hf => ⟨trivial, into_mk (by kernel_rfl) (by (repeat' first | exact trivial | exact rfl | apply And.intro)) (by (repeat' first | exact trivial | exact rfl | apply And.intro)), fun _ _ => bad _ _ f hf (hO1 (.inl hm0))⟩⟩
    · rw [u1 (by omega)] at hm1
      exact ⟨trivial, into_mk (by kernel_rfl) (by (repeat' first | exact trivial | exact rfl | apply And.intro)) (by (repeat' first | exact trivial | exact rfl | apply And.intro)), fun f hf => ⟨trivial, into_mk (by kernel_rfl) (by (repeat' first | exact trivial | exact rfl | apply And.intro)) (by (repeat' first | exact trivial | exact rfl | apply And.intro)), fun _ _ => bad _ _ f hf (hO1 (.inr hm1))⟩⟩
    · rw [u2] at hm2
      rw [u1 (by omega)] at hm1
      have hO : textO s m = (⟨#[]⟩, s.bad s.l.length 10) := by
        unfold textO
        rw [he]
        simp only [hy]
        rw [if_neg (by omega), if_pos hm2]
      rw [← hlen]
      exact ⟨trivial, trivial, trivial, into_mk (by kernel_rfl) (by (repeat' first | exact trivial | exact rfl | apply And.intro)) (by (repeat' first | exact trivial | exact rfl | apply And.intro)), fun f hf => ⟨trivial, into_mk (by kernel_rfl) (by (repeat' first | exact trivial | exact rfl | apply And.intro)) (by (repeat' first | exact trivial | exact rfl | apply And.intro)), fun _ _ => bad _ _ f hf hO⟩⟩
    · rw [u2] at hm2
      rw [u1 (by omega)] at hm1
      have hO : textO s m = (txI ((s.l.drop (s.p + y.2)).take y.1.toNat), { s with p := s.p + y.2 + y.1.toNat }) := by
        unfold textO
        rw [he]
        simp only [hy]
        rw [if_neg (by omega), if_neg hm2]
      refine ⟨trivial, trivial, by unfold i64ok; omega, ⟨v0, by unfold i64ok; omega, ⟨by omega, by omega⟩, hcap, by omega⟩, into_mk (by kernel_rfl) (by (repeat' first | exact trivial | exact rfl | apply And.intro)) (by (repeat' first | exact trivial | exact rfl | apply And.intro)), fun _ hin => ?_, fun f hf => absurd hf.2 (by omega)⟩
      have t1 : ((s.p + y.2 : Nat) : Int).toNat = s.p + y.2 := by omega
      have t2 : (((s.p + y.2 : Nat) : Int) + y.1).toNat = s.p + y.2 + y.1.toNat := by omega
      obtain ⟨cr, cl⟩ := cut_row h2 (show s.p + y.2 ≤ s.p + y.2 + y.1.toNat by omega) (show s.p + y.2 + y.1.toNat ≤ x.len by omega)
      rw [t1, t2]
      obtain ⟨b1, b2⟩ := bytesOf_u8 ((s.l.drop (s.p + y.2)).take (s.p + y.2 + y.1.toNat - (s.p + y.2)))
      refine ⟨_, cr, b1, trivial, into_mk (by kernel_rfl) (by (repeat' first | exact trivial | exact rfl | apply And.intro)) (by (repeat' first | exact trivial | exact rfl | apply And.intro)), fun _ _ => ?_⟩
      have hp : (ct_text s m x φ).post (0 : Nat) = readH φ x ((s.p + y.2 + y.1.toNat : Nat) : Int) .nilp := by
        show endH φ x (textO s m).2 0 = _
        rw [hO]
        exact endH_none he
      have hq : bytesOf (flat (K := KK) Kd.u8 ((s.l.drop (s.p + y.2)).take (s.p + y.2 + y.1.toNat - (s.p + y.2)))) = (textO s m).1 := by
        rw [hO]
        refine Eq.trans b2 ?_
        show txI _ = txI _
        rw [show s.p + y.2 + y.1.toNat - (s.p + y.2) = y.1.toNat by omega]
      have hz : ((s.p + y.2 : Nat) : Int) + y.1 = ((s.p + y.2 + y.1.toNat : Nat) : Int) := by omega
      refine ⟨(0 : Nat), [], [0, 1], .inl (by rw [hO]; exact he), ?_⟩
      rw [hp]
      (repeat' first | exact trivial | exact rfl | exact hq | exact hz | exact congrArg _ hz | apply And.intro)
  · obtain ⟨hf, hb⟩ := hz
    have hO : textO s m = (⟨#[]⟩, s.bad z.2.1 z.2.2.1) := by
      have hb : badN s.l.length s.p (numR s.rest 0 0) = some (z.2.1, z.2.2.1) := hb
      unfold textO
      rw [he]
      cases hr : numR s.rest 0 0 with
      | ok n k => rw [hr] at hb; cases hb
      | form i => rw [hr] at hb; injection hb with hb; injection hb with e1 e2; rw [← e1, ← e2]
      | short => rw [hr] at hb; injection hb with hb; injection hb with e1 e2; rw [← e1, ← e2]
    exact ⟨trivial, into_mk (by kernel_rfl) (by (repeat' first | exact trivial | exact rfl | apply And.intro)) (by (repeat' first | exact trivial | exact rfl | apply And.intro)), fun _ _ => bad _ _ _ hf hO⟩
theorem raw_ok (s : St) (n : Int) (x : RS) (φ : Bag KK) : CtOk Tryz.prog 62 (ct_raw s n x φ) := CtOk_ofD KK_ok (tabVf s) ann0 dfrN (fn := Tryz.f62) rfl (fun _ _ => rfl) fun hn => by
  rw [vc_raw]
  obtain ⟨hby, hs, he, hn⟩ := hn
  have hle := hs.le
  have hfew := hs.few
  have hcap := hby.cap
  obtain ⟨h1, h2, h3, h4⟩ := hby
  have h2 : x.row φ Kd.u8 = some s.l := h2
  have hlen : s.l.length = x.len := RS.row_len h2
  unfold i64ok at hn
  refine ⟨⟨by omega, by unfold i64ok; omega, ⟨by omega, by omega⟩, hcap, by omega⟩, into_mk (by kernel_rfl) (by (repeat' first | exact trivial | exact rfl | apply And.intro)) (by (repeat' first | exact trivial | exact rfl | apply And.intro)), fun _ hin => ?_, fun f hf => ?_⟩
  · have t1 : ((s.p : Nat) : Int).toNat = s.p := by omega
    have t2 : ((s.p : Int) + max n 0).toNat = s.p + n.toNat := by omega
    obtain ⟨cr, cl⟩ := cut_row h2 (show s.p ≤ s.p + n.toNat by omega) (show s.p + n.toNat ≤ x.len by omega)
    have hO : rawO s n = ((s.l.drop s.p).take n.toNat, { s with p := s.p + n.toNat }) := by
      unfold rawO St.rest
      rw [he]
      simp only
      rw [if_neg (by omega)]
    have hO' : (s.l.drop s.p).take (s.p + n.toNat - s.p) = (rawO s n).1 := by rw [hO, show s.p + n.toNat - s.p = n.toNat by omega]
    rw [hO'] at cr
    have hl : (rawO s n).1.length ≤ 1000000 := by rw [hO]; simp; omega
    rw [t1, t2]
    refine ⟨(rawO s n).1, cr, by omega, trivial, into_mk (by kernel_rfl) (by (repeat' first | exact trivial | exact rfl | apply And.intro)) (by (repeat' first | exact trivial | exact rfl | apply And.intro)), fun _ _ => ?_⟩
    have hp : (ct_raw s n x φ).post (0 : Nat) = readH φ x ((s.p + n.toNat : Nat) : Int) .nilp ++ [.arr .u8 (rawO s n).1] := by
      show endH φ x (rawO s n).2 0 ++ _ = _
      rw [endH_none (show (rawO s n).2.e = none by rw [hO]; exact he)]
      rw [hO]
    have hz : (s.p : Int) + max n 0 = ((s.p + n.toNat : Nat) : Int) := by omega
    refine ⟨(0 : Nat), [], [0, 1, 2], .inl (by rw [hO]; exact he), ?_⟩
    rw [hp]
    (repeat' first | exact trivial | exact rfl | exact hz | exact congrArg _ hz | apply And.intro)
  · have hO : rawO s n = ([], s.bad s.l.length 10) := by
      unfold rawO
      rw [he]
      simp only
      rw [if_pos (by omega)]
    have hp : (ct_raw s n x φ).post f = readH (bput φ f (faultI s.l.length 10)) x s.p (faultP f) ++ [.arr .u8 []] := by
      show endH φ x (rawO s n).2 f ++ [.arr .u8 (rawO s n).1] = _
      rw [hO]
      exact congrArg (· ++ [.arr .u8 []]) (endH_some (show (s.bad (s.l.length : Int) 10).e = some ((s.l.length : Int), 10) from rfl))
    have hr : (ct_raw s n x φ).ret f = .c (.slc 2 0 0 none) := by
      show VV.c (.slc 2 0 (rawO s n).1.length none) = _
      rw [hO]; rfl
    refine ⟨trivial, into_mk (by kernel_rfl) (by (repeat' first | exact trivial | exact rfl | apply And.intro)) (by (repeat' first | exact trivial | exact rfl | apply And.intro)), fun _ _ => ⟨f, [.u8], [0, 1, 2], .inr hf.1, ?_⟩⟩
    rw [hp, hr, hlen]
    (repeat' first | exact trivial | exact rfl | apply And.intro)
theorem byteF_ok (x : RS) (p : Int) (f : Nat) (φ : Bag KK) : CtOk Tryz.prog 56 (ct_rfl [] (.c (.int .u8 0)) x p f φ) := CtOk_ofD KK_ok tabVn ann0 dfrN (fn := Tryz.f56) rfl (fun _ _ => rfl) fun hn => by
  rw [vc_byteF]; exact ⟨(), [], [0, 1], trivial, by (repeat' first | exact trivial | exact rfl | apply And.intro)⟩
theorem uintF_ok (m : Int) (x : RS) (p : Int) (f : Nat) (φ : Bag KK) : CtOk Tryz.prog 58 (ct_rfl [u64v m] (u64v 0) x p f φ) := CtOk_ofD KK_ok tabVn ann0 dfrN (fn := Tryz.f58) rfl (fun _ _ => rfl) fun hn => by
  rw [vc_uintF]; exact ⟨(), [], [0, 1], trivial, by (repeat' first | exact trivial | exact rfl | apply And.intro)⟩
theorem textF_ok (m : Int) (x : RS) (p : Int) (f : Nat) (φ : Bag KK) : CtOk Tryz.prog 60 (ct_rfl [i64 m] (strv ⟨#[]⟩) x p f φ) := CtOk_ofD KK_ok tabVn ann0 dfrN (fn := Tryz.f60) rfl (fun _ _ => rfl) fun hn => by
  rw [vc_textF]; exact ⟨(), [], [0, 1], trivial, by (repeat' first | exact trivial | exact rfl | apply And.intro)⟩
theorem rawF_ok (n : Int) (x : RS) (p : Int) (f : Nat) (φ : Bag KK) : CtOk Tryz.prog 62 (ct_rawF n x p f φ) := CtOk_ofD KK_ok tabVn ann0 dfrN (fn := Tryz.f62) rfl (fun _ _ => rfl) fun hn => by
  rw [vc_rawF]; exact ⟨(), [.u8], [0, 1, 2], trivial, by (repeat' first | exact trivial | exact rfl | apply And.intro)⟩
theorem at_ok (x : RS) (p : Int) (φ : Bag KK) : CtOk Tryz.prog 54 (ct_at x p .nilp φ) := CtOk_of KK_ok tab0 ann0 (fn := Tryz.f54) rfl (fun _ _ => rfl) fun hn => by
  rw [vc_at]; exact ⟨(), [], [0, 1], trivial, by (repeat' first | exact trivial | exact rfl | apply And.intro)⟩
theorem atF_ok (x : RS) (p : Int) (f : Nat) (φ : Bag KK) : CtOk Tryz.prog 54 (ct_at x p (faultP f) φ) := CtOk_of KK_ok tab0 ann0 (fn := Tryz.f54) rfl (fun _ _ => rfl) fun hn => by
  rw [vc_atF]; exact ⟨(), [], [0, 1], trivial, by (repeat' first | exact trivial | exact rfl | apply And.intro)⟩
theorem end_ok (s : St) (x : RS) (φ : Bag KK) : CtOk Tryz.prog 64 (ct_end s x φ) := CtOk_of KK_ok tab0 annE (fn := Tryz.f64) rfl (fun _ _ => rfl) fun hn => by
  rw [vc_end]
  obtain ⟨hl, he⟩ := hn
  refine ite2_decide (fun h => ⟨trivial, fun f hf => ?_⟩) (fun h => ⟨trivial, ?_⟩)
  · have hO : endO s = s.bad s.p 13 := by
      unfold endO
      rw [he]
      simp only
      rw [if_pos (by omega)]
    have hp : (ct_end s x φ).post f = readH (bput φ f (faultI s.p 13)) x s.p (faultP f) := by
      show endH φ x (endO s) f = _
      rw [hO]
      exact endH_some (show (s.bad (s.p : Int) 13).e = some ((s.p : Int), 13) from rfl)
    refine ⟨f, [], [0, 1], .inr hf, ?_⟩
    rw [hp]
    (repeat' first | exact trivial | exact rfl | apply And.intro)
  · have hO : endO s = s := by
      unfold endO
      rw [he]
      simp only
      rw [if_neg (by omega)]
    have hp : (ct_end s x φ).post (0 : Nat) = readH φ x s.p .nilp := by
      show endH φ x (endO s) 0 = _
      rw [hO]
      exact endH_none he
    refine ⟨(0 : Nat), [], [0, 1], .inl (by rw [hO]; exact he), ?_⟩
    rw [hp]
    (repeat' first | exact trivial | exact rfl | apply And.intro)
theorem endF_ok (x : RS) (p : Int) (f : Nat) (φ : Bag KK) : CtOk Tryz.prog 64 (ct_rfl [] (.tup []) x p f φ) := CtOk_of KK_ok tab0 ann0 (fn := Tryz.f64) rfl (fun _ _ => rfl) fun hn => by
  rw [vc_endF]; exact ⟨trivial, (), [], [0, 1], trivial, by (repeat' first | exact trivial | exact rfl | apply And.intro)⟩
theorem err_ok (x : RS) (p : Int) (φ : Bag KK) : CtOk Tryz.prog 53 (ct_err x p φ) := CtOk_of KK_ok tab0 ann0 (fn := Tryz.f53) rfl (fun _ _ => rfl) fun hn => by
  rw [vc_err]; exact ⟨(), [], [0, 1], trivial, by (repeat' first | exact trivial | exact rfl | apply And.intro)⟩
theorem errF_ok (x : RS) (p : Int) (f : Nat) (q : Int × Int) (φ : Bag KK) : CtOk Tryz.prog 53 (ct_errF x p f q φ) := CtOk_of KK_ok tab0 ann0 (fn := Tryz.f53) rfl (fun _ _ => rfl) fun hn => by
  rw [vc_errF]
  have hn : φ f = some (faultI q.1 q.2) := hn
  exact ⟨(q.1, ⟨#[]⟩, q.2), cellsAt_box hn, fun b hb => ⟨b, [], [0, 1], hb, by (repeat' first | exact trivial | exact rfl | apply And.intro)⟩⟩
theorem told_ok : CtOk Tryz.prog 52 ct_told := CtOk_of KK_ok tab0 ann0 (fn := Tryz.f52) rfl (fun _ _ => rfl) fun hn => by
  rw [vc_told ()]; exact ⟨(), [], [], trivial, by (repeat' first | exact trivial | exact rfl | apply And.intro)⟩
theorem toldF_ok (g : Nat) (q : Int × Int) (φ : Bag KK) : CtOk Tryz.prog 52 (ct_toldF g q φ) := CtOk_of KK_ok tab0 ann0 (fn := Tryz.f52) rfl (fun _ _ => rfl) fun hn => by
  rw [vc_toldF]
  obtain ⟨h, h1⟩ := hn
  obtain ⟨b0, b1, b2⟩ := boxAt_fault h
  refine ⟨_, b1, ite2_decide (fun _ => ⟨_, b2, ite2_decide (fun h => absurd h (by omega)) (fun _ => ⟨_, b0, _, b2, trivial, ⟨⟨_, b2, rfl⟩, trivial⟩, trivial, trivial, (), [], [0], trivial, by (repeat' first | exact trivial | exact rfl | apply And.intro)⟩)⟩) (fun h => absurd rfl h)⟩
end Go.Proofs.YtndlpbheifalhaaGreatDoor.T
end
section
namespace Go.Proofs.YtndlpbheifalhaaGreatDoor.T
open Go.Proofs.YtndlpbheifalhaaGreatDoor.E Go.Proofs.YtndlpbheifalhaaGreatDoor.V
set_option maxRecDepth 100000
set_option linter.unusedVariables false
set_option linter.unusedSimpArgs false
def eN : Option (Int × Int) → Int | none => 0 | some q => q.2
def eP : Option (Int × Int) → Int | none => 0 | some q => q.1
def refC (x : RS) (p e q : Int) : List C := [.rs 5 1 x, .int .i64 p, .int .i64 e, .int .i64 q]
def refH (φ : Bag KK) (x : RS) (p e q : Int) : VH KK := [.bag φ, .cells 77 (refC x p e q)]
def refS (φ : Bag KK) (x : RS) (s : St) : VH KK := refH φ x s.p (eN s.e) (eP s.e)
def ct_xfail (x : RS) (p a e : Int) (e0 q0 : Int) (φ : Bag KK) : Ct KK := { need := True, pre := refH φ x p e0 q0, args := [.c (.ptr 1 0 0), i64 a, i64 e], Y := Unit, ok := fun _ => True, ret := fun _ => .tup [], post := fun _ => refH φ x p e a }
def ct_xat (x : RS) (p e q : Int) (φ : Bag KK) : Ct KK := { need := True, pre := refH φ x p e q, args := [.c (.ptr 1 0 0)], Y := Unit, ok := fun _ => True, ret := fun _ => i64 p, post := fun _ => refH φ x p e q }
def ct_xop (args : List VV) (ret : VV) (s s' : St) (x : RS) (φ : Bag KK) : Ct KK := { need := Bytes φ x s.l ∧ s.Ok, pre := refS φ x s, args := .c (.ptr 1 0 0) :: args, Y := Unit, ok := fun _ => True, ret := fun _ => ret, post := fun _ => refS φ x s' }
def ct_xraw (s : St) (n : Int) (x : RS) (φ : Bag KK) : Ct KK := { need := Bytes φ x s.l ∧ s.Ok ∧ i64ok n, pre := refS φ x s, args := [.c (.ptr 1 0 0), i64 n], Y := Unit, ok := fun _ => True, ret := fun _ => .c (.slc 2 0 (rawO s n).1.length none), post := fun _ => refS φ x (rawO s n).2 ++ [.arr .u8 (rawO s n).1] }
def numV (s : St) : Int × Int × Bool := match numR s.rest 0 0 with
  | .ok n k => (n, k, true)
  | _ => (0, 0, false)
def numS (s : St) : St := match numR s.rest 0 0 with
  | .ok _ _ => s
  | .form i => s.bad (s.p + i) 11
  | .short => s.bad s.l.length 10
def ct_xnum (s : St) (x : RS) (φ : Bag KK) : Ct KK := { need := Bytes φ x s.l ∧ s.Ok ∧ s.e = none, pre := refS φ x s, args := [.c (.ptr 1 0 0)], Y := Unit, ok := fun _ => True, ret := fun _ => .tup [.c (.int .u64 (numV s).1), .c (.int .i64 (numV s).2.1), .c (.bool (numV s).2.2)], post := fun _ => refS φ x (numS s) }
def inv_xnum (s : St) (x : RS) (φ : Bag KK) : Inv KK := { X := Nat × Int, fr := fun z => [.c (.ptr 1 0 0), .any, u64v 0, i64 0, boolv false, u64v z.2, i64 z.1] ++ anys 70, H := fun z => refS φ x s, ok := fun z => numOk s.l s.p z, meas := fun z => 10 - z.1 }
def ann_xnum (s : St) (x : RS) (φ : Bag KK) : Ann KK := { loop := fun _ _ _ => some (inv_xnum s x φ), cut := fun _ _ _ => none, keep := some 7 }
def pickX (s : St) (f : FuncId) (args : List VV) (H : VH KK) : Option (Ct KK × List Kd × List Nat) := match f, args, H with
  | 91, [.one (.c (.ptr 1 0 0)), .one (.c (.int _ a)), .one (.c (.int _ e))], .bag φ :: .cells _ [.rs _ _ x, .int _ p, .int _ e0, .int _ q0] :: _ => some (ct_xfail x p a e e0 q0 φ, [], [0, 1])
  | _, _, _ => none
theorem pickX_ok (FL : ∀ x p a e e0 q0 φ, CtOk Tryz.prog 91 (ct_xfail x p a e e0 q0 φ)) {s : St} {f : FuncId} {args : List VV} {H : VH KK} {ct ks τ} (h : pickX s f args H = some (ct, ks, τ)) : CtOk Tryz.prog f ct := by
  unfold pickX at h
  split at h
  · cases h; exact FL _ _ _ _ _ _ _
  · cases h
def FlOk : Prop := ∀ x p a e e0 q0 φ, CtOk Tryz.prog 91 (ct_xfail x p a e e0 q0 φ)
def tabX (FL : FlOk) (s : St) : Tab Tryz.prog KK := ⟨mixed, pickX s, fun _ _ _ _ _ _ h => pickX_ok FL h⟩
theorem vc_xfail (x : RS) (p a e e0 q0 : Int) (φ : Bag KK) : evFn tab0 ann0 Tryz.f91 (ct_xfail x p a e e0 q0 φ) = ( EndsAs 2 (ct_xfail x p a e e0 q0 φ) (VV.tup []) [Atom.bag φ, Atom.cells 77 [C.rs 5 1 x, C.int .i64 p, C.int .i64 e, C.int .i64 a]]) := by kernel_rfl
theorem vc_xat (x : RS) (p e q : Int) (φ : Bag KK) : evFn tab0 ann0 Tryz.f55 (ct_xat x p e q φ) = ( EndsAs 2 (ct_xat x p e q φ) (i64 p) [Atom.bag φ, Atom.cells 77 [C.rs 5 1 x, C.int .i64 p, C.int .i64 e, C.int .i64 q]]) := by kernel_rfl
theorem vc_xraw (FL : FlOk) (s : St) (n : Int) (x : RS) (φ : Bag KK) : evFn (tabX FL s) ann0 Tryz.f63 (ct_xraw s n x φ) = ( ite2 (decide (eN s.e = (0 : Int))) (ite2 (decide (n < (0 : Int))) (i64ok ((↑x.len : Int) - (↑s.p : Int)) ∧ ite2 (decide ((↑x.len : Int) - (↑s.p : Int) < (0 : Int))) (True ∧ True ∧ Into (K := KK) 0 []
 [0, 1] [VV.one (V1.c (C.ptr 1 0 0)), i64 (↑x.len : Int), i64 (10 : Int)] [Atom.bag φ, Atom.cells 77 [C.rs 5 1 x, C.int .i64 (↑s.p : Int), C.int .i64 (eN s.e), C.int .i64 (eP s.e)]] [VV.one (V1.c (C.ptr
 1 0 0)), i64 (↑x.len : Int), i64 (10 : Int)] [Atom.bag φ, Atom.cells 77 [C.rs 5 1 x, C.int .i64 (↑s.p : Int), C.int .i64 (eN s.e), C.int .i64 (eP s.e)]] ∧ ∀ (y : Unit), True → EndsAs 2 (ct_xraw s n x φ)
 (VV.one (V1.c C.nils)) [Atom.bag φ, Atom.cells 77 [C.rs 5 1 x, C.int .i64 (↑s.p : Int), C.int .i64 (10 : Int), C.int .i64 (↑x.len : Int)]]) (True ∧ i64ok ((↑s.p : Int) + (0 : Int)) ∧ ((0 : Int) ≤ (↑s.p
 : Int) ∧ (↑s.p : Int) ≤ (↑s.p : Int) + (0 : Int) ∧ (↑s.p : Int) + (0 : Int) ≤ (↑x.cap : Int)) ∧ True ∧ ∃ (ys : List (Int)), RS.row φ Kd.u8 (RS.cut (↑s.p : Int).toNat ((↑s.p : Int) + (0 : Int)).toNat x.cap
 x) = some ys ∧ ys.length * 1 ≤ 140737488355328 ∧ True ∧ True ∧ i64ok ((↑s.p : Int) + (0 : Int)) ∧ EndsAs 2 (ct_xraw s n x φ) (VV.one (V1.c (C.slc 2 0 ys.length none))) [Atom.bag φ, Atom.cells 77 [C.rs
 5 1 x, C.int .i64 ((↑s.p : Int) + (0 : Int)), C.int .i64 (eN s.e), C.int .i64 (eP s.e)], Atom.arr Kd.u8 ys])) (i64ok ((↑x.len : Int) - (↑s.p : Int)) ∧ ite2 (decide ((↑x.len : Int) - (↑s.p : Int) < n))
 (True ∧ True ∧ Into (K := KK) 0 [] [0, 1] [VV.one (V1.c (C.ptr 1 0 0)), i64 (↑x.len : Int), i64 (10 : Int)] [Atom.bag φ, Atom.cells 77 [C.rs 5 1 x, C.int .i64 (↑s.p : Int), C.int .i64 (eN s.e), C.int .i64
 (eP s.e)]] [VV.one (V1.c (C.ptr 1 0 0)), i64 (↑x.len : Int), i64 (10 : Int)] [Atom.bag φ, Atom.cells 77 [C.rs 5 1 x, C.int .i64 (↑s.p : Int), C.int .i64 (eN s.e), C.int .i64 (eP s.e)]] ∧ ∀ (y : Unit),
 True → EndsAs 2 (ct_xraw s n x φ) (VV.one (V1.c C.nils)) [Atom.bag φ, Atom.cells 77 [C.rs 5 1 x, C.int .i64 (↑s.p : Int), C.int .i64 (10 : Int), C.int .i64 (↑x.len : Int)]]) (True ∧ i64ok ((↑s.p : Int)
 + n) ∧ ((0 : Int) ≤ (↑s.p : Int) ∧ (↑s.p : Int) ≤ (↑s.p : Int) + n ∧ (↑s.p : Int) + n ≤ (↑x.cap : Int)) ∧ True ∧ ∃ (ys : List (Int)), RS.row φ Kd.u8 (RS.cut (↑s.p : Int).toNat ((↑s.p : Int) + n).toNat
 x.cap x) = some ys ∧ ys.length * 1 ≤ 140737488355328 ∧ True ∧ True ∧ i64ok ((↑s.p : Int) + n) ∧ EndsAs 2 (ct_xraw s n x φ) (VV.one (V1.c (C.slc 2 0 ys.length none))) [Atom.bag φ, Atom.cells 77 [C.rs 5
 1 x, C.int .i64 ((↑s.p : Int) + n), C.int .i64 (eN s.e), C.int .i64 (eP s.e)], Atom.arr Kd.u8 ys]))) (EndsAs 2 (ct_xraw s n x φ) (VV.one (V1.c C.nils)) [Atom.bag φ, Atom.cells 77 [C.rs 5 1 x, C.int .i64
 (↑s.p : Int), C.int .i64 (eN s.e), C.int .i64 (eP s.e)]])) := by kernel_rfl
theorem vc_xnum (FL : FlOk) (s : St) (x : RS) (φ : Bag KK) : evFn (tabX FL s) (ann_xnum s x φ) Tryz.f90 (ct_xnum s x φ) = ( Enter 2 (inv_xnum s x φ) (fun (x : Nat × Int) => True) ([VV.one (V1.c (C.ptr 1 0 0)), VV.any, VV.one (V1.c (C.int .u64 (0 : Int))), i64 (0 : Int), boolv false, VV.one (V1.c (C.int .u64 (0 : Int))), i64
 (0 : Int)] ++ anys 70) [Atom.bag φ, Atom.cells 77 [C.rs 5 1 x, C.int .i64 (↑s.p : Int), C.int .i64 (eN s.e), C.int .i64 (eP s.e)]] ∧ ∀ (z : Nat × Int), numOk s.l s.p z → i64ok ((↑s.p : Int) + (↑z.fst :
 Int)) ∧ ite2 (decide ((↑s.p : Int) + (↑z.fst : Int) < (↑x.len : Int))) (True ∧ i64ok ((↑s.p : Int) + (↑z.fst : Int)) ∧ ((0 : Int) ≤ (↑s.p : Int) + (↑z.fst : Int) ∧ (↑s.p : Int) + (↑z.fst : Int) < (↑x.len
 : Int)) ∧ ∃ (cap : Nat), ∃ (xs : List (Int)), φ x.blk = some (BI.row Kd.u8 cap xs) ∧ x.lo + ((↑s.p : Int) + (↑z.fst : Int)).toNat < xs.length ∧ True ∧ True ∧ ite2 (decide ((0 : Int) < (↑z.fst : Int)))
 (ite2 (decide (rd xs (x.lo + ((↑s.p : Int) + (↑z.fst : Int)).toNat) (0 : Int) = (0 : Int))) (i64ok ((↑s.p : Int) + (↑z.fst : Int)) ∧ True ∧ Into (K := KK) 0 [] [0, 1] [VV.one (V1.c (C.ptr 1 0 0)), i64
 ((↑s.p : Int) + (↑z.fst : Int)), i64 (11 : Int)] [Atom.bag φ, Atom.cells 77 [C.rs 5 1 x, C.int .i64 (↑s.p : Int), C.int .i64 (eN s.e), C.int .i64 (eP s.e)]] [VV.one (V1.c (C.ptr 1 0 0)), i64 ((↑s.p : Int)
 + (↑z.fst : Int)), i64 (11 : Int)] [Atom.bag φ, Atom.cells 77 [C.rs 5 1 x, C.int .i64 (↑s.p : Int), C.int .i64 (eN s.e), C.int .i64 (eP s.e)]] ∧ ∀ (y : Unit), True → EndsAs 2 (ct_xnum s x φ) (VV.tup [V1.c
 (C.int .u64 (0 : Int)), V1.c (C.int .i64 (0 : Int)), V1.c (C.bool false)]) [Atom.bag φ, Atom.cells 77 [C.rs 5 1 x, C.int .i64 (↑s.p : Int), C.int .i64 (11 : Int), C.int .i64 ((↑s.p : Int) + (↑z.fst : Int))]])
 (ite2 (decide ((↑z.fst : Int) = (9 : Int))) (ite2 (decide (rd xs (x.lo + ((↑s.p : Int) + (↑z.fst : Int)).toNat) (0 : Int) = (1 : Int))) ((128 : Int) ≠ (0 : Int) ∧ i64ok ((7 : Int) * (↑z.fst : Int)) ∧ (0
 : Int) ≤ IntKind.wrap .u64 ((7 : Int) * (↑z.fst : Int)) ∧ ite2 (decide (rd xs (x.lo + ((↑s.p : Int) + (↑z.fst : Int)).toNat) (0 : Int) < (128 : Int))) (i64ok ((↑z.fst : Int) + (1 : Int)) ∧ EndsAs 2 (ct_xnum
 s x φ) (VV.tup [V1.c (C.int .u64 (bitw BinOp.or .u64 z.snd (IntKind.wrap .u64 (IntKind.wrap .u64 (Int.tmod (rd xs (x.lo + ((↑s.p : Int) + (↑z.fst : Int)).toNat) (0 : Int)) (128 : Int)) * (2 : Int) ^ min
 (IntKind.wrap .u64 ((7 : Int) * (↑z.fst : Int))).toNat 64)))), V1.c (C.int .i64 ((↑z.fst : Int) + (1 : Int))), V1.c (C.bool true)]) [Atom.bag φ, Atom.cells 77 [C.rs 5 1 x, C.int .i64 (↑s.p : Int), C.int
 .i64 (eN s.e), C.int .i64 (eP s.e)]]) (i64ok ((↑z.fst : Int) + (1 : Int)) ∧ Enter 2 (inv_xnum s x φ) (fun (z' : Nat × Int) => 10 - z'.fst < 10 - z.fst) ([VV.one (V1.c (C.ptr 1 0 0)), VV.any, VV.one (V1.c
 (C.int .u64 (0 : Int))), i64 (0 : Int), boolv false, VV.one (V1.c (C.int .u64 (bitw BinOp.or .u64 z.snd (IntKind.wrap .u64 (IntKind.wrap .u64 (Int.tmod (rd xs (x.lo + ((↑s.p : Int) + (↑z.fst : Int)).toNat)
 (0 : Int)) (128 : Int)) * (2 : Int) ^ min (IntKind.wrap .u64 ((7 : Int) * (↑z.fst : Int))).toNat 64))))), i64 ((↑z.fst : Int) + (1 : Int))] ++ anys 70) [Atom.bag φ, Atom.cells 77 [C.rs 5 1 x, C.int .i64
 (↑s.p : Int), C.int .i64 (eN s.e), C.int .i64 (eP s.e)]])) (i64ok ((↑s.p : Int) + (↑z.fst : Int)) ∧ True ∧ Into (K := KK) 0 [] [0, 1] [VV.one (V1.c (C.ptr 1 0 0)), i64 ((↑s.p : Int) + (↑z.fst : Int)),
 i64 (11 : Int)] [Atom.bag φ, Atom.cells 77 [C.rs 5 1 x, C.int .i64 (↑s.p : Int), C.int .i64 (eN s.e), C.int .i64 (eP s.e)]] [VV.one (V1.c (C.ptr 1 0 0)), i64 ((↑s.p : Int) + (↑z.fst : Int)), i64 (11 :
 Int)] [Atom.bag φ, Atom.cells 77 [C.rs 5 1 x, C.int .i64 (↑s.p : Int), C.int .i64 (eN s.e), C.int .i64 (eP s.e)]] ∧ ∀ (y : Unit), True → EndsAs 2 (ct_xnum s x φ) (VV.tup [V1.c (C.int .u64 (0 : Int)), V1.c
 (C.int .i64 (0 : Int)), V1.c (C.bool false)]) [Atom.bag φ, Atom.cells 77 [C.rs 5 1 x, C.int .i64 (↑s.p : Int), C.int .i64 (11 : Int), C.int .i64 ((↑s.p : Int) + (↑z.fst : Int))]])) ((128 : Int) ≠ (0 :
 Int) ∧ i64ok ((7 : Int) * (↑z.fst : Int)) ∧ (0 : Int) ≤ IntKind.wrap .u64 ((7 : Int) * (↑z.fst : Int)) ∧ ite2 (decide (rd xs (x.lo + ((↑s.p : Int) + (↑z.fst : Int)).toNat) (0 : Int) < (128 : Int))) (i64ok
 ((↑z.fst : Int) + (1 : Int)) ∧ EndsAs 2 (ct_xnum s x φ) (VV.tup [V1.c (C.int .u64 (bitw BinOp.or .u64 z.snd (IntKind.wrap .u64 (IntKind.wrap .u64 (Int.tmod (rd xs (x.lo + ((↑s.p : Int) + (↑z.fst : Int)).toNat)
 (0 : Int)) (128 : Int)) * (2 : Int) ^ min (IntKind.wrap .u64 ((7 : Int) * (↑z.fst : Int))).toNat 64)))), V1.c (C.int .i64 ((↑z.fst : Int) + (1 : Int))), V1.c (C.bool true)]) [Atom.bag φ, Atom.cells 77
 [C.rs 5 1 x, C.int .i64 (↑s.p : Int), C.int .i64 (eN s.e), C.int .i64 (eP s.e)]]) (i64ok ((↑z.fst : Int) + (1 : Int)) ∧ Enter 2 (inv_xnum s x φ) (fun (z' : Nat × Int) => 10 - z'.fst < 10 - z.fst) ([VV.one
 (V1.c (C.ptr 1 0 0)), VV.any, VV.one (V1.c (C.int .u64 (0 : Int))), i64 (0 : Int), boolv false, VV.one (V1.c (C.int .u64 (bitw BinOp.or .u64 z.snd (IntKind.wrap .u64 (IntKind.wrap .u64 (Int.tmod (rd xs
 (x.lo + ((↑s.p : Int) + (↑z.fst : Int)).toNat) (0 : Int)) (128 : Int)) * (2 : Int) ^ min (IntKind.wrap .u64 ((7 : Int) * (↑z.fst : Int))).toNat 64))))), i64 ((↑z.fst : Int) + (1 : Int))] ++ anys 70) [Atom.bag
 φ, Atom.cells 77 [C.rs 5 1 x, C.int .i64 (↑s.p : Int), C.int .i64 (eN s.e), C.int .i64 (eP s.e)]])))) (ite2 (decide ((↑z.fst : Int) = (9 : Int))) (ite2 (decide (rd xs (x.lo + ((↑s.p : Int) + (↑z.fst :
 Int)).toNat) (0 : Int) = (1 : Int))) ((128 : Int) ≠ (0 : Int) ∧ i64ok ((7 : Int) * (↑z.fst : Int)) ∧ (0 : Int) ≤ IntKind.wrap .u64 ((7 : Int) * (↑z.fst : Int)) ∧ ite2 (decide (rd xs (x.lo + ((↑s.p : Int)
 + (↑z.fst : Int)).toNat) (0 : Int) < (128 : Int))) (i64ok ((↑z.fst : Int) + (1 : Int)) ∧ EndsAs 2 (ct_xnum s x φ) (VV.tup [V1.c (C.int .u64 (bitw BinOp.or .u64 z.snd (IntKind.wrap .u64 (IntKind.wrap .u64
 (Int.tmod (rd xs (x.lo + ((↑s.p : Int) + (↑z.fst : Int)).toNat) (0 : Int)) (128 : Int)) * (2 : Int) ^ min (IntKind.wrap .u64 ((7 : Int) * (↑z.fst : Int))).toNat 64)))), V1.c (C.int .i64 ((↑z.fst : Int)
 + (1 : Int))), V1.c (C.bool true)]) [Atom.bag φ, Atom.cells 77 [C.rs 5 1 x, C.int .i64 (↑s.p : Int), C.int .i64 (eN s.e), C.int .i64 (eP s.e)]]) (i64ok ((↑z.fst : Int) + (1 : Int)) ∧ Enter 2 (inv_xnum
 s x φ) (fun (z' : Nat × Int) => 10 - z'.fst < 10 - z.fst) ([VV.one (V1.c (C.ptr 1 0 0)), VV.any, VV.one (V1.c (C.int .u64 (0 : Int))), i64 (0 : Int), boolv false, VV.one (V1.c (C.int .u64 (bitw BinOp.or
 .u64 z.snd (IntKind.wrap .u64 (IntKind.wrap .u64 (Int.tmod (rd xs (x.lo + ((↑s.p : Int) + (↑z.fst : Int)).toNat) (0 : Int)) (128 : Int)) * (2 : Int) ^ min (IntKind.wrap .u64 ((7 : Int) * (↑z.fst : Int))).toNat
 64))))), i64 ((↑z.fst : Int) + (1 : Int))] ++ anys 70) [Atom.bag φ, Atom.cells 77 [C.rs 5 1 x, C.int .i64 (↑s.p : Int), C.int .i64 (eN s.e), C.int .i64 (eP s.e)]])) (i64ok ((↑s.p : Int) + (↑z.fst : Int))
 ∧ True ∧ Into (K := KK) 0 [] [0, 1] [VV.one (V1.c (C.ptr 1 0 0)), i64 ((↑s.p : Int) + (↑z.fst : Int)), i64 (11 : Int)] [Atom.bag φ, Atom.cells 77 [C.rs 5 1 x, C.int .i64 (↑s.p : Int), C.int .i64 (eN s.e),
 C.int .i64 (eP s.e)]] [VV.one (V1.c (C.ptr 1 0 0)), i64 ((↑s.p : Int) + (↑z.fst : Int)), i64 (11 : Int)] [Atom.bag φ, Atom.cells 77 [C.rs 5 1 x, C.int .i64 (↑s.p : Int), C.int .i64 (eN s.e), C.int .i64
 (eP s.e)]] ∧ ∀ (y : Unit), True → EndsAs 2 (ct_xnum s x φ) (VV.tup [V1.c (C.int .u64 (0 : Int)), V1.c (C.int .i64 (0 : Int)), V1.c (C.bool false)]) [Atom.bag φ, Atom.cells 77 [C.rs 5 1 x, C.int .i64 (↑s.p
 : Int), C.int .i64 (11 : Int), C.int .i64 ((↑s.p : Int) + (↑z.fst : Int))]])) ((128 : Int) ≠ (0 : Int) ∧ i64ok ((7 : Int) * (↑z.fst : Int)) ∧ (0 : Int) ≤ IntKind.wrap .u64 ((7 : Int) * (↑z.fst : Int))
 ∧ ite2 (decide (rd xs (x.lo + ((↑s.p : Int) + (↑z.fst : Int)).toNat) (0 : Int) < (128 : Int))) (i64ok ((↑z.fst : Int) + (1 : Int)) ∧ EndsAs 2 (ct_xnum s x φ) (VV.tup [V1.c (C.int .u64 (bitw BinOp.or .u64
 z.snd (IntKind.wrap .u64 (IntKind.wrap .u64 (Int.tmod (rd xs (x.lo + ((↑s.p : Int) + (↑z.fst : Int)).toNat) (0 : Int)) (128 : Int)) * (2 : Int) ^ min (IntKind.wrap .u64 ((7 : Int) * (↑z.fst : Int))).toNat
 64)))), V1.c (C.int .i64 ((↑z.fst : Int) + (1 : Int))), V1.c (C.bool true)]) [Atom.bag φ, Atom.cells 77 [C.rs 5 1 x, C.int .i64 (↑s.p : Int), C.int .i64 (eN s.e), C.int .i64 (eP s.e)]]) (i64ok ((↑z.fst
 : Int) + (1 : Int)) ∧ Enter 2 (inv_xnum s x φ) (fun (z' : Nat × Int) => 10 - z'.fst < 10 - z.fst) ([VV.one (V1.c (C.ptr 1 0 0)), VV.any, VV.one (V1.c (C.int .u64 (0 : Int))), i64 (0 : Int), boolv false,
 VV.one (V1.c (C.int .u64 (bitw BinOp.or .u64 z.snd (IntKind.wrap .u64 (IntKind.wrap .u64 (Int.tmod (rd xs (x.lo + ((↑s.p : Int) + (↑z.fst : Int)).toNat) (0 : Int)) (128 : Int)) * (2 : Int) ^ min (IntKind.wrap
 .u64 ((7 : Int) * (↑z.fst : Int))).toNat 64))))), i64 ((↑z.fst : Int) + (1 : Int))] ++ anys 70) [Atom.bag φ, Atom.cells 77 [C.rs 5 1 x, C.int .i64 (↑s.p : Int), C.int .i64 (eN s.e), C.int .i64 (eP s.e)]]))))
 (True ∧ True ∧ Into (K := KK) 0 [] [0, 1] [VV.one (V1.c (C.ptr 1 0 0)), i64 (↑x.len : Int), i64 (10 : Int)] [Atom.bag φ, Atom.cells 77 [C.rs 5 1 x, C.int .i64 (↑s.p : Int), C.int .i64 (eN s.e), C.int .i64
 (eP s.e)]] [VV.one (V1.c (C.ptr 1 0 0)), i64 (↑x.len : Int), i64 (10 : Int)] [Atom.bag φ, Atom.cells 77 [C.rs 5 1 x, C.int .i64 (↑s.p : Int), C.int .i64 (eN s.e), C.int .i64 (eP s.e)]] ∧ ∀ (y : Unit),
 True → EndsAs 2 (ct_xnum s x φ) (VV.tup [V1.c (C.int .u64 (0 : Int)), V1.c (C.int .i64 (0 : Int)), V1.c (C.bool false)]) [Atom.bag φ, Atom.cells 77 [C.rs 5 1 x, C.int .i64 (↑s.p : Int), C.int .i64 (10
 : Int), C.int .i64 (↑x.len : Int)]])) := by kernel_rfl
theorem vc_xend (FL : FlOk) (s : St) (x : RS) (φ : Bag KK) : evFn (tabX FL s) ann0 Tryz.f65 (ct_xop [] (.tup []) s (endO s) x φ) = ( ite2 (decide (eN s.e = (0 : Int))) (ite2 (decide ((↑s.p : Int) < (↑x.len : Int))) (True ∧ True ∧ Into (K := KK) 0 [] [0, 1] [VV.one (V1.c (C.ptr 1 0 0)), i64 (↑s.p : Int), i64 (13 : Int)] [Atom.bag φ,
 Atom.cells 77 [C.rs 5 1 x, C.int .i64 (↑s.p : Int), C.int .i64 (eN s.e), C.int .i64 (eP s.e)]] [VV.one (V1.c (C.ptr 1 0 0)), i64 (↑s.p : Int), i64 (13 : Int)] [Atom.bag φ, Atom.cells 77 [C.rs 5 1 x, C.int
 .i64 (↑s.p : Int), C.int .i64 (eN s.e), C.int .i64 (eP s.e)]] ∧ ∀ (y : Unit), True → EndsAs 2 (ct_xop [] (VV.tup []) s (endO s) x φ) (VV.tup []) [Atom.bag φ, Atom.cells 77 [C.rs 5 1 x, C.int .i64 (↑s.p
 : Int), C.int .i64 (13 : Int), C.int .i64 (↑s.p : Int)]]) (True ∧ EndsAs 2 (ct_xop [] (VV.tup []) s (endO s) x φ) (VV.tup []) [Atom.bag φ, Atom.cells 77 [C.rs 5 1 x, C.int .i64 (↑s.p : Int), C.int .i64
 (eN s.e), C.int .i64 (eP s.e)]])) (True ∧ EndsAs 2 (ct_xop [] (VV.tup []) s (endO s) x φ) (VV.tup []) [Atom.bag φ, Atom.cells 77 [C.rs 5 1 x, C.int .i64 (↑s.p : Int), C.int .i64 (eN s.e), C.int .i64 (eP
 s.e)]])) := by kernel_rfl
end Go.Proofs.YtndlpbheifalhaaGreatDoor.T
end
section
namespace Go.Proofs.YtndlpbheifalhaaGreatDoor.T
open Go.Proofs.YtndlpbheifalhaaGreatDoor.E Go.Proofs.YtndlpbheifalhaaGreatDoor.V
set_option maxRecDepth 100000
set_option linter.unusedVariables false
set_option linter.unusedSimpArgs false
theorem xfail_ok : FlOk := fun x p a e e0 q0 φ => CtOk_of KK_ok tab0 ann0 (fn := Tryz.f91) rfl (fun _ _ => rfl) fun hn => by
  rw [vc_xfail]; exact ⟨(), [], [0, 1], trivial, by (repeat' first | exact trivial | exact rfl | apply And.intro)⟩
theorem xat_ok (x : RS) (p e q : Int) (φ : Bag KK) : CtOk Tryz.prog 55 (ct_xat x p e q φ) := CtOk_of KK_ok tab0 ann0 (fn := Tryz.f55) rfl (fun _ _ => rfl) fun hn => by
  rw [vc_xat]; exact ⟨(), [], [0, 1], trivial, by (repeat' first | exact trivial | exact rfl | apply And.intro)⟩
theorem eN_none {s : St} (h : s.Ok) : eN s.e = 0 ↔ s.e = none := by
  cases he : s.e with
  | none => exact ⟨fun _ => rfl, fun _ => rfl⟩
  | some q =>
    have := (h.err q he).2
    exact ⟨fun h0 => by have h0 : q.2 = 0 := h0; omega, fun h => by cases h⟩
theorem xend_ok (s : St) (x : RS) (φ : Bag KK) : CtOk Tryz.prog 65 (ct_xop [] (.tup []) s (endO s) x φ) := CtOk_of KK_ok (tabX xfail_ok s) ann0 (fn := Tryz.f65) rfl (fun _ _ => rfl) fun hn => by
  rw [vc_xend]
  obtain ⟨⟨h1, h2, h3, h4⟩, hs⟩ := hn
  have h2 : x.row φ Kd.u8 = some s.l := h2
  have hlen : s.l.length = x.len := RS.row_len h2
  have same : endO s = s → EndsAs 2 (ct_xop [] (.tup []) s (endO s) x φ) (.tup []) (refS φ x s) := fun hO => by
    refine ⟨(), [], [0, 1], trivial, ?_⟩
    rw [hO]
    (repeat' first | exact trivial | exact rfl | apply And.intro)
  refine ite2_decide (fun he => ite2_decide (fun hl => ?_) (fun hl => ⟨trivial, same ?_⟩)) (fun he => ⟨trivial, same ?_⟩)
  · have he := (eN_none hs).1 he
    have hO : endO s = s.bad s.p 13 := by
      unfold endO
      rw [he]
      simp only
      rw [if_pos (by omega)]
    refine ⟨trivial, trivial, into_mk (by kernel_rfl) (by (repeat' first | exact trivial | exact rfl | apply And.intro)) (by (repeat' first | exact trivial | exact rfl | apply And.intro)), fun _ _ => ⟨(), [], [0, 1], trivial, ?_⟩⟩
    rw [hO]
    (repeat' first | exact trivial | exact rfl | apply And.intro)
  · have he := (eN_none hs).1 he
    unfold endO
    rw [he]
    simp only
    rw [if_neg (by omega)]
  · unfold endO
    cases hq : s.e with
    | none => exact absurd ((eN_none hs).2 hq) he
    | some q => rfl
theorem xraw_ok (s : St) (n : Int) (x : RS) (φ : Bag KK) : CtOk Tryz.prog 63 (ct_xraw s n x φ) := CtOk_of KK_ok (tabX xfail_ok s) ann0 (fn := Tryz.f63) rfl (fun _ _ => rfl) fun hn => by
  rw [vc_xraw]
  obtain ⟨hby, hs, hn⟩ := hn
  have hle := hs.le
  have hfew := hs.few
  have hcap := hby.cap
  obtain ⟨h1, h2, h3, h4⟩ := hby
  have h2 : x.row φ Kd.u8 = some s.l := h2
  have hlen : s.l.length = x.len := RS.row_len h2
  unfold i64ok at hn
  have none_ : ∀ s' : St, rawO s n = ([], s') → EndsAs 2 (ct_xraw s n x φ) (.c .nils) (refS φ x s') := fun s' hO => by
    refine ⟨(), [.u8], [0, 1, 2], trivial, ?_⟩
    have hp : (ct_xraw s n x φ).post () = refS φ x s' ++ [.arr .u8 []] := by
      show refS φ x (rawO s n).2 ++ [.arr .u8 (rawO s n).1] = _
      rw [hO]; rfl
    have hr : (ct_xraw s n x φ).ret () = .c (.slc 2 0 0 none) := by
      show VV.c (.slc 2 0 (rawO s n).1.length none) = _
      rw [hO]; rfl
    rw [hp, hr]
    (repeat' first | exact trivial | exact rfl | apply And.intro)
  have t1 : ((s.p : Nat) : Int).toNat = s.p := by omega
  have some_ : ∀ (m : Int) (k : Nat), (s.p : Int) + m = ((s.p + k : Nat) : Int) → k = n.toNat → s.e = none → s.p + k ≤ s.l.length → ((RS.cut s.p ((s.p : Int) + m).toNat x.cap x).row φ Kd.u8 = some (rawO s n).1 ∧ (rawO s n).1.length ≤ 1000000) ∧ EndsAs 2 (ct_xraw s n x φ) (.c (.slc 2 0 (rawO s n).1.length none)) (refH φ x ((s.p : Int) + m) (eN s.e) (eP s.e) ++ [.arr .u8 (rawO s n).1]) := fun m k hz hk he hl => by
    have hO : rawO s n = ((s.l.drop s.p).take n.toNat, { s with p := s.p + n.toNat }) := by
      unfold rawO St.rest
      rw [he]
      simp only
      rw [if_neg (by omega)]
    have t2 : ((s.p : Int) + m).toNat = s.p + k := by omega
    obtain ⟨cr, cl⟩ := cut_row h2 (show s.p ≤ s.p + k by omega) (show s.p + k ≤ x.len by omega)
    have hO' : (s.l.drop s.p).take (s.p + k - s.p) = (rawO s n).1 := by rw [hO, show s.p + k - s.p = n.toNat by omega]
    rw [hO'] at cr
    refine ⟨⟨by rw [t2]; exact cr, by rw [hO]; simp; omega⟩, (), [], [0, 1, 2], trivial, ?_⟩
    have hp : (ct_xraw s n x φ).post () = refH φ x ((s.p : Int) + m) (eN s.e) (eP s.e) ++ [.arr .u8 (rawO s n).1] := by
      show refS φ x (rawO s n).2 ++ [.arr .u8 (rawO s n).1] = _
      rw [hz, hk, hO]
      rfl
    rw [hp]
    (repeat' first | exact trivial | exact rfl | apply And.intro)
  refine ite2_decide (fun he => ?_) (fun he => none_ s ?_)
  · have he := (eN_none hs).1 he
    have short : (s.l.length : Int) - s.p < max n 0 → rawO s n = ([], s.bad s.l.length 10) := fun h => by
      unfold rawO
      rw [he]
      simp only
      rw [if_pos h]
    refine ite2_decide (fun hn0 => ⟨by unfold i64ok; omega, ite2_decide (fun h => absurd h (by omega)) (fun _ => ?_)⟩) (fun hn0 => ⟨by unfold i64ok; omega, ite2_decide (fun h => ?_) (fun h => ?_)⟩)
    · obtain ⟨⟨q1, q2⟩, q3⟩ := some_ 0 0 (by omega) (by omega) he (by omega)
      rw [t1]
      exact ⟨trivial, by unfold i64ok; omega, ⟨by omega, by omega, by omega⟩, trivial, (rawO s n).1, q1, by omega, trivial, trivial, by unfold i64ok; omega, q3⟩
    · have hO := short (by omega)
      rw [← hlen]
      exact ⟨trivial, trivial, into_mk (by kernel_rfl) (by (repeat' first | exact trivial | exact rfl | apply And.intro)) (by (repeat' first | exact trivial | exact rfl | apply And.intro)), fun _ _ => none_ _ hO⟩
    · obtain ⟨⟨q1, q2⟩, q3⟩ := some_ n n.toNat (by omega) rfl he (by omega)
      rw [t1]
      exact ⟨trivial, by unfold i64ok; omega, ⟨by omega, by omega, by omega⟩, trivial, (rawO s n).1, q1, by omega, trivial, trivial, by unfold i64ok; omega, q3⟩
  · unfold rawO
    cases hq : s.e with
    | none => exact absurd ((eN_none hs).2 hq) he
    | some q => rfl
theorem xacc {n c : Int} {i : Nat} (n0 : 0 ≤ n) (n1 : n < 128 ^ i) (c0 : 0 ≤ c) (c1 : c < 256) (hi : i ≤ 9) (h9 : i = 9 → c = 1) :
    bitw .or .u64 n (IntKind.wrap .u64 (IntKind.wrap .u64 (Int.tmod c 128) * 2 ^ min (IntKind.wrap .u64 (7 * (i : Int))).toNat 64)) = n + c % 128 * 128 ^ i := by
  have h := acc_add n0 n1 c0 c1 hi h9
  rw [and_low c0 c1] at h
  have e1 : IntKind.wrap .u64 (7 * (i : Int)) = 7 * (i : Int) := by rw [wr64]; omega
  rw [e1, Int.tmod_eq_emod_of_nonneg c0]
  exact h
theorem xnum_ok (s : St) (x : RS) (φ : Bag KK) : CtOk Tryz.prog 90 (ct_xnum s x φ) := CtOk_of KK_ok (tabX xfail_ok s) (ann_xnum s x φ) (fn := Tryz.f90) rfl (fun _ _ => rfl) fun hn => by
  rw [vc_xnum]
  obtain ⟨⟨h1, h2, h3, h4⟩, hs, he⟩ := hn
  have hle := hs.le
  have hfew := hs.few
  have h2 : x.row φ Kd.u8 = some s.l := h2
  have hlen : s.l.length = x.len := RS.row_len h2
  refine ⟨⟨((0 : Nat), (0 : Int)), [], [0, 1], ⟨Nat.zero_le _, by simpa using hle, ⟨Int.le_refl _, by decide⟩, by simp⟩, trivial, into_mk (by kernel_rfl) (by (repeat' first | exact trivial | exact rfl | apply And.intro)) (by (repeat' first | exact trivial | exact rfl | apply And.intro))⟩, ?_⟩
  rintro ⟨i, n⟩ ⟨hi, hpi, ⟨n0, n1⟩, hq⟩
  dsimp only at hi hpi n0 n1 hq ⊢
  have bad : ∀ (a e : Int), numV s = (0, 0, false) → numS s = s.bad a e → EndsAs 2 (ct_xnum s x φ) (.tup [.c (.int .u64 0), .c (.int .i64 0), .c (.bool false)]) (refH φ x s.p e a) := fun a e hV hS => by
    refine ⟨(), [], [0, 1], trivial, ?_⟩
    have hp : (ct_xnum s x φ).post () = refH φ x s.p e a := by
      show refS φ x (numS s) = _
      rw [hS]; rfl
    have hr : (ct_xnum s x φ).ret () = .tup [.c (.int .u64 0), .c (.int .i64 0), .c (.bool false)] := by
      show VV.tup [.c (.int .u64 (numV s).1), .c (.int .i64 (numV s).2.1), .c (.bool (numV s).2.2)] = _
      rw [hV]
    rw [hp, hr]
    (repeat' first | exact trivial | exact rfl | apply And.intro)
  have b4 : i64ok ((s.p : Int) + (i : Int)) := by unfold i64ok; omega
  refine ⟨b4, ite2_decide (fun hin => ?_) (fun hin => ?_)⟩
  · have hil : s.p + i < s.l.length := by omega
    have hd : s.l.drop (s.p + i) = rd s.l (s.p + i) 0 :: s.l.drop (s.p + i + 1) := drop_rd hil 0
    have hx := h4 _ (List.getElem_mem hil)
    rw [← rd_at hil 0] at hx
    rw [hd] at hq
    generalize hR : numR (s.l.drop s.p) 0 0 = R at hq
    unfold numR at hq
    have t1 : ((s.p : Int) + (i : Int)).toNat = s.p + i := by omega
    obtain ⟨cap, us, u1, u2, u3⟩ := rdK h2 (i := s.p + i) (by omega)
    rw [t1]
    refine ⟨trivial, b4, ⟨by omega, hin⟩, cap, us, u1, u2, trivial, trivial, ?_⟩
    rw [u3]
    generalize rd s.l (s.p + i) 0 = c at *
    obtain ⟨c0, c1⟩ := hx
    have b1 : i64ok (7 * (i : Int)) := by unfold i64ok; omega
    have b2 : (0 : Int) ≤ IntKind.wrap .u64 (7 * (i : Int)) := by rw [wr64]; omega
    have b3 : i64ok ((i : Int) + 1) := by unfold i64ok; omega
    have bz : (128 : Int) ≠ 0 := by decide
    have form : ((c = 0 ∧ 0 < i) ∨ (c ≠ 1 ∧ i = 9)) → EndsAs 2 (ct_xnum s x φ) (.tup [.c (.int .u64 0), .c (.int .i64 0), .c (.bool false)]) (refH φ x s.p 11 ((s.p : Int) + (i : Int))) := fun h => by
      rw [if_pos h] at hq
      have hR : numR s.rest 0 0 = .form i := hR.trans hq.symm
      exact bad _ _ (by unfold numV; rw [hR]) (by unfold numS; rw [hR])
    have acc : ¬ ((c = 0 ∧ 0 < i) ∨ (c ≠ 1 ∧ i = 9)) → bitw .or .u64 n (IntKind.wrap .u64 (IntKind.wrap .u64 (Int.tmod c 128) * 2 ^ min (IntKind.wrap .u64 (7 * (i : Int))).toNat 64)) = n + c % 128 * 128 ^ i := fun h => xacc n0 n1 c0 c1 hi (fun e => by
      by_cases e1 : c = 1
      · exact e1
      · exact absurd (.inr ⟨e1, e⟩) h)
    have stop : ¬ ((c = 0 ∧ 0 < i) ∨ (c ≠ 1 ∧ i = 9)) → c < 128 → EndsAs 2 (ct_xnum s x φ) (.tup [.c (.int .u64 (n + c % 128 * 128 ^ i)), .c (.int .i64 ((i : Int) + 1)), .c (.bool true)]) (refS φ x s) := fun h hlt => by
      rw [if_neg h, if_pos hlt] at hq
      have hR : numR s.rest 0 0 = .ok (n + c % 128 * 128 ^ i) (i + 1) := hR.trans hq.symm
      have hV : numV s = (n + c % 128 * 128 ^ i, (i : Int) + 1, true) := by unfold numV; rw [hR]; rfl
      have hS : numS s = s := by unfold numS; rw [hR]
      refine ⟨(), [], [0, 1], trivial, ?_⟩
      have hp : (ct_xnum s x φ).post () = refS φ x s := by
        show refS φ x (numS s) = _
        rw [hS]
      have hr : (ct_xnum s x φ).ret () = .tup [.c (.int .u64 (n + c % 128 * 128 ^ i)), .c (.int .i64 ((i : Int) + 1)), .c (.bool true)] := by
        show VV.tup [.c (.int .u64 (numV s).1), .c (.int .i64 (numV s).2.1), .c (.bool (numV s).2.2)] = _
        rw [hV]
      rw [hp, hr]
      (repeat' first | exact trivial | exact rfl | apply And.intro)
    have goes : ¬ ((c = 0 ∧ 0 < i) ∨ (c ≠ 1 ∧ i = 9)) → ¬ c < 128 → ∀ fr, EqVs 2 (fun n => ([0, 1] : List Nat).getD n 0) fr ((inv_xnum s x φ).fr ((i + 1 : Nat), n + c % 128 * 128 ^ i)) → Enter 2 (inv_xnum s x φ) (fun (z' : Nat × Int) => 10 - z'.1 < 10 - i) fr (refS φ x s) := fun h hge fr hfr => by
      rw [if_neg h, if_neg hge] at hq
      have h9 : i ≠ 9 := fun e => by
        by_cases e1 : c = 1
        · omega
        · exact h (.inr ⟨e1, e⟩)
      have hm0 : 0 ≤ c % 128 := Int.emod_nonneg _ (by decide)
      have hm1 : c % 128 < 128 := Int.emod_lt_of_pos _ (by decide)
      have hpw : (0 : Int) < 128 ^ i := Int.pow_pos (by decide)
      have hprod : 0 ≤ c % 128 * 128 ^ i := Int.mul_nonneg hm0 (Int.le_of_lt hpw)
      have hstep : n + c % 128 * 128 ^ i < 128 ^ (i + 1) := by
        have h2 : c % 128 * 128 ^ i ≤ 127 * 128 ^ i := Int.mul_le_mul_of_nonneg_right (by omega) (Int.le_of_lt hpw)
        rw [Int.pow_succ]
        omega
      refine ⟨((i + 1 : Nat), n + c % 128 * 128 ^ i), [], [0, 1], ⟨by show i + 1 ≤ 9; omega, by show s.p + (i + 1) ≤ s.l.length; omega, ⟨by show 0 ≤ n + c % 128 * 128 ^ i; omega, hstep⟩, hq.trans hR.symm⟩, by show 10 - (i + 1) < 10 - i; omega, into_mk ?_ hfr ?_⟩
      · kernel_rfl
      · (repeat' first | exact trivial | exact rfl | apply And.intro)
    refine ite2_decide (fun hi0 => ite2_decide (fun h0 => ?_) (fun h0 => ite2_decide (fun h9 => ite2_decide (fun h1 => ?_) (fun h1 => ?_)) (fun h9 => ?_))) (fun hi0 => ite2_decide (fun h9 => ite2_decide (fun h1 => ?_) (fun h1 => ?_)) (fun h9 => ?_))
    · exact ⟨b4, trivial, into_mk (by kernel_rfl) (by (repeat' first | exact trivial | exact rfl | apply And.intro)) (by (repeat' first | exact trivial | exact rfl | apply And.intro)), fun _ _ => form (by omega)⟩
    · have hno : ¬ ((c = 0 ∧ 0 < i) ∨ (c ≠ 1 ∧ i = 9)) := by omega
      rw [acc hno]
      exact ⟨bz, b1, b2, ite2_decide (fun hlt => ⟨b3, stop hno hlt⟩) (fun hge => ⟨b3, goes hno hge _ (by (repeat' first | exact trivial | exact rfl | apply And.intro))⟩)⟩
    · exact ⟨b4, trivial, into_mk (by kernel_rfl) (by (repeat' first | exact trivial | exact rfl | apply And.intro)) (by (repeat' first | exact trivial | exact rfl | apply And.intro)), fun _ _ => form (by omega)⟩
    · have hno : ¬ ((c = 0 ∧ 0 < i) ∨ (c ≠ 1 ∧ i = 9)) := by omega
      rw [acc hno]
      exact ⟨bz, b1, b2, ite2_decide (fun hlt => ⟨b3, stop hno hlt⟩) (fun hge => ⟨b3, goes hno hge _ (by (repeat' first | exact trivial | exact rfl | apply And.intro))⟩)⟩
    · have hno : ¬ ((c = 0 ∧ 0 < i) ∨ (c ≠ 1 ∧ i = 9)) := by omega
      rw [acc hno]
      exact ⟨bz, b1, b2, ite2_decide (fun hlt => ⟨b3, stop hno hlt⟩) (fun hge => ⟨b3, goes hno hge _ (by (repeat' first | exact trivial | exact rfl | apply And.intro))⟩)⟩
    · exact ⟨b4, trivial, into_mk (by kernel_rfl) (by (repeat' first | exact trivial | exact rfl | apply And.intro)) (by (repeat' first | exact trivial | exact rfl | apply And.intro)), fun _ _ => form (by omega)⟩
    · have hno : ¬ ((c = 0 ∧ 0 < i) ∨ (c ≠ 1 ∧ i = 9)) := by omega
      rw [acc hno]
      exact ⟨bz, b1, b2, ite2_decide (fun hlt => ⟨b3, stop hno hlt⟩) (fun hge => ⟨b3, goes hno hge _ (by (repeat' first | exact trivial | exact rfl | apply And.intro))⟩)⟩
  · have : s.l.drop (s.p + i) = [] := List.drop_of_length_le (by omega)
    rw [this] at hq
    have hR : numR s.rest 0 0 = .short := hq.symm
    rw [← hlen]
    exact ⟨trivial, trivial, into_mk (by kernel_rfl) (by (repeat' first | exact trivial | exact rfl | apply And.intro)) (by (repeat' first | exact trivial | exact rfl | apply And.intro)), fun _ _ => bad _ _ (by unfold numV; rw [hR]) (by unfold numS; rw [hR])⟩
end Go.Proofs.YtndlpbheifalhaaGreatDoor.T
end
section
namespace Go.Proofs.YtndlpbheifalhaaGreatDoor.T
open Go.Proofs.YtndlpbheifalhaaGreatDoor.E Go.Proofs.YtndlpbheifalhaaGreatDoor.V
set_option maxRecDepth 100000
set_option linter.unusedVariables false
set_option linter.unusedSimpArgs false
def ct_xbyte (s : St) (x : RS) (φ : Bag KK) : Ct KK := ct_xop [] (.c (.int .u8 (byteO s).1)) s (byteO s).2 x φ
def ct_xuint (s : St) (m : Int) (x : RS) (φ : Bag KK) : Ct KK := ct_xop [u64v m] (u64v (uintO s m).1) s (uintO s m).2 x φ
def ct_xtext (s : St) (m : Int) (x : RS) (φ : Bag KK) : Ct KK := ct_xop [i64 m] (strv (textO s m).1) s (textO s m).2 x φ
def pickXj (s : St) (f : FuncId) (args : List VV) (H : VH KK) : Option (Ct KK × List Kd × List Nat) := match f, args, H with
  | 91, [.one (.c (.ptr 1 0 0)), .one (.c (.int _ a)), .one (.c (.int _ e))], .bag φ :: .cells _ [.rs _ _ x, .int _ p, .int _ e0, .int _ q0] :: _ => some (ct_xfail x p a e e0 q0 φ, [], [0, 1])
  | 63, [.one (.c (.ptr 1 0 0)), .one (.c (.int _ n))], .bag φ :: .cells _ [.rs _ _ x, .int _ _, .int _ _, .int _ _] :: _ => some (ct_xraw s n x φ, [], [0, 1])
  | 90, [.one (.c (.ptr 1 0 0))], .bag φ :: .cells _ [.rs _ _ x, .int _ _, .int _ _, .int _ _] :: _ => some (ct_xnum s x φ, [], [0, 1])
  | _, _, _ => none
def tabXj (s : St) : Tab Tryz.prog KK := ⟨mixed, pickXj s, fun f args H ct ks τ h => by
    unfold pickXj at h
    split at h
    · cases h; exact xfail_ok _ _ _ _ _ _ _
    · cases h; exact xraw_ok _ _ _ _
    · cases h; exact xnum_ok _ _ _
    · cases h⟩
/-- A reader's block in a bag. -/
def readI (x : RS) (p : Int) (e : C) : BI KK := .box 75 (readC x p e)
def refI (x : RS) (p e q : Int) : BI KK := .box 77 (refC x p e q)
/-- What a Read makes: its bytes' place, its own. -/
structure New (φ : Bag KK) (xs : List Int) (y : RS × Nat) (ψ1 : Bag KK) : Prop where
  frz : Frz φ Kd.u8 xs y.1 ψ1
  free : ψ1 y.2 = none
def ct_read (o n : Nat) (xs : List Int) (φ : Bag KK) : Ct KK := { need := o + n = xs.length ∧ xs.length ≤ 1000000, pre := [.bag φ, .ro .u8 xs], args := [.c (.slc 1 o n none)], Y := RS × Nat × Bag KK, ok := fun y => New φ (xs.drop o) (y.1, y.2.1) y.2.2, ret := fun y => .c (.rp 75 0 y.2.1 0 0), post := fun y => [.bag (bput y.2.2 y.2.1 (readI y.1 0 .nilp)), .gone] }
def ct_xread (o n : Nat) (xs : List Int) (φ : Bag KK) : Ct KK := { need := o + n = xs.length ∧ xs.length ≤ 1000000, pre := [.bag φ, .ro .u8 xs], args := [.c (.slc 1 o n none)], Y := RS × Nat × Bag KK, ok := fun y => New φ (xs.drop o) (y.1, y.2.1) y.2.2, ret := fun y => .c (.rp 77 0 y.2.1 0 0), post := fun y => [.bag (bput y.2.2 y.2.1 (refI y.1 0 0 0)), .gone] }
def annR : Ann KK := { loop := fun _ _ _ => none, cut := fun _ _ _ => none, frzOp := fun | 1 => (fun | 2 => [(4, 5)] | 5 => [(2, 75)] | _ => []) | _ => fun _ => [] }
def annXR : Ann KK := { loop := fun _ _ _ => none, cut := fun _ _ _ => none, frzOp := fun | 2 => (fun | 3 => [(6, 5)] | 6 => [(2, 77)] | _ => []) | _ => fun _ => [] }
theorem vc_xbyte (s : St) (x : RS) (φ : Bag KK) : evFn (tabXj s) ann0 Tryz.f57 (ct_xbyte s x φ) = ( (Bytes φ x s.l ∧ s.Ok ∧ i64ok (1 : Int)) ∧ Into (K := KK) 0 [] [0, 1] [VV.one (V1.c (C.ptr 1 0 0)), i64 (1 : Int)] [Atom.bag φ, Atom.cells 77 [C.rs 5 1 x, C.int .i64 (↑s.p : Int), C.int .i64 (eN s.e),
 C.int .i64 (eP s.e)]] [VV.one (V1.c (C.ptr 1 0 0)), i64 (1 : Int)] [Atom.bag φ, Atom.cells 77 [C.rs 5 1 x, C.int .i64 (↑s.p : Int), C.int .i64 (eN s.e), C.int .i64 (eP s.e)]] ∧ ∀ (y : Unit), True → ite2
 (decide ((↑(rawO s (1 : Int)).fst.length : Int) = (0 : Int))) (EndsAs 2 (ct_xbyte s x φ) (VV.one (V1.c (C.int .u8 (0 : Int)))) [Atom.bag φ, Atom.cells 77 [C.rs 5 1 x, C.int .i64 (↑(rawO s (1 : Int)).snd.p
 : Int), C.int .i64 (eN (rawO s (1 : Int)).snd.e), C.int .i64 (eP (rawO s (1 : Int)).snd.e)], Atom.arr Kd.u8 (rawO s (1 : Int)).fst]) (((0 : Int) ≤ (0 : Int) ∧ (0 : Int) < (↑(rawO s (1 : Int)).fst.length
 : Int)) ∧ 0 < (rawO s (1 : Int)).fst.length ∧ True ∧ 0 < (rawO s (1 : Int)).fst.length ∧ EndsAs 2 (ct_xbyte s x φ) (VV.one (V1.c (C.int .u8 (rd (rawO s (1 : Int)).fst 0 (0 : Int))))) [Atom.bag φ, Atom.cells
 77 [C.rs 5 1 x, C.int .i64 (↑(rawO s (1 : Int)).snd.p : Int), C.int .i64 (eN (rawO s (1 : Int)).snd.e), C.int .i64 (eP (rawO s (1 : Int)).snd.e)], Atom.arr Kd.u8 (rawO s (1 : Int)).fst])) := by kernel_rfl
theorem vc_xuint (s : St) (m : Int) (x : RS) (φ : Bag KK) : evFn (tabXj s) ann0 Tryz.f59 (ct_xuint s m x φ) = ( ite2 (decide (eN s.e = (0 : Int))) ((Bytes φ x s.l ∧ s.Ok ∧ s.e = none) ∧ Into (K := KK) 0 [] [0, 1] [VV.one (V1.c (C.ptr 1 0 0))] [Atom.bag φ, Atom.cells 77 [C.rs 5 1 x, C.int .i64 (↑s.p : Int), C.int
 .i64 (eN s.e), C.int .i64 (eP s.e)]] [VV.one (V1.c (C.ptr 1 0 0))] [Atom.bag φ, Atom.cells 77 [C.rs 5 1 x, C.int .i64 (↑s.p : Int), C.int .i64 (eN s.e), C.int .i64 (eP s.e)]] ∧ ∀ (y : Unit), True → ite2
 (numV s).snd.snd (ite2 (decide (m < (numV s).fst)) (True ∧ Into (K := KK) 0 [] [0, 1] [VV.one (V1.c (C.ptr 1 0 0)), i64 (↑(numS s).p : Int), i64 (12 : Int)] [Atom.bag φ, Atom.cells 77 [C.rs 5 1 x, C.int
 .i64 (↑(numS s).p : Int), C.int .i64 (eN (numS s).e), C.int .i64 (eP (numS s).e)]] [VV.one (V1.c (C.ptr 1 0 0)), i64 (↑(numS s).p : Int), i64 (12 : Int)] [Atom.bag φ, Atom.cells 77 [C.rs 5 1 x, C.int .i64
 (↑(numS s).p : Int), C.int .i64 (eN (numS s).e), C.int .i64 (eP (numS s).e)]] ∧ ∀ (y : Unit), True → EndsAs 2 (ct_xuint s m x φ) (VV.one (V1.c (C.int .u64 (0 : Int)))) [Atom.bag φ, Atom.cells 77 [C.rs
 5 1 x, C.int .i64 (↑(numS s).p : Int), C.int .i64 (12 : Int), C.int .i64 (↑(numS s).p : Int)]]) (i64ok ((↑(numS s).p : Int) + (numV s).snd.fst) ∧ EndsAs 2 (ct_xuint s m x φ) (VV.one (V1.c (C.int .u64 (numV
 s).fst))) [Atom.bag φ, Atom.cells 77 [C.rs 5 1 x, C.int .i64 ((↑(numS s).p : Int) + (numV s).snd.fst), C.int .i64 (eN (numS s).e), C.int .i64 (eP (numS s).e)]])) (EndsAs 2 (ct_xuint s m x φ) (VV.one (V1.c
 (C.int .u64 (0 : Int)))) [Atom.bag φ, Atom.cells 77 [C.rs 5 1 x, C.int .i64 (↑(numS s).p : Int), C.int .i64 (eN (numS s).e), C.int .i64 (eP (numS s).e)]])) (EndsAs 2 (ct_xuint s m x φ) (VV.one (V1.c (C.int
 .u64 (0 : Int)))) [Atom.bag φ, Atom.cells 77 [C.rs 5 1 x, C.int .i64 (↑s.p : Int), C.int .i64 (eN s.e), C.int .i64 (eP s.e)]])) := by kernel_rfl
theorem vc_xtext (s : St) (m : Int) (x : RS) (φ : Bag KK) : evFn (tabXj s) ann0 Tryz.f61 (ct_xtext s m x φ) = ( ite2 (decide (eN s.e = (0 : Int))) ((Bytes φ x s.l ∧ s.Ok ∧ s.e = none) ∧ Into (K := KK) 0 [] [0, 1] [VV.one (V1.c (C.ptr 1 0 0))] [Atom.bag φ, Atom.cells 77 [C.rs 5 1 x, C.int .i64 (↑s.p : Int), C.int
 .i64 (eN s.e), C.int .i64 (eP s.e)]] [VV.one (V1.c (C.ptr 1 0 0))] [Atom.bag φ, Atom.cells 77 [C.rs 5 1 x, C.int .i64 (↑s.p : Int), C.int .i64 (eN s.e), C.int .i64 (eP s.e)]] ∧ ∀ (y : Unit), True → ite2
 (numV s).snd.snd (ite2 (decide (m < (0 : Int))) (True ∧ Into (K := KK) 0 [] [0, 1] [VV.one (V1.c (C.ptr 1 0 0)), i64 (↑(numS s).p : Int), i64 (12 : Int)] [Atom.bag φ, Atom.cells 77 [C.rs 5 1 x, C.int .i64
 (↑(numS s).p : Int), C.int .i64 (eN (numS s).e), C.int .i64 (eP (numS s).e)]] [VV.one (V1.c (C.ptr 1 0 0)), i64 (↑(numS s).p : Int), i64 (12 : Int)] [Atom.bag φ, Atom.cells 77 [C.rs 5 1 x, C.int .i64 (↑(numS
 s).p : Int), C.int .i64 (eN (numS s).e), C.int .i64 (eP (numS s).e)]] ∧ ∀ (y : Unit), True → EndsAs 2 (ct_xtext s m x φ) (VV.one (V1.c (C.str (ByteArray.mk (#[]))))) [Atom.bag φ, Atom.cells 77 [C.rs 5
 1 x, C.int .i64 (↑(numS s).p : Int), C.int .i64 (12 : Int), C.int .i64 (↑(numS s).p : Int)]]) (ite2 (decide (IntKind.wrap .u64 m < (numV s).fst)) (True ∧ Into (K := KK) 0 [] [0, 1] [VV.one (V1.c (C.ptr
 1 0 0)), i64 (↑(numS s).p : Int), i64 (12 : Int)] [Atom.bag φ, Atom.cells 77 [C.rs 5 1 x, C.int .i64 (↑(numS s).p : Int), C.int .i64 (eN (numS s).e), C.int .i64 (eP (numS s).e)]] [VV.one (V1.c (C.ptr 1
 0 0)), i64 (↑(numS s).p : Int), i64 (12 : Int)] [Atom.bag φ, Atom.cells 77 [C.rs 5 1 x, C.int .i64 (↑(numS s).p : Int), C.int .i64 (eN (numS s).e), C.int .i64 (eP (numS s).e)]] ∧ ∀ (y : Unit), True → EndsAs
 2 (ct_xtext s m x φ) (VV.one (V1.c (C.str (ByteArray.mk (#[]))))) [Atom.bag φ, Atom.cells 77 [C.rs 5 1 x, C.int .i64 (↑(numS s).p : Int), C.int .i64 (12 : Int), C.int .i64 (↑(numS s).p : Int)]]) (i64ok
 ((↑x.len : Int) - (↑(numS s).p : Int)) ∧ i64ok ((↑x.len : Int) - (↑(numS s).p : Int) - (numV s).snd.fst) ∧ ite2 (decide (IntKind.wrap .u64 ((↑x.len : Int) - (↑(numS s).p : Int) - (numV s).snd.fst) < (numV
 s).fst)) (True ∧ True ∧ Into (K := KK) 0 [] [0, 1] [VV.one (V1.c (C.ptr 1 0 0)), i64 (↑x.len : Int), i64 (10 : Int)] [Atom.bag φ, Atom.cells 77 [C.rs 5 1 x, C.int .i64 (↑(numS s).p : Int), C.int .i64 (eN
 (numS s).e), C.int .i64 (eP (numS s).e)]] [VV.one (V1.c (C.ptr 1 0 0)), i64 (↑x.len : Int), i64 (10 : Int)] [Atom.bag φ, Atom.cells 77 [C.rs 5 1 x, C.int .i64 (↑(numS s).p : Int), C.int .i64 (eN (numS
 s).e), C.int .i64 (eP (numS s).e)]] ∧ ∀ (y : Unit), True → EndsAs 2 (ct_xtext s m x φ) (VV.one (V1.c (C.str (ByteArray.mk (#[]))))) [Atom.bag φ, Atom.cells 77 [C.rs 5 1 x, C.int .i64 (↑(numS s).p : Int),
 C.int .i64 (10 : Int), C.int .i64 (↑x.len : Int)]]) (True ∧ i64ok ((↑(numS s).p : Int) + (numV s).snd.fst) ∧ i64ok (numV s).fst ∧ i64ok ((↑(numS s).p : Int) + (numV s).snd.fst + (numV s).fst) ∧ ((0 : Int)
 ≤ (↑(numS s).p : Int) + (numV s).snd.fst ∧ (↑(numS s).p : Int) + (numV s).snd.fst ≤ (↑(numS s).p : Int) + (numV s).snd.fst + (numV s).fst ∧ (↑(numS s).p : Int) + (numV s).snd.fst + (numV s).fst ≤ (↑x.cap
 : Int)) ∧ ∃ (ys : List (Int)), RS.row φ Kd.u8 (RS.cut ((↑(numS s).p : Int) + (numV s).snd.fst).toNat ((↑(numS s).p : Int) + (numV s).snd.fst + (numV s).fst).toNat x.cap x) = some ys ∧ (flat (K := KK) Kd.u8
 ys).all isByte = true ∧ True ∧ True ∧ EndsAs 2 (ct_xtext s m x φ) (VV.one (V1.c (C.str (bytesOf (flat (K := KK) Kd.u8 ys))))) [Atom.bag φ, Atom.cells 77 [C.rs 5 1 x, C.int .i64 ((↑(numS s).p : Int) + (numV
 s).snd.fst + (numV s).fst), C.int .i64 (eN (numS s).e), C.int .i64 (eP (numS s).e)]])))) (EndsAs 2 (ct_xtext s m x φ) (VV.one (V1.c (C.str (ByteArray.mk (#[]))))) [Atom.bag φ, Atom.cells 77 [C.rs 5 1 x,
 C.int .i64 (↑(numS s).p : Int), C.int .i64 (eN (numS s).e), C.int .i64 (eP (numS s).e)]])) (EndsAs 2 (ct_xtext s m x φ) (VV.one (V1.c (C.str (ByteArray.mk (#[]))))) [Atom.bag φ, Atom.cells 77 [C.rs 5 1
 x, C.int .i64 (↑s.p : Int), C.int .i64 (eN s.e), C.int .i64 (eP s.e)]])) := by kernel_rfl
theorem vc_xread (o n : Nat) (xs : List Int) (φ : Bag KK) : evFn tab0 annXR Tryz.f17 (ct_xread o n xs φ) = ( (o + n ≤ xs.length ∧ True) ∧ (List.take n (List.drop o xs)).length * 1 ≤ 140737488355328 ∧ (List.take n (List.drop o xs)).length = (List.take n (List.drop o xs)).length ∧ (List.take n (List.drop o xs)
 = [] → ∀ (b : Nat), φ b = none → EndsAs 2 (ct_xread o n xs φ) (VV.one (V1.c (C.rp 77 0 b 0 0))) [Atom.bag (bput φ b (BI.box 77 [C.rs 5 1 RS.nil, C.int .i64 (0 : Int), C.int .i64 (0 : Int), C.int .i64 (0
 : Int)])), Atom.ro Kd.u8 xs, Atom.gone, Atom.gone]) ∧ ∀ (b c : Nat), φ b = none → (List.take n (List.drop o xs)).length ≤ c → ∀ (b_1 : Nat), bput φ b (BI.row Kd.u8 c (List.take n (List.drop o xs))) b_1
 = none → EndsAs 2 (ct_xread o n xs φ) (VV.one (V1.c (C.rp 77 0 b_1 0 0))) [Atom.bag (bput (bput φ b (BI.row Kd.u8 c (List.take n (List.drop o xs)))) b_1 (BI.box 77 [C.rs 5 1 (RS.mk b 0 (List.take n (List.drop
 o xs)).length c), C.int .i64 (0 : Int), C.int .i64 (0 : Int), C.int .i64 (0 : Int)])), Atom.ro Kd.u8 xs, Atom.gone, Atom.gone]) := by kernel_rfl
theorem vc_read (o n : Nat) (xs : List Int) (φ : Bag KK) : evFn tab0 annR Tryz.f16 (ct_read o n xs φ) = ( (o + n ≤ xs.length ∧ True) ∧ (List.take n (List.drop o xs)).length * 1 ≤ 140737488355328 ∧ (List.take n (List.drop o xs)).length = (List.take n (List.drop o xs)).length ∧ (List.take n (List.drop o xs)
 = [] → ∀ (b : Nat), φ b = none → EndsAs 2 (ct_read o n xs φ) (VV.one (V1.c (C.rp 75 0 b 0 0))) [Atom.bag (bput φ b (BI.box 75 [C.rs 5 1 RS.nil, C.int .i64 (0 : Int), C.nilp])), Atom.ro Kd.u8 xs, Atom.gone,
 Atom.gone]) ∧ ∀ (b c : Nat), φ b = none → (List.take n (List.drop o xs)).length ≤ c → ∀ (b_1 : Nat), bput φ b (BI.row Kd.u8 c (List.take n (List.drop o xs))) b_1 = none → EndsAs 2 (ct_read o n xs φ) (VV.one
 (V1.c (C.rp 75 0 b_1 0 0))) [Atom.bag (bput (bput φ b (BI.row Kd.u8 c (List.take n (List.drop o xs)))) b_1 (BI.box 75 [C.rs 5 1 (RS.mk b 0 (List.take n (List.drop o xs)).length c), C.int .i64 (0 : Int),
 C.nilp])), Atom.ro Kd.u8 xs, Atom.gone, Atom.gone]) := by kernel_rfl
end Go.Proofs.YtndlpbheifalhaaGreatDoor.T
end
section
namespace Go.Proofs.YtndlpbheifalhaaGreatDoor.T
open Go.Proofs.YtndlpbheifalhaaGreatDoor.E Go.Proofs.YtndlpbheifalhaaGreatDoor.V
set_option maxRecDepth 100000
set_option linter.unusedVariables false
set_option linter.unusedSimpArgs false
theorem xop_int {args : List VV} {r r' : Int} {s s' s2 : St} {x : RS} {φ : Bag KK} (h1 : r' = r) (h2 : s2 = s') : EndsAs 2 (ct_xop args (.c (.int .u64 r)) s s' x φ) (.c (.int .u64 r')) (refS φ x s2) := by
  subst h1 h2
  refine ⟨(), [], [0, 1], trivial, ?_⟩
  have hp : (ct_xop args (.c (.int .u64 r')) s s2 x φ).post () = refS φ x s2 := rfl
  rw [hp]
  (repeat' first | exact trivial | exact rfl | apply And.intro)
theorem xop_str {args : List VV} {r r' : ByteArray} {s s' s2 : St} {x : RS} {φ : Bag KK} (h1 : r' = r) (h2 : s2 = s') : EndsAs 2 (ct_xop args (.c (.str r)) s s' x φ) (.c (.str r')) (refS φ x s2) := by
  subst h1 h2
  refine ⟨(), [], [0, 1], trivial, ?_⟩
  have hp : (ct_xop args (.c (.str r')) s s2 x φ).post () = refS φ x s2 := rfl
  rw [hp]
  (repeat' first | exact trivial | exact rfl | apply And.intro)
theorem xop_int8 {args : List VV} {r r' : Int} {s s' s2 : St} {x : RS} {φ : Bag KK} {l : List Int} (h1 : r' = r) (h2 : s2 = s') : EndsAs 2 (ct_xop args (.c (.int .u8 r)) s s' x φ) (.c (.int .u8 r')) (refS φ x s2 ++ [.arr .u8 l]) := by
  subst h1 h2
  refine ⟨(), [], [0, 1], trivial, ?_⟩
  have hp : (ct_xop args (.c (.int .u8 r')) s s2 x φ).post () = refS φ x s2 := rfl
  rw [hp]
  (repeat' first | exact trivial | exact rfl | apply And.intro)
theorem xbyte_ok (s : St) (x : RS) (φ : Bag KK) : CtOk Tryz.prog 57 (ct_xbyte s x φ) := CtOk_of KK_ok (tabXj s) ann0 (fn := Tryz.f57) rfl (fun _ _ => rfl) fun hn => by
  rw [vc_xbyte]
  obtain ⟨h1, h2⟩ := hn
  refine ⟨⟨h1, h2, by unfold i64ok; omega⟩, into_mk (by kernel_rfl) (by (repeat' first | exact trivial | exact rfl | apply And.intro)) (by (repeat' first | exact trivial | exact rfl | apply And.intro)), fun _ _ => ite2_decide (fun he => ?_) (fun he => ?_)⟩
  · have hq : (rawO s 1).1 = [] := by
      cases hr : (rawO s 1).1 with
      | nil => rfl
      | cons a t => rw [hr] at he; simp at he; omega
    exact xop_int8 (by unfold byteO; rw [hq]; rfl) rfl
  · have hq : 0 < (rawO s 1).1.length := by omega
    have hv : rd (rawO s 1).1 0 (0 : Int) = (byteO s).1 := by
      unfold byteO
      cases hr : (rawO s 1).1 with
      | nil => rw [hr] at hq; simp at hq
      | cons a t => rfl
    refine ⟨⟨by omega, by omega⟩, hq, trivial, hq, ?_⟩
    exact xop_int8 hv rfl
theorem xuint_ok (s : St) (m : Int) (x : RS) (φ : Bag KK) : CtOk Tryz.prog 59 (ct_xuint s m x φ) := CtOk_of KK_ok (tabXj s) ann0 (fn := Tryz.f59) rfl (fun _ _ => rfl) fun hn => by
  rw [vc_xuint]
  obtain ⟨h1, h2⟩ := hn
  have hle := h2.le
  have hfew := h2.few
  refine ite2_decide (fun he => ?_) (fun he => ?_)
  · have he := (eN_none h2).1 he
    refine ⟨⟨h1, h2, he⟩, into_mk (by kernel_rfl) (by (repeat' first | exact trivial | exact rfl | apply And.intro)) (by (repeat' first | exact trivial | exact rfl | apply And.intro)), fun _ _ => ?_⟩
    cases hr : numR s.rest 0 0 with
    | ok n k =>
      have hV : numV s = (n, (k : Int), true) := by unfold numV; rw [hr]
      have hS : numS s = s := by unfold numS; rw [hr]
      obtain ⟨_, _, _, k1⟩ := numR_ok _ _ _ h2.rest (by decide) (by decide) (by decide) hr
      rw [h2.rest_len] at k1
      rw [hV, hS]
      refine ite2_decide (fun hm => ?_) (fun hm => ?_)
      · have hm : m < n := hm
        have hO : uintO s m = (0, s.bad s.p 12) := by unfold uintO; rw [he]; simp only [hr]; rw [if_pos hm]
        exact ⟨trivial, into_mk (by kernel_rfl) (by (repeat' first | exact trivial | exact rfl | apply And.intro)) (by (repeat' first | exact trivial | exact rfl | apply And.intro)), fun _ _ => xop_int (s2 := s.bad s.p 12) (by rw [hO]) (by rw [hO])⟩
      · have hm : ¬ m < n := hm
        have hO : uintO s m = (n, { s with p := s.p + k }) := by unfold uintO; rw [he]; simp only [hr]; rw [if_neg hm]
        refine ⟨by unfold i64ok; dsimp only; omega, ?_⟩
        have hz : (s.p : Int) + (k : Int) = ((s.p + k : Nat) : Int) := by omega
        dsimp only
        rw [hz]
        exact xop_int (s2 := { s with p := s.p + k }) (by rw [hO]) (by rw [hO])
    | form i =>
      have hV : numV s = (0, 0, false) := by unfold numV; rw [hr]
      have hS : numS s = s.bad (s.p + i) 11 := by unfold numS; rw [hr]
      have hO : uintO s m = (0, s.bad (s.p + i) 11) := by unfold uintO; rw [he]; simp only [hr]
      rw [hV, hS]
      exact xop_int (by rw [hO]) (by rw [hO])
    | short =>
      have hV : numV s = (0, 0, false) := by unfold numV; rw [hr]
      have hS : numS s = s.bad s.l.length 10 := by unfold numS; rw [hr]
      have hO : uintO s m = (0, s.bad s.l.length 10) := by unfold uintO; rw [he]; simp only [hr]
      rw [hV, hS]
      exact xop_int (by rw [hO]) (by rw [hO])
  · have hO : uintO s m = (0, s) := by
      unfold uintO
      cases hq : s.e with
      | none => exact absurd ((eN_none h2).2 hq) he
      | some q => rfl
    exact xop_int (by rw [hO]) (by rw [hO])
theorem xtext_ok (s : St) (m : Int) (hm : i64ok m) (x : RS) (φ : Bag KK) : CtOk Tryz.prog 61 (ct_xtext s m x φ) := CtOk_of KK_ok (tabXj s) ann0 (fn := Tryz.f61) rfl (fun _ _ => rfl) fun hn => by
  rw [vc_xtext]
  obtain ⟨hby, hs⟩ := hn
  have hle := hs.le
  have hfew := hs.few
  have hby' := hby
  have hcap := hby.cap
  obtain ⟨h1, h2, h3, h4⟩ := hby'
  have h2 : x.row φ Kd.u8 = some s.l := h2
  have hlen : s.l.length = x.len := RS.row_len h2
  unfold i64ok at hm
  refine ite2_decide (fun he => ?_) (fun he => ?_)
  · have he := (eN_none hs).1 he
    refine ⟨⟨hby, hs, he⟩, into_mk (by kernel_rfl) (by (repeat' first | exact trivial | exact rfl | apply And.intro)) (by (repeat' first | exact trivial | exact rfl | apply And.intro)), fun _ _ => ?_⟩
    cases hr : numR s.rest 0 0 with
    | ok n k =>
      have hV : numV s = (n, (k : Int), true) := by unfold numV; rw [hr]
      have hS : numS s = s := by unfold numS; rw [hr]
      obtain ⟨⟨v0, v1⟩, _, _, k1⟩ := numR_ok _ _ _ hs.rest (by decide) (by decide) (by decide) hr
      rw [hs.rest_len] at k1
      rw [hV, hS]
      have u1 : 0 ≤ m → IntKind.wrap .u64 m = m := fun h => by rw [wr64]; omega
      have u2 : IntKind.wrap .u64 ((x.len : Int) - (s.p : Int) - (k : Int)) = (s.l.length : Int) - s.p - k := by rw [wr64]; omega
      have hO1 : (m < 0 ∨ m < n) → textO s m = (⟨#[]⟩, s.bad s.p 12) := fun h => by
        unfold textO
        rw [he]
        simp only [hr]
        rw [if_pos h]
      dsimp only
      refine ite2_decide (fun hm0 => ?_) (fun hm0 => ite2_decide (fun hm1 => ?_) (fun hm1 => ⟨by unfold i64ok; omega, by unfold i64ok; omega, ite2_decide (fun hm2 => ?_) (fun hm2 => ?_)⟩))
      · have hO := hO1 (.inl hm0)
        exact ⟨trivial, into_mk (by kernel_rfl) (by (repeat' first | exact trivial | exact rfl | apply And.intro)) (by (repeat' first | exact trivial | exact rfl | apply And.intro)), fun _ _ => xop_str (s2 := s.bad s.p 12) (by rw [hO]) (by rw [hO])⟩
      · rw [u1 (by omega)] at hm1
        have hO := hO1 (.inr hm1)
        exact ⟨trivial, into_mk (by kernel_rfl) (by (repeat' first | exact trivial | exact rfl | apply And.intro)) (by (repeat' first | exact trivial | exact rfl | apply And.intro)), fun _ _ => xop_str (s2 := s.bad s.p 12) (by rw [hO]) (by rw [hO])⟩
      · rw [u2] at hm2
        rw [u1 (by omega)] at hm1
        have hO : textO s m = (⟨#[]⟩, s.bad s.l.length 10) := by
          unfold textO
          rw [he]
          simp only [hr]
          rw [if_neg (by omega), if_pos hm2]
        rw [← hlen]
        exact ⟨trivial, trivial, into_mk (by kernel_rfl) (by (repeat' first | exact trivial | exact rfl | apply And.intro)) (by (repeat' first | exact trivial | exact rfl | apply And.intro)), fun _ _ => xop_str (s2 := s.bad s.l.length 10) (by rw [hO]) (by rw [hO])⟩
      · rw [u2] at hm2
        rw [u1 (by omega)] at hm1
        have hO : textO s m = (txI ((s.l.drop (s.p + k)).take n.toNat), { s with p := s.p + k + n.toNat }) := by
          unfold textO
          rw [he]
          simp only [hr]
          rw [if_neg (by omega), if_neg hm2]
        have t1 : ((s.p : Int) + (k : Int)).toNat = s.p + k := by omega
        have t2 : ((s.p : Int) + (k : Int) + n).toNat = s.p + k + n.toNat := by omega
        obtain ⟨cr, cl⟩ := cut_row h2 (show s.p + k ≤ s.p + k + n.toNat by omega) (show s.p + k + n.toNat ≤ x.len by omega)
        rw [t1, t2]
        obtain ⟨b1, b2⟩ := bytesOf_u8 ((s.l.drop (s.p + k)).take (s.p + k + n.toNat - (s.p + k)))
        refine ⟨trivial, by unfold i64ok; omega, by unfold i64ok; omega, by unfold i64ok; omega, ⟨by omega, by omega, by omega⟩, _, cr, b1, trivial, trivial, ?_⟩
        have hq : bytesOf (flat (K := KK) Kd.u8 ((s.l.drop (s.p + k)).take (s.p + k + n.toNat - (s.p + k)))) = (textO s m).1 := by
          rw [hO]
          refine Eq.trans b2 ?_
          show txI _ = txI _
          rw [show s.p + k + n.toNat - (s.p + k) = n.toNat by omega]
        have hz : (s.p : Int) + (k : Int) + n = ((s.p + k + n.toNat : Nat) : Int) := by omega
        rw [hz]
        exact xop_str (s2 := { s with p := s.p + k + n.toNat }) hq (by rw [hO])
    | form i =>
      have hV : numV s = (0, 0, false) := by unfold numV; rw [hr]
      have hS : numS s = s.bad (s.p + i) 11 := by unfold numS; rw [hr]
      have hO : textO s m = (⟨#[]⟩, s.bad (s.p + i) 11) := by unfold textO; rw [he]; simp only [hr]
      rw [hV, hS]
      exact xop_str (by rw [hO]) (by rw [hO])
    | short =>
      have hV : numV s = (0, 0, false) := by unfold numV; rw [hr]
      have hS : numS s = s.bad s.l.length 10 := by unfold numS; rw [hr]
      have hO : textO s m = (⟨#[]⟩, s.bad s.l.length 10) := by unfold textO; rw [he]; simp only [hr]
      rw [hV, hS]
      exact xop_str (by rw [hO]) (by rw [hO])
  · have hO : textO s m = (⟨#[]⟩, s) := by
      unfold textO
      cases hq : s.e with
      | none => exact absurd ((eN_none hs).2 hq) he
      | some q => rfl
    exact xop_str (by rw [hO]) (by rw [hO])
theorem new_mk {φ : Bag KK} {l l' : List Int} (h : l' = l) {b c b1 : Nat} (hb : φ b = none) (hc : l'.length ≤ c) (h1 : bput φ b (BI.row Kd.u8 c l') b1 = none) : New φ l (.mk b 0 l'.length c, b1) (bput φ b (BI.row Kd.u8 c l')) := by
  subst h
  exact ⟨.mk b c hb hc, h1⟩
theorem read_ok (o n : Nat) (xs : List Int) (φ : Bag KK) : CtOk Tryz.prog 16 (ct_read o n xs φ) := CtOk_of KK_ok tab0 annR (fn := Tryz.f16) rfl (fun _ _ => rfl) fun hn => by
  rw [vc_read]
  obtain ⟨h1, h2⟩ := hn
  have ht : (xs.drop o).take n = xs.drop o := List.take_of_length_le (by simp; omega)
  have hl : ((xs.drop o).take n).length * 1 ≤ 140737488355328 := by rw [ht]; simp; omega
  have key : ∀ (y : RS) (b : Nat) (ψ : Bag KK) (nm : b = b), New φ (xs.drop o) (y, b) ψ → EndsAs 2 (ct_read o n xs φ) (VV.one (V1.c (C.rp 75 0 b 0 0))) [Atom.bag (bput ψ b (BI.box 75 [C.rs 5 1 y, C.int .i64 (0 : Int), C.nilp])), Atom.ro Kd.u8 xs, Atom.gone, Atom.gone] := fun y b ψ _ hN => by
    refine ⟨(y, b, ψ), [], [0, 1], hN, ?_⟩
    (repeat' first | exact trivial | exact rfl | apply And.intro)
  refine ⟨⟨by omega, trivial⟩, hl, rfl, fun he b hb => ?_, fun b c hb hc b1 hb1 => ?_⟩
  · exact key .nil b φ rfl ⟨.nil_ (ht.symm.trans he), hb⟩
  · exact key _ b1 _ rfl (new_mk ht hb hc hb1)
theorem xread_ok (o n : Nat) (xs : List Int) (φ : Bag KK) : CtOk Tryz.prog 17 (ct_xread o n xs φ) := CtOk_of KK_ok tab0 annXR (fn := Tryz.f17) rfl (fun _ _ => rfl) fun hn => by
  rw [vc_xread]
  obtain ⟨h1, h2⟩ := hn
  have ht : (xs.drop o).take n = xs.drop o := List.take_of_length_le (by simp; omega)
  have hl : ((xs.drop o).take n).length * 1 ≤ 140737488355328 := by rw [ht]; simp; omega
  have key : ∀ (y : RS) (b : Nat) (ψ : Bag KK) (nm : b = b), New φ (xs.drop o) (y, b) ψ → EndsAs 2 (ct_xread o n xs φ) (VV.one (V1.c (C.rp 77 0 b 0 0))) [Atom.bag (bput ψ b (BI.box 77 [C.rs 5 1 y, C.int .i64 (0 : Int), C.int .i64 (0 : Int), C.int .i64 (0 : Int)])), Atom.ro Kd.u8 xs, Atom.gone, Atom.gone] := fun y b ψ _ hN => by
    refine ⟨(y, b, ψ), [], [0, 1], hN, ?_⟩
    (repeat' first | exact trivial | exact rfl | apply And.intro)
  refine ⟨⟨by omega, trivial⟩, hl, rfl, fun he b hb => ?_, fun b c hb hc b1 hb1 => ?_⟩
  · exact key .nil b φ rfl ⟨.nil_ (ht.symm.trans he), hb⟩
  · exact key _ b1 _ rfl (new_mk ht hb hc hb1)
end Go.Proofs.YtndlpbheifalhaaGreatDoor.T
end
section
namespace Go.Proofs.YtndlpbheifalhaaGreatDoor.T
open Go.Proofs.YtndlpbheifalhaaGreatDoor.E Go.Proofs.YtndlpbheifalhaaGreatDoor.V
set_option maxRecDepth 100000
set_option linter.unusedVariables false
set_option linter.unusedSimpArgs false
def ErrIs (φ : Bag KK) : Option (Int × Int) → C → Prop
  | none, e => e = .nilp
  | some q, e => ∃ f, e = faultP f ∧ φ f = some (faultI q.1 q.2)
/-- The program's reader, the document's. -/
def RdP (x : RS) (φ : Bag KK) (b : Nat) (s : St) : Prop := ∃ e, φ b = some (readI x s.p e) ∧ Bytes φ x s.l ∧ ErrIs φ s.e e
def RdR (x : RS) (φ : Bag KK) (b : Nat) (s : St) : Prop := φ b = some (refI x s.p (eN s.e) (eP s.e)) ∧ Bytes φ x s.l
/-- All but a block stays. -/
def Oth (b : Nat) (φ ψ : Bag KK) : Prop := ∀ c i, c ≠ b → φ c = some i → ψ c = some i
theorem Oth.trans {b : Nat} {φ ψ χ : Bag KK} (h : Oth b φ ψ) (h2 : Oth b ψ χ) : Oth b φ χ := fun c i hc hi => h2 c i hc (h c i hc hi)
theorem bytes_keep {φ ψ : Bag KK} {x : RS} {xs : List Int} (h : Bytes φ x xs) (hk : ∀ c cap ys, φ c = some (.row Kd.u8 cap ys) → ψ c = φ c) : Bytes ψ x xs := by
  obtain ⟨h1, h2, h3, h4⟩ := h
  have key : ∀ c, x.At c → ψ c = φ c := fun c ⟨hx, hc⟩ => by
    cases x with
    | nil => exact absurd rfl hx
    | mk b lo len cap =>
      have h2 : RS.row φ Kd.u8 (.mk b lo len cap) = some xs := h2
      obtain ⟨c', ys, hφ, _⟩ := RS.row_mk h2
      have hc : b = c := hc
      subst hc
      exact hk b c' ys hφ
  exact ⟨RS.full_keep h1 key, RS.row_keep h2 key, h3, h4⟩
theorem bytes_oth {φ ψ : Bag KK} {x : RS} {xs : List Int} (h : Bytes φ x xs) {b : Nat} {T : TypeId} {cs : List C} (hb : φ b = some (.box T cs)) (ho : Oth b φ ψ) : Bytes ψ x xs :=
  bytes_keep h fun c cap ys hc => by
    rw [hc]
    exact ho c _ (fun e => by rw [e, hb] at hc; cases hc) hc
theorem bytes_del {φ : Bag KK} {x : RS} {xs : List Int} (h : Bytes φ x xs) {b : Nat} {T : TypeId} {cs : List C} (hb : φ b = some (.box T cs)) : Bytes (bdel φ b) x xs :=
  bytes_oth h hb fun c i hc hi => by rw [bdel_other hc]; exact hi
theorem errIs_oth {φ ψ : Bag KK} {o : Option (Int × Int)} {e : C} (h : ErrIs φ o e) {b : Nat} {T : TypeId} {cs : List C} (hb : φ b = some (.box T cs)) (hT : T ≠ 149) (ho : Oth b φ ψ) : ErrIs ψ o e := by
  cases o with
  | none => exact h
  | some q =>
    obtain ⟨f, rfl, hf⟩ := h
    refine ⟨f, rfl, ho f _ (fun e => ?_) hf⟩
    subst e
    rw [hb] at hf
    unfold faultI at hf
    injection hf with hf
    injection hf with hf
    exact hT hf
theorem RdP.oth {x : RS} {φ ψ : Bag KK} {b b' : Nat} {s : St} (h : RdP x φ b s) (hne : b ≠ b') {T : TypeId} {cs : List C} (hb : φ b' = some (.box T cs)) (hT : T ≠ 149) (ho : Oth b' φ ψ) : RdP x ψ b s := by
  obtain ⟨e, h1, h2, h3⟩ := h
  exact ⟨e, ho b _ hne h1, bytes_oth h2 hb ho, errIs_oth h3 hb hT ho⟩
theorem RdR.oth {x : RS} {φ ψ : Bag KK} {b b' : Nat} {s : St} (h : RdR x φ b s) (hne : b ≠ b') {T : TypeId} {cs : List C} (hb : φ b' = some (.box T cs)) (ho : Oth b' φ ψ) : RdR x ψ b s := by
  obtain ⟨h1, h2⟩ := h
  exact ⟨ho b _ hne h1, bytes_oth h2 hb ho⟩
theorem Ext.oth {φ ψ : Bag KK} (h : Ext φ ψ) (b : Nat) : Oth b φ ψ := fun c i _ hi => h c i hi
theorem RdP.ext {x : RS} {φ ψ : Bag KK} {b : Nat} {s : St} (h : RdP x φ b s) (he : Ext φ ψ) : RdP x ψ b s := by
  obtain ⟨e, h1, h2, h3⟩ := h
  refine ⟨e, he b _ h1, bytes_keep h2 fun c cap ys hc => by rw [hc]; exact he c _ hc, ?_⟩
  cases ho : s.e with
  | none => rw [ho] at h3; exact h3
  | some q =>
    rw [ho] at h3
    obtain ⟨f, e1, hf⟩ := h3
    exact ⟨f, e1, he f _ hf⟩
theorem RdR.ext {x : RS} {φ ψ : Bag KK} {b : Nat} {s : St} (h : RdR x φ b s) (he : Ext φ ψ) : RdR x ψ b s := by
  obtain ⟨h1, h2⟩ := h
  exact ⟨he b _ h1, bytes_keep h2 fun c cap ys hc => by rw [hc]; exact he c _ hc⟩
/-- A call of a reader that lies in a bag. -/
def ct_lop (T : TypeId) (R : Bag KK → Nat → St → Prop) (Q : Prop) (b : Nat) (args : List VV) (ret : VV) (s s' : St) (φ : Bag KK) : Ct KK := { need := R φ b s ∧ s.Ok ∧ Q, pre := [.bag φ], args := .c (.rp T 0 b 0 0) :: args, Y := Bag KK, ok := fun ψ => R ψ b s' ∧ Oth b φ ψ, ret := fun _ => ret, post := fun ψ => [.bag ψ] }
theorem oth_put {φ ψ : Bag KK} {b : Nat} {i : BI KK} (h : Ext (bdel φ b) ψ) : Oth b φ (bput ψ b i) := fun c j hc hj => by
  rw [bput_other hc]
  exact h c j (by rw [bdel_other hc]; exact hj)
theorem ext_bput {φ : Bag KK} {f : Nat} {i : BI KK} (hf : φ f = none) : Ext φ (bput φ f i) := fun c j hj => by
  have : c ≠ f := fun e => by rw [e, hf] at hj; cases hj
  rw [bput_other this]; exact hj
theorem ext_refl {φ : Bag KK} : Ext φ φ := fun _ _ h => h
theorem bytes_put {φ ψ : Bag KK} {x : RS} {xs : List Int} {b : Nat} {T : TypeId} {cs : List C} {i : BI KK} (h : Bytes φ x xs) (hb : φ b = some (.box T cs)) (he : Ext (bdel φ b) ψ) : Bytes (bput ψ b i) x xs := bytes_oth h hb (oth_put he)
theorem readC_plain {x : RS} {p : Int} {e : C} (he : e.nm = none ∧ e.one = true) : ∀ c ∈ readC x p e, c.nm = none ∧ c.one = true := fun c hc => by
  unfold readC at hc
  rcases List.mem_cons.1 hc with rfl | hc
  · exact ⟨rfl, rfl⟩
  · rcases List.mem_cons.1 hc with rfl | hc
    · exact ⟨rfl, rfl⟩
    · rcases List.mem_cons.1 hc with rfl | hc
      · exact he
      · cases hc
theorem refC_plain {x : RS} {p e q : Int} : ∀ c ∈ refC x p e q, c.nm = none ∧ c.one = true := fun c hc => by
  unfold refC at hc
  rcases List.mem_cons.1 hc with rfl | hc
  · exact ⟨rfl, rfl⟩
  · rcases List.mem_cons.1 hc with rfl | hc
    · exact ⟨rfl, rfl⟩
    · rcases List.mem_cons.1 hc with rfl | hc
      · exact ⟨rfl, rfl⟩
      · rcases List.mem_cons.1 hc with rfl | hc
        · exact ⟨rfl, rfl⟩
        · cases hc
/-- The bag and the fault behind a call. -/
def psiN (φ : Bag KK) (s' : St) (f : Nat) : Bag KK := match s'.e with
  | none => φ
  | some q => bput φ f (faultI q.1 q.2)
def errC (s' : St) (f : Nat) : C := match s'.e with
  | none => .nilp
  | some _ => faultP f
theorem endH_is (φ : Bag KK) (x : RS) (s' : St) (f : Nat) : endH φ x s' f = [.bag (psiN φ s' f), .cells 75 (readC x s'.p (errC s' f))] := by
  unfold endH psiN errC
  cases s'.e <;> rfl
theorem errC_plain (s' : St) (f : Nat) : (errC s' f).nm = none ∧ (errC s' f).one = true := by
  unfold errC
  cases s'.e <;> exact ⟨rfl, rfl⟩
theorem psiN_ext {φ : Bag KK} {s' : St} {f : Nat} (h : s'.e = none ∨ φ f = none) : Ext φ (psiN φ s' f) := by
  unfold psiN
  cases he : s'.e with
  | none => exact ext_refl
  | some q =>
    rcases h with h | h
    · rw [he] at h; cases h
    · exact ext_bput h
theorem errIs_put {φ : Bag KK} {s' : St} {f b : Nat} {i : BI KK} (hfree : psiN φ s' f b = none) : ErrIs (bput (psiN φ s' f) b i) s'.e (errC s' f) := by
  unfold psiN at hfree ⊢
  unfold errC
  cases he : s'.e with
  | none => rfl
  | some q =>
    rw [he] at hfree
    simp only at hfree ⊢
    refine ⟨f, rfl, ?_⟩
    have : f ≠ b := fun e => by rw [e, bput_same] at hfree; cases hfree
    rw [bput_other this]
    exact bput_same
theorem lop_ok {x : RS} {fn : FuncId} {Q : Prop} {b : Nat} {args : List VV} {ret : VV} {s s' : St} {φ : Bag KK} (henter : ∀ us w, (callFunc fn us).run Tryz.prog w = .ok (.enter fn us) w)
    (h0 : Q → s.Ok → s.e = none → ∀ ψ, Bytes ψ x s.l → CtOk Tryz.prog fn (ct_rop args ret s s' x ψ)) (h1 : Q → s.e ≠ none → ∀ f ψ, CtOk Tryz.prog fn (ct_rfl args ret x s.p f ψ)) (hs : s.e ≠ none → s' = s) (hl : s.Ok → s'.l = s.l)
    (ha : ∀ v ∈ args, v.lt 0) (hr : ret.lt 0) : CtOk Tryz.prog fn (ct_lop 75 (RdP x) Q b args ret s s' φ) := by
  refine CtOk.some (ι := C) (p := fun e => (φ b = some (readI x s.p e) ∧ Bytes φ x s.l ∧ ErrIs φ s.e e) ∧ s.Ok ∧ Q) henter (fun ⟨⟨e, hR⟩, hok, hq⟩ => ⟨e, hR, hok, hq⟩) ?_
  rintro e ⟨⟨hb, hby, he⟩, hok, hq⟩
  cases hse : s.e with
  | none =>
    rw [hse] at he
    obtain rfl : e = .nilp := he
    have base := CtOk.box (b := b) (T := 75) (cs := readC x s.p .nilp) (φ := φ) (args := args) (psi := fun f => psiN (bdel φ b) s' f) (ds := fun f => readC x s'.p (errC s' f)) (h0 hq hok hse (bdel φ b) (bytes_del hby hb)) rfl rfl (fun f => endH_is _ _ _ _) (fun f => readC_plain (errC_plain s' f)) ha (fun _ => hr)
    refine base.less rfl rfl (fun _ => ⟨⟨bytes_del hby hb, hok, hse⟩, hb⟩) (fun _ f hf => ?_)
    obtain ⟨hf, hfree⟩ := hf
    have hx := psiN_ext (show s'.e = none ∨ bdel φ b f = none from hf)
    exact ⟨_, ⟨⟨errC s' f, bput_same, by rw [hl hok]; exact bytes_put hby hb hx, errIs_put hfree⟩, oth_put hx⟩, rfl, rfl⟩
  | some q =>
    rw [hse] at he
    obtain ⟨g, rfl, hg⟩ := he
    have hss := hs (by rw [hse]; simp)
    subst hss
    have base := CtOk.box (b := b) (T := 75) (cs := readC x s'.p (faultP g)) (φ := φ) (args := args) (psi := fun _ => bdel φ b) (ds := fun _ => readC x s'.p (faultP g)) (h1 hq (by rw [hse]; simp) g (bdel φ b)) rfl rfl (fun f => rfl) (fun f => readC_plain ⟨rfl, rfl⟩) ha (fun _ => hr)
    refine base.less rfl rfl (fun _ => ⟨trivial, hb⟩) (fun _ f hf => ?_)
    have ho : Oth b φ (bput (bdel φ b) b (.box 75 (readC x s'.p (faultP g)))) := oth_put ext_refl
    exact ⟨_, ⟨⟨faultP g, bput_same, bytes_oth hby hb ho, errIs_oth (o := s'.e) (by rw [hse]; exact ⟨g, rfl, hg⟩) hb (by decide) ho⟩, ho⟩, rfl, rfl⟩
theorem xop_lop {x : RS} {fn : FuncId} {Q : Prop} {b : Nat} {args : List VV} {ret : VV} {s s' : St} {φ : Bag KK} (henter : ∀ us w, (callFunc fn us).run Tryz.prog w = .ok (.enter fn us) w)
    (h0 : Q → ∀ ψ, CtOk Tryz.prog fn (ct_xop args ret s s' x ψ)) (hl : s.Ok → s'.l = s.l) (ha : ∀ v ∈ args, v.lt 0) (hr : ret.lt 0) : CtOk Tryz.prog fn (ct_lop 77 (RdR x) Q b args ret s s' φ) := by
  refine CtOk.some (ι := Unit) (p := fun _ => (φ b = some (refI x s.p (eN s.e) (eP s.e)) ∧ Bytes φ x s.l) ∧ s.Ok ∧ Q) henter (fun ⟨hR, hok, hq⟩ => ⟨(), hR, hok, hq⟩) ?_
  rintro _ ⟨⟨hb, hby⟩, hok, hq⟩
  have base := CtOk.box (b := b) (T := 77) (cs := refC x s.p (eN s.e) (eP s.e)) (φ := φ) (args := args) (psi := fun _ => bdel φ b) (ds := fun _ => refC x s'.p (eN s'.e) (eP s'.e)) (h0 hq (bdel φ b)) rfl rfl (fun f => rfl) (fun f => refC_plain) ha (fun _ => hr)
  refine base.less rfl rfl (fun _ => ⟨⟨bytes_del hby hb, hok⟩, hb⟩) (fun _ f hf => ?_)
  have ho : Oth b φ (bput (bdel φ b) b (.box 77 (refC x s'.p (eN s'.e) (eP s'.e)))) := oth_put ext_refl
  exact ⟨_, ⟨⟨bput_same, by rw [hl hok]; exact bytes_oth hby hb ho⟩, ho⟩, rfl, rfl⟩
end Go.Proofs.YtndlpbheifalhaaGreatDoor.T
end
section
namespace Go.Proofs.YtndlpbheifalhaaGreatDoor.T
open Go.Proofs.YtndlpbheifalhaaGreatDoor.E Go.Proofs.YtndlpbheifalhaaGreatDoor.V
set_option maxRecDepth 100000
set_option linter.unusedVariables false
set_option linter.unusedSimpArgs false
theorem no_args : ∀ v ∈ ([] : List VV), v.lt 0 := fun v hv => by cases hv
theorem one_arg {c : C} (h : c.nm = none) : ∀ v ∈ [VV.c c], v.lt 0 := fun v hv => by
  rcases List.mem_cons.1 hv with rfl | hv
  · exact lt_of_nm h
  · cases hv
theorem tup_lt : (VV.tup []).lt 0 := fun x hx => by cases hx
theorem rawO_e {s : St} (h : s.e ≠ none) (n : Int) : rawO s n = ([], s) := by
  unfold rawO
  cases hq : s.e with
  | none => exact absurd hq h
  | some q => rfl
theorem byteO_e {s : St} (h : s.e ≠ none) : byteO s = (0, s) := by unfold byteO; rw [rawO_e h]; rfl
theorem uintO_e {s : St} (h : s.e ≠ none) (m : Int) : uintO s m = (0, s) := by
  unfold uintO
  cases hq : s.e with
  | none => exact absurd hq h
  | some q => rfl
theorem textO_e {s : St} (h : s.e ≠ none) (m : Int) : textO s m = (⟨#[]⟩, s) := by
  unfold textO
  cases hq : s.e with
  | none => exact absurd hq h
  | some q => rfl
theorem endO_e {s : St} (h : s.e ≠ none) : endO s = s := by
  unfold endO
  cases hq : s.e with
  | none => exact absurd hq h
  | some q => rfl
def ct_lbyte (x : RS) (s : St) (b : Nat) (φ : Bag KK) : Ct KK := ct_lop 75 (RdP x) True b [] (.c (.int .u8 (byteO s).1)) s (byteO s).2 φ
def ct_luint (x : RS) (s : St) (m : Int) (b : Nat) (φ : Bag KK) : Ct KK := ct_lop 75 (RdP x) True b [u64v m] (u64v (uintO s m).1) s (uintO s m).2 φ
def ct_ltext (x : RS) (s : St) (m : Int) (b : Nat) (φ : Bag KK) : Ct KK := ct_lop 75 (RdP x) (i64ok m) b [i64 m] (strv (textO s m).1) s (textO s m).2 φ
def ct_lend (x : RS) (s : St) (b : Nat) (φ : Bag KK) : Ct KK := ct_lop 75 (RdP x) True b [] (.tup []) s (endO s) φ
def ct_lat (x : RS) (s : St) (b : Nat) (φ : Bag KK) : Ct KK := ct_lop 75 (RdP x) True b [] (i64 s.p) s s φ
def ct_lerr (x : RS) (s : St) (b : Nat) (φ : Bag KK) : Ct KK := ct_lop 75 (RdP x) (s.e = none) b [] (.c (.lit .nilIface)) s s φ
def ct_lerrF (x : RS) (s : St) (q : Int × Int) (b : Nat) (φ : Bag KK) : Ct KK := { need := RdP x φ b s ∧ s.Ok ∧ s.e = some q, pre := [.bag φ], args := [.c (.rp 75 0 b 0 0)], Y := Nat × Bag KK, ok := fun z => (RdP x z.2 b s ∧ Oth b φ z.2) ∧ z.2 z.1 = some (faultI q.1 q.2), ret := fun z => .c (.lit (vF z.1)), post := fun z => [.bag z.2] }
def ct_lraw (T : TypeId) (R : Bag KK → Nat → St → Prop) (s : St) (n : Int) (b : Nat) (φ : Bag KK) : Ct KK := { need := R φ b s ∧ s.Ok ∧ i64ok n, pre := [.bag φ], args := [.c (.rp T 0 b 0 0), i64 n], Y := RS × Bag KK, ok := fun z => ∃ φ1, (R φ1 b (rawO s n).2 ∧ Oth b φ φ1) ∧ Frz φ1 Kd.u8 (rawO s n).1 z.1 z.2, ret := fun z => .c (.rs 5 1 z.1), post := fun z => [.bag z.2] }
def ct_mbyte (x : RS) (s : St) (b : Nat) (φ : Bag KK) : Ct KK := ct_lop 77 (RdR x) True b [] (.c (.int .u8 (byteO s).1)) s (byteO s).2 φ
def ct_muint (x : RS) (s : St) (m : Int) (b : Nat) (φ : Bag KK) : Ct KK := ct_lop 77 (RdR x) True b [u64v m] (u64v (uintO s m).1) s (uintO s m).2 φ
def ct_mtext (x : RS) (s : St) (m : Int) (b : Nat) (φ : Bag KK) : Ct KK := ct_lop 77 (RdR x) (i64ok m) b [i64 m] (strv (textO s m).1) s (textO s m).2 φ
def ct_mend (x : RS) (s : St) (b : Nat) (φ : Bag KK) : Ct KK := ct_lop 77 (RdR x) True b [] (.tup []) s (endO s) φ
def ct_mat (x : RS) (s : St) (b : Nat) (φ : Bag KK) : Ct KK := ct_lop 77 (RdR x) True b [] (i64 s.p) s s φ
theorem lbyte_ok (x : RS) (s : St) (b : Nat) (φ : Bag KK) : CtOk Tryz.prog 56 (ct_lbyte x s b φ) :=
  lop_ok (fun _ _ => rfl) (fun _ _ _ ψ _ => byte_ok s x ψ) (fun _ he f ψ => by rw [byteO_e he]; exact byteF_ok x s.p f ψ) (fun he => by rw [byteO_e he]) (fun h => (byteO_ok h).2) no_args (lt_of_nm rfl)
theorem luint_ok (x : RS) (s : St) (m : Int) (b : Nat) (φ : Bag KK) : CtOk Tryz.prog 58 (ct_luint x s m b φ) :=
  lop_ok (fun _ _ => rfl) (fun _ _ _ ψ _ => uint_ok s m x ψ) (fun _ he f ψ => by rw [uintO_e he]; exact uintF_ok m x s.p f ψ) (fun he => by rw [uintO_e he]) (fun h => (uintO_ok h m).2) (one_arg rfl) (lt_of_nm rfl)
theorem ltext_ok (x : RS) (s : St) (m : Int) (b : Nat) (φ : Bag KK) : CtOk Tryz.prog 60 (ct_ltext x s m b φ) :=
  lop_ok (fun _ _ => rfl) (fun hm _ _ ψ _ => text_ok s m hm x ψ) (fun _ he f ψ => by rw [textO_e he]; exact textF_ok m x s.p f ψ) (fun he => by rw [textO_e he]) (fun h => (textO_ok h m).2) (one_arg rfl) (lt_of_nm rfl)
theorem lend_ok (x : RS) (s : St) (b : Nat) (φ : Bag KK) : CtOk Tryz.prog 64 (ct_lend x s b φ) :=
  lop_ok (fun _ _ => rfl) (fun _ _ he ψ hb => (end_ok s x ψ).less rfl rfl (fun _ => ⟨(RS.row_len hb.2.1).symm, he⟩) (fun _ y hy => ⟨y, hy, rfl, rfl⟩)) (fun _ he f ψ => endF_ok x s.p f ψ) (fun he => by rw [endO_e he]) (fun h => (endO_ok h).2) no_args tup_lt
theorem lat_ok (x : RS) (s : St) (b : Nat) (φ : Bag KK) : CtOk Tryz.prog 54 (ct_lat x s b φ) :=
  lop_ok (fun _ _ => rfl) (fun _ _ he ψ hb => (at_ok x s.p ψ).less rfl rfl (fun _ => trivial) (fun _ y hy => ⟨(0 : Nat), .inl he, rfl, (endH_none he).symm⟩)) (fun _ he f ψ => atF_ok x s.p f ψ) (fun he => rfl) (fun h => rfl) no_args (lt_of_nm rfl)
theorem lerr_ok (x : RS) (s : St) (b : Nat) (φ : Bag KK) : CtOk Tryz.prog 53 (ct_lerr x s b φ) :=
  lop_ok (fun _ _ => rfl) (fun _ _ he ψ hb => (err_ok x s.p ψ).less rfl rfl (fun _ => trivial) (fun _ y hy => ⟨(0 : Nat), .inl he, rfl, (endH_none he).symm⟩)) (fun h he f ψ => absurd h he) (fun he => rfl) (fun h => rfl) no_args (lt_of_nm rfl)
theorem mbyte_ok (x : RS) (s : St) (b : Nat) (φ : Bag KK) : CtOk Tryz.prog 57 (ct_mbyte x s b φ) :=
  xop_lop (fun _ _ => rfl) (fun _ ψ => xbyte_ok s x ψ) (fun h => (byteO_ok h).2) no_args (lt_of_nm rfl)
theorem muint_ok (x : RS) (s : St) (m : Int) (b : Nat) (φ : Bag KK) : CtOk Tryz.prog 59 (ct_muint x s m b φ) :=
  xop_lop (fun _ _ => rfl) (fun _ ψ => xuint_ok s m x ψ) (fun h => (uintO_ok h m).2) (one_arg rfl) (lt_of_nm rfl)
theorem mtext_ok (x : RS) (s : St) (m : Int) (b : Nat) (φ : Bag KK) : CtOk Tryz.prog 61 (ct_mtext x s m b φ) :=
  xop_lop (fun _ _ => rfl) (fun hm ψ => xtext_ok s m hm x ψ) (fun h => (textO_ok h m).2) (one_arg rfl) (lt_of_nm rfl)
theorem mend_ok (x : RS) (s : St) (b : Nat) (φ : Bag KK) : CtOk Tryz.prog 65 (ct_mend x s b φ) :=
  xop_lop (fun _ _ => rfl) (fun _ ψ => xend_ok s x ψ) (fun h => (endO_ok h).2) no_args tup_lt
theorem mat_ok (x : RS) (s : St) (b : Nat) (φ : Bag KK) : CtOk Tryz.prog 55 (ct_mat x s b φ) :=
  xop_lop (fun _ _ => rfl) (fun _ ψ => (xat_ok x s.p (eN s.e) (eP s.e) ψ).less rfl rfl (fun _ => trivial) (fun _ y hy => ⟨(), trivial, rfl, rfl⟩)) (fun h => rfl) no_args (lt_of_nm rfl)
theorem lerrF_ok (x : RS) (s : St) (q : Int × Int) (b : Nat) (φ : Bag KK) : CtOk Tryz.prog 53 (ct_lerrF x s q b φ) := by
  refine CtOk.some (ι := Nat) (p := fun f => ((φ b = some (readI x s.p (faultP f)) ∧ Bytes φ x s.l) ∧ φ f = some (faultI q.1 q.2)) ∧ s.e = some q) (fun _ _ => rfl) (fun ⟨⟨e, h1, h2, h3⟩, hok, hq⟩ => ?_) ?_
  · rw [hq] at h3
    obtain ⟨f, rfl, hf⟩ := h3
    exact ⟨f, ⟨⟨h1, h2⟩, hf⟩, hq⟩
  · rintro f ⟨⟨⟨hb, hby⟩, hf⟩, hq⟩
    have hfb : f ≠ b := fun e => by
      subst e
      rw [hb] at hf
      unfold faultI readI at hf
      injection hf with hf
      injection hf with hf
      exact absurd hf (by decide)
    have base := CtOk.box (b := b) (T := 75) (cs := readC x s.p (faultP f)) (φ := φ) (args := []) (psi := fun g => bput (bdel φ b) g (faultI q.1 q.2)) (ds := fun _ => readC x s.p (faultP f)) (errF_ok x s.p f q (bdel φ b)) rfl rfl (fun f => rfl) (fun f => readC_plain ⟨rfl, rfl⟩) no_args (fun _ => lt_of_nm rfl)
    refine base.less rfl rfl (fun _ => ⟨(bdel_other hfb).trans hf, hb⟩) (fun _ g hg => ?_)
    obtain ⟨hg, hfree⟩ := hg
    have hx : Ext (bdel φ b) (bput (bdel φ b) g (faultI q.1 q.2)) := ext_bput (show bdel φ b g = none from hg)
    have ho : Oth b φ (bput (bput (bdel φ b) g (faultI q.1 q.2)) b (.box 75 (readC x s.p (faultP f)))) := oth_put hx
    have hgb : g ≠ b := fun e => by
      have hfree : bput (bdel φ b) g (faultI q.1 q.2) b = none := hfree
      rw [e, bput_same] at hfree; cases hfree
    exact ⟨(g, _), ⟨⟨⟨faultP f, bput_same, bytes_oth hby hb ho, by rw [hq]; exact ⟨f, rfl, ho f _ hfb hf⟩⟩, ho⟩, (bput_other hgb).trans bput_same⟩, rfl, rfl⟩
theorem lraw_ok (x : RS) (s : St) (n : Int) (b : Nat) (φ : Bag KK) : CtOk Tryz.prog 62 (ct_lraw 75 (RdP x) s n b φ) := by
  refine CtOk.some (ι := C) (p := fun e => (φ b = some (readI x s.p e) ∧ Bytes φ x s.l ∧ ErrIs φ s.e e) ∧ s.Ok ∧ i64ok n) (fun _ _ => rfl) (fun ⟨⟨e, hR⟩, hok, hq⟩ => ⟨e, hR, hok, hq⟩) ?_
  rintro e ⟨⟨hb, hby, he⟩, hok, hq⟩
  have hl := (rawO_ok hok n).2
  cases hse : s.e with
  | none =>
    rw [hse] at he
    obtain rfl : e = .nilp := he
    have base := CtOk.boxL (b := b) (T := 75) (cs := readC x s.p .nilp) (φ := φ) (args := [i64 n]) (psi := fun f => psiN (bdel φ b) (rawO s n).2 f) (ds := fun f => readC x (rawO s n).2.p (errC (rawO s n).2 f)) (e := 5) (kd := Kd.u8) (xs := fun _ => (rawO s n).1) (raw_ok s n x (bdel φ b)) rfl rfl (fun f => congrArg (fun H : VH KK => H ++ [.arr .u8 (rawO s n).1]) (endH_is (bdel φ b) x (rawO s n).2 f)) (fun f => readC_plain (errC_plain _ f)) (one_arg rfl) (fun _ => rfl)
    refine base.less rfl rfl (fun _ => ⟨⟨bytes_del hby hb, hok, hse, hq⟩, hb⟩) (fun _ z hz => ?_)
    obtain ⟨hf, hfree, hz⟩ := hz
    have hx := psiN_ext (show (rawO s n).2.e = none ∨ bdel φ b z.1 = none from hf)
    exact ⟨z.2, ⟨_, ⟨⟨errC (rawO s n).2 z.1, bput_same, by rw [hl]; exact bytes_put hby hb hx, errIs_put hfree⟩, oth_put hx⟩, hz⟩, rfl, rfl⟩
  | some q =>
    rw [hse] at he
    obtain ⟨g, rfl, hg⟩ := he
    have hss := rawO_e (s := s) (by rw [hse]; simp) n
    have base := CtOk.boxL (b := b) (T := 75) (cs := readC x s.p (faultP g)) (φ := φ) (args := [i64 n]) (psi := fun _ => bdel φ b) (ds := fun _ => readC x s.p (faultP g)) (e := 5) (kd := Kd.u8) (xs := fun _ => []) (rawF_ok n x s.p g (bdel φ b)) rfl rfl (fun f => rfl) (fun f => readC_plain ⟨rfl, rfl⟩) (one_arg rfl) (fun _ => rfl)
    refine base.less rfl rfl (fun _ => ⟨trivial, hb⟩) (fun _ z hz => ?_)
    obtain ⟨hf, hfree, hz⟩ := hz
    have ho : Oth b φ (bput (bdel φ b) b (.box 75 (readC x s.p (faultP g)))) := oth_put ext_refl
    refine ⟨z.2, ⟨_, ⟨?_, ho⟩, ?_⟩, rfl, rfl⟩
    · rw [hss]
      exact ⟨faultP g, bput_same, bytes_oth hby hb ho, errIs_oth (o := s.e) (by rw [hse]; exact ⟨g, rfl, hg⟩) hb (by decide) ho⟩
    · rw [hss]; exact hz
theorem mraw_ok (x : RS) (s : St) (n : Int) (b : Nat) (φ : Bag KK) : CtOk Tryz.prog 63 (ct_lraw 77 (RdR x) s n b φ) := by
  refine CtOk.some (ι := Unit) (p := fun _ => (φ b = some (refI x s.p (eN s.e) (eP s.e)) ∧ Bytes φ x s.l) ∧ s.Ok ∧ i64ok n) (fun _ _ => rfl) (fun ⟨hR, hok, hq⟩ => ⟨(), hR, hok, hq⟩) ?_
  rintro _ ⟨⟨hb, hby⟩, hok, hq⟩
  have hl := (rawO_ok hok n).2
  have base := CtOk.boxL (b := b) (T := 77) (cs := refC x s.p (eN s.e) (eP s.e)) (φ := φ) (args := [i64 n]) (psi := fun _ => bdel φ b) (ds := fun _ => refC x (rawO s n).2.p (eN (rawO s n).2.e) (eP (rawO s n).2.e)) (e := 5) (kd := Kd.u8) (xs := fun _ => (rawO s n).1) (xraw_ok s n x (bdel φ b)) rfl rfl (fun f => rfl) (fun f => refC_plain) (one_arg rfl) (fun _ => rfl)
  refine base.less rfl rfl (fun _ => ⟨⟨bytes_del hby hb, hok, hq⟩, hb⟩) (fun _ z hz => ?_)
  obtain ⟨hf, hfree, hz⟩ := hz
  have ho : Oth b φ (bput (bdel φ b) b (.box 77 (refC x (rawO s n).2.p (eN (rawO s n).2.e) (eP (rawO s n).2.e)))) := oth_put ext_refl
  exact ⟨z.2, ⟨_, ⟨⟨bput_same, by rw [hl]; exact bytes_oth hby hb ho⟩, ho⟩, hz⟩, rfl, rfl⟩
end Go.Proofs.YtndlpbheifalhaaGreatDoor.T
end
section
namespace Go.Proofs.YtndlpbheifalhaaGreatDoor.T
open Go.Proofs.YtndlpbheifalhaaGreatDoor.E Go.Proofs.YtndlpbheifalhaaGreatDoor.V
set_option maxRecDepth 100000
set_option linter.unusedVariables false
set_option linter.unusedSimpArgs false
/-- All but two blocks stays. -/
def Oth2 (b c : Nat) (φ ψ : Bag KK) : Prop := ∀ d i, d ≠ b → d ≠ c → φ d = some i → ψ d = some i
theorem Oth2.trans {b c : Nat} {φ ψ χ : Bag KK} (h : Oth2 b c φ ψ) (h2 : Oth2 b c ψ χ) : Oth2 b c φ χ := fun d i hb hc hi => h2 d i hb hc (h d i hb hc hi)
theorem Oth.fst {b c : Nat} {φ ψ : Bag KK} (h : Oth b φ ψ) : Oth2 b c φ ψ := fun d i hb _ hi => h d i hb hi
theorem Oth.snd {b c : Nat} {φ ψ : Bag KK} (h : Oth c φ ψ) : Oth2 b c φ ψ := fun d i _ hc hi => h d i hc hi
/-- Both stand at one place. -/
def Both (x y : RS) (φ : Bag KK) (b c : Nat) (s : St) : Prop := RdP x φ b s ∧ RdR y φ c s
theorem Both.ne {x y : RS} {φ : Bag KK} {b c : Nat} {s : St} (h : Both x y φ b c s) : b ≠ c := fun e => by
  obtain ⟨⟨e1, h1, _⟩, h2, _⟩ := h
  subst e
  rw [h1] at h2
  unfold readI refI at h2
  injection h2 with h2
  injection h2 with h2
  exact absurd h2 (by decide)
def pairV (b c : Nat) : VV := .one (.agg [.rp 75 0 b 0 0, .rp 77 0 c 0 0])
def ct_stands (x y : RS) (s : St) (b c : Nat) (φ : Bag KK) : Ct KK := { need := Both x y φ b c s ∧ s.Ok, pre := [.bag φ], args := [pairV b c], Y := Bag KK, ok := fun ψ => Both x y ψ b c s ∧ Oth2 b c φ ψ, ret := fun _ => boolv true, post := fun ψ => [.bag ψ] }
def pickS (x y : RS) (s : St) (f : FuncId) (args : List VV) (H : VH KK) : Option (Ct KK × List Kd × List Nat) := match f, args, H with
  | 53, [.one (.c (.rp _ _ b _ _))], .bag φ :: _ => some (ct_lerr x s b φ, [], [0])
  | 54, [.one (.c (.rp _ _ b _ _))], .bag φ :: _ => some (ct_lat x s b φ, [], [0])
  | 55, [.one (.c (.rp _ _ b _ _))], .bag φ :: _ => some (ct_mat y s b φ, [], [0])
  | 52, [_], _ => some (ct_told, [], [])
  | _, _, _ => none
def tabS (x y : RS) (s : St) : Tab Tryz.prog KK := ⟨mixed, pickS x y s, fun f args H ct ks τ h => by
    unfold pickS at h
    split at h
    · cases h; exact lerr_ok _ _ _ _
    · cases h; exact lat_ok _ _ _ _
    · cases h; exact mat_ok _ _ _ _
    · cases h; exact told_ok
    · cases h⟩
def pickSF (x y : RS) (s : St) (q : Int × Int) (f : FuncId) (args : List VV) (H : VH KK) : Option (Ct KK × List Kd × List Nat) := match f, args, H with
  | 53, [.one (.c (.rp _ _ b _ _))], .bag φ :: _ => some (ct_lerrF x s q b φ, [], [0])
  | 54, [.one (.c (.rp _ _ b _ _))], .bag φ :: _ => some (ct_lat x s b φ, [], [0])
  | 55, [.one (.c (.rp _ _ b _ _))], .bag φ :: _ => some (ct_mat y s b φ, [], [0])
  | 52, [.one (.c (.lit (.iface _ (.pointer (some ⟨g, _, _⟩)))))], .bag φ :: _ => some (ct_toldF g q φ, [], [0])
  | _, _, _ => none
def tabSF (x y : RS) (s : St) (q : Int × Int) : Tab Tryz.prog KK := ⟨mixed, pickSF x y s q, fun f args H ct ks τ h => by
    unfold pickSF at h
    split at h
    · cases h; exact lerrF_ok _ _ _ _ _
    · cases h; exact lat_ok _ _ _ _
    · cases h; exact mat_ok _ _ _ _
    · cases h; exact toldF_ok _ _ _
    · cases h⟩
theorem vc_stands (x y : RS) (s : St) (b c : Nat) (φ : Bag KK) : evFn (tabS x y s) ann0 Tryz.f18 (ct_stands x y s b c φ) = ( (RdP x φ b s ∧ s.Ok ∧ s.e = none) ∧ Into (K := KK) 0 [] [0] [VV.one (V1.c (C.rp 75 0 b 0 0))] [Atom.bag φ, Atom.cells 63 [C.rp 75 0 b 0 0, C.rp 77 0 c 0 0]] [VV.one (V1.c (C.rp 75 0 b 0 0))] [Atom.bag
 φ] ∧ ∀ (y_1 : Nat → Option (BI KK)), RdP x y_1 b s ∧ Oth b φ y_1 → True ∧ Into (K := KK) 0 [] [] [VV.one (V1.c (C.lit Value.nilIface))] [Atom.bag y_1, Atom.cells 63 [C.rp 75 0 b 0 0, C.rp 77 0 c 0 0]]
 [VV.one (V1.c (C.lit Value.nilIface))] [] ∧ ∀ (y_2 : Unit), True → ∃ (n : Int), boxAt y_1 c 2 = some (C.int .i64 n) ∧ ite2 (decide ((0 : Int) = n)) (True ∧ (RdP x y_1 b s ∧ s.Ok ∧ True) ∧ Into (K := KK)
 0 [] [0] [VV.one (V1.c (C.rp 75 0 b 0 0))] [Atom.bag y_1, Atom.cells 63 [C.rp 75 0 b 0 0, C.rp 77 0 c 0 0]] [VV.one (V1.c (C.rp 75 0 b 0 0))] [Atom.bag y_1] ∧ ∀ (y_3 : Nat → Option (BI KK)), RdP x y_3
 b s ∧ Oth b y_1 y_3 → (VV.one (V1.c (C.rp 77 0 c 0 0)) = VV.one (V1.c (C.rp 77 0 c 0 0)) ∧ True) ∧ (RdR y y_3 c s ∧ s.Ok ∧ True) ∧ Into (K := KK) 0 [] [0] [VV.one (V1.c (C.rp 77 0 c 0 0))] [Atom.bag y_3,
 Atom.cells 63 [C.rp 75 0 b 0 0, C.rp 77 0 c 0 0]] [VV.one (V1.c (C.rp 77 0 c 0 0))] [Atom.bag y_3] ∧ ∀ (y_4 : Nat → Option (BI KK)), RdR y y_4 c s ∧ Oth c y_3 y_4 → ite2 (decide ((↑s.p : Int) = (↑s.p :
 Int))) (True ∧ EndsAs 1 (ct_stands x y s b c φ) (boolv true) [Atom.bag y_4, Atom.cells 63 [C.rp 75 0 b 0 0, C.rp 77 0 c 0 0]]) (True ∧ EndsAs 1 (ct_stands x y s b c φ) (boolv false) [Atom.bag y_4, Atom.cells
 63 [C.rp 75 0 b 0 0, C.rp 77 0 c 0 0]])) (True ∧ (VV.tup [] = VV.tup [] ∧ True) ∧ True ∧ EndsAs 1 (ct_stands x y s b c φ) (boolv false) [Atom.bag y_1, Atom.cells 63 [C.rp 75 0 b 0 0, C.rp 77 0 c 0 0]])) := by kernel_rfl
theorem vc_standsF (x y : RS) (s : St) (q : Int × Int) (b c : Nat) (φ : Bag KK) : evFn (tabSF x y s q) ann0 Tryz.f18 (ct_stands x y s b c φ) = ( (RdP x φ b s ∧ s.Ok ∧ s.e = some q) ∧ Into (K := KK) 0 [] [0] [VV.one (V1.c (C.rp 75 0 b 0 0))] [Atom.bag φ, Atom.cells 63 [C.rp 75 0 b 0 0, C.rp 77 0 c 0 0]] [VV.one (V1.c (C.rp 75 0 b 0 0))] [Atom.bag
 φ] ∧ ∀ (y_1 : Nat × Bag KK), (RdP x y_1.snd b s ∧ Oth b φ y_1.snd) ∧ y_1.snd y_1.fst = some (BI.box 149 [C.int .i64 q.fst, C.str (ByteArray.mk (#[])), C.int .i64 q.snd]) → (y_1.snd y_1.fst = some (BI.box
 149 [C.int .i64 q.fst, C.str (ByteArray.mk (#[])), C.int .i64 q.snd]) ∧ (1 : Int) ≤ q.snd) ∧ Into (K := KK) 0 [] [0] [VV.one (V1.c (C.lit (Value.iface 73 (Value.pointer (some (Addr.mk (y_1.fst) (0) (none)))))))]
 [Atom.bag y_1.snd, Atom.cells 63 [C.rp 75 0 b 0 0, C.rp 77 0 c 0 0]] [VV.one (V1.c (C.lit (Value.iface 73 (Value.pointer (some (Addr.mk (y_1.fst) (0) (none)))))))] [Atom.bag y_1.snd] ∧ ∀ (y_2 : Unit),
 True → ∃ (n : Int), boxAt y_1.snd c 2 = some (C.int .i64 n) ∧ ite2 (decide (q.snd = n)) (True ∧ (RdP x y_1.snd b s ∧ s.Ok ∧ True) ∧ Into (K := KK) 0 [] [0] [VV.one (V1.c (C.rp 75 0 b 0 0))] [Atom.bag y_1.snd,
 Atom.cells 63 [C.rp 75 0 b 0 0, C.rp 77 0 c 0 0]] [VV.one (V1.c (C.rp 75 0 b 0 0))] [Atom.bag y_1.snd] ∧ ∀ (y_3 : Nat → Option (BI KK)), RdP x y_3 b s ∧ Oth b y_1.snd y_3 → (VV.one (V1.c (C.rp 77 0 c 0
 0)) = VV.one (V1.c (C.rp 77 0 c 0 0)) ∧ True) ∧ (RdR y y_3 c s ∧ s.Ok ∧ True) ∧ Into (K := KK) 0 [] [0] [VV.one (V1.c (C.rp 77 0 c 0 0))] [Atom.bag y_3, Atom.cells 63 [C.rp 75 0 b 0 0, C.rp 77 0 c 0 0]]
 [VV.one (V1.c (C.rp 77 0 c 0 0))] [Atom.bag y_3] ∧ ∀ (y_4 : Nat → Option (BI KK)), RdR y y_4 c s ∧ Oth c y_3 y_4 → ite2 (decide ((↑s.p : Int) = (↑s.p : Int))) (True ∧ ite2 (decide (q.snd = (0 : Int)))
 (EndsAs 1 (ct_stands x y s b c φ) (boolv true) [Atom.bag y_4, Atom.cells 63 [C.rp 75 0 b 0 0, C.rp 77 0 c 0 0]]) (∃ (n : Int), boxAt y_4 c 3 = some (C.int .i64 n) ∧ ite2 (decide (q.fst = n)) (EndsAs 1
 (ct_stands x y s b c φ) (boolv true) [Atom.bag y_4, Atom.cells 63 [C.rp 75 0 b 0 0, C.rp 77 0 c 0 0]]) (EndsAs 1 (ct_stands x y s b c φ) (boolv false) [Atom.bag y_4, Atom.cells 63 [C.rp 75 0 b 0 0, C.rp
 77 0 c 0 0]]))) (True ∧ EndsAs 1 (ct_stands x y s b c φ) (boolv false) [Atom.bag y_4, Atom.cells 63 [C.rp 75 0 b 0 0, C.rp 77 0 c 0 0]])) (True ∧ (VV.tup [] = VV.tup [] ∧ True) ∧ True ∧ EndsAs 1 (ct_stands
 x y s b c φ) (boolv false) [Atom.bag y_1.snd, Atom.cells 63 [C.rp 75 0 b 0 0, C.rp 77 0 c 0 0]])) := by kernel_rfl
theorem boxAt_ref {y : RS} {ψ : Bag KK} {c : Nat} {s : St} (h : RdR y ψ c s) : boxAt ψ c 2 = some (.int .i64 (eN s.e)) ∧ boxAt ψ c 3 = some (.int .i64 (eP s.e)) := by
  obtain ⟨h1, _⟩ := h
  have h2 := cellsAt_box h1
  unfold boxAt
  rw [h2]
  exact ⟨rfl, rfl⟩
theorem both_p {x y : RS} {φ ψ : Bag KK} {b c : Nat} {s : St} (h : Both x y φ b c s) (ho : Oth b φ ψ) : RdR y ψ c s := by
  have hne := h.ne
  obtain ⟨⟨e, h1, _⟩, h2⟩ := h
  exact h2.oth (fun e => hne e.symm) h1 ho
theorem both_r {x y : RS} {φ ψ : Bag KK} {b c : Nat} {s s1 : St} (h1 : RdP x φ b s) (h2 : RdR y φ c s1) (hne : b ≠ c) (ho : Oth c φ ψ) : RdP x ψ b s := by
  obtain ⟨h2, _⟩ := h2
  exact h1.oth hne h2 (by decide) ho
theorem stands_ok (x y : RS) (s : St) (b c : Nat) (φ : Bag KK) : CtOk Tryz.prog 18 (ct_stands x y s b c φ) := by
  have ends : ∀ {ψ : Bag KK} {l : List C}, Both x y ψ b c s ∧ Oth2 b c φ ψ → EndsAs 1 (ct_stands x y s b c φ) (boolv true) [Atom.bag ψ, Atom.cells 63 l] := fun {ψ l} h => ⟨ψ, [], [0], h, by (repeat' first | exact trivial | exact rfl | apply And.intro)⟩
  cases hse : s.e with
  | none =>
    exact CtOk_of KK_ok (tabS x y s) ann0 (fn := Tryz.f18) rfl (fun _ _ => rfl) fun hn => by
      rw [vc_stands]
      obtain ⟨hB, hok⟩ := hn
      have hne := hB.ne
      refine ⟨⟨hB.1, hok, hse⟩, into_mk (by kernel_rfl) (by (repeat' first | exact trivial | exact rfl | apply And.intro)) (by (repeat' first | exact trivial | exact rfl | apply And.intro)), fun z hz => ⟨trivial, into_mk (by kernel_rfl) (by (repeat' first | exact trivial | exact rfl | apply And.intro)) (by (repeat' first | exact trivial | exact rfl | apply And.intro)), fun _ _ => ?_⟩⟩
      have hR := both_p hB hz.2
      have h2 := (boxAt_ref hR).1
      rw [hse] at h2
      refine ⟨0, h2, ite2_decide (fun _ => ⟨trivial, ⟨hz.1, hok, trivial⟩, into_mk (by kernel_rfl) (by (repeat' first | exact trivial | exact rfl | apply And.intro)) (by (repeat' first | exact trivial | exact rfl | apply And.intro)), fun y2 hy2 => ⟨⟨rfl, trivial⟩, ?_⟩⟩) (fun h => absurd rfl h)⟩
      have hR2 := both_p ⟨hz.1, hR⟩ hy2.2
      refine ⟨⟨hR2, hok, trivial⟩, into_mk (by kernel_rfl) (by (repeat' first | exact trivial | exact rfl | apply And.intro)) (by (repeat' first | exact trivial | exact rfl | apply And.intro)), fun y3 hy3 => ite2_decide (fun _ => ⟨trivial, ends ⟨⟨both_r hy2.1 hR2 hne hy3.2, hy3.1⟩, ?_⟩⟩) (fun h => absurd rfl h)⟩
      exact (hz.2.fst.trans hy2.2.fst).trans hy3.2.snd
  | some q =>
    exact CtOk_of KK_ok (tabSF x y s q) ann0 (fn := Tryz.f18) rfl (fun _ _ => rfl) fun hn => by
      rw [vc_standsF]
      obtain ⟨hB, hok⟩ := hn
      have hne := hB.ne
      have hq := (hok.err q hse).2
      refine ⟨⟨hB.1, hok, hse⟩, into_mk (by kernel_rfl) (by (repeat' first | exact trivial | exact rfl | apply And.intro)) (by (repeat' first | exact trivial | exact rfl | apply And.intro)), fun z hz => ⟨⟨hz.2, hq.1⟩, into_mk (by kernel_rfl) (by (repeat' first | exact trivial | exact rfl | apply And.intro)) (by (repeat' first | exact trivial | exact rfl | apply And.intro)), fun _ _ => ?_⟩⟩
      have hR := both_p hB hz.1.2
      have h2 := (boxAt_ref hR).1
      rw [hse] at h2
      refine ⟨q.2, h2, ite2_decide (fun _ => ⟨trivial, ⟨hz.1.1, hok, trivial⟩, into_mk (by kernel_rfl) (by (repeat' first | exact trivial | exact rfl | apply And.intro)) (by (repeat' first | exact trivial | exact rfl | apply And.intro)), fun y2 hy2 => ⟨⟨rfl, trivial⟩, ?_⟩⟩) (fun h => absurd rfl h)⟩
      have hR2 := both_p ⟨hz.1.1, hR⟩ hy2.2
      refine ⟨⟨hR2, hok, trivial⟩, into_mk (by kernel_rfl) (by (repeat' first | exact trivial | exact rfl | apply And.intro)) (by (repeat' first | exact trivial | exact rfl | apply And.intro)), fun y3 hy3 => ite2_decide (fun _ => ⟨trivial, ?_⟩) (fun h => absurd rfl h)⟩
      have hE : Both x y y3 b c s ∧ Oth2 b c φ y3 := ⟨⟨both_r hy2.1 hR2 hne hy3.2, hy3.1⟩, (hz.1.2.fst.trans hy2.2.fst).trans hy3.2.snd⟩
      have h3 := (boxAt_ref hy3.1).2
      rw [hse] at h3
      exact ite2_decide (fun h => absurd h (by omega)) (fun _ => ⟨q.1, h3, ite2_decide (fun _ => ends hE) (fun h => absurd rfl h)⟩)
end Go.Proofs.YtndlpbheifalhaaGreatDoor.T
end
section
namespace Go.Proofs.YtndlpbheifalhaaGreatDoor.T
open Go.Proofs.YtndlpbheifalhaaGreatDoor.E Go.Proofs.YtndlpbheifalhaaGreatDoor.V
set_option maxRecDepth 100000
set_option linter.unusedVariables false
set_option linter.unusedSimpArgs false
def ct_sameRR (u v : RS) (φ : Bag KK) : Ct KK := { need := Has φ u ∧ Has φ v, pre := [.bag φ], args := [.c (.rs 5 1 u), .c (.rs 5 1 v)], Y := Unit, ok := fun _ => True, ret := fun _ => boolv (decide (cont φ u = cont φ v)), post := fun _ => [.bag φ] }
def inv_sameRR (u v : RS) (φ : Bag KK) : Inv KK := { X := Nat, fr := fun i => [.c (.rs 5 1 u), .c (.rs 5 1 v), .any, .any, .any, i64 i] ++ anys 20, H := fun _ => [.bag φ], ok := fun i => i ≤ (cont φ u).length ∧ (cont φ u).take i = (cont φ v).take i, meas := fun i : Nat => (cont φ u).length - i }
theorem vc_sameRR (u v : RS) (φ : Bag KK) : evFn tab0 (ann1 (inv_sameRR u v φ)) Tryz.f9 (ct_sameRR u v φ) = ( ite2 (decide ((↑u.len : Int) = (↑v.len : Int))) (Enter 1 (inv_sameRR u v φ) (fun (x : Nat) => True) ([VV.one (V1.c (C.rs 5 1 u)), VV.one (V1.c (C.rs 5 1 v)), VV.any, VV.any, boolv false, i64 (0 : Int),
 VV.one (V1.c (C.rs 5 1 u)), i64 (↑u.len : Int), VV.one (V1.c (C.rs 5 1 v)), i64 (↑v.len : Int), boolv false] ++ anys 15) [Atom.bag φ] ∧ ∀ (z : Nat), z ≤ (cont φ u).length ∧ List.take z (cont φ u) = List.take
 z (cont φ v) → ite2 (decide ((↑z : Int) < (↑u.len : Int))) (((0 : Int) ≤ (↑z : Int) ∧ (↑z : Int) < (↑u.len : Int)) ∧ ∃ (cap : Nat), ∃ (xs : List (Int)), φ u.blk = some (BI.row Kd.u8 cap xs) ∧ u.lo + (↑z
 : Int).toNat < xs.length ∧ ((0 : Int) ≤ (↑z : Int) ∧ (↑z : Int) < (↑v.len : Int)) ∧ ∃ (cap : Nat), ∃ (xs_1 : List (Int)), φ v.blk = some (BI.row Kd.u8 cap xs_1) ∧ v.lo + (↑z : Int).toNat < xs_1.length
 ∧ ite2 (decide (rd xs (u.lo + (↑z : Int).toNat) (0 : Int) = rd xs_1 (v.lo + (↑z : Int).toNat) (0 : Int))) (True ∧ i64ok ((↑z : Int) + (1 : Int)) ∧ Enter 1 (inv_sameRR u v φ) (fun (z' : Nat) => (cont φ
 u).length - z' < (cont φ u).length - z) [VV.one (V1.c (C.rs 5 1 u)), VV.one (V1.c (C.rs 5 1 v)), VV.any, VV.any, VV.any, i64 ((↑z : Int) + (1 : Int)), VV.any, VV.any, VV.any, VV.any, VV.any, i64 (↑z :
 Int), VV.one (V1.c (C.rs 5 1 u)), i64 (↑u.len : Int), boolv true, i64 (↑z : Int), i64 ((↑z : Int) + (1 : Int)), VV.one (V1.c (C.rs 5 1 u)), i64 (↑z : Int), VV.one (V1.c (C.rp 5 1 u.blk (u.lo + (↑z : Int).toNat)
 0)), VV.one (V1.c (C.int .u8 (rd xs (u.lo + (↑z : Int).toNat) (0 : Int)))), VV.one (V1.c (C.rs 5 1 v)), i64 (↑z : Int), VV.one (V1.c (C.rp 5 1 v.blk (v.lo + (↑z : Int).toNat) 0)), VV.one (V1.c (C.int .u8
 (rd xs_1 (v.lo + (↑z : Int).toNat) (0 : Int)))), boolv false] [Atom.bag φ]) (True ∧ EndsAs 1 (ct_sameRR u v φ) (boolv false) [Atom.bag φ])) (EndsAs 1 (ct_sameRR u v φ) (boolv true) [Atom.bag φ])) (EndsAs
 1 (ct_sameRR u v φ) (boolv false) [Atom.bag φ])) := by kernel_rfl
theorem sameRR_ok (u v : RS) (φ : Bag KK) : CtOk Tryz.prog 9 (ct_sameRR u v φ) := CtOk_of KK_ok tab0 (ann1 (inv_sameRR u v φ)) (fn := Tryz.f9) rfl (fun _ _ => rfl) fun hn => by
  obtain ⟨⟨hr, h0⟩, hr', h0'⟩ := hn
  have hlx : (cont φ u).length = u.len := RS.row_len hr
  have hly : (cont φ v).length = v.len := RS.row_len hr'
  rw [vc_sameRR]
  simp only [Int.toNat_natCast]
  refine ite2_decide (fun h => ⟨⟨(0 : Nat), [], [0], ⟨Nat.zero_le _, rfl⟩, trivial, into_mk (by kernel_rfl) (by (repeat' first | exact trivial | exact rfl | apply And.intro)) (by (repeat' first | exact trivial | exact rfl | apply And.intro))⟩, ?_⟩) (fun h => ?_)
  · have hxy : (cont φ u).length = (cont φ v).length := by omega
    rintro z ⟨hz, he⟩
    refine ite2_decide (fun hl => ?_) (fun hl => ?_)
    · have hz1 : z < (cont φ u).length := by omega
      obtain ⟨cap, us, e1, e2, e3⟩ := RS.rd hr (show z < u.len by omega) (0 : Int)
      obtain ⟨cap', us', e1', e2', e3'⟩ := RS.rd hr' (show z < v.len by omega) (0 : Int)
      refine ⟨⟨by omega, by omega⟩, cap, us, e1, e2, ⟨by omega, by omega⟩, cap', us', e1', e2', ite2_decide (fun e => ⟨trivial, by unfold i64ok; omega, (z + 1 : Nat), [], [0], ⟨hz1, ?_⟩, by omega, into_mk (by kernel_rfl) (by (repeat' first | exact trivial | exact rfl | apply And.intro)) (by (repeat' first | exact trivial | exact rfl | apply And.intro))⟩) (fun e => ?_)⟩
      · show (cont φ u).take (z + 1) = (cont φ v).take (z + 1)
        have e5 : rd (cont φ u) z 0 = rd (cont φ v) z 0 := e3.symm.trans (e.trans e3')
        rw [take_succ_rd hz1, take_succ_rd (show z < (cont φ v).length by omega), he, e5]
      · have hq : false = decide (cont φ u = cont φ v) := (decide_eq_false (fun e' => e (e3.trans ((rd_of_eq e' z).trans e3'.symm)))).symm
        exact ⟨trivial, (), [], [0], trivial, by (repeat' first | exact trivial | exact rfl | exact hq | apply And.intro)⟩
    · have hq : true = decide (cont φ u = cont φ v) := (decide_eq_true (by rw [List.take_of_length_le (by omega), List.take_of_length_le (by omega)] at he; exact he)).symm
      exact ⟨(), [], [0], trivial, by (repeat' first | exact trivial | exact rfl | exact hq | apply And.intro)⟩
  · have hq : false = decide (cont φ u = cont φ v) := (decide_eq_false (fun e' => h (by rw [← hlx, ← hly, e']))).symm
    exact ⟨(), [], [0], trivial, by (repeat' first | exact trivial | exact rfl | exact hq | apply And.intro)⟩
end Go.Proofs.YtndlpbheifalhaaGreatDoor.T
end
section
namespace Go.Proofs.YtndlpbheifalhaaGreatDoor.T
open Go.Proofs.YtndlpbheifalhaaGreatDoor.E
set_option maxRecDepth 100000
set_option linter.unusedVariables false
/-- What a book's cells hold beside the lists of the kinds that it was not told of. -/
structure BS where
  turn : Int
  deep : Int
  o : List RS
  t : List RS
  w : List RS
  n : List RS
  f : List RS
  m : List Int
  d : List Int
  r : List Int
  seen : Int
def noneK : List C := [.nils, .nils, .nils, .nils, .nils, .nils, .nils, .nils, .int .i64 0]
def noK : Nat → List C
  | 0 => []
  | n + 1 => noneK ++ noK n
def bookC (now bad : Bool) (turn deep : Int) (mid : List C) : List C := [.bool now, .bool bad, .int .i64 turn, .int .i64 deep] ++ (noK 0 ++ (mid ++ noK 15))
def midC (B : BS) : List C := [.slc 1 0 B.o.length none, .slc 2 0 B.t.length none, .slc 3 0 B.w.length none, .slc 4 0 B.n.length none, .slc 5 0 B.f.length none, .slc 6 0 B.m.length none, .slc 7 0 B.d.length none, .slc 8 0 B.r.length none, .int .i64 B.seen]
def bookH (B : BS) : VH KK := [.cells 46 (bookC false false B.turn B.deep (midC B)), .arr .ru8 B.o, .arr .ru8 B.t, .arr .ru8 B.w, .arr .ru8 B.n, .arr .ru8 B.f, .arr .int B.m, .arr .int B.d, .arr .int B.r]
abbrev bookN : List Nat := [0, 1, 2, 3, 4, 5, 6, 7, 8]
def ct_b (B : BS) (v : VV) : Ct KK := { need := True, pre := bookH B, args := [.c (.ptr 0 0 0)], Y := Unit, ok := fun _ => True, ret := fun _ => v, post := fun _ => bookH B }
def inv_b (B : BS) (fr : List VV) : Inv KK := { X := Unit, fr := fun _ => fr, H := fun _ => bookH B, ok := fun _ => True, meas := fun _ => 0 }
def ann_h (B : BS) (n : Nat) : Ann KK := { loop := fun id _ _ => match id with | 2 => some (inv_b B ([.c (.ptr 0 0 0), .any, .any, i64 0] ++ anys (n - 4))) | _ => some (inv_b B ([.c (.ptr 0 0 0), .any, .any, .any, i64 0] ++ anys (n - 5))), cut := fun _ _ _ => none }
theorem vc_mInts (B : BS) : evFn tab0 ann0 Tryz.f93 (ct_b B (.tup [])) = ( EndsAs 9 (ct_b B (VV.tup [])) (VV.tup []) (bookH B)) := by kernel_rfl
theorem vc_gInts (B : BS) : evFn tab0 (ann1 (inv_b B ([.c (.ptr 0 0 0), .any, i64 0] ++ anys (Tryz.f109.ntmps - 3)))) Tryz.f109 (ct_b B (.tup [])) = ( Enter 9 (inv_b B ([VV.c (C.ptr 0 0 0), VV.any, i64 (0 : Int)] ++ anys (Tryz.f109.ntmps - 3))) (fun (x : Unit) => True) ([VV.one (V1.c (C.ptr 0 0 0)), VV.any, i64 (0 : Int)] ++ anys 66) (bookH B) ∧ ∀ (z
 : Unit), True → EndsAs 9 (ct_b B (VV.tup [])) (VV.tup []) (bookH B)) := by kernel_rfl
theorem vc_hInts (B : BS) : evFn tab0 (ann_h B Tryz.f37.ntmps) Tryz.f37 (ct_b B (boolv true)) = ( Enter 9 (inv_b B ([VV.c (C.ptr 0 0 0), VV.any, VV.any, i64 (0 : Int)] ++ anys (Tryz.f37.ntmps - 4))) (fun (x : Unit) => True) ([VV.one (V1.c (C.ptr 0 0 0)), VV.any, boolv false, i64 (0 : Int)] ++ anys
 51) (bookH B) ∧ ∀ (z : Unit), True → Enter 9 (inv_b B ([VV.c (C.ptr 0 0 0), VV.any, VV.any, VV.any, i64 (0 : Int)] ++ anys (Tryz.f37.ntmps - 5))) (fun (x : Unit) => True) ([VV.one (V1.c (C.ptr 0 0 0)),
 VV.any, VV.any, i64 (0 : Int), i64 (0 : Int), i64 (0 : Int), VV.one (V1.c (C.ptr 0 0 0)), VV.one (V1.c (C.ptr 0 0 0)), VV.one (V1.c (C.ptr 0 0 13)), VV.one (V1.c C.nils), i64 (0 : Int), boolv false] ++
 anys 43) (bookH B) ∧ ∀ (z : Unit), True → EndsAs 9 (ct_b B (boolv true)) (boolv true) (bookH B)) := by kernel_rfl
theorem vc_mTexts (B : BS) : evFn tab0 ann0 Tryz.f94 (ct_b B (.tup [])) = ( EndsAs 9 (ct_b B (VV.tup [])) (VV.tup []) (bookH B)) := by kernel_rfl
theorem vc_gTexts (B : BS) : evFn tab0 (ann1 (inv_b B ([.c (.ptr 0 0 0), .any, i64 0] ++ anys (Tryz.f110.ntmps - 3)))) Tryz.f110 (ct_b B (.tup [])) = ( Enter 9 (inv_b B ([VV.c (C.ptr 0 0 0), VV.any, i64 (0 : Int)] ++ anys (Tryz.f110.ntmps - 3))) (fun (x : Unit) => True) ([VV.one (V1.c (C.ptr 0 0 0)), VV.any, i64 (0 : Int)] ++ anys 67) (bookH B) ∧ ∀ (z
 : Unit), True → EndsAs 9 (ct_b B (VV.tup [])) (VV.tup []) (bookH B)) := by kernel_rfl
theorem vc_hTexts (B : BS) : evFn tab0 (ann_h B Tryz.f38.ntmps) Tryz.f38 (ct_b B (boolv true)) = ( Enter 9 (inv_b B ([VV.c (C.ptr 0 0 0), VV.any, VV.any, i64 (0 : Int)] ++ anys (Tryz.f38.ntmps - 4))) (fun (x : Unit) => True) ([VV.one (V1.c (C.ptr 0 0 0)), VV.any, boolv false, i64 (0 : Int)] ++ anys
 51) (bookH B) ∧ ∀ (z : Unit), True → Enter 9 (inv_b B ([VV.c (C.ptr 0 0 0), VV.any, VV.any, VV.any, i64 (0 : Int)] ++ anys (Tryz.f38.ntmps - 5))) (fun (x : Unit) => True) ([VV.one (V1.c (C.ptr 0 0 0)),
 VV.any, VV.any, i64 (0 : Int), i64 (0 : Int), i64 (0 : Int), VV.one (V1.c (C.ptr 0 0 0)), VV.one (V1.c (C.ptr 0 0 0)), VV.one (V1.c (C.ptr 0 0 22)), VV.one (V1.c C.nils), i64 (0 : Int), boolv false] ++
 anys 43) (bookH B) ∧ ∀ (z : Unit), True → EndsAs 9 (ct_b B (boolv true)) (boolv true) (bookH B)) := by kernel_rfl
theorem vc_mLosts (B : BS) : evFn tab0 ann0 Tryz.f95 (ct_b B (.tup [])) = ( EndsAs 9 (ct_b B (VV.tup [])) (VV.tup []) (bookH B)) := by kernel_rfl
theorem vc_gLosts (B : BS) : evFn tab0 (ann1 (inv_b B ([.c (.ptr 0 0 0), .any, i64 0] ++ anys (Tryz.f111.ntmps - 3)))) Tryz.f111 (ct_b B (.tup [])) = ( Enter 9 (inv_b B ([VV.c (C.ptr 0 0 0), VV.any, i64 (0 : Int)] ++ anys (Tryz.f111.ntmps - 3))) (fun (x : Unit) => True) ([VV.one (V1.c (C.ptr 0 0 0)), VV.any, i64 (0 : Int)] ++ anys 68) (bookH B) ∧ ∀ (z
 : Unit), True → EndsAs 9 (ct_b B (VV.tup [])) (VV.tup []) (bookH B)) := by kernel_rfl
theorem vc_hLosts (B : BS) : evFn tab0 (ann_h B Tryz.f39.ntmps) Tryz.f39 (ct_b B (boolv true)) = ( Enter 9 (inv_b B ([VV.c (C.ptr 0 0 0), VV.any, VV.any, i64 (0 : Int)] ++ anys (Tryz.f39.ntmps - 4))) (fun (x : Unit) => True) ([VV.one (V1.c (C.ptr 0 0 0)), VV.any, boolv false, i64 (0 : Int)] ++ anys
 51) (bookH B) ∧ ∀ (z : Unit), True → Enter 9 (inv_b B ([VV.c (C.ptr 0 0 0), VV.any, VV.any, VV.any, i64 (0 : Int)] ++ anys (Tryz.f39.ntmps - 5))) (fun (x : Unit) => True) ([VV.one (V1.c (C.ptr 0 0 0)),
 VV.any, VV.any, i64 (0 : Int), i64 (0 : Int), i64 (0 : Int), VV.one (V1.c (C.ptr 0 0 0)), VV.one (V1.c (C.ptr 0 0 0)), VV.one (V1.c (C.ptr 0 0 31)), VV.one (V1.c C.nils), i64 (0 : Int), boolv false] ++
 anys 43) (bookH B) ∧ ∀ (z : Unit), True → EndsAs 9 (ct_b B (boolv true)) (boolv true) (bookH B)) := by kernel_rfl
theorem vc_mChanges (B : BS) : evFn tab0 ann0 Tryz.f96 (ct_b B (.tup [])) = ( EndsAs 9 (ct_b B (VV.tup [])) (VV.tup []) (bookH B)) := by kernel_rfl
theorem vc_gChanges (B : BS) : evFn tab0 (ann1 (inv_b B ([.c (.ptr 0 0 0), .any, i64 0] ++ anys (Tryz.f112.ntmps - 3)))) Tryz.f112 (ct_b B (.tup [])) = ( Enter 9 (inv_b B ([VV.c (C.ptr 0 0 0), VV.any, i64 (0 : Int)] ++ anys (Tryz.f112.ntmps - 3))) (fun (x : Unit) => True) ([VV.one (V1.c (C.ptr 0 0 0)), VV.any, i64 (0 : Int)] ++ anys 68) (bookH B) ∧ ∀ (z
 : Unit), True → EndsAs 9 (ct_b B (VV.tup [])) (VV.tup []) (bookH B)) := by kernel_rfl
theorem vc_hChanges (B : BS) : evFn tab0 (ann_h B Tryz.f40.ntmps) Tryz.f40 (ct_b B (boolv true)) = ( Enter 9 (inv_b B ([VV.c (C.ptr 0 0 0), VV.any, VV.any, i64 (0 : Int)] ++ anys (Tryz.f40.ntmps - 4))) (fun (x : Unit) => True) ([VV.one (V1.c (C.ptr 0 0 0)), VV.any, boolv false, i64 (0 : Int)] ++ anys
 51) (bookH B) ∧ ∀ (z : Unit), True → Enter 9 (inv_b B ([VV.c (C.ptr 0 0 0), VV.any, VV.any, VV.any, i64 (0 : Int)] ++ anys (Tryz.f40.ntmps - 5))) (fun (x : Unit) => True) ([VV.one (V1.c (C.ptr 0 0 0)),
 VV.any, VV.any, i64 (0 : Int), i64 (0 : Int), i64 (0 : Int), VV.one (V1.c (C.ptr 0 0 0)), VV.one (V1.c (C.ptr 0 0 0)), VV.one (V1.c (C.ptr 0 0 40)), VV.one (V1.c C.nils), i64 (0 : Int), boolv false] ++
 anys 43) (bookH B) ∧ ∀ (z : Unit), True → EndsAs 9 (ct_b B (boolv true)) (boolv true) (bookH B)) := by kernel_rfl
theorem vc_mCells (B : BS) : evFn tab0 ann0 Tryz.f97 (ct_b B (.tup [])) = ( EndsAs 9 (ct_b B (VV.tup [])) (VV.tup []) (bookH B)) := by kernel_rfl
theorem vc_gCells (B : BS) : evFn tab0 (ann1 (inv_b B ([.c (.ptr 0 0 0), .any, i64 0] ++ anys (Tryz.f113.ntmps - 3)))) Tryz.f113 (ct_b B (.tup [])) = ( Enter 9 (inv_b B ([VV.c (C.ptr 0 0 0), VV.any, i64 (0 : Int)] ++ anys (Tryz.f113.ntmps - 3))) (fun (x : Unit) => True) ([VV.one (V1.c (C.ptr 0 0 0)), VV.any, i64 (0 : Int)] ++ anys 67) (bookH B) ∧ ∀ (z
 : Unit), True → EndsAs 9 (ct_b B (VV.tup [])) (VV.tup []) (bookH B)) := by kernel_rfl
theorem vc_hCells (B : BS) : evFn tab0 (ann_h B Tryz.f41.ntmps) Tryz.f41 (ct_b B (boolv true)) = ( Enter 9 (inv_b B ([VV.c (C.ptr 0 0 0), VV.any, VV.any, i64 (0 : Int)] ++ anys (Tryz.f41.ntmps - 4))) (fun (x : Unit) => True) ([VV.one (V1.c (C.ptr 0 0 0)), VV.any, boolv false, i64 (0 : Int)] ++ anys
 51) (bookH B) ∧ ∀ (z : Unit), True → Enter 9 (inv_b B ([VV.c (C.ptr 0 0 0), VV.any, VV.any, VV.any, i64 (0 : Int)] ++ anys (Tryz.f41.ntmps - 5))) (fun (x : Unit) => True) ([VV.one (V1.c (C.ptr 0 0 0)),
 VV.any, VV.any, i64 (0 : Int), i64 (0 : Int), i64 (0 : Int), VV.one (V1.c (C.ptr 0 0 0)), VV.one (V1.c (C.ptr 0 0 0)), VV.one (V1.c (C.ptr 0 0 49)), VV.one (V1.c C.nils), i64 (0 : Int), boolv false] ++
 anys 43) (bookH B) ∧ ∀ (z : Unit), True → EndsAs 9 (ct_b B (boolv true)) (boolv true) (bookH B)) := by kernel_rfl
theorem vc_mItems (B : BS) : evFn tab0 ann0 Tryz.f98 (ct_b B (.tup [])) = ( EndsAs 9 (ct_b B (VV.tup [])) (VV.tup []) (bookH B)) := by kernel_rfl
theorem vc_gItems (B : BS) : evFn tab0 (ann1 (inv_b B ([.c (.ptr 0 0 0), .any, i64 0] ++ anys (Tryz.f114.ntmps - 3)))) Tryz.f114 (ct_b B (.tup [])) = ( Enter 9 (inv_b B ([VV.c (C.ptr 0 0 0), VV.any, i64 (0 : Int)] ++ anys (Tryz.f114.ntmps - 3))) (fun (x : Unit) => True) ([VV.one (V1.c (C.ptr 0 0 0)), VV.any, i64 (0 : Int)] ++ anys 67) (bookH B) ∧ ∀ (z
 : Unit), True → EndsAs 9 (ct_b B (VV.tup [])) (VV.tup []) (bookH B)) := by kernel_rfl
theorem vc_hItems (B : BS) : evFn tab0 (ann_h B Tryz.f42.ntmps) Tryz.f42 (ct_b B (boolv true)) = ( Enter 9 (inv_b B ([VV.c (C.ptr 0 0 0), VV.any, VV.any, i64 (0 : Int)] ++ anys (Tryz.f42.ntmps - 4))) (fun (x : Unit) => True) ([VV.one (V1.c (C.ptr 0 0 0)), VV.any, boolv false, i64 (0 : Int)] ++ anys
 51) (bookH B) ∧ ∀ (z : Unit), True → Enter 9 (inv_b B ([VV.c (C.ptr 0 0 0), VV.any, VV.any, VV.any, i64 (0 : Int)] ++ anys (Tryz.f42.ntmps - 5))) (fun (x : Unit) => True) ([VV.one (V1.c (C.ptr 0 0 0)),
 VV.any, VV.any, i64 (0 : Int), i64 (0 : Int), i64 (0 : Int), VV.one (V1.c (C.ptr 0 0 0)), VV.one (V1.c (C.ptr 0 0 0)), VV.one (V1.c (C.ptr 0 0 58)), VV.one (V1.c C.nils), i64 (0 : Int), boolv false] ++
 anys 43) (bookH B) ∧ ∀ (z : Unit), True → EndsAs 9 (ct_b B (boolv true)) (boolv true) (bookH B)) := by kernel_rfl
theorem vc_mEntries (B : BS) : evFn tab0 ann0 Tryz.f99 (ct_b B (.tup [])) = ( EndsAs 9 (ct_b B (VV.tup [])) (VV.tup []) (bookH B)) := by kernel_rfl
theorem vc_gEntries (B : BS) : evFn tab0 (ann1 (inv_b B ([.c (.ptr 0 0 0), .any, i64 0] ++ anys (Tryz.f115.ntmps - 3)))) Tryz.f115 (ct_b B (.tup [])) = ( Enter 9 (inv_b B ([VV.c (C.ptr 0 0 0), VV.any, i64 (0 : Int)] ++ anys (Tryz.f115.ntmps - 3))) (fun (x : Unit) => True) ([VV.one (V1.c (C.ptr 0 0 0)), VV.any, i64 (0 : Int)] ++ anys 67) (bookH B) ∧ ∀ (z
 : Unit), True → EndsAs 9 (ct_b B (VV.tup [])) (VV.tup []) (bookH B)) := by kernel_rfl
theorem vc_hEntries (B : BS) : evFn tab0 (ann_h B Tryz.f43.ntmps) Tryz.f43 (ct_b B (boolv true)) = ( Enter 9 (inv_b B ([VV.c (C.ptr 0 0 0), VV.any, VV.any, i64 (0 : Int)] ++ anys (Tryz.f43.ntmps - 4))) (fun (x : Unit) => True) ([VV.one (V1.c (C.ptr 0 0 0)), VV.any, boolv false, i64 (0 : Int)] ++ anys
 51) (bookH B) ∧ ∀ (z : Unit), True → Enter 9 (inv_b B ([VV.c (C.ptr 0 0 0), VV.any, VV.any, VV.any, i64 (0 : Int)] ++ anys (Tryz.f43.ntmps - 5))) (fun (x : Unit) => True) ([VV.one (V1.c (C.ptr 0 0 0)),
 VV.any, VV.any, i64 (0 : Int), i64 (0 : Int), i64 (0 : Int), VV.one (V1.c (C.ptr 0 0 0)), VV.one (V1.c (C.ptr 0 0 0)), VV.one (V1.c (C.ptr 0 0 67)), VV.one (V1.c C.nils), i64 (0 : Int), boolv false] ++
 anys 43) (bookH B) ∧ ∀ (z : Unit), True → EndsAs 9 (ct_b B (boolv true)) (boolv true) (bookH B)) := by kernel_rfl
theorem vc_mPlaceds (B : BS) : evFn tab0 ann0 Tryz.f100 (ct_b B (.tup [])) = ( EndsAs 9 (ct_b B (VV.tup [])) (VV.tup []) (bookH B)) := by kernel_rfl
theorem vc_gPlaceds (B : BS) : evFn tab0 (ann1 (inv_b B ([.c (.ptr 0 0 0), .any, i64 0] ++ anys (Tryz.f116.ntmps - 3)))) Tryz.f116 (ct_b B (.tup [])) = ( Enter 9 (inv_b B ([VV.c (C.ptr 0 0 0), VV.any, i64 (0 : Int)] ++ anys (Tryz.f116.ntmps - 3))) (fun (x : Unit) => True) ([VV.one (V1.c (C.ptr 0 0 0)), VV.any, i64 (0 : Int)] ++ anys 67) (bookH B) ∧ ∀ (z
 : Unit), True → EndsAs 9 (ct_b B (VV.tup [])) (VV.tup []) (bookH B)) := by kernel_rfl
theorem vc_hPlaceds (B : BS) : evFn tab0 (ann_h B Tryz.f44.ntmps) Tryz.f44 (ct_b B (boolv true)) = ( Enter 9 (inv_b B ([VV.c (C.ptr 0 0 0), VV.any, VV.any, i64 (0 : Int)] ++ anys (Tryz.f44.ntmps - 4))) (fun (x : Unit) => True) ([VV.one (V1.c (C.ptr 0 0 0)), VV.any, boolv false, i64 (0 : Int)] ++ anys
 51) (bookH B) ∧ ∀ (z : Unit), True → Enter 9 (inv_b B ([VV.c (C.ptr 0 0 0), VV.any, VV.any, VV.any, i64 (0 : Int)] ++ anys (Tryz.f44.ntmps - 5))) (fun (x : Unit) => True) ([VV.one (V1.c (C.ptr 0 0 0)),
 VV.any, VV.any, i64 (0 : Int), i64 (0 : Int), i64 (0 : Int), VV.one (V1.c (C.ptr 0 0 0)), VV.one (V1.c (C.ptr 0 0 0)), VV.one (V1.c (C.ptr 0 0 76)), VV.one (V1.c C.nils), i64 (0 : Int), boolv false] ++
 anys 43) (bookH B) ∧ ∀ (z : Unit), True → EndsAs 9 (ct_b B (boolv true)) (boolv true) (bookH B)) := by kernel_rfl
theorem vc_mRules (B : BS) : evFn tab0 ann0 Tryz.f101 (ct_b B (.tup [])) = ( EndsAs 9 (ct_b B (VV.tup [])) (VV.tup []) (bookH B)) := by kernel_rfl
theorem vc_gRules (B : BS) : evFn tab0 (ann1 (inv_b B ([.c (.ptr 0 0 0), .any, i64 0] ++ anys (Tryz.f117.ntmps - 3)))) Tryz.f117 (ct_b B (.tup [])) = ( Enter 9 (inv_b B ([VV.c (C.ptr 0 0 0), VV.any, i64 (0 : Int)] ++ anys (Tryz.f117.ntmps - 3))) (fun (x : Unit) => True) ([VV.one (V1.c (C.ptr 0 0 0)), VV.any, i64 (0 : Int)] ++ anys 67) (bookH B) ∧ ∀ (z
 : Unit), True → EndsAs 9 (ct_b B (VV.tup [])) (VV.tup []) (bookH B)) := by kernel_rfl
theorem vc_hRules (B : BS) : evFn tab0 (ann_h B Tryz.f45.ntmps) Tryz.f45 (ct_b B (boolv true)) = ( Enter 9 (inv_b B ([VV.c (C.ptr 0 0 0), VV.any, VV.any, i64 (0 : Int)] ++ anys (Tryz.f45.ntmps - 4))) (fun (x : Unit) => True) ([VV.one (V1.c (C.ptr 0 0 0)), VV.any, boolv false, i64 (0 : Int)] ++ anys
 51) (bookH B) ∧ ∀ (z : Unit), True → Enter 9 (inv_b B ([VV.c (C.ptr 0 0 0), VV.any, VV.any, VV.any, i64 (0 : Int)] ++ anys (Tryz.f45.ntmps - 5))) (fun (x : Unit) => True) ([VV.one (V1.c (C.ptr 0 0 0)),
 VV.any, VV.any, i64 (0 : Int), i64 (0 : Int), i64 (0 : Int), VV.one (V1.c (C.ptr 0 0 0)), VV.one (V1.c (C.ptr 0 0 0)), VV.one (V1.c (C.ptr 0 0 85)), VV.one (V1.c C.nils), i64 (0 : Int), boolv false] ++
 anys 43) (bookH B) ∧ ∀ (z : Unit), True → EndsAs 9 (ct_b B (boolv true)) (boolv true) (bookH B)) := by kernel_rfl
theorem vc_mFaults (B : BS) : evFn tab0 ann0 Tryz.f102 (ct_b B (.tup [])) = ( EndsAs 9 (ct_b B (VV.tup [])) (VV.tup []) (bookH B)) := by kernel_rfl
theorem vc_gFaults (B : BS) : evFn tab0 (ann1 (inv_b B ([.c (.ptr 0 0 0), .any, i64 0] ++ anys (Tryz.f118.ntmps - 3)))) Tryz.f118 (ct_b B (.tup [])) = ( Enter 9 (inv_b B ([VV.c (C.ptr 0 0 0), VV.any, i64 (0 : Int)] ++ anys (Tryz.f118.ntmps - 3))) (fun (x : Unit) => True) ([VV.one (V1.c (C.ptr 0 0 0)), VV.any, i64 (0 : Int)] ++ anys 67) (bookH B) ∧ ∀ (z
 : Unit), True → EndsAs 9 (ct_b B (VV.tup [])) (VV.tup []) (bookH B)) := by kernel_rfl
theorem vc_hFaults (B : BS) : evFn tab0 (ann_h B Tryz.f46.ntmps) Tryz.f46 (ct_b B (boolv true)) = ( Enter 9 (inv_b B ([VV.c (C.ptr 0 0 0), VV.any, VV.any, i64 (0 : Int)] ++ anys (Tryz.f46.ntmps - 4))) (fun (x : Unit) => True) ([VV.one (V1.c (C.ptr 0 0 0)), VV.any, boolv false, i64 (0 : Int)] ++ anys
 51) (bookH B) ∧ ∀ (z : Unit), True → Enter 9 (inv_b B ([VV.c (C.ptr 0 0 0), VV.any, VV.any, VV.any, i64 (0 : Int)] ++ anys (Tryz.f46.ntmps - 5))) (fun (x : Unit) => True) ([VV.one (V1.c (C.ptr 0 0 0)),
 VV.any, VV.any, i64 (0 : Int), i64 (0 : Int), i64 (0 : Int), VV.one (V1.c (C.ptr 0 0 0)), VV.one (V1.c (C.ptr 0 0 0)), VV.one (V1.c (C.ptr 0 0 94)), VV.one (V1.c C.nils), i64 (0 : Int), boolv false] ++
 anys 43) (bookH B) ∧ ∀ (z : Unit), True → EndsAs 9 (ct_b B (boolv true)) (boolv true) (bookH B)) := by kernel_rfl
theorem vc_mChunks (B : BS) : evFn tab0 ann0 Tryz.f103 (ct_b B (.tup [])) = ( EndsAs 9 (ct_b B (VV.tup [])) (VV.tup []) (bookH B)) := by kernel_rfl
theorem vc_gChunks (B : BS) : evFn tab0 (ann1 (inv_b B ([.c (.ptr 0 0 0), .any, i64 0] ++ anys (Tryz.f119.ntmps - 3)))) Tryz.f119 (ct_b B (.tup [])) = ( Enter 9 (inv_b B ([VV.c (C.ptr 0 0 0), VV.any, i64 (0 : Int)] ++ anys (Tryz.f119.ntmps - 3))) (fun (x : Unit) => True) ([VV.one (V1.c (C.ptr 0 0 0)), VV.any, i64 (0 : Int)] ++ anys 68) (bookH B) ∧ ∀ (z
 : Unit), True → EndsAs 9 (ct_b B (VV.tup [])) (VV.tup []) (bookH B)) := by kernel_rfl
theorem vc_hChunks (B : BS) : evFn tab0 (ann_h B Tryz.f47.ntmps) Tryz.f47 (ct_b B (boolv true)) = ( Enter 9 (inv_b B ([VV.c (C.ptr 0 0 0), VV.any, VV.any, i64 (0 : Int)] ++ anys (Tryz.f47.ntmps - 4))) (fun (x : Unit) => True) ([VV.one (V1.c (C.ptr 0 0 0)), VV.any, boolv false, i64 (0 : Int)] ++ anys
 51) (bookH B) ∧ ∀ (z : Unit), True → Enter 9 (inv_b B ([VV.c (C.ptr 0 0 0), VV.any, VV.any, VV.any, i64 (0 : Int)] ++ anys (Tryz.f47.ntmps - 5))) (fun (x : Unit) => True) ([VV.one (V1.c (C.ptr 0 0 0)),
 VV.any, VV.any, i64 (0 : Int), i64 (0 : Int), i64 (0 : Int), VV.one (V1.c (C.ptr 0 0 0)), VV.one (V1.c (C.ptr 0 0 0)), VV.one (V1.c (C.ptr 0 0 103)), VV.one (V1.c C.nils), i64 (0 : Int), boolv false] ++
 anys 43) (bookH B) ∧ ∀ (z : Unit), True → EndsAs 9 (ct_b B (boolv true)) (boolv true) (bookH B)) := by kernel_rfl
theorem vc_mThings (B : BS) : evFn tab0 ann0 Tryz.f104 (ct_b B (.tup [])) = ( EndsAs 9 (ct_b B (VV.tup [])) (VV.tup []) (bookH B)) := by kernel_rfl
theorem vc_gThings (B : BS) : evFn tab0 (ann1 (inv_b B ([.c (.ptr 0 0 0), .any, i64 0] ++ anys (Tryz.f120.ntmps - 3)))) Tryz.f120 (ct_b B (.tup [])) = ( Enter 9 (inv_b B ([VV.c (C.ptr 0 0 0), VV.any, i64 (0 : Int)] ++ anys (Tryz.f120.ntmps - 3))) (fun (x : Unit) => True) ([VV.one (V1.c (C.ptr 0 0 0)), VV.any, i64 (0 : Int)] ++ anys 67) (bookH B) ∧ ∀ (z
 : Unit), True → EndsAs 9 (ct_b B (VV.tup [])) (VV.tup []) (bookH B)) := by kernel_rfl
theorem vc_hThings (B : BS) : evFn tab0 (ann_h B Tryz.f48.ntmps) Tryz.f48 (ct_b B (boolv true)) = ( Enter 9 (inv_b B ([VV.c (C.ptr 0 0 0), VV.any, VV.any, i64 (0 : Int)] ++ anys (Tryz.f48.ntmps - 4))) (fun (x : Unit) => True) ([VV.one (V1.c (C.ptr 0 0 0)), VV.any, boolv false, i64 (0 : Int)] ++ anys
 51) (bookH B) ∧ ∀ (z : Unit), True → Enter 9 (inv_b B ([VV.c (C.ptr 0 0 0), VV.any, VV.any, VV.any, i64 (0 : Int)] ++ anys (Tryz.f48.ntmps - 5))) (fun (x : Unit) => True) ([VV.one (V1.c (C.ptr 0 0 0)),
 VV.any, VV.any, i64 (0 : Int), i64 (0 : Int), i64 (0 : Int), VV.one (V1.c (C.ptr 0 0 0)), VV.one (V1.c (C.ptr 0 0 0)), VV.one (V1.c (C.ptr 0 0 112)), VV.one (V1.c C.nils), i64 (0 : Int), boolv false] ++
 anys 43) (bookH B) ∧ ∀ (z : Unit), True → EndsAs 9 (ct_b B (boolv true)) (boolv true) (bookH B)) := by kernel_rfl
theorem vc_mDones (B : BS) : evFn tab0 ann0 Tryz.f105 (ct_b B (.tup [])) = ( EndsAs 9 (ct_b B (VV.tup [])) (VV.tup []) (bookH B)) := by kernel_rfl
theorem vc_gDones (B : BS) : evFn tab0 (ann1 (inv_b B ([.c (.ptr 0 0 0), .any, i64 0] ++ anys (Tryz.f121.ntmps - 3)))) Tryz.f121 (ct_b B (.tup [])) = ( Enter 9 (inv_b B ([VV.c (C.ptr 0 0 0), VV.any, i64 (0 : Int)] ++ anys (Tryz.f121.ntmps - 3))) (fun (x : Unit) => True) ([VV.one (V1.c (C.ptr 0 0 0)), VV.any, i64 (0 : Int)] ++ anys 67) (bookH B) ∧ ∀ (z
 : Unit), True → EndsAs 9 (ct_b B (VV.tup [])) (VV.tup []) (bookH B)) := by kernel_rfl
theorem vc_hDones (B : BS) : evFn tab0 (ann_h B Tryz.f49.ntmps) Tryz.f49 (ct_b B (boolv true)) = ( Enter 9 (inv_b B ([VV.c (C.ptr 0 0 0), VV.any, VV.any, i64 (0 : Int)] ++ anys (Tryz.f49.ntmps - 4))) (fun (x : Unit) => True) ([VV.one (V1.c (C.ptr 0 0 0)), VV.any, boolv false, i64 (0 : Int)] ++ anys
 51) (bookH B) ∧ ∀ (z : Unit), True → Enter 9 (inv_b B ([VV.c (C.ptr 0 0 0), VV.any, VV.any, VV.any, i64 (0 : Int)] ++ anys (Tryz.f49.ntmps - 5))) (fun (x : Unit) => True) ([VV.one (V1.c (C.ptr 0 0 0)),
 VV.any, VV.any, i64 (0 : Int), i64 (0 : Int), i64 (0 : Int), VV.one (V1.c (C.ptr 0 0 0)), VV.one (V1.c (C.ptr 0 0 0)), VV.one (V1.c (C.ptr 0 0 121)), VV.one (V1.c C.nils), i64 (0 : Int), boolv false] ++
 anys 43) (bookH B) ∧ ∀ (z : Unit), True → EndsAs 9 (ct_b B (boolv true)) (boolv true) (bookH B)) := by kernel_rfl
theorem vc_mNodes (B : BS) : evFn tab0 ann0 Tryz.f106 (ct_b B (.tup [])) = ( EndsAs 9 (ct_b B (VV.tup [])) (VV.tup []) (bookH B)) := by kernel_rfl
theorem vc_gNodes (B : BS) : evFn tab0 (ann1 (inv_b B ([.c (.ptr 0 0 0), .any, i64 0] ++ anys (Tryz.f122.ntmps - 3)))) Tryz.f122 (ct_b B (.tup [])) = ( Enter 9 (inv_b B ([VV.c (C.ptr 0 0 0), VV.any, i64 (0 : Int)] ++ anys (Tryz.f122.ntmps - 3))) (fun (x : Unit) => True) ([VV.one (V1.c (C.ptr 0 0 0)), VV.any, i64 (0 : Int)] ++ anys 68) (bookH B) ∧ ∀ (z
 : Unit), True → EndsAs 9 (ct_b B (VV.tup [])) (VV.tup []) (bookH B)) := by kernel_rfl
theorem vc_hNodes (B : BS) : evFn tab0 (ann_h B Tryz.f50.ntmps) Tryz.f50 (ct_b B (boolv true)) = ( Enter 9 (inv_b B ([VV.c (C.ptr 0 0 0), VV.any, VV.any, i64 (0 : Int)] ++ anys (Tryz.f50.ntmps - 4))) (fun (x : Unit) => True) ([VV.one (V1.c (C.ptr 0 0 0)), VV.any, boolv false, i64 (0 : Int)] ++ anys
 51) (bookH B) ∧ ∀ (z : Unit), True → Enter 9 (inv_b B ([VV.c (C.ptr 0 0 0), VV.any, VV.any, VV.any, i64 (0 : Int)] ++ anys (Tryz.f50.ntmps - 5))) (fun (x : Unit) => True) ([VV.one (V1.c (C.ptr 0 0 0)),
 VV.any, VV.any, i64 (0 : Int), i64 (0 : Int), i64 (0 : Int), VV.one (V1.c (C.ptr 0 0 0)), VV.one (V1.c (C.ptr 0 0 0)), VV.one (V1.c (C.ptr 0 0 130)), VV.one (V1.c C.nils), i64 (0 : Int), boolv false] ++
 anys 43) (bookH B) ∧ ∀ (z : Unit), True → EndsAs 9 (ct_b B (boolv true)) (boolv true) (bookH B)) := by kernel_rfl
theorem vc_mSteps (B : BS) : evFn tab0 ann0 Tryz.f107 (ct_b B (.tup [])) = ( EndsAs 9 (ct_b B (VV.tup [])) (VV.tup []) (bookH B)) := by kernel_rfl
theorem vc_gSteps (B : BS) : evFn tab0 (ann1 (inv_b B ([.c (.ptr 0 0 0), .any, i64 0] ++ anys (Tryz.f123.ntmps - 3)))) Tryz.f123 (ct_b B (.tup [])) = ( Enter 9 (inv_b B ([VV.c (C.ptr 0 0 0), VV.any, i64 (0 : Int)] ++ anys (Tryz.f123.ntmps - 3))) (fun (x : Unit) => True) ([VV.one (V1.c (C.ptr 0 0 0)), VV.any, i64 (0 : Int)] ++ anys 67) (bookH B) ∧ ∀ (z
 : Unit), True → EndsAs 9 (ct_b B (VV.tup [])) (VV.tup []) (bookH B)) := by kernel_rfl
theorem vc_hSteps (B : BS) : evFn tab0 (ann_h B Tryz.f51.ntmps) Tryz.f51 (ct_b B (boolv true)) = ( Enter 9 (inv_b B ([VV.c (C.ptr 0 0 0), VV.any, VV.any, i64 (0 : Int)] ++ anys (Tryz.f51.ntmps - 4))) (fun (x : Unit) => True) ([VV.one (V1.c (C.ptr 0 0 0)), VV.any, boolv false, i64 (0 : Int)] ++ anys
 51) (bookH B) ∧ ∀ (z : Unit), True → Enter 9 (inv_b B ([VV.c (C.ptr 0 0 0), VV.any, VV.any, VV.any, i64 (0 : Int)] ++ anys (Tryz.f51.ntmps - 5))) (fun (x : Unit) => True) ([VV.one (V1.c (C.ptr 0 0 0)),
 VV.any, VV.any, i64 (0 : Int), i64 (0 : Int), i64 (0 : Int), VV.one (V1.c (C.ptr 0 0 0)), VV.one (V1.c (C.ptr 0 0 0)), VV.one (V1.c (C.ptr 0 0 139)), VV.one (V1.c C.nils), i64 (0 : Int), boolv false] ++
 anys 43) (bookH B) ∧ ∀ (z : Unit), True → EndsAs 9 (ct_b B (boolv true)) (boolv true) (bookH B)) := by kernel_rfl
theorem mInts_ok (B : BS) : CtOk Tryz.prog 93 (ct_b B (.tup [])) := CtOk_of KK_ok tab0 ann0 (fn := Tryz.f93) rfl (fun _ _ => rfl) fun hn => by
  rw [vc_mInts]
  exact ⟨(), [], bookN, trivial, by (repeat' first | exact trivial | exact rfl | apply And.intro)⟩
theorem gInts_ok (B : BS) : CtOk Tryz.prog 109 (ct_b B (.tup [])) := CtOk_of KK_ok tab0 (ann1 (inv_b B ([.c (.ptr 0 0 0), .any, i64 0] ++ anys (Tryz.f109.ntmps - 3)))) (fn := Tryz.f109) rfl (fun _ _ => rfl) fun hn => by
  rw [vc_gInts]
  exact ⟨⟨(), [], bookN, trivial, trivial, into_mk (by kernel_rfl) (by (repeat' first | exact trivial | exact rfl | apply And.intro)) (by (repeat' first | exact trivial | exact rfl | apply And.intro))⟩, fun _ _ => ⟨(), [], bookN, trivial, by (repeat' first | exact trivial | exact rfl | apply And.intro)⟩⟩
theorem hInts_ok (B : BS) : CtOk Tryz.prog 37 (ct_b B (boolv true)) := CtOk_of KK_ok tab0 (ann_h B Tryz.f37.ntmps) (fn := Tryz.f37) rfl (fun _ _ => rfl) fun hn => by
  rw [vc_hInts]
  exact ⟨⟨(), [], bookN, trivial, trivial, into_mk (by kernel_rfl) (by (repeat' first | exact trivial | exact rfl | apply And.intro)) (by (repeat' first | exact trivial | exact rfl | apply And.intro))⟩, fun _ _ => ⟨⟨(), [], bookN, trivial, trivial, into_mk (by kernel_rfl) (by (repeat' first | exact trivial | exact rfl | apply And.intro)) (by (repeat' first | exact trivial | exact rfl | apply And.intro))⟩, fun _ _ => ⟨(), [], bookN, trivial, by (repeat' first | exact trivial | exact rfl | apply And.intro)⟩⟩⟩
theorem mTexts_ok (B : BS) : CtOk Tryz.prog 94 (ct_b B (.tup [])) := CtOk_of KK_ok tab0 ann0 (fn := Tryz.f94) rfl (fun _ _ => rfl) fun hn => by
  rw [vc_mTexts]
  exact ⟨(), [], bookN, trivial, by (repeat' first | exact trivial | exact rfl | apply And.intro)⟩
theorem gTexts_ok (B : BS) : CtOk Tryz.prog 110 (ct_b B (.tup [])) := CtOk_of KK_ok tab0 (ann1 (inv_b B ([.c (.ptr 0 0 0), .any, i64 0] ++ anys (Tryz.f110.ntmps - 3)))) (fn := Tryz.f110) rfl (fun _ _ => rfl) fun hn => by
  rw [vc_gTexts]
  exact ⟨⟨(), [], bookN, trivial, trivial, into_mk (by kernel_rfl) (by (repeat' first | exact trivial | exact rfl | apply And.intro)) (by (repeat' first | exact trivial | exact rfl | apply And.intro))⟩, fun _ _ => ⟨(), [], bookN, trivial, by (repeat' first | exact trivial | exact rfl | apply And.intro)⟩⟩
theorem hTexts_ok (B : BS) : CtOk Tryz.prog 38 (ct_b B (boolv true)) := CtOk_of KK_ok tab0 (ann_h B Tryz.f38.ntmps) (fn := Tryz.f38) rfl (fun _ _ => rfl) fun hn => by
  rw [vc_hTexts]
  exact ⟨⟨(), [], bookN, trivial, trivial, into_mk (by kernel_rfl) (by (repeat' first | exact trivial | exact rfl | apply And.intro)) (by (repeat' first | exact trivial | exact rfl | apply And.intro))⟩, fun _ _ => ⟨⟨(), [], bookN, trivial, trivial, into_mk (by kernel_rfl) (by (repeat' first | exact trivial | exact rfl | apply And.intro)) (by (repeat' first | exact trivial | exact rfl | apply And.intro))⟩, fun _ _ => ⟨(), [], bookN, trivial, by (repeat' first | exact trivial | exact rfl | apply And.intro)⟩⟩⟩
theorem mLosts_ok (B : BS) : CtOk Tryz.prog 95 (ct_b B (.tup [])) := CtOk_of KK_ok tab0 ann0 (fn := Tryz.f95) rfl (fun _ _ => rfl) fun hn => by
  rw [vc_mLosts]
  exact ⟨(), [], bookN, trivial, by (repeat' first | exact trivial | exact rfl | apply And.intro)⟩
theorem gLosts_ok (B : BS) : CtOk Tryz.prog 111 (ct_b B (.tup [])) := CtOk_of KK_ok tab0 (ann1 (inv_b B ([.c (.ptr 0 0 0), .any, i64 0] ++ anys (Tryz.f111.ntmps - 3)))) (fn := Tryz.f111) rfl (fun _ _ => rfl) fun hn => by
  rw [vc_gLosts]
  exact ⟨⟨(), [], bookN, trivial, trivial, into_mk (by kernel_rfl) (by (repeat' first | exact trivial | exact rfl | apply And.intro)) (by (repeat' first | exact trivial | exact rfl | apply And.intro))⟩, fun _ _ => ⟨(), [], bookN, trivial, by (repeat' first | exact trivial | exact rfl | apply And.intro)⟩⟩
theorem hLosts_ok (B : BS) : CtOk Tryz.prog 39 (ct_b B (boolv true)) := CtOk_of KK_ok tab0 (ann_h B Tryz.f39.ntmps) (fn := Tryz.f39) rfl (fun _ _ => rfl) fun hn => by
  rw [vc_hLosts]
  exact ⟨⟨(), [], bookN, trivial, trivial, into_mk (by kernel_rfl) (by (repeat' first | exact trivial | exact rfl | apply And.intro)) (by (repeat' first | exact trivial | exact rfl | apply And.intro))⟩, fun _ _ => ⟨⟨(), [], bookN, trivial, trivial, into_mk (by kernel_rfl) (by (repeat' first | exact trivial | exact rfl | apply And.intro)) (by (repeat' first | exact trivial | exact rfl | apply And.intro))⟩, fun _ _ => ⟨(), [], bookN, trivial, by (repeat' first | exact trivial | exact rfl | apply And.intro)⟩⟩⟩
theorem mChanges_ok (B : BS) : CtOk Tryz.prog 96 (ct_b B (.tup [])) := CtOk_of KK_ok tab0 ann0 (fn := Tryz.f96) rfl (fun _ _ => rfl) fun hn => by
  rw [vc_mChanges]
  exact ⟨(), [], bookN, trivial, by (repeat' first | exact trivial | exact rfl | apply And.intro)⟩
theorem gChanges_ok (B : BS) : CtOk Tryz.prog 112 (ct_b B (.tup [])) := CtOk_of KK_ok tab0 (ann1 (inv_b B ([.c (.ptr 0 0 0), .any, i64 0] ++ anys (Tryz.f112.ntmps - 3)))) (fn := Tryz.f112) rfl (fun _ _ => rfl) fun hn => by
  rw [vc_gChanges]
  exact ⟨⟨(), [], bookN, trivial, trivial, into_mk (by kernel_rfl) (by (repeat' first | exact trivial | exact rfl | apply And.intro)) (by (repeat' first | exact trivial | exact rfl | apply And.intro))⟩, fun _ _ => ⟨(), [], bookN, trivial, by (repeat' first | exact trivial | exact rfl | apply And.intro)⟩⟩
theorem hChanges_ok (B : BS) : CtOk Tryz.prog 40 (ct_b B (boolv true)) := CtOk_of KK_ok tab0 (ann_h B Tryz.f40.ntmps) (fn := Tryz.f40) rfl (fun _ _ => rfl) fun hn => by
  rw [vc_hChanges]
  exact ⟨⟨(), [], bookN, trivial, trivial, into_mk (by kernel_rfl) (by (repeat' first | exact trivial | exact rfl | apply And.intro)) (by (repeat' first | exact trivial | exact rfl | apply And.intro))⟩, fun _ _ => ⟨⟨(), [], bookN, trivial, trivial, into_mk (by kernel_rfl) (by (repeat' first | exact trivial | exact rfl | apply And.intro)) (by (repeat' first | exact trivial | exact rfl | apply And.intro))⟩, fun _ _ => ⟨(), [], bookN, trivial, by (repeat' first | exact trivial | exact rfl | apply And.intro)⟩⟩⟩
theorem mCells_ok (B : BS) : CtOk Tryz.prog 97 (ct_b B (.tup [])) := CtOk_of KK_ok tab0 ann0 (fn := Tryz.f97) rfl (fun _ _ => rfl) fun hn => by
  rw [vc_mCells]
  exact ⟨(), [], bookN, trivial, by (repeat' first | exact trivial | exact rfl | apply And.intro)⟩
theorem gCells_ok (B : BS) : CtOk Tryz.prog 113 (ct_b B (.tup [])) := CtOk_of KK_ok tab0 (ann1 (inv_b B ([.c (.ptr 0 0 0), .any, i64 0] ++ anys (Tryz.f113.ntmps - 3)))) (fn := Tryz.f113) rfl (fun _ _ => rfl) fun hn => by
  rw [vc_gCells]
  exact ⟨⟨(), [], bookN, trivial, trivial, into_mk (by kernel_rfl) (by (repeat' first | exact trivial | exact rfl | apply And.intro)) (by (repeat' first | exact trivial | exact rfl | apply And.intro))⟩, fun _ _ => ⟨(), [], bookN, trivial, by (repeat' first | exact trivial | exact rfl | apply And.intro)⟩⟩
theorem hCells_ok (B : BS) : CtOk Tryz.prog 41 (ct_b B (boolv true)) := CtOk_of KK_ok tab0 (ann_h B Tryz.f41.ntmps) (fn := Tryz.f41) rfl (fun _ _ => rfl) fun hn => by
  rw [vc_hCells]
  exact ⟨⟨(), [], bookN, trivial, trivial, into_mk (by kernel_rfl) (by (repeat' first | exact trivial | exact rfl | apply And.intro)) (by (repeat' first | exact trivial | exact rfl | apply And.intro))⟩, fun _ _ => ⟨⟨(), [], bookN, trivial, trivial, into_mk (by kernel_rfl) (by (repeat' first | exact trivial | exact rfl | apply And.intro)) (by (repeat' first | exact trivial | exact rfl | apply And.intro))⟩, fun _ _ => ⟨(), [], bookN, trivial, by (repeat' first | exact trivial | exact rfl | apply And.intro)⟩⟩⟩
theorem mItems_ok (B : BS) : CtOk Tryz.prog 98 (ct_b B (.tup [])) := CtOk_of KK_ok tab0 ann0 (fn := Tryz.f98) rfl (fun _ _ => rfl) fun hn => by
  rw [vc_mItems]
  exact ⟨(), [], bookN, trivial, by (repeat' first | exact trivial | exact rfl | apply And.intro)⟩
theorem gItems_ok (B : BS) : CtOk Tryz.prog 114 (ct_b B (.tup [])) := CtOk_of KK_ok tab0 (ann1 (inv_b B ([.c (.ptr 0 0 0), .any, i64 0] ++ anys (Tryz.f114.ntmps - 3)))) (fn := Tryz.f114) rfl (fun _ _ => rfl) fun hn => by
  rw [vc_gItems]
  exact ⟨⟨(), [], bookN, trivial, trivial, into_mk (by kernel_rfl) (by (repeat' first | exact trivial | exact rfl | apply And.intro)) (by (repeat' first | exact trivial | exact rfl | apply And.intro))⟩, fun _ _ => ⟨(), [], bookN, trivial, by (repeat' first | exact trivial | exact rfl | apply And.intro)⟩⟩
theorem hItems_ok (B : BS) : CtOk Tryz.prog 42 (ct_b B (boolv true)) := CtOk_of KK_ok tab0 (ann_h B Tryz.f42.ntmps) (fn := Tryz.f42) rfl (fun _ _ => rfl) fun hn => by
  rw [vc_hItems]
  exact ⟨⟨(), [], bookN, trivial, trivial, into_mk (by kernel_rfl) (by (repeat' first | exact trivial | exact rfl | apply And.intro)) (by (repeat' first | exact trivial | exact rfl | apply And.intro))⟩, fun _ _ => ⟨⟨(), [], bookN, trivial, trivial, into_mk (by kernel_rfl) (by (repeat' first | exact trivial | exact rfl | apply And.intro)) (by (repeat' first | exact trivial | exact rfl | apply And.intro))⟩, fun _ _ => ⟨(), [], bookN, trivial, by (repeat' first | exact trivial | exact rfl | apply And.intro)⟩⟩⟩
theorem mEntries_ok (B : BS) : CtOk Tryz.prog 99 (ct_b B (.tup [])) := CtOk_of KK_ok tab0 ann0 (fn := Tryz.f99) rfl (fun _ _ => rfl) fun hn => by
  rw [vc_mEntries]
  exact ⟨(), [], bookN, trivial, by (repeat' first | exact trivial | exact rfl | apply And.intro)⟩
theorem gEntries_ok (B : BS) : CtOk Tryz.prog 115 (ct_b B (.tup [])) := CtOk_of KK_ok tab0 (ann1 (inv_b B ([.c (.ptr 0 0 0), .any, i64 0] ++ anys (Tryz.f115.ntmps - 3)))) (fn := Tryz.f115) rfl (fun _ _ => rfl) fun hn => by
  rw [vc_gEntries]
  exact ⟨⟨(), [], bookN, trivial, trivial, into_mk (by kernel_rfl) (by (repeat' first | exact trivial | exact rfl | apply And.intro)) (by (repeat' first | exact trivial | exact rfl | apply And.intro))⟩, fun _ _ => ⟨(), [], bookN, trivial, by (repeat' first | exact trivial | exact rfl | apply And.intro)⟩⟩
theorem hEntries_ok (B : BS) : CtOk Tryz.prog 43 (ct_b B (boolv true)) := CtOk_of KK_ok tab0 (ann_h B Tryz.f43.ntmps) (fn := Tryz.f43) rfl (fun _ _ => rfl) fun hn => by
  rw [vc_hEntries]
  exact ⟨⟨(), [], bookN, trivial, trivial, into_mk (by kernel_rfl) (by (repeat' first | exact trivial | exact rfl | apply And.intro)) (by (repeat' first | exact trivial | exact rfl | apply And.intro))⟩, fun _ _ => ⟨⟨(), [], bookN, trivial, trivial, into_mk (by kernel_rfl) (by (repeat' first | exact trivial | exact rfl | apply And.intro)) (by (repeat' first | exact trivial | exact rfl | apply And.intro))⟩, fun _ _ => ⟨(), [], bookN, trivial, by (repeat' first | exact trivial | exact rfl | apply And.intro)⟩⟩⟩
theorem mPlaceds_ok (B : BS) : CtOk Tryz.prog 100 (ct_b B (.tup [])) := CtOk_of KK_ok tab0 ann0 (fn := Tryz.f100) rfl (fun _ _ => rfl) fun hn => by
  rw [vc_mPlaceds]
  exact ⟨(), [], bookN, trivial, by (repeat' first | exact trivial | exact rfl | apply And.intro)⟩
theorem gPlaceds_ok (B : BS) : CtOk Tryz.prog 116 (ct_b B (.tup [])) := CtOk_of KK_ok tab0 (ann1 (inv_b B ([.c (.ptr 0 0 0), .any, i64 0] ++ anys (Tryz.f116.ntmps - 3)))) (fn := Tryz.f116) rfl (fun _ _ => rfl) fun hn => by
  rw [vc_gPlaceds]
  exact ⟨⟨(), [], bookN, trivial, trivial, into_mk (by kernel_rfl) (by (repeat' first | exact trivial | exact rfl | apply And.intro)) (by (repeat' first | exact trivial | exact rfl | apply And.intro))⟩, fun _ _ => ⟨(), [], bookN, trivial, by (repeat' first | exact trivial | exact rfl | apply And.intro)⟩⟩
theorem hPlaceds_ok (B : BS) : CtOk Tryz.prog 44 (ct_b B (boolv true)) := CtOk_of KK_ok tab0 (ann_h B Tryz.f44.ntmps) (fn := Tryz.f44) rfl (fun _ _ => rfl) fun hn => by
  rw [vc_hPlaceds]
  exact ⟨⟨(), [], bookN, trivial, trivial, into_mk (by kernel_rfl) (by (repeat' first | exact trivial | exact rfl | apply And.intro)) (by (repeat' first | exact trivial | exact rfl | apply And.intro))⟩, fun _ _ => ⟨⟨(), [], bookN, trivial, trivial, into_mk (by kernel_rfl) (by (repeat' first | exact trivial | exact rfl | apply And.intro)) (by (repeat' first | exact trivial | exact rfl | apply And.intro))⟩, fun _ _ => ⟨(), [], bookN, trivial, by (repeat' first | exact trivial | exact rfl | apply And.intro)⟩⟩⟩
theorem mRules_ok (B : BS) : CtOk Tryz.prog 101 (ct_b B (.tup [])) := CtOk_of KK_ok tab0 ann0 (fn := Tryz.f101) rfl (fun _ _ => rfl) fun hn => by
  rw [vc_mRules]
  exact ⟨(), [], bookN, trivial, by (repeat' first | exact trivial | exact rfl | apply And.intro)⟩
theorem gRules_ok (B : BS) : CtOk Tryz.prog 117 (ct_b B (.tup [])) := CtOk_of KK_ok tab0 (ann1 (inv_b B ([.c (.ptr 0 0 0), .any, i64 0] ++ anys (Tryz.f117.ntmps - 3)))) (fn := Tryz.f117) rfl (fun _ _ => rfl) fun hn => by
  rw [vc_gRules]
  exact ⟨⟨(), [], bookN, trivial, trivial, into_mk (by kernel_rfl) (by (repeat' first | exact trivial | exact rfl | apply And.intro)) (by (repeat' first | exact trivial | exact rfl | apply And.intro))⟩, fun _ _ => ⟨(), [], bookN, trivial, by (repeat' first | exact trivial | exact rfl | apply And.intro)⟩⟩
theorem hRules_ok (B : BS) : CtOk Tryz.prog 45 (ct_b B (boolv true)) := CtOk_of KK_ok tab0 (ann_h B Tryz.f45.ntmps) (fn := Tryz.f45) rfl (fun _ _ => rfl) fun hn => by
  rw [vc_hRules]
  exact ⟨⟨(), [], bookN, trivial, trivial, into_mk (by kernel_rfl) (by (repeat' first | exact trivial | exact rfl | apply And.intro)) (by (repeat' first | exact trivial | exact rfl | apply And.intro))⟩, fun _ _ => ⟨⟨(), [], bookN, trivial, trivial, into_mk (by kernel_rfl) (by (repeat' first | exact trivial | exact rfl | apply And.intro)) (by (repeat' first | exact trivial | exact rfl | apply And.intro))⟩, fun _ _ => ⟨(), [], bookN, trivial, by (repeat' first | exact trivial | exact rfl | apply And.intro)⟩⟩⟩
theorem mFaults_ok (B : BS) : CtOk Tryz.prog 102 (ct_b B (.tup [])) := CtOk_of KK_ok tab0 ann0 (fn := Tryz.f102) rfl (fun _ _ => rfl) fun hn => by
  rw [vc_mFaults]
  exact ⟨(), [], bookN, trivial, by (repeat' first | exact trivial | exact rfl | apply And.intro)⟩
theorem gFaults_ok (B : BS) : CtOk Tryz.prog 118 (ct_b B (.tup [])) := CtOk_of KK_ok tab0 (ann1 (inv_b B ([.c (.ptr 0 0 0), .any, i64 0] ++ anys (Tryz.f118.ntmps - 3)))) (fn := Tryz.f118) rfl (fun _ _ => rfl) fun hn => by
  rw [vc_gFaults]
  exact ⟨⟨(), [], bookN, trivial, trivial, into_mk (by kernel_rfl) (by (repeat' first | exact trivial | exact rfl | apply And.intro)) (by (repeat' first | exact trivial | exact rfl | apply And.intro))⟩, fun _ _ => ⟨(), [], bookN, trivial, by (repeat' first | exact trivial | exact rfl | apply And.intro)⟩⟩
theorem hFaults_ok (B : BS) : CtOk Tryz.prog 46 (ct_b B (boolv true)) := CtOk_of KK_ok tab0 (ann_h B Tryz.f46.ntmps) (fn := Tryz.f46) rfl (fun _ _ => rfl) fun hn => by
  rw [vc_hFaults]
  exact ⟨⟨(), [], bookN, trivial, trivial, into_mk (by kernel_rfl) (by (repeat' first | exact trivial | exact rfl | apply And.intro)) (by (repeat' first | exact trivial | exact rfl | apply And.intro))⟩, fun _ _ => ⟨⟨(), [], bookN, trivial, trivial, into_mk (by kernel_rfl) (by (repeat' first | exact trivial | exact rfl | apply And.intro)) (by (repeat' first | exact trivial | exact rfl | apply And.intro))⟩, fun _ _ => ⟨(), [], bookN, trivial, by (repeat' first | exact trivial | exact rfl | apply And.intro)⟩⟩⟩
theorem mChunks_ok (B : BS) : CtOk Tryz.prog 103 (ct_b B (.tup [])) := CtOk_of KK_ok tab0 ann0 (fn := Tryz.f103) rfl (fun _ _ => rfl) fun hn => by
  rw [vc_mChunks]
  exact ⟨(), [], bookN, trivial, by (repeat' first | exact trivial | exact rfl | apply And.intro)⟩
theorem gChunks_ok (B : BS) : CtOk Tryz.prog 119 (ct_b B (.tup [])) := CtOk_of KK_ok tab0 (ann1 (inv_b B ([.c (.ptr 0 0 0), .any, i64 0] ++ anys (Tryz.f119.ntmps - 3)))) (fn := Tryz.f119) rfl (fun _ _ => rfl) fun hn => by
  rw [vc_gChunks]
  exact ⟨⟨(), [], bookN, trivial, trivial, into_mk (by kernel_rfl) (by (repeat' first | exact trivial | exact rfl | apply And.intro)) (by (repeat' first | exact trivial | exact rfl | apply And.intro))⟩, fun _ _ => ⟨(), [], bookN, trivial, by (repeat' first | exact trivial | exact rfl | apply And.intro)⟩⟩
theorem hChunks_ok (B : BS) : CtOk Tryz.prog 47 (ct_b B (boolv true)) := CtOk_of KK_ok tab0 (ann_h B Tryz.f47.ntmps) (fn := Tryz.f47) rfl (fun _ _ => rfl) fun hn => by
  rw [vc_hChunks]
  exact ⟨⟨(), [], bookN, trivial, trivial, into_mk (by kernel_rfl) (by (repeat' first | exact trivial | exact rfl | apply And.intro)) (by (repeat' first | exact trivial | exact rfl | apply And.intro))⟩, fun _ _ => ⟨⟨(), [], bookN, trivial, trivial, into_mk (by kernel_rfl) (by (repeat' first | exact trivial | exact rfl | apply And.intro)) (by (repeat' first | exact trivial | exact rfl | apply And.intro))⟩, fun _ _ => ⟨(), [], bookN, trivial, by (repeat' first | exact trivial | exact rfl | apply And.intro)⟩⟩⟩
theorem mThings_ok (B : BS) : CtOk Tryz.prog 104 (ct_b B (.tup [])) := CtOk_of KK_ok tab0 ann0 (fn := Tryz.f104) rfl (fun _ _ => rfl) fun hn => by
  rw [vc_mThings]
  exact ⟨(), [], bookN, trivial, by (repeat' first | exact trivial | exact rfl | apply And.intro)⟩
theorem gThings_ok (B : BS) : CtOk Tryz.prog 120 (ct_b B (.tup [])) := CtOk_of KK_ok tab0 (ann1 (inv_b B ([.c (.ptr 0 0 0), .any, i64 0] ++ anys (Tryz.f120.ntmps - 3)))) (fn := Tryz.f120) rfl (fun _ _ => rfl) fun hn => by
  rw [vc_gThings]
  exact ⟨⟨(), [], bookN, trivial, trivial, into_mk (by kernel_rfl) (by (repeat' first | exact trivial | exact rfl | apply And.intro)) (by (repeat' first | exact trivial | exact rfl | apply And.intro))⟩, fun _ _ => ⟨(), [], bookN, trivial, by (repeat' first | exact trivial | exact rfl | apply And.intro)⟩⟩
theorem hThings_ok (B : BS) : CtOk Tryz.prog 48 (ct_b B (boolv true)) := CtOk_of KK_ok tab0 (ann_h B Tryz.f48.ntmps) (fn := Tryz.f48) rfl (fun _ _ => rfl) fun hn => by
  rw [vc_hThings]
  exact ⟨⟨(), [], bookN, trivial, trivial, into_mk (by kernel_rfl) (by (repeat' first | exact trivial | exact rfl | apply And.intro)) (by (repeat' first | exact trivial | exact rfl | apply And.intro))⟩, fun _ _ => ⟨⟨(), [], bookN, trivial, trivial, into_mk (by kernel_rfl) (by (repeat' first | exact trivial | exact rfl | apply And.intro)) (by (repeat' first | exact trivial | exact rfl | apply And.intro))⟩, fun _ _ => ⟨(), [], bookN, trivial, by (repeat' first | exact trivial | exact rfl | apply And.intro)⟩⟩⟩
theorem mDones_ok (B : BS) : CtOk Tryz.prog 105 (ct_b B (.tup [])) := CtOk_of KK_ok tab0 ann0 (fn := Tryz.f105) rfl (fun _ _ => rfl) fun hn => by
  rw [vc_mDones]
  exact ⟨(), [], bookN, trivial, by (repeat' first | exact trivial | exact rfl | apply And.intro)⟩
theorem gDones_ok (B : BS) : CtOk Tryz.prog 121 (ct_b B (.tup [])) := CtOk_of KK_ok tab0 (ann1 (inv_b B ([.c (.ptr 0 0 0), .any, i64 0] ++ anys (Tryz.f121.ntmps - 3)))) (fn := Tryz.f121) rfl (fun _ _ => rfl) fun hn => by
  rw [vc_gDones]
  exact ⟨⟨(), [], bookN, trivial, trivial, into_mk (by kernel_rfl) (by (repeat' first | exact trivial | exact rfl | apply And.intro)) (by (repeat' first | exact trivial | exact rfl | apply And.intro))⟩, fun _ _ => ⟨(), [], bookN, trivial, by (repeat' first | exact trivial | exact rfl | apply And.intro)⟩⟩
theorem hDones_ok (B : BS) : CtOk Tryz.prog 49 (ct_b B (boolv true)) := CtOk_of KK_ok tab0 (ann_h B Tryz.f49.ntmps) (fn := Tryz.f49) rfl (fun _ _ => rfl) fun hn => by
  rw [vc_hDones]
  exact ⟨⟨(), [], bookN, trivial, trivial, into_mk (by kernel_rfl) (by (repeat' first | exact trivial | exact rfl | apply And.intro)) (by (repeat' first | exact trivial | exact rfl | apply And.intro))⟩, fun _ _ => ⟨⟨(), [], bookN, trivial, trivial, into_mk (by kernel_rfl) (by (repeat' first | exact trivial | exact rfl | apply And.intro)) (by (repeat' first | exact trivial | exact rfl | apply And.intro))⟩, fun _ _ => ⟨(), [], bookN, trivial, by (repeat' first | exact trivial | exact rfl | apply And.intro)⟩⟩⟩
theorem mNodes_ok (B : BS) : CtOk Tryz.prog 106 (ct_b B (.tup [])) := CtOk_of KK_ok tab0 ann0 (fn := Tryz.f106) rfl (fun _ _ => rfl) fun hn => by
  rw [vc_mNodes]
  exact ⟨(), [], bookN, trivial, by (repeat' first | exact trivial | exact rfl | apply And.intro)⟩
theorem gNodes_ok (B : BS) : CtOk Tryz.prog 122 (ct_b B (.tup [])) := CtOk_of KK_ok tab0 (ann1 (inv_b B ([.c (.ptr 0 0 0), .any, i64 0] ++ anys (Tryz.f122.ntmps - 3)))) (fn := Tryz.f122) rfl (fun _ _ => rfl) fun hn => by
  rw [vc_gNodes]
  exact ⟨⟨(), [], bookN, trivial, trivial, into_mk (by kernel_rfl) (by (repeat' first | exact trivial | exact rfl | apply And.intro)) (by (repeat' first | exact trivial | exact rfl | apply And.intro))⟩, fun _ _ => ⟨(), [], bookN, trivial, by (repeat' first | exact trivial | exact rfl | apply And.intro)⟩⟩
theorem hNodes_ok (B : BS) : CtOk Tryz.prog 50 (ct_b B (boolv true)) := CtOk_of KK_ok tab0 (ann_h B Tryz.f50.ntmps) (fn := Tryz.f50) rfl (fun _ _ => rfl) fun hn => by
  rw [vc_hNodes]
  exact ⟨⟨(), [], bookN, trivial, trivial, into_mk (by kernel_rfl) (by (repeat' first | exact trivial | exact rfl | apply And.intro)) (by (repeat' first | exact trivial | exact rfl | apply And.intro))⟩, fun _ _ => ⟨⟨(), [], bookN, trivial, trivial, into_mk (by kernel_rfl) (by (repeat' first | exact trivial | exact rfl | apply And.intro)) (by (repeat' first | exact trivial | exact rfl | apply And.intro))⟩, fun _ _ => ⟨(), [], bookN, trivial, by (repeat' first | exact trivial | exact rfl | apply And.intro)⟩⟩⟩
theorem mSteps_ok (B : BS) : CtOk Tryz.prog 107 (ct_b B (.tup [])) := CtOk_of KK_ok tab0 ann0 (fn := Tryz.f107) rfl (fun _ _ => rfl) fun hn => by
  rw [vc_mSteps]
  exact ⟨(), [], bookN, trivial, by (repeat' first | exact trivial | exact rfl | apply And.intro)⟩
theorem gSteps_ok (B : BS) : CtOk Tryz.prog 123 (ct_b B (.tup [])) := CtOk_of KK_ok tab0 (ann1 (inv_b B ([.c (.ptr 0 0 0), .any, i64 0] ++ anys (Tryz.f123.ntmps - 3)))) (fn := Tryz.f123) rfl (fun _ _ => rfl) fun hn => by
  rw [vc_gSteps]
  exact ⟨⟨(), [], bookN, trivial, trivial, into_mk (by kernel_rfl) (by (repeat' first | exact trivial | exact rfl | apply And.intro)) (by (repeat' first | exact trivial | exact rfl | apply And.intro))⟩, fun _ _ => ⟨(), [], bookN, trivial, by (repeat' first | exact trivial | exact rfl | apply And.intro)⟩⟩
theorem hSteps_ok (B : BS) : CtOk Tryz.prog 51 (ct_b B (boolv true)) := CtOk_of KK_ok tab0 (ann_h B Tryz.f51.ntmps) (fn := Tryz.f51) rfl (fun _ _ => rfl) fun hn => by
  rw [vc_hSteps]
  exact ⟨⟨(), [], bookN, trivial, trivial, into_mk (by kernel_rfl) (by (repeat' first | exact trivial | exact rfl | apply And.intro)) (by (repeat' first | exact trivial | exact rfl | apply And.intro))⟩, fun _ _ => ⟨⟨(), [], bookN, trivial, trivial, into_mk (by kernel_rfl) (by (repeat' first | exact trivial | exact rfl | apply And.intro)) (by (repeat' first | exact trivial | exact rfl | apply And.intro))⟩, fun _ _ => ⟨(), [], bookN, trivial, by (repeat' first | exact trivial | exact rfl | apply And.intro)⟩⟩⟩
end Go.Proofs.YtndlpbheifalhaaGreatDoor.T
end
section
namespace Go.Proofs.YtndlpbheifalhaaGreatDoor.T
open Go.Proofs.YtndlpbheifalhaaGreatDoor.E
set_option maxRecDepth 100000
set_option linter.unusedVariables false
def HasTab (_ : Bag KK) : Prop := True
theorem HasTab.ext {φ ψ : Bag KK} (h : HasTab φ) (e : Ext φ ψ) : HasTab ψ := trivial
theorem le_lim {n : Nat} (h : n ≤ 1000150) : n * 1 ≤ 140737488355328 := by omega
theorem le_big {n : Nat} (h : n ≤ 1000150) : n ≤ 1000000000 := by omega
theorem le_150 {n : Nat} (h : n ≤ 1000000) : n ≤ 1000150 := by omega
def ct_sameT (x y : RS) (φ : Bag KK) : Ct KK := { need := RS.Alike φ Kd.u8 1000000000 x y, pre := [.bag φ], args := [.c (.rs 5 1 x), .c (.rs 5 1 y)], Y := Unit, ok := fun _ => True, ret := fun _ => boolv true, post := fun _ => [.bag φ] }
def inv_sameT (x y : RS) (φ : Bag KK) : Inv KK := { X := Nat, fr := fun i => [.c (.rs 5 1 x), .c (.rs 5 1 y), .any, .any, .any, i64 i] ++ anys 24, H := fun _ => [.bag φ], ok := fun i => i ≤ x.len, meas := fun i : Nat => x.len - i }
def ct_due (B : BS) (n : Int) : Ct KK := { need := (0 ≤ B.turn ∧ B.turn ≤ 1000000) ∧ 0 ≤ n ∧ n ≤ 1000000, pre := bookH B, args := [.c (.ptr 0 0 0), i64 n], Y := Int, ok := fun y => 0 ≤ y ∧ y ≤ 2000000, ret := fun y => i64 y, post := fun _ => bookH B }
theorem vc_sameT (x y : RS) (φ : Bag KK) : evFn tab0 (ann1 (inv_sameT x y φ)) Tryz.f70 (ct_sameT x y φ) = ( ite2 (decide ((↑x.len : Int) = (↑y.len : Int))) (Enter 1 (inv_sameT x y φ) (fun (x : Nat) => True) ([VV.one (V1.c (C.rs 5 1 x)), VV.one (V1.c (C.rs 5 1 y)), VV.any, VV.any, boolv false, i64 (0 : Int),
 VV.any, VV.any, VV.one (V1.c (C.rs 5 1 x)), i64 (↑x.len : Int), VV.one (V1.c (C.rs 5 1 y)), i64 (↑y.len : Int), boolv false] ++ anys 17) [Atom.bag φ] ∧ ∀ (z : Nat), z ≤ x.len → ite2 (decide ((↑z : Int)
 < (↑x.len : Int))) (((0 : Int) ≤ (↑z : Int) ∧ (↑z : Int) < (↑x.len : Int)) ∧ ∃ (cap : Nat), ∃ (xs : List (Int)), φ x.blk = some (BI.row Kd.u8 cap xs) ∧ x.lo + (↑z : Int).toNat < xs.length ∧ ((0 : Int)
 ≤ (↑z : Int) ∧ (↑z : Int) < (↑y.len : Int)) ∧ ∃ (cap : Nat), ∃ (xs_1 : List (Int)), φ y.blk = some (BI.row Kd.u8 cap xs_1) ∧ y.lo + (↑z : Int).toNat < xs_1.length ∧ ite2 (decide (rd xs (x.lo + (↑z : Int).toNat)
 (0 : Int) = rd xs_1 (y.lo + (↑z : Int).toNat) (0 : Int))) (i64ok ((↑z : Int) + (1 : Int)) ∧ Enter 1 (inv_sameT x y φ) (fun (z' : Nat) => x.len - z' < x.len - z) [VV.one (V1.c (C.rs 5 1 x)), VV.one (V1.c
 (C.rs 5 1 y)), VV.any, VV.any, VV.any, i64 ((↑z : Int) + (1 : Int)), VV.one (V1.c (C.int .u8 (rd xs (x.lo + (↑z : Int).toNat) (0 : Int)))), VV.one (V1.c (C.int .u8 (rd xs_1 (y.lo + (↑z : Int).toNat) (0
 : Int)))), VV.any, VV.any, VV.any, VV.any, VV.any, i64 (↑z : Int), VV.one (V1.c (C.rs 5 1 x)), i64 (↑x.len : Int), boolv true, i64 (↑z : Int), i64 ((↑z : Int) + (1 : Int)), VV.one (V1.c (C.rs 5 1 x)),
 i64 (↑z : Int), VV.one (V1.c (C.rp 5 1 x.blk (x.lo + (↑z : Int).toNat) 0)), VV.one (V1.c (C.int .u8 (rd xs (x.lo + (↑z : Int).toNat) (0 : Int)))), VV.one (V1.c (C.rs 5 1 y)), i64 (↑z : Int), VV.one (V1.c
 (C.rp 5 1 y.blk (y.lo + (↑z : Int).toNat) 0)), VV.one (V1.c (C.int .u8 (rd xs_1 (y.lo + (↑z : Int).toNat) (0 : Int)))), VV.one (V1.c (C.int .u8 (rd xs (x.lo + (↑z : Int).toNat) (0 : Int)))), VV.one (V1.c
 (C.int .u8 (rd xs_1 (y.lo + (↑z : Int).toNat) (0 : Int)))), boolv false] [Atom.bag φ]) (EndsAs 1 (ct_sameT x y φ) (boolv false) [Atom.bag φ])) (EndsAs 1 (ct_sameT x y φ) (boolv true) [Atom.bag φ])) (EndsAs
 1 (ct_sameT x y φ) (boolv false) [Atom.bag φ])) := by kernel_rfl
theorem vc_due (B : BS) (n : Int) : evFn tab0 ann0 Tryz.f34 (ct_due B n) = ( (3 : Int) ≠ (0 : Int) ∧ ite2 (decide (n.tmod (3 : Int) = (0 : Int))) (EndsAs 9 (ct_due B n) (i64 B.turn) (bookH B)) ((3 : Int) ≠ (0 : Int) ∧ ite2 (decide (n.tmod (3 : Int) = (1 : Int))) (i64ok (B.turn
 + (1 : Int)) ∧ (3 : Int) ≠ (0 : Int) ∧ i64ok (n.tdiv (3 : Int)) ∧ (8 : Int) ≠ (0 : Int) ∧ i64ok (B.turn + (1 : Int) + (n.tdiv (3 : Int)).tmod (8 : Int)) ∧ EndsAs 9 (ct_due B n) (i64 (B.turn + (1 : Int)
 + (n.tdiv (3 : Int)).tmod (8 : Int))) (bookH B)) (i64ok (B.turn + (1 : Int)) ∧ EndsAs 9 (ct_due B n) (i64 (B.turn + (1 : Int))) (bookH B)))) := by kernel_rfl
theorem sameT_ok (x y : RS) (φ : Bag KK) : CtOk Tryz.prog 70 (ct_sameT x y φ) := CtOk_of KK_ok tab0 (ann1 (inv_sameT x y φ)) (fn := Tryz.f70) rfl (fun _ _ => rfl) fun hn => by
  obtain ⟨(xs : List Int), h1, h2, h3⟩ := hn
  have h3 : xs.length ≤ 1000000000 := h3
  have l1 : xs.length = x.len := RS.row_len h1
  have l2 : xs.length = y.len := RS.row_len h2
  have hxy : ((x.len : Nat) : Int) = y.len := by omega
  rw [vc_sameT]
  simp only [Int.toNat_natCast, Nat.zero_add]
  refine ite2_decide (fun _ => ⟨⟨(0 : Nat), [], [0], Nat.zero_le _, trivial, into_mk (by kernel_rfl) (by (repeat' first | exact trivial | exact rfl | apply And.intro)) (by (repeat' first | exact trivial | exact rfl | apply And.intro))⟩, fun z hz => ite2_decide (fun hl => ?_) (fun hl => ⟨(), [], [0], trivial, by (repeat' first | exact trivial | exact rfl | apply And.intro)⟩)⟩) (fun h => absurd hxy h)
  have hz1 : z < x.len := by omega
  have hz2 : z < y.len := by omega
  obtain ⟨c1, u1, e1, e2, e3⟩ := RS.rd h1 hz1 (0 : Int)
  obtain ⟨c2, u2, f1, f2, f3⟩ := RS.rd h2 hz2 (0 : Int)
  refine ⟨⟨by omega, by omega⟩, c1, u1, e1, e2, ⟨by omega, by omega⟩, c2, u2, f1, f2, ite2_decide (fun _ => ⟨by unfold i64ok; omega, (z + 1 : Nat), [], [0], by show z + 1 ≤ x.len; omega, by omega, into_mk (by kernel_rfl) (by (repeat' first | exact trivial | exact rfl | apply And.intro)) (by (repeat' first | exact trivial | exact rfl | apply And.intro))⟩) (fun h => absurd (e3.trans f3.symm) h)⟩
theorem due_ok (B : BS) (n : Int) : CtOk Tryz.prog 34 (ct_due B n) := CtOk_of KK_ok tab0 ann0 (fn := Tryz.f34) rfl (fun _ _ => rfl) fun hn => by
  obtain ⟨⟨h1, h2⟩, h3, h4⟩ := hn
  rw [vc_due]
  have e : ∀ y : Int, 0 ≤ y ∧ y ≤ 2000000 → EndsAs 9 (ct_due B n) (i64 y) (bookH B) := fun y hy => ⟨y, [], bookN, hy, by (repeat' first | exact trivial | exact rfl | apply And.intro)⟩
  have q := Int.tdiv_nonneg h3 (show (0 : Int) ≤ 3 by decide)
  have q2 : n.tdiv 3 ≤ n := Int.tdiv_le_self _ h3
  have q3 : 0 ≤ (n.tdiv 3).tmod 8 := Int.tmod_nonneg _ q
  have q4 : (n.tdiv 3).tmod 8 < 8 := Int.tmod_lt_of_pos _ (by decide)
  have rest : (3 : Int) ≠ 0 := by decide
  refine ⟨rest, ite2_decide (fun _ => e _ ⟨h1, by omega⟩) (fun _ => ⟨rest, ite2_decide (fun _ => ⟨by unfold i64ok; omega, rest, by unfold i64ok; omega, by decide, by unfold i64ok; omega, e _ ⟨by omega, by omega⟩⟩) (fun _ => ⟨by unfold i64ok; omega, e _ ⟨by omega, by omega⟩⟩)⟩)⟩
end Go.Proofs.YtndlpbheifalhaaGreatDoor.T
end
section
namespace Go.Proofs.YtndlpbheifalhaaGreatDoor.T
open Go.Proofs.YtndlpbheifalhaaGreatDoor.E
set_option maxRecDepth 100000
set_option linter.unusedVariables false
abbrev BS.bk (B : BS) : Bk := ⟨B.o, B.t, B.w, B.n, B.f⟩
structure BookOk (φ : Bag KK) (B : BS) : Prop where
  good : BkOk φ Kd.u8 1000000 B.bk
  tab : HasTab φ
  lm : B.m.length = B.w.length
  ld : B.d.length = B.w.length
  lr : B.r.length = B.f.length
  mb : ∀ x ∈ B.m, -1000000000000 ≤ x ∧ x ≤ 1000000000000
  rb : ∀ x ∈ B.r, -1000000000000 ≤ x ∧ x ≤ 1000000000000
  cnt : (B.o.length : Int) + 2 * B.w.length + B.f.length = 2 * B.seen
  few : B.seen ≤ 100000
  turn : 0 ≤ B.turn ∧ B.turn ≤ 1000000
def SameB (B B' : BS) : Prop := B'.turn = B.turn ∧ B'.deep = B.deep ∧ B'.seen = B.seen
/-- The book, its lists told anew. -/
def bookM (B : BS) (φ : Bag KK) : VH KK := [.cells 46 (bookC false false B.turn B.deep [.slc 10 0 B.o.length none, .slc 11 0 B.t.length none, .slc 12 0 B.w.length none, .slc 13 0 B.n.length none, .slc 14 0 B.f.length none, .slc 15 0 B.m.length none, .slc 16 0 B.d.length none, .slc 17 0 B.r.length none, .int .i64 B.seen]),
  .gone, .gone, .gone, .gone, .gone, .gone, .gone, .gone, .bag φ, .arr .ru8 B.o, .arr .ru8 B.t, .arr .ru8 B.w, .arr .ru8 B.n, .arr .ru8 B.f, .arr .int B.m, .arr .int B.d, .arr .int B.r]
def ct_mT (B : BS) (φ : Bag KK) : Ct KK := { need := BookOk φ B, pre := bookH B ++ [.bag φ], args := [.c (.ptr 0 0 0)], Y := BS × Bag KK, ok := fun y => BookOk y.2 y.1 ∧ SameB B y.1 ∧ Stays φ B.bk y.2 y.1.bk, ret := fun _ => .tup [], post := fun y => bookM y.1 y.2 }
/-- The book while its waiting lists (ws, ..) are gone through. -/
def mkH (B : BS) (ws ns : List RS) (ms ds : List Int) (φ : Bag KK) : VH KK :=
  [.cells 46 (bookC false false B.turn B.deep [.slc 10 0 B.o.length none, .slc 11 0 B.t.length none, .slc 18 0 B.w.length none, .slc 19 0 B.n.length none, .slc 12 0 B.f.length none, .slc 20 0 B.m.length none, .slc 21 0 B.d.length none, .slc 13 0 B.r.length none, .int .i64 B.seen]),
   .gone, .gone, .gone, .gone, .gone, .gone, .gone, .gone, .bag φ, .arr .ru8 B.o, .arr .ru8 B.t, .arr .ru8 B.f, .arr .int B.r, .arr .ru8 ws, .arr .ru8 ns, .arr .int ms, .arr .int ds, .arr .ru8 B.w, .arr .ru8 B.n, .arr .int B.m, .arr .int B.d]
def mkFr (ws ns : List RS) (ms ds : List Int) (k : Int) : List VV := [.c (.ptr 0 0 0), .any, .c (.slc 14 0 ws.length none), .c (.slc 15 0 ns.length none), .c (.slc 16 0 ms.length none), .c (.slc 17 0 ds.length none), i64 k]
def BS.rest (B : BS) (ws ns : List RS) (ms ds : List Int) (k : Nat) : BS := { B with w := B.w ++ ws.drop k, n := B.n ++ ns.drop k, m := B.m ++ ms.drop k, d := B.d ++ ds.drop k }
def inv_mT (B : BS) (φ : Bag KK) : Inv KK := { X := BS × Bag KK × Nat, fr := fun z => mkFr B.w B.n B.m B.d z.2.2 ++ anys 182, H := fun z => mkH z.1 B.w B.n B.m B.d z.2.1, ok := fun z => z.2.2 ≤ B.w.length ∧ BookOk z.2.1 (z.1.rest B.w B.n B.m B.d z.2.2) ∧ z.1.w.length = z.1.n.length ∧ z.1.m.length = z.1.w.length ∧ z.1.d.length = z.1.w.length ∧ SameB B z.1 ∧ Stays φ B.bk z.2.1 (z.1.rest B.w B.n B.m B.d z.2.2).bk, meas := fun z => B.w.length - z.2.2 }
def inv_mTi (B : BS) (ws ns : List RS) (ms ds : List Int) (k : Int) (x : RS) (mark : Int) (φ : Bag KK) : Inv KK := { X := Nat × Bag KK, fr := fun z => mkFr ws ns ms ds k ++ ([.c (.rs 5 1 x), i64 mark, i64 z.1] ++ anys 179), H := fun z => mkH B ws ns ms ds z.2, ok := fun z => z.1 ≤ x.len ∧ BkOk z.2 Kd.u8 1000000 (B.rest ws ns ms ds (k.toNat + 1)).bk ∧ Alone z.2 Kd.u8 1000000 (B.rest ws ns ms ds (k.toNat + 1)).bk x ∧ HasTab z.2 ∧ Keep1 φ (B.rest ws ns ms ds (k.toNat + 1)).bk x z.2, meas := fun z => x.len - z.1 }
def ann_mT (B : BS) (φ : Bag KK) : Ann KK := { loop := fun id fr H => match id with
  | 7 => some (inv_mT B φ)
  | _ => match fr.getD 6 .any, fr.getD 7 .any, fr.getD 8 .any, at_ H 0, at_ H 9, at_ H 10, at_ H 11, at_ H 12, at_ H 13, at_ H 18, at_ H 19, at_ H 20, at_ H 21 with
    | .one (.c (.int _ k)), .one (.c (.rs _ _ x)), .one (.c (.int _ mark)), .cells _ (.bool _ :: .bool _ :: .int _ turn :: .int _ deep :: cs), .bag φ1, .arr .ru8 o, .arr .ru8 t, .arr .ru8 f, .arr .int r, .arr .ru8 w, .arr .ru8 n, .arr .int m, .arr .int d =>
      match cs.getD 8 .nils with
      | .int _ seen => some (inv_mTi ⟨turn, deep, o, t, w, n, f, m, d, r, seen⟩ B.w B.n B.m B.d k x mark φ1)
      | _ => none
    | _, _, _, _, _, _, _, _, _, _, _, _, _ => none, cut := fun _ _ _ => none, keep := some 10 }
def tabB : Tab Tryz.prog KK := ⟨mixed, fun f args H => match f, args with
  | 70, [.one (.c (.rs _ _ x)), .one (.c (.rs _ _ y))] => match at_ H 9 with
    | .bag φ => some (ct_sameT x y φ, [], [9])
    | _ => none
  | _, _ => none, fun f args H ct ks τ h => by
    split at h
    · split at h
      · cases h; exact sameT_ok _ _ _
      · cases h
    · cases h⟩
theorem vc_mT (B : BS) (φ : Bag KK) : evFn tabB (ann_mT B φ) Tryz.f92 (ct_mT B φ) = ( ite2 (decide ((↑B.w.length : Int) = (0 : Int))) (EndsAs 10 (ct_mT B φ) (VV.tup []) [Atom.cells 46 (bookC false false B.turn B.deep [C.slc 1 0 B.o.length none, C.slc 2 0 B.t.length none, C.slc 3 0 B.w.length
 none, C.slc 4 0 B.n.length none, C.slc 5 0 B.f.length none, C.slc 6 0 B.m.length none, C.slc 7 0 B.d.length none, C.slc 8 0 B.r.length none, C.int .i64 B.seen]), Atom.arr Kd.ru8 B.o, Atom.arr Kd.ru8 B.t,
 Atom.arr Kd.ru8 B.w, Atom.arr Kd.ru8 B.n, Atom.arr Kd.ru8 B.f, Atom.arr Kd.int B.m, Atom.arr Kd.int B.d, Atom.arr Kd.int B.r, Atom.bag φ]) (Enter 10 (inv_mT B φ) (fun (x : BS × Bag KK × Nat) => True) ([VV.one
 (V1.c (C.ptr 0 0 0)), VV.any, VV.one (V1.c (C.slc 3 0 B.w.length none)), VV.one (V1.c (C.slc 4 0 B.n.length none)), VV.one (V1.c (C.slc 6 0 B.m.length none)), VV.one (V1.c (C.slc 7 0 B.d.length none)),
 i64 (0 : Int)] ++ anys 182) [Atom.cells 46 (bookC false false B.turn B.deep [C.slc 1 0 B.o.length none, C.slc 2 0 B.t.length none, C.nils, C.nils, C.slc 5 0 B.f.length none, C.nils, C.nils, C.slc 8 0 B.r.length
 none, C.int .i64 B.seen]), Atom.arr Kd.ru8 B.o, Atom.arr Kd.ru8 B.t, Atom.arr Kd.ru8 B.w, Atom.arr Kd.ru8 B.n, Atom.arr Kd.ru8 B.f, Atom.arr Kd.int B.m, Atom.arr Kd.int B.d, Atom.arr Kd.int B.r, Atom.bag
 φ] ∧ ∀ (z : BS × Bag KK × Nat), (z.snd.snd ≤ B.w.length ∧ BookOk z.snd.fst (BS.mk (z.fst.turn) (z.fst.deep) (z.fst.o) (z.fst.t) (z.fst.w ++ List.drop z.snd.snd B.w) (z.fst.n ++ List.drop z.snd.snd B.n)
 (z.fst.f) (z.fst.m ++ List.drop z.snd.snd B.m) (z.fst.d ++ List.drop z.snd.snd B.d) (z.fst.r) (z.fst.seen)) ∧ z.fst.w.length = z.fst.n.length ∧ z.fst.m.length = z.fst.w.length ∧ z.fst.d.length = z.fst.w.length
 ∧ (z.fst.turn = B.turn ∧ z.fst.deep = B.deep ∧ z.fst.seen = B.seen) ∧ ∀ (b : Nat) (i : BI KK), φ b = some i → (∀ (y : RS), List.Mem y (B.o ++ (B.t ++ (B.w ++ (B.n ++ B.f)))) → ¬y.At b) → z.snd.fst b =
 some i ∧ ∀ (y : RS), List.Mem y (z.fst.o ++ (z.fst.t ++ (z.fst.w ++ List.drop z.snd.snd B.w ++ (z.fst.n ++ List.drop z.snd.snd B.n ++ z.fst.f)))) → ¬y.At b) → ite2 (decide ((↑z.snd.snd : Int) < (↑B.w.length
 : Int))) (((0 : Int) ≤ (↑z.snd.snd : Int) ∧ (↑z.snd.snd : Int) < (↑B.w.length : Int)) ∧ (↑z.snd.snd : Int).toNat < B.w.length ∧ True ∧ (↑z.snd.snd : Int).toNat < B.w.length ∧ ((0 : Int) ≤ (↑z.snd.snd :
 Int) ∧ (↑z.snd.snd : Int) < (↑B.m.length : Int)) ∧ (↑z.snd.snd : Int).toNat < B.m.length ∧ True ∧ (↑z.snd.snd : Int).toNat < B.m.length ∧ ((0 : Int) ≤ (↑z.snd.snd : Int) ∧ (↑z.snd.snd : Int) < (↑B.d.length
 : Int)) ∧ (↑z.snd.snd : Int).toNat < B.d.length ∧ True ∧ (↑z.snd.snd : Int).toNat < B.d.length ∧ ite2 (decide (z.fst.turn < rd B.d (↑z.snd.snd : Int).toNat (0 : Int))) (True ∧ z.fst.w.length = z.fst.w.length
 ∧ (1 ≤ 1 ∧ True) ∧ (z.fst.w.length + 1) * 24 ≤ 140737488355328 ∧ ((0 : Int) ≤ (↑z.snd.snd : Int) ∧ (↑z.snd.snd : Int) < (↑B.n.length : Int)) ∧ (↑z.snd.snd : Int).toNat < B.n.length ∧ True ∧ (↑z.snd.snd
 : Int).toNat < B.n.length ∧ True ∧ (VV.one (V1.c (C.slc 19 0 z.fst.n.length none)) = VV.one (V1.c (C.slc 19 0 z.fst.n.length none)) ∧ True) ∧ z.fst.n.length = z.fst.n.length ∧ (1 ≤ 1 ∧ True) ∧ (z.fst.n.length
 + 1) * 24 ≤ 140737488355328 ∧ True ∧ True ∧ z.fst.m.length = z.fst.m.length ∧ (1 ≤ 1 ∧ True) ∧ (z.fst.m.length + 1) * 8 ≤ 140737488355328 ∧ ((0 : Int) ≤ (↑z.snd.snd : Int) ∧ (↑z.snd.snd : Int) < (↑B.d.length
 : Int)) ∧ (↑z.snd.snd : Int).toNat < B.d.length ∧ True ∧ (↑z.snd.snd : Int).toNat < B.d.length ∧ True ∧ (VV.one (V1.c (C.slc 21 0 z.fst.d.length none)) = VV.one (V1.c (C.slc 21 0 z.fst.d.length none))
 ∧ True) ∧ z.fst.d.length = z.fst.d.length ∧ (1 ≤ 1 ∧ True) ∧ (z.fst.d.length + 1) * 8 ≤ 140737488355328 ∧ True ∧ True ∧ i64ok ((↑z.snd.snd : Int) + (1 : Int)) ∧ Enter 10 (inv_mT B φ) (fun (z' : BS × Bag
 KK × Nat) => B.w.length - z'.snd.snd < B.w.length - z.snd.snd) ([VV.one (V1.c (C.ptr 0 0 0)), VV.any, VV.one (V1.c (C.slc 14 0 B.w.length none)), VV.one (V1.c (C.slc 15 0 B.n.length none)), VV.one (V1.c
 (C.slc 16 0 B.m.length none)), VV.one (V1.c (C.slc 17 0 B.d.length none)), VV.one (V1.c (C.int .i64 ((↑z.snd.snd : Int) + (1 : Int)))), VV.one (V1.c (C.rs 5 1 (rd B.w (↑z.snd.snd : Int).toNat RS.nil))),
 VV.one (V1.c (C.int .i64 (rd B.m (↑z.snd.snd : Int).toNat (0 : Int))))] ++ anys 180) [Atom.cells 46 (bookC false false z.fst.turn z.fst.deep [C.slc 10 0 z.fst.o.length none, C.slc 11 0 z.fst.t.length none,
 C.slc 23 0 (z.fst.w.length + 1) none, C.slc 25 0 (z.fst.n.length + 1) none, C.slc 12 0 z.fst.f.length none, C.slc 27 0 (z.fst.m.length + 1) none, C.slc 29 0 (z.fst.d.length + 1) none, C.slc 13 0 z.fst.r.length
 none, C.int .i64 z.fst.seen]), Atom.gone, Atom.gone, Atom.gone, Atom.gone, Atom.gone, Atom.gone, Atom.gone, Atom.gone, Atom.bag z.snd.fst, Atom.arr Kd.ru8 z.fst.o, Atom.arr Kd.ru8 z.fst.t, Atom.arr Kd.ru8
 z.fst.f, Atom.arr Kd.int z.fst.r, Atom.arr Kd.ru8 B.w, Atom.arr Kd.ru8 B.n, Atom.arr Kd.int B.m, Atom.arr Kd.int B.d, Atom.gone, Atom.gone, Atom.gone, Atom.gone, Atom.arr Kd.ru8 [rd B.w (↑z.snd.snd : Int).toNat
 RS.nil], Atom.arr Kd.ru8 (z.fst.w ++ [rd B.w (↑z.snd.snd : Int).toNat RS.nil]), Atom.arr Kd.ru8 [rd B.n (↑z.snd.snd : Int).toNat RS.nil], Atom.arr Kd.ru8 (z.fst.n ++ [rd B.n (↑z.snd.snd : Int).toNat RS.nil]),
 Atom.arr Kd.int [rd B.m (↑z.snd.snd : Int).toNat (0 : Int)], Atom.arr Kd.int (z.fst.m ++ [rd B.m (↑z.snd.snd : Int).toNat (0 : Int)]), Atom.arr Kd.int [rd B.d (↑z.snd.snd : Int).toNat (0 : Int)], Atom.arr
 Kd.int (z.fst.d ++ [rd B.d (↑z.snd.snd : Int).toNat (0 : Int)])]) (True ∧ ((0 : Int) ≤ (↑z.snd.snd : Int) ∧ (↑z.snd.snd : Int) < (↑B.n.length : Int)) ∧ (↑z.snd.snd : Int).toNat < B.n.length ∧ True ∧ (↑z.snd.snd
 : Int).toNat < B.n.length ∧ (∃ (xs : List (Int)), RS.row z.snd.fst Kd.u8 (rd B.w (↑z.snd.snd : Int).toNat RS.nil) = some xs ∧ RS.row z.snd.fst Kd.u8 (rd B.n (↑z.snd.snd : Int).toNat RS.nil) = some xs ∧
 xs.length ≤ 1000000000) ∧ Into (K := KK) 0 [] [9] [VV.one (V1.c (C.rs 5 1 (rd B.w (↑z.snd.snd : Int).toNat RS.nil))), VV.one (V1.c (C.rs 5 1 (rd B.n (↑z.snd.snd : Int).toNat RS.nil)))] [Atom.cells 46 (bookC
 false false z.fst.turn z.fst.deep [C.slc 10 0 z.fst.o.length none, C.slc 11 0 z.fst.t.length none, C.slc 18 0 z.fst.w.length none, C.slc 19 0 z.fst.n.length none, C.slc 12 0 z.fst.f.length none, C.slc
 20 0 z.fst.m.length none, C.slc 21 0 z.fst.d.length none, C.slc 13 0 z.fst.r.length none, C.int .i64 z.fst.seen]), Atom.gone, Atom.gone, Atom.gone, Atom.gone, Atom.gone, Atom.gone, Atom.gone, Atom.gone,
 Atom.bag z.snd.fst, Atom.arr Kd.ru8 z.fst.o, Atom.arr Kd.ru8 z.fst.t, Atom.arr Kd.ru8 z.fst.f, Atom.arr Kd.int z.fst.r, Atom.arr Kd.ru8 B.w, Atom.arr Kd.ru8 B.n, Atom.arr Kd.int B.m, Atom.arr Kd.int B.d,
 Atom.arr Kd.ru8 z.fst.w, Atom.arr Kd.ru8 z.fst.n, Atom.arr Kd.int z.fst.m, Atom.arr Kd.int z.fst.d] [VV.one (V1.c (C.rs 5 1 (rd B.w (↑z.snd.snd : Int).toNat RS.nil))), VV.one (V1.c (C.rs 5 1 (rd B.n (↑z.snd.snd
 : Int).toNat RS.nil)))] [Atom.bag z.snd.fst] ∧ ∀ (y : Unit), True → Enter 10 (inv_mTi (BS.mk (z.fst.turn) (z.fst.deep) (z.fst.o) (z.fst.t) (z.fst.w) (z.fst.n) (z.fst.f) (z.fst.m) (z.fst.d) (z.fst.r) (z.fst.seen))
 B.w B.n B.m B.d (↑z.snd.snd : Int) (rd B.w (↑z.snd.snd : Int).toNat RS.nil) (rd B.m (↑z.snd.snd : Int).toNat (0 : Int)) z.snd.fst) (fun (x : Nat × Bag KK) => True) ([VV.one (V1.c (C.ptr 0 0 0)), VV.any,
 VV.one (V1.c (C.slc 14 0 B.w.length none)), VV.one (V1.c (C.slc 15 0 B.n.length none)), VV.one (V1.c (C.slc 16 0 B.m.length none)), VV.one (V1.c (C.slc 17 0 B.d.length none)), i64 (↑z.snd.snd : Int), VV.one
 (V1.c (C.rs 5 1 (rd B.w (↑z.snd.snd : Int).toNat RS.nil))), i64 (rd B.m (↑z.snd.snd : Int).toNat (0 : Int)), i64 (0 : Int)] ++ anys 179) [Atom.cells 46 (bookC false false z.fst.turn z.fst.deep [C.slc 10
 0 z.fst.o.length none, C.slc 11 0 z.fst.t.length none, C.slc 18 0 z.fst.w.length none, C.slc 19 0 z.fst.n.length none, C.slc 12 0 z.fst.f.length none, C.slc 20 0 z.fst.m.length none, C.slc 21 0 z.fst.d.length
 none, C.slc 13 0 z.fst.r.length none, C.int .i64 z.fst.seen]), Atom.gone, Atom.gone, Atom.gone, Atom.gone, Atom.gone, Atom.gone, Atom.gone, Atom.gone, Atom.bag z.snd.fst, Atom.arr Kd.ru8 z.fst.o, Atom.arr
 Kd.ru8 z.fst.t, Atom.arr Kd.ru8 z.fst.f, Atom.arr Kd.int z.fst.r, Atom.arr Kd.ru8 B.w, Atom.arr Kd.ru8 B.n, Atom.arr Kd.int B.m, Atom.arr Kd.int B.d, Atom.arr Kd.ru8 z.fst.w, Atom.arr Kd.ru8 z.fst.n, Atom.arr
 Kd.int z.fst.m, Atom.arr Kd.int z.fst.d] ∧ ∀ (z_1 : Nat × Bag KK), (z_1.fst ≤ RS.len (rd B.w (↑z.snd.snd : Int).toNat RS.nil) ∧ BkOk z_1.snd Kd.u8 1000000 (Bk.mk (z.fst.o) (z.fst.t) (z.fst.w ++ List.drop
 ((↑z.snd.snd : Int).toNat + 1) B.w) (z.fst.n ++ List.drop ((↑z.snd.snd : Int).toNat + 1) B.n) (z.fst.f)) ∧ Alone z_1.snd Kd.u8 1000000 (Bk.mk (z.fst.o) (z.fst.t) (z.fst.w ++ List.drop ((↑z.snd.snd : Int).toNat
 + 1) B.w) (z.fst.n ++ List.drop ((↑z.snd.snd : Int).toNat + 1) B.n) (z.fst.f)) (rd B.w (↑z.snd.snd : Int).toNat RS.nil) ∧ HasTab z_1.snd ∧ ∀ (b : Nat) (i : BI KK), z.snd.fst b = some i → (∀ (y : RS), List.Mem
 y (z.fst.o ++ (z.fst.t ++ (z.fst.w ++ List.drop ((↑z.snd.snd : Int).toNat + 1) B.w ++ (z.fst.n ++ List.drop ((↑z.snd.snd : Int).toNat + 1) B.n ++ z.fst.f)))) → ¬y.At b) → ¬RS.At (rd B.w (↑z.snd.snd : Int).toNat
 RS.nil) b → z_1.snd b = some i) → ite2 (decide ((↑z_1.fst : Int) < (↑(RS.len (rd B.w (↑z.snd.snd : Int).toNat RS.nil)) : Int))) (i64ok ((3 : Int) * (↑z_1.fst : Int)) ∧ i64ok (rd B.m (↑z.snd.snd : Int).toNat
 (0 : Int) + (3 : Int) * (↑z_1.fst : Int)) ∧ ((0 : Int) ≤ (↑z_1.fst : Int) ∧ (↑z_1.fst : Int) < (↑(RS.len (rd B.w (↑z.snd.snd : Int).toNat RS.nil)) : Int)) ∧ ∃ (cap : Nat), ∃ (xs : List (Int)), z_1.snd
 (RS.blk (rd B.w (↑z.snd.snd : Int).toNat RS.nil)) = some (BI.row Kd.u8 cap xs) ∧ RS.lo (rd B.w (↑z.snd.snd : Int).toNat RS.nil) + (↑z_1.fst : Int).toNat < xs.length ∧ i64ok ((↑z_1.fst : Int) + (1 : Int))
 ∧ Enter 10 (inv_mTi (BS.mk (z.fst.turn) (z.fst.deep) (z.fst.o) (z.fst.t) (z.fst.w) (z.fst.n) (z.fst.f) (z.fst.m) (z.fst.d) (z.fst.r) (z.fst.seen)) B.w B.n B.m B.d (↑z.snd.snd : Int) (rd B.w (↑z.snd.snd
 : Int).toNat RS.nil) (rd B.m (↑z.snd.snd : Int).toNat (0 : Int)) z.snd.fst) (fun (z' : Nat × Bag KK) => RS.len (rd B.w (↑z.snd.snd : Int).toNat RS.nil) - z'.fst < RS.len (rd B.w (↑z.snd.snd : Int).toNat
 RS.nil) - z_1.fst) ([VV.one (V1.c (C.ptr 0 0 0)), VV.any, VV.one (V1.c (C.slc 14 0 B.w.length none)), VV.one (V1.c (C.slc 15 0 B.n.length none)), VV.one (V1.c (C.slc 16 0 B.m.length none)), VV.one (V1.c
 (C.slc 17 0 B.d.length none)), i64 (↑z.snd.snd : Int), VV.one (V1.c (C.rs 5 1 (rd B.w (↑z.snd.snd : Int).toNat RS.nil))), VV.one (V1.c (C.int .i64 (rd B.m (↑z.snd.snd : Int).toNat (0 : Int)))), i64 ((↑z_1.fst
 : Int) + (1 : Int))] ++ anys 179) [Atom.cells 46 (bookC false false z.fst.turn z.fst.deep [C.slc 10 0 z.fst.o.length none, C.slc 11 0 z.fst.t.length none, C.slc 18 0 z.fst.w.length none, C.slc 19 0 z.fst.n.length
 none, C.slc 12 0 z.fst.f.length none, C.slc 20 0 z.fst.m.length none, C.slc 21 0 z.fst.d.length none, C.slc 13 0 z.fst.r.length none, C.int .i64 z.fst.seen]), Atom.gone, Atom.gone, Atom.gone, Atom.gone,
 Atom.gone, Atom.gone, Atom.gone, Atom.gone, Atom.bag (bput z_1.snd (RS.blk (rd B.w (↑z.snd.snd : Int).toNat RS.nil)) (BI.row Kd.u8 cap (xs.set (RS.lo (rd B.w (↑z.snd.snd : Int).toNat RS.nil) + (↑z_1.fst
 : Int).toNat) (IntKind.wrap .u8 (rd B.m (↑z.snd.snd : Int).toNat (0 : Int) + (3 : Int) * (↑z_1.fst : Int)))))), Atom.arr Kd.ru8 z.fst.o, Atom.arr Kd.ru8 z.fst.t, Atom.arr Kd.ru8 z.fst.f, Atom.arr Kd.int
 z.fst.r, Atom.arr Kd.ru8 B.w, Atom.arr Kd.ru8 B.n, Atom.arr Kd.int B.m, Atom.arr Kd.int B.d, Atom.arr Kd.ru8 z.fst.w, Atom.arr Kd.ru8 z.fst.n, Atom.arr Kd.int z.fst.m, Atom.arr Kd.int z.fst.d]) (z.fst.o.length
 = z.fst.o.length ∧ (1 ≤ 1 ∧ True) ∧ (z.fst.o.length + 1) * 24 ≤ 140737488355328 ∧ True ∧ (VV.one (V1.c (C.slc 11 0 z.fst.t.length none)) = VV.one (V1.c (C.slc 11 0 z.fst.t.length none)) ∧ True) ∧ 0 = 0
 ∧ ∃ (ys : List (Int)), RS.row z_1.snd Kd.u8 (rd B.w (↑z.snd.snd : Int).toNat RS.nil) = some ys ∧ (0 + ys.length) * 1 ≤ 140737488355328 ∧ (VV.one (V1.c (C.slc 11 0 z.fst.t.length none)) = VV.one (V1.c (C.slc
 11 0 z.fst.t.length none)) ∧ True) ∧ 0 + ys.length = ys.length ∧ (ys = [] → (VV.one (V1.c (C.slc 11 0 z.fst.t.length none)) = VV.one (V1.c (C.slc 11 0 z.fst.t.length none)) ∧ True) ∧ z.fst.t.length = z.fst.t.length
 ∧ (1 ≤ 1 ∧ True) ∧ (z.fst.t.length + 1) * 24 ≤ 140737488355328 ∧ True ∧ True ∧ z.fst.f.length = z.fst.f.length ∧ (1 ≤ 1 ∧ True) ∧ (z.fst.f.length + 1) * 24 ≤ 140737488355328 ∧ z.fst.r.length = z.fst.r.length
 ∧ (1 ≤ 1 ∧ True) ∧ (z.fst.r.length + 1) * 8 ≤ 140737488355328 ∧ i64ok ((↑z.snd.snd : Int) + (1 : Int)) ∧ Enter 10 (inv_mT B φ) (fun (z' : BS × Bag KK × Nat) => B.w.length - z'.snd.snd < B.w.length - z.snd.snd)
 ([VV.one (V1.c (C.ptr 0 0 0)), VV.any, VV.one (V1.c (C.slc 14 0 B.w.length none)), VV.one (V1.c (C.slc 15 0 B.n.length none)), VV.one (V1.c (C.slc 16 0 B.m.length none)), VV.one (V1.c (C.slc 17 0 B.d.length
 none)), VV.one (V1.c (C.int .i64 ((↑z.snd.snd : Int) + (1 : Int)))), VV.one (V1.c (C.rs 5 1 (rd B.w (↑z.snd.snd : Int).toNat RS.nil))), VV.one (V1.c (C.int .i64 (rd B.m (↑z.snd.snd : Int).toNat (0 : Int)))),
 VV.one (V1.c (C.int .i64 (↑z_1.fst : Int)))] ++ anys 179) [Atom.cells 46 (bookC false false z.fst.turn z.fst.deep [C.slc 23 0 (z.fst.o.length + 1) none, C.slc 27 0 (z.fst.t.length + 1) none, C.slc 18 0
 z.fst.w.length none, C.slc 19 0 z.fst.n.length none, C.slc 29 0 (z.fst.f.length + 1) none, C.slc 20 0 z.fst.m.length none, C.slc 21 0 z.fst.d.length none, C.slc 31 0 (z.fst.r.length + 1) none, C.int .i64
 z.fst.seen]), Atom.gone, Atom.gone, Atom.gone, Atom.gone, Atom.gone, Atom.gone, Atom.gone, Atom.gone, Atom.bag z_1.snd, Atom.gone, Atom.gone, Atom.gone, Atom.gone, Atom.arr Kd.ru8 B.w, Atom.arr Kd.ru8
 B.n, Atom.arr Kd.int B.m, Atom.arr Kd.int B.d, Atom.arr Kd.ru8 z.fst.w, Atom.arr Kd.ru8 z.fst.n, Atom.arr Kd.int z.fst.m, Atom.arr Kd.int z.fst.d, Atom.arr Kd.ru8 [rd B.w (↑z.snd.snd : Int).toNat RS.nil],
 Atom.arr Kd.ru8 (z.fst.o ++ [rd B.w (↑z.snd.snd : Int).toNat RS.nil]), Atom.gone, Atom.gone, Atom.arr Kd.ru8 [RS.nil], Atom.arr Kd.ru8 (z.fst.t ++ [RS.nil]), Atom.arr Kd.ru8 [rd B.w (↑z.snd.snd : Int).toNat
 RS.nil], Atom.arr Kd.ru8 (z.fst.f ++ [rd B.w (↑z.snd.snd : Int).toNat RS.nil]), Atom.arr Kd.int [rd B.m (↑z.snd.snd : Int).toNat (0 : Int)], Atom.arr Kd.int (z.fst.r ++ [rd B.m (↑z.snd.snd : Int).toNat
 (0 : Int)])]) ∧ ∀ (b c : Nat), z_1.snd b = none → ys.length ≤ c → (VV.one (V1.c (C.slc 11 0 z.fst.t.length none)) = VV.one (V1.c (C.slc 11 0 z.fst.t.length none)) ∧ True) ∧ z.fst.t.length = z.fst.t.length
 ∧ (1 ≤ 1 ∧ True) ∧ (z.fst.t.length + 1) * 24 ≤ 140737488355328 ∧ True ∧ True ∧ z.fst.f.length = z.fst.f.length ∧ (1 ≤ 1 ∧ True) ∧ (z.fst.f.length + 1) * 24 ≤ 140737488355328 ∧ z.fst.r.length = z.fst.r.length
 ∧ (1 ≤ 1 ∧ True) ∧ (z.fst.r.length + 1) * 8 ≤ 140737488355328 ∧ i64ok ((↑z.snd.snd : Int) + (1 : Int)) ∧ Enter 10 (inv_mT B φ) (fun (z' : BS × Bag KK × Nat) => B.w.length - z'.snd.snd < B.w.length - z.snd.snd)
 ([VV.one (V1.c (C.ptr 0 0 0)), VV.any, VV.one (V1.c (C.slc 14 0 B.w.length none)), VV.one (V1.c (C.slc 15 0 B.n.length none)), VV.one (V1.c (C.slc 16 0 B.m.length none)), VV.one (V1.c (C.slc 17 0 B.d.length
 none)), VV.one (V1.c (C.int .i64 ((↑z.snd.snd : Int) + (1 : Int)))), VV.one (V1.c (C.rs 5 1 (rd B.w (↑z.snd.snd : Int).toNat RS.nil))), VV.one (V1.c (C.int .i64 (rd B.m (↑z.snd.snd : Int).toNat (0 : Int)))),
 VV.one (V1.c (C.int .i64 (↑z_1.fst : Int)))] ++ anys 179) [Atom.cells 46 (bookC false false z.fst.turn z.fst.deep [C.slc 23 0 (z.fst.o.length + 1) none, C.slc 27 0 (z.fst.t.length + 1) none, C.slc 18 0
 z.fst.w.length none, C.slc 19 0 z.fst.n.length none, C.slc 29 0 (z.fst.f.length + 1) none, C.slc 20 0 z.fst.m.length none, C.slc 21 0 z.fst.d.length none, C.slc 31 0 (z.fst.r.length + 1) none, C.int .i64
 z.fst.seen]), Atom.gone, Atom.gone, Atom.gone, Atom.gone, Atom.gone, Atom.gone, Atom.gone, Atom.gone, Atom.bag (bput z_1.snd b (BI.row Kd.u8 c ys)), Atom.gone, Atom.gone, Atom.gone, Atom.gone, Atom.arr
 Kd.ru8 B.w, Atom.arr Kd.ru8 B.n, Atom.arr Kd.int B.m, Atom.arr Kd.int B.d, Atom.arr Kd.ru8 z.fst.w, Atom.arr Kd.ru8 z.fst.n, Atom.arr Kd.int z.fst.m, Atom.arr Kd.int z.fst.d, Atom.arr Kd.ru8 [rd B.w (↑z.snd.snd
 : Int).toNat RS.nil], Atom.arr Kd.ru8 (z.fst.o ++ [rd B.w (↑z.snd.snd : Int).toNat RS.nil]), Atom.gone, Atom.gone, Atom.arr Kd.ru8 [RS.mk b 0 (0 + ys.length) c], Atom.arr Kd.ru8 (z.fst.t ++ [RS.mk b 0
 (0 + ys.length) c]), Atom.arr Kd.ru8 [rd B.w (↑z.snd.snd : Int).toNat RS.nil], Atom.arr Kd.ru8 (z.fst.f ++ [rd B.w (↑z.snd.snd : Int).toNat RS.nil]), Atom.arr Kd.int [rd B.m (↑z.snd.snd : Int).toNat (0
 : Int)], Atom.arr Kd.int (z.fst.r ++ [rd B.m (↑z.snd.snd : Int).toNat (0 : Int)])]))) (EndsAs 10 (ct_mT B φ) (VV.tup []) [Atom.cells 46 (bookC false false z.fst.turn z.fst.deep [C.slc 10 0 z.fst.o.length
 none, C.slc 11 0 z.fst.t.length none, C.slc 18 0 z.fst.w.length none, C.slc 19 0 z.fst.n.length none, C.slc 12 0 z.fst.f.length none, C.slc 20 0 z.fst.m.length none, C.slc 21 0 z.fst.d.length none, C.slc
 13 0 z.fst.r.length none, C.int .i64 z.fst.seen]), Atom.gone, Atom.gone, Atom.gone, Atom.gone, Atom.gone, Atom.gone, Atom.gone, Atom.gone, Atom.bag z.snd.fst, Atom.arr Kd.ru8 z.fst.o, Atom.arr Kd.ru8 z.fst.t,
 Atom.arr Kd.ru8 z.fst.f, Atom.arr Kd.int z.fst.r, Atom.arr Kd.ru8 B.w, Atom.arr Kd.ru8 B.n, Atom.arr Kd.int B.m, Atom.arr Kd.int B.d, Atom.arr Kd.ru8 z.fst.w, Atom.arr Kd.ru8 z.fst.n, Atom.arr Kd.int z.fst.m,
 Atom.arr Kd.int z.fst.d]))) := by kernel_rfl
end Go.Proofs.YtndlpbheifalhaaGreatDoor.T
end
section
namespace Go.Proofs.YtndlpbheifalhaaGreatDoor.T
open Go.Proofs.YtndlpbheifalhaaGreatDoor.E
set_option maxRecDepth 100000
set_option linter.unusedVariables false
theorem HasTab.put {φ : Bag KK} (h : HasTab φ) {b : Nat} {i : BI KK} : HasTab (bput φ b i) := by
  trivial
theorem HasTab.frz {φ φ' : Bag KK} {kd : Kd} {xs : List (KK.α kd)} {y : RS} (h : HasTab φ) (hy : Frz φ kd xs y φ') : HasTab φ' := h.ext hy.ext
theorem rest_later (B C : BS) (k : Nat) (h : k < B.w.length) (hn : B.n.length = B.w.length) (hm : B.m.length = B.w.length) (hd : B.d.length = B.w.length) :
    ({ C with w := C.w ++ [rd B.w k .nil], n := C.n ++ [rd B.n k .nil], m := C.m ++ [rd B.m k 0], d := C.d ++ [rd B.d k 0] } : BS).rest B.w B.n B.m B.d (k + 1) = C.rest B.w B.n B.m B.d k := by
  simp only [BS.rest]
  rw [drop_rd h .nil, drop_rd (show k < B.n.length by omega) .nil, drop_rd (show k < B.m.length by omega) 0, drop_rd (show k < B.d.length by omega) 0]
  simp [List.append_assoc]
theorem rest_end (B C : BS) (hn : B.n.length = B.w.length) (hm : B.m.length = B.w.length) (hd : B.d.length = B.w.length) : C.rest B.w B.n B.m B.d B.w.length = C := by
  simp only [BS.rest]
  rw [List.drop_of_length_le (Nat.le_refl _), List.drop_of_length_le (by omega), List.drop_of_length_le (by omega), List.drop_of_length_le (by omega)]
  simp
theorem len_snoc {A : Type} (l : List A) (a : A) : l.length + 1 = (l ++ [a]).length := by simp
theorem mem_drop_rd {A : Type} {l : List A} {k : Nat} (h : k < l.length) (d : A) : rd l k d ∈ l := by
  rw [rd, List.getD_eq_getElem?_getD, List.getElem?_eq_getElem h]; exact List.getElem_mem h
/-- The next list is written full. -/
theorem book_written {φ' φ'' ψ : Bag KK} {B C : BS} {k : Nat} {y : RS} {ys : List Int} (hb : BookOk φ' (C.rest B.w B.n B.m B.d k)) (h : k < B.w.length) (hn : B.n.length = B.w.length) (hm : B.m.length = B.w.length) (hd : B.d.length = B.w.length)
    (e1 : C.w.length = C.n.length) (hg : BkOk ψ Kd.u8 1000000 (C.rest B.w B.n B.m B.d (k + 1)).bk) (ha : Alone ψ Kd.u8 1000000 (C.rest B.w B.n B.m B.d (k + 1)).bk (rd B.w k .nil)) (ht : HasTab ψ) (hr : (rd B.w k .nil).row ψ Kd.u8 = some ys) (hy : Frz ψ Kd.u8 ys y φ'') :
    BookOk φ'' (({ C with o := C.o ++ [rd B.w k .nil], t := C.t ++ [y], f := C.f ++ [rd B.w k .nil], r := C.r ++ [rd B.m k 0] } : BS).rest B.w B.n B.m B.d (k + 1)) := by
  have mm := drop_rd (show k < B.m.length by omega) (0 : Int)
  refine ⟨hg.written ha hr hy, ht.frz hy, ?_, ?_, ?_, fun x hx => hb.mb x ?_, fun x hx => ?_, ?_, hb.few, hb.turn⟩
  · have := hb.lm
    simp only [BS.rest, List.length_append, List.length_drop] at this ⊢
    omega
  · have := hb.ld
    simp only [BS.rest, List.length_append, List.length_drop] at this ⊢
    omega
  · have := hb.lr
    simp only [BS.rest, List.length_append, List.length_singleton] at this ⊢
    omega
  · simp only [BS.rest, List.mem_append] at hx ⊢
    rcases hx with hx | hx
    · exact .inl hx
    · exact .inr (by rw [mm]; exact List.mem_cons_of_mem _ hx)
  · simp only [BS.rest, List.mem_append, List.mem_singleton] at hx
    rcases hx with hx | rfl
    · exact hb.rb x hx
    · exact hb.mb _ (by simp only [BS.rest, List.mem_append]; exact .inr (by rw [mm]; simp))
  · have := hb.cnt
    simp only [BS.rest, List.length_append, List.length_drop, List.length_singleton] at this ⊢
    omega
theorem mT_ok (B : BS) (φ : Bag KK) : CtOk Tryz.prog 92 (ct_mT B φ) := CtOk_of KK_ok tabB (ann_mT B φ) (fn := Tryz.f92) rfl (fun _ _ => rfl) fun hn => by
  have hn : BookOk φ B := hn
  have hon : B.n.length = B.w.length := (All2.length hn.good.note).symm
  have hlm := hn.lm
  have hld := hn.ld
  have hcB := hn.cnt
  have hfB := hn.few
  rw [vc_mT]
  simp only [Int.toNat_natCast, Nat.zero_add, Nat.add_zero]
  refine ite2_decide (fun h0 => ⟨(B, φ), [], [0, 1, 2, 3, 4, 5, 6, 7, 8, 9, 1, 2, 3, 4, 5, 6, 7, 8], ⟨hn, ⟨rfl, rfl, rfl⟩, Stays.refl _ _⟩, by (repeat' first | exact trivial | exact rfl | apply And.intro)⟩) (fun h0 => ⟨⟨({ B with w := [], n := [], m := [], d := [] }, φ, (0 : Nat)), [.ru8, .ru8, .int, .int], [0, 1, 2, 3, 4, 5, 6, 7, 8, 9, 1, 2, 5, 8, 3, 4, 6, 7, 10, 11, 12, 13], ⟨Nat.zero_le _, hn, rfl, rfl, rfl, ⟨rfl, rfl, rfl⟩, Stays.refl _ _⟩, trivial, into_mk (by kernel_rfl) (by (repeat' first | exact trivial | exact rfl | apply And.intro)) (by (repeat' first | exact trivial | exact rfl | apply And.intro))⟩, ?_⟩)
  rintro ⟨C, φ', k⟩ ⟨hk, hb, e1, e2, e3, hs, hst⟩
  have hs : SameB B C := hs
  have hst : Stays φ B.bk φ' (C.rest B.w B.n B.m B.d k).bk := hst
  have hb : BookOk φ' (C.rest B.w B.n B.m B.d k) := hb
  dsimp only at hk e1 e2 e3 ⊢
  have hcnt := hb.cnt
  have hfew := hb.few
  have hlo : (C.o.length : Int) + 2 * (C.w ++ B.w.drop k).length + C.f.length = 2 * C.seen := hcnt
  have hfew : C.seen ≤ 100000 := hfew
  simp only [List.length_append, List.length_drop] at hlo
  have hto : C.o.length = C.t.length := All2.length hb.good.told
  have hrf : C.r.length = C.f.length := hb.lr
  refine ite2_decide (fun hl => ?_) (fun hl => ?_)
  · have hl1 : k < B.w.length := by omega
    have hl2 : k < B.n.length := by omega
    have hl3 : k < B.m.length := by omega
    have hl4 : k < B.d.length := by omega
    refine ⟨⟨by omega, by omega⟩, hl1, trivial, hl1, ⟨by omega, by omega⟩, hl3, trivial, hl3, ⟨by omega, by omega⟩, hl4, trivial, hl4, ite2_decide (fun hdue => ?_) (fun hdue => ?_)⟩
    · exact ⟨trivial, trivial, ⟨Nat.le_refl _, trivial⟩, by omega, ⟨by omega, by omega⟩, hl2, trivial, hl2, trivial, ⟨trivial, trivial⟩, trivial, ⟨Nat.le_refl _, trivial⟩, by omega, trivial, trivial, trivial, ⟨Nat.le_refl _, trivial⟩, by omega, ⟨by omega, by omega⟩, hl4, trivial, hl4, trivial, ⟨trivial, trivial⟩, trivial, ⟨Nat.le_refl _, trivial⟩, by omega, trivial, trivial, by unfold i64ok; omega,
        ({ C with w := C.w ++ [rd B.w k .nil], n := C.n ++ [rd B.n k .nil], m := C.m ++ [rd B.m k 0], d := C.d ++ [rd B.d k 0] }, φ', (k + 1 : Nat)), [], [0, 1, 2, 3, 4, 5, 6, 7, 8, 9, 10, 11, 12, 13, 14, 15, 16, 17, 23, 25, 27, 29], ⟨hl1, by show BookOk φ' _; rw [rest_later B C k hl1 hon hlm hld]; exact hb, by simp [e1], by simp [e2], by simp [e3], hs, by have h := hst; rw [← rest_later B C k hl1 hon hlm hld] at h; exact h⟩, by show B.w.length - (k + 1) < B.w.length - k; omega,
        into_mk (by kernel_rfl) (by (repeat' first | exact trivial | exact rfl | exact len_snoc _ _ | apply And.intro)) (by (repeat' first | exact trivial | exact rfl | exact len_snoc _ _ | apply And.intro))⟩
    · have hg := hb.good
      have hg : BkOk φ' Kd.u8 1000000 ⟨C.o, C.t, C.w ++ B.w.drop k, C.n ++ B.n.drop k, C.f⟩ := hg
      rw [drop_rd hl1 .nil, drop_rd hl2 .nil] at hg
      have hst : Stays φ B.bk φ' ⟨C.o, C.t, C.w ++ B.w.drop k, C.n ++ B.n.drop k, C.f⟩ := hst
      rw [drop_rd hl1 .nil, drop_rd hl2 .nil] at hst
      obtain ⟨hg', ha, xs, x1, x2, x3⟩ := hg.take e1
      have x3' : (xs : List Int).length ≤ 1000000 := x3
      have hmk := hb.mb (rd B.m k 0) (by simp only [BS.rest, List.mem_append]; exact .inr (by rw [drop_rd hl3 0]; simp))
      refine ⟨trivial, ⟨by omega, by omega⟩, hl2, trivial, hl2, ⟨xs, x1, x2, le_big (le_150 x3)⟩, into_mk (by kernel_rfl) (by (repeat' first | exact trivial | exact rfl | apply And.intro)) (by (repeat' first | exact trivial | exact rfl | apply And.intro)), fun _ _ => ⟨⟨((0 : Nat), φ'), [], [0, 1, 2, 3, 4, 5, 6, 7, 8, 9, 10, 11, 12, 13, 14, 15, 16, 17, 18, 19, 20, 21], ⟨Nat.zero_le _, hg', ha, hb.tab, fun _ _ h _ _ => h⟩, trivial, into_mk (by kernel_rfl) (by (repeat' first | exact trivial | exact rfl | apply And.intro)) (by (repeat' first | exact trivial | exact rfl | apply And.intro))⟩, ?_⟩⟩
      rintro ⟨i, ψ⟩ ⟨hi, gg, aa, tt, kk⟩
      dsimp only at hi gg aa tt ⊢
      have kk : Keep1 φ' ⟨C.o, C.t, C.w ++ B.w.drop (k + 1), C.n ++ B.n.drop (k + 1), C.f⟩ (rd B.w k .nil) ψ := kk
      obtain ⟨zs, z1, z2, z3⟩ := aa.whole
      have hzl := RS.row_len z2
      have z3' : (zs : List Int).length ≤ 1000000 := z3
      refine ite2_decide (fun hil => ?_) (fun hil => ?_)
      · have hil1 : i < (rd B.w k RS.nil).len := by omega
        have hzb : (rd B.w k RS.nil).len ≤ 1000000 := by omega
        obtain ⟨cap, us, u1, u2, _⟩ := RS.rd z2 hil1 (0 : Int)
        have hne : rd B.w k RS.nil ≠ .nil := fun e => by rw [e] at hil1; simp [RS.len] at hil1
        refine ⟨by unfold i64ok; omega, by unfold i64ok; omega, ⟨by omega, by omega⟩, cap, us, u1, u2, by unfold i64ok; omega, ((i + 1 : Nat), bput ψ (rd B.w k RS.nil).blk (.row Kd.u8 cap (us.set ((rd B.w k RS.nil).lo + i) (IntKind.wrap .u8 (rd B.m k 0 + 3 * i))))), [], [0, 1, 2, 3, 4, 5, 6, 7, 8, 9, 10, 11, 12, 13, 14, 15, 16, 17, 18, 19, 20, 21], ⟨hil1, gg.write aa.off ⟨hne, rfl⟩, aa.write u1 hne _ _, tt.put, kk.put hne⟩, ?_, into_mk (by kernel_rfl) (by (repeat' first | exact trivial | exact rfl | apply And.intro)) (by (repeat' first | exact trivial | exact rfl | apply And.intro))⟩
        show (rd B.w k RS.nil).len - (i + 1) < (rd B.w k RS.nil).len - i
        omega
      · have key : ∀ y φ'', Frz ψ Kd.u8 zs y φ'' → BookOk φ'' (({ C with o := C.o ++ [rd B.w k .nil], t := C.t ++ [y], f := C.f ++ [rd B.w k .nil], r := C.r ++ [rd B.m k 0] } : BS).rest B.w B.n B.m B.d (k + 1)) := fun y φ'' hy => book_written hb hl1 hon hlm hld e1 gg aa tt z2 hy
        have kst : ∀ y φ'', Frz ψ Kd.u8 zs y φ'' → Stays φ B.bk φ'' (({ C with o := C.o ++ [rd B.w k .nil], t := C.t ++ [y], f := C.f ++ [rd B.w k .nil], r := C.r ++ [rd B.m k 0] } : BS).rest B.w B.n B.m B.d (k + 1)).bk := fun y φ'' hy => hst.trans (kk.written hy)
        refine ⟨trivial, ⟨Nat.le_refl _, trivial⟩, by omega, trivial, ⟨trivial, trivial⟩, trivial, zs, z2, le_lim (le_150 z3), ⟨trivial, trivial⟩, trivial, fun hz => ⟨⟨trivial, trivial⟩, trivial, ⟨Nat.le_refl _, trivial⟩, by omega, trivial, trivial, trivial, ⟨Nat.le_refl _, trivial⟩, by omega, trivial, ⟨Nat.le_refl _, trivial⟩, by omega, by unfold i64ok; omega,
          ({ C with o := C.o ++ [rd B.w k .nil], t := C.t ++ [.nil], f := C.f ++ [rd B.w k .nil], r := C.r ++ [rd B.m k 0] }, ψ, (k + 1 : Nat)), [], [0, 1, 2, 3, 4, 5, 6, 7, 8, 9, 23, 27, 29, 31, 14, 15, 16, 17, 18, 19, 20, 21], ⟨hl1, key _ _ (.nil_ hz), e1, e2, e3, hs, kst _ _ (.nil_ hz)⟩, by show B.w.length - (k + 1) < B.w.length - k; omega, into_mk (by kernel_rfl) (by (repeat' first | exact trivial | exact rfl | exact len_snoc _ _ | apply And.intro)) (by (repeat' first | exact trivial | exact rfl | exact len_snoc _ _ | apply And.intro))⟩, fun b c hfr hc => ⟨⟨trivial, trivial⟩, trivial, ⟨Nat.le_refl _, trivial⟩, by omega, trivial, trivial, trivial, ⟨Nat.le_refl _, trivial⟩, by omega, trivial, ⟨Nat.le_refl _, trivial⟩, by omega, by unfold i64ok; omega,
          ({ C with o := C.o ++ [rd B.w k .nil], t := C.t ++ [.mk b 0 zs.length c], f := C.f ++ [rd B.w k .nil], r := C.r ++ [rd B.m k 0] }, bput ψ b (.row Kd.u8 c zs), (k + 1 : Nat)), [], [0, 1, 2, 3, 4, 5, 6, 7, 8, 9, 23, 27, 29, 31, 14, 15, 16, 17, 18, 19, 20, 21], ⟨hl1, key _ _ (.mk b c hfr hc), e1, e2, e3, hs, kst _ _ (.mk b c hfr hc)⟩, by show B.w.length - (k + 1) < B.w.length - k; omega, into_mk (by kernel_rfl) (by (repeat' first | exact trivial | exact rfl | exact len_snoc _ _ | apply And.intro)) (by (repeat' first | exact trivial | exact rfl | exact len_snoc _ _ | apply And.intro))⟩⟩
  · obtain rfl : k = B.w.length := by omega
    have hb' : BookOk φ' C := by rw [rest_end B C hon hlm hld] at hb; exact hb
    have hst' : Stays φ B.bk φ' C.bk := by have h := hst; rw [rest_end B C hon hlm hld] at h; exact h
    exact ⟨(C, φ'), [], [0, 1, 2, 3, 4, 5, 6, 7, 8, 9, 10, 11, 18, 19, 12, 20, 21, 13], ⟨hb', hs, hst'⟩, by (repeat' first | exact trivial | exact rfl | apply And.intro)⟩
end Go.Proofs.YtndlpbheifalhaaGreatDoor.T
end
