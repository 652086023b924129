/- The kinds of the lists of the laws that write bytes. -/
import Derived.Test.YtndlpbheifalhaaGreatDoorEm
import Derived.Test.YtndlpbheifalhaaGreatDoorProg
import Derived.KernelRfl
namespace Go.Proofs.YtndlpbheifalhaaGreatDoor.T
open Go.Proofs.YtndlpbheifalhaaGreatDoor.E
inductive Kd | int | u8 | ru8
  deriving DecidableEq
@[reducible] def Kd.α : Kd → Type | .int => Int | .u8 => Int | .ru8 => RS
def KK : Kinds where
  Kd := Kd
  deq := inferInstance
  α := Kd.α
  size := fun | .int => 1 | .u8 => 1 | .ru8 => 1
  elem := fun | .int => 3 | .u8 => 5 | .ru8 => 22
  enc := fun
    | .int => fun x => [.int .i64 x]
    | .u8 => fun x => [.int .u8 x]
    | .ru8 => fun x => [.rs 5 1 x]
  dec := fun
    | .int => fun | [.int .i64 x] => some x | _ => none
    | .u8 => fun | [.int .u8 x] => some x | _ => none
    | .ru8 => fun | [.rs 5 1 x] => some x | _ => none
  dflt := fun | .int => (0 : Int) | .u8 => (0 : Int) | .ru8 => RS.nil
  ofType := fun | 3 => some .int | 5 => some .u8 | 22 => some .ru8 | _ => none
theorem KK_ok : KK.Ok where
  pos := fun k => by cases k <;> decide
  len := fun k x => by cases k <;> rfl
  one := fun k x => List.all_eq_true.1 (by cases k <;> rfl)
  nm := fun k x c hc => Option.isNone_iff_eq_none.1 (List.all_eq_true.1 (show (KK.enc k x).all (fun c => c.nm.isNone) = true by cases k <;> rfl) c hc)
  dec := fun k cs x h => by
    cases k <;> simp only [KK] at h ⊢ <;> split at h <;> first | (injection h with h; subst h; rfl) | cases h
theorem mixed : Tryz.prog.follows .mixedOrders = true := by kernel_rfl
def tab0 : Tab Tryz.prog KK := ⟨mixed, fun _ _ _ => none, fun _ _ _ _ _ _ h => nomatch h⟩
def ann0 : Ann KK := { loop := fun _ _ _ => none, cut := fun _ _ _ => none }
def ann1 (inv : Inv KK) : Ann KK := { loop := fun _ _ _ => some inv, cut := fun _ _ _ => none }
abbrev anys (n : Nat) : List VV := List.replicate n .any
theorem i64z : i64ok 0 := ⟨by decide, by decide⟩
theorem into_mk {N0 : Nat} {ks : List KK.Kd} {τ : List Nat} {vs : List VV} {H : VH KK} {us : List VV} {H' : VH KK}
    (hg : (nodupB (live τ H') && (τ.all (fun n => Nat.blt n (H.length + ks.length)) && (prefB N0 τ && (Nat.ble N0 H'.length && (us.all (VV.ltB H'.length) && (H'.all (Atom.ltB H'.length))))))) = true)
    (h1 : EqVs H.length (fun n => τ.getD n 0) vs us) (h2 : EqH H.length (fun n => τ.getD n 0) (H ++ nilsOf ks) τ H') : Into N0 ks τ vs H us H' := guardP_iff.2 ⟨hg, h1, h2⟩
abbrev i64 (n : Int) : VV := .c (.int .i64 n)
abbrev boolv (b : Bool) : VV := .c (.bool b)
end Go.Proofs.YtndlpbheifalhaaGreatDoor.T
