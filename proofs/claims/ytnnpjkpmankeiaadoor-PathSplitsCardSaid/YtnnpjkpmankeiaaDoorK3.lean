/- The kinds of the lists of a path's law. -/
import Derived.Test.YtnnpjkpmankeiaaDoorEm
import Derived.Test.YtnnpjkpmankeiaaDoorProg
import Derived.KernelRfl
namespace Go.Proofs.YtnnpjkpmankeiaaDoor.T
open Go.Proofs.YtnnpjkpmankeiaaDoor.E
inductive Kd | int | str | rstr
  deriving DecidableEq
@[reducible] def Kd.α : Kd → Type | .int => Int | .str => ByteArray | .rstr => RS
def KK : Kinds where
  Kd := Kd
  deq := inferInstance
  α := Kd.α
  size := fun | .int => 1 | .str => 1 | .rstr => 1
  elem := fun | .int => 3 | .str => 9 | .rstr => 42
  enc := fun
    | .int => fun x => [.int .i64 x]
    | .str => fun x => [.str x]
    | .rstr => fun x => [.rs 9 1 x]
  dec := fun
    | .int => fun | [.int .i64 x] => some x | _ => none
    | .str => fun | [.str x] => some x | _ => none
    | .rstr => fun | [.rs 9 1 x] => some x | _ => none
  dflt := fun | .int => (0 : Int) | .str => (ByteArray.empty : ByteArray) | .rstr => RS.nil
  ofType := fun | 3 => some .int | 9 => some .str | 42 => some .rstr | _ => none
theorem KK_ok : KK.Ok where
  pos := fun k => by cases k <;> decide
  len := fun k x => by cases k <;> rfl
  one := fun k x => List.all_eq_true.1 (by cases k <;> rfl)
  nm := fun k x c hc => Option.isNone_iff_eq_none.1 (List.all_eq_true.1 (show (KK.enc k x).all (fun c => c.nm.isNone) = true by cases k <;> rfl) c hc)
  dec := fun k cs x h => by
    cases k <;> simp only [KK] at h ⊢ <;> split at h <;> first | (injection h with h; subst h; rfl) | cases h
theorem mixed : Tryd.prog.follows .mixedOrders = true := by kernel_rfl
def tab0 : Tab Tryd.prog KK := ⟨mixed, fun _ _ _ => none, fun _ _ _ _ _ _ h => nomatch h⟩
def ann0 : Ann KK := { loop := fun _ _ _ => none, cut := fun _ _ _ => none }
def ann1 (inv : Inv KK) : Ann KK := { loop := fun _ _ _ => some inv, cut := fun _ _ _ => none }
abbrev anys (n : Nat) : List VV := List.replicate n .any
theorem i64z : i64ok 0 := ⟨by decide, by decide⟩
theorem into_mk {N0 : Nat} {ks : List KK.Kd} {τ : List Nat} {vs : List VV} {H : VH KK} {us : List VV} {H' : VH KK}
    (hg : (nodupB (live τ H') && (τ.all (fun n => Nat.blt n (H.length + ks.length)) && (prefB N0 τ && (Nat.ble N0 H'.length && (us.all (VV.ltB H'.length) && (H'.all (Atom.ltB H'.length))))))) = true)
    (h1 : EqVs H.length (fun n => τ.getD n 0) vs us) (h2 : EqH H.length (fun n => τ.getD n 0) (H ++ nilsOf ks) τ H') : Into N0 ks τ vs H us H' := guardP_iff.2 ⟨hg, h1, h2⟩
abbrev i64 (n : Int) : VV := .c (.int .i64 n)
abbrev boolv (b : Bool) : VV := .c (.bool b)
end Go.Proofs.YtnnpjkpmankeiaaDoor.T
