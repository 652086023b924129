/- The kinds of the plan's lists. -/
import Derived.Test.YtljamcgngojaeaaEa
import Derived.Test.YtljamcgngojaeaaProg
import Derived.KernelRfl
namespace Go.Proofs.Ytljamcgngojaeaa.T
open Go.Proofs.Ytljamcgngojaeaa.E
structure Cell where
  path : ByteArray
  what : Int
  side : Int
  mode : Int
  keep : Int
  take : Int
  names : Int
  bytes : Int
  hadN : Int
  hadB : Int
structure Item where
  number : Int
  cell : Int
  path : ByteArray
  what : Int
  src : Int
  dst : Int
  mode : Int
inductive Kd | int | bool | str | cell | item
  deriving DecidableEq
@[reducible] def Kd.α : Kd → Type | .int => Int | .bool => Bool | .str => ByteArray | .cell => Cell | .item => Item
def KK : Kinds where
  Kd := Kd
  deq := inferInstance
  α := Kd.α
  size := fun | .int => 1 | .bool => 1 | .str => 1 | .cell => 10 | .item => 7
  elem := fun | .int => 3 | .bool => 4 | .str => 9 | .cell => 44 | .item => 42
  enc := fun
    | .int => fun x => [.int .i64 x]
    | .bool => fun x => [.bool x]
    | .str => fun x => [.str x]
    | .cell => fun x => [.str x.path, .int .i64 x.what, .int .i64 x.side, .int .i64 x.mode, .int .i64 x.keep, .int .i64 x.take, .int .i64 x.names, .int .i64 x.bytes, .int .i64 x.hadN, .int .i64 x.hadB]
    | .item => fun x => [.int .i64 x.number, .int .i64 x.cell, .str x.path, .int .i64 x.what, .int .i64 x.src, .int .i64 x.dst, .int .i64 x.mode]
  dec := fun
    | .int => fun | [.int .i64 x] => some x | _ => none
    | .bool => fun | [.bool x] => some x | _ => none
    | .str => fun | [.str x] => some x | _ => none
    | .cell => fun | [.str p, .int .i64 a, .int .i64 b, .int .i64 c, .int .i64 d, .int .i64 e, .int .i64 f, .int .i64 g, .int .i64 h, .int .i64 i] => some (Cell.mk p a b c d e f g h i) | _ => none
    | .item => fun | [.int .i64 a, .int .i64 b, .str p, .int .i64 c, .int .i64 d, .int .i64 e, .int .i64 f] => some (Item.mk a b p c d e f) | _ => none
  dflt := fun | .int => (0 : Int) | .bool => false | .str => (ByteArray.empty : ByteArray) | .cell => Cell.mk .empty 0 0 0 0 0 0 0 0 0 | .item => Item.mk 0 0 .empty 0 0 0 0
  ofType := fun | 3 => some .int | 4 => some .bool | 9 => some .str | 44 => some .cell | 42 => some .item | _ => none
theorem KK_ok : KK.Ok where
  pos := fun k => by cases k <;> decide
  len := fun k x => by cases k <;> rfl
  one := fun k x => List.all_eq_true.1 (by cases k <;> rfl)
  nm := fun k x c hc => Option.isNone_iff_eq_none.1 (List.all_eq_true.1 (show (KK.enc k x).all (fun c => c.nm.isNone) = true by cases k <;> rfl) c hc)
  dec := fun k cs x h => by
    cases k <;> simp only [KK] at h ⊢ <;> split at h <;> first | (injection h with h; subst h; rfl) | cases h
theorem mixed : Try.prog.follows .mixedOrders = true := by kernel_rfl
def tab0 : Tab Try.prog KK := ⟨mixed, fun _ _ _ => none, fun _ _ _ _ _ _ h => nomatch h⟩
def ann0 : Ann KK := ⟨fun _ _ _ => none, fun _ _ _ => none⟩
abbrev i64 (n : Int) : VV := .c (.int .i64 n)
abbrev boolv (b : Bool) : VV := .c (.bool b)
end Go.Proofs.Ytljamcgngojaeaa.T
