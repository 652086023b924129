-- Printed by hprint.py, a program of this session that runs over the kit printer, out of the translation. Not trusted: Lean checks it.
import Derived.Test.YtnnpjkpmankeiaaProg
import Derived.Below
import Derived.Deep.Draws
import Derived.Deep.AppendLies
import Derived.Maps.AppendAt
import Derived.OwnWalk
import Derived.Laws.BytesArg
import Derived.Laws.MakeOwn
import Derived.Laws.OwnMore
import Derived.Deep.OwnRows
import Derived.Tactics
import Derived.Lib.ConvBytes
import Derived.Laws.Slices
import Derived.WalkKit
import Derived.KernelRfl
import Derived.RowKit3
import Derived.Deep.LoopGhost
import Derived.Deep.QuietTactic
import Derived.BigQuiet
import Derived.WideLaws
import Derived.Deep.DeepCutAuto
import Derived.Deep.CutBlock
import Derived.Deep.RegionHeld3
import Derived.Laws.Rows
import Derived.Lib.AppendStr
import Derived.ArgAppend
import Derived.Laws.IdiomCopy
import Derived.OrdersHeld
import Derived.Laws.BitsLemmas
import Derived.RowKit
import Derived.WalkLawsBesides
import Derived.Test.YtnnpjkpmankeiaaHCheck
import Derived.Test.YtnnpjkpmankeiaaHCmp
import Derived.Test.YtnnpjkpmankeiaaHMatch
import Derived.Test.YtnnpjkpmankeiaaHPieces
import Derived.Test.YtnnpjkpmankeiaaHStr
import Derived.Test.YtnnpjkpmankeiaaWWords
import Derived.Test.YtnnpjkpmankeiaaWLast
import Derived.Test.YtnnpjkpmankeiaaWTab
import Derived.Test.YtnnpjkpmankeiaaWFour
import Derived.Test.YtnnpjkpmankeiaaWQPut
import Derived.Test.YtnnpjkpmankeiaaWApart
import Derived.Test.YtnnpjkpmankeiaaWArr
import Derived.Test.YtnnpjkpmankeiaaWZeros
import Derived.Test.YtnnpjkpmankeiaaWFoot
import Derived.Test.YtnnpjkpmankeiaaWKept
import Derived.Test.YtnnpjkpmankeiaaWShare
import Derived.Test.YtnnpjkpmankeiaaWN
import Derived.Test.YtnnpjkpmankeiaaWFootNe
import Derived.Test.YtnnpjkpmankeiaaWAt
import Derived.Test.YtnnpjkpmankeiaaWEqStruct
import Derived.Test.YtnnpjkpmankeiaaWRepsOne
import Derived.Test.YtnnpjkpmankeiaaWInv
import Derived.Test.YtnnpjkpmankeiaaWInvWords
import Derived.Test.YtnnpjkpmankeiaaWGuard
import Derived.Test.YtnnpjkpmankeiaaWNEv
import Derived.Test.YtnnpjkpmankeiaaWMore
namespace Go.Proofs.Ytnnpjkpmankeiaa.PL
open Go.RowKit Go.Proofs.Ytnnpjkpmankeiaa.Hand Go.Proofs.YtnnpjkpmankeiaaW.PrintWords Go.Proofs.YtnnpjkpmankeiaaW.PrintLast Go.Proofs.YtnnpjkpmankeiaaW.PrintMore
attribute [local go_sem] max2_int min2_int max_two min_two max_three min_three max_four min_four   -- for this text's walks alone
set_option linter.unusedVariables false
set_option linter.unusedSimpArgs false



def errW : Option Int → Value
  | none => .nilIface
  | some c => .iface 0 (.int .i64 c)
theorem errW_none : errW none = .nilIface := rfl
theorem errW_some (c : Int) : errW (some c) = .iface 0 (.int .i64 c) := rfl

theorem info4 : (Try.prog.info? 4).map (fun i => (i.zero, i.size, i.bytes)) = some (some (.bool false), 1, 1) := by kernel_rfl
theorem info9 : (Try.prog.info? 9).map (fun i => (i.zero, i.size, i.bytes)) = some (some (.string ⟨#[]⟩), 1, 16) := by kernel_rfl
theorem info148 : (Try.prog.info? 148).map (fun i => (i.zero, i.size, i.bytes)) = some (some (.agg #[(.bool false), (.bool false), (.int .u8 0)]), 3, 3) := by kernel_rfl
-- the values' own types
/-! #### struct type 148 -/
structure S148 where
  f0 : Bool
  f1 : Bool
  f2 : Int
def z148 : S148 := ⟨false, false, (0 : Int)⟩
def k148 : Kd S148 := Kd.iso (Kd.pair Kd.bool (Kd.pair Kd.bool (Kd.int .u8))) (fun x : S148 => (x.f0, x.f1, x.f2))
theorem k148_open {w : World} {x : S148} {cs : List Value} (h : k148.K w x cs) : cs = [.bool x.f0, .bool x.f1, .int .u8 x.f2] := by
  obtain ⟨_, _, rfl, rfl, ⟨_, _, rfl, rfl, rfl⟩⟩ := h
  exact rfl
theorem k148_openM {w : World} {base : Nat} {ok : Nat → Prop} {x : S148} {cs : List Value} (h : k148.M w base ok x cs) : cs = [.bool x.f0, .bool x.f1, .int .u8 x.f2] := by
  obtain ⟨_, _, rfl, rfl, ⟨_, _, rfl, rfl, rfl⟩⟩ := h
  exact rfl
theorem k148_mk (w : World) (x : S148)  : k148.K w x [.bool x.f0, .bool x.f1, .int .u8 x.f2] := ⟨[.bool x.f0], [.bool x.f1, .int .u8 x.f2], rfl, rfl, ⟨[.bool x.f1], [.int .u8 x.f2], rfl, rfl, rfl⟩⟩
theorem k148_mkM (w : World) (base : Nat) (ok : Nat → Prop) (x : S148)  : k148.M w base ok x [.bool x.f0, .bool x.f1, .int .u8 x.f2] := ⟨[.bool x.f0], [.bool x.f1, .int .u8 x.f2], rfl, rfl, ⟨[.bool x.f1], [.int .u8 x.f2], rfl, rfl, rfl⟩⟩
def rd_T148 (xs : List S148) (i : Int) : S148 := xs.getD i.toNat z148
theorem at_T148 {w : World} {A : Option Addr} {n : Nat} {xs : List S148} (h : Kd.C k148 w A n xs) (i : Int) (h0 : 0 ≤ i) (h1 : i < n) : ∃ ad , A = some ad ∧ w.cell? (ad.add (i.toNat * 3)) = some (.bool (rd_T148 xs i).f0) ∧ w.cell? ⟨(ad.add (i.toNat * 3)).block, (ad.add (i.toNat * 3)).off + 1, none⟩ = some (.bool (rd_T148 xs i).f1) ∧ w.cell? ⟨(ad.add (i.toNat * 3)).block, (ad.add (i.toNat * 3)).off + 2, none⟩ = some (.int .u8 (rd_T148 xs i).f2) := by
  obtain ⟨ad, c, e, _, hK, hc0⟩ := Kd.C_get h z148 i h0 h1
  have hc : ∀ j u, c[j]? = some u → w.cell? (ad.add (i.toNat * 3 + j)) = some u := hc0
  obtain rfl := k148_open hK
  exact ⟨ad, e, hc 0 _ rfl, by rw [← add_field _ _ 1 (by omega)]; exact hc 1 _ rfl, by rw [← add_field _ _ 2 (by omega)]; exact hc 2 _ rfl⟩

end Go.Proofs.Ytnnpjkpmankeiaa.PL
