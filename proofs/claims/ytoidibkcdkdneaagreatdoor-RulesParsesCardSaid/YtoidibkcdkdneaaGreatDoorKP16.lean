/- Text 17 of 26 texts that prove the statement of RowParses; it holds without conditions beyond the statement's own. -/
import Derived.Laws.OwnMore
import Derived.Maps.AppendAt
import Derived.Tactics
import Derived.Laws.StructEq
import Derived.Deep.LoopGhost
import GoSem.Core.Utf8
import Derived.Laws.RangeAny
import Derived.Below
import Derived.Deep.Draws
import Derived.Deep.AppendLies
import Derived.OwnWalk
import Derived.Laws.BytesArg
import Derived.Laws.MakeOwn
import Derived.Deep.OwnRows
import Derived.Lib.ConvBytes
import Derived.Laws.Slices
import Derived.WalkKit
import Derived.KernelRfl
import Derived.RowKit3
import Derived.Deep.QuietTactic
import Derived.BigQuiet
import Derived.WideLaws
import Derived.Deep.DeepCutAuto
import Derived.Deep.CutBlock
import Derived.Deep.RegionHeld3
import Derived.Laws.Rows
import Derived.Lib.AppendStr
import Derived.ArgAppend
import Derived.Laws.IdiomCopy
import Derived.RowKit
import Derived.OrdersHeld
import Derived.Laws.BitsLemmas
import Derived.Test.YtoidibkcdkdneaaGreatDoorProg
import Derived.Lib.OthersKept
import Derived.WalkSmall
import Derived.Shelf.Strings.Builder1
import Derived.Shelf.Strings.Builder2
import Derived.Shelf.Strings.OnBuilder
import Derived.Shelf.Small.Wraps
import Derived.Shelf.Strings.Search1
import Derived.Shelf.Strings.Search2
import Derived.Shelf.Strings.Search3
import Derived.Shelf.Strings.Count
import Derived.Shelf.LaysM
import Derived.Shelf.Strings.Shaped
import Derived.Shelf.Strings.Prefix
import Derived.Shelf.Strings.Split
import Derived.Shelf.Unicode.DecodeSlow
import Derived.WalkLawsBesides
import Derived.Test.YtoidibkcdkdneaaGreatDoorKP14
import Derived.Test.YtoidibkcdkdneaaGreatDoorKP15
namespace Foot
end Foot
namespace Go.Proofs
end Go.Proofs
namespace Go.Proofs.YtoidibkcdkdneaaGreatDoor
end Go.Proofs.YtoidibkcdkdneaaGreatDoor
namespace Go.Proofs.YtoidibkcdkdneaaGreatDoor.E
end Go.Proofs.YtoidibkcdkdneaaGreatDoor.E
namespace Go.Proofs.YtoidibkcdkdneaaGreatDoor.Hand
end Go.Proofs.YtoidibkcdkdneaaGreatDoor.Hand
namespace Go.Proofs.YtoidibkcdkdneaaGreatDoor.MPat
end Go.Proofs.YtoidibkcdkdneaaGreatDoor.MPat
namespace Go.Proofs.YtoidibkcdkdneaaGreatDoor.MStr
end Go.Proofs.YtoidibkcdkdneaaGreatDoor.MStr
namespace Go.Proofs.YtoidibkcdkdneaaGreatDoor.PRead
end Go.Proofs.YtoidibkcdkdneaaGreatDoor.PRead
namespace Go.Proofs.YtoidibkcdkdneaaGreatDoor.PSplit
end Go.Proofs.YtoidibkcdkdneaaGreatDoor.PSplit
namespace Go.Proofs.YtoidibkcdkdneaaGreatDoor.R
end Go.Proofs.YtoidibkcdkdneaaGreatDoor.R
namespace Go.Proofs.YtoidibkcdkdneaaGreatDoor.T
end Go.Proofs.YtoidibkcdkdneaaGreatDoor.T
namespace Go.Proofs.YtoidibkcdkdneaaGreatDoor.TR
end Go.Proofs.YtoidibkcdkdneaaGreatDoor.TR
namespace Go.Proofs.YtoidibkcdkdneaaGreatDoor.TrulesParses
end Go.Proofs.YtoidibkcdkdneaaGreatDoor.TrulesParses
namespace Go.Proofs.YtoidibkcdkdneaaGreatDoorW.PrintLast
end Go.Proofs.YtoidibkcdkdneaaGreatDoorW.PrintLast
namespace Go.Proofs.YtoidibkcdkdneaaGreatDoorW.PrintMore
end Go.Proofs.YtoidibkcdkdneaaGreatDoorW.PrintMore
namespace Go.Proofs.YtoidibkcdkdneaaGreatDoorW.PrintWords
end Go.Proofs.YtoidibkcdkdneaaGreatDoorW.PrintWords
namespace Kd
end Kd
section
namespace Go.Proofs.YtoidibkcdkdneaaGreatDoor.Hand
open Go.RowKit Go.Proofs.YtoidibkcdkdneaaGreatDoor.MStr Go.Proofs.YtoidibkcdkdneaaGreatDoor.MPat Go.Proofs.YtoidibkcdkdneaaGreatDoor.PRead Go.Proofs.YtoidibkcdkdneaaGreatDoorW.PrintWords Go.Proofs.YtoidibkcdkdneaaGreatDoorW.PrintLast Go.Proofs.YtoidibkcdkdneaaGreatDoorW.PrintMore
set_option linter.unusedVariables false
set_option linter.unusedSimpArgs false
def sgAt (l : List Sg) (i : Nat) : Sg := l.getD i z147
/-- Does the i-th sign take the k-th byte? -/
def sgOne (l : List Sg) (s : ByteArray) (i k : Nat) : Bool := (sgAt l i).f1 || ((sgAt l i).f2 == bt s (k : Int))
def sgMany (l : List Sg) (i : Nat) : Bool := (sgAt l i).f0
/-- Do signs match a name? -/
def nameM (l : List Sg) (s : ByteArray) : Bool := mt l.length s.size (sgMany l) (sgOne l s) 0 0
theorem rd_sg (l : List Sg) (i : Nat) : rd_T147 l (i : Int) = sgAt l i := by
  unfold rd_T147 sgAt
  rw [Int.toNat_natCast]
set_option maxHeartbeats 1000000 in
set_option maxRecDepth 100000 in
theorem name1_calls (p : Addr) (A : Option Addr) (c : Nat) (l : List Sg) (x : Int) (i : Nat) (w : World) (hx : x = i) (hi : i < l.length)
    (hp : w.cell? p = some (.slice A l.length c)) (hC : Kd.C kSg w A l.length l) :
    Calls Tryz.prog 89 #[.int .i64 x, .pointer (some p)] w fun e w' => e = .returned (.bool (sgMany l i)) ∧ Below w.heap.size w w' := by
  subst hx
  obtain ⟨ad, rfl, hx0, hx1, hx2⟩ := at_T147 hC (i : Int) (by omega) (by omega)
  rw [Int.toNat_natCast, rd_sg] at hx0
  have hib : decide ((i : Int) < (l.length : Int)) = true := decide_eq_true (by omega)
  have hic : decide (i < l.length) = true := decide_eq_true hi
  clear hx1 hx2 hC
  go_enter Tryz.func89, Tryz.ntmps89
  go_wp2
  go_ret
  exact ⟨rfl, Below.refl _ _⟩
set_option maxHeartbeats 1000000 in
set_option maxRecDepth 100000 in
theorem name2_calls (p q : Addr) (A : Option Addr) (c : Nat) (l : List Sg) (s : ByteArray) (x y : Int) (i k : Nat) (w : World) (hx : x = i) (hy : y = k) (hi : i < l.length) (hk : k < s.size) (hs : s.size ≤ 4611686018427387904)
    (hp : w.cell? p = some (.slice A l.length c)) (hC : Kd.C kSg w A l.length l) (hq : w.cell? q = some (.string s)) :
    Calls Tryz.prog 90 #[.int .i64 x, .int .i64 y, .pointer (some p), .pointer (some q)] w fun e w' => e = .returned (.bool (sgOne l s i k)) ∧ Below w.heap.size w w' := by
  subst hx hy
  have hl := hC.2.1
  obtain ⟨ad, rfl, hx0, hx1, hx2⟩ := at_T147 hC (i : Int) (by omega) (by omega)
  rw [Int.toNat_natCast, rd_sg] at hx1 hx2
  have hib : decide ((i : Int) < (l.length : Int)) = true := decide_eq_true (by omega)
  have hic : decide (i < l.length) = true := decide_eq_true hi
  have hkb : decide ((k : Int) < (s.size : Int)) = true := decide_eq_true (by omega)
  have hkc : decide (k < s.size) = true := decide_eq_true hk
  have hx5 := bt_at s (k : Int)
  rw [Int.toNat_natCast] at hx5
  have hb : ∀ h : k < s.size, ((s[k]'h).toNat : Int) = bt s (k : Int) := hx5
  have hbb := hb hk
  clear hx0 hC hx5 hb
  unfold sgOne
  cases h1 : (sgAt l i).f1 with
  | true =>
    rw [h1] at hx1
    go_enter Tryz.func90, Tryz.ntmps90
    go_wp2
    go_quiet (fail)
    go_wp2
    go_ret
    exact ⟨by simp, pw_below_drewN (Below.refl _ _) _⟩
  | false =>
    rw [h1] at hx1
    go_enter Tryz.func90, Tryz.ntmps90
    go_wp2
    go_quiet (fail)
    go_wp2
    go_ret
    exact ⟨by simp [hbb], pw_below_drewN (Below.refl _ _) _⟩
set_option maxHeartbeats 1000000 in
set_option maxRecDepth 100000 in
theorem name_calls (A : Option Addr) (c : Nat) (l : List Sg) (s : ByteArray) (w : World) (hl : l.length ≤ 4611686018427387904) (hs : s.size ≤ 4611686018427387904) (hC : Kd.C kSg w A l.length l) :
    Calls Tryz.prog 53 #[.slice A l.length c, .string s] w fun e w' => e = .returned (.bool (nameM l s)) ∧ Below w.heap.size w w' := by
  have HC := Aside0.mk hC
  clear hC
  have HB0 := Aside0.mk (below_alloc (below_alloc (Below.refl w.heap.size w) (.cells #[.slice A l.length c] 94)) (.cells #[.string s] 9))
  have HP := Aside0.mk (show ((w.alloc (.cells #[.slice A l.length c] 94)).alloc (.cells #[.string s] 9)).cell? ⟨w.heap.size, 0, none⟩ = some (.slice A l.length c) by go_simp)
  have HQ := Aside0.mk (show ((w.alloc (.cells #[.slice A l.length c] 94)).alloc (.cells #[.string s] 9)).cell? ⟨w.heap.size + 1, 0, none⟩ = some (.string s) by go_simp)
  go_enter Tryz.func53, Tryz.ntmps53
  go_wp2_with fail
  generalize (w.alloc (.cells #[.slice A l.length c] 94)).alloc (.cells #[.string s] 9) = w2 at *
  refine (fits_Name ⟨w.heap.size, 0, none⟩ ⟨w.heap.size + 1, 0, none⟩ l.length s.size (sgMany l) (sgOne l s) w2 hl hs
    (fun x i W hx hi hb => name1_calls _ A c l x i W hx hi (pw_cell_below hb HP.out) (Kd.C_below HC.out (HB0.out.trans (hb.mono HB0.out.size))))
    (fun x y i k W hx hy hi hk hb => name2_calls _ _ A c l s x y i k W hx hy hi hk hs (pw_cell_below hb HP.out) (Kd.C_below HC.out (HB0.out.trans (hb.mono HB0.out.size))) (pw_cell_below hb HQ.out))).mono ?_
  rintro e w3 ⟨rfl, hb⟩
  have HB := Aside0.mk (HB0.out.trans (hb.mono HB0.out.size))
  clear hb
  go_wp2
  go_ret
  exact ⟨rfl, HB.out⟩
end Go.Proofs.YtoidibkcdkdneaaGreatDoor.Hand
end
