/- Text 15 of 26 texts that prove the statement of RowParses; it holds without conditions beyond the statement's own. -/
import Derived.Laws.OwnMore
import Derived.Maps.AppendAt
import Derived.Tactics
import Derived.Laws.StructEq
import Derived.Deep.LoopGhost
import GoSem.Core.Utf8
import Derived.Laws.RangeAny
import Derived.Below
import Derived.Deep.Draws
import Derived.Deep.AppendLies
import Derived.OwnWalk
import Derived.Laws.BytesArg
import Derived.Laws.MakeOwn
import Derived.Deep.OwnRows
import Derived.Lib.ConvBytes
import Derived.Laws.Slices
import Derived.WalkKit
import Derived.KernelRfl
import Derived.RowKit3
import Derived.Deep.QuietTactic
import Derived.BigQuiet
import Derived.WideLaws
import Derived.Deep.DeepCutAuto
import Derived.Deep.CutBlock
import Derived.Deep.RegionHeld3
import Derived.Laws.Rows
import Derived.Lib.AppendStr
import Derived.ArgAppend
import Derived.Laws.IdiomCopy
import Derived.RowKit
import Derived.OrdersHeld
import Derived.Laws.BitsLemmas
import Derived.Test.YtoidibkcdkdneaaGreatDoorProg
import Derived.Lib.OthersKept
import Derived.WalkSmall
import Derived.Shelf.Strings.Builder1
import Derived.Shelf.Strings.Builder2
import Derived.Shelf.Strings.OnBuilder
import Derived.Shelf.Small.Wraps
import Derived.Shelf.Strings.Search1
import Derived.Shelf.Strings.Search2
import Derived.Shelf.Strings.Search3
import Derived.Shelf.Strings.Count
import Derived.Shelf.LaysM
import Derived.Shelf.Strings.Shaped
import Derived.Shelf.Strings.Prefix
import Derived.Shelf.Strings.Split
import Derived.Shelf.Unicode.DecodeSlow
import Derived.WalkLawsBesides
import Derived.Test.YtoidibkcdkdneaaGreatDoorKP7
import Derived.Test.YtoidibkcdkdneaaGreatDoorKP8
import Derived.Test.YtoidibkcdkdneaaGreatDoorKP9
import Derived.Test.YtoidibkcdkdneaaGreatDoorKP10
import Derived.Test.YtoidibkcdkdneaaGreatDoorKP11
import Derived.Test.YtoidibkcdkdneaaGreatDoorKP13
namespace Foot
end Foot
namespace Go.Proofs
end Go.Proofs
namespace Go.Proofs.YtoidibkcdkdneaaGreatDoor
end Go.Proofs.YtoidibkcdkdneaaGreatDoor
namespace Go.Proofs.YtoidibkcdkdneaaGreatDoor.E
end Go.Proofs.YtoidibkcdkdneaaGreatDoor.E
namespace Go.Proofs.YtoidibkcdkdneaaGreatDoor.Hand
end Go.Proofs.YtoidibkcdkdneaaGreatDoor.Hand
namespace Go.Proofs.YtoidibkcdkdneaaGreatDoor.MPat
end Go.Proofs.YtoidibkcdkdneaaGreatDoor.MPat
namespace Go.Proofs.YtoidibkcdkdneaaGreatDoor.MStr
end Go.Proofs.YtoidibkcdkdneaaGreatDoor.MStr
namespace Go.Proofs.YtoidibkcdkdneaaGreatDoor.PRead
end Go.Proofs.YtoidibkcdkdneaaGreatDoor.PRead
namespace Go.Proofs.YtoidibkcdkdneaaGreatDoor.PSplit
end Go.Proofs.YtoidibkcdkdneaaGreatDoor.PSplit
namespace Go.Proofs.YtoidibkcdkdneaaGreatDoor.R
end Go.Proofs.YtoidibkcdkdneaaGreatDoor.R
namespace Go.Proofs.YtoidibkcdkdneaaGreatDoor.T
end Go.Proofs.YtoidibkcdkdneaaGreatDoor.T
namespace Go.Proofs.YtoidibkcdkdneaaGreatDoor.TR
end Go.Proofs.YtoidibkcdkdneaaGreatDoor.TR
namespace Go.Proofs.YtoidibkcdkdneaaGreatDoor.TrulesParses
end Go.Proofs.YtoidibkcdkdneaaGreatDoor.TrulesParses
namespace Go.Proofs.YtoidibkcdkdneaaGreatDoorW.PrintLast
end Go.Proofs.YtoidibkcdkdneaaGreatDoorW.PrintLast
namespace Go.Proofs.YtoidibkcdkdneaaGreatDoorW.PrintMore
end Go.Proofs.YtoidibkcdkdneaaGreatDoorW.PrintMore
namespace Go.Proofs.YtoidibkcdkdneaaGreatDoorW.PrintWords
end Go.Proofs.YtoidibkcdkdneaaGreatDoorW.PrintWords
namespace Kd
end Kd
section
namespace Go.Proofs.YtoidibkcdkdneaaGreatDoor.PRead
open Go.RowKit Go.Proofs.YtoidibkcdkdneaaGreatDoor.Hand Go.Proofs.YtoidibkcdkdneaaGreatDoorW.PrintWords Go.Proofs.YtoidibkcdkdneaaGreatDoorW.PrintLast Go.Proofs.YtoidibkcdkdneaaGreatDoorW.PrintMore
attribute [local go_sem] max2_int min2_int max_two min_two max_three min_three max_four min_four   -- for this text's walks alone
set_option linter.unusedVariables false
set_option linter.unusedSimpArgs false
def errW : Option Int → Value
  | none => .nilIface
  | some c => .iface 0 (.int .i64 c)
theorem errW_none : errW none = .nilIface := rfl
theorem errW_some (c : Int) : errW (some c) = .iface 0 (.int .i64 c) := rfl
theorem info147 : (Tryz.prog.info? 147).map (fun i => (i.zero, i.size, i.bytes)) = some (some (.agg #[(.bool false), (.bool false), (.int .u8 0)]), 3, 3) := by kernel_rfl
structure S147 where
  f0 : Bool
  f1 : Bool
  f2 : Int
def z147 : S147 := ⟨false, false, (0 : Int)⟩
def k147 : Kd S147 := Kd.iso (Kd.pair Kd.bool (Kd.pair Kd.bool (Kd.int .u8))) (fun x : S147 => (x.f0, x.f1, x.f2))
theorem k147_open {w : World} {x : S147} {cs : List Value} (h : k147.K w x cs) : cs = [.bool x.f0, .bool x.f1, .int .u8 x.f2] := by
  obtain ⟨_, _, rfl, rfl, ⟨_, _, rfl, rfl, rfl⟩⟩ := h
  exact rfl
theorem k147_mkM (w : World) (base : Nat) (ok : Nat → Prop) (x : S147)  : k147.M w base ok x [.bool x.f0, .bool x.f1, .int .u8 x.f2] := ⟨[.bool x.f0], [.bool x.f1, .int .u8 x.f2], rfl, rfl, ⟨[.bool x.f1], [.int .u8 x.f2], rfl, rfl, rfl⟩⟩
def rd_T147 (xs : List S147) (i : Int) : S147 := xs.getD i.toNat z147
theorem at_T147 {w : World} {A : Option Addr} {n : Nat} {xs : List S147} (h : Kd.C k147 w A n xs) (i : Int) (h0 : 0 ≤ i) (h1 : i < n) : ∃ ad , A = some ad ∧ w.cell? (ad.add (i.toNat * 3)) = some (.bool (rd_T147 xs i).f0) ∧ w.cell? ⟨(ad.add (i.toNat * 3)).block, (ad.add (i.toNat * 3)).off + 1, none⟩ = some (.bool (rd_T147 xs i).f1) ∧ w.cell? ⟨(ad.add (i.toNat * 3)).block, (ad.add (i.toNat * 3)).off + 2, none⟩ = some (.int .u8 (rd_T147 xs i).f2) := by
  obtain ⟨ad, c, e, _, hK, hc0⟩ := Kd.C_get h z147 i h0 h1
  have hc : ∀ j u, c[j]? = some u → w.cell? (ad.add (i.toNat * 3 + j)) = some u := hc0
  obtain rfl := k147_open hK
  exact ⟨ad, e, hc 0 _ rfl, by rw [← add_field _ _ 1 (by omega)]; exact hc 1 _ rfl, by rw [← add_field _ _ 2 (by omega)]; exact hc 2 _ rfl⟩
structure S96 where
  f0 : Bool
  f1 : (List S147)
def z96 : S96 := ⟨false, ([] : List S147)⟩
def k96 : Kd S96 := Kd.iso (Kd.pair Kd.bool (Kd.slice 147 k147)) (fun x : S96 => (x.f0, x.f1))
theorem k96_open {w : World} {x : S96} {cs : List Value} (h : k96.K w x cs) : ∃ A1 c1, cs = [.bool x.f0, .slice A1 x.f1.length c1] ∧ x.f1.length ≤ c1 ∧ k147.C w A1 x.f1.length x.f1 := by
  obtain ⟨_, _, rfl, rfl, ⟨A1, c1, rfl, l1, g1⟩⟩ := h
  exact ⟨A1, c1, rfl, l1, g1⟩
theorem k96_mkM (w : World) (base : Nat) (ok : Nat → Prop) (x : S96) {v1 : Value} (g1 : k147.R 147 w base ok v1 x.f1) : k96.M w base ok x [.bool x.f0, v1] := ⟨[.bool x.f0], [v1], rfl, rfl, ⟨v1, rfl, g1⟩⟩
def rd_T96 (xs : List S96) (i : Int) : S96 := xs.getD i.toNat z96
theorem at_T96 {w : World} {A : Option Addr} {n : Nat} {xs : List S96} (h : Kd.C k96 w A n xs) (i : Int) (h0 : 0 ≤ i) (h1 : i < n) : ∃ ad A1 c1, A = some ad ∧ w.cell? (ad.add (i.toNat * 2)) = some (.bool (rd_T96 xs i).f0) ∧ w.cell? ⟨(ad.add (i.toNat * 2)).block, (ad.add (i.toNat * 2)).off + 1, none⟩ = some (.slice A1 (rd_T96 xs i).f1.length c1) ∧ (rd_T96 xs i).f1.length ≤ c1 ∧ k147.C w A1 (rd_T96 xs i).f1.length (rd_T96 xs i).f1 := by
  obtain ⟨ad, c, e, _, hK, hc0⟩ := Kd.C_get h z96 i h0 h1
  have hc : ∀ j u, c[j]? = some u → w.cell? (ad.add (i.toNat * 2 + j)) = some u := hc0
  obtain ⟨A1, c1, rfl, l1, g1⟩ := k96_open hK
  exact ⟨ad, A1, c1, e, hc 0 _ rfl, by rw [← add_field _ _ 1 (by omega)]; exact hc 1 _ rfl, l1, g1⟩
end Go.Proofs.YtoidibkcdkdneaaGreatDoor.PRead
end
section
namespace Go.Proofs.YtoidibkcdkdneaaGreatDoor.PRead
open Go.RowKit Go.Proofs.YtoidibkcdkdneaaGreatDoor.Hand Go.Proofs.YtoidibkcdkdneaaGreatDoorW.PrintWords Go.Proofs.YtoidibkcdkdneaaGreatDoorW.PrintLast Go.Proofs.YtoidibkcdkdneaaGreatDoorW.PrintMore
attribute [local go_sem] max2_int min2_int max_two min_two max_three min_three max_four min_four   -- for this text's walks alone
set_option linter.unusedVariables false
set_option linter.unusedSimpArgs false
def stringslite_HasPrefix.f (a0 : ByteArray) (a1 : ByteArray) : Option (Bool) := if (a0.size : Int) ≥ (a1.size : Int) then (if 0 ≤ (a1.size : Int) then (if (a1.size : Int) ≤ (a0.size : Int) then (some ((a0.extract 0 ((a1.size : Int) : Int).toNat).toList == a1.toList)) else (none)) else (none)) else (some false)
set_option maxHeartbeats 8000000 in
set_option maxRecDepth 100000 in
theorem stringslite_HasPrefix.calls (a0 : ByteArray) (a1 : ByteArray) (r : Bool) (w : World) (h : stringslite_HasPrefix.f a0 a1 = some r) :
    Calls Tryz.prog 130 #[.string a0, .string a1] w fun e w' => e = .returned (.bool r) ∧ Drawn0 w w' := by
  have H : (if (a0.size : Int) ≥ (a1.size : Int) then (if 0 ≤ (a1.size : Int) then (if (a1.size : Int) ≤ (a0.size : Int) then (some ((a0.extract 0 ((a1.size : Int) : Int).toNat).toList == a1.toList)) else (none)) else (none)) else (some false)) = some r := h
  clear h
  by_cases c3 : (a0.size : Int) ≥ (a1.size : Int)
  · rw [if_pos c3] at H
    have c3b0 : decide ((a1.size : Int) ≤ (a0.size : Int)) = true := decide_eq_true c3
    have c3b1 : decide (a1.size ≤ a0.size) = true := decide_eq_true (Int.ofNat_le.mp c3)
    clear c3
    by_cases c4 : 0 ≤ (a1.size : Int)
    · rw [if_pos c4] at H
      have c4b0 := eq_true c4
      have c4b1 : decide (0 ≤ (a1.size : Int)) = true := decide_eq_true c4
      clear c4
      by_cases c5 : (a1.size : Int) ≤ (a0.size : Int)
      · rw [if_pos c5] at H
        have c5b0 := eq_true c5
        have c5b1 : decide ((a1.size : Int) ≤ (a0.size : Int)) = true := decide_eq_true c5
        clear c5
        obtain rfl := Option.some.inj H
        go_enter Tryz.func130, Tryz.ntmps130
        go_wp2
        go_ret
        exact ⟨by first | rfl | (simp; done) | (simp [*]; done), by repeat (first | exact Drawn0.refl _ | apply Drawn0.step)⟩
      · rw [if_neg c5] at H
        exact absurd H (by simp)
    · rw [if_neg c4] at H
      exact absurd H (by simp)
  · rw [if_neg c3] at H
    have c3b0 : decide ((a1.size : Int) ≤ (a0.size : Int)) = false := decide_eq_false c3
    have c3b1 : decide (a1.size ≤ a0.size) = false := decide_eq_false (fun h => c3 (Int.ofNat_le.mpr h))
    clear c3
    obtain rfl := Option.some.inj H
    go_enter Tryz.func130, Tryz.ntmps130
    go_wp2
    go_ret
    exact ⟨by first | rfl | (simp; done) | (simp [*]; done), by repeat (first | exact Drawn0.refl _ | apply Drawn0.step)⟩
def stringslite_TrimPrefix.f (a0 : ByteArray) (a1 : ByteArray) : Option (ByteArray) := (stringslite_HasPrefix.f a0 a1).bind fun t101 => (if t101 = true then (if 0 ≤ (a1.size : Int) then (if (a1.size : Int) ≤ (a0.size : Int) then (some (a0.extract ((a1.size : Int) : Int).toNat a0.size)) else (none)) else (none)) else (some a0))
set_option maxHeartbeats 8000000 in
set_option maxRecDepth 100000 in
theorem stringslite_TrimPrefix.calls (a0 : ByteArray) (a1 : ByteArray) (r : ByteArray) (w : World) (h : stringslite_TrimPrefix.f a0 a1 = some r) :
    Calls Tryz.prog 131 #[.string a0, .string a1] w fun e w' => e = .returned (.string r) ∧ Drawn0 w w' := by
  have H : ((stringslite_HasPrefix.f a0 a1).bind fun t101 => (if t101 = true then (if 0 ≤ (a1.size : Int) then (if (a1.size : Int) ≤ (a0.size : Int) then (some (a0.extract ((a1.size : Int) : Int).toNat a0.size)) else (none)) else (none)) else (some a0))) = some r := h
  clear h
  replace H := Option.bind_eq_some_iff.mp H
  obtain ⟨t101, A30, H⟩ := H
  replace H : (if t101 = true then (if 0 ≤ (a1.size : Int) then (if (a1.size : Int) ≤ (a0.size : Int) then (some (a0.extract ((a1.size : Int) : Int).toNat a0.size)) else (none)) else (none)) else (some a0)) = some r := H
  have A3 := Aside0.mk A30
  clear A30
  by_cases c4 : t101 = true
  · subst c4
    have H1 : (if 0 ≤ (a1.size : Int) then (if (a1.size : Int) ≤ (a0.size : Int) then (some (a0.extract ((a1.size : Int) : Int).toNat a0.size)) else (none)) else (none)) = some r := by rw [if_pos rfl] at H; exact H
    clear H
    have H := H1
    clear H1
    by_cases c5 : 0 ≤ (a1.size : Int)
    · rw [if_pos c5] at H
      have c5b0 := eq_true c5
      have c5b1 : decide (0 ≤ (a1.size : Int)) = true := decide_eq_true c5
      clear c5
      by_cases c6 : (a1.size : Int) ≤ (a0.size : Int)
      · rw [if_pos c6] at H
        have c6b0 := eq_true c6
        have c6b1 : decide ((a1.size : Int) ≤ (a0.size : Int)) = true := decide_eq_true c6
        clear c6
        obtain rfl := Option.some.inj H
        go_enter Tryz.func131, Tryz.ntmps131
        go_wp2_with (first | ((with_reducible refine gate_callee (f := 130) rfl ?_); refine goesL_ (some 7) rfl rfl Tryz.func130 (by kernel_rfl) rfl #[.string a0, .string a1] rfl (by (try simp only [List.map_toArray, List.map_cons, List.map_nil]); first | done | rfl | (simp only [List.length_drop, List.length_take]; rfl)) ?_; (with_reducible refine (stringslite_HasPrefix.calls a0 a1 true _ A3.out).mono ?_); rintro e w' ⟨rfl, ⟨nd, rfl⟩⟩; refine ⟨_, rfl, ?_⟩))
        go_ret
        exact ⟨by first | rfl | (simp; done) | (simp [*]; done), by repeat (first | exact Drawn0.refl _ | apply Drawn0.step)⟩
      · rw [if_neg c6] at H
        exact absurd H (by simp)
    · rw [if_neg c5] at H
      exact absurd H (by simp)
  · replace c4 := Bool.eq_false_iff.mpr c4
    subst c4
    have H1 : (some a0) = some r := by rw [if_neg (show ¬ (false = true) by decide)] at H; exact H
    clear H
    have H := H1
    clear H1
    obtain rfl := Option.some.inj H
    go_enter Tryz.func131, Tryz.ntmps131
    go_wp2_with (first | ((with_reducible refine gate_callee (f := 130) rfl ?_); refine goesL_ (some 7) rfl rfl Tryz.func130 (by kernel_rfl) rfl #[.string a0, .string a1] rfl (by (try simp only [List.map_toArray, List.map_cons, List.map_nil]); first | done | rfl | (simp only [List.length_drop, List.length_take]; rfl)) ?_; (with_reducible refine (stringslite_HasPrefix.calls a0 a1 false _ A3.out).mono ?_); rintro e w' ⟨rfl, ⟨nd, rfl⟩⟩; refine ⟨_, rfl, ?_⟩))
    go_ret
    exact ⟨by first | rfl | (simp; done) | (simp [*]; done), by repeat (first | exact Drawn0.refl _ | apply Drawn0.step)⟩
def strings_TrimPrefix.f (a0 : ByteArray) (a1 : ByteArray) : Option (ByteArray) := (stringslite_TrimPrefix.f a0 a1).bind fun t102 => (some t102)
set_option maxHeartbeats 8000000 in
set_option maxRecDepth 100000 in
theorem strings_TrimPrefix.calls (a0 : ByteArray) (a1 : ByteArray) (r : ByteArray) (w : World) (h : strings_TrimPrefix.f a0 a1 = some r) :
    Calls Tryz.prog 85 #[.string a0, .string a1] w fun e w' => e = .returned (.string r) ∧ Drawn0 w w' := by
  have H : ((stringslite_TrimPrefix.f a0 a1).bind fun t102 => (some t102)) = some r := h
  clear h
  replace H := Option.bind_eq_some_iff.mp H
  obtain ⟨t102, A30, H⟩ := H
  replace H : (some t102) = some r := H
  have A3 := Aside0.mk A30
  clear A30
  obtain rfl := Option.some.inj H
  go_enter Tryz.func85, Tryz.ntmps85
  go_wp2_with (first | ((with_reducible refine gate_callee (f := 131) rfl ?_); refine goesL_ (some 7) rfl rfl Tryz.func131 (by kernel_rfl) rfl #[.string a0, .string a1] rfl (by (try simp only [List.map_toArray, List.map_cons, List.map_nil]); first | done | rfl | (simp only [List.length_drop, List.length_take]; rfl)) ?_; (with_reducible refine (stringslite_TrimPrefix.calls a0 a1 t102 _ A3.out).mono ?_); rintro e w' ⟨rfl, ⟨nd, rfl⟩⟩; refine ⟨_, rfl, ?_⟩))
  go_ret
  exact ⟨by first | rfl | (simp; done) | (simp [*]; done), by repeat (first | exact Drawn0.refl _ | apply Drawn0.step)⟩
def path_signs.l0 : Nat → ByteArray → List (S147) → Int → Option ((List (S147)) × Bool)
  | 0, _, _, _ => none
  | k + 1, x0, x4, x5 => if x5 < (x0.size : Int) then (if 0 ≤ x5 then (if (bt x0 x5) = 42 then (if x4.length < 46912496118442 then (path_signs.l0 k x0 (x4 ++ [(⟨true, false, 0⟩ : S147)]) (wrap64 (x5 + 1))) else (none)) else (if (bt x0 x5) = 63 then (if x4.length < 46912496118442 then (path_signs.l0 k x0 (x4 ++ [(⟨false, true, 0⟩ : S147)]) (wrap64 (x5 + 1))) else (none)) else (if (bt x0 x5) = 92 then (if (wrap64 (x5 + 1)) = (x0.size : Int) then (some (([] : List (S147)), false)) else (if 0 ≤ (wrap64 (x5 + 1)) then (if (wrap64 (x5 + 1)) < (x0.size : Int) then (if x4.length < 46912496118442 then (path_signs.l0 k x0 (x4 ++ [(⟨false, false, bt x0 (wrap64 (x5 + 1))⟩ : S147)]) (wrap64 ((wrap64 (x5 + 1)) + 1))) else (none)) else (none)) else (none))) else (if x4.length < 46912496118442 then (path_signs.l0 k x0 (x4 ++ [(⟨false, false, bt x0 x5⟩ : S147)]) (wrap64 (x5 + 1))) else (none))))) else (none)) else (some (x4, decide ((x4.length : Int) > 0)))
def path_signs.f (k : Nat) (a0 : ByteArray) : Option ((List (S147)) × Bool) := path_signs.l0 k a0 ([] : List (S147)) 0
set_option maxHeartbeats 8000000 in
set_option maxRecDepth 100000 in
theorem path_signs.calls (k : Nat) (a0 : ByteArray) (r1 : List (S147)) (r2 : Bool) (w : World) (h : path_signs.f k a0 = some (r1, r2)) :
    Calls Tryz.prog 86 #[.string a0] w fun e w' => ∃ v0_ : Value, e = .returned (.tuple #[v0_, .bool r2]) ∧ Kd.R k147 147 w' w.heap.size (fun _ => True) v0_ r1 ∧ Below w.heap.size w w' := by
  have hu147 := Tryz.underlying147
  have HB := Aside0.mk (Below.refl w.heap.size w)
  have H : (path_signs.l0 k a0 ([] : List (S147)) 0) = some (r1, r2) := h
  clear h
  have H' := Aside0.mk H
  clear H
  go_enter Tryz.func86, Tryz.ntmps86
  go_wp2
  go_loopg [4, 5] k (fun kq v4 v5 w' => ∃ (x4_1 : List (S147)) (x5_1 : Int), v5 = .int .i64 x5_1 ∧ Aside0 (path_signs.l0 kq a0 x4_1 x5_1 = some (r1, r2)) ∧ Aside0 (kq ≤ k) ∧ Aside0 (Kd.R k147 147 w' w.heap.size (fun _ => True) v4 x4_1) ∧ Aside0 (Below w.heap.size w w'))
  case atStart => exact ⟨(([] : List (S147))), (0), (by first | rfl | (simp; done) | (simp [*]; done) | exact congrArg (Value.int .i64) (by unfold wrap64; omega)), H', ⟨Nat.le_refl _⟩, ⟨by first | exact Kd.R_nil _ _ _ _ _ | exact Kd.N_nil _ _ _ _ _ | exact Kd.V_nil _ _ _ _ _ | exact Kd.Q_nil _ _ _ _ _ | exact Kd.S_nil _ _ _ _ _⟩, ⟨by repeat (first | (with_reducible first | exact HB.out | apply below_alloc | apply pw_below_drewN | apply below_drew1) | exact HB.out)⟩⟩
  case round =>
    clear H'
    obtain ⟨x4_1, x5_1, rfl, HA, HK1, HO_4, HB⟩ := hrel
    cases gk with
    | zero => exact absurd HA.out (by simp [path_signs.l0])
    | succ k1 =>
      have H := HA.out
      clear HA
      simp only [path_signs.l0] at H
      by_cases c2 : x5_1 < (a0.size : Int)
      · rw [if_pos c2] at H
        have c2b0 : decide (x5_1 < (a0.size : Int)) = true := decide_eq_true c2
        clear c2
        by_cases c3 : 0 ≤ x5_1
        · rw [if_pos c3] at H
          have c3b0 : decide (0 ≤ x5_1) = true := decide_eq_true c3
          clear c3
          by_cases c5 : (bt a0 x5_1) = 42
          · rw [if_pos c5] at H
            have c5b0 : ((bt a0 x5_1) == 42) = true := beq_iff_eq.mpr c5
            have c5b1 : ((bt a0 x5_1) != 42) = false := bne_eq_false_iff_eq.mpr c5
            clear c5
            by_cases c6 : x4_1.length < 46912496118442
            · rw [if_pos c6] at H
              have LMc6 := Aside0.mk c6
              clear c6
              obtain ⟨y103, hy103⟩ : ∃ y_ : List (S147), y_ = (x4_1 ++ [(⟨true, false, 0⟩ : S147)]) := ⟨_, rfl⟩
              replace H : (path_signs.l0 k1 a0 y103 (wrap64 (x5_1 + 1))) = some (r1, r2) := by first | (rw [hy103]; with_reducible exact H) | (have H2_ := (Option.bind_some _ _).symm.trans H; rw [hy103]; with_reducible exact H2_) | (have H2_ := (Option.bind_some _ _).symm.trans H; with_reducible exact H2_) | with_reducible exact H | (rw [hy103]; exact H) | exact H
              have Ny103 := Aside0.mk hy103
              clear hy103
              have H' := Aside0.mk H
              clear H
              have p4 : 0 ≤ (x5_1 : Int) := of_decide_eq_true (by first | (with_reducible assumption) | assumption)
              have q4 : x5_1 < (a0.size : Int) := of_decide_eq_true (by first | (with_reducible assumption) | assumption)
              have hx4 := bt_at a0 x5_1
              replace p4 := eq_true p4
              replace q4 := eq_true q4
              go_wp2_with (first | ((with_reducible refine gate_builtin (b := .append) (xs := #[.tmp 24, .tmp 26]) rfl ?_); at_builtin; refine Kd.R_append k147 (w0 := w) w.heap.size rfl (.tmp 24) (.tmp 26) 94 147 (.agg #[(.bool false), (.bool false), (.int .u8 0)]) 3 rfl Tryz.underlying94 info147 rfl (by decide) (by omega) u4 x4_1 (⟨true, false, 0⟩ : S147) [.bool true, .bool false, .int .u8 0] (fun _ => True) (fun _ => False) rfl rfl ?aP (fun _ hk => hk.elim) ?aF ?aO ?aB ?aS ?aL ?_; (case aP => exact k147_mkM _ _ _ (⟨true, false, 0⟩ : S147)); (case aB => exact (by repeat (first | (with_reducible first | exact HB.out | apply below_alloc | apply pw_below_drewN | apply below_drew1) | exact HB.out))); (case aF => exact (fun _ _ => trivial)); (case aO => exact (by (with_reducible repeat (first | apply Kd.R_alloc | apply Kd.R_drewN | apply Kd.R_drew)); exact HO_4.out)); (case aS => exact (below_size (by repeat (first | (with_reducible first | exact HB.out | apply below_alloc | apply pw_below_drewN | apply below_drew1) | exact HB.out)))); (case aL => have := LMc6.out; omega); intro v104 w7 ho hb hg hat; rw [← Ny103.out] at ho; have n0_ := Aside0.mk (hb); have n1_ := Aside0.mk (ho); clear HB; clear HO_4; have HB := n0_; have HO105 := n1_; clear n0_ n1_; clear ho hb hg hat))
              go_roundg k1
              case measure => have := HK1.out; omega
              case rel => exact ⟨(y103), (wrap64 (x5_1 + 1)), (by first | rfl | (simp; done) | (simp [*]; done) | exact congrArg (Value.int .i64) (by unfold wrap64; omega)), H', ⟨by have := HK1.out; omega⟩, ⟨by (with_reducible repeat (first | apply Kd.R_alloc | apply Kd.R_drewN | apply Kd.R_drew)); exact HO105.out⟩, ⟨by repeat (first | (with_reducible first | exact HB.out | apply below_alloc | apply pw_below_drewN | apply below_drew1) | exact HB.out)⟩⟩
            · rw [if_neg c6] at H
              exact absurd H (by simp)
          · rw [if_neg c5] at H
            have c5b0 : ((bt a0 x5_1) == 42) = false := beq_eq_false_iff_ne.mpr c5
            have c5b1 : ((bt a0 x5_1) != 42) = true := bne_iff_ne.mpr c5
            by_cases c8 : (bt a0 x5_1) = 63
            · rw [if_pos c8] at H
              have c8b0 : ((bt a0 x5_1) == 63) = true := beq_iff_eq.mpr c8
              have c8b1 : ((bt a0 x5_1) != 63) = false := bne_eq_false_iff_eq.mpr c8
              clear c8
              by_cases c9 : x4_1.length < 46912496118442
              · rw [if_pos c9] at H
                have LMc9 := Aside0.mk c9
                clear c9
                obtain ⟨y106, hy106⟩ : ∃ y_ : List (S147), y_ = (x4_1 ++ [(⟨false, true, 0⟩ : S147)]) := ⟨_, rfl⟩
                replace H : (path_signs.l0 k1 a0 y106 (wrap64 (x5_1 + 1))) = some (r1, r2) := by first | (rw [hy106]; with_reducible exact H) | (have H2_ := (Option.bind_some _ _).symm.trans H; rw [hy106]; with_reducible exact H2_) | (have H2_ := (Option.bind_some _ _).symm.trans H; with_reducible exact H2_) | with_reducible exact H | (rw [hy106]; exact H) | exact H
                have Ny106 := Aside0.mk hy106
                clear hy106
                have H' := Aside0.mk H
                clear H
                have p4 : 0 ≤ (x5_1 : Int) := of_decide_eq_true (by first | (with_reducible assumption) | assumption)
                have q4 : x5_1 < (a0.size : Int) := of_decide_eq_true (by first | (with_reducible assumption) | assumption)
                have hx4 := bt_at a0 x5_1
                replace p4 := eq_true p4
                replace q4 := eq_true q4
                go_wp2_with (first | ((with_reducible refine gate_builtin (b := .append) (xs := #[.tmp 30, .tmp 32]) rfl ?_); at_builtin; refine Kd.R_append k147 (w0 := w) w.heap.size rfl (.tmp 30) (.tmp 32) 94 147 (.agg #[(.bool false), (.bool false), (.int .u8 0)]) 3 rfl Tryz.underlying94 info147 rfl (by decide) (by omega) u4 x4_1 (⟨false, true, 0⟩ : S147) [.bool false, .bool true, .int .u8 0] (fun _ => True) (fun _ => False) rfl rfl ?aP (fun _ hk => hk.elim) ?aF ?aO ?aB ?aS ?aL ?_; (case aP => exact k147_mkM _ _ _ (⟨false, true, 0⟩ : S147)); (case aB => exact (by repeat (first | (with_reducible first | exact HB.out | apply below_alloc | apply pw_below_drewN | apply below_drew1) | exact HB.out))); (case aF => exact (fun _ _ => trivial)); (case aO => exact (by (with_reducible repeat (first | apply Kd.R_alloc | apply Kd.R_drewN | apply Kd.R_drew)); exact HO_4.out)); (case aS => exact (below_size (by repeat (first | (with_reducible first | exact HB.out | apply below_alloc | apply pw_below_drewN | apply below_drew1) | exact HB.out)))); (case aL => have := LMc9.out; omega); intro v107 w10 ho hb hg hat; rw [← Ny106.out] at ho; have n0_ := Aside0.mk (hb); have n1_ := Aside0.mk (ho); clear HB; clear HO_4; have HB := n0_; have HO108 := n1_; clear n0_ n1_; clear ho hb hg hat))
                go_roundg k1
                case measure => have := HK1.out; omega
                case rel => exact ⟨(y106), (wrap64 (x5_1 + 1)), (by first | rfl | (simp; done) | (simp [*]; done) | exact congrArg (Value.int .i64) (by unfold wrap64; omega)), H', ⟨by have := HK1.out; omega⟩, ⟨by (with_reducible repeat (first | apply Kd.R_alloc | apply Kd.R_drewN | apply Kd.R_drew)); exact HO108.out⟩, ⟨by repeat (first | (with_reducible first | exact HB.out | apply below_alloc | apply pw_below_drewN | apply below_drew1) | exact HB.out)⟩⟩
              · rw [if_neg c9] at H
                exact absurd H (by simp)
            · rw [if_neg c8] at H
              have c8b0 : ((bt a0 x5_1) == 63) = false := beq_eq_false_iff_ne.mpr c8
              have c8b1 : ((bt a0 x5_1) != 63) = true := bne_iff_ne.mpr c8
              by_cases c11 : (bt a0 x5_1) = 92
              · rw [if_pos c11] at H
                have c11b0 : ((bt a0 x5_1) == 92) = true := beq_iff_eq.mpr c11
                have c11b1 : ((bt a0 x5_1) != 92) = false := bne_eq_false_iff_eq.mpr c11
                clear c11
                by_cases c12 : (wrap64 (x5_1 + 1)) = (a0.size : Int)
                · rw [if_pos c12] at H
                  have c12b0 : ((wrap64 (x5_1 + 1)) == (a0.size : Int)) = true := beq_iff_eq.mpr c12
                  have c12b1 : ((wrap64 (x5_1 + 1)) != (a0.size : Int)) = false := bne_eq_false_iff_eq.mpr c12
                  clear c12
                  simp only [Option.some.injEq, Prod.mk.injEq] at H
                  obtain ⟨rfl, rfl⟩ := H
                  have p4 : 0 ≤ (x5_1 : Int) := of_decide_eq_true (by first | (with_reducible assumption) | assumption)
                  have q4 : x5_1 < (a0.size : Int) := of_decide_eq_true (by first | (with_reducible assumption) | assumption)
                  have hx4 := bt_at a0 x5_1
                  replace p4 := eq_true p4
                  replace q4 := eq_true q4
                  go_wp2
                  go_ret2
                  exact ⟨_, by first | rfl | (simp [errW_none, errW_some] <;> rfl) | (simp [*, errW_none, errW_some] <;> rfl), by first | exact Kd.R_nil _ _ _ _ _ | exact Kd.N_nil _ _ _ _ _ | exact Kd.V_nil _ _ _ _ _ | exact Kd.Q_nil _ _ _ _ _ | exact Kd.S_nil _ _ _ _ _, by repeat (first | (with_reducible first | exact HB.out | apply below_alloc | apply pw_below_drewN | apply below_drew1) | exact HB.out)⟩
                · rw [if_neg c12] at H
                  have c12b0 : ((wrap64 (x5_1 + 1)) == (a0.size : Int)) = false := beq_eq_false_iff_ne.mpr c12
                  have c12b1 : ((wrap64 (x5_1 + 1)) != (a0.size : Int)) = true := bne_iff_ne.mpr c12
                  obtain ⟨ji13, hji13⟩ : ∃ j_ : Int, (wrap64 (x5_1 + 1)) = j_ := ⟨_, rfl⟩
                  replace H : (if 0 ≤ (ji13) then (if (ji13) < (a0.size : Int) then (if x4_1.length < 46912496118442 then (path_signs.l0 k1 a0 (x4_1 ++ [(⟨false, false, bt a0 (ji13)⟩ : S147)]) (wrap64 ((ji13) + 1))) else (none)) else (none)) else (none)) = some (r1, r2) := by first | (rw [hji13] at H; exact H) | (simp only [hji13] at H ⊢; exact H)
                  (try rw [hji13] at c12b0)
                  (try rw [hji13] at c12b1)
                  have hji13w : (IntKind.i64.wrap (x5_1 + 1)) = ji13 := (i64_w _).trans hji13
                  by_cases c14 : 0 ≤ (ji13)
                  · rw [if_pos c14] at H
                    have c14b0 : decide (0 ≤ (ji13)) = true := decide_eq_true c14
                    clear c14
                    by_cases c15 : (ji13) < (a0.size : Int)
                    · rw [if_pos c15] at H
                      have c15b0 : decide ((ji13) < (a0.size : Int)) = true := decide_eq_true c15
                      clear c15
                      by_cases c17 : x4_1.length < 46912496118442
                      · rw [if_pos c17] at H
                        have LMc17 := Aside0.mk c17
                        clear c17
                        obtain ⟨y109, hy109⟩ : ∃ y_ : List (S147), y_ = (x4_1 ++ [(⟨false, false, bt a0 (ji13)⟩ : S147)]) := ⟨_, rfl⟩
                        replace H : (path_signs.l0 k1 a0 y109 (wrap64 ((ji13) + 1))) = some (r1, r2) := by first | (rw [hy109]; with_reducible exact H) | (have H2_ := (Option.bind_some _ _).symm.trans H; rw [hy109]; with_reducible exact H2_) | (have H2_ := (Option.bind_some _ _).symm.trans H; with_reducible exact H2_) | with_reducible exact H | (rw [hy109]; exact H) | exact H
                        have Ny109 := Aside0.mk hy109
                        clear hy109
                        have H' := Aside0.mk H
                        clear H
                        have p4 : 0 ≤ (x5_1 : Int) := of_decide_eq_true (by first | (with_reducible assumption) | assumption)
                        have q4 : x5_1 < (a0.size : Int) := of_decide_eq_true (by first | (with_reducible assumption) | assumption)
                        have hx4 := bt_at a0 x5_1
                        replace p4 := eq_true p4
                        replace q4 := eq_true q4
                        have p16 : 0 ≤ ((ji13) : Int) := of_decide_eq_true (by first | (with_reducible assumption) | assumption)
                        have q16 : (ji13) < (a0.size : Int) := of_decide_eq_true (by first | (with_reducible assumption) | assumption)
                        have hx16 := bt_at a0 (ji13)
                        replace p16 := eq_true p16
                        replace q16 := eq_true q16
                        go_wp2_with (first | ((with_reducible refine gate_builtin (b := .append) (xs := #[.tmp 42, .tmp 47]) rfl ?_); at_builtin; refine Kd.R_append k147 (w0 := w) w.heap.size rfl (.tmp 42) (.tmp 47) 94 147 (.agg #[(.bool false), (.bool false), (.int .u8 0)]) 3 rfl Tryz.underlying94 info147 rfl (by decide) (by omega) u4 x4_1 (⟨false, false, bt a0 (ji13)⟩ : S147) [.bool false, .bool false, .int .u8 (bt a0 (ji13))] (fun _ => True) (fun _ => False) rfl rfl ?aP (fun _ hk => hk.elim) ?aF ?aO ?aB ?aS ?aL ?_; (case aP => exact k147_mkM _ _ _ (⟨false, false, bt a0 (ji13)⟩ : S147)); (case aB => exact (by repeat (first | (with_reducible first | exact HB.out | apply below_alloc | apply pw_below_drewN | apply below_drew1) | exact HB.out))); (case aF => exact (fun _ _ => trivial)); (case aO => exact (by (with_reducible repeat (first | apply Kd.R_alloc | apply Kd.R_drewN | apply Kd.R_drew)); exact HO_4.out)); (case aS => exact (below_size (by repeat (first | (with_reducible first | exact HB.out | apply below_alloc | apply pw_below_drewN | apply below_drew1) | exact HB.out)))); (case aL => have := LMc17.out; omega); intro v110 w18 ho hb hg hat; rw [← Ny109.out] at ho; have n0_ := Aside0.mk (hb); have n1_ := Aside0.mk (ho); clear HB; clear HO_4; have HB := n0_; have HO111 := n1_; clear n0_ n1_; clear ho hb hg hat))
                        go_roundg k1
                        case measure => have := HK1.out; omega
                        case rel => exact ⟨(y109), (wrap64 ((ji13) + 1)), (by first | rfl | (simp; done) | (simp only [← hji13] <;> (first | rfl | simp)) | (simp [*]; done)), H', ⟨by have := HK1.out; omega⟩, ⟨by (with_reducible repeat (first | apply Kd.R_alloc | apply Kd.R_drewN | apply Kd.R_drew)); exact HO111.out⟩, ⟨by repeat (first | (with_reducible first | exact HB.out | apply below_alloc | apply pw_below_drewN | apply below_drew1) | exact HB.out)⟩⟩
                      · rw [if_neg c17] at H
                        exact absurd H (by simp)
                    · rw [if_neg c15] at H
                      exact absurd H (by simp)
                  · rw [if_neg c14] at H
                    exact absurd H (by simp)
              · rw [if_neg c11] at H
                have c11b0 : ((bt a0 x5_1) == 92) = false := beq_eq_false_iff_ne.mpr c11
                have c11b1 : ((bt a0 x5_1) != 92) = true := bne_iff_ne.mpr c11
                by_cases c19 : x4_1.length < 46912496118442
                · rw [if_pos c19] at H
                  have LMc19 := Aside0.mk c19
                  clear c19
                  obtain ⟨y112, hy112⟩ : ∃ y_ : List (S147), y_ = (x4_1 ++ [(⟨false, false, bt a0 x5_1⟩ : S147)]) := ⟨_, rfl⟩
                  replace H : (path_signs.l0 k1 a0 y112 (wrap64 (x5_1 + 1))) = some (r1, r2) := by first | (rw [hy112]; with_reducible exact H) | (have H2_ := (Option.bind_some _ _).symm.trans H; rw [hy112]; with_reducible exact H2_) | (have H2_ := (Option.bind_some _ _).symm.trans H; with_reducible exact H2_) | with_reducible exact H | (rw [hy112]; exact H) | exact H
                  have Ny112 := Aside0.mk hy112
                  clear hy112
                  have H' := Aside0.mk H
                  clear H
                  have p4 : 0 ≤ (x5_1 : Int) := of_decide_eq_true (by first | (with_reducible assumption) | assumption)
                  have q4 : x5_1 < (a0.size : Int) := of_decide_eq_true (by first | (with_reducible assumption) | assumption)
                  have hx4 := bt_at a0 x5_1
                  replace p4 := eq_true p4
                  replace q4 := eq_true q4
                  go_wp2_with (first | ((with_reducible refine gate_builtin (b := .append) (xs := #[.tmp 17, .tmp 20]) rfl ?_); at_builtin; refine Kd.R_append k147 (w0 := w) w.heap.size rfl (.tmp 17) (.tmp 20) 94 147 (.agg #[(.bool false), (.bool false), (.int .u8 0)]) 3 rfl Tryz.underlying94 info147 rfl (by decide) (by omega) u4 x4_1 (⟨false, false, bt a0 x5_1⟩ : S147) [.bool false, .bool false, .int .u8 (bt a0 x5_1)] (fun _ => True) (fun _ => False) rfl rfl ?aP (fun _ hk => hk.elim) ?aF ?aO ?aB ?aS ?aL ?_; (case aP => exact k147_mkM _ _ _ (⟨false, false, bt a0 x5_1⟩ : S147)); (case aB => exact (by repeat (first | (with_reducible first | exact HB.out | apply below_alloc | apply pw_below_drewN | apply below_drew1) | exact HB.out))); (case aF => exact (fun _ _ => trivial)); (case aO => exact (by (with_reducible repeat (first | apply Kd.R_alloc | apply Kd.R_drewN | apply Kd.R_drew)); exact HO_4.out)); (case aS => exact (below_size (by repeat (first | (with_reducible first | exact HB.out | apply below_alloc | apply pw_below_drewN | apply below_drew1) | exact HB.out)))); (case aL => have := LMc19.out; omega); intro v113 w20 ho hb hg hat; rw [← Ny112.out] at ho; have n0_ := Aside0.mk (hb); have n1_ := Aside0.mk (ho); clear HB; clear HO_4; have HB := n0_; have HO114 := n1_; clear n0_ n1_; clear ho hb hg hat))
                  go_roundg k1
                  case measure => have := HK1.out; omega
                  case rel => exact ⟨(y112), (wrap64 (x5_1 + 1)), (by first | rfl | (simp; done) | (simp [*]; done) | exact congrArg (Value.int .i64) (by unfold wrap64; omega)), H', ⟨by have := HK1.out; omega⟩, ⟨by (with_reducible repeat (first | apply Kd.R_alloc | apply Kd.R_drewN | apply Kd.R_drew)); exact HO114.out⟩, ⟨by repeat (first | (with_reducible first | exact HB.out | apply below_alloc | apply pw_below_drewN | apply below_drew1) | exact HB.out)⟩⟩
                · rw [if_neg c19] at H
                  exact absurd H (by simp)
        · rw [if_neg c3] at H
          exact absurd H (by simp)
      · rw [if_neg c2] at H
        have c2b0 : decide (x5_1 < (a0.size : Int)) = false := decide_eq_false c2
        clear c2
        simp only [Option.some.injEq, Prod.mk.injEq] at H
        obtain ⟨rfl, rfl⟩ := H
        obtain ⟨Ao21, co21, eo21⟩ := Kd.R_slice HO_4.out
        subst eo21
        go_wp2
        go_ret2
        exact ⟨_, by first | rfl | (simp [errW_none, errW_some] <;> rfl) | (simp [*, errW_none, errW_some] <;> rfl), by (with_reducible repeat (first | apply Kd.R_alloc | apply Kd.R_drewN | apply Kd.R_drew)); exact HO_4.out, by repeat (first | (with_reducible first | exact HB.out | apply below_alloc | apply pw_below_drewN | apply below_drew1) | exact HB.out)⟩
end Go.Proofs.YtoidibkcdkdneaaGreatDoor.PRead
end
section
namespace Go.Proofs.YtoidibkcdkdneaaGreatDoor.Hand
set_option linter.unusedVariables false
set_option linter.unusedSimpArgs false
open Go.RowKit Go.Proofs.YtoidibkcdkdneaaGreatDoor.MStr Go.Proofs.YtoidibkcdkdneaaGreatDoor.PRead Go.Proofs.YtoidibkcdkdneaaGreatDoorW.PrintWords
abbrev Sg := S147
abbrev kSg := k147
abbrev Pt := S96
abbrev kPt := k96
def lit (c : UInt8) : Sg := ⟨false, false, (c.toNat : Int)⟩
def one (c : UInt8) : Sg := if c = 42 then ⟨true, false, 0⟩ else if c = 63 then ⟨false, true, 0⟩ else lit c
/-- The signs of a piece; none: a last byte that should take the next one as itself. -/
def signsL : List UInt8 → Option (List Sg)
  | [] => some []
  | [c] => if c = 92 then none else some [one c]
  | c :: d :: t => if c = 92 then (signsL t).map (lit d :: ·) else (signsL (d :: t)).map (one c :: ·)
def signsOut (s : ByteArray) : List Sg × Bool := match signsL s.data.toList with
  | none => ([], false)
  | some l => (l, decide (0 < (l.length : Int)))
theorem wrap_small {x : Int} (h0 : 0 ≤ x) (h : x ≤ 9000000000000000000) : wrap64 x = x := by unfold wrap64; omega
theorem bt_get (s : ByteArray) (i : Nat) (h : i < s.size) : bt s (i : Int) = ((s.get! i).toNat : Int) := by
  rw [get_at' s i h]
  simp [bt, h]
theorem drop_all (s : ByteArray) (i : Nat) (h : ¬ i < s.size) : s.data.toList.drop i = [] := List.drop_eq_nil_of_le (by simp; omega)
theorem signs_loop (s : ByteArray) (hs : s.size ≤ 1000000000000) (d : Nat) : ∀ (k i : Nat) (acc : List Sg), s.size - i ≤ d → i ≤ s.size → acc.length ≤ i → d < k →
    path_signs.l0 k s acc (i : Int) = some (match signsL (s.data.toList.drop i) with | none => ([], false) | some l => (acc ++ l, decide (0 < ((acc ++ l).length : Int)))) := by
  induction d with
  | zero =>
    intro k i acc hd hi ha hk
    obtain ⟨k, rfl⟩ : ∃ m, k = m + 1 := ⟨k - 1, by omega⟩
    simp only [path_signs.l0]
    rw [if_neg (by omega), drop_all s i (by omega)]
    simp [signsL]
  | succ d ih =>
    intro k i acc hd hi ha hk
    obtain ⟨k, rfl⟩ : ∃ m, k = m + 1 := ⟨k - 1, by omega⟩
    by_cases hlt : i < s.size
    · have hac : acc.length < 46912496118442 := by omega
      have hw : wrap64 ((i : Int) + 1) = ((i + 1 : Nat) : Int) := by rw [wrap_small (by omega) (by omega)]; omega
      have hw2 : wrap64 (((i + 1 : Nat) : Int) + 1) = ((i + 2 : Nat) : Int) := by rw [wrap_small (by omega) (by omega)]; omega
      simp only [path_signs.l0]
      rw [if_pos (by omega), if_pos (by omega), bt_get s i hlt, hw]
      rw [drop_get s i hlt]
      have hnext := fun (x : Sg) => ih k (i + 1) (acc ++ [x]) (by omega) (by omega) (by simp; omega) (by omega)
      generalize hc : s.get! i = c at *
      by_cases h42 : c = 42
      · subst h42
        rw [if_pos (by decide), if_pos hac, hnext]
        cases ht : s.data.toList.drop (i + 1) with
        | nil => simp [signsL, one]
        | cons d t =>
          rw [signsL, if_neg (by decide)]
          cases signsL (d :: t) <;> simp [one]
      rw [if_neg (fun e => h42 (UInt8.toNat_inj.1 (by show c.toNat = 42; omega)))]
      by_cases h63 : c = 63
      · subst h63
        rw [if_pos (by decide), if_pos hac, hnext]
        cases ht : s.data.toList.drop (i + 1) with
        | nil => simp [signsL, one]
        | cons d t =>
          rw [signsL, if_neg (by decide)]
          cases signsL (d :: t) <;> simp [one]
      rw [if_neg (fun e => h63 (UInt8.toNat_inj.1 (by show c.toNat = 63; omega)))]
      by_cases h92 : c = 92
      · subst h92
        rw [if_pos (by decide)]
        by_cases he : i + 1 = s.size
        · rw [if_pos (by omega), drop_all s (i + 1) (by omega)]
          simp [signsL]
        · have hlt2 : i + 1 < s.size := by omega
          rw [if_neg (by omega), if_pos (by omega), if_pos (by omega), if_pos hac, hw2, bt_get s (i + 1) hlt2]
          have h2 := ih k (i + 2) (acc ++ [lit (s.get! (i + 1))]) (by omega) (by omega) (by simp; omega) (by omega)
          rw [drop_get s (i + 1) hlt2]
          rw [signsL, if_pos rfl]
          refine h2.trans ?_
          cases signsL (List.drop (i + 1 + 1) s.data.toList) <;> simp
      rw [if_neg (fun e => h92 (UInt8.toNat_inj.1 (by show c.toNat = 92; omega))), if_pos hac]
      refine (hnext (lit c)).trans ?_
      cases ht : s.data.toList.drop (i + 1) with
      | nil => simp [signsL, one, h42, h63, h92]
      | cons d t =>
        rw [signsL, if_neg h92]
        cases signsL (d :: t) <;> simp [one, h42, h63]
    · simp only [path_signs.l0]
      rw [if_neg (by omega), drop_all s i hlt]
      simp [signsL]
theorem signs_f (s : ByteArray) (hs : s.size ≤ 1000000000000) : path_signs.f (s.size + 1) s = some (signsOut s) := by
  have h := signs_loop s hs s.size (s.size + 1) 0 [] (by omega) (by omega) (by simp) (by omega)
  unfold path_signs.f
  refine h.trans ?_
  unfold signsOut
  rw [List.drop_zero]
  cases signsL s.data.toList <;> simp
theorem signs_calls (s : ByteArray) (hs : s.size ≤ 1000000000000) (w : World) :
    Calls Tryz.prog 86 #[.string s] w fun e w' => ∃ v0_ : Value, e = .returned (.tuple #[v0_, .bool (signsOut s).2]) ∧ Kd.R kSg 147 w' w.heap.size (fun _ => True) v0_ (signsOut s).1 ∧ Below w.heap.size w w' :=
  path_signs.calls (s.size + 1) s (signsOut s).1 (signsOut s).2 w (signs_f s hs)
theorem signsL_length (l : List UInt8) : ∀ r, signsL l = some r → r.length ≤ l.length := by
  induction l using signsL.induct with
  | case1 => simp [signsL]
  | case2 => simp [signsL]
  | case3 c h => simp [signsL, h]
  | case4 d t ih =>
    intro r hr
    rw [signsL, if_pos rfl, Option.map_eq_some_iff] at hr
    obtain ⟨q, hq, rfl⟩ := hr
    have := ih q hq
    simp
    omega
  | case5 c d t h ih =>
    intro r hr
    rw [signsL, if_neg h, Option.map_eq_some_iff] at hr
    obtain ⟨q, hq, rfl⟩ := hr
    have := ih q hq
    simp at this ⊢
    omega
end Go.Proofs.YtoidibkcdkdneaaGreatDoor.Hand
end
section
namespace Go.Proofs.YtoidibkcdkdneaaGreatDoor.Hand
open Go.RowKit Go.Proofs.YtoidibkcdkdneaaGreatDoor.MStr Go.Proofs.YtoidibkcdkdneaaGreatDoor.PRead Go.Proofs.YtoidibkcdkdneaaGreatDoorW.PrintWords Go.Proofs.YtoidibkcdkdneaaGreatDoorW.PrintLast Go.Proofs.YtoidibkcdkdneaaGreatDoorW.PrintMore
set_option linter.unusedVariables false
set_option linter.unusedSimpArgs false
/-- A text without a slash at its very beginning. -/
def trimS (s : ByteArray) : ByteArray := if s.data.toList.head? = some 47 then s.extract 1 s.size else s
theorem trim_f (s : ByteArray) : strings_TrimPrefix.f s ⟨#[47]⟩ = some (trimS s) := by
  unfold strings_TrimPrefix.f stringslite_TrimPrefix.f stringslite_HasPrefix.f trimS
  have e1 : (((⟨#[47]⟩ : ByteArray).size : Nat) : Int) = 1 := rfl
  rw [e1]
  by_cases h : (s.size : Int) ≥ 1
  · rw [if_pos h, if_pos (by omega), if_pos (by omega)]
    have e2 : (s.extract 0 ((1 : Int) : Int).toNat).toList = [s.get! 0] := by
      rw [toList_data, extract_tx, tx_list, List.drop_zero]
      have := drop_get s 0 (by omega)
      rw [List.drop_zero] at this
      rw [this]
      rfl
    have e3 : s.data.toList.head? = some (s.get! 0) := by
      have := drop_get s 0 (by omega)
      rw [List.drop_zero] at this
      rw [this]
      rfl
    rw [e2, e3, toList_data]
    by_cases hc : s.get! 0 = 47
    · rw [hc]
      simp [h]
    · simp [hc]
  · rw [if_neg h]
    have e3 : s.data.toList = [] := by
      apply List.eq_nil_of_length_eq_zero
      have e4 : s.data.toList.length = s.size := by simp
      omega
    rw [e3]
    simp
theorem trim_size (s : ByteArray) : (trimS s).size ≤ s.size := by
  unfold trimS
  split <;> simp
/-- The parts of pieces, and how many signs stand for any bytes. -/
def partsL : List ByteArray → Option (List Pt × Nat)
  | [] => some ([], 0)
  | p :: t => if (signsOut p).2 = true then (partsL t).map fun r => ((⟨p.toList == [42, 42], (signsOut p).1⟩ : Pt) :: r.1, (signsOut p).1.countP (fun x => x.f0) + r.2) else none
/-- What read answers. -/
def readB (s : ByteArray) : List Pt × Bool × Bool :=
  if s.size < 1 ∨ 255 < s.size then ([], false, false)
  else if pieces (trimS s) = [] then ([], false, false)
  else match partsL (pieces (trimS s)) with
    | none => ([], false, false)
    | some r => (r.1, decide (0 ≤ Lib.indexByte s.data.toList 47), decide (r.2 ≤ 8))
theorem partsL_take (all : List ByteArray) (j : Nat) (hj : j < all.length) (l : List Pt) (n : Nat) (h : partsL (all.take j) = some (l, n)) :
    partsL (all.take (j + 1)) = if (signsOut all[j]).2 = true then some (l ++ [(⟨all[j].toList == [42, 42], (signsOut all[j]).1⟩ : Pt)], n + (signsOut all[j]).1.countP (fun x => x.f0)) else none := by
  rw [List.take_succ_eq_append_getElem hj]
  generalize all.take j = a at h
  generalize all[j] = p
  induction a generalizing l n with
  | nil =>
    simp only [partsL, Option.some.injEq, Prod.mk.injEq] at h
    obtain ⟨rfl, rfl⟩ := h
    simp only [List.nil_append, partsL]
    split <;> simp
  | cons q t ih =>
    simp only [List.cons_append, partsL] at h ⊢
    split at h
    · rename_i hq
      rw [if_pos hq]
      rw [Option.map_eq_some_iff] at h
      obtain ⟨r, hr, he⟩ := h
      simp only [Prod.mk.injEq] at he
      obtain ⟨rfl, rfl⟩ := he
      rw [ih r.1 r.2 hr]
      split
      · simp; omega
      · rfl
    · cases h
theorem partsL_none (all : List ByteArray) (j : Nat) (h : partsL (all.take j) = none) : partsL all = none := by
  rw [← List.take_append_drop j all]
  generalize all.take j = a at h
  generalize all.drop j = b
  induction a with
  | nil => simp [partsL] at h
  | cons q t ih =>
    simp only [List.cons_append, partsL] at h ⊢
    split at h
    · rename_i hq
      rw [if_pos hq]
      rw [Option.map_eq_none_iff] at h
      rw [ih h]
      rfl
    · rename_i hq
      rw [if_neg hq]
theorem signsOut_length (s : ByteArray) : (signsOut s).1.length ≤ s.size := by
  unfold signsOut
  split
  · simp
  · rename_i l hl
    have := signsL_length _ l hl
    have h2 : s.data.toList.length = s.size := by simp
    simp
    omega
theorem infoPt : (Tryz.prog.info? 96).map (fun i => (i.zero, i.size, i.bytes)) = some (some (.agg #[(.bool false), (.slice none 0 0)]), 2, 32) := by kernel_rfl
set_option maxHeartbeats 4000000 in
set_option maxRecDepth 100000 in
theorem read_calls (s : ByteArray) (w : World) :
    Calls Tryz.prog 48 #[.string s] w fun e w' => ∃ v0_ : Value, e = .returned (.tuple #[v0_, .bool (readB s).2.1, .bool (readB s).2.2]) ∧ Kd.R kPt 96 w' w.heap.size (fun _ => True) v0_ (readB s).1 ∧ Below w.heap.size w w' := by
  by_cases c1 : (s.size : Int) < 1
  · have hf : readB s = ([], false, false) := by rw [readB, if_pos (.inl (by omega))]
    rw [hf]
    have c1b : decide ((s.size : Int) < 1) = true := decide_eq_true c1
    have c1c : decide (s.size < 1) = true := decide_eq_true (by omega)
    clear c1 hf
    go_enter Tryz.func48, Tryz.ntmps48
    go_wp2
    go_ret3
    exact ⟨_, rfl, Kd.R_nil _ _ _ _ _, Below.refl _ _⟩
  have c1b : decide ((s.size : Int) < 1) = false := decide_eq_false c1
  have c1c : decide (s.size < 1) = false := decide_eq_false (by omega)
  by_cases c2 : (s.size : Int) > 255
  · have hf : readB s = ([], false, false) := by rw [readB, if_pos (.inr (by omega))]
    rw [hf]
    have c2b : decide (255 < (s.size : Int)) = true := decide_eq_true c2
    have c2c : decide (255 < s.size) = true := decide_eq_true (by omega)
    clear c1 c2 hf
    go_enter Tryz.func48, Tryz.ntmps48
    go_wp2
    go_ret3
    exact ⟨_, rfl, Kd.R_nil _ _ _ _ _, Below.refl _ _⟩
  have c2b : decide (255 < (s.size : Int)) = false := decide_eq_false c2
  have c2c : decide (255 < s.size) = false := decide_eq_false (by omega)
  have ht := trim_size s
  have hal : (pieces (trimS s)).length ≤ 256 := pieces_few _ _ (by omega)
  have hpz : ∀ x ∈ pieces (trimS s), x.size ≤ 255 := fun x hx => Nat.le_trans (pieces_size _ x hx) (by omega)
  have hpf : path_pieces.f (trimS s) = some (pieces (trimS s)) := by rw [path_pieces.f, if_pos (by omega)]
  have HPF := Aside0.mk hpf
  have HTF := Aside0.mk (trim_f s)
  have hrd : readB s = if pieces (trimS s) = [] then ([], false, false) else match partsL (pieces (trimS s)) with
    | none => ([], false, false)
    | some r => (r.1, decide (0 ≤ Lib.indexByte s.data.toList 47), decide (r.2 ≤ 8)) := by rw [readB, if_neg (by omega)]
  have HRD := Aside0.mk hrd
  have HAL := Aside0.mk hal
  have HPZ := Aside0.mk hpz
  clear hrd hpf ht c1 c2 hal hpz
  generalize pieces (trimS s) = all at *
  by_cases hz : all.length = 0
  · have hal : all = [] := List.length_eq_zero_iff.1 hz
    have hr := HRD.out
    rw [if_pos hal] at hr
    have hzb : ((all.length : Int) == 0) = true := by rw [beq_iff_eq]; omega
    have HR := Aside0.mk hr
    clear HRD hz hal hr
    go_enter Tryz.func48, Tryz.ntmps48
    go_wp2_with (first | (go_at_call 85; refine (strings_TrimPrefix.calls s ⟨#[47]⟩ (trimS s) _ HTF.out).mono ?_; rintro e w1 ⟨rfl, hb⟩; have HB1 := Aside0.mk hb.below; clear hb) | (go_at_call 84; refine (path_pieces.calls (trimS s) all _ HPF.out).mono ?_; rintro e w2 ⟨v5, rfl, hR, hb⟩; obtain ⟨A5, c5, rfl, hl5, hC5⟩ := Kd.R_reads hR; have HC5 := Aside0.mk hC5; have HB2 := Aside0.mk (HB1.out.trans (hb.mono HB1.out.size)); clear hR hb hl5 hC5))
    go_ret3
    exact ⟨_, by rw [HR.out]; rfl, by rw [HR.out]; exact Kd.R_nil _ _ _ _ _, HB2.out⟩
  · have hal : ¬ all = [] := fun e => hz (by rw [e]; rfl)
    have hr := HRD.out
    rw [if_neg hal] at hr
    have hzb : ((all.length : Int) == 0) = false := by rw [beq_eq_false_iff_ne]; omega
    have HR := Aside0.mk hr
    have hal2 : all.length ≤ 256 := HAL.out
    clear HRD hz hal hr
    go_enter Tryz.func48, Tryz.ntmps48
    go_wp2_with (first | (go_at_call 85; refine (strings_TrimPrefix.calls s ⟨#[47]⟩ (trimS s) _ HTF.out).mono ?_; rintro e w1 ⟨rfl, hb⟩; have HB1 := Aside0.mk hb.below; clear hb) | (go_at_call 84; refine (path_pieces.calls (trimS s) all _ HPF.out).mono ?_; rintro e w2 ⟨v5, rfl, hR, hb⟩; obtain ⟨A5, c5, rfl, hl5, hC5⟩ := Kd.R_reads hR; have HC5 := Aside0.mk hC5; have HB2 := Aside0.mk (HB1.out.trans (hb.mono HB1.out.size)); clear hR hb hl5 hC5))
    go_loopw [6, 7, 30] (fun v6 v7 v30 w' => ∃ (acc : List Pt) (n j : Nat), v7 = .int .i64 n ∧ v30 = .int .i64 j ∧ Aside0 (j ≤ all.length) ∧ Aside0 (n ≤ 65536 * j) ∧ Aside0 (partsL (all.take j) = some (acc, n)) ∧ Aside0 (acc.length ≤ j) ∧ Aside0 (Kd.R kPt 96 w' w2.heap.size (fun _ => True) v6 acc) ∧ Aside0 (Below w.heap.size w w') ∧ Aside0 (Below w2.heap.size w2 w')) (fun _ _ v30 _ => all.length - (intOf v30).toNat)
    case atStart => exact ⟨[], 0, 0, rfl, rfl, ⟨Nat.zero_le _⟩, ⟨Nat.zero_le _⟩, ⟨rfl⟩, ⟨Nat.le_refl _⟩, ⟨Kd.R_nil _ _ _ _ _⟩, HB2, ⟨Below.refl _ _⟩⟩
    case round =>
      obtain ⟨acc, n, j, rfl, rfl, HJ, HN, HP, HA, HO, HB, HB3⟩ := hrel
      have hj := HJ.out
      have hn := HN.out
      have ha := HA.out
      by_cases hlt : j < all.length
      · have hjb : decide ((j : Int) < (all.length : Int)) = true := decide_eq_true (by omega)
        have hjc : decide (j < all.length) = true := decide_eq_true hlt
        obtain ⟨ad, he, hcell⟩ := Kd.at_string (Kd.C_below HC5.out HB3.out) (j : Int) (by omega) (by omega)
        subst he
        rw [Int.toNat_natCast] at hcell
        have hrd : rdOf ByteArray.empty all (j : Int) = all[j] := by
          unfold rdOf
          rw [Int.toNat_natCast, List.getD_eq_getElem?_getD, List.getElem?_eq_getElem hlt]
          rfl
        rw [hrd] at hcell
        have hps := HPZ.out all[j] (List.getElem_mem hlt)
        have HPT := Aside0.mk (partsL_take all j hlt acc n HP.out)
        have HPN := Aside0.mk (fun h => partsL_none all (j + 1) h)
        clear hrd HP
        generalize all[j] = pc at *
        have hsl := signsOut_length pc
        by_cases hok : (signsOut pc).2 = true
        case neg =>
          have hok' : (signsOut pc).2 = false := by simpa using hok
          have hr := HR.out
          rw [HPN.out (by rw [HPT.out, if_neg hok])] at hr
          have HR' := Aside0.mk hr
          clear HR hr HPN HPT hok
          go_wp2_with (first | (go_at_call 86; refine (signs_calls pc (by omega) _).mono ?_; rintro e w3 ⟨v10, rfl, hR, hb⟩; have HB4 := Aside0.mk (HB.out.trans (hb.mono HB.out.size)); clear hR hb))
          go_ret3
          exact ⟨_, by rw [HR'.out]; rfl, by rw [HR'.out]; exact Kd.R_nil _ _ _ _ _, HB4.out⟩
        case pos =>
          have hpt := HPT.out
          rw [if_pos hok] at hpt
          have HPT' := Aside0.mk hpt
          have HOWN := Aside0.mk (Kd.R_own HO.out)
          clear HPT hpt HPN
          have HSL := Aside0.mk hsl
          clear hsl
          go_wp2_with (first | (go_at_call 86; refine (signs_calls pc (by omega) _).mono ?_; rintro e w3 ⟨v10, rfl, hR, hb⟩; have HR0 := Aside0.mk (Kd.R_lower (Kd.R_new hR HOWN.out.choose_spec) HB3.out.size); obtain ⟨A10, c10, rfl, hl10, hC10⟩ := Kd.R_reads hR; have HC10 := Aside0.mk hC10; have HO4 := Aside0.mk (Kd.R_below HO.out hb); have HB4 := Aside0.mk (HB.out.trans (hb.mono HB.out.size)); have HB5 := Aside0.mk (HB3.out.trans (hb.mono HB3.out.size)); clear hR hb hl10 hC10 HOWN; generalize (signsOut pc).1 = sg at *))
          obtain ⟨wo, rfl⟩ : ∃ wo : World, wo = w3 := ⟨_, rfl⟩
          have hsg := HSL.out
          go_loopw [7, 43] (fun v7 v43 w' => ∃ i : Nat, v43 = .int .i64 i ∧ v7 = .int .i64 ((n : Int) + (((sg.take i).countP (fun x => x.f0) : Nat) : Int)) ∧ Aside0 (i ≤ sg.length) ∧ Aside0 (Below wo.heap.size wo w')) (fun _ v43 _ => sg.length - (intOf v43).toNat)
          case atStart => exact ⟨0, rfl, by simp, ⟨Nat.zero_le _⟩, ⟨Below.refl _ _⟩⟩
          case round =>
            obtain ⟨i, rfl, rfl, HI, HB6⟩ := hrel
            have hi := HI.out
            by_cases hil : i < sg.length
            · have hib : decide ((i : Int) < (sg.length : Int)) = true := decide_eq_true (by omega)
              have hic : decide (i < sg.length) = true := decide_eq_true hil
              obtain ⟨ad1, he1, hx0, hx1, hx2⟩ := at_T147 (Kd.C_below HC10.out HB6.out) (i : Int) (by omega) (by omega)
              subst he1
              rw [Int.toNat_natCast] at hx0 hx1 hx2
              have hrd1 : rd_T147 sg (i : Int) = sg[i] := by
                unfold rd_T147
                rw [Int.toNat_natCast, List.getD_eq_getElem?_getD, List.getElem?_eq_getElem hil]
                rfl
              rw [hrd1] at hx0 hx1 hx2
              have hcnt : (sg.take (i + 1)).countP (fun x => x.f0) = (sg.take i).countP (fun x => x.f0) + (if sg[i].f0 = true then 1 else 0) := by
                rw [List.take_succ_eq_append_getElem hil, List.countP_append, List.countP_singleton]
              have hcl : (sg.take i).countP (fun x => x.f0) ≤ i := Nat.le_trans List.countP_le_length (List.length_take_le _ _)
              have HCN := Aside0.mk hcnt
              clear hcnt hrd1
              have hn2 : (n : Int) ≤ 16777216 := by omega
              have hi2 : (i : Int) ≤ 255 := by omega
              have hc2 : (((sg.take i).countP (fun x => x.f0) : Nat) : Int) ≤ 255 := by omega
              generalize hgi : sg[i] = x at *
              obtain ⟨x0, x1, x2⟩ := x
              clear hgi
              cases x0 with
              | true =>
                have hcn := HCN.out
                rw [if_pos rfl] at hcn
                have HCN' := Aside0.mk hcn
                clear HCN hcn
                go_wp2
                go_roundw
                case rel => exact ⟨i + 1, by go_num, by rw [HCN'.out]; go_num, ⟨by omega⟩, ⟨by repeat (first | exact HB6.out | apply below_alloc)⟩⟩
                case measure => simp only [intOf]; omega
              | false =>
                have hcn := HCN.out
                rw [if_neg Bool.false_ne_true] at hcn
                have HCN' := Aside0.mk hcn
                clear HCN hcn
                go_wp2
                go_roundw
                case rel => exact ⟨i + 1, by go_num, by rw [HCN'.out]; go_num, ⟨by omega⟩, ⟨by repeat (first | exact HB6.out | apply below_alloc)⟩⟩
                case measure => simp only [intOf]; omega
            · have hib : decide ((i : Int) < (sg.length : Int)) = false := decide_eq_false (by omega)
              have hic : decide (i < sg.length) = false := decide_eq_false hil
              have ht : sg.take i = sg := List.take_of_length_le (by omega)
              rw [ht]
              have hcl : sg.countP (fun x => x.f0) ≤ 255 := Nat.le_trans List.countP_le_length (by omega)
              have hn2 : (n : Int) ≤ 16777216 := by omega
              have hj2 : (j : Int) ≤ 256 := by omega
              have HO7 := Aside0.mk (Kd.R_below HO4.out HB6.out)
              have HR7 := Aside0.mk (Kd.R_below HR0.out HB6.out)
              have AS := Aside0.mk (show w2.heap.size ≤ wr.heap.size from Nat.le_trans HB5.out.size HB6.out.size)
              have AL := Aside0.mk (show (acc.length + 1) * 32 ≤ 140737488355328 by omega)
              clear ht
              go_wp2_with (first | ((with_reducible refine gate_builtin (b := .append) (xs := #[.tmp 52, .tmp 57]) rfl ?_); at_builtin; (refine Kd.R_append kPt (w0 := wr) w2.heap.size rfl (.tmp 52) (.tmp 57) 88 96 (.agg #[(.bool false), (.slice none 0 0)]) 32 rfl Tryz.underlying88 infoPt rfl (by decide) (by omega) u6 acc (⟨pc.toList == [42, 42], sg⟩ : Pt) [.bool (pc.toList == [42, 42]), .slice A10 sg.length c10] (fun _ => True) _ rfl rfl (k96_mkM _ _ _ (⟨pc.toList == [42, 42], sg⟩ : Pt) HR7.out) (fun k hk => ⟨trivial, hk.2⟩) (fun _ _ => trivial) HO7.out (Below.refl _ _) ?aS ?aL ?_); (case aS => exact AS.out); (case aL => exact AL.out); intro v1 w1 ho hb hg hat; have HO8 := Aside0.mk ho; have HB8 := Aside0.mk hb; clear ho hb hg hat))
              have HB9 := Aside0.mk (HB4.out.trans (HB6.out.mono HB4.out.size))
              have HB10 := Aside0.mk (HB9.out.trans (HB8.out.mono HB2.out.size))
              have HB11 := Aside0.mk ((HB5.out.trans (HB6.out.mono HB5.out.size)).trans HB8.out)
              go_roundw
              case rel => exact ⟨acc ++ [(⟨pc.toList == [42, 42], sg⟩ : Pt)], n + sg.countP (fun x => x.f0), j + 1, by go_num, by go_num, ⟨by omega⟩, ⟨by omega⟩, HPT', ⟨by rw [List.length_append, List.length_singleton]; omega⟩, HO8, HB10, HB11⟩
              case measure => simp only [intOf]; omega
      · have hjb : decide ((j : Int) < (all.length : Int)) = false := decide_eq_false (by omega)
        have hjc : decide (j < all.length) = false := decide_eq_false hlt
        have hp := HP.out
        rw [List.take_of_length_le (by omega)] at hp
        have hr := HR.out
        rw [hp] at hr
        have HR' := Aside0.mk hr
        have hn8 : (n : Int) ≤ 16777216 := by omega
        have HC := Aside0.mk (show strings_Contains.f s ⟨#[47]⟩ = some (decide (0 ≤ Lib.indexByte s.data.toList 47)) from rfl)
        clear HR hr HP hp
        go_wp2_with (first | (go_at_call 87; refine (strings_Contains.calls s ⟨#[47]⟩ _ _ HC.out).mono ?_; rintro e w3 ⟨rfl, hb⟩; have HB4 := Aside0.mk hb.below; have HB5 := Aside0.mk (HB.out.trans (hb.below.mono HB.out.size)); clear hb))
        go_ret3
        have e8 : decide ((n : Int) ≤ 8) = decide (n ≤ 8) := decide_eq_decide.2 (by omega)
        exact ⟨u6, by rw [HR'.out, ← e8]; rfl, by rw [HR'.out]; exact Kd.R_lower (Kd.R_below HO.out HB4.out) HB2.out.size, HB5.out⟩
end Go.Proofs.YtoidibkcdkdneaaGreatDoor.Hand
end
