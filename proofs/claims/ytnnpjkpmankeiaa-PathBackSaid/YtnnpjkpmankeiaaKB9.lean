/- Text 10 of 22 texts that prove the statement of PathBack; it holds without conditions beyond the statement's own. -/
import Derived.Below
import Derived.Deep.Draws
import Derived.Deep.AppendLies
import Derived.Maps.AppendAt
import Derived.OwnWalk
import Derived.Laws.BytesArg
import Derived.Laws.MakeOwn
import Derived.Laws.OwnMore
import Derived.Deep.OwnRows
import Derived.Tactics
import Derived.Lib.ConvBytes
import Derived.Laws.Slices
import Derived.WalkKit
import Derived.KernelRfl
import Derived.RowKit3
import Derived.Deep.LoopGhost
import Derived.Deep.QuietTactic
import Derived.BigQuiet
import Derived.WideLaws
import Derived.Deep.DeepCutAuto
import Derived.Deep.CutBlock
import Derived.Deep.RegionHeld3
import Derived.Laws.Rows
import Derived.Lib.AppendStr
import Derived.ArgAppend
import Derived.Laws.IdiomCopy
import Derived.RowKit
import Derived.Test.YtnnpjkpmankeiaaProg
import Derived.Shelf.Strings.Builder1
import Derived.Shelf.Strings.Builder2
import Derived.Shelf.Strings.OnBuilder
import Derived.Shelf.Strings.Search1
import Derived.Shelf.Strings.Search2
import Derived.Shelf.Strings.Search3
import Derived.Shelf.LaysM
import Derived.Shelf.Strings.Shaped
import Derived.Test.YtnnpjkpmankeiaaKB1
import Derived.Test.YtnnpjkpmankeiaaKB8
namespace Foot
end Foot
namespace Go.Proofs
end Go.Proofs
namespace Go.Proofs.Ytnnpjkpmankeiaa
end Go.Proofs.Ytnnpjkpmankeiaa
namespace Go.Proofs.Ytnnpjkpmankeiaa.Hand
end Go.Proofs.Ytnnpjkpmankeiaa.Hand
namespace Go.Proofs.Ytnnpjkpmankeiaa.MPat
end Go.Proofs.Ytnnpjkpmankeiaa.MPat
namespace Go.Proofs.Ytnnpjkpmankeiaa.MStr
end Go.Proofs.Ytnnpjkpmankeiaa.MStr
namespace Go.Proofs.Ytnnpjkpmankeiaa.PL
end Go.Proofs.Ytnnpjkpmankeiaa.PL
namespace Go.Proofs.Ytnnpjkpmankeiaa.PRead
end Go.Proofs.Ytnnpjkpmankeiaa.PRead
namespace Go.Proofs.Ytnnpjkpmankeiaa.PSplit
end Go.Proofs.Ytnnpjkpmankeiaa.PSplit
namespace Go.Proofs.Ytnnpjkpmankeiaa.Q
end Go.Proofs.Ytnnpjkpmankeiaa.Q
namespace Go.Proofs.Ytnnpjkpmankeiaa.pathBack
end Go.Proofs.Ytnnpjkpmankeiaa.pathBack
namespace Go.Proofs.YtnnpjkpmankeiaaW.PrintLast
end Go.Proofs.YtnnpjkpmankeiaaW.PrintLast
namespace Go.Proofs.YtnnpjkpmankeiaaW.PrintMore
end Go.Proofs.YtnnpjkpmankeiaaW.PrintMore
namespace Go.Proofs.YtnnpjkpmankeiaaW.PrintWords
end Go.Proofs.YtnnpjkpmankeiaaW.PrintWords
namespace Kd
end Kd
section
namespace Go.Proofs.Ytnnpjkpmankeiaa.Hand
set_option linter.unusedVariables false
set_option linter.unusedSimpArgs false
open Go.RowKit Go.Proofs.YtnnpjkpmankeiaaW.PrintWords
def joined (l : List ByteArray) (sep : ByteArray) : List UInt8 := Lib.join (l.map (·.data.toList)) sep.data.toList
def strings_Join.f (l : List ByteArray) (sep : ByteArray) : Option ByteArray :=
  if l.length ≤ 140737488355328 ∧ (joined l sep).length ≤ 140737488355328 then some ⟨(joined l sep).toArray⟩ else none
theorem add_at {w : World} {ad : Addr} {v : Value} (h : w.cell? (ad.add 0) = some v) (j : Nat) : ad.add j = ⟨ad.block, ad.off + j, none⟩ := by
  have hs : ad.spot = none := by
    rw [show ad.add 0 = ad by simp [Addr.add]] at h
    unfold World.cell? at h
    split at h
    · split at h
      · cases h
      · rename_i hn
        simpa using hn
    · cases h
  unfold Addr.add
  split
  · rename_i h0
    subst h0
    cases ad
    simp_all
  · rfl
theorem strings_Join.calls (A0 : Option Addr) (c0 : Nat) (l0 : List ByteArray) (a1 : ByteArray) (r : ByteArray) (w : World) (hr0 : Kd.C Kd.string w A0 l0.length l0) (hc0 : l0.length ≤ c0) (h : strings_Join.f l0 a1 = some r) :
    Calls Try.prog 36 #[.slice A0 l0.length c0, .string a1] w fun e w' => e = .returned (.string r) ∧ Below w.heap.size w w' := by
  unfold strings_Join.f at h
  split at h
  case isFalse => cases h
  rename_i hlen
  have hr := Option.some.inj h
  subst hr
  clear h
  cases l0 with
  | nil =>
    refine (Try.strings_Join_none A0 c0 a1 w).mono ?_
    rintro e w' ⟨rfl, rfl⟩
    exact ⟨by simp [joined, Lib.join], Below.refl _ _⟩
  | cons x t =>
    obtain ⟨ad, rfl, hcell⟩ := hr0.2.2 (by simp)
    have hc : ∀ (j : Nat) y, (x :: t)[j]? = some y → w.cell? (ad.add j) = some (.string y) := by
      intro j y hj
      obtain ⟨c, hcl, hK, hcc⟩ := hcell j y hj
      have hK' : c = [.string y] := hK
      subst hK'
      have := hcc 0 _ rfl
      simpa [Kd.string, Kd.scalar] using this
    have h0 := hc 0 x rfl
    have hadd := fun j => add_at h0 j
    have hb : ad.block < w.heap.size := by
      have := World.block_lt_of_cell? w _ h0
      rw [hadd 0] at this
      exact this
    have hA : ad = ⟨ad.block, ad.off, none⟩ := by
      have := hadd 0
      rw [show ad.add 0 = ad by simp [Addr.add]] at this
      exact this
    have hj := Try.strings_Join ad.block ad.off c0 (x :: t) a1 w (fun j y hj => by rw [← hadd j]; exact hc j y hj) hb hlen.1 hc0 hlen.2
    rw [← hA] at hj
    exact hj
/-- strings.Contains at a text of one byte. -/
def strings_Contains.f (s sub : ByteArray) : Option Bool := if sub.size = 1 then some (decide (0 ≤ Lib.indexByte s.data.toList (sub.get! 0))) else none
theorem strings_Contains.calls (a0 a1 : ByteArray) (r : Bool) (w : World) (h : strings_Contains.f a0 a1 = some r) :
    Calls Try.prog 74 #[.string a0, .string a1] w fun e w' => e = .returned (.bool r) ∧ Drawn0 w w' := by
  unfold strings_Contains.f at h
  split at h
  case isFalse => cases h
  rename_i h1
  have hr := Option.some.inj h
  subst hr
  have e1 : a1 = ⟨#[a1.get! 0]⟩ := by
    cases a1 with
    | mk d =>
      have hd : d.size = 1 := h1
      apply ByteArray.ext
      apply Array.ext
      · simp [hd]
      · intro i h2 h3
        simp at h3
        subst h3
        simp [ByteArray.get!, getElem!_pos, hd]
  rw [e1]
  refine (Try.strings_Contains_one a0 _ w).mono ?_
  rintro e w' ⟨rfl, rfl⟩
  exact ⟨by rw [← e1], Drawn0.refl _⟩
end Go.Proofs.Ytnnpjkpmankeiaa.Hand
end
