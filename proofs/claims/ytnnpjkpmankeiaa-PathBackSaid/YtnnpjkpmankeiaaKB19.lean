/- Text 20 of 22 texts that prove the statement of PathBack; it holds without conditions beyond the statement's own. -/
import GoSem.Core.Utf8
import Derived.Laws.RangeAny
import Derived.Below
import Derived.Deep.Draws
import Derived.Deep.AppendLies
import Derived.Maps.AppendAt
import Derived.OwnWalk
import Derived.Laws.BytesArg
import Derived.Laws.MakeOwn
import Derived.Laws.OwnMore
import Derived.Deep.OwnRows
import Derived.Tactics
import Derived.Lib.ConvBytes
import Derived.Laws.Slices
import Derived.WalkKit
import Derived.KernelRfl
import Derived.RowKit3
import Derived.Deep.LoopGhost
import Derived.Deep.QuietTactic
import Derived.BigQuiet
import Derived.WideLaws
import Derived.Deep.DeepCutAuto
import Derived.Deep.CutBlock
import Derived.Deep.RegionHeld3
import Derived.Laws.Rows
import Derived.Lib.AppendStr
import Derived.ArgAppend
import Derived.Laws.IdiomCopy
import Derived.RowKit
import Derived.Test.YtnnpjkpmankeiaaProg
import GoSem.Op.String
import Derived.WalkLawsBesides
import Derived.OrdersHeld
import Derived.Laws.BitsLemmas
import Derived.Lib.OthersKept
import Derived.WalkSmall
import Derived.Shelf.Strings.Builder1
import Derived.Shelf.Strings.Builder2
import Derived.Shelf.Strings.OnBuilder
import Derived.Shelf.Strings.Search1
import Derived.Shelf.Strings.Search2
import Derived.Shelf.Strings.Search3
import Derived.Shelf.LaysM
import Derived.Shelf.Strings.Shaped
import Derived.Laws.StructEq
import Derived.StillTailTactics
import Derived.Test.YtnnpjkpmankeiaaKB3
import Derived.Test.YtnnpjkpmankeiaaKB15
import Derived.Test.YtnnpjkpmankeiaaKB18
namespace Foot
end Foot
namespace Go.Proofs
end Go.Proofs
namespace Go.Proofs.Ytnnpjkpmankeiaa
end Go.Proofs.Ytnnpjkpmankeiaa
namespace Go.Proofs.Ytnnpjkpmankeiaa.Hand
end Go.Proofs.Ytnnpjkpmankeiaa.Hand
namespace Go.Proofs.Ytnnpjkpmankeiaa.MPat
end Go.Proofs.Ytnnpjkpmankeiaa.MPat
namespace Go.Proofs.Ytnnpjkpmankeiaa.MStr
end Go.Proofs.Ytnnpjkpmankeiaa.MStr
namespace Go.Proofs.Ytnnpjkpmankeiaa.PL
end Go.Proofs.Ytnnpjkpmankeiaa.PL
namespace Go.Proofs.Ytnnpjkpmankeiaa.PRead
end Go.Proofs.Ytnnpjkpmankeiaa.PRead
namespace Go.Proofs.Ytnnpjkpmankeiaa.PSplit
end Go.Proofs.Ytnnpjkpmankeiaa.PSplit
namespace Go.Proofs.Ytnnpjkpmankeiaa.Q
end Go.Proofs.Ytnnpjkpmankeiaa.Q
namespace Go.Proofs.Ytnnpjkpmankeiaa.pathBack
end Go.Proofs.Ytnnpjkpmankeiaa.pathBack
namespace Go.Proofs.YtnnpjkpmankeiaaW.PrintLast
end Go.Proofs.YtnnpjkpmankeiaaW.PrintLast
namespace Go.Proofs.YtnnpjkpmankeiaaW.PrintMore
end Go.Proofs.YtnnpjkpmankeiaaW.PrintMore
namespace Go.Proofs.YtnnpjkpmankeiaaW.PrintWords
end Go.Proofs.YtnnpjkpmankeiaaW.PrintWords
namespace Kd
end Kd
section
namespace Go.Proofs.Ytnnpjkpmankeiaa.Q
open Go.RowKit Go.Proofs.Ytnnpjkpmankeiaa.PL Go.Proofs.Ytnnpjkpmankeiaa.Hand Go.Proofs.Ytnnpjkpmankeiaa.MStr Go.Proofs.YtnnpjkpmankeiaaW.PrintWords Go.Proofs.YtnnpjkpmankeiaaW.PrintLast
set_option linter.unusedVariables false
set_option linter.unusedSimpArgs false
theorem bad_iff (c : UInt8) : badByte c = true ↔ c = 47 ∨ c = 0 := by
  unfold badByte
  rw [Bool.or_eq_true, beq_iff_eq, beq_iff_eq]
  exact ⟨fun h => h.imp (fun h => UInt8.toNat_inj.1 h) (fun h => UInt8.toNat_inj.1 h), fun h => h.imp (fun h => by rw [h]; rfl) (fun h => by rw [h]; rfl)⟩
end Go.Proofs.Ytnnpjkpmankeiaa.Q
end
section
namespace Go.Proofs.Ytnnpjkpmankeiaa.Q
open Go.RowKit Go.Proofs.Ytnnpjkpmankeiaa.PL Go.Proofs.Ytnnpjkpmankeiaa.Hand Go.Proofs.Ytnnpjkpmankeiaa.MStr Go.Proofs.YtnnpjkpmankeiaaW.PrintWords Go.Proofs.YtnnpjkpmankeiaaW.PrintLast
set_option linter.unusedVariables false
set_option linter.unusedSimpArgs false
theorem path_pieces_ev (s : ByteArray) (hs : s.size ≤ 8796093022206) : path_pieces.f s = some (pieces s) := if_pos hs
def tl (l : List ByteArray) : List UInt8 := l.flatMap (fun x => 47 :: x.data.toList)
def jn : List ByteArray → List UInt8
  | [] => []
  | a :: r => a.data.toList ++ tl r
theorem tl_cons (a : ByteArray) (r : List ByteArray) : tl (a :: r) = 47 :: jn (a :: r) := by simp [tl, jn]
theorem jn_cuts (l : List UInt8) : jn ((cuts l).map tx) = l := by
  induction l with
  | nil => rfl
  | cons c t ih =>
    rw [cuts]
    split
    · rename_i hc
      subst hc
      cases hx : cuts t with
      | nil => exact absurd hx (cuts_ne t)
      | cons p ps =>
        rw [hx] at ih
        rw [List.map_cons, List.map_cons, jn, tl_cons, ← List.map_cons, ih]
        rfl
    · cases hx : cuts t with
      | nil => exact absurd hx (cuts_ne t)
      | cons p ps =>
        rw [hx] at ih
        simp only [List.map_cons, jn, tx_list] at ih ⊢
        rw [List.cons_append, ih]
theorem cuts_last (a b : List UInt8) (h : ∀ c ∈ b, c ≠ 47) : cuts (a ++ 47 :: b) = cuts a ++ [b] := by
  induction a with
  | nil => simp [cuts, cuts_none b h]
  | cons c t ih =>
    rw [List.cons_append, cuts, cuts, ih]
    split
    · rfl
    · cases hx : cuts t with
      | nil => exact absurd hx (cuts_ne t)
      | cons p ps => rfl
theorem last_l0 (s : ByteArray) (hs : s.size ≤ 9000000000000000000) (n : Nat) : n ≤ s.size → (∀ j, n ≤ j → j < s.size → s.get! j ≠ 47) →
    ∃ r : Int, Ev (fun k => bytealg_LastIndexByteString.l0 k s 47 ((n : Int) - 1)) r ∧
      ((r = -1 ∧ ∀ j, j < s.size → s.get! j ≠ 47) ∨ ∃ j : Nat, r = j ∧ j < s.size ∧ s.get! j = 47 ∧ ∀ j', j < j' → j' < s.size → s.get! j' ≠ 47) := by
  induction n with
  | zero =>
    intro hn h
    refine ⟨-1, Ev.succ ?_, .inl ⟨rfl, fun j hj => h j (by omega) hj⟩⟩
    simp only [bytealg_LastIndexByteString.l0]
    exact Ev.neg (by omega) (Ev.ret rfl)
  | succ n ih =>
    intro hn h
    have e1 : ((n + 1 : Nat) : Int) - 1 = (n : Int) := by omega
    by_cases hc : s.get! n = 47
    · refine ⟨n, Ev.succ ?_, .inr ⟨n, rfl, by omega, hc, fun j' h1 h2 => h j' (by omega) h2⟩⟩
      simp only [bytealg_LastIndexByteString.l0, e1]
      exact Ev.pos (by omega) (Ev.pos (by omega) (Ev.pos (by omega) (Ev.pos ((bt_eq s n (by omega) 47).2 hc) (Ev.ret rfl))))
    · obtain ⟨r, h1, h2⟩ := ih (by omega) (fun j h1 h2 => by
        rcases Nat.lt_or_ge n j with h3 | h3
        · exact h j (by omega) h2
        · obtain rfl : j = n := by omega
          exact hc)
      refine ⟨r, Ev.succ ?_, h2⟩
      simp only [bytealg_LastIndexByteString.l0, e1]
      refine Ev.pos (by omega) (Ev.pos (by omega) (Ev.pos (by omega) (Ev.neg (fun e => hc ((bt_eq s n (by omega) 47).1 e)) ?_)))
      rw [wrap_down n (by omega)]
      exact h1
end Go.Proofs.Ytnnpjkpmankeiaa.Q
end
section
namespace Go.Proofs.Ytnnpjkpmankeiaa.Q
open Go.RowKit Go.Proofs.Ytnnpjkpmankeiaa.PL Go.Proofs.Ytnnpjkpmankeiaa.Hand Go.Proofs.Ytnnpjkpmankeiaa.MStr Go.Proofs.YtnnpjkpmankeiaaW.PrintWords Go.Proofs.YtnnpjkpmankeiaaW.PrintLast
set_option linter.unusedVariables false
set_option linter.unusedSimpArgs false
def cmpB (a b : ByteArray) : Int := if Op.bytesLess a.toList b.toList = true then -1 else if Op.bytesLess b.toList a.toList = true then 1 else 0
def cmpL : List ByteArray → List ByteArray → Int
  | [], [] => 0
  | [], _ :: _ => -1
  | _ :: _, [] => 1
  | a :: r, b :: t => if cmpB a b = 0 then cmpL r t else cmpB a b
theorem cmp_l0 (l m : List ByteArray) (hl : l.length ≤ 9000000000000000000) (n : Nat) : ∀ i, l.length - i = n → i ≤ l.length → i ≤ m.length →
    Ev (fun k => slices_Compare_string_string.l0 k l m l (l.length : Int) (i : Nat)) (cmpL (l.drop i) (m.drop i)) := by
  induction n with
  | zero =>
    intro i h h1 h2
    refine Ev.succ ?_
    simp only [slices_Compare_string_string.l0]
    refine Ev.neg (by omega) ?_
    rw [List.drop_eq_nil_of_le (by omega : l.length ≤ i)]
    refine Ev.either (fun hc => Ev.ret ?_) (fun hc => Ev.ret ?_)
    · rw [List.drop_eq_getElem_cons (by omega : i < m.length)]
      rfl
    · rw [List.drop_eq_nil_of_le (by omega : m.length ≤ i)]
      rfl
  | succ n ih =>
    intro i h h1 h2
    have hi : i < l.length := by omega
    refine Ev.succ ?_
    simp only [slices_Compare_string_string.l0]
    refine Ev.pos (by omega) (Ev.pos (by omega) (Ev.pos (by omega) (Ev.either (fun hc => Ev.ret ?_) (fun hc => ?_))))
    · rw [List.drop_eq_getElem_cons hi, List.drop_eq_nil_of_le (by omega : m.length ≤ i)]
      rfl
    · have hm : i < m.length := by omega
      refine Ev.pos (by omega) (Ev.once (v := cmpB l[i] m[i]) (by rw [rd_at l i hi, rd_at m i hm]; rfl) ?_)
      rw [List.drop_eq_getElem_cons hi, List.drop_eq_getElem_cons hm, cmpL]
      refine Ev.either (fun he => ?_) (fun he => Ev.ret (by rw [if_neg he]))
      rw [if_pos he, wrap_up i (by omega)]
      exact ih (i + 1) (by omega) (by omega) (by omega)
theorem compare_ev (a b : ByteArray) (ha : a.size ≤ 8796093022206) (hb : b.size ≤ 8796093022206) : Ev (fun k => path_Compare.f k a b) (cmpL (pieces a) (pieces b)) := by
  unfold path_Compare.f
  refine Ev.once (path_pieces_ev a ha) (Ev.once (path_pieces_ev b hb) (Ev.bind ?_ (Ev.ret rfl)))
  unfold slices_Compare_string_string.f
  have hfew := pieces_few a _ ha
  exact cmp_l0 (pieces a) (pieces b) (by omega) _ 0 rfl (by omega) (by omega)
/-- Is the one the beginning of the other? -/
noncomputable def begins (m l : List ByteArray) : Bool := @decide (m <+: l) (Classical.propDecidable _)
theorem begins_iff (m l : List ByteArray) : begins m l = true ↔ m <+: l := by unfold begins; simp
theorem begins_cons (a b : ByteArray) (m l : List ByteArray) : begins (a :: m) (b :: l) = true ↔ a = b ∧ begins m l = true := by
  rw [begins_iff, begins_iff, List.cons_prefix_cons]
theorem begins_nil (l : List ByteArray) : begins [] l = true := (begins_iff _ _).2 (List.nil_prefix)
theorem begins_same {m l : List ByteArray} (h : m.length = l.length) : begins m l = true ↔ m = l := by
  rw [begins_iff]
  exact ⟨fun hp => hp.eq_of_length h, fun e => by rw [e]; exact List.prefix_refl _⟩
theorem equal_l0 (l m : List ByteArray) (hl : l.length ≤ 9000000000000000000) (he : l.length = m.length) (n : Nat) : ∀ i, l.length - i = n → i ≤ l.length →
    Ev (fun k => slices_Equal_string_string.l0 k l m (l.length : Int) (i : Nat)) (begins (m.drop i) (l.drop i)) := by
  induction n with
  | zero =>
    intro i h h1
    refine Ev.succ ?_
    simp only [slices_Equal_string_string.l0]
    refine Ev.neg (by omega) (Ev.ret ?_)
    rw [List.drop_eq_nil_of_le (by omega : m.length ≤ i), begins_nil]
  | succ n ih =>
    intro i h h1
    have hi : i < l.length := by omega
    have hm : i < m.length := by omega
    refine Ev.succ ?_
    simp only [slices_Equal_string_string.l0]
    rw [List.drop_eq_getElem_cons hi, List.drop_eq_getElem_cons hm]
    refine Ev.pos (by omega) (Ev.pos (by omega) (Ev.pos (by omega) (Ev.pos (by omega) ?_)))
    rw [rd_at l i hi, rd_at m i hm]
    refine Ev.either (fun hc => ?_) (fun hc => Ev.ret ?_)
    · rw [wrap_up i (by omega)]
      refine (ih (i + 1) (by omega) (by omega)).as ?_
      rw [Bool.eq_iff_iff, begins_cons]
      exact ⟨fun h => ⟨(eq_of_toList hc).symm, h⟩, fun h => h.2⟩
    · symm
      rw [Bool.eq_false_iff]
      intro hb
      exact hc (by rw [((begins_cons _ _ _ _).1 hb).1])
theorem equal_ev (l m : List ByteArray) (hl : l.length ≤ 9000000000000000000) : ∃ r, Ev (fun k => slices_Equal_string_string.f k l m) r ∧ (r = true ↔ m = l) := by
  by_cases he : l.length = m.length
  · refine ⟨begins m l, ?_, begins_same he.symm⟩
    unfold slices_Equal_string_string.f
    exact Ev.pos (by omega) (equal_l0 l m hl he _ 0 rfl (by omega))
  · refine ⟨false, ?_, by simp; exact fun e => he (by rw [e])⟩
    unfold slices_Equal_string_string.f
    exact Ev.neg (by omega) (Ev.ret rfl)
theorem under_ev (a b : ByteArray) (ha : a.size ≤ 8796093022206) (hb : b.size ≤ 8796093022206) : Ev (fun k => path_Under.f k a b) (begins (pieces b) (pieces a)) := by
  unfold path_Under.f
  have hfew := pieces_few a _ ha
  refine Ev.once (path_pieces_ev a ha) (Ev.once (path_pieces_ev b hb) (Ev.either (fun hc => ?_) (fun hc => Ev.ret ?_)))
  · refine Ev.pos (by omega) (Ev.pos (by omega) ?_)
    rw [Int.toNat_natCast]
    obtain ⟨r, h1, h2⟩ := equal_ev ((pieces a).take (pieces b).length) (pieces b) (by rw [List.length_take]; omega)
    refine Ev.bind h1 (Ev.ret ?_)
    rw [Bool.eq_iff_iff, h2, begins_iff, List.prefix_iff_eq_take]
  · symm
    rw [Bool.eq_false_iff]
    intro h
    have := ((begins_iff _ _).1 h).length_le
    omega
end Go.Proofs.Ytnnpjkpmankeiaa.Q
end
