import GoSem.Core.Utf8
import Derived.Laws.RangeAny
import Derived.Below
import Derived.Deep.Draws
import Derived.Deep.AppendLies
import Derived.Maps.AppendAt
import Derived.OwnWalk
import Derived.Laws.BytesArg
import Derived.Laws.MakeOwn
import Derived.Laws.OwnMore
import Derived.Deep.OwnRows
import Derived.Tactics
import Derived.Lib.ConvBytes
import Derived.Laws.Slices
import Derived.WalkKit
import Derived.KernelRfl
import Derived.RowKit3
import Derived.Deep.LoopGhost
import Derived.Deep.QuietTactic
import Derived.BigQuiet
import Derived.WideLaws
import Derived.Deep.DeepCutAuto
import Derived.Deep.CutBlock
import Derived.Deep.RegionHeld3
import Derived.Laws.Rows
import Derived.Lib.AppendStr
import Derived.ArgAppend
import Derived.Laws.IdiomCopy
import Derived.RowKit
import Derived.Test.YtnnpjkpmankeiaaProg
import GoSem.Op.String
import Derived.WalkLawsBesides
import Derived.OrdersHeld
import Derived.Laws.BitsLemmas
import Derived.Lib.OthersKept
import Derived.WalkSmall
import Derived.Shelf.Strings.Builder1
import Derived.Shelf.Strings.Builder2
import Derived.Shelf.Strings.OnBuilder
import Derived.Shelf.Strings.Search1
import Derived.Shelf.Strings.Search2
import Derived.Shelf.Strings.Search3
import Derived.Shelf.LaysM
import Derived.Shelf.Strings.Shaped
import Derived.Laws.StructEq
import Derived.StillTailTactics
import Derived.Lib.IndexAny
import Derived.Test.YtnnpjkpmankeiaaKO14
import Derived.Test.YtnnpjkpmankeiaaKO15
import Derived.Test.YtnnpjkpmankeiaaKO16
import Derived.Test.YtnnpjkpmankeiaaKO17
import Derived.Test.YtnnpjkpmankeiaaKO19
namespace Foot
end Foot
namespace Go.Proofs
end Go.Proofs
namespace Go.Proofs.Ytnnpjkpmankeiaa
end Go.Proofs.Ytnnpjkpmankeiaa
namespace Go.Proofs.Ytnnpjkpmankeiaa.Hand
end Go.Proofs.Ytnnpjkpmankeiaa.Hand
namespace Go.Proofs.Ytnnpjkpmankeiaa.MPat
end Go.Proofs.Ytnnpjkpmankeiaa.MPat
namespace Go.Proofs.Ytnnpjkpmankeiaa.MStr
end Go.Proofs.Ytnnpjkpmankeiaa.MStr
namespace Go.Proofs.Ytnnpjkpmankeiaa.PL
end Go.Proofs.Ytnnpjkpmankeiaa.PL
namespace Go.Proofs.Ytnnpjkpmankeiaa.PRead
end Go.Proofs.Ytnnpjkpmankeiaa.PRead
namespace Go.Proofs.Ytnnpjkpmankeiaa.PSplit
end Go.Proofs.Ytnnpjkpmankeiaa.PSplit
namespace Go.Proofs.Ytnnpjkpmankeiaa.Pure
end Go.Proofs.Ytnnpjkpmankeiaa.Pure
namespace Go.Proofs.Ytnnpjkpmankeiaa.Q
end Go.Proofs.Ytnnpjkpmankeiaa.Q
namespace Go.Proofs.Ytnnpjkpmankeiaa.pathOrder
end Go.Proofs.Ytnnpjkpmankeiaa.pathOrder
namespace Go.Proofs.YtnnpjkpmankeiaaW.PrintLast
end Go.Proofs.YtnnpjkpmankeiaaW.PrintLast
namespace Go.Proofs.YtnnpjkpmankeiaaW.PrintMore
end Go.Proofs.YtnnpjkpmankeiaaW.PrintMore
namespace Go.Proofs.YtnnpjkpmankeiaaW.PrintWords
end Go.Proofs.YtnnpjkpmankeiaaW.PrintWords
namespace Kd
end Kd
section
namespace Go.Proofs.Ytnnpjkpmankeiaa.Q
open Go.RowKit Go.Proofs.Ytnnpjkpmankeiaa.PL Go.Proofs.Ytnnpjkpmankeiaa.Hand Go.Proofs.Ytnnpjkpmankeiaa.MStr Go.Proofs.Ytnnpjkpmankeiaa.MPat Go.Proofs.YtnnpjkpmankeiaaW.PrintWords Go.Proofs.YtnnpjkpmankeiaaW.PrintLast
set_option linter.unusedVariables false
set_option linter.unusedSimpArgs false
theorem rd_set (x : List Bool) (i : Nat) (v : Bool) (j : Nat) (h : i < x.length) : rdOf false (x.set i v) (j : Int) = if j = i then v else rdOf false x (j : Int) := by
  unfold rdOf
  rw [Int.toNat_natCast, List.getD_eq_getElem?_getD, List.getD_eq_getElem?_getD, List.getElem?_set]
  by_cases e : i = j
  · subst e
    simp [h]
  · rw [if_neg e, if_neg (fun h => e h.symm)]
theorem rd_none (n j : Nat) : rdOf false (List.replicate n false) (j : Int) = false := by
  unfold rdOf
  rw [Int.toNat_natCast, List.getD_eq_getElem?_getD, List.getElem?_replicate]
  split <;> rfl
/-- A row of the table that is full from a place on. -/
def FullFrom (T : Nat → Bool) (of m : Nat) (x : List Bool) : Prop := x.length = of + 1 ∧ ∀ j, m ≤ j → j ≤ of → rdOf false x (j : Int) = T j
theorem FullFrom.set {T : Nat → Bool} {of m : Nat} {x : List Bool} (h : FullFrom T of (m + 1) x) (hm : m ≤ of) {v : Bool} (hv : v = T m) : FullFrom T of m (x.set m v) := by
  refine ⟨by rw [List.length_set]; exact h.1, fun j h1 h2 => ?_⟩
  rw [rd_set x m v j (by rw [h.1]; omega)]
  split
  · rename_i e
    rw [e, hv]
  · exact h.2 j (by omega) h2
theorem FullFrom.start {T : Nat → Bool} {of : Nat} {N : Nat} (hN : N = of + 1) : FullFrom T of (of + 1) (List.replicate N false) := ⟨by rw [List.length_replicate, hN], fun j h1 h2 => by omega⟩
theorem FullFrom.first {n of : Nat} {M : Nat → Bool} {O : Nat → Nat → Bool} {N : Nat} (hN : N = of + 1) : FullFrom (fun j => mt n of M O n j) of 0 ((List.replicate N false).set of true) := by
  refine ⟨by rw [List.length_set, List.length_replicate, hN], fun j h1 h2 => ?_⟩
  rw [rd_set _ of true j (by rw [List.length_replicate, hN]; omega), rd_none]
  show _ = mt n of M O n j
  rw [mt_end (by omega)]
  split
  · exact (decide_eq_true (by omega)).symm
  · exact (decide_eq_false (by omega)).symm
section
variable (ps names : List ByteArray)
variable {ps names}
end
end Go.Proofs.Ytnnpjkpmankeiaa.Q
end
section
namespace Go.Proofs.Ytnnpjkpmankeiaa.Q
open Go.RowKit Go.Proofs.Ytnnpjkpmankeiaa.PL Go.Proofs.Ytnnpjkpmankeiaa.Hand Go.Proofs.Ytnnpjkpmankeiaa.MStr Go.Proofs.Ytnnpjkpmankeiaa.MPat Go.Proofs.YtnnpjkpmankeiaaW.PrintWords Go.Proofs.YtnnpjkpmankeiaaW.PrintLast
set_option linter.unusedVariables false
set_option linter.unusedSimpArgs false
theorem cmpB_self (a : ByteArray) : cmpB a a = 0 := by simp [cmpB, less_irrefl]
theorem cmpB_zero {a b : ByteArray} : cmpB a b = 0 ↔ a = b := by
  constructor
  · intro h
    unfold cmpB at h
    split at h
    · omega
    · rename_i h1
      split at h
      · omega
      · rename_i h2
        exact eq_of_toList (less_total _ _ (Bool.eq_false_iff.2 h1) (Bool.eq_false_iff.2 h2))
  · rintro rfl
    exact cmpB_self a
theorem cmpB_anti (a b : ByteArray) : cmpB b a = -cmpB a b := by
  unfold cmpB
  by_cases h1 : Op.bytesLess a.toList b.toList = true
  · have h2 := less_asymm _ _ h1
    simp [h1, h2]
  · by_cases h2 : Op.bytesLess b.toList a.toList = true
    · simp [h1, h2]
    · simp [h1, h2]
theorem cmpB_range (a b : ByteArray) : cmpB a b = -1 ∨ cmpB a b = 0 ∨ cmpB a b = 1 := by
  unfold cmpB
  split
  · exact .inl rfl
  · split
    · exact .inr (.inr rfl)
    · exact .inr (.inl rfl)
theorem cmpB_less {a b : ByteArray} : cmpB a b = -1 ↔ Op.bytesLess a.toList b.toList = true := by
  unfold cmpB
  constructor
  · intro h
    split at h
    · assumption
    · split at h <;> omega
  · intro h
    rw [if_pos h]
theorem cmpB_trans {a b c : ByteArray} (h1 : cmpB a b = -1) (h2 : cmpB b c = -1) : cmpB a c = -1 := cmpB_less.2 (less_trans _ _ _ (cmpB_less.1 h1) (cmpB_less.1 h2))
theorem cmpL_self (l : List ByteArray) : cmpL l l = 0 := by
  induction l with
  | nil => rfl
  | cons a t ih => rw [cmpL, if_pos (cmpB_self a), ih]
theorem cmpL_zero (l : List ByteArray) : ∀ m, cmpL l m = 0 → l = m := by
  induction l with
  | nil =>
    intro m h
    cases m with
    | nil => rfl
    | cons b t => simp [cmpL] at h
  | cons a r ih =>
    intro m h
    cases m with
    | nil => simp [cmpL] at h
    | cons b t =>
      rw [cmpL] at h
      split at h
      · rename_i hc
        rw [cmpB_zero.1 hc, ih t h]
      · rename_i hc
        exact absurd h hc
theorem cmpL_anti (l : List ByteArray) : ∀ m, cmpL m l = -cmpL l m := by
  induction l with
  | nil =>
    intro m
    cases m <;> simp [cmpL]
  | cons a r ih =>
    intro m
    cases m with
    | nil => simp [cmpL]
    | cons b t =>
      rw [cmpL, cmpL, cmpB_anti a b]
      by_cases h : cmpB a b = 0
      · rw [if_pos h, if_pos (by omega), ih]
      · rw [if_neg h, if_neg (by omega)]
theorem cmpL_range (l : List ByteArray) : ∀ m, cmpL l m = -1 ∨ cmpL l m = 0 ∨ cmpL l m = 1 := by
  induction l with
  | nil =>
    intro m
    cases m <;> simp [cmpL]
  | cons a r ih =>
    intro m
    cases m with
    | nil => simp [cmpL]
    | cons b t =>
      rw [cmpL]
      split
      · exact ih t
      · exact cmpB_range a b
theorem cmpL_trans (l : List ByteArray) : ∀ m n, cmpL l m ≤ 0 → cmpL m n ≤ 0 → cmpL l n ≤ 0 := by
  induction l with
  | nil =>
    intro m n h1 h2
    cases n <;> simp [cmpL]
  | cons a r ih =>
    intro m n h1 h2
    cases m with
    | nil => simp [cmpL] at h1
    | cons b t =>
      cases n with
      | nil => simp [cmpL] at h2
      | cons c u =>
        rw [cmpL] at h1 h2 ⊢
        split at h1
        · rename_i e1
          obtain rfl := cmpB_zero.1 e1
          split at h2
          · rename_i e2
            rw [if_pos e2]
            exact ih t u h1 h2
          · rename_i e2
            rw [if_neg e2]
            exact h2
        · rename_i e1
          have r1 := cmpB_range a b
          split at h2
          · rename_i e2
            obtain rfl := cmpB_zero.1 e2
            rw [if_neg e1]
            exact h1
          · rename_i e2
            have r2 := cmpB_range b c
            have r3 := cmpB_trans (a := a) (b := b) (c := c) (by omega) (by omega)
            rw [if_neg (by omega)]
            omega
theorem cmpL_prefix (l : List ByteArray) : ∀ m, l <+: m → cmpL l m ≤ 0 := by
  induction l with
  | nil =>
    intro m h
    cases m <;> simp [cmpL]
  | cons a r ih =>
    intro m h
    cases m with
    | nil => exact absurd h.length_le (by simp)
    | cons b t =>
      obtain ⟨rfl, hx⟩ := List.cons_prefix_cons.1 h
      rw [cmpL, if_pos (cmpB_self a)]
      exact ih t hx
theorem cmpL_between (p : List ByteArray) : ∀ b c, p <+: c → cmpL p b ≤ 0 → cmpL b c ≤ 0 → p <+: b := by
  induction p with
  | nil => exact fun b c _ _ _ => List.nil_prefix
  | cons x p ih =>
    intro b c h h1 h2
    cases c with
    | nil => exact absurd h.length_le (by simp)
    | cons y c =>
      obtain ⟨rfl, hx⟩ := List.cons_prefix_cons.1 h
      cases b with
      | nil => simp [cmpL] at h1
      | cons z b =>
        rw [cmpL] at h1 h2
        have ha := cmpB_anti x z
        split at h1
        · rename_i e1
          obtain rfl := cmpB_zero.1 e1
          rw [if_pos (cmpB_self x)] at h2
          exact List.cons_prefix_cons.2 ⟨rfl, ih b c hx h1 h2⟩
        · rename_i e1
          rw [if_neg (by omega)] at h2
          omega
theorem pieces_inj {a b : ByteArray} (h : pieces a = pieces b) : a = b := by
  have hj : ∀ s : ByteArray, jn (pieces s) = s.data.toList := by
    intro s
    unfold pieces
    split
    · rename_i e
      rw [toList_data] at e
      rw [e]
      rfl
    · exact jn_cuts _
  apply eq_of_toList
  rw [toList_data, toList_data, ← hj a, ← hj b, h]
theorem psplit_l0 (ps : List ByteArray) (hl : ps.length ≤ 9000000000000000000) (n : Nat) : ∀ i, ps.length - i = n → i ≤ ps.length →
    Ev (fun k => PL.path_Split.l0 k ps ps (ps.length : Int) (i : Nat)) (if (ps.drop i).all nameB = true then (ps, 0) else ([], 30)) := by
  induction n with
  | zero =>
    intro i h h1
    refine Ev.succ ?_
    simp only [PL.path_Split.l0]
    refine Ev.neg (by omega) (Ev.ret ?_)
    rw [List.drop_eq_nil_of_le (by omega)]
    rfl
  | succ n ih =>
    intro i h h1
    have hi : i < ps.length := by omega
    refine Ev.succ ?_
    simp only [PL.path_Split.l0]
    rw [rd_at ps i hi, List.drop_eq_getElem_cons hi]
    refine Ev.pos (by omega) (Ev.pos (by omega) (Ev.pos (by omega) (Ev.once (v := if nameB ps[i] = true then 0 else 30) rfl ?_)))
    by_cases hc : nameB ps[i] = true
    · rw [if_pos hc]
      refine Ev.pos rfl ?_
      rw [wrap_up i (by omega)]
      refine (ih (i + 1) (by omega) (by omega)).as ?_
      rw [List.all_cons, hc, Bool.true_and]
    · rw [if_neg hc]
      refine Ev.neg (by decide) (Ev.ret ?_)
      rw [List.all_cons, Bool.eq_false_iff.2 hc, Bool.false_and, if_neg (by simp)]
theorem psplit_ev (s : ByteArray) (hs : s.size ≤ 8796093022206) (most : Int) : Ev (fun k => PL.path_Split.f k s most) (splitB s most) := by
  unfold PL.path_Split.f
  refine Ev.once (path_pieces_ev s hs) ?_
  have hfew := pieces_few s _ hs
  rw [splitB]
  refine Ev.either (fun hc => Ev.ret (by rw [if_pos hc])) (fun hc => ?_)
  rw [if_neg hc]
  exact psplit_l0 (pieces s) (by omega) _ 0 rfl (by omega)
theorem same_l0 (l m : List ByteArray) (hl : l.length ≤ 9000000000000000000) (he : l.length = m.length) (n : Nat) : ∀ i, l.length - i = n → i ≤ l.length →
    Ev (fun k => twinelaw3_same.l0 k l m (i : Nat)) (begins (m.drop i) (l.drop i)) := by
  induction n with
  | zero =>
    intro i h h1
    refine Ev.succ ?_
    simp only [twinelaw3_same.l0]
    refine Ev.neg (by omega) (Ev.ret ?_)
    rw [List.drop_eq_nil_of_le (by omega : m.length ≤ i), begins_nil]
  | succ n ih =>
    intro i h h1
    have hi : i < l.length := by omega
    have hm : i < m.length := by omega
    refine Ev.succ ?_
    simp only [twinelaw3_same.l0]
    rw [List.drop_eq_getElem_cons hi, List.drop_eq_getElem_cons hm]
    refine Ev.pos (by omega) (Ev.pos (by omega) (Ev.pos (by omega) ?_))
    rw [rd_at l i hi, rd_at m i hm]
    refine Ev.either (fun hc => ?_) (fun hc => Ev.ret ?_)
    · rw [wrap_up i (by omega)]
      refine (ih (i + 1) (by omega) (by omega)).as ?_
      rw [Bool.eq_iff_iff, begins_cons]
      exact ⟨fun h => ⟨(eq_of_toList hc).symm, h⟩, fun h => h.2⟩
    · symm
      rw [Bool.eq_false_iff]
      intro hb
      exact hc (by rw [((begins_cons _ _ _ _).1 hb).1])
/-- Are the lists the same? -/
noncomputable def sameB (l m : List ByteArray) : Bool := @decide (l = m) (Classical.propDecidable _)
theorem sameB_iff (l m : List ByteArray) : sameB l m = true ↔ l = m := by unfold sameB; simp
theorem same_ev (l m : List ByteArray) (hl : l.length ≤ 9000000000000000000) : Ev (fun k => twinelaw3_same.f k l m) (sameB l m) := by
  unfold twinelaw3_same.f
  by_cases he : l.length = m.length
  · refine Ev.pos (by omega) ((same_l0 l m hl he _ 0 rfl (by omega)).as ?_)
    rw [Bool.eq_iff_iff, sameB_iff]
    exact (begins_same he.symm).trans eq_comm
  · refine Ev.neg (by omega) (Ev.ret ?_)
    symm
    rw [Bool.eq_false_iff]
    exact fun h => he (by rw [(sameB_iff _ _).1 h])
theorem k1 : splitB ⟨#[97, 47, 98]⟩ 2 = ([⟨#[97]⟩, ⟨#[98]⟩], 0) := by decide +kernel
theorem k2 : splitB ⟨#[97, 47, 47, 98]⟩ 9 = ([], 30) := by decide +kernel
theorem k3 : matchB ⟨#[100, 47, 42, 42]⟩ ⟨#[100, 47, 120, 47, 121]⟩ = (true, 0) := by decide +kernel
theorem k4 : matchB ⟨#[47, 42, 46, 116, 109, 112]⟩ ⟨#[100, 47, 120, 46, 116, 109, 112]⟩ = (false, 0) := by decide +kernel
theorem k5 : cmpL (pieces ⟨#[97, 47, 98]⟩) (pieces ⟨#[97, 46, 98]⟩) = -1 := by decide +kernel
theorem k6 : pieces ⟨#[97]⟩ <+: pieces ⟨#[97, 47, 98]⟩ := ⟨[⟨#[98]⟩], by decide +kernel⟩
theorem k7 : nameB ⟨#[46, 46]⟩ = false := by decide +kernel
theorem k8 : nameB ⟨#[46, 46, 46]⟩ = true := by decide +kernel
theorem small {s : ByteArray} (n : Nat) (h : s.size = n) (h' : n ≤ 100) : s.size ≤ 8796093022206 := by omega
theorem known_ev : Ev (fun k => twinelaw3_known.f k) true := by
  unfold twinelaw3_known.f
  refine Ev.bind ((psplit_ev _ (small 3 rfl (by decide)) 2).as k1) (Ev.bind ((psplit_ev _ (small 4 rfl (by decide)) 9).as k2) ?_)
  refine Ev.once (v := (true, 0)) ((if_pos (by decide)).trans (congrArg some k3)) (Ev.once (v := (false, 0)) ((if_pos (by decide)).trans (congrArg some k4)) ?_)
  refine Ev.once (x := twinelaw3_num.f _) rfl (Ev.pos rfl ?_)
  refine Ev.bind ((same_ev _ _ (by decide)).as ((sameB_iff _ _).2 rfl)) (Ev.pos rfl ?_)
  refine Ev.once (x := twinelaw3_num.f _) rfl (Ev.pos rfl ?_)
  refine Ev.once (x := twinelaw3_num.f _) rfl (Ev.pos rfl (Ev.pos rfl ?_))
  refine Ev.once (x := twinelaw3_num.f _) rfl (Ev.pos rfl (Ev.neg (by decide) ?_))
  refine Ev.bind ((compare_ev _ _ (small 3 rfl (by decide)) (small 3 rfl (by decide))).as k5) (Ev.pos rfl ?_)
  refine Ev.bind ((under_ev _ _ (small 3 rfl (by decide)) (small 1 rfl (by decide))).as ((begins_iff _ _).2 k6)) (Ev.pos rfl ?_)
  refine Ev.once (v := 30) (congrArg some (by rw [k7]; rfl)) (Ev.once (x := twinelaw3_num.f _) rfl (Ev.pos rfl ?_))
  exact Ev.once (v := 0) (congrArg some (by rw [k8]; rfl)) (Ev.once (x := twinelaw3_num.f _) rfl (Ev.ret rfl))
theorem pathOrder_ev : twinelaw3_PathOrder.Pure := by
  intro a b c hA hB hC
  apply Ev.rounds
  have hj : Ev (fun k => twinelaw3_PathOrder.j0 k a b c true) true := by
    refine Ev.succ ?_
    simp only [twinelaw3_PathOrder.j0]
    exact Ev.pos (by trivial) (Ev.ret rfl)
  unfold twinelaw3_PathOrder.f
  refine Ev.bind known_ev (Ev.pos rfl (Ev.either (fun h => hj) (fun h1 => Ev.either (fun h => hj) (fun h2 => ?_))))
  by_cases h3 : (c.size : Int) > 20000
  · rw [decide_eq_true h3]
    exact hj
  rw [decide_eq_false h3]
  have ha : a.size ≤ 8796093022206 := by omega
  have hb : b.size ≤ 8796093022206 := by omega
  have hc : c.size ≤ 8796093022206 := by omega
  have rab := cmpL_range (pieces a) (pieces b)
  have rbc := cmpL_range (pieces b) (pieces c)
  have anti := cmpL_anti (pieces a) (pieces b)
  refine Ev.succ ?_
  simp only [twinelaw3_PathOrder.j0]
  refine Ev.neg (by simp) (Ev.bind (compare_ev a b ha hb) (Ev.bind (compare_ev b c hb hc) (Ev.bind (compare_ev a c ha hc) (Ev.neg (by omega) (Ev.neg (by omega) (Ev.bind (compare_ev b a hb ha) (Ev.pos ?_ (Ev.neg ?_ (Ev.bind (compare_ev a a ha ha) ?_)))))))))
  · rw [anti, wrap_in (by omega) (by omega)]
  · have e : (cmpL (pieces a) (pieces b) == 0) = (a.toList == b.toList) := by
      rw [Bool.eq_iff_iff, beq_iff_eq, beq_iff_eq]
      constructor
      · intro h
        rw [pieces_inj (cmpL_zero _ _ h)]
      · intro h
        rw [eq_of_toList h]
        exact cmpL_self _
    rw [e]
    simp
  rw [cmpL_self]
  -- no cycle
  refine Ev.succ ?_
  simp only [twinelaw3_PathOrder.j1]
  have hjoin : Ev (fun k => twinelaw3_PathOrder.j2 k a b c (cmpL (pieces a) (pieces b)) (cmpL (pieces b) (pieces c)) false) true := by
    -- what lies below stands behind
    have hlast : Ev (fun k => twinelaw3_PathOrder.j3 k a b false) true := by
      refine Ev.succ ?_
      simp only [twinelaw3_PathOrder.j3]
      refine Ev.neg (by simp) (Ev.bind (under_ev a b ha hb) (Ev.either (fun hu => Ev.bind (compare_ev b a hb ha) (Ev.ret ?_)) (fun hu => Ev.ret rfl)))
      exact decide_eq_true (cmpL_prefix _ _ ((begins_iff _ _).1 hu))
    refine Ev.succ ?_
    simp only [twinelaw3_PathOrder.j2]
    refine Ev.neg (by simp) (Ev.bind (under_ev c a hc ha) (Ev.either (fun hu => Ev.either (fun e1 => Ev.either (fun e2 => ?_) (fun _ => hlast)) (fun _ => hlast)) (fun _ => hlast)))
    have hp := cmpL_between (pieces a) (pieces b) (pieces c) ((begins_iff _ _).1 hu) (by omega) (by omega)
    refine Ev.bind ((under_ev b a hb ha).as ((begins_iff _ _).2 hp)) ?_
    exact hlast
  refine Ev.neg (by simp) (Ev.either (fun e1 => Ev.either (fun e2 => ?_) (fun _ => hjoin)) (fun _ => hjoin))
  have ht := cmpL_trans (pieces a) (pieces b) (pieces c) e1 e2
  rw [decide_eq_false (by omega)]
  exact hjoin
end Go.Proofs.Ytnnpjkpmankeiaa.Q
end
section
namespace Go.Proofs.Ytnnpjkpmankeiaa.Pure
open Go.Proofs.Ytnnpjkpmankeiaa.PL
theorem PathOrder : twinelaw3_PathOrder.Pure := Q.pathOrder_ev
end Go.Proofs.Ytnnpjkpmankeiaa.Pure
end
