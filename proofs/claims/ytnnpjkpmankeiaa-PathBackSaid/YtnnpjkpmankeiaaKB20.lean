/- Text 21 of 22 texts that prove the statement of PathBack; it holds without conditions beyond the statement's own. -/
import GoSem.Core.Utf8
import Derived.Laws.RangeAny
import Derived.Below
import Derived.Deep.Draws
import Derived.Deep.AppendLies
import Derived.Maps.AppendAt
import Derived.OwnWalk
import Derived.Laws.BytesArg
import Derived.Laws.MakeOwn
import Derived.Laws.OwnMore
import Derived.Deep.OwnRows
import Derived.Tactics
import Derived.Lib.ConvBytes
import Derived.Laws.Slices
import Derived.WalkKit
import Derived.KernelRfl
import Derived.RowKit3
import Derived.Deep.LoopGhost
import Derived.Deep.QuietTactic
import Derived.BigQuiet
import Derived.WideLaws
import Derived.Deep.DeepCutAuto
import Derived.Deep.CutBlock
import Derived.Deep.RegionHeld3
import Derived.Laws.Rows
import Derived.Lib.AppendStr
import Derived.ArgAppend
import Derived.Laws.IdiomCopy
import Derived.RowKit
import Derived.Test.YtnnpjkpmankeiaaProg
import GoSem.Op.String
import Derived.WalkLawsBesides
import Derived.OrdersHeld
import Derived.Laws.BitsLemmas
import Derived.Lib.OthersKept
import Derived.WalkSmall
import Derived.Shelf.Strings.Builder1
import Derived.Shelf.Strings.Builder2
import Derived.Shelf.Strings.OnBuilder
import Derived.Shelf.Strings.Search1
import Derived.Shelf.Strings.Search2
import Derived.Shelf.Strings.Search3
import Derived.Shelf.LaysM
import Derived.Shelf.Strings.Shaped
import Derived.Laws.StructEq
import Derived.StillTailTactics
import Derived.Lib.IndexAny
import Derived.Test.YtnnpjkpmankeiaaKB14
import Derived.Test.YtnnpjkpmankeiaaKB15
import Derived.Test.YtnnpjkpmankeiaaKB16
import Derived.Test.YtnnpjkpmankeiaaKB17
import Derived.Test.YtnnpjkpmankeiaaKB19
namespace Foot
end Foot
namespace Go.Proofs
end Go.Proofs
namespace Go.Proofs.Ytnnpjkpmankeiaa
end Go.Proofs.Ytnnpjkpmankeiaa
namespace Go.Proofs.Ytnnpjkpmankeiaa.Hand
end Go.Proofs.Ytnnpjkpmankeiaa.Hand
namespace Go.Proofs.Ytnnpjkpmankeiaa.MPat
end Go.Proofs.Ytnnpjkpmankeiaa.MPat
namespace Go.Proofs.Ytnnpjkpmankeiaa.MStr
end Go.Proofs.Ytnnpjkpmankeiaa.MStr
namespace Go.Proofs.Ytnnpjkpmankeiaa.PL
end Go.Proofs.Ytnnpjkpmankeiaa.PL
namespace Go.Proofs.Ytnnpjkpmankeiaa.PRead
end Go.Proofs.Ytnnpjkpmankeiaa.PRead
namespace Go.Proofs.Ytnnpjkpmankeiaa.PSplit
end Go.Proofs.Ytnnpjkpmankeiaa.PSplit
namespace Go.Proofs.Ytnnpjkpmankeiaa.Q
end Go.Proofs.Ytnnpjkpmankeiaa.Q
namespace Go.Proofs.Ytnnpjkpmankeiaa.pathBack
end Go.Proofs.Ytnnpjkpmankeiaa.pathBack
namespace Go.Proofs.YtnnpjkpmankeiaaW.PrintLast
end Go.Proofs.YtnnpjkpmankeiaaW.PrintLast
namespace Go.Proofs.YtnnpjkpmankeiaaW.PrintMore
end Go.Proofs.YtnnpjkpmankeiaaW.PrintMore
namespace Go.Proofs.YtnnpjkpmankeiaaW.PrintWords
end Go.Proofs.YtnnpjkpmankeiaaW.PrintWords
namespace Kd
end Kd
section
namespace Go.Proofs.Ytnnpjkpmankeiaa.Q
open Go.RowKit Go.Proofs.Ytnnpjkpmankeiaa.PL Go.Proofs.Ytnnpjkpmankeiaa.Hand Go.Proofs.Ytnnpjkpmankeiaa.MStr Go.Proofs.Ytnnpjkpmankeiaa.MPat Go.Proofs.YtnnpjkpmankeiaaW.PrintWords Go.Proofs.YtnnpjkpmankeiaaW.PrintLast
set_option linter.unusedVariables false
set_option linter.unusedSimpArgs false
theorem rd_set (x : List Bool) (i : Nat) (v : Bool) (j : Nat) (h : i < x.length) : rdOf false (x.set i v) (j : Int) = if j = i then v else rdOf false x (j : Int) := by
  unfold rdOf
  rw [Int.toNat_natCast, List.getD_eq_getElem?_getD, List.getD_eq_getElem?_getD, List.getElem?_set]
  by_cases e : i = j
  · subst e
    simp [h]
  · rw [if_neg e, if_neg (fun h => e h.symm)]
theorem rd_none (n j : Nat) : rdOf false (List.replicate n false) (j : Int) = false := by
  unfold rdOf
  rw [Int.toNat_natCast, List.getD_eq_getElem?_getD, List.getElem?_replicate]
  split <;> rfl
/-- A row of the table that is full from a place on. -/
def FullFrom (T : Nat → Bool) (of m : Nat) (x : List Bool) : Prop := x.length = of + 1 ∧ ∀ j, m ≤ j → j ≤ of → rdOf false x (j : Int) = T j
theorem FullFrom.set {T : Nat → Bool} {of m : Nat} {x : List Bool} (h : FullFrom T of (m + 1) x) (hm : m ≤ of) {v : Bool} (hv : v = T m) : FullFrom T of m (x.set m v) := by
  refine ⟨by rw [List.length_set]; exact h.1, fun j h1 h2 => ?_⟩
  rw [rd_set x m v j (by rw [h.1]; omega)]
  split
  · rename_i e
    rw [e, hv]
  · exact h.2 j (by omega) h2
theorem FullFrom.start {T : Nat → Bool} {of : Nat} {N : Nat} (hN : N = of + 1) : FullFrom T of (of + 1) (List.replicate N false) := ⟨by rw [List.length_replicate, hN], fun j h1 h2 => by omega⟩
theorem FullFrom.first {n of : Nat} {M : Nat → Bool} {O : Nat → Nat → Bool} {N : Nat} (hN : N = of + 1) : FullFrom (fun j => mt n of M O n j) of 0 ((List.replicate N false).set of true) := by
  refine ⟨by rw [List.length_set, List.length_replicate, hN], fun j h1 h2 => ?_⟩
  rw [rd_set _ of true j (by rw [List.length_replicate, hN]; omega), rd_none]
  show _ = mt n of M O n j
  rw [mt_end (by omega)]
  split
  · exact (decide_eq_true (by omega)).symm
  · exact (decide_eq_false (by omega)).symm
section
variable (ps names : List ByteArray)
variable {ps names}
end
end Go.Proofs.Ytnnpjkpmankeiaa.Q
end
section
namespace Go.Proofs.Ytnnpjkpmankeiaa.Q
open Go.RowKit Go.Proofs.Ytnnpjkpmankeiaa.PL Go.Proofs.Ytnnpjkpmankeiaa.Hand Go.Proofs.Ytnnpjkpmankeiaa.MStr Go.Proofs.Ytnnpjkpmankeiaa.MPat Go.Proofs.YtnnpjkpmankeiaaW.PrintWords Go.Proofs.YtnnpjkpmankeiaaW.PrintLast
set_option linter.unusedVariables false
set_option linter.unusedSimpArgs false
theorem psplit_l0 (ps : List ByteArray) (hl : ps.length ≤ 9000000000000000000) (n : Nat) : ∀ i, ps.length - i = n → i ≤ ps.length →
    Ev (fun k => PL.path_Split.l0 k ps ps (ps.length : Int) (i : Nat)) (if (ps.drop i).all nameB = true then (ps, 0) else ([], 30)) := by
  induction n with
  | zero =>
    intro i h h1
    refine Ev.succ ?_
    simp only [PL.path_Split.l0]
    refine Ev.neg (by omega) (Ev.ret ?_)
    rw [List.drop_eq_nil_of_le (by omega)]
    rfl
  | succ n ih =>
    intro i h h1
    have hi : i < ps.length := by omega
    refine Ev.succ ?_
    simp only [PL.path_Split.l0]
    rw [rd_at ps i hi, List.drop_eq_getElem_cons hi]
    refine Ev.pos (by omega) (Ev.pos (by omega) (Ev.pos (by omega) (Ev.once (v := if nameB ps[i] = true then 0 else 30) rfl ?_)))
    by_cases hc : nameB ps[i] = true
    · rw [if_pos hc]
      refine Ev.pos rfl ?_
      rw [wrap_up i (by omega)]
      refine (ih (i + 1) (by omega) (by omega)).as ?_
      rw [List.all_cons, hc, Bool.true_and]
    · rw [if_neg hc]
      refine Ev.neg (by decide) (Ev.ret ?_)
      rw [List.all_cons, Bool.eq_false_iff.2 hc, Bool.false_and, if_neg (by simp)]
theorem psplit_ev (s : ByteArray) (hs : s.size ≤ 8796093022206) (most : Int) : Ev (fun k => PL.path_Split.f k s most) (splitB s most) := by
  unfold PL.path_Split.f
  refine Ev.once (path_pieces_ev s hs) ?_
  have hfew := pieces_few s _ hs
  rw [splitB]
  refine Ev.either (fun hc => Ev.ret (by rw [if_pos hc])) (fun hc => ?_)
  rw [if_neg hc]
  exact psplit_l0 (pieces s) (by omega) _ 0 rfl (by omega)
theorem same_l0 (l m : List ByteArray) (hl : l.length ≤ 9000000000000000000) (he : l.length = m.length) (n : Nat) : ∀ i, l.length - i = n → i ≤ l.length →
    Ev (fun k => twinelaw3_same.l0 k l m (i : Nat)) (begins (m.drop i) (l.drop i)) := by
  induction n with
  | zero =>
    intro i h h1
    refine Ev.succ ?_
    simp only [twinelaw3_same.l0]
    refine Ev.neg (by omega) (Ev.ret ?_)
    rw [List.drop_eq_nil_of_le (by omega : m.length ≤ i), begins_nil]
  | succ n ih =>
    intro i h h1
    have hi : i < l.length := by omega
    have hm : i < m.length := by omega
    refine Ev.succ ?_
    simp only [twinelaw3_same.l0]
    rw [List.drop_eq_getElem_cons hi, List.drop_eq_getElem_cons hm]
    refine Ev.pos (by omega) (Ev.pos (by omega) (Ev.pos (by omega) ?_))
    rw [rd_at l i hi, rd_at m i hm]
    refine Ev.either (fun hc => ?_) (fun hc => Ev.ret ?_)
    · rw [wrap_up i (by omega)]
      refine (ih (i + 1) (by omega) (by omega)).as ?_
      rw [Bool.eq_iff_iff, begins_cons]
      exact ⟨fun h => ⟨(eq_of_toList hc).symm, h⟩, fun h => h.2⟩
    · symm
      rw [Bool.eq_false_iff]
      intro hb
      exact hc (by rw [((begins_cons _ _ _ _).1 hb).1])
/-- Are the lists the same? -/
noncomputable def sameB (l m : List ByteArray) : Bool := @decide (l = m) (Classical.propDecidable _)
theorem sameB_iff (l m : List ByteArray) : sameB l m = true ↔ l = m := by unfold sameB; simp
theorem same_ev (l m : List ByteArray) (hl : l.length ≤ 9000000000000000000) : Ev (fun k => twinelaw3_same.f k l m) (sameB l m) := by
  unfold twinelaw3_same.f
  by_cases he : l.length = m.length
  · refine Ev.pos (by omega) ((same_l0 l m hl he _ 0 rfl (by omega)).as ?_)
    rw [Bool.eq_iff_iff, sameB_iff]
    exact (begins_same he.symm).trans eq_comm
  · refine Ev.neg (by omega) (Ev.ret ?_)
    symm
    rw [Bool.eq_false_iff]
    exact fun h => he (by rw [(sameB_iff _ _).1 h])
theorem k1 : splitB ⟨#[97, 47, 98]⟩ 2 = ([⟨#[97]⟩, ⟨#[98]⟩], 0) := by decide +kernel
theorem k2 : splitB ⟨#[97, 47, 47, 98]⟩ 9 = ([], 30) := by decide +kernel
theorem k3 : matchB ⟨#[100, 47, 42, 42]⟩ ⟨#[100, 47, 120, 47, 121]⟩ = (true, 0) := by decide +kernel
theorem k4 : matchB ⟨#[47, 42, 46, 116, 109, 112]⟩ ⟨#[100, 47, 120, 46, 116, 109, 112]⟩ = (false, 0) := by decide +kernel
theorem k5 : cmpL (pieces ⟨#[97, 47, 98]⟩) (pieces ⟨#[97, 46, 98]⟩) = -1 := by decide +kernel
theorem k6 : pieces ⟨#[97]⟩ <+: pieces ⟨#[97, 47, 98]⟩ := ⟨[⟨#[98]⟩], by decide +kernel⟩
theorem k7 : nameB ⟨#[46, 46]⟩ = false := by decide +kernel
theorem k8 : nameB ⟨#[46, 46, 46]⟩ = true := by decide +kernel
theorem small {s : ByteArray} (n : Nat) (h : s.size = n) (h' : n ≤ 100) : s.size ≤ 8796093022206 := by omega
theorem known_ev : Ev (fun k => twinelaw3_known.f k) true := by
  unfold twinelaw3_known.f
  refine Ev.bind ((psplit_ev _ (small 3 rfl (by decide)) 2).as k1) (Ev.bind ((psplit_ev _ (small 4 rfl (by decide)) 9).as k2) ?_)
  refine Ev.once (v := (true, 0)) ((if_pos (by decide)).trans (congrArg some k3)) (Ev.once (v := (false, 0)) ((if_pos (by decide)).trans (congrArg some k4)) ?_)
  refine Ev.once (x := twinelaw3_num.f _) rfl (Ev.pos rfl ?_)
  refine Ev.bind ((same_ev _ _ (by decide)).as ((sameB_iff _ _).2 rfl)) (Ev.pos rfl ?_)
  refine Ev.once (x := twinelaw3_num.f _) rfl (Ev.pos rfl ?_)
  refine Ev.once (x := twinelaw3_num.f _) rfl (Ev.pos rfl (Ev.pos rfl ?_))
  refine Ev.once (x := twinelaw3_num.f _) rfl (Ev.pos rfl (Ev.neg (by decide) ?_))
  refine Ev.bind ((compare_ev _ _ (small 3 rfl (by decide)) (small 3 rfl (by decide))).as k5) (Ev.pos rfl ?_)
  refine Ev.bind ((under_ev _ _ (small 3 rfl (by decide)) (small 1 rfl (by decide))).as ((begins_iff _ _).2 k6)) (Ev.pos rfl ?_)
  refine Ev.once (v := 30) (congrArg some (by rw [k7]; rfl)) (Ev.once (x := twinelaw3_num.f _) rfl (Ev.pos rfl ?_))
  exact Ev.once (v := 0) (congrArg some (by rw [k8]; rfl)) (Ev.once (x := twinelaw3_num.f _) rfl (Ev.ret rfl))
end Go.Proofs.Ytnnpjkpmankeiaa.Q
end
section
namespace Go.Proofs.Ytnnpjkpmankeiaa.Q
open Go.RowKit Go.Proofs.Ytnnpjkpmankeiaa.PL Go.Proofs.Ytnnpjkpmankeiaa.Hand Go.Proofs.Ytnnpjkpmankeiaa.MStr Go.Proofs.Ytnnpjkpmankeiaa.MPat Go.Proofs.YtnnpjkpmankeiaaW.PrintWords Go.Proofs.YtnnpjkpmankeiaaW.PrintLast
set_option linter.unusedVariables false
set_option linter.unusedSimpArgs false
def cnt (l : List ByteArray) : Nat := (l.map fun x => 1 + x.size).sum
theorem cnt_cons (a : ByteArray) (l : List ByteArray) : cnt (a :: l) = 1 + a.size + cnt l := by simp [cnt]
theorem texts_l0 (l : List ByteArray) (hl : l.length ≤ 9000000000000000000) (hs : ∀ x ∈ l, x.size ≤ 9223372036854775807) (n : Nat) : ∀ i (s : Int), l.length - i = n → i ≤ l.length → -9223372036854775808 ≤ s → s ≤ 30000 →
    ∃ r : Int, Ev (fun k => twineroom_Count_Texts.l0 k l (i : Nat) s) r ∧ (0 ≤ r → (cnt (l.drop i) : Int) ≤ s) := by
  induction n with
  | zero =>
    intro i s h h1 h2 h3
    refine ⟨s, Ev.succ ?_, fun h => ?_⟩
    · simp only [twineroom_Count_Texts.l0]
      exact Ev.neg (by omega) (Ev.ret rfl)
    · rw [List.drop_eq_nil_of_le (by omega)]
      exact h
  | succ n ih =>
    intro i s h h1 h2 h3
    have hi : i < l.length := by omega
    have hz := hs _ (List.getElem_mem hi)
    by_cases hneg : s < 0
    · refine ⟨s, Ev.succ ?_, fun h => by omega⟩
      simp only [twineroom_Count_Texts.l0]
      refine Ev.pos (by omega) (Ev.once (x := twineroom_Count_Ok.f s) rfl (Ev.neg ?_ (Ev.ret rfl)))
      simp; omega
    · -- one more text
      have h1' : twineroom_Count_Add.f s 1 = some (decide (wrap64 (s - 1) ≥ 0), wrap64 (s - 1)) := if_pos (by omega)
      have ew1 : wrap64 (s - 1) = s - 1 := wrap_in (by omega) (by omega)
      have key : ∃ s2 : Int, twineroom_Count_Text.f s l[i] = some s2 ∧ -9223372036854775808 ≤ s2 ∧ s2 ≤ 30000 ∧ (0 ≤ s2 → s2 = s - 1 - l[i].size) := by
        unfold twineroom_Count_Text.f
        rw [h1', Option.bind_some, ew1]
        unfold twineroom_Count_Add.f
        by_cases h4 : s - 1 ≥ 0
        · rw [if_pos h4, Option.bind_some]
          have ew2 : wrap64 (s - 1 - (l[i].size : Int)) = s - 1 - l[i].size := wrap_in (by omega) (by omega)
          refine ⟨_, rfl, ?_⟩
          show _ ≤ wrap64 (s - 1 - (l[i].size : Int)) ∧ _
          rw [ew2]
          exact ⟨by omega, by omega, fun _ => rfl⟩
        · rw [if_neg h4, Option.bind_some]
          exact ⟨_, rfl, by show _ ≤ s - 1; omega, by show s - 1 ≤ _; omega, fun h => absurd h (by show ¬ 0 ≤ s - 1; omega)⟩
      obtain ⟨s2, hs2, b1, b2, b3⟩ := key
      obtain ⟨r, hr1, hr2⟩ := ih (i + 1) s2 (by omega) (by omega) b1 b2
      refine ⟨r, Ev.succ ?_, fun h => ?_⟩
      · simp only [twineroom_Count_Texts.l0]
        refine Ev.pos (by omega) (Ev.once (x := twineroom_Count_Ok.f s) rfl (Ev.pos ?_ (Ev.pos (by omega) ?_)))
        · simp; omega
        · rw [rd_at l i hi, wrap_up i (by omega)]
          exact Ev.once hs2 hr1
      · have h5 := hr2 h
        rw [List.drop_eq_getElem_cons hi, cnt_cons]
        have h6 := b3 (by omega)
        omega
theorem few_ev (l : List ByteArray) (hl : l.length ≤ 9000000000000000000) (hs : ∀ x ∈ l, x.size ≤ 9223372036854775807) : ∃ b, Ev (fun k => twinelaw3_few.f k l) b ∧ (b = true → cnt l ≤ 30000) := by
  obtain ⟨r, h1, h2⟩ := texts_l0 l hl hs _ 0 30000 rfl (by omega) (by omega) (by omega)
  refine ⟨decide (r ≥ 0), ?_, fun h => ?_⟩
  · unfold twinelaw3_few.f
    refine Ev.once (x := twineroom_Many.f 30000) rfl (Ev.bind (v := r) ?_ (Ev.once (x := twineroom_Count_Ok.f r) rfl (Ev.ret rfl)))
    unfold twineroom_Count_Texts.f
    exact h1
  · have := h2 (of_decide_eq_true h)
    rw [List.drop_zero] at this
    omega
theorem cnt_length (l : List ByteArray) : l.length ≤ cnt l := by
  induction l with
  | nil => simp
  | cons a t ih => rw [cnt_cons, List.length_cons]; omega
theorem tl_cnt (l : List ByteArray) : (tl l).length = cnt l := by
  induction l with
  | nil => rfl
  | cons a t ih =>
    rw [cnt_cons, tl, List.flatMap_cons, List.length_append, List.length_cons, size_list]
    rw [tl] at ih
    omega
theorem jn_cnt (l : List ByteArray) : (jn l).length ≤ cnt l := by
  cases l with
  | nil => simp [jn]
  | cons a t =>
    rw [jn, List.length_append, tl_cnt, cnt_cons, size_list]
    omega
theorem joined_jn (l : List ByteArray) : joined l ⟨#[47]⟩ = jn l := by
  unfold joined Lib.join
  cases l with
  | nil => simp [jn, List.intercalate]
  | cons a r =>
    rw [jn]
    induction r generalizing a with
    | nil => simp [List.intercalate, tl]
    | cons b r ih =>
      have := ih b
      simp only [List.map_cons, List.intercalate] at this ⊢
      rw [List.intersperse_cons_cons, List.flatten_cons, List.flatten_cons, this]
      simp [tl]
theorem pjoin_some (l : List ByteArray) (h1 : l.length ≤ 140737488355328) (h2 : (jn l).length ≤ 140737488355328) : path_Join.f l = some (tx (jn l)) := by
  unfold path_Join.f strings_Join.f
  rw [joined_jn, if_pos ⟨h1, h2⟩]
  rfl
/-- A name has a byte, and no slash. -/
theorem name_no47 {s : ByteArray} (h : nameB s = true) : 1 ≤ s.size ∧ s.size ≤ 255 ∧ ∀ c ∈ s.data.toList, c ≠ 47 := by
  simp only [nameB, Bool.and_eq_true, decide_eq_true_eq] at h
  obtain ⟨⟨⟨⟨h1, h2⟩, _⟩, _⟩, h5⟩ := h
  refine ⟨h1, h2, fun c hc e => ?_⟩
  rw [Bool.not_eq_true', List.any_eq_false] at h5
  exact h5 c hc ((bad_iff c).2 (.inl e))
theorem cuts_jn (l : List ByteArray) (hne : l ≠ []) (h : ∀ x ∈ l, ∀ c ∈ x.data.toList, c ≠ 47) : (cuts (jn l)).map tx = l := by
  cases l with
  | nil => exact absurd rfl hne
  | cons a r =>
    clear hne
    induction r generalizing a with
    | nil =>
      simp only [jn, tl, List.flatMap_nil, List.append_nil]
      rw [cuts_none _ (h a (by simp)), List.map_singleton, tx_data]
    | cons b r ih =>
      rw [jn, tl_cons, cuts_cut _ _ (h a (by simp)), List.map_cons, tx_data, ih b (fun x hx => h x (by simp [hx]))]
theorem pieces_jn (l : List ByteArray) (h : ∀ x ∈ l, nameB x = true) : pieces (tx (jn l)) = l := by
  unfold pieces
  cases l with
  | nil => rw [if_pos (by rw [toList_data, tx_list]; rfl)]
  | cons a r =>
    rw [if_neg, tx_list, cuts_jn _ (by simp) (fun x hx => (name_no47 (h x hx)).2.2)]
    rw [toList_data, tx_list, jn]
    intro e
    have h1 := (name_no47 (h a (by simp))).1
    have h2 := congrArg List.length e
    rw [List.length_append, size_list, List.length_nil] at h2
    omega
theorem jn_pieces (s : ByteArray) : tx (jn (pieces s)) = s := by
  unfold pieces
  split
  · rename_i e
    apply eq_of_toList
    rw [e, toList_data, tx_list]
    rfl
  · rw [jn_cuts, tx_data]
end Go.Proofs.Ytnnpjkpmankeiaa.Q
end
section
namespace Go.Proofs.Ytnnpjkpmankeiaa.Q
open Go.RowKit Go.Proofs.Ytnnpjkpmankeiaa.PL Go.Proofs.Ytnnpjkpmankeiaa.Hand Go.Proofs.Ytnnpjkpmankeiaa.MStr Go.Proofs.Ytnnpjkpmankeiaa.MPat Go.Proofs.YtnnpjkpmankeiaaW.PrintWords Go.Proofs.YtnnpjkpmankeiaaW.PrintLast
set_option linter.unusedVariables false
set_option linter.unusedSimpArgs false
theorem back_end (l : List ByteArray) (hl : cnt l ≤ 30000) (b : Bool) (hb : b = l.all nameB) :
    Ev (fun k => (path_Join.f l).bind fun t374 => ((PL.path_Split.f k t374 (l.length : Int)).bind fun bt375 => (if b = true then ((twinelaw3_num.f bt375.2).bind fun t379 => (if t379 = 0 then ((twinelaw3_same.f k bt375.1 l).bind fun t380 => (some t380)) else (some false))) else (some true)))) true := by
  have hlen := cnt_length l
  have hjl := jn_cnt l
  have hsz : (tx (jn l)).size = (jn l).length := by rw [← size_list, tx_list]
  refine Ev.once (pjoin_some l (by omega) (by omega)) (Ev.bind (psplit_ev _ (by omega) _) (Ev.either (fun hc => ?_) (fun _ => Ev.ret rfl)))
  rw [hb] at hc
  have hp := pieces_jn l (fun x hx => List.all_eq_true.1 hc x hx)
  have hs : splitB (tx (jn l)) (l.length : Int) = (l, 0) := by
    unfold splitB
    rw [hp, if_neg, if_pos hc]
    unfold mx
    split <;> omega
  rw [hs]
  exact Ev.once (x := twinelaw3_num.f _) rfl (Ev.pos rfl (Ev.bind ((same_ev l l (by omega)).as ((sameB_iff _ _).2 rfl)) (Ev.ret rfl)))
theorem back_l0 (l : List ByteArray) (hl : cnt l ≤ 30000) (n : Nat) : ∀ i b, l.length - i = n → i ≤ l.length → b = (l.take i).all nameB → Ev (fun k => twinelaw3_PathBack.l0 k l b (i : Nat)) true := by
  have hlen := cnt_length l
  induction n with
  | zero =>
    intro i b h h1 hb
    refine Ev.succ ?_
    simp only [twinelaw3_PathBack.l0]
    rw [List.take_of_length_le (by omega)] at hb
    exact Ev.neg (by omega) (back_end l hl b hb)
  | succ n ih =>
    intro i b h h1 hb
    have hi : i < l.length := by omega
    have hall : (l.take (i + 1)).all nameB = ((l.take i).all nameB && nameB l[i]) := by
      rw [List.take_succ_eq_append_getElem hi, List.all_append]
      simp
    refine Ev.succ ?_
    simp only [twinelaw3_PathBack.l0]
    rw [rd_at l i hi, wrap_up i (by omega)]
    refine Ev.pos (by omega) (Ev.either (fun hc => Ev.pos (by omega) (Ev.once (v := if nameB l[i] = true then 0 else 30) rfl (Ev.once (x := twinelaw3_num.f _) rfl (ih (i + 1) _ (by omega) (by omega) ?_)))) (fun hc => ih (i + 1) false (by omega) (by omega) ?_))
    · rw [hall, ← hb, hc, Bool.true_and]
      cases nameB l[i] <;> rfl
    · rw [hall, ← hb, Bool.eq_false_iff.2 hc, Bool.false_and]
/-- Above, and what it is: what stands ahead of the last slash, which is a beginning. -/
theorem above_ev (s : ByteArray) (hs : s.size ≤ 8796093022206) : ∃ r : ByteArray × ByteArray, Ev (fun k => path_Above.f k s) r ∧ r.1.size ≤ s.size ∧ pieces r.1 <+: pieces s ∧ (¬ r.1.toList = [] → r.2.size ≤ s.size ∧ tx (jn [r.1, r.2]) = s) := by
  obtain ⟨v, hv, hr⟩ := last_l0 s (by omega) s.size (Nat.le_refl _) (fun j h1 h2 => by omega)
  have hlast : Ev (fun k => strings_LastIndexByte.f k s 47) v := by
    unfold strings_LastIndexByte.f bytealg_LastIndexByteString.f
    rw [wrap_down s.size (by omega)]
    exact Ev.bind hv (Ev.ret rfl)
  rcases hr with ⟨rfl, hno⟩ | ⟨j, rfl, hj, hsl, hno⟩
  · refine ⟨((⟨#[]⟩ : ByteArray), s), ?_, Nat.zero_le _, ?_, fun h => absurd (by rw [toList_data]) h⟩
    · unfold path_Above.f
      exact Ev.bind hlast (Ev.pos (by omega) (Ev.ret rfl))
    · have : pieces (⟨#[]⟩ : ByteArray) = [] := if_pos (by rw [toList_data])
      rw [this]
      exact List.nil_prefix
  · refine ⟨(s.extract 0 j, s.extract (j + 1) s.size), ?_, by simp; omega, ?_, fun h => ⟨by simp, ?_⟩⟩
    · unfold path_Above.f
      refine Ev.bind hlast ?_
      rw [wrap_up j (by omega), Int.toNat_natCast, Int.toNat_natCast]
      exact Ev.neg (by omega) (Ev.pos (by omega) (Ev.pos (by omega) (Ev.pos (by omega) (Ev.pos (by omega) (Ev.ret rfl)))))
    all_goals
      have hl : s.data.toList = s.data.toList.take j ++ 47 :: s.data.toList.drop (j + 1) := by
        have e := (List.take_append_drop j s.data.toList).symm
        rw [drop_get s j hj, hsl] at e
        exact e
    · have h0 : ¬ s.toList = [] := by
        intro h
        rw [toList_data] at h
        rw [h] at hl
        simp at hl
      have hp : pieces s = (cuts (s.data.toList.take j)).map tx ++ [tx (s.data.toList.drop (j + 1))] := by
        rw [pieces, if_neg h0]
        have e := congrArg cuts hl
        rw [cuts_last _ _ (fun c hc => ?_)] at e
        · rw [e]; simp
        · obtain ⟨i, hi, rfl⟩ := List.getElem_of_mem hc
          rw [List.length_drop] at hi
          have hi' : j + 1 + i < s.size := by rw [← size_list s]; omega
          have e := get_data s (j + 1 + i) hi'
          rw [List.getElem_drop]
          rw [List.getElem?_eq_getElem (by rw [size_list]; exact hi')] at e
          rw [Option.some.inj e]
          exact hno _ (by omega) hi'
      show pieces (s.extract 0 j) <+: pieces s
      unfold pieces at hp ⊢
      rw [hp]
      split
      · exact List.nil_prefix
      · rw [extract_tx, tx_list, List.drop_zero, Nat.sub_zero]
        exact List.prefix_append _ _
    · rw [extract_tx, extract_tx, List.drop_zero, Nat.sub_zero, List.take_of_length_le (l := s.data.toList.drop (j + 1)) (by rw [List.length_drop, size_list]; omega)]
      have e : jn [tx (s.data.toList.take j), tx (s.data.toList.drop (j + 1))] = s.data.toList := by
        rw [jn, tl_cons, jn, tx_list, tx_list]
        simp only [tl, List.flatMap_nil, List.append_nil]
        exact hl.symm
      rw [e, tx_data]
theorem pathBack_ev (l : List ByteArray) (a : ByteArray) (m : Int) (h1 : l.length * 16 ≤ 140737488351232) (h2 : ∀ x ∈ l, x.size ≤ 9223372036854775807) (h3 : a.size ≤ 140737488351232) (h4 : (Lit.int .i64 m).wf = true) : ∃ k, twinelaw3_PathBack.f k l a m = some true := by
  apply Ev.rounds
  have hj : Ev (fun k => twinelaw3_PathBack.j0 k l a m true) true := by
    refine Ev.succ ?_
    simp only [twinelaw3_PathBack.j0]
    exact Ev.pos (by trivial) (Ev.ret rfl)
  unfold twinelaw3_PathBack.f
  obtain ⟨b, hb1, hb2⟩ := few_ev l (by omega) h2
  refine Ev.bind known_ev (Ev.pos rfl (Ev.bind hb1 (Ev.either (fun hb => ?_) (fun _ => hj))))
  by_cases h5 : (a.size : Int) > 20000
  · rw [decide_eq_true h5]
    exact hj
  rw [decide_eq_false h5]
  have hs : a.size ≤ 8796093022206 := by omega
  have hj1 : Ev (fun k => twinelaw3_PathBack.j1 k l a false) true := by
    have hj2 : Ev (fun k => twinelaw3_PathBack.j2 k l false) true := by
      refine Ev.succ ?_
      simp only [twinelaw3_PathBack.j2]
      exact Ev.neg (by simp) (back_l0 l (hb2 hb) _ 0 true rfl (by omega) (by simp))
    refine Ev.succ ?_
    simp only [twinelaw3_PathBack.j1]
    obtain ⟨r, r1, r2, r3, r4⟩ := above_ev a hs
    refine Ev.neg (by simp) (Ev.bind r1 (Ev.bind ((under_ev a r.1 hs (by omega)).as ((begins_iff _ _).2 r3)) (Ev.neg (by simp) (Ev.either (fun _ => hj2) (fun hne => ?_)))))
    obtain ⟨r5, r6⟩ := r4 hne
    have hjl := jn_cnt [r.1, r.2]
    rw [cnt_cons, cnt_cons] at hjl
    have hc0 : cnt [] = 0 := rfl
    refine Ev.once (pjoin_some _ (by simp) (by omega)) ?_
    rw [r6, bne_self_eq_false]
    exact hj2
  refine Ev.succ ?_
  simp only [twinelaw3_PathBack.j0]
  refine Ev.neg (by simp) (Ev.bind (psplit_ev a hs m) (Ev.once (x := twinelaw3_num.f _) rfl (Ev.either (fun he => ?_) (fun _ => hj1))))
  have hsp : (splitB a m).1 = pieces a ∧ ((pieces a).length : Int) ≤ mx m 0 := by
    unfold splitB at he ⊢
    split at he
    · simp at he
    · rename_i h6
      rw [if_neg h6]
      split at he
      · rename_i h7
        rw [if_pos h7]
        exact ⟨rfl, by omega⟩
      · simp at he
  rw [hsp.1]
  have hfew := pieces_few a 20000 (by omega)
  have hjl : (jn (pieces a)).length = a.size := by
    have := congrArg ByteArray.size (jn_pieces a)
    rwa [← size_list, tx_list] at this
  refine Ev.once (pjoin_some _ (by omega) (by omega)) ?_
  rw [jn_pieces]
  refine Ev.pos rfl ?_
  rw [decide_eq_false (by omega)]
  exact hj1
end Go.Proofs.Ytnnpjkpmankeiaa.Q
end
