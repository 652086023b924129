/- Text 22 of 23 texts that prove the statement of PathPlain; it holds without conditions beyond the statement's own. -/
import GoSem.Core.Utf8
import Derived.Laws.RangeAny
import Derived.Below
import Derived.Deep.Draws
import Derived.Deep.AppendLies
import Derived.Maps.AppendAt
import Derived.OwnWalk
import Derived.Laws.BytesArg
import Derived.Laws.MakeOwn
import Derived.Laws.OwnMore
import Derived.Deep.OwnRows
import Derived.Tactics
import Derived.Lib.ConvBytes
import Derived.Laws.Slices
import Derived.WalkKit
import Derived.KernelRfl
import Derived.RowKit3
import Derived.Deep.LoopGhost
import Derived.Deep.QuietTactic
import Derived.BigQuiet
import Derived.WideLaws
import Derived.Deep.DeepCutAuto
import Derived.Deep.CutBlock
import Derived.Deep.RegionHeld3
import Derived.Laws.Rows
import Derived.Lib.AppendStr
import Derived.ArgAppend
import Derived.Laws.IdiomCopy
import Derived.RowKit
import Derived.Test.YtnnpjkpmankeiaaProg
import GoSem.Op.String
import Derived.WalkLawsBesides
import Derived.OrdersHeld
import Derived.Laws.BitsLemmas
import Derived.Lib.OthersKept
import Derived.WalkSmall
import Derived.Shelf.Strings.Builder1
import Derived.Shelf.Strings.Builder2
import Derived.Shelf.Strings.OnBuilder
import Derived.Shelf.Strings.Search1
import Derived.Shelf.Strings.Search2
import Derived.Shelf.Strings.Search3
import Derived.Shelf.LaysM
import Derived.Shelf.Strings.Shaped
import Derived.Laws.StructEq
import Derived.StillTailTactics
import Derived.Lib.IndexAny
import Derived.Test.YtnnpjkpmankeiaaKP14
import Derived.Test.YtnnpjkpmankeiaaKP15
import Derived.Test.YtnnpjkpmankeiaaKP16
import Derived.Test.YtnnpjkpmankeiaaKP17
import Derived.Test.YtnnpjkpmankeiaaKP18
import Derived.Test.YtnnpjkpmankeiaaKP20
namespace Foot
end Foot
namespace Go.Proofs
end Go.Proofs
namespace Go.Proofs.Ytnnpjkpmankeiaa
end Go.Proofs.Ytnnpjkpmankeiaa
namespace Go.Proofs.Ytnnpjkpmankeiaa.Hand
end Go.Proofs.Ytnnpjkpmankeiaa.Hand
namespace Go.Proofs.Ytnnpjkpmankeiaa.MPat
end Go.Proofs.Ytnnpjkpmankeiaa.MPat
namespace Go.Proofs.Ytnnpjkpmankeiaa.MStr
end Go.Proofs.Ytnnpjkpmankeiaa.MStr
namespace Go.Proofs.Ytnnpjkpmankeiaa.PL
end Go.Proofs.Ytnnpjkpmankeiaa.PL
namespace Go.Proofs.Ytnnpjkpmankeiaa.PRead
end Go.Proofs.Ytnnpjkpmankeiaa.PRead
namespace Go.Proofs.Ytnnpjkpmankeiaa.PSplit
end Go.Proofs.Ytnnpjkpmankeiaa.PSplit
namespace Go.Proofs.Ytnnpjkpmankeiaa.Q
end Go.Proofs.Ytnnpjkpmankeiaa.Q
namespace Go.Proofs.Ytnnpjkpmankeiaa.pathPlain
end Go.Proofs.Ytnnpjkpmankeiaa.pathPlain
namespace Go.Proofs.YtnnpjkpmankeiaaW.PrintLast
end Go.Proofs.YtnnpjkpmankeiaaW.PrintLast
namespace Go.Proofs.YtnnpjkpmankeiaaW.PrintMore
end Go.Proofs.YtnnpjkpmankeiaaW.PrintMore
namespace Go.Proofs.YtnnpjkpmankeiaaW.PrintWords
end Go.Proofs.YtnnpjkpmankeiaaW.PrintWords
namespace Kd
end Kd
section
namespace Go.Proofs.Ytnnpjkpmankeiaa.Q
open Go.RowKit Go.Proofs.Ytnnpjkpmankeiaa.PL Go.Proofs.Ytnnpjkpmankeiaa.Hand Go.Proofs.Ytnnpjkpmankeiaa.MStr Go.Proofs.Ytnnpjkpmankeiaa.MPat Go.Proofs.YtnnpjkpmankeiaaW.PrintWords Go.Proofs.YtnnpjkpmankeiaaW.PrintLast
set_option linter.unusedVariables false
set_option linter.unusedSimpArgs false
theorem signsL_plain (c : UInt8) (t : List UInt8) (h : c ≠ 92) : signsL (c :: t) = (signsL t).map (one c :: ·) := by
  cases t with
  | nil => simp [signsL, h]
  | cons d t => simp [signsL, h]
end Go.Proofs.Ytnnpjkpmankeiaa.Q
end
section
namespace Go.Proofs.Ytnnpjkpmankeiaa.Q
open Go.RowKit Go.Proofs.Ytnnpjkpmankeiaa.PL Go.Proofs.Ytnnpjkpmankeiaa.Hand Go.Proofs.Ytnnpjkpmankeiaa.MStr Go.Proofs.Ytnnpjkpmankeiaa.MPat Go.Proofs.YtnnpjkpmankeiaaW.PrintWords Go.Proofs.YtnnpjkpmankeiaaW.PrintLast
set_option linter.unusedVariables false
set_option linter.unusedSimpArgs false
theorem rd_set (x : List Bool) (i : Nat) (v : Bool) (j : Nat) (h : i < x.length) : rdOf false (x.set i v) (j : Int) = if j = i then v else rdOf false x (j : Int) := by
  unfold rdOf
  rw [Int.toNat_natCast, List.getD_eq_getElem?_getD, List.getD_eq_getElem?_getD, List.getElem?_set]
  by_cases e : i = j
  · subst e
    simp [h]
  · rw [if_neg e, if_neg (fun h => e h.symm)]
theorem rd_none (n j : Nat) : rdOf false (List.replicate n false) (j : Int) = false := by
  unfold rdOf
  rw [Int.toNat_natCast, List.getD_eq_getElem?_getD, List.getElem?_replicate]
  split <;> rfl
/-- A row of the table that is full from a place on. -/
def FullFrom (T : Nat → Bool) (of m : Nat) (x : List Bool) : Prop := x.length = of + 1 ∧ ∀ j, m ≤ j → j ≤ of → rdOf false x (j : Int) = T j
theorem FullFrom.set {T : Nat → Bool} {of m : Nat} {x : List Bool} (h : FullFrom T of (m + 1) x) (hm : m ≤ of) {v : Bool} (hv : v = T m) : FullFrom T of m (x.set m v) := by
  refine ⟨by rw [List.length_set]; exact h.1, fun j h1 h2 => ?_⟩
  rw [rd_set x m v j (by rw [h.1]; omega)]
  split
  · rename_i e
    rw [e, hv]
  · exact h.2 j (by omega) h2
theorem FullFrom.start {T : Nat → Bool} {of : Nat} {N : Nat} (hN : N = of + 1) : FullFrom T of (of + 1) (List.replicate N false) := ⟨by rw [List.length_replicate, hN], fun j h1 h2 => by omega⟩
theorem FullFrom.first {n of : Nat} {M : Nat → Bool} {O : Nat → Nat → Bool} {N : Nat} (hN : N = of + 1) : FullFrom (fun j => mt n of M O n j) of 0 ((List.replicate N false).set of true) := by
  refine ⟨by rw [List.length_set, List.length_replicate, hN], fun j h1 h2 => ?_⟩
  rw [rd_set _ of true j (by rw [List.length_replicate, hN]; omega), rd_none]
  show _ = mt n of M O n j
  rw [mt_end (by omega)]
  split
  · exact (decide_eq_true (by omega)).symm
  · exact (decide_eq_false (by omega)).symm
/-- What a piece of a pattern is to the program. -/
def ptOf (p : ByteArray) : Pt := ⟨p.toList == [42, 42], (signsOut p).1⟩
theorem ptAt_map (ps : List ByteArray) (i : Nat) (h : i < ps.length) : ptAt (ps.map ptOf) i = ptOf ps[i] := by
  unfold ptAt
  rw [List.getD_eq_getElem?_getD, List.getElem?_map, List.getElem?_eq_getElem h]
  rfl
theorem txAt_get (l : List ByteArray) (i : Nat) (h : i < l.length) : txAt l i = l[i] := by
  unfold txAt
  rw [List.getD_eq_getElem?_getD, List.getElem?_eq_getElem h]
  rfl
section
variable (ps names : List ByteArray)
variable {ps names}
end
end Go.Proofs.Ytnnpjkpmankeiaa.Q
end
section
namespace Go.Proofs.Ytnnpjkpmankeiaa.Q
open Go.RowKit Go.Proofs.Ytnnpjkpmankeiaa.PL Go.Proofs.Ytnnpjkpmankeiaa.Hand Go.Proofs.Ytnnpjkpmankeiaa.MStr Go.Proofs.Ytnnpjkpmankeiaa.MPat Go.Proofs.YtnnpjkpmankeiaaW.PrintWords Go.Proofs.YtnnpjkpmankeiaaW.PrintLast
set_option linter.unusedVariables false
set_option linter.unusedSimpArgs false
theorem psplit_l0 (ps : List ByteArray) (hl : ps.length ≤ 9000000000000000000) (n : Nat) : ∀ i, ps.length - i = n → i ≤ ps.length →
    Ev (fun k => PL.path_Split.l0 k ps ps (ps.length : Int) (i : Nat)) (if (ps.drop i).all nameB = true then (ps, 0) else ([], 30)) := by
  induction n with
  | zero =>
    intro i h h1
    refine Ev.succ ?_
    simp only [PL.path_Split.l0]
    refine Ev.neg (by omega) (Ev.ret ?_)
    rw [List.drop_eq_nil_of_le (by omega)]
    rfl
  | succ n ih =>
    intro i h h1
    have hi : i < ps.length := by omega
    refine Ev.succ ?_
    simp only [PL.path_Split.l0]
    rw [rd_at ps i hi, List.drop_eq_getElem_cons hi]
    refine Ev.pos (by omega) (Ev.pos (by omega) (Ev.pos (by omega) (Ev.once (v := if nameB ps[i] = true then 0 else 30) rfl ?_)))
    by_cases hc : nameB ps[i] = true
    · rw [if_pos hc]
      refine Ev.pos rfl ?_
      rw [wrap_up i (by omega)]
      refine (ih (i + 1) (by omega) (by omega)).as ?_
      rw [List.all_cons, hc, Bool.true_and]
    · rw [if_neg hc]
      refine Ev.neg (by decide) (Ev.ret ?_)
      rw [List.all_cons, Bool.eq_false_iff.2 hc, Bool.false_and, if_neg (by simp)]
theorem psplit_ev (s : ByteArray) (hs : s.size ≤ 8796093022206) (most : Int) : Ev (fun k => PL.path_Split.f k s most) (splitB s most) := by
  unfold PL.path_Split.f
  refine Ev.once (path_pieces_ev s hs) ?_
  have hfew := pieces_few s _ hs
  rw [splitB]
  refine Ev.either (fun hc => Ev.ret (by rw [if_pos hc])) (fun hc => ?_)
  rw [if_neg hc]
  exact psplit_l0 (pieces s) (by omega) _ 0 rfl (by omega)
theorem same_l0 (l m : List ByteArray) (hl : l.length ≤ 9000000000000000000) (he : l.length = m.length) (n : Nat) : ∀ i, l.length - i = n → i ≤ l.length →
    Ev (fun k => twinelaw3_same.l0 k l m (i : Nat)) (begins (m.drop i) (l.drop i)) := by
  induction n with
  | zero =>
    intro i h h1
    refine Ev.succ ?_
    simp only [twinelaw3_same.l0]
    refine Ev.neg (by omega) (Ev.ret ?_)
    rw [List.drop_eq_nil_of_le (by omega : m.length ≤ i), begins_nil]
  | succ n ih =>
    intro i h h1
    have hi : i < l.length := by omega
    have hm : i < m.length := by omega
    refine Ev.succ ?_
    simp only [twinelaw3_same.l0]
    rw [List.drop_eq_getElem_cons hi, List.drop_eq_getElem_cons hm]
    refine Ev.pos (by omega) (Ev.pos (by omega) (Ev.pos (by omega) ?_))
    rw [rd_at l i hi, rd_at m i hm]
    refine Ev.either (fun hc => ?_) (fun hc => Ev.ret ?_)
    · rw [wrap_up i (by omega)]
      refine (ih (i + 1) (by omega) (by omega)).as ?_
      rw [Bool.eq_iff_iff, begins_cons]
      exact ⟨fun h => ⟨(eq_of_toList hc).symm, h⟩, fun h => h.2⟩
    · symm
      rw [Bool.eq_false_iff]
      intro hb
      exact hc (by rw [((begins_cons _ _ _ _).1 hb).1])
/-- Are the lists the same? -/
noncomputable def sameB (l m : List ByteArray) : Bool := @decide (l = m) (Classical.propDecidable _)
theorem sameB_iff (l m : List ByteArray) : sameB l m = true ↔ l = m := by unfold sameB; simp
theorem same_ev (l m : List ByteArray) (hl : l.length ≤ 9000000000000000000) : Ev (fun k => twinelaw3_same.f k l m) (sameB l m) := by
  unfold twinelaw3_same.f
  by_cases he : l.length = m.length
  · refine Ev.pos (by omega) ((same_l0 l m hl he _ 0 rfl (by omega)).as ?_)
    rw [Bool.eq_iff_iff, sameB_iff]
    exact (begins_same he.symm).trans eq_comm
  · refine Ev.neg (by omega) (Ev.ret ?_)
    symm
    rw [Bool.eq_false_iff]
    exact fun h => he (by rw [(sameB_iff _ _).1 h])
theorem k1 : splitB ⟨#[97, 47, 98]⟩ 2 = ([⟨#[97]⟩, ⟨#[98]⟩], 0) := by decide +kernel
theorem k2 : splitB ⟨#[97, 47, 47, 98]⟩ 9 = ([], 30) := by decide +kernel
theorem k3 : matchB ⟨#[100, 47, 42, 42]⟩ ⟨#[100, 47, 120, 47, 121]⟩ = (true, 0) := by decide +kernel
theorem k4 : matchB ⟨#[47, 42, 46, 116, 109, 112]⟩ ⟨#[100, 47, 120, 46, 116, 109, 112]⟩ = (false, 0) := by decide +kernel
theorem k5 : cmpL (pieces ⟨#[97, 47, 98]⟩) (pieces ⟨#[97, 46, 98]⟩) = -1 := by decide +kernel
theorem k6 : pieces ⟨#[97]⟩ <+: pieces ⟨#[97, 47, 98]⟩ := ⟨[⟨#[98]⟩], by decide +kernel⟩
theorem k7 : nameB ⟨#[46, 46]⟩ = false := by decide +kernel
theorem k8 : nameB ⟨#[46, 46, 46]⟩ = true := by decide +kernel
theorem small {s : ByteArray} (n : Nat) (h : s.size = n) (h' : n ≤ 100) : s.size ≤ 8796093022206 := by omega
theorem known_ev : Ev (fun k => twinelaw3_known.f k) true := by
  unfold twinelaw3_known.f
  refine Ev.bind ((psplit_ev _ (small 3 rfl (by decide)) 2).as k1) (Ev.bind ((psplit_ev _ (small 4 rfl (by decide)) 9).as k2) ?_)
  refine Ev.once (v := (true, 0)) ((if_pos (by decide)).trans (congrArg some k3)) (Ev.once (v := (false, 0)) ((if_pos (by decide)).trans (congrArg some k4)) ?_)
  refine Ev.once (x := twinelaw3_num.f _) rfl (Ev.pos rfl ?_)
  refine Ev.bind ((same_ev _ _ (by decide)).as ((sameB_iff _ _).2 rfl)) (Ev.pos rfl ?_)
  refine Ev.once (x := twinelaw3_num.f _) rfl (Ev.pos rfl ?_)
  refine Ev.once (x := twinelaw3_num.f _) rfl (Ev.pos rfl (Ev.pos rfl ?_))
  refine Ev.once (x := twinelaw3_num.f _) rfl (Ev.pos rfl (Ev.neg (by decide) ?_))
  refine Ev.bind ((compare_ev _ _ (small 3 rfl (by decide)) (small 3 rfl (by decide))).as k5) (Ev.pos rfl ?_)
  refine Ev.bind ((under_ev _ _ (small 3 rfl (by decide)) (small 1 rfl (by decide))).as ((begins_iff _ _).2 k6)) (Ev.pos rfl ?_)
  refine Ev.once (v := 30) (congrArg some (by rw [k7]; rfl)) (Ev.once (x := twinelaw3_num.f _) rfl (Ev.pos rfl ?_))
  exact Ev.once (v := 0) (congrArg some (by rw [k8]; rfl)) (Ev.once (x := twinelaw3_num.f _) rfl (Ev.ret rfl))
end Go.Proofs.Ytnnpjkpmankeiaa.Q
end
section
namespace Go.Proofs.Ytnnpjkpmankeiaa.Q
open Go.RowKit Go.Proofs.Ytnnpjkpmankeiaa.PL Go.Proofs.Ytnnpjkpmankeiaa.Hand Go.Proofs.Ytnnpjkpmankeiaa.MStr Go.Proofs.Ytnnpjkpmankeiaa.MPat Go.Proofs.YtnnpjkpmankeiaaW.PrintWords Go.Proofs.YtnnpjkpmankeiaaW.PrintLast
set_option linter.unusedVariables false
set_option linter.unusedSimpArgs false
def cnt (l : List ByteArray) : Nat := (l.map fun x => 1 + x.size).sum
theorem cnt_cons (a : ByteArray) (l : List ByteArray) : cnt (a :: l) = 1 + a.size + cnt l := by simp [cnt]
theorem texts_l0 (l : List ByteArray) (hl : l.length ≤ 9000000000000000000) (hs : ∀ x ∈ l, x.size ≤ 9223372036854775807) (n : Nat) : ∀ i (s : Int), l.length - i = n → i ≤ l.length → -9223372036854775808 ≤ s → s ≤ 30000 →
    ∃ r : Int, Ev (fun k => twineroom_Count_Texts.l0 k l (i : Nat) s) r ∧ (0 ≤ r → (cnt (l.drop i) : Int) ≤ s) := by
  induction n with
  | zero =>
    intro i s h h1 h2 h3
    refine ⟨s, Ev.succ ?_, fun h => ?_⟩
    · simp only [twineroom_Count_Texts.l0]
      exact Ev.neg (by omega) (Ev.ret rfl)
    · rw [List.drop_eq_nil_of_le (by omega)]
      exact h
  | succ n ih =>
    intro i s h h1 h2 h3
    have hi : i < l.length := by omega
    have hz := hs _ (List.getElem_mem hi)
    by_cases hneg : s < 0
    · refine ⟨s, Ev.succ ?_, fun h => by omega⟩
      simp only [twineroom_Count_Texts.l0]
      refine Ev.pos (by omega) (Ev.once (x := twineroom_Count_Ok.f s) rfl (Ev.neg ?_ (Ev.ret rfl)))
      simp; omega
    · -- one more text
      have h1' : twineroom_Count_Add.f s 1 = some (decide (wrap64 (s - 1) ≥ 0), wrap64 (s - 1)) := if_pos (by omega)
      have ew1 : wrap64 (s - 1) = s - 1 := wrap_in (by omega) (by omega)
      have key : ∃ s2 : Int, twineroom_Count_Text.f s l[i] = some s2 ∧ -9223372036854775808 ≤ s2 ∧ s2 ≤ 30000 ∧ (0 ≤ s2 → s2 = s - 1 - l[i].size) := by
        unfold twineroom_Count_Text.f
        rw [h1', Option.bind_some, ew1]
        unfold twineroom_Count_Add.f
        by_cases h4 : s - 1 ≥ 0
        · rw [if_pos h4, Option.bind_some]
          have ew2 : wrap64 (s - 1 - (l[i].size : Int)) = s - 1 - l[i].size := wrap_in (by omega) (by omega)
          refine ⟨_, rfl, ?_⟩
          show _ ≤ wrap64 (s - 1 - (l[i].size : Int)) ∧ _
          rw [ew2]
          exact ⟨by omega, by omega, fun _ => rfl⟩
        · rw [if_neg h4, Option.bind_some]
          exact ⟨_, rfl, by show _ ≤ s - 1; omega, by show s - 1 ≤ _; omega, fun h => absurd h (by show ¬ 0 ≤ s - 1; omega)⟩
      obtain ⟨s2, hs2, b1, b2, b3⟩ := key
      obtain ⟨r, hr1, hr2⟩ := ih (i + 1) s2 (by omega) (by omega) b1 b2
      refine ⟨r, Ev.succ ?_, fun h => ?_⟩
      · simp only [twineroom_Count_Texts.l0]
        refine Ev.pos (by omega) (Ev.once (x := twineroom_Count_Ok.f s) rfl (Ev.pos ?_ (Ev.pos (by omega) ?_)))
        · simp; omega
        · rw [rd_at l i hi, wrap_up i (by omega)]
          exact Ev.once hs2 hr1
      · have h5 := hr2 h
        rw [List.drop_eq_getElem_cons hi, cnt_cons]
        have h6 := b3 (by omega)
        omega
theorem few_ev (l : List ByteArray) (hl : l.length ≤ 9000000000000000000) (hs : ∀ x ∈ l, x.size ≤ 9223372036854775807) : ∃ b, Ev (fun k => twinelaw3_few.f k l) b ∧ (b = true → cnt l ≤ 30000) := by
  obtain ⟨r, h1, h2⟩ := texts_l0 l hl hs _ 0 30000 rfl (by omega) (by omega) (by omega)
  refine ⟨decide (r ≥ 0), ?_, fun h => ?_⟩
  · unfold twinelaw3_few.f
    refine Ev.once (x := twineroom_Many.f 30000) rfl (Ev.bind (v := r) ?_ (Ev.once (x := twineroom_Count_Ok.f r) rfl (Ev.ret rfl)))
    unfold twineroom_Count_Texts.f
    exact h1
  · have := h2 (of_decide_eq_true h)
    rw [List.drop_zero] at this
    omega
theorem cnt_mem {l : List ByteArray} {x : ByteArray} (h : x ∈ l) : x.size < cnt l := by
  induction l with
  | nil => simp at h
  | cons a t ih =>
    rw [cnt_cons]
    rcases List.mem_cons.1 h with rfl | h
    · omega
    · have := ih h
      omega
theorem cnt_length (l : List ByteArray) : l.length ≤ cnt l := by
  induction l with
  | nil => simp
  | cons a t ih => rw [cnt_cons, List.length_cons]; omega
theorem tl_cnt (l : List ByteArray) : (tl l).length = cnt l := by
  induction l with
  | nil => rfl
  | cons a t ih =>
    rw [cnt_cons, tl, List.flatMap_cons, List.length_append, List.length_cons, size_list]
    rw [tl] at ih
    omega
theorem jn_cnt (l : List ByteArray) : (jn l).length ≤ cnt l := by
  cases l with
  | nil => simp [jn]
  | cons a t =>
    rw [jn, List.length_append, tl_cnt, cnt_cons, size_list]
    omega
theorem joined_jn (l : List ByteArray) : joined l ⟨#[47]⟩ = jn l := by
  unfold joined Lib.join
  cases l with
  | nil => simp [jn, List.intercalate]
  | cons a r =>
    rw [jn]
    induction r generalizing a with
    | nil => simp [List.intercalate, tl]
    | cons b r ih =>
      have := ih b
      simp only [List.map_cons, List.intercalate] at this ⊢
      rw [List.intersperse_cons_cons, List.flatten_cons, List.flatten_cons, this]
      simp [tl]
theorem pjoin_some (l : List ByteArray) (h1 : l.length ≤ 140737488355328) (h2 : (jn l).length ≤ 140737488355328) : path_Join.f l = some (tx (jn l)) := by
  unfold path_Join.f strings_Join.f
  rw [joined_jn, if_pos ⟨h1, h2⟩]
  rfl
/-- A name has a byte, and no slash. -/
theorem name_no47 {s : ByteArray} (h : nameB s = true) : 1 ≤ s.size ∧ s.size ≤ 255 ∧ ∀ c ∈ s.data.toList, c ≠ 47 := by
  simp only [nameB, Bool.and_eq_true, decide_eq_true_eq] at h
  obtain ⟨⟨⟨⟨h1, h2⟩, _⟩, _⟩, h5⟩ := h
  refine ⟨h1, h2, fun c hc e => ?_⟩
  rw [Bool.not_eq_true', List.any_eq_false] at h5
  exact h5 c hc ((bad_iff c).2 (.inl e))
theorem cuts_jn (l : List ByteArray) (hne : l ≠ []) (h : ∀ x ∈ l, ∀ c ∈ x.data.toList, c ≠ 47) : (cuts (jn l)).map tx = l := by
  cases l with
  | nil => exact absurd rfl hne
  | cons a r =>
    clear hne
    induction r generalizing a with
    | nil =>
      simp only [jn, tl, List.flatMap_nil, List.append_nil]
      rw [cuts_none _ (h a (by simp)), List.map_singleton, tx_data]
    | cons b r ih =>
      rw [jn, tl_cons, cuts_cut _ _ (h a (by simp)), List.map_cons, tx_data, ih b (fun x hx => h x (by simp [hx]))]
theorem pieces_jn (l : List ByteArray) (h : ∀ x ∈ l, nameB x = true) : pieces (tx (jn l)) = l := by
  unfold pieces
  cases l with
  | nil => rw [if_pos (by rw [toList_data, tx_list]; rfl)]
  | cons a r =>
    rw [if_neg, tx_list, cuts_jn _ (by simp) (fun x hx => (name_no47 (h x hx)).2.2)]
    rw [toList_data, tx_list, jn]
    intro e
    have h1 := (name_no47 (h a (by simp))).1
    have h2 := congrArg List.length e
    rw [List.length_append, size_list, List.length_nil] at h2
    omega
theorem jn_pieces (s : ByteArray) : tx (jn (pieces s)) = s := by
  unfold pieces
  split
  · rename_i e
    apply eq_of_toList
    rw [e, toList_data, tx_list]
    rfl
  · rw [jn_cuts, tx_data]
theorem mt_plain {n of : Nat} {M : Nat → Bool} {O : Nat → Nat → Bool} (d : Nat) : ∀ i k, n - i = d → i ≤ n → k ≤ of → (∀ j, i ≤ j → j < n → M j = false) →
    (mt n of M O i k = true ↔ of - k = n - i ∧ ∀ j, j < n - i → O (i + j) (k + j) = true) := by
  induction d with
  | zero =>
    intro i k h h1 h2 hM
    rw [mt_end (by omega), decide_eq_true_eq]
    exact ⟨fun h => ⟨by omega, fun j hj => by omega⟩, fun h => by omega⟩
  | succ d ih =>
    intro i k h h1 h2 hM
    rw [mt_one (by omega) (hM i (Nat.le_refl _) (by omega))]
    by_cases hk : k < of
    · rw [if_pos hk, Bool.and_eq_true, ih (i + 1) (k + 1) (by omega) (by omega) (by omega) (fun j h3 h4 => hM j (by omega) h4)]
      constructor
      · rintro ⟨h3, h4, h5⟩
        refine ⟨by omega, fun j hj => ?_⟩
        cases j with
        | zero => exact h3
        | succ j =>
          have := h5 j (by omega)
          rw [show i + (j + 1) = i + 1 + j by omega, show k + (j + 1) = k + 1 + j by omega]
          exact this
      · rintro ⟨h3, h4⟩
        refine ⟨h4 0 (by omega), by omega, fun j hj => ?_⟩
        have := h4 (j + 1) (by omega)
        rw [show i + (j + 1) = i + 1 + j by omega, show k + (j + 1) = k + 1 + j by omega] at this
        exact this
    · rw [if_neg hk]
      exact ⟨(fun h => by cases h), (fun h => by omega)⟩
/-- A text that is no sign anywhere. -/
def noSign (c : UInt8) : Bool := !(c == 42) && !(c == 63) && !(c == 92)
def plainB (s : ByteArray) : Bool := nameB s && s.data.toList.all noSign
theorem signsL_all (l : List UInt8) (h : l.all noSign = true) : signsL l = some (l.map lit) := by
  induction l with
  | nil => rfl
  | cons c t ih =>
    rw [List.all_cons, Bool.and_eq_true] at h
    obtain ⟨hc, ht⟩ := h
    simp only [noSign, Bool.and_eq_true, Bool.not_eq_true', beq_eq_false_iff_ne] at hc
    rw [signsL_plain c t hc.2, ih ht, Option.map_some, List.map_cons]
    congr 2
    rw [one, if_neg hc.1.1, if_neg hc.1.2]
theorem plain_signs {s : ByteArray} (h : plainB s = true) : signsOut s = (s.data.toList.map lit, true) := by
  rw [plainB, Bool.and_eq_true] at h
  have h1 := (name_no47 h.1).1
  unfold signsOut
  rw [signsL_all _ h.2]
  simp only [Prod.mk.injEq, true_and, decide_eq_true_eq, List.length_map, size_list]
  omega
theorem sgAt_lit (s : ByteArray) (i : Nat) (h : i < s.size) : sgAt (s.data.toList.map lit) i = lit (s.get! i) := by
  unfold sgAt
  rw [List.getD_eq_getElem?_getD, List.getElem?_map, get_data s i h]
  rfl
theorem nameM_lit (p s : ByteArray) : nameM (p.data.toList.map lit) s = true ↔ p = s := by
  unfold nameM
  rw [List.length_map, size_list, mt_plain _ 0 0 rfl (by omega) (by omega) (fun j h1 h2 => by rw [sgMany, sgAt_lit p j h2]; rfl)]
  constructor
  · rintro ⟨h1, h2⟩
    apply eq_of_toList
    rw [toList_data, toList_data]
    apply List.ext_getElem?
    intro j
    rcases Nat.lt_or_ge j p.size with hj | hj
    · have h3 := h2 j (by omega)
      rw [Nat.zero_add, sgOne, sgAt_lit p j hj] at h3
      have h4 : ((p.get! j).toNat : Int) = bt s (j : Int) := by
        have : ((lit (p.get! j)).f2 == bt s (j : Int)) = true := by simpa [lit] using h3
        exact beq_iff_eq.1 this
      rw [bt_get s j (by omega)] at h4
      rw [get_data p j hj, get_data s j (by omega), UInt8.toNat_inj.1 (show (p.get! j).toNat = (s.get! j).toNat by omega)]
    · rw [List.getElem?_eq_none (by rw [size_list]; omega), List.getElem?_eq_none (by rw [size_list]; omega)]
  · rintro rfl
    refine ⟨rfl, fun j hj => ?_⟩
    rw [Nat.zero_add, sgOne, sgAt_lit p j (by omega), bt_get p j (by omega)]
    simp [lit]
theorem plain_many {p : ByteArray} (h : plainB p = true) : (ptOf p).f0 = false := by
  rw [plainB, Bool.and_eq_true] at h
  unfold ptOf
  simp only [beq_eq_false_iff_ne]
  intro e
  rw [toList_data] at e
  rw [e] at h
  exact absurd h.2 (by decide)
theorem partsL_plain (ps : List ByteArray) (h : ∀ x ∈ ps, plainB x = true) : partsL ps = some (ps.map ptOf, 0) := by
  induction ps with
  | nil => rfl
  | cons p t ih =>
    have hp := plain_signs (h p (by simp))
    rw [partsL, hp, if_pos rfl, ih (fun x hx => h x (by simp [hx]))]
    simp only [Option.map_some, List.map_cons, ptOf, hp, Option.some.injEq, Prod.mk.injEq, true_and]
    rw [Nat.add_zero, List.countP_map]
    apply List.countP_eq_zero.2
    intro c _
    simp [lit]
theorem lists_iff (l m : List ByteArray) (k : Nat) (hk : k ≤ m.length) : (m.length - k = l.length ∧ ∀ j, j < l.length → ∀ (h1 : j < l.length) (h2 : k + j < m.length), l[j] = m[k + j]) ↔ m.drop k = l := by
  constructor
  · rintro ⟨h1, h2⟩
    apply List.ext_getElem
    · rw [List.length_drop]; omega
    · intro j hj1 hj2
      rw [List.getElem_drop]
      exact (h2 j hj2 hj2 (by omega)).symm
  · intro e
    have hl : m.length - k = l.length := by rw [← e, List.length_drop]
    refine ⟨hl, fun j hj h1 h2 => ?_⟩
    subst e
    rw [List.getElem_drop]
/-- Plain parts behind others. -/
theorem tail_plain (pre ps names : List ByteArray) (h : ∀ x ∈ ps, plainB x = true) (k : Nat) (hk : k ≤ names.length) :
    mt (pre ++ ps).length names.length (ptMany ((pre ++ ps).map ptOf)) (ptOne ((pre ++ ps).map ptOf) names) pre.length k = true ↔ names.drop k = ps := by
  have hget : ∀ j, j < ps.length → ptAt ((pre ++ ps).map ptOf) (pre.length + j) = ptOf (ps[j]!) := by
    intro j hj
    rw [ptAt_map _ _ (by rw [List.length_append]; omega), List.getElem_append_right (by omega)]
    congr 1
    rw [getElem!_pos ps j hj]
    congr 1
    omega
  rw [mt_plain _ pre.length k rfl (by rw [List.length_append]; omega) hk (fun j h1 h2 => ?_), ← lists_iff ps names k hk]
  · rw [List.length_append, Nat.add_sub_cancel_left]
    refine and_congr_right fun hl => forall_congr' fun j => forall_congr' fun hj => ?_
    have hkj : k + j < names.length := by omega
    rw [ptOne, hget j hj, txAt_get names _ hkj, getElem!_pos ps j hj, ptOf]
    show nameM (signsOut ps[j]).1 names[k + j] = true ↔ _
    rw [plain_signs (h _ (List.getElem_mem hj)), nameM_lit]
    exact ⟨fun e _ _ => e, fun e => e hj hkj⟩
  · rw [List.length_append] at h2
    have hj : j - pre.length < ps.length := by omega
    have e := hget (j - pre.length) hj
    rw [show pre.length + (j - pre.length) = j by omega] at e
    rw [ptMany, e, getElem!_pos ps _ hj]
    exact plain_many (h _ (List.getElem_mem hj))
theorem partsM_plain (ps names : List ByteArray) (h : ∀ x ∈ ps, plainB x = true) : partsM (ps.map ptOf) names = true ↔ names = ps := by
  have := tail_plain [] ps names h 0 (by omega)
  rw [List.drop_zero] at this
  rw [partsM, List.length_map]
  exact this
def stars : ByteArray := ⟨#[42, 42]⟩
theorem stars_out : signsOut stars = ([⟨true, false, 0⟩, ⟨true, false, 0⟩], true) := by
  unfold signsOut
  have : signsL stars.data.toList = some [⟨true, false, 0⟩, ⟨true, false, 0⟩] := by rfl
  rw [this]
  rfl
theorem partsM_stars (ps names : List ByteArray) (h : ∀ x ∈ ps, plainB x = true) : partsM ((stars :: ps).map ptOf) names = true ↔ ∃ k, k ≤ names.length ∧ names.drop k = ps := by
  have h1 : ptMany ((stars :: ps).map ptOf) 0 = true := by
    rw [ptMany, ptAt_map _ 0 (by simp)]
    show (stars.toList == [42, 42]) = true
    rw [toList_data]
    rfl
  rw [partsM, List.length_map, mt_star (by simp) h1 (by omega)]
  constructor
  · rintro ⟨j, _, h2, h3⟩
    exact ⟨j, h2, (tail_plain [stars] ps names h j h2).1 h3⟩
  · rintro ⟨k, h2, h3⟩
    exact ⟨k, by omega, h2, (tail_plain [stars] ps names h k h2).2 h3⟩
theorem matchB_of (pat p : ByteArray) (ps names : List ByteArray) (slash : Bool) (cn : Nat) (h1 : 1 ≤ pat.size) (h2 : pat.size ≤ 255) (hp : pieces (trimS pat) = ps) (hne : ps ≠ []) (hP : partsL ps = some (ps.map ptOf, cn)) (hcn : cn ≤ 8)
    (hs : pat.data.toList.contains 47 = slash) (hN : splitB p 64 = (names, 0)) (hn : names ≠ []) :
    matchB pat p = (partsM (ps.map ptOf) (if slash = true then names else names.drop (names.length - 1)), 0) := by
  have hr : readB pat = (ps.map ptOf, slash, true) := by
    unfold readB
    rw [if_neg (by omega), hp, if_neg hne, hP, ← hs, Lib.contains_iff_indexByte]
    simp only [Prod.mk.injEq, true_and, decide_eq_true_eq]
    exact hcn
  unfold matchB
  rw [hr, hN]
  simp only [Bool.true_eq_false, if_false, ne_eq, not_true_eq_false, hn]
  cases slash <;> simp
theorem trim_slash (s : ByteArray) : trimS ((⟨#[47]⟩ : ByteArray) ++ s) = s := by
  unfold trimS
  rw [if_pos (by rw [tx_cat]; rfl), extract_tx, tx_cat, List.take_of_length_le (by rw [List.length_drop, List.length_append, size_list, size_cat]; exact Nat.le_refl _)]
  simp [tx_data]
theorem trim_other (s : ByteArray) (h : s.data.toList.head? ≠ some 47) : trimS s = s := by
  unfold trimS
  rw [if_neg h]
theorem split_ok {s : ByteArray} {names : List ByteArray} (h : splitB s 64 = (names, 0)) : names = pieces s ∧ ∀ x ∈ names, nameB x = true := by
  unfold splitB at h
  split at h
  · simp at h
  · split at h
    · rename_i h2
      simp only [Prod.mk.injEq, and_true] at h
      subst h
      exact ⟨rfl, fun x hx => List.all_eq_true.1 h2 x hx⟩
    · simp at h
end Go.Proofs.Ytnnpjkpmankeiaa.Q
end
section
namespace Go.Proofs.Ytnnpjkpmankeiaa.Q
open Go.RowKit Go.Proofs.Ytnnpjkpmankeiaa.PL Go.Proofs.Ytnnpjkpmankeiaa.Hand Go.Proofs.Ytnnpjkpmankeiaa.MStr Go.Proofs.Ytnnpjkpmankeiaa.MPat Go.Proofs.YtnnpjkpmankeiaaW.PrintWords Go.Proofs.YtnnpjkpmankeiaaW.PrintLast
set_option linter.unusedVariables false
set_option linter.unusedSimpArgs false
theorem sign_not (c : UInt8) : noSign c = true ↔ c ≠ 42 ∧ c ≠ 63 ∧ c ≠ 92 := by
  simp only [noSign, Bool.and_eq_true, Bool.not_eq_true', beq_eq_false_iff_ne, and_assoc]
theorem plain_l0 (s : ByteArray) (hs : s.size ≤ 9000000000000000000) (n : Nat) : ∀ i, s.size - i = n → Ev (fun k => twinelaw3_plain.l0 k s (i : Nat)) ((s.data.toList.drop i).all noSign) := by
  induction n with
  | zero =>
    intro i h
    refine Ev.succ ?_
    simp only [twinelaw3_plain.l0]
    refine Ev.neg (by omega) (Ev.ret ?_)
    rw [List.drop_eq_nil_of_le (by rw [size_list]; omega)]
    rfl
  | succ n ih =>
    intro i h
    have hi : i < s.size := by omega
    have hno : ∀ c : UInt8, (c = 42 ∨ c = 63 ∨ c = 92) → s.get! i = c → false = (s.data.toList.drop i).all noSign := by
      intro c hc e
      rw [drop_get s i hi, List.all_cons, e]
      have : noSign c = false := by
        rw [Bool.eq_false_iff]
        intro h
        have := (sign_not c).1 h
        rcases hc with h1 | h1 | h1
        · exact this.1 h1
        · exact this.2.1 h1
        · exact this.2.2 h1
      rw [this, Bool.false_and]
    refine Ev.succ ?_
    simp only [twinelaw3_plain.l0]
    refine Ev.pos (by omega) (Ev.pos (by omega) (Ev.either (fun h1 => Ev.ret (hno 42 (.inl rfl) ((bt_eq s i hi 42).1 h1))) (fun h1 => Ev.either (fun h2 => Ev.ret (hno 63 (.inr (.inl rfl)) ((bt_eq s i hi 63).1 h2))) (fun h2 => Ev.either (fun h3 => Ev.ret (hno 92 (.inr (.inr rfl)) ((bt_eq s i hi 92).1 h3))) (fun h3 => ?_)))))
    rw [wrap_up i (by omega)]
    refine (ih (i + 1) (by omega)).as ?_
    rw [drop_get s i hi, List.all_cons, (sign_not _).2 ⟨fun e => h1 ((bt_eq s i hi 42).2 e), fun e => h2 ((bt_eq s i hi 63).2 e), fun e => h3 ((bt_eq s i hi 92).2 e)⟩, Bool.true_and]
theorem plain_ev (s : ByteArray) (hs : s.size ≤ 9000000000000000000) : Ev (fun k => twinelaw3_plain.f k s) (plainB s) := by
  unfold twinelaw3_plain.f
  refine Ev.once (v := if nameB s = true then 0 else 30) rfl (Ev.once (x := twinelaw3_num.f _) rfl ?_)
  by_cases h : nameB s = true
  · rw [if_pos h]
    refine Ev.pos rfl ((plain_l0 s hs s.size 0 (by omega)).as ?_)
    rw [plainB, h, Bool.true_and, List.drop_zero]
  · rw [if_neg h]
    exact Ev.neg (by decide) (Ev.ret (by rw [plainB, Bool.eq_false_iff.2 h, Bool.false_and]))
/-- The end of PathPlain: all the pieces are plain. -/
theorem plain_end (l : List ByteArray) (a : ByteArray) (names : List ByteArray) (hl : cnt l ≤ 30000) (h0 : l ≠ []) (ha : a.size ≤ 20000) (hN : splitB a 64 = (names, 0)) (hn : names ≠ []) (hp : ∀ x ∈ l, plainB x = true) :
    Ev (fun k => (path_Join.f l).bind fun t338 => (if (t338.size : Int) > 250 then (some true) else (if 1 + t338.size ≤ 9223372036854775807 then ((path_Match.f ((⟨#[47]⟩ : ByteArray) ++ t338) a).bind fun bt339 => (if 3 + t338.size ≤ 9223372036854775807 then ((path_Match.f ((⟨#[42, 42, 47]⟩ : ByteArray) ++ t338) a).bind fun bt341 => (if (names.length : Int) ≥ (l.length : Int) then (if 0 ≤ (wrap64 ((names.length : Int) - (l.length : Int))) then (if (wrap64 ((names.length : Int) - (l.length : Int))) ≤ (names.length : Int) then ((twinelaw3_same.f k (names.drop ((wrap64 ((names.length : Int) - (l.length : Int))) : Int).toNat) l).bind fun t347 => (twinelaw3_PathPlain.j3 k l a names t338 bt339.1 bt339.2 bt341.1 bt341.2 t347)) else (none)) else (none)) else (twinelaw3_PathPlain.j3 k l a names t338 bt339.1 bt339.2 bt341.1 bt341.2 false))) else (none))) else (none)))) true := by
  have hlen := cnt_length l
  have hjl := jn_cnt l
  have hnames : ∀ x ∈ l, nameB x = true := fun x hx => by have := hp x hx; rw [plainB, Bool.and_eq_true] at this; exact this.1
  obtain ⟨hN1, hN2⟩ := split_ok hN
  have hNl : names.length ≤ 20001 := by rw [hN1]; exact pieces_few a _ ha
  have hsz : (tx (jn l)).size = (jn l).length := by rw [← size_list, tx_list]
  refine Ev.once (pjoin_some l (by omega) (by omega)) ?_
  refine Ev.either (fun h => Ev.ret rfl) (fun hshort => ?_)
  -- what the three patterns tell
  have hpl : pieces (tx (jn l)) = l := pieces_jn l hnames
  have hjs : 1 ≤ (tx (jn l)).size := by
    cases l with
    | nil => exact absurd rfl h0
    | cons x r =>
      have := (name_no47 (hnames x (by simp))).1
      rw [hsz, jn, List.length_append, size_list]
      omega
  have m1 : matchB ((⟨#[47]⟩ : ByteArray) ++ tx (jn l)) a = (partsM (l.map ptOf) names, 0) := by
    have := matchB_of ((⟨#[47]⟩ : ByteArray) ++ tx (jn l)) a l names true 0 (by rw [size_cat]; show 1 ≤ 1 + _; omega) (by rw [size_cat]; show 1 + _ ≤ 255; omega) (by rw [trim_slash, hpl]) h0 (partsL_plain l hp) (by omega) (by rw [tx_cat]; rfl) hN hn
    rw [this, if_pos rfl]
  have e3 : (⟨#[42, 42, 47]⟩ : ByteArray) ++ tx (jn l) = tx (jn (stars :: l)) := by
    apply eq_of_toList
    rw [toList_data, toList_data, tx_cat, tx_list, tx_list, jn]
    cases l with
    | nil => exact absurd rfl h0
    | cons x r => rw [tl_cons]; rfl
  have m2 : matchB ((⟨#[42, 42, 47]⟩ : ByteArray) ++ tx (jn l)) a = (partsM ((stars :: l).map ptOf) names, 0) := by
    have hP : partsL (stars :: l) = some ((stars :: l).map ptOf, 2) := by
      rw [partsL, stars_out, if_pos rfl, partsL_plain l hp]
      simp only [Option.map_some, List.map_cons, ptOf, stars_out]
      rfl
    have hpc : pieces (trimS ((⟨#[42, 42, 47]⟩ : ByteArray) ++ tx (jn l))) = stars :: l := by
      rw [trim_other _ (by rw [tx_cat]; simp), e3]
      unfold pieces
      rw [if_neg, tx_list, cuts_jn _ (by simp)]
      · intro x hx c hc
        rcases List.mem_cons.1 hx with rfl | hx
        · intro e
          subst e
          revert hc
          decide
        · exact (name_no47 (hnames x hx)).2.2 c hc
      · rw [toList_data, tx_list, jn]
        intro e
        have := congrArg List.length e
        rw [List.length_append] at this
        have h2 : stars.data.toList.length = 2 := rfl
        rw [h2, List.length_nil] at this
        omega
    have := matchB_of ((⟨#[42, 42, 47]⟩ : ByteArray) ++ tx (jn l)) a (stars :: l) names true 2 (by rw [size_cat]; show 1 ≤ 3 + _; omega) (by rw [size_cat]; show 3 + _ ≤ 255; omega) hpc (by simp) hP (by omega) (by rw [tx_cat]; rfl) hN hn
    rw [this, if_pos rfl]
  refine Ev.pos (by omega) (Ev.once (v := matchB ((⟨#[47]⟩ : ByteArray) ++ tx (jn l)) a) (if_pos (by omega)) (Ev.pos (by omega) (Ev.once (v := matchB ((⟨#[42, 42, 47]⟩ : ByteArray) ++ tx (jn l)) a) (if_pos (by omega)) ?_)))
  rw [m1, m2]
  -- the first: the whole text
  have w1 : (partsM (l.map ptOf) names != ((tx (jn l)).toList == a.toList)) = false := by
    have : partsM (l.map ptOf) names = ((tx (jn l)).toList == a.toList) := by
      rw [Bool.eq_iff_iff, partsM_plain l names hp, beq_iff_eq, eq_toList]
      constructor
      · intro e
        rw [← e, hN1, jn_pieces]
      · intro e
        rw [hN1, ← e, hpl]
    rw [this]
    simp
  -- the last name
  have hx0 : 0 < l.length := List.length_pos_iff.2 h0
  have hfin : Ev (fun k => twinelaw3_PathPlain.j4 k l a names false) true := by
    refine Ev.succ ?_
    simp only [twinelaw3_PathPlain.j4]
    have hnl : 0 < names.length := List.length_pos_iff.2 hn
    have e1 : wrap64 ((names.length : Int) - 1) = ((names.length - 1 : Nat) : Int) := by
      rw [wrap_down _ (by omega)]
      omega
    have er : rdOf ByteArray.empty l 0 = l[0] := rd_at l 0 hx0
    have hp0 := hp _ (List.getElem_mem hx0)
    have hn0 := name_no47 (hnames _ (List.getElem_mem hx0))
    have hcut : pieces (trimS l[0]) = [l[0]] := by
      rw [trim_other]
      · unfold pieces
        rw [if_neg, cuts_none _ hn0.2.2, List.map_singleton, tx_data]
        intro e
        rw [toList_data] at e
        have := congrArg List.length e
        rw [size_list, List.length_nil] at this
        omega
      · intro e
        exact hn0.2.2 47 (List.mem_of_mem_head? e) rfl
    have hsl : l[0].data.toList.contains 47 = false := by
      rw [Bool.eq_false_iff]
      intro hc
      exact hn0.2.2 47 (List.contains_iff_mem.1 hc) rfl
    have m3 : matchB l[0] a = (partsM ([l[0]].map ptOf) (names.drop (names.length - 1)), 0) := by
      have := matchB_of l[0] a [l[0]] names false 0 hn0.1 hn0.2.1 hcut (by simp) (partsL_plain _ (fun x hx => by rw [List.mem_singleton.1 hx]; exact hp0)) (by omega) hsl hN hn
      rw [this, if_neg (by simp)]
    rw [er, e1]
    refine Ev.neg (by simp) (Ev.pos (by omega) (Ev.once (v := matchB l[0] a) (if_pos (by omega)) ?_))
    rw [m3]
    refine Ev.once (x := twinelaw3_num.f _) rfl (Ev.pos rfl (Ev.pos (by omega) (Ev.pos (by omega) (Ev.ret ?_))))
    rw [rd_at names _ (by omega), beq_iff_eq, Bool.eq_iff_iff, partsM_plain _ _ (fun x hx => by rw [List.mem_singleton.1 hx]; exact hp0), beq_iff_eq, eq_toList]
    rw [List.drop_eq_getElem_cons (by omega : names.length - 1 < names.length), List.drop_eq_nil_of_le (by omega)]
    simp
  -- the tail
  have hj3 : ∀ b, (partsM ((stars :: l).map ptOf) names = b) → Ev (fun k => twinelaw3_PathPlain.j3 k l a names (tx (jn l)) (partsM (l.map ptOf) names) 0 (partsM ((stars :: l).map ptOf) names) 0 b) true := by
    intro b hb
    refine Ev.succ ?_
    simp only [twinelaw3_PathPlain.j3]
    refine Ev.once (x := twinelaw3_num.f _) rfl (Ev.pos rfl (Ev.once (x := twinelaw3_num.f _) rfl (Ev.pos rfl (Ev.neg (by rw [w1]; simp) ?_))))
    rw [hb, bne_self_eq_false]
    exact hfin
  have hst := partsM_stars l names hp
  refine Ev.either (fun hge => ?_) (fun hlt => hj3 false ?_)
  · have e1 : wrap64 ((names.length : Int) - (l.length : Int)) = ((names.length - l.length : Nat) : Int) := by
      rw [wrap_in (by omega) (by omega)]
      omega
    rw [e1, Int.toNat_natCast]
    refine Ev.pos (by omega) (Ev.pos (by omega) (Ev.bind (same_ev _ l (by rw [List.length_drop]; omega)) (hj3 _ ?_)))
    rw [Bool.eq_iff_iff, hst, sameB_iff]
    constructor
    · rintro ⟨k, hk, e⟩
      have h5 : names.length - k = l.length := by rw [← e, List.length_drop]
      rw [← e, List.length_drop, show names.length - (names.length - k) = k by omega]
    · intro e
      exact ⟨_, by omega, e⟩
  · rw [Bool.eq_false_iff, ne_eq, hst]
    rintro ⟨k, hk, e⟩
    have h5 : names.length - k = l.length := by rw [← e, List.length_drop]
    omega
theorem plain_walk (l : List ByteArray) (a : ByteArray) (names : List ByteArray) (hl : cnt l ≤ 30000) (h0 : l ≠ []) (ha : a.size ≤ 20000) (hN : splitB a 64 = (names, 0)) (hn : names ≠ []) (n : Nat) : ∀ i, l.length - i = n → i ≤ l.length → (∀ x ∈ l.take i, plainB x = true) →
    Ev (fun k => twinelaw3_PathPlain.l0 k l a names (i : Nat)) true := by
  have hlen := cnt_length l
  induction n with
  | zero =>
    intro i h h1 hp
    refine Ev.succ ?_
    simp only [twinelaw3_PathPlain.l0]
    rw [List.take_of_length_le (by omega)] at hp
    exact Ev.neg (by omega) (plain_end l a names hl h0 ha hN hn hp)
  | succ n ih =>
    intro i h h1 hp
    have hi : i < l.length := by omega
    have hz := cnt_mem (List.getElem_mem hi)
    refine Ev.succ ?_
    simp only [twinelaw3_PathPlain.l0]
    rw [rd_at l i hi]
    refine Ev.pos (by omega) (Ev.pos (by omega) (Ev.bind (plain_ev _ (by omega)) (Ev.either (fun hc => ?_) (fun hc => Ev.ret rfl))))
    rw [wrap_up i (by omega)]
    refine ih (i + 1) (by omega) (by omega) (fun x hx => ?_)
    rw [List.take_succ_eq_append_getElem hi, List.mem_append, List.mem_singleton] at hx
    rcases hx with hx | rfl
    · exact hp x hx
    · exact hc
theorem pathPlain_ev (l : List ByteArray) (a : ByteArray) (h1 : l.length * 16 ≤ 140737488351232) (h2 : ∀ x ∈ l, x.size ≤ 9223372036854775807) (h3 : a.size ≤ 140737488351232) : ∃ k, twinelaw3_PathPlain.f k l a = some true := by
  apply Ev.rounds
  have hj : Ev (fun k => twinelaw3_PathPlain.j0 k l a true) true := by
    refine Ev.succ ?_
    simp only [twinelaw3_PathPlain.j0]
    exact Ev.pos (by trivial) (Ev.ret rfl)
  unfold twinelaw3_PathPlain.f
  obtain ⟨b, hb1, hb2⟩ := few_ev l (by omega) h2
  refine Ev.bind known_ev (Ev.pos rfl (Ev.bind hb1 (Ev.either (fun hb => Ev.either (fun _ => hj) (fun ha => Ev.either (fun _ => hj) (fun h0 => ?_))) (fun _ => hj))))
  by_cases h60 : (l.length : Int) > 60
  · rw [decide_eq_true h60]
    exact hj
  rw [decide_eq_false h60]
  refine Ev.succ ?_
  simp only [twinelaw3_PathPlain.j0]
  refine Ev.neg (by simp) (Ev.bind (psplit_ev a (by omega) 64) (Ev.once (x := twinelaw3_num.f _) rfl ?_))
  have hj1 : Ev (fun k => twinelaw3_PathPlain.j1 k l a (splitB a 64).1 true) true := by
    refine Ev.succ ?_
    simp only [twinelaw3_PathPlain.j1]
    exact Ev.pos (by trivial) (Ev.ret rfl)
  refine Ev.either (fun he => ?_) (fun _ => hj1)
  by_cases hn : (splitB a 64).1 = []
  · rw [hn] at hj1 ⊢
    exact hj1
  · have e : (((splitB a 64).1.length : Int) == 0) = false := beq_eq_false_iff_ne.2 (fun e => hn (List.length_eq_zero_iff.1 (by omega)))
    rw [e]
    refine Ev.succ ?_
    simp only [twinelaw3_PathPlain.j1]
    refine Ev.neg (by simp) (plain_walk l a _ (hb2 hb) (fun e => h0 (by rw [e]; rfl)) (by omega) (Prod.ext rfl he) hn _ 0 rfl (by omega) (fun x hx => by simp at hx))
end Go.Proofs.Ytnnpjkpmankeiaa.Q
end
