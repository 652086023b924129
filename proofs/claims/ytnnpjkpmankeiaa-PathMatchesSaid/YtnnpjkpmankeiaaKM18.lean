import GoSem.Core.Utf8
import Derived.Laws.RangeAny
import Derived.Below
import Derived.Deep.Draws
import Derived.Deep.AppendLies
import Derived.Maps.AppendAt
import Derived.OwnWalk
import Derived.Laws.BytesArg
import Derived.Laws.MakeOwn
import Derived.Laws.OwnMore
import Derived.Deep.OwnRows
import Derived.Tactics
import Derived.Lib.ConvBytes
import Derived.Laws.Slices
import Derived.WalkKit
import Derived.KernelRfl
import Derived.RowKit3
import Derived.Deep.LoopGhost
import Derived.Deep.QuietTactic
import Derived.BigQuiet
import Derived.WideLaws
import Derived.Deep.DeepCutAuto
import Derived.Deep.CutBlock
import Derived.Deep.RegionHeld3
import Derived.Laws.Rows
import Derived.Lib.AppendStr
import Derived.ArgAppend
import Derived.Laws.IdiomCopy
import Derived.RowKit
import Derived.Test.YtnnpjkpmankeiaaProg
import GoSem.Op.String
import Derived.WalkLawsBesides
import Derived.OrdersHeld
import Derived.Laws.BitsLemmas
import Derived.Lib.OthersKept
import Derived.WalkSmall
import Derived.Shelf.Strings.Builder1
import Derived.Shelf.Strings.Builder2
import Derived.Shelf.Strings.OnBuilder
import Derived.Shelf.Strings.Search1
import Derived.Shelf.Strings.Search2
import Derived.Shelf.Strings.Search3
import Derived.Shelf.LaysM
import Derived.Shelf.Strings.Shaped
import Derived.Laws.StructEq
import Derived.StillTailTactics
import Derived.Lib.IndexAny
import Derived.Test.YtnnpjkpmankeiaaKM12
import Derived.Test.YtnnpjkpmankeiaaKM15
import Derived.Test.YtnnpjkpmankeiaaKM17
namespace Foot
end Foot
namespace Go.Proofs
end Go.Proofs
namespace Go.Proofs.Ytnnpjkpmankeiaa
end Go.Proofs.Ytnnpjkpmankeiaa
namespace Go.Proofs.Ytnnpjkpmankeiaa.Hand
end Go.Proofs.Ytnnpjkpmankeiaa.Hand
namespace Go.Proofs.Ytnnpjkpmankeiaa.MPat
end Go.Proofs.Ytnnpjkpmankeiaa.MPat
namespace Go.Proofs.Ytnnpjkpmankeiaa.MStr
end Go.Proofs.Ytnnpjkpmankeiaa.MStr
namespace Go.Proofs.Ytnnpjkpmankeiaa.PL
end Go.Proofs.Ytnnpjkpmankeiaa.PL
namespace Go.Proofs.Ytnnpjkpmankeiaa.PRead
end Go.Proofs.Ytnnpjkpmankeiaa.PRead
namespace Go.Proofs.Ytnnpjkpmankeiaa.PSplit
end Go.Proofs.Ytnnpjkpmankeiaa.PSplit
namespace Go.Proofs.Ytnnpjkpmankeiaa.Pure
end Go.Proofs.Ytnnpjkpmankeiaa.Pure
namespace Go.Proofs.Ytnnpjkpmankeiaa.Q
end Go.Proofs.Ytnnpjkpmankeiaa.Q
namespace Go.Proofs.Ytnnpjkpmankeiaa.pathMatches
end Go.Proofs.Ytnnpjkpmankeiaa.pathMatches
namespace Go.Proofs.YtnnpjkpmankeiaaW.PrintLast
end Go.Proofs.YtnnpjkpmankeiaaW.PrintLast
namespace Go.Proofs.YtnnpjkpmankeiaaW.PrintMore
end Go.Proofs.YtnnpjkpmankeiaaW.PrintMore
namespace Go.Proofs.YtnnpjkpmankeiaaW.PrintWords
end Go.Proofs.YtnnpjkpmankeiaaW.PrintWords
namespace Kd
end Kd
section
namespace Go.Proofs.Ytnnpjkpmankeiaa.Q
open Go.RowKit Go.Proofs.Ytnnpjkpmankeiaa.PL Go.Proofs.Ytnnpjkpmankeiaa.Hand Go.Proofs.Ytnnpjkpmankeiaa.MStr Go.Proofs.Ytnnpjkpmankeiaa.MPat Go.Proofs.YtnnpjkpmankeiaaW.PrintWords Go.Proofs.YtnnpjkpmankeiaaW.PrintLast
set_option linter.unusedVariables false
set_option linter.unusedSimpArgs false
abbrev Rs := PL.S148
/-- A sign in the reference's type. -/
def cv (x : Sg) : Rs := ⟨x.f0, x.f1, x.f2⟩
theorem signsL_plain (c : UInt8) (t : List UInt8) (h : c ≠ 92) : signsL (c :: t) = (signsL t).map (one c :: ·) := by
  cases t with
  | nil => simp [signsL, h]
  | cons d t => simp [signsL, h]
theorem signs_l0 (s : ByteArray) (hs : s.size ≤ 46912496118441) (n : Nat) : ∀ i acc, s.size - i ≤ n → i ≤ s.size → acc.length ≤ i →
    Ev (fun k => twineref3_signs.l0 k s acc (i : Nat)) (match signsL (s.data.toList.drop i) with | none => ([], false) | some l => (acc ++ l.map cv, true)) := by
  have hend : ∀ i acc, s.size ≤ i → Ev (fun k => twineref3_signs.l0 k s acc (i : Nat)) (match signsL (s.data.toList.drop i) with | none => ([], false) | some l => (acc ++ l.map cv, true)) := by
    intro i acc h
    refine Ev.succ ?_
    simp only [twineref3_signs.l0]
    refine Ev.neg (by omega) (Ev.ret ?_)
    rw [List.drop_eq_nil_of_le (by rw [size_list]; omega)]
    simp [signsL]
  induction n with
  | zero => exact fun i acc h h1 h2 => hend i acc (by omega)
  | succ n ih =>
    intro i acc h h1 h2
    by_cases hi : i < s.size
    case neg => exact hend i acc (by omega)
    have hd := drop_get s i hi
    -- one plain step
    have step : ∀ x : Sg, s.get! i ≠ 92 → one (s.get! i) = x → Ev (fun k => if acc.length < 46912496118442 then twineref3_signs.l0 k s (acc ++ [cv x]) (wrap64 ((i : Int) + 1)) else none)
        (match signsL (s.data.toList.drop i) with | none => ([], false) | some l => (acc ++ l.map cv, true)) := by
      intro x h92 hx
      refine Ev.pos (by omega) ?_
      rw [wrap_up i (by omega)]
      refine (ih (i + 1) (acc ++ [cv x]) (by omega) (by omega) (by rw [List.length_append, List.length_singleton]; omega)).as ?_
      rw [hd, signsL_plain _ _ h92, hx]
      cases signsL (s.data.toList.drop (i + 1)) with
      | none => rfl
      | some l => simp
    refine Ev.succ ?_
    simp only [twineref3_signs.l0]
    refine Ev.pos (by omega) (Ev.pos (by omega) (Ev.either (fun h42 => ?_) (fun h42 => Ev.either (fun h63 => ?_) (fun h63 => Ev.either (fun h92 => ?_) (fun h92 => ?_)))))
    · have e := (bt_eq s i hi 42).1 h42
      exact step ⟨true, false, 0⟩ (by rw [e]; decide) (by rw [e]; rfl)
    · have e := (bt_eq s i hi 63).1 h63
      exact step ⟨false, true, 0⟩ (by rw [e]; decide) (by rw [e]; rfl)
    · have e := (bt_eq s i hi 92).1 h92
      rw [wrap_up i (by omega)]
      refine Ev.either (fun hl => Ev.ret ?_) (fun hl => ?_)
      · rw [hd, e, List.drop_eq_nil_of_le (by rw [size_list]; omega)]
        simp [signsL]
      · have hi2 : i + 1 < s.size := by omega
        refine Ev.pos (by omega) (Ev.pos (by omega) (Ev.pos (by omega) ?_))
        rw [wrap_up (i + 1) (by omega), bt_get s (i + 1) hi2]
        refine (ih (i + 2) (acc ++ [cv (lit (s.get! (i + 1)))]) (by omega) (by omega) (by rw [List.length_append, List.length_singleton]; omega)).as ?_
        rw [hd, e, drop_get s (i + 1) hi2]
        simp only [signsL, if_true]
        cases signsL (s.data.toList.drop (i + 2)) with
        | none => rfl
        | some l => simp
    · have e42 : s.get! i ≠ 42 := fun e => h42 ((bt_eq s i hi 42).2 e)
      have e63 : s.get! i ≠ 63 := fun e => h63 ((bt_eq s i hi 63).2 e)
      have e92 : s.get! i ≠ 92 := fun e => h92 ((bt_eq s i hi 92).2 e)
      rw [bt_get s i hi]
      exact step ⟨false, false, ((s.get! i).toNat : Int)⟩ e92 (by rw [one, if_neg e42, if_neg e63]; rfl)
/-- What signs answers. -/
def signsR (s : ByteArray) : List Rs × Bool := match signsL s.data.toList with
  | none => ([], false)
  | some l => (l.map cv, true)
theorem signs_ev (s : ByteArray) (hs : s.size ≤ 46912496118441) : Ev (fun k => twineref3_signs.f k s) (signsR s) := by
  unfold twineref3_signs.f
  exact (signs_l0 s hs s.size 0 [] (by omega) (by omega) (by simp)).as (by simp [signsR])
theorem signsL_nil (l : List UInt8) : signsL l = some [] ↔ l = [] := by
  cases l with
  | nil => simp [signsL]
  | cons c t =>
    cases t with
    | nil => simp only [signsL]; split <;> simp
    | cons d t => simp only [signsL]; split <;> simp
theorem signsR_good (s : ByteArray) : ((signsR s).2 = true ∧ ¬ s.size = 0) ↔ (signsOut s).2 = true := by
  unfold signsR signsOut
  cases h : signsL s.data.toList with
  | none => simp
  | some l =>
    simp only [true_and, decide_eq_true_eq]
    have e := signsL_nil s.data.toList
    rw [h] at e
    have e1 : l = [] ↔ s.size = 0 := by
      rw [← size_list s, List.length_eq_zero_iff, ← e]
      simp
    constructor
    · intro hs
      rcases Nat.eq_zero_or_pos l.length with h0 | h0
      · exact absurd (e1.1 (List.length_eq_zero_iff.1 h0)) hs
      · omega
    · intro hl hs
      rw [e1.2 hs] at hl
      simp at hl
theorem signsR_out (s : ByteArray) (h : (signsOut s).2 = true) : (signsR s).1 = (signsOut s).1.map cv := by
  unfold signsR
  unfold signsOut at h ⊢
  cases h2 : signsL s.data.toList with
  | none => rw [h2] at h; simp at h
  | some l => rfl
theorem slash_l0 (s : ByteArray) (hs : s.size ≤ 9000000000000000000) (v : List ByteArray × Bool × Bool)
    (hv : Ev (fun k => if 0 < (s.size : Int) then (if (bt s 0) = 47 then (if 1 ≤ (s.size : Int) then (twineref3_pattern.j2 k (s.extract 1 s.size) (s.data.toList.contains 47)) else (none)) else (twineref3_pattern.j2 k s (s.data.toList.contains 47))) else (none)) v) (n : Nat) :
    ∀ i b, s.size - i = n → i ≤ s.size → (b || (s.data.toList.drop i).contains 47) = s.data.toList.contains 47 → Ev (fun k => twineref3_pattern.l0 k s b (i : Nat)) v := by
  induction n with
  | zero =>
    intro i b h h1 hb
    refine Ev.succ ?_
    simp only [twineref3_pattern.l0]
    refine Ev.neg (by omega) ?_
    rw [List.drop_eq_nil_of_le (by rw [size_list]; omega), List.contains_nil, Bool.or_false] at hb
    rw [hb]
    exact hv
  | succ n ih =>
    intro i b h h1 hb
    have hi : i < s.size := by omega
    rw [drop_get s i hi, List.contains_cons] at hb
    refine Ev.succ ?_
    simp only [twineref3_pattern.l0]
    rw [wrap_up i (by omega)]
    refine Ev.pos (by omega) (Ev.either (fun hc => ?_) (fun hc => Ev.pos (by omega) ?_))
    · refine ih (i + 1) true (by omega) (by omega) ?_
      rw [hc] at hb
      simpa using hb
    · refine ih (i + 1) _ (by omega) (by omega) ?_
      have e : (bt s (i : Int) == 47) = ((47 : UInt8) == s.get! i) := by
        rw [Bool.eq_iff_iff, beq_iff_eq, beq_iff_eq]
        exact (bt_eq s i hi 47).trans eq_comm
      rw [e, ← hb, Bool.eq_false_iff.2 hc, Bool.false_or]
def counts (l : List Rs) : Nat := l.countP (fun x => x.f0)
theorem counts_cv (l : List Sg) : counts (l.map cv) = l.countP (fun x => x.f0) := by
  unfold counts
  rw [List.countP_map]
  rfl
theorem many_l2 (slash : Bool) (ps : List ByteArray) (i : Nat) (sg : List Rs) (v : List ByteArray × Bool × Bool) (hl : sg.length ≤ 9000000000000000) (tot : Nat)
    (hv : Ev (fun k => twineref3_pattern.l1 k slash ps ((tot : Nat) : Int) (wrap64 ((i : Int) + 1))) v) (ht : tot ≤ 9000000000000000000) (n : Nat) :
    ∀ j many, sg.length - j = n → j ≤ sg.length → many + counts (sg.drop j) = tot → Ev (fun k => twineref3_pattern.l2 k slash ps (many : Nat) (i : Nat) sg (j : Nat)) v := by
  induction n with
  | zero =>
    intro j many h h1 hb
    refine Ev.succ ?_
    simp only [twineref3_pattern.l2]
    refine Ev.neg (by omega) ?_
    rw [List.drop_eq_nil_of_le (by omega)] at hb
    simp only [counts, List.countP_nil, Nat.add_zero] at hb
    rw [hb]
    exact hv
  | succ n ih =>
    intro j many h h1 hb
    have hj : j < sg.length := by omega
    rw [List.drop_eq_getElem_cons hj] at hb
    have hr : rd_T148 sg (j : Int) = sg[j] := by
      unfold rd_T148
      rw [Int.toNat_natCast, List.getD_eq_getElem?_getD, List.getElem?_eq_getElem hj]
      rfl
    refine Ev.succ ?_
    simp only [twineref3_pattern.l2]
    rw [hr]
    have e2 : counts (sg[j] :: sg.drop (j + 1)) = counts (sg.drop (j + 1)) + (if sg[j].f0 = true then 1 else 0) := by
      unfold counts
      rw [List.countP_cons]
    rw [e2] at hb
    refine Ev.pos (by omega) (Ev.pos (by omega) (Ev.either (fun hc => ?_) (fun hc => ?_)))
    · rw [if_pos hc] at hb
      rw [wrap_up j (by omega), wrap_up many (by omega)]
      exact ih (j + 1) (many + 1) (by omega) (by omega) (by omega)
    · rw [if_neg hc] at hb
      rw [wrap_up j (by omega)]
      exact ih (j + 1) many (by omega) (by omega) (by omega)
/-- How many many-signs pieces have, if all of them can be read. -/
theorem pieces_l1 (slash : Bool) (ps : List ByteArray) (hl : ps.length ≤ 100000000) (hs : ∀ x ∈ ps, x.size ≤ 1000000) (n : Nat) : ∀ i many, ps.length - i = n → i ≤ ps.length → many ≤ i * 1000000 →
    Ev (fun k => twineref3_pattern.l1 k slash ps (many : Nat) (i : Nat)) (match partsL (ps.drop i) with | none => ([], false, false) | some r => (ps, slash, decide (many + r.2 ≤ 8))) := by
  induction n with
  | zero =>
    intro i many h h1 hm
    refine Ev.succ ?_
    simp only [twineref3_pattern.l1]
    refine Ev.neg (by omega) (Ev.ret ?_)
    rw [List.drop_eq_nil_of_le (by omega)]
    simp only [partsL, Nat.add_zero]
    congr 2
    exact decide_eq_decide.2 (by omega)
  | succ n ih =>
    intro i many h h1 hm
    have hi : i < ps.length := by omega
    have hsz := hs _ (List.getElem_mem hi)
    have hbad : ¬ ((signsR ps[i]).2 = true ∧ ¬ ps[i].size = 0) → Ev (fun k => twineref3_pattern.j4 k slash ps (many : Nat) (i : Nat) (signsR ps[i]).1 true) (match partsL (ps.drop i) with | none => ([], false, false) | some r => (ps, slash, decide (many + r.2 ≤ 8))) := by
      intro hc
      rw [signsR_good] at hc
      refine Ev.succ ?_
      simp only [twineref3_pattern.j4]
      refine Ev.pos (by trivial) (Ev.ret ?_)
      rw [List.drop_eq_getElem_cons hi, partsL, if_neg hc]
    refine Ev.succ ?_
    simp only [twineref3_pattern.l1]
    rw [rd_at ps i hi]
    refine Ev.pos (by omega) (Ev.pos (by omega) (Ev.bind (signs_ev _ (by omega)) (Ev.either (fun hc => ?_) (fun hc => hbad (fun h => hc h.1)))))
    by_cases h0 : ps[i].size = 0
    · have e : ((ps[i].size : Int) == 0) = true := beq_iff_eq.2 (by omega)
      rw [e]
      exact hbad (fun h => h.2 h0)
    · have e : ((ps[i].size : Int) == 0) = false := beq_eq_false_iff_ne.2 (by omega)
      rw [e]
      have hg := (signsR_good ps[i]).1 ⟨hc, h0⟩
      have hlen := signsOut_length ps[i]
      refine Ev.succ ?_
      simp only [twineref3_pattern.j4]
      refine Ev.neg (by simp) ?_
      rw [signsR_out _ hg]
      have hcnt : counts ((signsOut ps[i]).1.map cv) ≤ 1000000 := by
        have : counts ((signsOut ps[i]).1.map cv) ≤ ((signsOut ps[i]).1.map cv).length := List.countP_le_length
        rw [List.length_map] at this
        omega
      refine many_l2 slash ps i _ _ (by rw [List.length_map]; omega) (many + counts ((signsOut ps[i]).1.map cv)) ?_ (by omega) _ 0 many rfl (by omega) (by simp)
      rw [wrap_up i (by omega)]
      refine (ih (i + 1) _ (by omega) (by omega) (by omega)).as ?_
      rw [List.drop_eq_getElem_cons hi, partsL, if_pos hg]
      cases partsL (ps.drop (i + 1)) with
      | none => rfl
      | some r =>
        simp only [Option.map_some, counts_cv]
        rw [Nat.add_assoc]
/-- What pattern answers. -/
def patternR (s : ByteArray) : List ByteArray × Bool × Bool :=
  if s.size < 1 ∨ 255 < s.size then ([], false, false)
  else if pieces (trimS s) = [] then ([], false, false)
  else match partsL (pieces (trimS s)) with
    | none => ([], false, false)
    | some r => (pieces (trimS s), s.data.toList.contains 47, decide (r.2 ≤ 8))
theorem pattern_ev (s : ByteArray) : Ev (fun k => twineref3_pattern.f k s) (patternR s) := by
  have hbad : (s.size < 1 ∨ 255 < s.size) → Ev (fun k => twineref3_pattern.j0 k s true) (patternR s) := by
    intro h
    refine Ev.succ ?_
    simp only [twineref3_pattern.j0]
    refine Ev.pos (by trivial) (Ev.ret ?_)
    rw [patternR, if_pos h]
  unfold twineref3_pattern.f
  refine Ev.either (fun h => hbad (.inl (by omega))) (fun h1 => ?_)
  by_cases h2 : (s.size : Int) > 255
  · rw [decide_eq_true h2]
    exact hbad (.inr (by omega))
  rw [decide_eq_false h2]
  refine Ev.succ ?_
  simp only [twineref3_pattern.j0]
  refine Ev.neg (by simp) ?_
  have hd : s.data.toList = s.get! 0 :: s.data.toList.drop 1 := by
    have := drop_get s 0 (by omega)
    rwa [List.drop_zero] at this
  have main : ∀ t : ByteArray, trimS s = t → t.size ≤ s.size → Ev (fun k => twineref3_pattern.j2 k t (s.data.toList.contains 47)) (patternR s) := by
    intro t ht hsz
    refine Ev.succ ?_
    simp only [twineref3_pattern.j2]
    refine Ev.bind (pieces_ev t (by omega)) ?_
    have hfew := pieces_few t 255 (by omega)
    rw [patternR, if_neg (by omega), ht]
    refine Ev.either (fun hc => Ev.ret ?_) (fun hc => ?_)
    · rw [if_pos (List.length_eq_zero_iff.1 (by omega))]
    · rw [if_neg (fun e => hc (by rw [e]; rfl))]
      refine (pieces_l1 _ (pieces t) (by omega) (fun x hx => by have := pieces_size t x hx; omega) _ 0 0 rfl (by omega) (by omega)).as ?_
      rw [List.drop_zero]
      cases partsL (pieces t) with
      | none => rfl
      | some r => simp
  refine slash_l0 s (by omega) _ ?_ s.size 0 false (by omega) (by omega) (by simp)
  have hb := bt_eq s 0 (by omega) 47
  refine Ev.pos (by omega) (Ev.either (fun hc => Ev.pos (by omega) ?_) (fun hc => ?_))
  · have e : s.get! 0 = 47 := hb.1 hc
    have ht : trimS s = s.extract 1 s.size := by
      unfold trimS
      rw [if_pos]
      rw [hd, e]
      rfl
    exact main _ ht (by rw [← ht]; exact trim_size s)
  · have e : s.get! 0 ≠ 47 := fun e => hc (hb.2 e)
    refine main s ?_ (Nat.le_refl _)
    unfold trimS
    rw [if_neg]
    rw [hd]
    simpa using e
theorem rsplit_l0 (ps : List ByteArray) (hl : ps.length ≤ 9000000000000000000) (hs : ∀ x ∈ ps, x.size ≤ 9000000000000000000) (n : Nat) : ∀ i, ps.length - i = n → i ≤ ps.length →
    Ev (fun k => twineref3_Split.l0 k ps (i : Nat)) (if (ps.drop i).all nameB = true then (ps, 0) else ([], 30)) := by
  induction n with
  | zero =>
    intro i h h1
    refine Ev.succ ?_
    simp only [twineref3_Split.l0]
    refine Ev.neg (by omega) (Ev.ret ?_)
    rw [List.drop_eq_nil_of_le (by omega)]
    rfl
  | succ n ih =>
    intro i h h1
    have hi : i < ps.length := by omega
    refine Ev.succ ?_
    simp only [twineref3_Split.l0]
    rw [rd_at ps i hi, List.drop_eq_getElem_cons hi]
    refine Ev.pos (by omega) (Ev.pos (by omega) (Ev.bind (name_ev _ (hs _ (List.getElem_mem hi))) (Ev.either (fun hc => ?_) (fun hc => Ev.ret ?_))))
    · rw [wrap_up i (by omega)]
      refine (ih (i + 1) (by omega) (by omega)).as ?_
      rw [List.all_cons, hc, Bool.true_and]
    · rw [List.all_cons, Bool.eq_false_iff.2 hc, Bool.false_and, if_neg (by simp)]
theorem rsplit_ev (s : ByteArray) (hs : s.size ≤ 8796093022206) (most : Int) : Ev (fun k => twineref3_Split.f k s most) (splitB s most) := by
  have hj : ∀ m : Int, mx most 0 = m → Ev (fun k => twineref3_Split.j0 k s m) (splitB s most) := by
    intro m hm
    refine Ev.succ ?_
    simp only [twineref3_Split.j0]
    refine Ev.bind (pieces_ev s hs) ?_
    have hfew := pieces_few s _ hs
    rw [splitB, hm]
    refine Ev.either (fun hc => Ev.ret (by rw [if_pos hc])) (fun hc => ?_)
    rw [if_neg hc]
    exact rsplit_l0 (pieces s) (by omega) (fun x hx => by have := pieces_size s x hx; omega) _ 0 rfl (by omega)
  unfold twineref3_Split.f
  refine Ev.either (fun hc => hj 0 ?_) (fun hc => hj most ?_)
  · unfold mx; rw [if_pos hc]
  · unfold mx; rw [if_neg hc]
end Go.Proofs.Ytnnpjkpmankeiaa.Q
end
section
namespace Go.Proofs.Ytnnpjkpmankeiaa.Q
open Go.RowKit Go.Proofs.Ytnnpjkpmankeiaa.PL Go.Proofs.Ytnnpjkpmankeiaa.Hand Go.Proofs.Ytnnpjkpmankeiaa.MStr Go.Proofs.Ytnnpjkpmankeiaa.MPat Go.Proofs.YtnnpjkpmankeiaaW.PrintWords Go.Proofs.YtnnpjkpmankeiaaW.PrintLast
set_option linter.unusedVariables false
set_option linter.unusedSimpArgs false
theorem rd_set (x : List Bool) (i : Nat) (v : Bool) (j : Nat) (h : i < x.length) : rdOf false (x.set i v) (j : Int) = if j = i then v else rdOf false x (j : Int) := by
  unfold rdOf
  rw [Int.toNat_natCast, List.getD_eq_getElem?_getD, List.getD_eq_getElem?_getD, List.getElem?_set]
  by_cases e : i = j
  · subst e
    simp [h]
  · rw [if_neg e, if_neg (fun h => e h.symm)]
theorem rd_none (n j : Nat) : rdOf false (List.replicate n false) (j : Int) = false := by
  unfold rdOf
  rw [Int.toNat_natCast, List.getD_eq_getElem?_getD, List.getElem?_replicate]
  split <;> rfl
/-- A row of the table that is full from a place on. -/
def FullFrom (T : Nat → Bool) (of m : Nat) (x : List Bool) : Prop := x.length = of + 1 ∧ ∀ j, m ≤ j → j ≤ of → rdOf false x (j : Int) = T j
theorem FullFrom.set {T : Nat → Bool} {of m : Nat} {x : List Bool} (h : FullFrom T of (m + 1) x) (hm : m ≤ of) {v : Bool} (hv : v = T m) : FullFrom T of m (x.set m v) := by
  refine ⟨by rw [List.length_set]; exact h.1, fun j h1 h2 => ?_⟩
  rw [rd_set x m v j (by rw [h.1]; omega)]
  split
  · rename_i e
    rw [e, hv]
  · exact h.2 j (by omega) h2
theorem FullFrom.start {T : Nat → Bool} {of : Nat} {N : Nat} (hN : N = of + 1) : FullFrom T of (of + 1) (List.replicate N false) := ⟨by rw [List.length_replicate, hN], fun j h1 h2 => by omega⟩
theorem FullFrom.first {n of : Nat} {M : Nat → Bool} {O : Nat → Nat → Bool} {N : Nat} (hN : N = of + 1) : FullFrom (fun j => mt n of M O n j) of 0 ((List.replicate N false).set of true) := by
  refine ⟨by rw [List.length_set, List.length_replicate, hN], fun j h1 h2 => ?_⟩
  rw [rd_set _ of true j (by rw [List.length_replicate, hN]; omega), rd_none]
  show _ = mt n of M O n j
  rw [mt_end (by omega)]
  split
  · exact (decide_eq_true (by omega)).symm
  · exact (decide_eq_false (by omega)).symm
theorem rd_cv (l : List Sg) (i : Nat) (h : i < l.length) : rd_T148 (l.map cv) (i : Int) = cv (sgAt l i) := by
  unfold rd_T148 sgAt
  rw [Int.toNat_natCast, List.getD_eq_getElem?_getD, List.getD_eq_getElem?_getD, List.getElem?_map, List.getElem?_eq_getElem h]
  rfl
theorem fits_l1 (l : List Sg) (s : ByteArray) (hs : s.size ≤ 281474976710655) (hl : l.length ≤ 9000000000000000000) (i : Nat) (hi : i < l.length) (r : Bool) (x5 : List Bool)
    (h5 : FullFrom (mt l.length s.size (sgMany l) (sgOne l s) (i + 1)) s.size 0 x5)
    (hnext : ∀ x7, FullFrom (mt l.length s.size (sgMany l) (sgOne l s) i) s.size 0 x7 → Ev (fun k => twineref3_fits.l0 k (l.map cv) s x7 ((i : Int) - 1)) r) (m : Nat) :
    ∀ x7, m ≤ s.size + 1 → FullFrom (mt l.length s.size (sgMany l) (sgOne l s) i) s.size m x7 → Ev (fun k => twineref3_fits.l1 k (l.map cv) s x5 (i : Nat) x7 ((m : Int) - 1)) r := by
  induction m with
  | zero =>
    intro x7 hm h7
    refine Ev.succ ?_
    simp only [twineref3_fits.l1]
    refine Ev.neg (by omega) ?_
    rw [wrap_in (by omega) (by omega)]
    exact hnext x7 h7
  | succ m ih =>
    intro x7 hm h7
    have e1 : ((m + 1 : Nat) : Int) - 1 = (m : Int) := by omega
    have put : ∀ v, v = mt l.length s.size (sgMany l) (sgOne l s) i m → Ev (fun k => twineref3_fits.l1 k (l.map cv) s x5 (i : Nat) (x7.set m v) (wrap64 ((m : Int) - 1))) r := by
      intro v hv
      rw [wrap_down m (by omega)]
      exact ih _ (by omega) (h7.set (by omega) hv)
    have hl7 := h7.1
    have hl5 := h5.1
    rw [e1]
    refine Ev.succ ?_
    simp only [twineref3_fits.l1]
    rw [rd_cv l i hi, Int.toNat_natCast]
    have hf0 : (cv (sgAt l i)).f0 = sgMany l i := rfl
    rw [hf0]
    refine Ev.pos (by omega) (Ev.pos (by omega) (Ev.pos (by rw [List.length_map]; omega) (Ev.either (fun hM => ?_) (fun hM => ?_))))
    · have hmt := mt_many (n := l.length) (of := s.size) (O := sgOne l s) (k := m) hi hM
      have h5m := h5.2 m (by omega) (by omega)
      refine Ev.pos (by omega) (Ev.pos (by omega) (Ev.either (fun hc => Ev.pos (by omega) (put true ?_)) (fun hc => Ev.either (fun hd => ?_) (fun hd => Ev.pos (by omega) (put false ?_)))))
      · rw [hmt, ← h5m, hc]
        rfl
      · rw [wrap_up m (by omega)]
        have h7m := h7.2 (m + 1) (by omega) (by omega)
        refine Ev.pos (by omega) (Ev.pos (by omega) (Ev.pos (by omega) (put _ ?_)))
        rw [hmt, ← h5m, Bool.eq_false_iff.2 hc, if_pos (by omega), Bool.false_or, h7m]
      · rw [hmt, ← h5m, Bool.eq_false_iff.2 hc, if_neg (by omega)]
        rfl
    · have hM' : sgMany l i = false := Bool.eq_false_iff.2 hM
      have hmt := mt_one (n := l.length) (of := s.size) (O := sgOne l s) (k := m) hi hM'
      refine Ev.either (fun hd => ?_) (fun hd => ?_)
      · rw [if_pos (by omega)] at hmt
        rw [wrap_up m (by omega)]
        have h5m := h5.2 (m + 1) (by omega) (by omega)
        refine Ev.pos (by omega) (Ev.pos (by omega) (Ev.either (fun hc => Ev.either (fun hq => ?_) (fun hq => ?_)) (fun hc => Ev.pos (by omega) (Ev.pos (by omega) (put false ?_)))))
        · refine Ev.pos (by omega) (Ev.pos (by omega) (put true ?_))
          have hq' : (sgAt l i).f1 = true := hq
          rw [hmt, ← h5m, hc, sgOne, hq']
          rfl
        · refine Ev.pos (by omega) (Ev.pos (by omega) (put _ ?_))
          have hq' : (sgAt l i).f1 = false := Bool.eq_false_iff.2 hq
          rw [hmt, ← h5m, hc, sgOne, hq', Bool.false_or, Bool.and_true]
          rfl
        · rw [hmt, ← h5m, Bool.eq_false_iff.2 hc, Bool.and_false]
      · rw [if_neg (by omega)] at hmt
        exact Ev.pos (by omega) (Ev.pos (by omega) (put false hmt.symm))
theorem fits_l0 (l : List Sg) (s : ByteArray) (hs : s.size ≤ 281474976710655) (i : Nat) : ∀ x5, i ≤ l.length → (l.length ≤ 9000000000000000000) → FullFrom (mt l.length s.size (sgMany l) (sgOne l s) i) s.size 0 x5 →
    Ev (fun k => twineref3_fits.l0 k (l.map cv) s x5 ((i : Int) - 1)) (nameM l s) := by
  induction i with
  | zero =>
    intro x5 hi hl h5
    refine Ev.succ ?_
    simp only [twineref3_fits.l0]
    have hl5 := h5.1
    refine Ev.neg (by omega) (Ev.pos (by omega) (Ev.ret ?_))
    exact h5.2 0 (by omega) (by omega)
  | succ i ih =>
    intro x5 hi hl h5
    have e1 : ((i + 1 : Nat) : Int) - 1 = (i : Int) := by omega
    rw [e1]
    refine Ev.succ ?_
    simp only [twineref3_fits.l0]
    rw [wrap_up s.size (by omega), Int.toNat_natCast]
    refine Ev.pos (by omega) (Ev.pos (by omega) (Ev.pos (by omega) ?_))
    have h := fits_l1 l s hs hl i (by omega) (nameM l s) x5 h5 (fun x7 h7 => ih x7 (by omega) hl h7) (s.size + 1) _ (Nat.le_refl _) (FullFrom.start (N := s.size + 1) rfl)
    have e2 : ((s.size + 1 : Nat) : Int) - 1 = (s.size : Int) := by omega
    rw [e2] at h
    exact h
theorem fits_ev (l : List Sg) (s : ByteArray) (hs : s.size ≤ 281474976710655) (hl : l.length ≤ 9000000000000000000) : Ev (fun k => twineref3_fits.f k (l.map cv) s) (nameM l s) := by
  unfold twineref3_fits.f
  rw [wrap_up s.size (by omega), Int.toNat_natCast, Int.toNat_natCast]
  refine Ev.pos (by omega) (Ev.pos (by omega) (Ev.once rfl (Ev.pos (by omega) (Ev.pos (by rw [List.length_replicate]; omega) ?_))))
  rw [List.length_map, wrap_down _ (by omega)]
  exact fits_l0 l s hs l.length _ (Nat.le_refl _) hl (FullFrom.first (N := s.size + 1) rfl)
/-- What a piece of a pattern is to the program. -/
def ptOf (p : ByteArray) : Pt := ⟨p.toList == [42, 42], (signsOut p).1⟩
theorem partsL_some (ps : List ByteArray) : ∀ l n, partsL ps = some (l, n) → l = ps.map ptOf ∧ ∀ x ∈ ps, (signsOut x).2 = true := by
  induction ps with
  | nil =>
    intro l n h
    simp only [partsL, Option.some.injEq, Prod.mk.injEq] at h
    exact ⟨h.1.symm, fun x hx => by simp at hx⟩
  | cons p t ih =>
    intro l n h
    rw [partsL] at h
    split at h
    · rename_i hp
      rw [Option.map_eq_some_iff] at h
      obtain ⟨⟨l', n'⟩, h1, h2⟩ := h
      obtain ⟨rfl, h3⟩ := ih l' n' h1
      simp only [Prod.mk.injEq] at h2
      refine ⟨h2.1.symm, fun x hx => ?_⟩
      rcases List.mem_cons.1 hx with rfl | hx
      · exact hp
      · exact h3 x hx
    · cases h
theorem ptAt_map (ps : List ByteArray) (i : Nat) (h : i < ps.length) : ptAt (ps.map ptOf) i = ptOf ps[i] := by
  unfold ptAt
  rw [List.getD_eq_getElem?_getD, List.getElem?_map, List.getElem?_eq_getElem h]
  rfl
theorem txAt_get (l : List ByteArray) (i : Nat) (h : i < l.length) : txAt l i = l[i] := by
  unfold txAt
  rw [List.getD_eq_getElem?_getD, List.getElem?_eq_getElem h]
  rfl
section
variable (ps names : List ByteArray)
abbrev tabM (i j : Nat) : Bool := mt ps.length names.length (ptMany (ps.map ptOf)) (ptOne (ps.map ptOf) names) i j
variable {ps names}
theorem matches_l1 (hl : ps.length ≤ 1000000) (hn : names.length ≤ 1000000) (hz : ∀ x ∈ names, x.size ≤ 1000000) (hp : ∀ x ∈ ps, x.size ≤ 1000000) (i : Nat) (hi : i < ps.length) (hg : (signsOut ps[i]).2 = true) (r : Bool) (x5 : List Bool)
    (h5 : FullFrom (tabM ps names (i + 1)) names.length 0 x5)
    (hnext : ∀ x7, FullFrom (tabM ps names i) names.length 0 x7 → Ev (fun k => twineref3_matches.l0 k ps names x7 ((i : Int) - 1)) r) (m : Nat) :
    ∀ x7, m ≤ names.length + 1 → FullFrom (tabM ps names i) names.length m x7 → Ev (fun k => twineref3_matches.l1 k ps names x5 (i : Nat) x7 (signsR ps[i]).1 ((m : Int) - 1)) r := by
  induction m with
  | zero =>
    intro x7 hm h7
    refine Ev.succ ?_
    simp only [twineref3_matches.l1]
    refine Ev.neg (by omega) ?_
    rw [wrap_in (by omega) (by omega)]
    exact hnext x7 h7
  | succ m ih =>
    intro x7 hm h7
    have e1 : ((m + 1 : Nat) : Int) - 1 = (m : Int) := by omega
    have put : ∀ v, v = tabM ps names i m → Ev (fun k => twineref3_matches.l1 k ps names x5 (i : Nat) (x7.set m v) (signsR ps[i]).1 (wrap64 ((m : Int) - 1))) r := by
      intro v hv
      rw [wrap_down m (by omega)]
      exact ih _ (by omega) (h7.set (by omega) hv)
    have hl7 := h7.1
    have hl5 := h5.1
    have hi' : i < (ps.map ptOf).length := by rw [List.length_map]; exact hi
    have hM0 : ptMany (ps.map ptOf) i = (ps[i].toList == [42, 42]) := by rw [ptMany, ptAt_map ps i hi]; rfl
    rw [e1]
    refine Ev.succ ?_
    simp only [twineref3_matches.l1]
    rw [rd_at ps i hi, Int.toNat_natCast]
    refine Ev.pos (by omega) (Ev.pos (by omega) (Ev.pos (by omega) (Ev.either (fun hM => ?_) (fun hM => ?_))))
    · have hmt := mt_many (n := ps.length) (of := names.length) (O := ptOne (ps.map ptOf) names) (k := m) hi (hM0.trans (beq_iff_eq.2 hM))
      have h5m := h5.2 m (by omega) (by omega)
      refine Ev.pos (by omega) (Ev.pos (by omega) (Ev.either (fun hc => Ev.pos (by omega) (put true ?_)) (fun hc => Ev.either (fun hd => ?_) (fun hd => Ev.pos (by omega) (put false ?_)))))
      · rw [tabM, hmt, ← tabM, ← h5m, hc]
        rfl
      · rw [wrap_up m (by omega)]
        have h7m := h7.2 (m + 1) (by omega) (by omega)
        refine Ev.pos (by omega) (Ev.pos (by omega) (Ev.pos (by omega) (put _ ?_)))
        rw [tabM, hmt, ← tabM, ← h5m, Bool.eq_false_iff.2 hc, if_pos (by omega), Bool.false_or, h7m]
      · rw [tabM, hmt, ← tabM, ← h5m, Bool.eq_false_iff.2 hc, if_neg (by omega)]
        rfl
    · have hmt := mt_one (n := ps.length) (of := names.length) (O := ptOne (ps.map ptOf) names) (k := m) hi (hM0.trans (beq_eq_false_iff_ne.2 hM))
      refine Ev.either (fun hd => ?_) (fun hd => ?_)
      · rw [if_pos (by omega)] at hmt
        rw [wrap_up m (by omega)]
        have h5m := h5.2 (m + 1) (by omega) (by omega)
        have hmn : m < names.length := by omega
        refine Ev.pos (by omega) (Ev.pos (by omega) (Ev.either (fun hc => Ev.pos (by omega) ?_) (fun hc => Ev.pos (by omega) (Ev.pos (by omega) (put false ?_)))))
        · rw [rd_at names m hmn, signsR_out _ hg]
          have hz' := hz _ (List.getElem_mem hmn)
          have hp' := hp _ (List.getElem_mem hi)
          have hsl := signsOut_length ps[i]
          refine Ev.bind (fits_ev _ _ (by omega) (by omega)) (Ev.pos (by omega) ?_)
          rw [← signsR_out _ hg]
          refine put _ ?_
          rw [tabM, hmt, ← tabM, ← h5m, hc, ptOne, ptAt_map ps i hi, txAt_get names m hmn, Bool.and_true]
          rfl
        · rw [tabM, hmt, ← tabM, ← h5m, Bool.eq_false_iff.2 hc, Bool.and_false]
      · rw [if_neg (by omega)] at hmt
        exact Ev.pos (by omega) (Ev.pos (by omega) (put false hmt.symm))
theorem matches_l0 (hn : names.length ≤ 1000000) (hz : ∀ x ∈ names, x.size ≤ 1000000) (hp : ∀ x ∈ ps, x.size ≤ 1000000) (hl : ps.length ≤ 1000000) (hg : ∀ x ∈ ps, (signsOut x).2 = true) (i : Nat) :
    ∀ x5, i ≤ ps.length → FullFrom (tabM ps names i) names.length 0 x5 → Ev (fun k => twineref3_matches.l0 k ps names x5 ((i : Int) - 1)) (tabM ps names 0 0) := by
  induction i with
  | zero =>
    intro x5 hi h5
    refine Ev.succ ?_
    simp only [twineref3_matches.l0]
    have hl5 := h5.1
    refine Ev.neg (by omega) (Ev.pos (by omega) (Ev.ret ?_))
    exact h5.2 0 (by omega) (by omega)
  | succ i ih =>
    intro x5 hi h5
    have e1 : ((i + 1 : Nat) : Int) - 1 = (i : Int) := by omega
    have hi' : i < ps.length := by omega
    have hp' := hp _ (List.getElem_mem hi')
    rw [e1]
    refine Ev.succ ?_
    simp only [twineref3_matches.l0]
    rw [wrap_up names.length (by omega), Int.toNat_natCast, rd_at ps i hi']
    refine Ev.pos (by omega) (Ev.pos (by omega) (Ev.pos (by omega) (Ev.pos (by omega) (Ev.pos (by omega) (Ev.bind (signs_ev _ (by omega)) ?_)))))
    have h := matches_l1 hl hn hz hp i hi' (hg _ (List.getElem_mem hi')) (tabM ps names 0 0) x5 h5 (fun x7 h7 => ih x7 (by omega) h7) (names.length + 1) _ (Nat.le_refl _) (FullFrom.start (N := names.length + 1) rfl)
    have e2 : ((names.length + 1 : Nat) : Int) - 1 = (names.length : Int) := by omega
    rw [e2] at h
    exact h
theorem matches_ev (hn : names.length ≤ 1000000) (hz : ∀ x ∈ names, x.size ≤ 1000000) (hp : ∀ x ∈ ps, x.size ≤ 1000000) (hl : ps.length ≤ 1000000) (hg : ∀ x ∈ ps, (signsOut x).2 = true) :
    Ev (fun k => twineref3_matches.f k ps names) (partsM (ps.map ptOf) names) := by
  have e : partsM (ps.map ptOf) names = tabM ps names 0 0 := by rw [partsM, List.length_map]
  rw [e]
  unfold twineref3_matches.f
  rw [wrap_up names.length (by omega), Int.toNat_natCast, Int.toNat_natCast]
  refine Ev.pos (by omega) (Ev.pos (by omega) (Ev.once rfl (Ev.pos (by omega) (Ev.pos (by rw [List.length_replicate]; omega) ?_))))
  rw [wrap_down _ (by omega)]
  exact matches_l0 hn hz hp hl hg ps.length _ (Nat.le_refl _) (FullFrom.first (N := names.length + 1) rfl)
end
theorem rmatch_ev (a b : ByteArray) (hb : b.size ≤ 100000) : Ev (fun k => twineref3_Match.f k a b) (matchB a b) := by
  unfold twineref3_Match.f
  refine Ev.bind (pattern_ev a) ?_
  -- what the two readers tell of one another
  have hok : (patternR a).2.2 = (readB a).2.2 := by
    unfold patternR readB
    split
    · rfl
    · split
      · rfl
      · cases partsL (pieces (trimS a)) with
        | none => rfl
        | some r => rfl
  refine Ev.either (fun h1 => ?_) (fun h1 => Ev.ret (by rw [matchB, ← hok, Bool.eq_false_iff.2 h1, if_pos rfl]))
  have hgood : ∃ n, partsL (pieces (trimS a)) = some ((readB a).1, n) ∧ (patternR a).1 = pieces (trimS a) ∧ (patternR a).2.1 = (readB a).2.1 ∧ a.size ≤ 255 := by
    unfold patternR at h1 ⊢
    unfold readB
    split at h1
    · cases h1
    · rename_i hs
      rw [if_neg hs, if_neg hs]
      split at h1
      · cases h1
      · rename_i hp
        rw [if_neg hp, if_neg hp]
        cases h : partsL (pieces (trimS a)) with
        | none => rw [h] at h1; cases h1
        | some r => exact ⟨r.2, rfl, rfl, by rw [Lib.contains_iff_indexByte], by omega⟩
  obtain ⟨n, hg1, hg2, hg3, hsz⟩ := hgood
  obtain ⟨hl, hgs⟩ := partsL_some _ _ _ hg1
  have htr := trim_size a
  have hm : matchB a b = if (splitB b 64).2 ≠ 0 then (false, (splitB b 64).2)
      else if (splitB b 64).1 = [] then (false, 0)
      else if (readB a).2.1 = false then (partsM (readB a).1 ((splitB b 64).1.drop ((splitB b 64).1.length - 1)), 0)
      else (partsM (readB a).1 (splitB b 64).1, 0) := by
    rw [matchB, if_neg]
    rw [← hok, h1]
    simp
  rw [hm]
  have hmem : ∀ x ∈ (splitB b 64).1, x.size ≤ 100000 := by
    intro x hx
    unfold splitB at hx
    split at hx
    · simp at hx
    · split at hx
      · have := pieces_size b x hx
        omega
      · simp at hx
  have hlen : (splitB b 64).1.length ≤ 64 := by
    unfold splitB
    split
    · simp
    · rename_i hc
      have e : mx 64 0 = 64 := by decide
      rw [e] at hc
      split
      · show (pieces b).length ≤ 64
        omega
      · simp
  have hfew := pieces_few (trimS a) 255 (by omega)
  have hM : ∀ names : List ByteArray, names.length ≤ 64 → (∀ x ∈ names, x.size ≤ 100000) → Ev (fun k => twineref3_matches.f k (patternR a).1 names) (partsM (readB a).1 names) := by
    intro names h1 h2
    rw [hg2, hl]
    exact matches_ev (by omega) (fun x hx => by have := h2 x hx; omega) (fun x hx => by have := pieces_size _ x hx; omega) (by omega) hgs
  refine Ev.bind (rsplit_ev b (by omega) 64) (Ev.either (fun h2 => ?_) (fun h2 => Ev.ret (by rw [if_pos h2])))
  rw [if_neg (by simpa using h2)]
  refine Ev.either (fun h3 => Ev.ret ?_) (fun h3 => ?_)
  · rw [if_pos (List.length_eq_zero_iff.1 (by omega))]
  rw [if_neg (fun e => h3 (by rw [e]; rfl)), hg3]
  refine Ev.either (fun h4 => ?_) (fun h4 => ?_)
  · rw [if_neg (by rw [h4]; simp)]
    exact Ev.bind (hM _ hlen hmem) (Ev.ret rfl)
  · rw [if_pos (Bool.eq_false_iff.2 h4)]
    have e1 : wrap64 (((splitB b 64).1.length : Int) - 1) = (((splitB b 64).1.length - 1 : Nat) : Int) := by
      rw [wrap_down _ (by omega)]
      omega
    rw [e1, Int.toNat_natCast]
    refine Ev.pos (by omega) (Ev.pos (by omega) (Ev.bind (hM _ ?_ ?_) (Ev.ret rfl)))
    · rw [List.length_drop]
      omega
    · exact fun x hx => hmem x (List.mem_of_mem_drop hx)
theorem pathMatches_ev : twinelaw3_PathMatches.Pure := by
  intro a b hA hB
  apply Ev.rounds
  have hj : Ev (fun k => twinelaw3_PathMatches.j0 k a b true) true := by
    refine Ev.succ ?_
    simp only [twinelaw3_PathMatches.j0]
    exact Ev.pos (by trivial) (Ev.ret rfl)
  unfold twinelaw3_PathMatches.f
  refine Ev.either (fun h => hj) (fun h1 => ?_)
  by_cases h2 : (b.size : Int) > 20000
  · rw [decide_eq_true h2]
    exact hj
  rw [decide_eq_false h2]
  refine Ev.succ ?_
  simp only [twinelaw3_PathMatches.j0]
  refine Ev.neg (by simp) (Ev.once (v := matchB a b) (if_pos (by omega)) (Ev.bind (rmatch_ev a b (by omega)) (Ev.pos (beq_self_eq_true _) (Ev.once rfl (Ev.ret ?_)))))
  exact beq_self_eq_true _
end Go.Proofs.Ytnnpjkpmankeiaa.Q
end
section
namespace Go.Proofs.Ytnnpjkpmankeiaa.Pure
open Go.Proofs.Ytnnpjkpmankeiaa.PL
theorem PathMatches : twinelaw3_PathMatches.Pure := Q.pathMatches_ev
end Go.Proofs.Ytnnpjkpmankeiaa.Pure
end
