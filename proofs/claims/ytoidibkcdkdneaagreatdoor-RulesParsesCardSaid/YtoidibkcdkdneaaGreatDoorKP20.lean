/- Text 21 of 26 texts that prove the statement of RowParses; it holds without conditions beyond the statement's own. -/
import Derived.Laws.OwnMore
import Derived.Maps.AppendAt
import Derived.Tactics
import Derived.Laws.StructEq
import Derived.Deep.LoopGhost
import GoSem.Core.Utf8
import Derived.Laws.RangeAny
import Derived.Below
import Derived.Deep.Draws
import Derived.Deep.AppendLies
import Derived.OwnWalk
import Derived.Laws.BytesArg
import Derived.Laws.MakeOwn
import Derived.Deep.OwnRows
import Derived.Lib.ConvBytes
import Derived.Laws.Slices
import Derived.WalkKit
import Derived.KernelRfl
import Derived.RowKit3
import Derived.Deep.QuietTactic
import Derived.BigQuiet
import Derived.WideLaws
import Derived.Deep.DeepCutAuto
import Derived.Deep.CutBlock
import Derived.Deep.RegionHeld3
import Derived.Laws.Rows
import Derived.Lib.AppendStr
import Derived.ArgAppend
import Derived.Laws.IdiomCopy
import Derived.RowKit
import Derived.OrdersHeld
import Derived.Laws.BitsLemmas
import Derived.Test.YtoidibkcdkdneaaGreatDoorProg
import Derived.Lib.OthersKept
import Derived.WalkSmall
import Derived.Shelf.Strings.Builder1
import Derived.Shelf.Strings.Builder2
import Derived.Shelf.Strings.OnBuilder
import Derived.Shelf.Small.Wraps
import Derived.Shelf.Strings.Search1
import Derived.Shelf.Strings.Search2
import Derived.Shelf.Strings.Search3
import Derived.Shelf.Strings.Count
import Derived.Shelf.LaysM
import Derived.Shelf.Strings.Shaped
import Derived.Shelf.Strings.Prefix
import Derived.Shelf.Strings.Split
import Derived.Shelf.Unicode.DecodeSlow
import Derived.WalkLawsBesides
import Derived.StillTailTactics
import Derived.Lib.Split
import Derived.Lib.LastIndexByte
import Derived.Lib.Join
import Derived.Test.YtoidibkcdkdneaaGreatDoorKP19
namespace Foot
end Foot
namespace Go.Proofs
end Go.Proofs
namespace Go.Proofs.YtoidibkcdkdneaaGreatDoor
end Go.Proofs.YtoidibkcdkdneaaGreatDoor
namespace Go.Proofs.YtoidibkcdkdneaaGreatDoor.E
end Go.Proofs.YtoidibkcdkdneaaGreatDoor.E
namespace Go.Proofs.YtoidibkcdkdneaaGreatDoor.Hand
end Go.Proofs.YtoidibkcdkdneaaGreatDoor.Hand
namespace Go.Proofs.YtoidibkcdkdneaaGreatDoor.MPat
end Go.Proofs.YtoidibkcdkdneaaGreatDoor.MPat
namespace Go.Proofs.YtoidibkcdkdneaaGreatDoor.MStr
end Go.Proofs.YtoidibkcdkdneaaGreatDoor.MStr
namespace Go.Proofs.YtoidibkcdkdneaaGreatDoor.PRead
end Go.Proofs.YtoidibkcdkdneaaGreatDoor.PRead
namespace Go.Proofs.YtoidibkcdkdneaaGreatDoor.PSplit
end Go.Proofs.YtoidibkcdkdneaaGreatDoor.PSplit
namespace Go.Proofs.YtoidibkcdkdneaaGreatDoor.R
end Go.Proofs.YtoidibkcdkdneaaGreatDoor.R
namespace Go.Proofs.YtoidibkcdkdneaaGreatDoor.T
end Go.Proofs.YtoidibkcdkdneaaGreatDoor.T
namespace Go.Proofs.YtoidibkcdkdneaaGreatDoor.TR
end Go.Proofs.YtoidibkcdkdneaaGreatDoor.TR
namespace Go.Proofs.YtoidibkcdkdneaaGreatDoor.TrulesParses
end Go.Proofs.YtoidibkcdkdneaaGreatDoor.TrulesParses
namespace Go.Proofs.YtoidibkcdkdneaaGreatDoorW.PrintLast
end Go.Proofs.YtoidibkcdkdneaaGreatDoorW.PrintLast
namespace Go.Proofs.YtoidibkcdkdneaaGreatDoorW.PrintMore
end Go.Proofs.YtoidibkcdkdneaaGreatDoorW.PrintMore
namespace Go.Proofs.YtoidibkcdkdneaaGreatDoorW.PrintWords
end Go.Proofs.YtoidibkcdkdneaaGreatDoorW.PrintWords
namespace Kd
end Kd
section
namespace Go.Proofs.YtoidibkcdkdneaaGreatDoor.R
open Go.Proofs.YtoidibkcdkdneaaGreatDoor.MStr Go.Proofs.YtoidibkcdkdneaaGreatDoor.Hand
set_option linter.unusedVariables false
set_option linter.unusedSimpArgs false
abbrev Rl := Int × ByteArray
/-- What stands between a list's 10s. -/
def cutsN : List UInt8 → List (List UInt8)
  | [] => [[]]
  | c :: t => if c = 10 then [] :: cutsN t else match cutsN t with
    | [] => [[c]]
    | p :: ps => (c :: p) :: ps
theorem cutsN_ne (l : List UInt8) : cutsN l ≠ [] := by
  cases l with
  | nil => simp [cutsN]
  | cons c t =>
    unfold cutsN
    split
    · simp
    · split <;> simp
theorem cutsN_none (l : List UInt8) (h : ∀ c ∈ l, c ≠ 10) : cutsN l = [l] := by
  induction l with
  | nil => rfl
  | cons c t ih =>
    have hc : c ≠ 10 := h c (by simp)
    rw [cutsN, if_neg hc, ih (fun x hx => h x (by simp [hx]))]
theorem cutsN_cut (a b : List UInt8) (h : ∀ c ∈ a, c ≠ 10) : cutsN (a ++ 10 :: b) = a :: cutsN b := by
  induction a with
  | nil => simp [cutsN]
  | cons c t ih =>
    have hc : c ≠ 10 := h c (by simp)
    rw [List.cons_append, cutsN, if_neg hc, ih (fun x hx => h x (by simp [hx]))]
theorem cutsN_mem (l : List UInt8) : ∀ x ∈ cutsN l, ∀ c ∈ x, c ≠ 10 := by
  induction l with
  | nil => intro x hx c hc; simp [cutsN] at hx; subst hx; simp at hc
  | cons a t ih =>
    intro x hx c hc
    rw [cutsN] at hx
    split at hx
    · rcases List.mem_cons.1 hx with rfl | hx
      · simp at hc
      · exact ih x hx c hc
    · rename_i ha
      cases hq : cutsN t with
      | nil => exact absurd hq (cutsN_ne t)
      | cons p ps =>
        rw [hq] at hx ih
        rcases List.mem_cons.1 hx with rfl | hx
        · rcases List.mem_cons.1 hc with rfl | hc
          · exact ha
          · exact ih p (by simp) c hc
        · exact ih x (by simp [hx]) c hc
theorem cutsN_sum (l : List UInt8) : ((cutsN l).map fun x => x.length + 1).sum = l.length + 1 := by
  induction l with
  | nil => simp [cutsN]
  | cons c t ih =>
    rw [cutsN]
    split
    · simp; omega
    · cases hc : cutsN t with
      | nil => exact absurd hc (cutsN_ne t)
      | cons p ps =>
        rw [hc] at ih
        simp at ih ⊢
        omega
def nl : ByteArray := ⟨#[10]⟩
/-- The lines of a text. -/
def linesB (s : ByteArray) : List ByteArray := (cutsN s.data.toList).map tx
theorem occ_one (s : List UInt8) (j : Nat) (h : Lib.occAt s [10] j = true) : s[j]? = some 10 := Lib.occAt_head rfl h
theorem one_occ (s : List UInt8) (j : Nat) (h : s[j]? = some 10) : Lib.occAt s [10] j = true := by
  have hj : j < s.length := (List.getElem?_eq_some_iff.1 h).1
  rw [Lib.occAt_iff_take s [10] j (by show j + 1 ≤ s.length; omega)]
  have e : s.drop j = 10 :: s.drop (j + 1) := by
    rw [List.drop_eq_getElem_cons hj]
    have := (List.getElem?_eq_some_iff.1 h).2
    rw [this]
  rw [e]
  simp
theorem splitK_lines (n : Nat) : ∀ s : List UInt8, s.length ≤ n → Lib.splitK [10] 0 (Lib.count s [10]) s = cutsN s := by
  induction n with
  | zero =>
    intro s hs
    have : s = [] := List.eq_nil_of_length_eq_zero (by omega)
    subst this
    have h : Lib.index [] [10] = -1 := Lib.index_none fun j hj => by
      cases ho : Lib.occAt [] [10] j with
      | false => rfl
      | true => have := occ_one _ _ ho; simp at this
    rw [Lib.count_miss h]
    rfl
  | succ n ih =>
    intro s hs
    rcases Lib.index_spec s [10] with ⟨h1, h2⟩ | ⟨i, h1, h2, h3, h4⟩
    · rw [Lib.count_miss h1, cutsN_none]
      · rfl
      · intro c hc e
        subst e
        obtain ⟨j, hj⟩ := List.getElem?_of_mem hc
        have := h2 j (by have := (List.getElem?_eq_some_iff.1 hj).1; omega)
        rw [one_occ s j hj] at this
        cases this
    · have hi := occ_one _ _ h3
      have hil := (List.getElem?_eq_some_iff.1 hi).1
      have hno : ∀ c ∈ s.take i, c ≠ 10 := by
        intro c hc e
        subst e
        obtain ⟨j, hj⟩ := List.getElem?_of_mem hc
        have hjl := (List.getElem?_eq_some_iff.1 hj).1
        have hji : j < i := by rw [List.length_take] at hjl; omega
        rw [List.getElem?_take, if_pos hji] at hj
        have := h4 j hji
        rw [one_occ s j hj] at this
        cases this
      have he : s = s.take i ++ 10 :: s.drop (i + 1) := by
        conv => lhs; rw [← List.take_append_drop i s]
        congr 1
        rw [List.drop_eq_getElem_cons hil, (List.getElem?_eq_some_iff.1 hi).2]
      rw [Lib.count_hit (by simp) h1, Nat.add_comm, Lib.splitK, h1]
      rw [if_neg (fun h => by have := beq_iff_eq.1 h; omega)]
      have e1 : ((i : Int)).toNat + 0 = i := by omega
      have e2 : ((i : Int)).toNat + ([10] : List UInt8).length = i + 1 := by simp
      rw [e1, e2]
      have e3 : i + ([10] : List UInt8).length = i + 1 := by simp
      rw [e3, ih (s.drop (i + 1)) (by simp; omega)]
      conv => rhs; rw [he]
      rw [cutsN_cut _ _ hno]
theorem split_lines (s : ByteArray) : Lib.splitB nl 0 (Lib.countB s nl) s = linesB s := by
  have h := Lib.splitB_data nl 0 (Lib.countB s nl) s
  have e : Lib.splitK nl.data.toList 0 (Lib.countB s nl) s.data.toList = cutsN s.data.toList := splitK_lines _ s.data.toList (Nat.le_refl _)
  rw [e] at h
  have h2 : (Lib.splitB nl 0 (Lib.countB s nl) s).map (fun x => tx x.data.toList) = linesB s := by
    unfold linesB
    rw [← h, List.map_map]
    rfl
  rw [← h2]
  conv => lhs; rw [← List.map_id (Lib.splitB nl 0 (Lib.countB s nl) s)]
  apply List.map_congr_left
  intro x _
  exact (tx_data x).symm
theorem count_lines (s : ByteArray) : Lib.countB s nl + 1 = (linesB s).length := by
  rw [← split_lines, Lib.splitB_all nl (by decide) 0 _ s rfl]
/-- How a line of a kind begins. -/
def hd (w : Int) : List UInt8 := if w = 1 then [115, 107, 105, 112, 32] else if w = 2 then [112, 114, 101, 102, 101, 114, 32, 97, 32] else [112, 114, 101, 102, 101, 114, 32, 98, 32]
/-- The rule of a line. -/
def readL (s : ByteArray) : Option Rl :=
  if Lib.hasPrefix s.data.toList (hd 1) = true then some (1, tx (Lib.trimPrefix s.data.toList (hd 1)))
  else if Lib.hasPrefix s.data.toList (hd 2) = true then some (2, tx (Lib.trimPrefix s.data.toList (hd 2)))
  else if Lib.hasPrefix s.data.toList (hd 3) = true then some (3, tx (Lib.trimPrefix s.data.toList (hd 3)))
  else none
inductive PR where
  | bad (line e : Int)
  | good (l : List Rl)
/-- The error of a pattern by itself. -/
def patE (p : ByteArray) : Int := (matchB p ⟨#[]⟩).2
def parseL : Nat → List Rl → List ByteArray → PR
  | _, acc, [] => .good acc
  | i, acc, s :: t => if s.data.toList = [] ∨ s.data.toList.head? = some 35 then parseL (i + 1) acc t
    else match readL s with
      | none => .bad (i + 1) 112
      | some r => if acc.length = 64 then .bad (i + 1) 111 else if patE r.2 ≠ 0 then .bad (i + 1) 113 else parseL (i + 1) (acc ++ [r]) t
def parseB (s : ByteArray) : PR := if 4000 < s.size then .bad 0 110 else parseL 0 [] (linesB s)
/-- Rules as Parse tells them. -/
def Wf1 (r : Rl) : Prop := (r.1 = 1 ∨ r.1 = 2 ∨ r.1 = 3) ∧ (∀ c ∈ r.2.data.toList, c ≠ 10) ∧ patE r.2 = 0
def Wf (l : List Rl) : Prop := ∀ r ∈ l, Wf1 r
/-- A rule's line. -/
def lineL (r : Rl) : List UInt8 := hd r.1 ++ r.2.data.toList
def textB (l : List Rl) : ByteArray := tx (Lib.join (l.map lineL) [10])
def lsum (l : List Rl) : Nat := (l.map fun r => (lineL r).length + 1).sum
theorem pre_eq {s p : List UInt8} (h : Lib.hasPrefix s p = true) : s = p ++ Lib.trimPrefix s p := by
  unfold Lib.trimPrefix
  rw [if_pos h]
  unfold Lib.hasPrefix at h
  obtain ⟨t, rfl⟩ := List.isPrefixOf_iff_prefix.1 h
  simp
theorem readL_is {s : ByteArray} {r : Rl} (h : readL s = some r) : s.data.toList = lineL r ∧ (r.1 = 1 ∨ r.1 = 2 ∨ r.1 = 3) := by
  unfold readL at h
  split at h
  · rename_i hp
    injection h with h; subst h
    exact ⟨by show _ = hd 1 ++ (tx _).data.toList; rw [tx_list]; exact pre_eq hp, .inl rfl⟩
  · split at h
    · rename_i hp
      injection h with h; subst h
      exact ⟨by show _ = hd 2 ++ (tx _).data.toList; rw [tx_list]; exact pre_eq hp, .inr (.inl rfl)⟩
    · split at h
      · rename_i hp
        injection h with h; subst h
        exact ⟨by show _ = hd 3 ++ (tx _).data.toList; rw [tx_list]; exact pre_eq hp, .inr (.inr rfl)⟩
      · cases h
theorem parseL_good : ∀ (ls : List ByteArray) (i : Nat) (acc : List Rl) (l : List Rl), (∀ s ∈ ls, ∀ c ∈ s.data.toList, c ≠ 10) → parseL i acc ls = .good l → Wf acc → acc.length ≤ 64 →
    Wf l ∧ l.length ≤ 64 ∧ lsum l ≤ lsum acc + (ls.map fun s => s.size + 1).sum
  | [], i, acc, l, _, h, hw, h64 => by
    simp only [parseL, PR.good.injEq] at h
    subst h
    exact ⟨hw, h64, by simp⟩
  | s :: t, i, acc, l, hn, h, hw, h64 => by
    rw [parseL] at h
    have hn' : ∀ s ∈ t, ∀ c ∈ s.data.toList, c ≠ 10 := fun x hx => hn x (by simp [hx])
    have hsz : s.data.toList.length = s.size := by simp
    split at h
    · obtain ⟨h1, h2, h3⟩ := parseL_good t (i + 1) acc l hn' h hw h64
      exact ⟨h1, h2, by simp; omega⟩
    · split at h
      · cases h
      · rename_i r hr
        split at h
        · cases h
        · rename_i h64'
          split at h
          · cases h
          · rename_i hp
            obtain ⟨hl, hw1⟩ := readL_is hr
            have hp : patE r.2 = 0 := by
              by_cases e : patE r.2 = 0
              · exact e
              · exact absurd e hp
            have hwr : Wf1 r := ⟨hw1, fun c hc => hn s (by simp) c (by rw [hl]; unfold lineL; simp [hc]), hp⟩
            obtain ⟨h1, h2, h3⟩ := parseL_good t (i + 1) (acc ++ [r]) l hn' h (fun x hx => by
              rcases List.mem_append.1 hx with hx | hx
              · exact hw x hx
              · simp at hx; subst hx; exact hwr) (by simp; omega)
            refine ⟨h1, h2, ?_⟩
            have e : lsum (acc ++ [r]) = lsum acc + (s.size + 1) := by
              unfold lsum
              simp only [List.map_append, List.map_cons, List.map_nil, List.sum_append, List.sum_cons, List.sum_nil, ← hl, hsz]
              omega
            rw [e] at h3
            simp only [List.map_cons, List.sum_cons]
            omega
theorem linesB_no (s : ByteArray) : ∀ x ∈ linesB s, ∀ c ∈ x.data.toList, c ≠ 10 := by
  intro x hx c hc
  obtain ⟨y, hy, rfl⟩ := List.mem_map.1 hx
  rw [tx_list] at hc
  exact cutsN_mem _ y hy c hc
theorem linesB_sum (s : ByteArray) : ((linesB s).map fun x => x.size + 1).sum = s.size + 1 := by
  have h := cutsN_sum s.data.toList
  have e : s.data.toList.length = s.size := by simp
  rw [e] at h
  rw [← h]
  unfold linesB
  rw [List.map_map]
  rfl
theorem parse_good {s : ByteArray} {l : List Rl} (h : parseB s = .good l) : Wf l ∧ l.length ≤ 64 ∧ lsum l ≤ s.size + 1 ∧ s.size ≤ 4000 := by
  unfold parseB at h
  split at h
  · cases h
  · rename_i h4
    obtain ⟨h1, h2, h3⟩ := parseL_good (linesB s) 0 [] l (linesB_no s) h (fun r hr => by simp at hr) (by simp)
    refine ⟨h1, h2, ?_, by omega⟩
    rw [linesB_sum] at h3
    simpa [lsum] using h3
theorem join_cons (a : List UInt8) (x : List UInt8) (t : List (List UInt8)) : Lib.join (a :: x :: t) [10] = a ++ 10 :: Lib.join (x :: t) [10] := by
  simp [Lib.join, List.intercalate]
theorem join_len : ∀ (a : List UInt8) (t : List (List UInt8)), (Lib.join (a :: t) [10]).length + 1 = ((a :: t).map fun x => x.length + 1).sum
  | a, [] => by rw [Lib.join_one]; simp
  | a, x :: t => by
    rw [join_cons]
    have := join_len x t
    simp only [List.length_append, List.length_cons, List.map_cons, List.sum_cons] at this ⊢
    omega
theorem tx_size (l : List UInt8) : (tx l).size = l.length := by simp [tx, ByteArray.size]
theorem text_size (l : List Rl) : (textB l).size + 1 = max 1 (lsum l) := by
  unfold textB
  rw [tx_size]
  cases l with
  | nil => rfl
  | cons r t =>
    rw [List.map_cons, join_len]
    have e : ((lineL r :: t.map lineL).map fun x => x.length + 1).sum = lsum (r :: t) := by
      unfold lsum
      simp only [List.map_cons, List.map_map, Function.comp_def]
    rw [e]
    have : 1 ≤ lsum (r :: t) := by unfold lsum; simp only [List.map_cons, List.sum_cons]; omega
    omega
/-- Does a rule's pattern match a path? -/
def sp (r : Rl) (p : ByteArray) : Bool := (matchB r.2 p).1 && decide ((matchB r.2 p).2 = 0)
def mirW (w : Int) : Int := if w = 2 then 3 else if w = 3 then 2 else w
def mirR (r : Rl) : Rl := (mirW r.1, r.2)
def mirB (l : List Rl) : List Rl := l.map mirR
end Go.Proofs.YtoidibkcdkdneaaGreatDoor.R
end
section
namespace Go.Proofs.YtoidibkcdkdneaaGreatDoor.R
open Go.Proofs.YtoidibkcdkdneaaGreatDoor.MStr Go.Proofs.YtoidibkcdkdneaaGreatDoor.Hand
set_option linter.unusedVariables false
set_option linter.unusedSimpArgs false
theorem wf_mir {l : List Rl} (h : Wf l) : Wf (mirB l) := fun r hr => by
  obtain ⟨x, hx, rfl⟩ := List.mem_map.1 hr
  obtain ⟨h1, h2, h3⟩ := h x hx
  refine ⟨?_, h2, h3⟩
  show mirW x.1 = 1 ∨ mirW x.1 = 2 ∨ mirW x.1 = 3
  unfold mirW
  rcases h1 with h1 | h1 | h1 <;> rw [h1] <;> decide
end Go.Proofs.YtoidibkcdkdneaaGreatDoor.R
end
