/- Text 21 of 27 texts that prove the statement of RowSays; it holds without conditions beyond the statement's own. -/
import Derived.Laws.OwnMore
import Derived.Maps.AppendAt
import Derived.Tactics
import Derived.Laws.StructEq
import Derived.Deep.LoopGhost
import GoSem.Core.Utf8
import Derived.Laws.RangeAny
import Derived.Below
import Derived.Deep.Draws
import Derived.Deep.AppendLies
import Derived.OwnWalk
import Derived.Laws.BytesArg
import Derived.Laws.MakeOwn
import Derived.Deep.OwnRows
import Derived.Lib.ConvBytes
import Derived.Laws.Slices
import Derived.WalkKit
import Derived.KernelRfl
import Derived.RowKit3
import Derived.Deep.QuietTactic
import Derived.BigQuiet
import Derived.WideLaws
import Derived.Deep.DeepCutAuto
import Derived.Deep.CutBlock
import Derived.Deep.RegionHeld3
import Derived.Laws.Rows
import Derived.Lib.AppendStr
import Derived.ArgAppend
import Derived.Laws.IdiomCopy
import Derived.RowKit
import Derived.OrdersHeld
import Derived.Laws.BitsLemmas
import Derived.Test.YtoidibkcdkdneaaDoorProg
import Derived.Lib.OthersKept
import Derived.WalkSmall
import Derived.Shelf.Strings.Builder1
import Derived.Shelf.Strings.Builder2
import Derived.Shelf.Strings.OnBuilder
import Derived.Shelf.Small.Wraps
import Derived.Shelf.Strings.Search1
import Derived.Shelf.Strings.Search2
import Derived.Shelf.Strings.Search3
import Derived.Shelf.Strings.Count
import Derived.Shelf.LaysM
import Derived.Shelf.Strings.Shaped
import Derived.Shelf.Strings.LastIndex
import Derived.Shelf.Strings.Prefix
import Derived.Shelf.Strings.Split
import Derived.Shelf.Unicode.DecodeSlow
import Derived.WalkLawsBesides
import Derived.StillTailTactics
import Derived.Lib.Split
import Derived.Lib.LastIndexByte
import Derived.Lib.Join
import Derived.Test.YtoidibkcdkdneaaDoorKS19
namespace Foot
end Foot
namespace Go.Proofs
end Go.Proofs
namespace Go.Proofs.YtoidibkcdkdneaaDoor
end Go.Proofs.YtoidibkcdkdneaaDoor
namespace Go.Proofs.YtoidibkcdkdneaaDoor.E
end Go.Proofs.YtoidibkcdkdneaaDoor.E
namespace Go.Proofs.YtoidibkcdkdneaaDoor.Hand
end Go.Proofs.YtoidibkcdkdneaaDoor.Hand
namespace Go.Proofs.YtoidibkcdkdneaaDoor.MPat
end Go.Proofs.YtoidibkcdkdneaaDoor.MPat
namespace Go.Proofs.YtoidibkcdkdneaaDoor.MStr
end Go.Proofs.YtoidibkcdkdneaaDoor.MStr
namespace Go.Proofs.YtoidibkcdkdneaaDoor.PRead
end Go.Proofs.YtoidibkcdkdneaaDoor.PRead
namespace Go.Proofs.YtoidibkcdkdneaaDoor.PSplit
end Go.Proofs.YtoidibkcdkdneaaDoor.PSplit
namespace Go.Proofs.YtoidibkcdkdneaaDoor.R
end Go.Proofs.YtoidibkcdkdneaaDoor.R
namespace Go.Proofs.YtoidibkcdkdneaaDoor.T
end Go.Proofs.YtoidibkcdkdneaaDoor.T
namespace Go.Proofs.YtoidibkcdkdneaaDoor.TR
end Go.Proofs.YtoidibkcdkdneaaDoor.TR
namespace Go.Proofs.YtoidibkcdkdneaaDoor.TrulesSays
end Go.Proofs.YtoidibkcdkdneaaDoor.TrulesSays
namespace Go.Proofs.YtoidibkcdkdneaaDoorW.PrintLast
end Go.Proofs.YtoidibkcdkdneaaDoorW.PrintLast
namespace Go.Proofs.YtoidibkcdkdneaaDoorW.PrintMore
end Go.Proofs.YtoidibkcdkdneaaDoorW.PrintMore
namespace Go.Proofs.YtoidibkcdkdneaaDoorW.PrintWords
end Go.Proofs.YtoidibkcdkdneaaDoorW.PrintWords
namespace Kd
end Kd
section
namespace Go.Proofs.YtoidibkcdkdneaaDoor.R
open Go.Proofs.YtoidibkcdkdneaaDoor.MStr Go.Proofs.YtoidibkcdkdneaaDoor.Hand
set_option linter.unusedVariables false
set_option linter.unusedSimpArgs false
abbrev Rl := Int × ByteArray
/-- What stands between a list's 10s. -/
def cutsN : List UInt8 → List (List UInt8)
  | [] => [[]]
  | c :: t => if c = 10 then [] :: cutsN t else match cutsN t with
    | [] => [[c]]
    | p :: ps => (c :: p) :: ps
theorem cutsN_ne (l : List UInt8) : cutsN l ≠ [] := by
  cases l with
  | nil => simp [cutsN]
  | cons c t =>
    unfold cutsN
    split
    · simp
    · split <;> simp
theorem cutsN_none (l : List UInt8) (h : ∀ c ∈ l, c ≠ 10) : cutsN l = [l] := by
  induction l with
  | nil => rfl
  | cons c t ih =>
    have hc : c ≠ 10 := h c (by simp)
    rw [cutsN, if_neg hc, ih (fun x hx => h x (by simp [hx]))]
theorem cutsN_cut (a b : List UInt8) (h : ∀ c ∈ a, c ≠ 10) : cutsN (a ++ 10 :: b) = a :: cutsN b := by
  induction a with
  | nil => simp [cutsN]
  | cons c t ih =>
    have hc : c ≠ 10 := h c (by simp)
    rw [List.cons_append, cutsN, if_neg hc, ih (fun x hx => h x (by simp [hx]))]
theorem cutsN_mem (l : List UInt8) : ∀ x ∈ cutsN l, ∀ c ∈ x, c ≠ 10 := by
  induction l with
  | nil => intro x hx c hc; simp [cutsN] at hx; subst hx; simp at hc
  | cons a t ih =>
    intro x hx c hc
    rw [cutsN] at hx
    split at hx
    · rcases List.mem_cons.1 hx with rfl | hx
      · simp at hc
      · exact ih x hx c hc
    · rename_i ha
      cases hq : cutsN t with
      | nil => exact absurd hq (cutsN_ne t)
      | cons p ps =>
        rw [hq] at hx ih
        rcases List.mem_cons.1 hx with rfl | hx
        · rcases List.mem_cons.1 hc with rfl | hc
          · exact ha
          · exact ih p (by simp) c hc
        · exact ih x (by simp [hx]) c hc
theorem cutsN_sum (l : List UInt8) : ((cutsN l).map fun x => x.length + 1).sum = l.length + 1 := by
  induction l with
  | nil => simp [cutsN]
  | cons c t ih =>
    rw [cutsN]
    split
    · simp; omega
    · cases hc : cutsN t with
      | nil => exact absurd hc (cutsN_ne t)
      | cons p ps =>
        rw [hc] at ih
        simp at ih ⊢
        omega
def nl : ByteArray := ⟨#[10]⟩
/-- The lines of a text. -/
def linesB (s : ByteArray) : List ByteArray := (cutsN s.data.toList).map tx
theorem occ_one (s : List UInt8) (j : Nat) (h : Lib.occAt s [10] j = true) : s[j]? = some 10 := Lib.occAt_head rfl h
theorem one_occ (s : List UInt8) (j : Nat) (h : s[j]? = some 10) : Lib.occAt s [10] j = true := by
  have hj : j < s.length := (List.getElem?_eq_some_iff.1 h).1
  rw [Lib.occAt_iff_take s [10] j (by show j + 1 ≤ s.length; omega)]
  have e : s.drop j = 10 :: s.drop (j + 1) := by
    rw [List.drop_eq_getElem_cons hj]
    have := (List.getElem?_eq_some_iff.1 h).2
    rw [this]
  rw [e]
  simp
theorem splitK_lines (n : Nat) : ∀ s : List UInt8, s.length ≤ n → Lib.splitK [10] 0 (Lib.count s [10]) s = cutsN s := by
  induction n with
  | zero =>
    intro s hs
    have : s = [] := List.eq_nil_of_length_eq_zero (by omega)
    subst this
    have h : Lib.index [] [10] = -1 := Lib.index_none fun j hj => by
      cases ho : Lib.occAt [] [10] j with
      | false => rfl
      | true => have := occ_one _ _ ho; simp at this
    rw [Lib.count_miss h]
    rfl
  | succ n ih =>
    intro s hs
    rcases Lib.index_spec s [10] with ⟨h1, h2⟩ | ⟨i, h1, h2, h3, h4⟩
    · rw [Lib.count_miss h1, cutsN_none]
      · rfl
      · intro c hc e
        subst e
        obtain ⟨j, hj⟩ := List.getElem?_of_mem hc
        have := h2 j (by have := (List.getElem?_eq_some_iff.1 hj).1; omega)
        rw [one_occ s j hj] at this
        cases this
    · have hi := occ_one _ _ h3
      have hil := (List.getElem?_eq_some_iff.1 hi).1
      have hno : ∀ c ∈ s.take i, c ≠ 10 := by
        intro c hc e
        subst e
        obtain ⟨j, hj⟩ := List.getElem?_of_mem hc
        have hjl := (List.getElem?_eq_some_iff.1 hj).1
        have hji : j < i := by rw [List.length_take] at hjl; omega
        rw [List.getElem?_take, if_pos hji] at hj
        have := h4 j hji
        rw [one_occ s j hj] at this
        cases this
      have he : s = s.take i ++ 10 :: s.drop (i + 1) := by
        conv => lhs; rw [← List.take_append_drop i s]
        congr 1
        rw [List.drop_eq_getElem_cons hil, (List.getElem?_eq_some_iff.1 hi).2]
      rw [Lib.count_hit (by simp) h1, Nat.add_comm, Lib.splitK, h1]
      rw [if_neg (fun h => by have := beq_iff_eq.1 h; omega)]
      have e1 : ((i : Int)).toNat + 0 = i := by omega
      have e2 : ((i : Int)).toNat + ([10] : List UInt8).length = i + 1 := by simp
      rw [e1, e2]
      have e3 : i + ([10] : List UInt8).length = i + 1 := by simp
      rw [e3, ih (s.drop (i + 1)) (by simp; omega)]
      conv => rhs; rw [he]
      rw [cutsN_cut _ _ hno]
theorem split_lines (s : ByteArray) : Lib.splitB nl 0 (Lib.countB s nl) s = linesB s := by
  have h := Lib.splitB_data nl 0 (Lib.countB s nl) s
  have e : Lib.splitK nl.data.toList 0 (Lib.countB s nl) s.data.toList = cutsN s.data.toList := splitK_lines _ s.data.toList (Nat.le_refl _)
  rw [e] at h
  have h2 : (Lib.splitB nl 0 (Lib.countB s nl) s).map (fun x => tx x.data.toList) = linesB s := by
    unfold linesB
    rw [← h, List.map_map]
    rfl
  rw [← h2]
  conv => lhs; rw [← List.map_id (Lib.splitB nl 0 (Lib.countB s nl) s)]
  apply List.map_congr_left
  intro x _
  exact (tx_data x).symm
theorem count_lines (s : ByteArray) : Lib.countB s nl + 1 = (linesB s).length := by
  rw [← split_lines, Lib.splitB_all nl (by decide) 0 _ s rfl]
/-- How a line of a kind begins. -/
def hd (w : Int) : List UInt8 := if w = 1 then [115, 107, 105, 112, 32] else if w = 2 then [112, 114, 101, 102, 101, 114, 32, 97, 32] else [112, 114, 101, 102, 101, 114, 32, 98, 32]
/-- The rule of a line. -/
def readL (s : ByteArray) : Option Rl :=
  if Lib.hasPrefix s.data.toList (hd 1) = true then some (1, tx (Lib.trimPrefix s.data.toList (hd 1)))
  else if Lib.hasPrefix s.data.toList (hd 2) = true then some (2, tx (Lib.trimPrefix s.data.toList (hd 2)))
  else if Lib.hasPrefix s.data.toList (hd 3) = true then some (3, tx (Lib.trimPrefix s.data.toList (hd 3)))
  else none
inductive PR where
  | bad (line e : Int)
  | good (l : List Rl)
/-- The error of a pattern by itself. -/
def patE (p : ByteArray) : Int := (matchB p ⟨#[]⟩).2
def parseL : Nat → List Rl → List ByteArray → PR
  | _, acc, [] => .good acc
  | i, acc, s :: t => if s.data.toList = [] ∨ s.data.toList.head? = some 35 then parseL (i + 1) acc t
    else match readL s with
      | none => .bad (i + 1) 112
      | some r => if acc.length = 64 then .bad (i + 1) 111 else if patE r.2 ≠ 0 then .bad (i + 1) 113 else parseL (i + 1) (acc ++ [r]) t
def parseB (s : ByteArray) : PR := if 4000 < s.size then .bad 0 110 else parseL 0 [] (linesB s)
/-- Rules as Parse tells them. -/
def Wf1 (r : Rl) : Prop := (r.1 = 1 ∨ r.1 = 2 ∨ r.1 = 3) ∧ (∀ c ∈ r.2.data.toList, c ≠ 10) ∧ patE r.2 = 0
def Wf (l : List Rl) : Prop := ∀ r ∈ l, Wf1 r
/-- A rule's line. -/
def lineL (r : Rl) : List UInt8 := hd r.1 ++ r.2.data.toList
def textB (l : List Rl) : ByteArray := tx (Lib.join (l.map lineL) [10])
def lsum (l : List Rl) : Nat := (l.map fun r => (lineL r).length + 1).sum
theorem pre_eq {s p : List UInt8} (h : Lib.hasPrefix s p = true) : s = p ++ Lib.trimPrefix s p := by
  unfold Lib.trimPrefix
  rw [if_pos h]
  unfold Lib.hasPrefix at h
  obtain ⟨t, rfl⟩ := List.isPrefixOf_iff_prefix.1 h
  simp
theorem readL_is {s : ByteArray} {r : Rl} (h : readL s = some r) : s.data.toList = lineL r ∧ (r.1 = 1 ∨ r.1 = 2 ∨ r.1 = 3) := by
  unfold readL at h
  split at h
  · rename_i hp
    injection h with h; subst h
    exact ⟨by show _ = hd 1 ++ (tx _).data.toList; rw [tx_list]; exact pre_eq hp, .inl rfl⟩
  · split at h
    · rename_i hp
      injection h with h; subst h
      exact ⟨by show _ = hd 2 ++ (tx _).data.toList; rw [tx_list]; exact pre_eq hp, .inr (.inl rfl)⟩
    · split at h
      · rename_i hp
        injection h with h; subst h
        exact ⟨by show _ = hd 3 ++ (tx _).data.toList; rw [tx_list]; exact pre_eq hp, .inr (.inr rfl)⟩
      · cases h
theorem parseL_good : ∀ (ls : List ByteArray) (i : Nat) (acc : List Rl) (l : List Rl), (∀ s ∈ ls, ∀ c ∈ s.data.toList, c ≠ 10) → parseL i acc ls = .good l → Wf acc → acc.length ≤ 64 →
    Wf l ∧ l.length ≤ 64 ∧ lsum l ≤ lsum acc + (ls.map fun s => s.size + 1).sum
  | [], i, acc, l, _, h, hw, h64 => by
    simp only [parseL, PR.good.injEq] at h
    subst h
    exact ⟨hw, h64, by simp⟩
  | s :: t, i, acc, l, hn, h, hw, h64 => by
    rw [parseL] at h
    have hn' : ∀ s ∈ t, ∀ c ∈ s.data.toList, c ≠ 10 := fun x hx => hn x (by simp [hx])
    have hsz : s.data.toList.length = s.size := by simp
    split at h
    · obtain ⟨h1, h2, h3⟩ := parseL_good t (i + 1) acc l hn' h hw h64
      exact ⟨h1, h2, by simp; omega⟩
    · split at h
      · cases h
      · rename_i r hr
        split at h
        · cases h
        · rename_i h64'
          split at h
          · cases h
          · rename_i hp
            obtain ⟨hl, hw1⟩ := readL_is hr
            have hp : patE r.2 = 0 := by
              by_cases e : patE r.2 = 0
              · exact e
              · exact absurd e hp
            have hwr : Wf1 r := ⟨hw1, fun c hc => hn s (by simp) c (by rw [hl]; unfold lineL; simp [hc]), hp⟩
            obtain ⟨h1, h2, h3⟩ := parseL_good t (i + 1) (acc ++ [r]) l hn' h (fun x hx => by
              rcases List.mem_append.1 hx with hx | hx
              · exact hw x hx
              · simp at hx; subst hx; exact hwr) (by simp; omega)
            refine ⟨h1, h2, ?_⟩
            have e : lsum (acc ++ [r]) = lsum acc + (s.size + 1) := by
              unfold lsum
              simp only [List.map_append, List.map_cons, List.map_nil, List.sum_append, List.sum_cons, List.sum_nil, ← hl, hsz]
              omega
            rw [e] at h3
            simp only [List.map_cons, List.sum_cons]
            omega
theorem linesB_no (s : ByteArray) : ∀ x ∈ linesB s, ∀ c ∈ x.data.toList, c ≠ 10 := by
  intro x hx c hc
  obtain ⟨y, hy, rfl⟩ := List.mem_map.1 hx
  rw [tx_list] at hc
  exact cutsN_mem _ y hy c hc
theorem linesB_sum (s : ByteArray) : ((linesB s).map fun x => x.size + 1).sum = s.size + 1 := by
  have h := cutsN_sum s.data.toList
  have e : s.data.toList.length = s.size := by simp
  rw [e] at h
  rw [← h]
  unfold linesB
  rw [List.map_map]
  rfl
theorem parse_good {s : ByteArray} {l : List Rl} (h : parseB s = .good l) : Wf l ∧ l.length ≤ 64 ∧ lsum l ≤ s.size + 1 ∧ s.size ≤ 4000 := by
  unfold parseB at h
  split at h
  · cases h
  · rename_i h4
    obtain ⟨h1, h2, h3⟩ := parseL_good (linesB s) 0 [] l (linesB_no s) h (fun r hr => by simp at hr) (by simp)
    refine ⟨h1, h2, ?_, by omega⟩
    rw [linesB_sum] at h3
    simpa [lsum] using h3
theorem join_cons (a : List UInt8) (x : List UInt8) (t : List (List UInt8)) : Lib.join (a :: x :: t) [10] = a ++ 10 :: Lib.join (x :: t) [10] := by
  simp [Lib.join, List.intercalate]
theorem join_len : ∀ (a : List UInt8) (t : List (List UInt8)), (Lib.join (a :: t) [10]).length + 1 = ((a :: t).map fun x => x.length + 1).sum
  | a, [] => by rw [Lib.join_one]; simp
  | a, x :: t => by
    rw [join_cons]
    have := join_len x t
    simp only [List.length_append, List.length_cons, List.map_cons, List.sum_cons] at this ⊢
    omega
theorem tx_size (l : List UInt8) : (tx l).size = l.length := by simp [tx, ByteArray.size]
theorem text_size (l : List Rl) : (textB l).size + 1 = max 1 (lsum l) := by
  unfold textB
  rw [tx_size]
  cases l with
  | nil => rfl
  | cons r t =>
    rw [List.map_cons, join_len]
    have e : ((lineL r :: t.map lineL).map fun x => x.length + 1).sum = lsum (r :: t) := by
      unfold lsum
      simp only [List.map_cons, List.map_map, Function.comp_def]
    rw [e]
    have : 1 ≤ lsum (r :: t) := by unfold lsum; simp only [List.map_cons, List.sum_cons]; omega
    omega
/-- Does a rule's pattern match a path? -/
def sp (r : Rl) (p : ByteArray) : Bool := (matchB r.2 p).1 && decide ((matchB r.2 p).2 = 0)
def aboveB (p : ByteArray) : ByteArray := if Lib.lastIndexByte p 47 < 0 then ⟨#[]⟩ else p.extract 0 (Lib.lastIndexByte p 47).toNat
theorem last_lt (p : ByteArray) : Lib.lastIndexByte p 47 < p.size := by
  rcases Lib.lastIdx_spec p 47 p.size with ⟨h, _⟩ | ⟨i, h1, h2, _⟩
  · show Lib.lastIdx p 47 p.size < _; omega
  · show Lib.lastIdx p 47 p.size < _; omega
theorem above_size (p : ByteArray) (h : p.size ≠ 0) : (aboveB p).size < p.size := by
  unfold aboveB
  have := last_lt p
  split
  · show 0 < p.size; omega
  · simp only [ByteArray.size_extract]; omega
/-- A path, and what is above it, the root apart. -/
def chain (p : ByteArray) : List ByteArray := if h : p.size = 0 then [] else p :: chain (aboveB p)
termination_by p.size
decreasing_by exact above_size p h
theorem chain_nil {p : ByteArray} (h : p.size = 0) : chain p = [] := by rw [chain, dif_pos h]
theorem chain_cons {p : ByteArray} (h : p.size ≠ 0) : chain p = p :: chain (aboveB p) := by rw [chain, dif_neg h]
def skipAt (l : List Rl) (q : ByteArray) : Bool := l.any fun r => decide (r.1 = 1) && sp r q
def skipB (l : List Rl) (p : ByteArray) : Bool := decide ((splitB p 64).2 = 0) && (chain p).any (skipAt l)
def prefStep (p : ByteArray) (side : Int) (r : Rl) : Int := if r.1 = 2 ∧ sp r p = true then 1 else if r.1 = 3 ∧ sp r p = true then 2 else side
def preferB (l : List Rl) (p : ByteArray) : Int := l.foldl (prefStep p) 0
def skipsB (r : Rl) (p : ByteArray) : Bool := decide (r.1 = 1) && (chain p).any (sp r)
def whyStep (p : ByteArray) (i : Nat) (r : Rl) (a : Int × Int) : Int × Int := if a.1 = 0 ∧ skipsB r p = true then ((i : Int) + 1, a.2) else if r.1 ≠ 1 ∧ sp r p = true then (a.1, (i : Int) + 1) else a
def whyL (p : ByteArray) : Nat → List Rl → Int × Int → Int × Int
  | _, [], a => a
  | i, r :: t, a => whyL p (i + 1) t (whyStep p i r a)
def whyB (l : List Rl) (p : ByteArray) : Int × Int := if (splitB p 64).2 = 0 then whyL p 0 l (0, 0) else (0, 0)
def mirW (w : Int) : Int := if w = 2 then 3 else if w = 3 then 2 else w
def mirR (r : Rl) : Rl := (mirW r.1, r.2)
def mirB (l : List Rl) : List Rl := l.map mirR
end Go.Proofs.YtoidibkcdkdneaaDoor.R
end
section
namespace Go.Proofs.YtoidibkcdkdneaaDoor.R
open Go.Proofs.YtoidibkcdkdneaaDoor.MStr Go.Proofs.YtoidibkcdkdneaaDoor.Hand
set_option linter.unusedVariables false
set_option linter.unusedSimpArgs false
theorem mirW_one (w : Int) : (mirW w = 1) ↔ w = 1 := by unfold mirW; split <;> (try split) <;> omega
theorem sp_mir (r : Rl) (p : ByteArray) : sp (mirR r) p = sp r p := rfl
theorem skipAt_mir (l : List Rl) (q : ByteArray) : skipAt (mirB l) q = skipAt l q := by
  unfold skipAt mirB
  rw [List.any_map]
  congr 1
  funext r
  show (decide ((mirR r).1 = 1) && sp (mirR r) q) = _
  rw [sp_mir]
  congr 1
  exact decide_eq_decide.2 (mirW_one r.1)
theorem skip_mir (l : List Rl) (p : ByteArray) : skipB (mirB l) p = skipB l p := by
  unfold skipB
  have e : skipAt (mirB l) = skipAt l := funext (skipAt_mir l)
  rw [e]
theorem skips_mir (r : Rl) (p : ByteArray) : skipsB (mirR r) p = skipsB r p := by
  unfold skipsB
  have e : sp (mirR r) = sp r := funext (sp_mir r)
  rw [e]
  congr 1
  exact decide_eq_decide.2 (mirW_one r.1)
theorem whyL_mir (p : ByteArray) (l : List Rl) : ∀ (i : Nat) (a : Int × Int), whyL p i (l.map mirR) a = whyL p i l a := by
  induction l with
  | nil => intro i a; rfl
  | cons r t ih =>
    intro i a
    rw [List.map_cons, whyL, whyL, ih]
    congr 1
    unfold whyStep
    rw [skips_mir, sp_mir]
    have e : ((mirR r).1 = 1) ↔ (r.1 = 1) := mirW_one r.1
    simp only [ne_eq, e]
theorem why_mir (l : List Rl) (p : ByteArray) : whyB (mirB l) p = whyB l p := by
  unfold whyB mirB
  rw [whyL_mir]
theorem sp_split {r : Rl} {p : ByteArray} (h : sp r p = true) : (splitB p 64).2 = 0 := by
  by_cases e : (splitB p 64).2 = 0
  · exact e
  · exfalso
    unfold sp matchB at h
    split at h
    · simp at h
    · simp at h
theorem any_swap {α β : Type} (f : α → β → Bool) (l : List α) (m : List β) : l.any (fun x => m.any (f x)) = m.any (fun y => l.any (fun x => f x y)) := by
  rw [Bool.eq_iff_iff]
  simp only [List.any_eq_true]
  constructor
  · rintro ⟨x, hx, y, hy, h⟩; exact ⟨y, hy, x, hx, h⟩
  · rintro ⟨y, hy, x, hx, h⟩; exact ⟨x, hx, y, hy, h⟩
theorem skip_skips (l : List Rl) (p : ByteArray) : skipB l p = (decide ((splitB p 64).2 = 0) && l.any fun r => skipsB r p) := by
  unfold skipB
  congr 1
  unfold skipAt
  rw [any_swap]
  congr 1
  funext r
  unfold skipsB
  cases h : decide (r.1 = 1)
  · simp
  · simp
theorem whyL_app' (p : ByteArray) (l : List Rl) (r : Rl) : ∀ (i : Nat) (a : Int × Int), whyL p i (l ++ [r]) a = whyStep p (i + l.length) r (whyL p i l a) := by
  induction l with
  | nil => intro i a; rfl
  | cons x t ih =>
    intro i a
    show whyL p (i + 1) (t ++ [r]) (whyStep p i x a) = _
    rw [ih]
    show whyStep p (i + 1 + t.length) r _ = whyStep p (i + (t.length + 1)) r (whyL p (i + 1) t (whyStep p i x a))
    rw [Nat.add_assoc i 1, Nat.add_comm 1]
/-- Does a rule prefer a side at a path? -/
def pr (r : Rl) (p : ByteArray) : Bool := decide (r.1 ≠ 1) && sp r p
structure First (p : ByteArray) (l : List Rl) (a : Int) : Prop where
  lo : 0 ≤ a
  hi : a ≤ l.length
  no : a = 0 → ∀ r ∈ l, skipsB r p = false
  yes : 0 < a → ∃ r, l[(a - 1).toNat]? = some r ∧ skipsB r p = true
  fst : 0 < a → ∀ r ∈ l.take (a - 1).toNat, skipsB r p = false
structure Last (p : ByteArray) (l : List Rl) (a : Int) : Prop where
  lo : 0 ≤ a
  hi : a ≤ l.length
  no : a = 0 → ∀ r ∈ l, pr r p = false
  yes : 0 < a → ∃ r, l[(a - 1).toNat]? = some r ∧ pr r p = true
  lst : ∀ r ∈ l.drop a.toNat, pr r p = false
theorem snoc_ind {α : Type} {P : List α → Prop} (h0 : P []) (h1 : ∀ l a, P l → P (l ++ [a])) (l : List α) : P l := by
  have h : ∀ l : List α, P l.reverse := fun l => by
    induction l with
    | nil => exact h0
    | cons a t ih => rw [List.reverse_cons]; exact h1 _ _ ih
  have := h l.reverse
  rwa [List.reverse_reverse] at this
theorem why_is (p : ByteArray) (l : List Rl) : First p l (whyL p 0 l (0, 0)).1 ∧ Last p l (whyL p 0 l (0, 0)).2 := by
  induction l using snoc_ind with
  | h0 => exact ⟨⟨Int.le_refl _, Int.le_refl _, fun _ r h => by simp at h, fun h => absurd (show (0 : Int) < 0 from h) (by decide), fun h => absurd (show (0 : Int) < 0 from h) (by decide)⟩, ⟨Int.le_refl _, Int.le_refl _, fun _ r h => by simp at h, fun h => absurd (show (0 : Int) < 0 from h) (by decide), fun r h => by simp at h⟩⟩
  | h1 l r ih =>
    obtain ⟨hf, hl⟩ := ih
    rw [whyL_app', Nat.zero_add]
    generalize whyL p 0 l (0, 0) = a at hf hl ⊢
    obtain ⟨f, t⟩ := a
    dsimp only at hf hl
    have keepF : (skipsB r p = false ∨ 0 < f) → First p (l ++ [r]) f := fun h => by
      refine ⟨hf.lo, by have := hf.hi; simp; omega, fun h0 x hx => ?_, fun hp => ?_, fun hp x hx => ?_⟩
      · rcases List.mem_append.1 hx with hx | hx
        · exact hf.no h0 x hx
        · simp at hx; subst hx
          rcases h with h | h
          · exact h
          · omega
      · obtain ⟨x, h1, h2⟩ := hf.yes hp
        exact ⟨x, by rw [List.getElem?_append_left (List.getElem?_eq_some_iff.1 h1).1]; exact h1, h2⟩
      · have := hf.hi
        rw [List.take_append_of_le_length (by omega)] at hx
        exact hf.fst hp x hx
    have keepL : pr r p = false → Last p (l ++ [r]) t := fun h => by
      refine ⟨hl.lo, by have := hl.hi; simp; omega, fun h0 x hx => ?_, fun hp => ?_, fun x hx => ?_⟩
      · rcases List.mem_append.1 hx with hx | hx
        · exact hl.no h0 x hx
        · simp at hx; subst hx; exact h
      · obtain ⟨x, h1, h2⟩ := hl.yes hp
        exact ⟨x, by rw [List.getElem?_append_left (List.getElem?_eq_some_iff.1 h1).1]; exact h1, h2⟩
      · have := hl.hi
        have := hl.lo
        rw [List.drop_append_of_le_length (by omega)] at hx
        rcases List.mem_append.1 hx with hx | hx
        · exact hl.lst x hx
        · simp at hx; subst hx; exact h
    have newF : skipsB r p = true → f = 0 → First p (l ++ [r]) ((l.length : Int) + 1) := fun h h0 => by
      refine ⟨by omega, by simp, fun e => by omega, fun _ => ⟨r, ?_, h⟩, fun _ x hx => ?_⟩
      · have e : (((l.length : Int) + 1) - 1).toNat = l.length := by omega
        rw [e]; simp
      · have e : (((l.length : Int) + 1) - 1).toNat = l.length := by omega
        rw [e] at hx
        rw [List.take_left' rfl] at hx
        exact hf.no h0 x hx
    have newL : pr r p = true → Last p (l ++ [r]) ((l.length : Int) + 1) := fun h => by
      refine ⟨by omega, by simp, fun e => by omega, fun _ => ⟨r, ?_, h⟩, fun x hx => ?_⟩
      · have e : (((l.length : Int) + 1) - 1).toNat = l.length := by omega
        rw [e]; simp
      · have e : (((l.length : Int) + 1)).toNat = (l ++ [r]).length := by rw [List.length_append]; show _ = l.length + 1; omega
        rw [e, List.drop_length] at hx
        simp at hx
    have key : skipsB r p = true → pr r p = false := fun h => by
      unfold skipsB at h
      unfold pr
      simp only [Bool.and_eq_true, decide_eq_true_eq] at h
      simp [h.1]
    have hfl := hf.lo
    unfold whyStep
    by_cases h1 : f = 0 ∧ skipsB r p = true
    · rw [if_pos h1]
      exact ⟨newF h1.2 h1.1, keepL (key h1.2)⟩
    · rw [if_neg h1]
      have hk : skipsB r p = false ∨ 0 < f := by
        cases hs : skipsB r p with
        | false => exact .inl rfl
        | true => exact .inr (by have : ¬ f = 0 := fun e => h1 ⟨e, hs⟩; omega)
      by_cases h2 : r.1 ≠ 1 ∧ sp r p = true
      · rw [if_pos h2]
        exact ⟨keepF hk, newL (by unfold pr; simp [h2.1, h2.2])⟩
      · rw [if_neg h2]
        refine ⟨keepF hk, keepL ?_⟩
        unfold pr
        cases hs : sp r p with
        | false => simp
        | true =>
          by_cases e : r.1 = 1
          · simp [e]
          · exact absurd ⟨e, hs⟩ h2
theorem skip_false {l : List Rl} {p : ByteArray} (h : ∀ r ∈ l, skipsB r p = false) : skipB l p = false := by
  rw [skip_skips]
  have : (l.any fun r => skipsB r p) = false := by
    rw [List.any_eq_false]
    intro r hr
    rw [h r hr]
    simp
  rw [this]
  simp
theorem pref_app' (l m : List Rl) (p : ByteArray) : preferB (l ++ m) p = m.foldl (prefStep p) (preferB l p) := by
  unfold preferB
  rw [List.foldl_append]
theorem pref_keep (p : ByteArray) (m : List Rl) (h : ∀ r ∈ m, pr r p = false) : ∀ s : Int, m.foldl (prefStep p) s = s := by
  induction m with
  | nil => intro s; rfl
  | cons r t ih =>
    intro s
    rw [List.foldl_cons]
    have e : prefStep p s r = s := by
      have h1 := h r (by simp)
      unfold pr at h1
      unfold prefStep
      by_cases hs : sp r p = true
      · rw [hs] at h1
        have h2 : r.1 = 1 := by
          by_cases e : r.1 = 1
          · exact e
          · simp [e] at h1
        rw [if_neg (by omega), if_neg (by omega)]
      · rw [if_neg (fun e => hs e.2), if_neg (fun e => hs e.2)]
    rw [e]
    exact ih (fun x hx => h x (by simp [hx])) s
theorem pref_last {p : ByteArray} {s : Int} {r : Rl} (hw : Wf1 r) (h : pr r p = true) : prefStep p s r = r.1 - 1 := by
  unfold pr at h
  simp only [Bool.and_eq_true, decide_eq_true_eq] at h
  unfold prefStep
  rcases hw.1 with e | e | e
  · exact absurd e h.1
  · rw [if_pos ⟨e, h.2⟩, e]; rfl
  · rw [if_neg (fun e' => by omega), if_pos ⟨e, h.2⟩, e]; rfl
/-- What the law of Why asks. -/
structure WhyOk (l : List Rl) (p : ByteArray) (a : Int × Int) : Prop where
  lo1 : 0 ≤ a.1
  lo2 : 0 ≤ a.2
  hi1 : a.1 ≤ l.length
  hi2 : a.2 ≤ l.length
  sk : decide (0 < a.1) = skipB l p
  pf : decide (0 < a.2) = decide (0 < preferB l p)
  f : 0 < a.1 → ∃ r, l[(a.1 - 1).toNat]? = some r ∧ r.1 = 1 ∧ skipB [r] p = true ∧ skipB (l.take (a.1 - 1).toNat) p = false
  t : 0 < a.2 → ∃ r, l[(a.2 - 1).toNat]? = some r ∧ r.1 - 1 = preferB l p ∧ preferB [r] p = preferB l p ∧ preferB (l.take a.2.toNat) p = preferB l p
theorem why_ok {l : List Rl} (hw : Wf l) (p : ByteArray) : WhyOk l p (whyB l p) := by
  unfold whyB
  by_cases hs : (splitB p 64).2 = 0
  · rw [if_pos hs]
    obtain ⟨hf, hl⟩ := why_is p l
    generalize whyL p 0 l (0, 0) = a at hf hl ⊢
    obtain ⟨f, t⟩ := a
    dsimp only at hf hl
    have hd : decide ((splitB p 64).2 = 0) = true := decide_eq_true hs
    have last : 0 < t → ∃ r, l[(t - 1).toNat]? = some r ∧ r.1 - 1 = preferB l p ∧ preferB [r] p = preferB l p ∧ preferB (l.take t.toNat) p = preferB l p ∧ 0 < preferB l p := fun h => by
      obtain ⟨r, h1, h2⟩ := hl.yes h
      have hi := hl.hi
      have hr : r ∈ l := List.mem_of_getElem? h1
      have hw1 := hw r hr
      have e1 : l.take t.toNat = l.take (t - 1).toNat ++ [r] := by
        have e : t.toNat = (t - 1).toNat + 1 := by omega
        have hlt := (List.getElem?_eq_some_iff.1 h1).1
        rw [e, List.take_succ_eq_append_getElem hlt, (List.getElem?_eq_some_iff.1 h1).2]
      have e2 : preferB (l.take t.toNat) p = r.1 - 1 := by
        rw [e1, pref_app']
        exact pref_last hw1 h2
      have e3 : preferB l p = r.1 - 1 := by
        conv => lhs; rw [← List.take_append_drop t.toNat l]
        rw [pref_app', pref_keep p _ hl.lst, e2]
      have e4 : preferB [r] p = r.1 - 1 := pref_last hw1 h2
      have h5 : ¬ r.1 = 1 := fun e => by unfold pr at h2; simp [e] at h2
      refine ⟨r, h1, e3.symm, by rw [e4, e3], by rw [e2, e3], ?_⟩
      rw [e3]
      rcases hw1.1 with e | e | e
      · exact absurd e h5
      · rw [e]; decide
      · rw [e]; decide
    refine ⟨hf.lo, hl.lo, hf.hi, hl.hi, ?_, ?_, fun h => ?_, fun h => ?_⟩
    · rw [skip_skips, hd, Bool.true_and]
      by_cases h : 0 < f
      · obtain ⟨r, h1, h2⟩ := hf.yes h
        rw [decide_eq_true h]
        exact (List.any_eq_true.2 ⟨r, List.mem_of_getElem? h1, h2⟩).symm
      · rw [decide_eq_false h]
        symm
        rw [List.any_eq_false]
        intro r hr
        rw [hf.no (by have := hf.lo; omega) r hr]
        simp
    · by_cases h : 0 < t
      · obtain ⟨_, _, _, _, _, h6⟩ := last h
        rw [decide_eq_true h, decide_eq_true h6]
      · have h0 : preferB l p = 0 := pref_keep p l (hl.no (by have := hl.lo; omega)) 0
        rw [decide_eq_false h, h0]
        rfl
    · obtain ⟨r, h1, h2⟩ := hf.yes h
      refine ⟨r, h1, ?_, ?_, skip_false (hf.fst h)⟩
      · unfold skipsB at h2
        simp only [Bool.and_eq_true, decide_eq_true_eq] at h2
        exact h2.1
      · rw [skip_skips, hd]
        simp [h2]
    · obtain ⟨r, h1, h2, h3, h4, _⟩ := last h
      exact ⟨r, h1, h2, h3, h4⟩
  · rw [if_neg hs]
    have hn : ∀ r : Rl, sp r p = false := fun r => by
      cases h : sp r p with
      | false => rfl
      | true => exact absurd (sp_split h) hs
    refine ⟨Int.le_refl _, Int.le_refl _, by simp, by simp, ?_, ?_, fun h => absurd h (by decide), fun h => absurd h (by decide)⟩
    · unfold skipB
      rw [decide_eq_false hs]
      rfl
    · have h0 : preferB l p = 0 := pref_keep p l (fun r _ => by unfold pr; rw [hn r]; simp) 0
      rw [h0]
end Go.Proofs.YtoidibkcdkdneaaDoor.R
end
