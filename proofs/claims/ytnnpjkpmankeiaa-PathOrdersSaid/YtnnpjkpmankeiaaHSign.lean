/- path.signs, out of its printed walk: the signs of a pattern's piece. -/
import Derived.Test.YtnnpjkpmankeiaaPReadx1
import Derived.Test.YtnnpjkpmankeiaaMStr
namespace Go.Proofs.Ytnnpjkpmankeiaa.Hand
set_option linter.unusedVariables false
set_option linter.unusedSimpArgs false
open Go.RowKit Go.Proofs.Ytnnpjkpmankeiaa.MStr Go.Proofs.Ytnnpjkpmankeiaa.PRead Go.Proofs.YtnnpjkpmankeiaaW.PrintWords
abbrev Sg := S143
abbrev kSg := k143
abbrev Pt := S77
abbrev kPt := k77
def lit (c : UInt8) : Sg := ⟨false, false, (c.toNat : Int)⟩
def one (c : UInt8) : Sg := if c = 42 then ⟨true, false, 0⟩ else if c = 63 then ⟨false, true, 0⟩ else lit c
/-- The signs of a piece; none: a last byte that should take the next one as itself. -/
def signsL : List UInt8 → Option (List Sg)
  | [] => some []
  | [c] => if c = 92 then none else some [one c]
  | c :: d :: t => if c = 92 then (signsL t).map (lit d :: ·) else (signsL (d :: t)).map (one c :: ·)
def signsOut (s : ByteArray) : List Sg × Bool := match signsL s.data.toList with
  | none => ([], false)
  | some l => (l, decide (0 < (l.length : Int)))
theorem wrap_small {x : Int} (h0 : 0 ≤ x) (h : x ≤ 9000000000000000000) : wrap64 x = x := by unfold wrap64; omega
theorem bt_get (s : ByteArray) (i : Nat) (h : i < s.size) : bt s (i : Int) = ((s.get! i).toNat : Int) := by
  rw [get_at' s i h]
  simp [bt, h]
theorem drop_all (s : ByteArray) (i : Nat) (h : ¬ i < s.size) : s.data.toList.drop i = [] := List.drop_eq_nil_of_le (by simp; omega)

theorem signs_loop (s : ByteArray) (hs : s.size ≤ 1000000000000) (d : Nat) : ∀ (k i : Nat) (acc : List Sg), s.size - i ≤ d → i ≤ s.size → acc.length ≤ i → d < k →
    path_signs.l0 k s acc (i : Int) = some (match signsL (s.data.toList.drop i) with | none => ([], false) | some l => (acc ++ l, decide (0 < ((acc ++ l).length : Int)))) := by
  induction d with
  | zero =>
    intro k i acc hd hi ha hk
    obtain ⟨k, rfl⟩ : ∃ m, k = m + 1 := ⟨k - 1, by omega⟩
    simp only [path_signs.l0]
    rw [if_neg (by omega), drop_all s i (by omega)]
    simp [signsL]
  | succ d ih =>
    intro k i acc hd hi ha hk
    obtain ⟨k, rfl⟩ : ∃ m, k = m + 1 := ⟨k - 1, by omega⟩
    by_cases hlt : i < s.size
    · have hac : acc.length < 46912496118442 := by omega
      have hw : wrap64 ((i : Int) + 1) = ((i + 1 : Nat) : Int) := by rw [wrap_small (by omega) (by omega)]; omega
      have hw2 : wrap64 (((i + 1 : Nat) : Int) + 1) = ((i + 2 : Nat) : Int) := by rw [wrap_small (by omega) (by omega)]; omega
      simp only [path_signs.l0]
      rw [if_pos (by omega), if_pos (by omega), bt_get s i hlt, hw]
      rw [drop_get s i hlt]
      have hnext := fun (x : Sg) => ih k (i + 1) (acc ++ [x]) (by omega) (by omega) (by simp; omega) (by omega)
      generalize hc : s.get! i = c at *
      by_cases h42 : c = 42
      · subst h42
        rw [if_pos (by decide), if_pos hac, hnext]
        cases ht : s.data.toList.drop (i + 1) with
        | nil => simp [signsL, one]
        | cons d t =>
          rw [signsL, if_neg (by decide)]
          cases signsL (d :: t) <;> simp [one]
      rw [if_neg (fun e => h42 (UInt8.toNat_inj.1 (by show c.toNat = 42; omega)))]
      by_cases h63 : c = 63
      · subst h63
        rw [if_pos (by decide), if_pos hac, hnext]
        cases ht : s.data.toList.drop (i + 1) with
        | nil => simp [signsL, one]
        | cons d t =>
          rw [signsL, if_neg (by decide)]
          cases signsL (d :: t) <;> simp [one]
      rw [if_neg (fun e => h63 (UInt8.toNat_inj.1 (by show c.toNat = 63; omega)))]
      by_cases h92 : c = 92
      · subst h92
        rw [if_pos (by decide)]
        by_cases he : i + 1 = s.size
        · rw [if_pos (by omega), drop_all s (i + 1) (by omega)]
          simp [signsL]
        · have hlt2 : i + 1 < s.size := by omega
          rw [if_neg (by omega), if_pos (by omega), if_pos (by omega), if_pos hac, hw2, bt_get s (i + 1) hlt2]
          have h2 := ih k (i + 2) (acc ++ [lit (s.get! (i + 1))]) (by omega) (by omega) (by simp; omega) (by omega)
          rw [drop_get s (i + 1) hlt2]
          rw [signsL, if_pos rfl]
          refine h2.trans ?_
          cases signsL (List.drop (i + 1 + 1) s.data.toList) <;> simp
      rw [if_neg (fun e => h92 (UInt8.toNat_inj.1 (by show c.toNat = 92; omega))), if_pos hac]
      refine (hnext (lit c)).trans ?_
      cases ht : s.data.toList.drop (i + 1) with
      | nil => simp [signsL, one, h42, h63, h92]
      | cons d t =>
        rw [signsL, if_neg h92]
        cases signsL (d :: t) <;> simp [one, h42, h63]
    · simp only [path_signs.l0]
      rw [if_neg (by omega), drop_all s i hlt]
      simp [signsL]
theorem signs_f (s : ByteArray) (hs : s.size ≤ 1000000000000) : path_signs.f (s.size + 1) s = some (signsOut s) := by
  have h := signs_loop s hs s.size (s.size + 1) 0 [] (by omega) (by omega) (by simp) (by omega)
  unfold path_signs.f
  refine h.trans ?_
  unfold signsOut
  rw [List.drop_zero]
  cases signsL s.data.toList <;> simp
theorem signs_calls (s : ByteArray) (hs : s.size ≤ 1000000000000) (w : World) :
    Calls Try.prog 73 #[.string s] w fun e w' => ∃ v0_ : Value, e = .returned (.tuple #[v0_, .bool (signsOut s).2]) ∧ Kd.R kSg 143 w' w.heap.size (fun _ => True) v0_ (signsOut s).1 ∧ Below w.heap.size w w' :=
  path_signs.calls (s.size + 1) s (signsOut s).1 (signsOut s).2 w (signs_f s hs)
theorem signsL_length (l : List UInt8) : ∀ r, signsL l = some r → r.length ≤ l.length := by
  induction l using signsL.induct with
  | case1 => simp [signsL]
  | case2 => simp [signsL]
  | case3 c h => simp [signsL, h]
  | case4 d t ih =>
    intro r hr
    rw [signsL, if_pos rfl, Option.map_eq_some_iff] at hr
    obtain ⟨q, hq, rfl⟩ := hr
    have := ih q hq
    simp
    omega
  | case5 c d t h ih =>
    intro r hr
    rw [signsL, if_neg h, Option.map_eq_some_iff] at hr
    obtain ⟨q, hq, rfl⟩ := hr
    have := ih q hq
    simp at this ⊢
    omega
end Go.Proofs.Ytnnpjkpmankeiaa.Hand
