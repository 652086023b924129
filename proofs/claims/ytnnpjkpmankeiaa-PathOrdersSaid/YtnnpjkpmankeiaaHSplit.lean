/- path.Split, out of its printed walk. -/
import Derived.Test.YtnnpjkpmankeiaaPSplitx1
namespace Go.Proofs.Ytnnpjkpmankeiaa.Hand
open Go.RowKit Go.Proofs.Ytnnpjkpmankeiaa.MStr Go.Proofs.Ytnnpjkpmankeiaa.PSplit Go.Proofs.YtnnpjkpmankeiaaW.PrintWords Go.Proofs.YtnnpjkpmankeiaaW.PrintLast Go.Proofs.YtnnpjkpmankeiaaW.PrintMore
set_option linter.unusedVariables false
set_option linter.unusedSimpArgs false

/-- What Split answers. -/
def splitB (s : ByteArray) (most : Int) : List ByteArray × Int :=
  if mx most 0 < ((pieces s).length : Int) then ([], 31) else if (pieces s).all nameB = true then (pieces s, 0) else ([], 30)
theorem split_loop (l : List ByteArray) (hl : l.length ≤ 8796093022207) (d : Nat) : ∀ (k j : Nat), l.length - j ≤ d → d < k → (l.take j).all nameB = true →
    path_Split.l0 k l l (l.length : Int) (j : Int) = some (if l.all nameB = true then (l, 0) else ([], 30)) := by
  induction d with
  | zero =>
    intro k j h1 h2 h3
    obtain ⟨k, rfl⟩ : ∃ m, k = m + 1 := ⟨k - 1, by omega⟩
    simp only [path_Split.l0]
    rw [List.take_of_length_le (by omega)] at h3
    rw [if_neg (by omega), if_pos h3]
  | succ d ih =>
    intro k j h1 h2 h3
    obtain ⟨k, rfl⟩ : ∃ m, k = m + 1 := ⟨k - 1, by omega⟩
    simp only [path_Split.l0]
    by_cases hj : j < l.length
    · have hr : rdOf ByteArray.empty l (j : Int) = l[j] := by
        unfold rdOf
        rw [Int.toNat_natCast, List.getD_eq_getElem?_getD, List.getElem?_eq_getElem hj]
        rfl
      have hw : wrap64 ((j : Int) + 1) = ((j + 1 : Nat) : Int) := by unfold wrap64; omega
      rw [if_pos (by omega), if_pos (by omega), if_pos (by omega), hr, hw]
      unfold path_Check.f
      rw [Option.bind_some]
      by_cases hn : nameB l[j] = true
      · rw [if_pos hn, if_pos rfl]
        refine ih k (j + 1) (by omega) (by omega) ?_
        rw [List.take_succ_eq_append_getElem hj, List.all_append, h3]
        simp [hn]
      · rw [if_neg hn, if_neg (by decide), if_neg]
        intro h
        rw [List.all_eq_true] at h
        exact hn (h _ (List.getElem_mem hj))
    · rw [List.take_of_length_le (by omega)] at h3
      rw [if_neg (by omega), if_pos h3]
theorem split_f (s : ByteArray) (most : Int) (hs : s.size ≤ 8796093022206) : path_Split.f ((pieces s).length + 1) s most = some (splitB s most) := by
  unfold path_Split.f path_pieces.f splitB
  rw [if_pos hs, Option.bind_some]
  by_cases h : mx most 0 < ((pieces s).length : Int)
  · rw [if_pos h, if_pos h]
  · rw [if_neg h, if_neg h]
    have := split_loop (pieces s) (pieces_few s _ hs) (pieces s).length ((pieces s).length + 1) 0 (by omega) (by omega) (by simp)
    rw [Int.ofNat_zero] at this
    rw [this]
theorem split_calls (s : ByteArray) (most : Int) (hs : s.size ≤ 8796093022206) (w : World) :
    Calls Try.prog 29 #[.string s, .int .i64 most] w fun e w' => ∃ v0_ : Value, e = .returned (.tuple #[v0_, .int .i64 (splitB s most).2]) ∧ Kd.R Kd.string 9 w' w.heap.size (fun _ => True) v0_ (splitB s most).1 ∧ Below w.heap.size w w' :=
  path_Split.calls _ s most (splitB s most).1 (splitB s most).2 w (split_f s most hs)
end Go.Proofs.Ytnnpjkpmankeiaa.Hand
