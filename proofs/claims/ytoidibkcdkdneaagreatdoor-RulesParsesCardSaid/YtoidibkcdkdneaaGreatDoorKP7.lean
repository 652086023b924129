/- Text 8 of 26 texts that prove the statement of RowParses; it holds without conditions beyond the statement's own. -/
import GoSem.Core.Utf8
import Derived.Laws.RangeAny
namespace Foot
end Foot
namespace Go.Proofs
end Go.Proofs
namespace Go.Proofs.YtoidibkcdkdneaaGreatDoor
end Go.Proofs.YtoidibkcdkdneaaGreatDoor
namespace Go.Proofs.YtoidibkcdkdneaaGreatDoor.E
end Go.Proofs.YtoidibkcdkdneaaGreatDoor.E
namespace Go.Proofs.YtoidibkcdkdneaaGreatDoor.Hand
end Go.Proofs.YtoidibkcdkdneaaGreatDoor.Hand
namespace Go.Proofs.YtoidibkcdkdneaaGreatDoor.MPat
end Go.Proofs.YtoidibkcdkdneaaGreatDoor.MPat
namespace Go.Proofs.YtoidibkcdkdneaaGreatDoor.MStr
end Go.Proofs.YtoidibkcdkdneaaGreatDoor.MStr
namespace Go.Proofs.YtoidibkcdkdneaaGreatDoor.PRead
end Go.Proofs.YtoidibkcdkdneaaGreatDoor.PRead
namespace Go.Proofs.YtoidibkcdkdneaaGreatDoor.PSplit
end Go.Proofs.YtoidibkcdkdneaaGreatDoor.PSplit
namespace Go.Proofs.YtoidibkcdkdneaaGreatDoor.R
end Go.Proofs.YtoidibkcdkdneaaGreatDoor.R
namespace Go.Proofs.YtoidibkcdkdneaaGreatDoor.T
end Go.Proofs.YtoidibkcdkdneaaGreatDoor.T
namespace Go.Proofs.YtoidibkcdkdneaaGreatDoor.TR
end Go.Proofs.YtoidibkcdkdneaaGreatDoor.TR
namespace Go.Proofs.YtoidibkcdkdneaaGreatDoor.TrulesParses
end Go.Proofs.YtoidibkcdkdneaaGreatDoor.TrulesParses
namespace Go.Proofs.YtoidibkcdkdneaaGreatDoorW.PrintLast
end Go.Proofs.YtoidibkcdkdneaaGreatDoorW.PrintLast
namespace Go.Proofs.YtoidibkcdkdneaaGreatDoorW.PrintMore
end Go.Proofs.YtoidibkcdkdneaaGreatDoorW.PrintMore
namespace Go.Proofs.YtoidibkcdkdneaaGreatDoorW.PrintWords
end Go.Proofs.YtoidibkcdkdneaaGreatDoorW.PrintWords
namespace Kd
end Kd
section
namespace Go.Proofs.YtoidibkcdkdneaaGreatDoor.MStr
set_option linter.unusedVariables false
set_option linter.unusedSimpArgs false
theorem get_at' (s : ByteArray) (j : Nat) (h : j < s.size) : s.get! j = s[j]'h := by
  simp [ByteArray.get!, getElem!_pos, h]
  rfl
theorem cont_high (s : ByteArray) (i k : Nat) (h : (i + k < s.size && (s.get! (i + k)).toNat / 64 == 2) = true) : 128 ≤ (s.get! (i + k)).toNat ∧ i + k < s.size := by
  simp only [Bool.and_eq_true, decide_eq_true_eq, beq_iff_eq] at h
  omega
/-- What a step of a range over a string passes are bytes of 128 or more, unless it is one ASCII byte. -/
theorem decode_skip (s : ByteArray) (pos : Nat) (h : pos < s.size) (ha : 128 ≤ (s.get! pos).toNat) :
    ∀ j, pos ≤ j → j < pos + (Utf8.decode s pos).2 → 128 ≤ (s.get! j).toNat ∧ j < s.size := by
  intro j h1 h2
  have c0 : j = pos → 128 ≤ (s.get! j).toNat ∧ j < s.size := fun e => by subst e; exact ⟨ha, h⟩
  simp only [Utf8.decode, Nat.add_zero] at h2
  rw [if_neg (by omega)] at h2
  split at h2
  · rename_i hc
    simp only [Bool.and_eq_true] at hc
    have k1 := cont_high s pos 1 (by simp only [Bool.and_eq_true]; exact hc.2)
    split at h2
    · rcases Nat.lt_or_ge pos j with hj | hj
      · obtain rfl : j = pos + 1 := by simp at h2; omega
        exact k1
      · exact c0 (by omega)
    · exact c0 (by simp at h2; omega)
  · split at h2
    · rename_i hc
      simp only [Bool.and_eq_true] at hc
      have k1 := cont_high s pos 1 (by simp only [Bool.and_eq_true]; exact hc.1.2)
      have k2 := cont_high s pos 2 (by simp only [Bool.and_eq_true]; exact hc.2)
      split at h2
      · rcases (by simp at h2; omega : j = pos ∨ j = pos + 1 ∨ j = pos + 2) with e | rfl | rfl
        · exact c0 e
        · exact k1
        · exact k2
      · exact c0 (by simp at h2; omega)
    · split at h2
      · rename_i hc
        simp only [Bool.and_eq_true] at hc
        have k1 := cont_high s pos 1 (by simp only [Bool.and_eq_true]; exact hc.1.1.2)
        have k2 := cont_high s pos 2 (by simp only [Bool.and_eq_true]; exact hc.1.2)
        have k3 := cont_high s pos 3 (by simp only [Bool.and_eq_true]; exact hc.2)
        split at h2
        · rcases (by simp at h2; omega : j = pos ∨ j = pos + 1 ∨ j = pos + 2 ∨ j = pos + 3) with e | rfl | rfl | rfl
          · exact c0 e
          · exact k1
          · exact k2
          · exact k3
        · exact c0 (by simp at h2; omega)
      · exact c0 (by simp at h2; omega)
/-- A step of a range over a string: an ASCII byte, or a rune of 128 or more over bytes of 128 or more. -/
theorem decode_cases (s : ByteArray) (pos : Nat) (h : pos < s.size) :
    ((s.get! pos).toNat < 128 ∧ Utf8.decode s pos = ((s.get! pos).toNat, 1)) ∨
    (128 ≤ (s.get! pos).toNat ∧ 128 ≤ (Utf8.decode s pos).1 ∧ 1 ≤ (Utf8.decode s pos).2 ∧ pos + (Utf8.decode s pos).2 ≤ s.size ∧
      ∀ j, pos ≤ j → j < pos + (Utf8.decode s pos).2 → 128 ≤ (s.get! j).toNat) := by
  by_cases ha : (s.get! pos).toNat < 128
  · refine .inl ⟨ha, ?_⟩
    rw [get_at' s pos h] at ha ⊢
    exact decode_ascii s pos h ha
  · have ha' : 128 ≤ (s[pos]'h).toNat := by rw [← get_at' s pos h]; omega
    obtain ⟨h1, h2⟩ := decode_high s pos h ha'
    have hs := decode_skip s pos h (by omega)
    refine .inr ⟨by omega, h1, h2, ?_, fun j a b => (hs j a b).1⟩
    have := (hs (pos + (Utf8.decode s pos).2 - 1) (by omega) (by omega)).2
    omega
/-- A byte that no name has. -/
def badByte (c : UInt8) : Bool := c.toNat == 47 || c.toNat == 0
/-- Is a text a name? -/
def nameB (s : ByteArray) : Bool := decide (1 ≤ s.size) && decide (s.size ≤ 255) && !(s.toList == [46]) && !(s.toList == [46, 46]) && !(s.data.toList.any badByte)
/-- Is every byte ahead of a place a name's? -/
def goodTo (s : ByteArray) (pos : Nat) : Prop := ∀ j, j < pos → j < s.size → badByte (s.get! j) = false
theorem goodTo_zero (s : ByteArray) : goodTo s 0 := fun j h => by omega
theorem get_data (s : ByteArray) (j : Nat) (h : j < s.size) : s.data.toList[j]? = some (s.get! j) := by
  rw [get_at' s j h]
  have : j < s.data.size := h
  simp [ByteArray.getElem_eq_getElem_data, this]
theorem goodTo_all (s : ByteArray) (pos : Nat) (hp : ¬ pos < s.size) (h : goodTo s pos) : s.data.toList.any badByte = false := by
  rw [List.any_eq_false]
  intro c hc
  obtain ⟨j, hj, rfl⟩ := List.getElem_of_mem hc
  have hj' : j < s.size := by simpa using hj
  have e := get_data s j hj'
  rw [List.getElem?_eq_getElem hj] at e
  rw [Option.some.inj e, h j (by omega) hj']
  simp
theorem not_good (s : ByteArray) (pos : Nat) (hp : pos < s.size) (h : badByte (s.get! pos) = true) : s.data.toList.any badByte = true := by
  rw [List.any_eq_true]
  exact ⟨_, List.mem_of_getElem? (get_data s pos hp), h⟩
theorem goodTo_ascii (s : ByteArray) (pos : Nat) (h : goodTo s pos) (hb : badByte (s.get! pos) = false) : goodTo s (pos + 1) := by
  intro j h1 h2
  by_cases e : j = pos
  · subst e; exact hb
  · exact h j (by omega) h2
theorem goodTo_high (s : ByteArray) (pos n : Nat) (h : goodTo s pos) (hb : ∀ j, pos ≤ j → j < pos + n → 128 ≤ (s.get! j).toNat) : goodTo s (pos + n) := by
  intro j h1 h2
  by_cases e : j < pos
  · exact h j e h2
  · have := hb j (by omega) h1
    simp only [badByte, Bool.or_eq_false_iff, beq_eq_false_iff_ne]
    omega
/-- What stands between a list's 47s. -/
def cuts : List UInt8 → List (List UInt8)
  | [] => [[]]
  | c :: t => if c = 47 then [] :: cuts t else match cuts t with
    | [] => [[c]]
    | p :: ps => (c :: p) :: ps
theorem cuts_ne (l : List UInt8) : cuts l ≠ [] := by
  cases l with
  | nil => simp [cuts]
  | cons c t =>
    unfold cuts
    split
    · simp
    · split <;> simp
theorem cuts_none (l : List UInt8) (h : ∀ c ∈ l, c ≠ 47) : cuts l = [l] := by
  induction l with
  | nil => rfl
  | cons c t ih =>
    have hc : c ≠ 47 := h c (by simp)
    rw [cuts, if_neg hc, ih (fun x hx => h x (by simp [hx]))]
theorem cuts_cut (a b : List UInt8) (h : ∀ c ∈ a, c ≠ 47) : cuts (a ++ 47 :: b) = a :: cuts b := by
  induction a with
  | nil => simp [cuts]
  | cons c t ih =>
    have hc : c ≠ 47 := h c (by simp)
    rw [List.cons_append, cuts, if_neg hc, ih (fun x hx => h x (by simp [hx]))]
/-- A list of bytes as a text. -/
def tx (l : List UInt8) : ByteArray := ⟨l.toArray⟩
theorem tx_list (l : List UInt8) : (tx l).data.toList = l := by simp [tx]
theorem tx_data (s : ByteArray) : tx s.data.toList = s := by
  cases s; simp [tx]
theorem extract_tx (s : ByteArray) (a b : Nat) : s.extract a b = tx ((s.data.toList.drop a).take (b - a)) := by
  apply ByteArray.ext
  apply Array.ext'
  simp [tx, List.extract_eq_take_drop]
/-- The pieces of a text. -/
def pieces (s : ByteArray) : List ByteArray := if s.toList = [] then [] else (cuts s.data.toList).map tx
/-- No slash from one place up to another. -/
def plainIn (s : ByteArray) (a b : Nat) : Prop := ∀ j, a ≤ j → j < b → j < s.size → s.get! j ≠ 47
/-- What a left-to-right cutting has done. -/
structure Cutting (s : ByteArray) (acc : List ByteArray) (a b : Nat) : Prop where
  few : acc.length ≤ a
  le : a ≤ b
  le' : b ≤ s.size
  plain : plainIn s a b
  all : (cuts s.data.toList).map tx = acc ++ (cuts (s.data.toList.drop a)).map tx
theorem Cutting.start (s : ByteArray) : Cutting s [] 0 0 := ⟨Nat.le_refl _, Nat.le_refl _, Nat.zero_le _, fun j _ h => by omega, by simp⟩
theorem drop_get (s : ByteArray) (j : Nat) (h : j < s.size) : s.data.toList.drop j = s.get! j :: s.data.toList.drop (j + 1) := by
  have hj : j < s.data.toList.length := by simpa using h
  rw [List.drop_eq_getElem_cons hj]
  congr 1
  have e := get_data s j h
  rw [List.getElem?_eq_getElem hj] at e
  exact Option.some.inj e
theorem mem_mid (s : ByteArray) (a b : Nat) (c : UInt8) (h : c ∈ (s.data.toList.drop a).take (b - a)) : ∃ j, a ≤ j ∧ j < b ∧ j < s.size ∧ s.get! j = c := by
  obtain ⟨i, hi, rfl⟩ := List.getElem_of_mem h
  rw [List.length_take, List.length_drop] at hi
  have hl : a + i < s.size := by
    have : s.data.toList.length = s.size := by simp
    omega
  refine ⟨a + i, by omega, by omega, hl, ?_⟩
  have e := get_data s (a + i) hl
  rw [List.getElem_take, List.getElem_drop]
  have hl' : a + i < s.data.toList.length := by simpa using hl
  rw [List.getElem?_eq_getElem hl'] at e
  exact (Option.some.inj e).symm
theorem Cutting.slash {s : ByteArray} {acc : List ByteArray} {a b : Nat} (h : Cutting s acc a b) (hb : b < s.size) (hs : s.get! b = 47) :
    Cutting s (acc ++ [s.extract a b]) (b + 1) (b + 1) := by
  refine ⟨by have := h.few; have := h.le; rw [List.length_append, List.length_singleton]; omega, Nat.le_refl _, by omega, fun j h1 h2 => by omega, ?_⟩
  have e : s.data.toList.drop a = (s.data.toList.drop a).take (b - a) ++ 47 :: s.data.toList.drop (b + 1) := by
    have h1 := (List.take_append_drop (b - a) (s.data.toList.drop a)).symm
    rw [List.drop_drop, show a + (b - a) = b by have := h.le; omega, drop_get s b hb, hs] at h1
    exact h1
  rw [h.all, e, cuts_cut _ _ (fun c hc => ?_), List.map_cons, extract_tx]
  · simp
  · obtain ⟨j, h1, h2, h3, rfl⟩ := mem_mid s a b c hc
    exact h.plain j h1 h2 h3
theorem Cutting.pass {s : ByteArray} {acc : List ByteArray} {a b n : Nat} (h : Cutting s acc a b) (hn : b + n ≤ s.size) (hs : ∀ j, b ≤ j → j < b + n → s.get! j ≠ 47) :
    Cutting s acc a (b + n) :=
  ⟨h.few, by have := h.le; omega, hn, fun j h1 h2 h3 => by
    by_cases e : j < b
    · exact h.plain j h1 e h3
    · exact hs j (by omega) h2, h.all⟩
theorem Cutting.fin {s : ByteArray} {acc : List ByteArray} {a b : Nat} (h : Cutting s acc a b) (hb : ¬ b < s.size) (h0 : ¬ s.toList = []) :
    pieces s = acc ++ [s.extract a s.size] := by
  have e : s.data.toList.drop a = (s.data.toList.drop a).take (s.size - a) := by
    rw [List.take_of_length_le]; rw [List.length_drop]; simp
  rw [pieces, if_neg h0, h.all, cuts_none _ (fun c hc => ?_), extract_tx, ← e]
  · rfl
  · rw [e] at hc
    obtain ⟨j, h1, h2, h3, rfl⟩ := mem_mid s a s.size c hc
    exact h.plain j h1 (by omega) h3
theorem cuts_sum (l : List UInt8) : (cuts l).length + ((cuts l).map List.length).sum = l.length + 1 := by
  induction l with
  | nil => simp [cuts]
  | cons c t ih =>
    rw [cuts]
    split
    · simp; omega
    · cases hc : cuts t with
      | nil => exact absurd hc (cuts_ne t)
      | cons p ps =>
        rw [hc] at ih
        simp at ih ⊢
        omega
theorem pieces_few (s : ByteArray) (n : Nat) (h : s.size ≤ n) : (pieces s).length ≤ n + 1 := by
  unfold pieces
  split
  · simp
  · have h1 := cuts_sum s.data.toList
    have h2 : s.data.toList.length = s.size := by simp
    rw [List.length_map]
    omega
theorem sum_mem (L : List (List UInt8)) (l : List UInt8) (h : l ∈ L) : l.length ≤ (L.map List.length).sum := by
  induction L with
  | nil => simp at h
  | cons a t ih =>
    rcases List.mem_cons.1 h with rfl | h
    · simp
    · have := ih h
      simp
      omega
theorem pieces_size (s x : ByteArray) (h : x ∈ pieces s) : x.size ≤ s.size := by
  unfold pieces at h
  split at h
  · simp at h
  · obtain ⟨l, hl, rfl⟩ := List.mem_map.1 h
    have h1 := cuts_sum s.data.toList
    have h2 : s.data.toList.length = s.size := by simp
    have h3 : l.length ≤ ((cuts s.data.toList).map List.length).sum := sum_mem _ _ hl
    have h4 := List.length_pos_of_mem hl
    have h5 : (tx l).size = l.length := by simp [tx, ByteArray.size]
    omega
theorem toList_loop (s : ByteArray) (n : Nat) : ∀ (i : Nat) (r : List UInt8), s.size - i = n → i ≤ s.size → ByteArray.toList.loop s i r = r.reverse ++ s.data.toList.drop i := by
  induction n with
  | zero =>
    intro i r h1 h2
    rw [ByteArray.toList.loop, if_neg (by omega), List.drop_eq_nil_of_le (by simp; omega)]
    simp
  | succ n ih =>
    intro i r h1 h2
    rw [ByteArray.toList.loop, if_pos (by omega), ih (i + 1) _ (by omega) (by omega), drop_get s i (by omega)]
    simp
theorem toList_data (s : ByteArray) : s.toList = s.data.toList := by
  rw [ByteArray.toList, toList_loop s s.size 0 [] (by omega) (by omega)]
  simp
end Go.Proofs.YtoidibkcdkdneaaGreatDoor.MStr
end
section
namespace Go.Proofs.YtoidibkcdkdneaaGreatDoor.MPat
set_option linter.unusedVariables false
set_option linter.unusedSimpArgs false
/-- Do the signs from i on (of n) fit the things from k on (of them)? M: many; O: just this one. -/
def mt (n of : Nat) (M : Nat → Bool) (O : Nat → Nat → Bool) (i k : Nat) : Bool :=
  if i < n then
    if M i then mt n of M O (i + 1) k || (if k < of then mt n of M O i (k + 1) else false)
    else if k < of then O i k && mt n of M O (i + 1) (k + 1) else false
  else decide (of ≤ k)
termination_by (n - i) + (of - k)
section
variable {n of : Nat} {M : Nat → Bool} {O : Nat → Nat → Bool}
theorem mt_end {i k : Nat} (h : ¬ i < n) : mt n of M O i k = decide (of ≤ k) := by rw [mt, if_neg h]
theorem mt_many {i k : Nat} (h : i < n) (hM : M i = true) : mt n of M O i k = (mt n of M O (i + 1) k || (if k < of then mt n of M O i (k + 1) else false)) := by
  rw [mt, if_pos h, if_pos hM]
theorem mt_one {i k : Nat} (h : i < n) (hM : M i = false) : mt n of M O i k = (if k < of then O i k && mt n of M O (i + 1) (k + 1) else false) := by
  rw [mt, if_pos h, if_neg (by simp [hM])]
/-- A many-sign may begin earlier. -/
theorem mt_early {i k : Nat} (h : i < n) (hM : M i = true) (d : Nat) : k + d ≤ of → mt n of M O i (k + d) = true → mt n of M O i k = true := by
  induction d with
  | zero => exact fun _ h => h
  | succ d ih =>
    intro h1 h2
    apply ih (by omega)
    rw [mt_many h hM, if_pos (by omega), show k + d + 1 = k + (d + 1) from rfl, h2]
    simp
/-- What a many-sign takes: any number. -/
theorem mt_star {i k : Nat} (h : i < n) (hM : M i = true) (hk : k ≤ of) : mt n of M O i k = true ↔ ∃ j, k ≤ j ∧ j ≤ of ∧ mt n of M O (i + 1) j = true := by
  constructor
  · have key : ∀ d k, of - k = d → k ≤ of → mt n of M O i k = true → ∃ j, k ≤ j ∧ j ≤ of ∧ mt n of M O (i + 1) j = true := by
      intro d
      induction d with
      | zero =>
        intro k h1 h2 h3
        rw [mt_many h hM, if_neg (by omega), Bool.or_false] at h3
        exact ⟨k, Nat.le_refl _, h2, h3⟩
      | succ d ih =>
        intro k h1 h2 h3
        rw [mt_many h hM, if_pos (by omega), Bool.or_eq_true] at h3
        rcases h3 with h3 | h3
        · exact ⟨k, Nat.le_refl _, h2, h3⟩
        · obtain ⟨j, a, b, c⟩ := ih (k + 1) (by omega) (by omega) h3
          exact ⟨j, by omega, b, c⟩
    exact key _ k rfl hk
  · rintro ⟨j, h1, h2, h3⟩
    obtain ⟨d, rfl⟩ : ∃ d, j = k + d := ⟨j - k, by omega⟩
    apply mt_early h hM d h2
    rw [mt_many h hM, h3, Bool.true_or]
/-- Over a stretch without many-signs each sign takes one thing. -/
theorem mt_seg {b : Nat} (m : Nat) : ∀ j, (∀ d, d < m → M (b + d) = false) → b + m ≤ n → j ≤ of → mt n of M O b j = true → j + m ≤ of ∧ mt n of M O (b + m) (j + m) = true := by
  induction m with
  | zero => exact fun j _ _ h1 h2 => ⟨h1, h2⟩
  | succ m ih =>
    intro j h1 h2 h3 h4
    obtain ⟨a, c⟩ := ih j (fun d hd => h1 d (by omega)) (by omega) h3 h4
    rw [mt_one (by omega) (h1 m (by omega))] at c
    split at c
    · rw [Bool.and_eq_true] at c
      exact ⟨by omega, c.2⟩
    · cases c
/-- The state of the program's search. b: behind the last many-sign; t: how far what it took reaches; m: signs taken since. -/
structure Seek (n of : Nat) (M : Nat → Bool) (O : Nat → Nat → Bool) (b t m : Nat) (star : Bool) : Prop where
  le : b + m ≤ n
  le' : t + m ≤ of
  plain : ∀ d, d < m → M (b + d) = false
  none : star = false → b = 0 ∧ t = 0
  some : star = true → 0 < b
  iff : mt n of M O 0 0 = true ↔ mt n of M O (b + m) (t + m) = true ∨ (star = true ∧ ∃ j, t < j ∧ j ≤ of ∧ mt n of M O b j = true)
theorem Seek.start : Seek n of M O 0 0 0 false := ⟨Nat.zero_le _, Nat.zero_le _, (fun d h => by omega), (fun _ => ⟨rfl, rfl⟩), (fun h => by cases h), by simp⟩
variable {b t m : Nat} {star : Bool}
theorem Seek.many (h : Seek n of M O b t m star) (h1 : b + m < n) (hM : M (b + m) = true) : Seek n of M O (b + m + 1) (t + m) 0 true := by
  refine ⟨by omega, h.le', (fun d hd => by omega), (fun h => by cases h), (fun _ => by omega), ?_⟩
  rw [h.iff, Nat.add_zero, Nat.add_zero]
  have hs := mt_star (O := O) h1 hM h.le'
  constructor
  · intro hx
    have hy : mt n of M O (b + m) (t + m) = true := by
      rcases hx with hx | ⟨_, j, h2, h3, h4⟩
      · exact hx
      · obtain ⟨h5, h6⟩ := mt_seg m j h.plain h.le h3 h4
        obtain ⟨d, hd⟩ : ∃ d, j + m = t + m + d := ⟨j - t, by omega⟩
        rw [hd] at h5 h6
        exact mt_early h1 hM d h5 h6
    obtain ⟨j, h2, h3, h4⟩ := hs.1 hy
    rcases Nat.lt_or_ge (t + m) j with hj | hj
    · exact .inr ⟨rfl, j, hj, h3, h4⟩
    · obtain rfl : j = t + m := by omega
      exact .inl h4
  · intro hx
    refine .inl (hs.2 ?_)
    rcases hx with hx | ⟨_, j, h2, h3, h4⟩
    · exact ⟨_, Nat.le_refl _, h.le', hx⟩
    · exact ⟨j, by omega, h3, h4⟩
theorem Seek.one (h : Seek n of M O b t m star) (h1 : b + m < n) (hM : M (b + m) = false) (hk : t + m < of) (hO : O (b + m) (t + m) = true) : Seek n of M O b t (m + 1) star := by
  refine ⟨by omega, by omega, (fun d hd => ?_), h.none, h.some, ?_⟩
  · rcases Nat.lt_or_ge d m with hd' | hd'
    · exact h.plain d hd'
    · obtain rfl : d = m := by omega
      exact hM
  · rw [h.iff, mt_one h1 hM, if_pos hk, hO, Bool.true_and]
    exact Iff.rfl
/-- Nothing fits here. -/
theorem stuck (hk : t + m < of) (hM : b + m < n → M (b + m) = false) (hO : b + m < n → O (b + m) (t + m) = false) : mt n of M O (b + m) (t + m) = false := by
  by_cases h1 : b + m < n
  · rw [mt_one h1 (hM h1), if_pos hk, hO h1, Bool.false_and]
  · rw [mt_end h1]
    exact decide_eq_false (by omega)
theorem Seek.back (h : Seek n of M O b t m true) (hk : t + m < of) (hM : b + m < n → M (b + m) = false) (hO : b + m < n → O (b + m) (t + m) = false) : Seek n of M O b (t + 1) 0 true := by
  have hf := stuck hk hM hO
  refine ⟨by have := h.le; omega, by omega, (fun d hd => by omega), (fun h => by cases h), h.some, ?_⟩
  rw [h.iff, hf, Nat.add_zero, Nat.add_zero]
  constructor
  · rintro (hx | ⟨_, j, h2, h3, h4⟩)
    · cases hx
    · rcases Nat.lt_or_ge (t + 1) j with hj | hj
      · exact .inr ⟨rfl, j, hj, h3, h4⟩
      · obtain rfl : j = t + 1 := by omega
        exact .inl h4
  · rintro (hx | ⟨_, j, h2, h3, h4⟩)
    · exact .inr ⟨rfl, t + 1, by omega, by omega, hx⟩
    · exact .inr ⟨rfl, j, by omega, h3, h4⟩
theorem Seek.fail (h : Seek n of M O b t m false) (hk : t + m < of) (hM : b + m < n → M (b + m) = false) (hO : b + m < n → O (b + m) (t + m) = false) : mt n of M O 0 0 = false := by
  have hf := stuck hk hM hO
  rw [Bool.eq_false_iff]
  intro hx
  rw [h.iff, hf] at hx
  simp at hx
theorem Seek.last (h : Seek n of M O b t m star) (hk : ¬ t + m < of) : mt n of M O 0 0 = mt n of M O (b + m) of := by
  have he : t + m = of := by have := h.le'; omega
  rw [Bool.eq_iff_iff, h.iff, he]
  constructor
  · rintro (hx | ⟨_, j, h2, h3, h4⟩)
    · exact hx
    · have := (mt_seg m j h.plain h.le h3 h4).1
      omega
  · exact .inl
theorem mt_tail {i : Nat} (h : i < n) (hM : M i = true) : mt n of M O i of = mt n of M O (i + 1) of := by rw [mt_many h hM, if_neg (by omega), Bool.or_false]
theorem mt_tail_no {i : Nat} (h : i < n) (hM : M i = false) : mt n of M O i of = false := by rw [mt_one h hM, if_neg (by omega)]
theorem mt_fin {i : Nat} (h : ¬ i < n) : mt n of M O i of = true := by rw [mt_end h]; exact decide_eq_true (Nat.le_refl _)
end
/-- How much of the search is left. -/
def left (n of b t m : Nat) : Nat := (n - b) * ((of + 2) * (of + 2)) + (of - t) * (of + 2) + (of - (t + m))
theorem left_many {n of b t m : Nat} (h1 : b + m < n) (h2 : t + m ≤ of) : left n of (b + m + 1) (t + m) 0 < left n of b t m := by
  unfold left
  have e1 : n - b = (n - (b + m + 1)) + (m + 1) := by omega
  rw [e1, Nat.add_mul (n - (b + m + 1)) (m + 1)]
  have h3 : (of + 2) * (of + 2) ≤ (m + 1) * ((of + 2) * (of + 2)) := Nat.le_mul_of_pos_left _ (by omega)
  have h4 : (of - (t + m)) * (of + 2) ≤ of * (of + 2) := Nat.mul_le_mul_right _ (by omega)
  have h5 : (of + 2) * (of + 2) = of * (of + 2) + 2 * (of + 2) := Nat.add_mul _ _ _
  generalize (n - (b + m + 1)) * ((of + 2) * (of + 2)) = X at *
  generalize (m + 1) * ((of + 2) * (of + 2)) = Y at *
  generalize (of + 2) * (of + 2) = Z at *
  generalize of * (of + 2) = U at *
  generalize (of - (t + m)) * (of + 2) = V at *
  generalize (of - t) * (of + 2) = T at *
  omega
theorem left_one {n of b t m : Nat} (h2 : t + m < of) : left n of b t (m + 1) < left n of b t m := by
  unfold left
  generalize (n - b) * ((of + 2) * (of + 2)) = X at *
  generalize (of - t) * (of + 2) = T at *
  omega
theorem left_back {n of b t m : Nat} (h2 : t + m < of) : left n of b (t + 1) 0 < left n of b t m := by
  unfold left
  have e1 : of - t = (of - (t + 1)) + 1 := by omega
  rw [e1, Nat.add_mul (of - (t + 1)) 1]
  generalize (n - b) * ((of + 2) * (of + 2)) = X at *
  generalize (of - (t + 1)) * (of + 2) = T at *
  omega
theorem left_lt {n of a b c a' b' c' x1 x2 x3 y1 y2 y3 : Nat} (h : left n of a b c < left n of a' b' c') (e1 : x1 = a) (e2 : x2 = b) (e3 : x3 = c) (e4 : y1 = a') (e5 : y2 = b') (e6 : y3 = c') :
    left n of x1 x2 x3 < left n of y1 y2 y3 := by
  subst e1 e2 e3 e4 e5 e6
  exact h
end Go.Proofs.YtoidibkcdkdneaaGreatDoor.MPat
end
