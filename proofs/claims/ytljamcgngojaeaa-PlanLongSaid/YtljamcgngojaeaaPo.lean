/- The plan: the room that its items need, by going through them (plain law). -/
import Derived.Test.YtljamcgngojaeaaPm
namespace Go.Proofs.Ytljamcgngojaeaa.T
open Go.Proofs.Ytljamcgngojaeaa.E
set_option maxRecDepth 100000
set_option linter.unusedVariables false
/-- What two volumes hold beside what they had, and the most of it. -/
structure RS where
  hn0 : Int
  hb0 : Int
  hn1 : Int
  hb1 : Int
  gn0 : Int
  gb0 : Int
  gn1 : Int
  gb1 : Int
def rs0 : RS := ⟨0, 0, 0, 0, 0, 0, 0, 0⟩
def rm0 (c : Cell) (s : RS) : RS := ⟨s.hn0 + c.names - c.hadN, s.hb0 + c.bytes - c.hadB, s.hn1, s.hb1, max s.gn0 (s.hn0 + c.names), max s.gb0 (s.hb0 + c.bytes), s.gn1, s.gb1⟩
def rm1 (c : Cell) (s : RS) : RS := ⟨s.hn0, s.hb0, s.hn1 + c.names - c.hadN, s.hb1 + c.bytes - c.hadB, s.gn0, s.gb0, max s.gn1 (s.hn1 + c.names), max s.gb1 (s.hb1 + c.bytes)⟩
def rmStep (l : List Cell) (s : RS) (it : Item) : RS := if it.what = 3 then if it.dst = 0 then rm0 (rd l it.cell.toNat cell0) s else rm1 (rd l it.cell.toNat cell0) s else s
def rmF (l : List Cell) (its : List Item) : RS := its.foldl (rmStep l) rs0
theorem rmF_snoc (l : List Cell) (its : List Item) (it : Item) : rmF l (its ++ [it]) = rmStep l (rmF l its) it := by simp [rmF]
structure LowC (c : Cell) : Prop where
  names : 0 ≤ c.names ∧ c.names < 1099511627776
  bytes : 0 ≤ c.bytes ∧ c.bytes < 1099511627776
  hadN : 0 ≤ c.hadN ∧ c.hadN < 1099511627776
  hadB : 0 ≤ c.hadB ∧ c.hadB < 1099511627776
def LowR (l : List Cell) : Prop := ∀ c ∈ l, LowC c
theorem LowR.rd {l : List Cell} (h : LowR l) (i : Nat) : LowC (rd l i cell0) := by
  unfold E.rd
  rw [List.getD_eq_getElem?_getD]
  rcases Nat.lt_or_ge i l.length with h' | h'
  · rw [List.getElem?_eq_getElem h']; exact h _ (List.getElem_mem h')
  · rw [List.getElem?_eq_none h']; exact ⟨⟨by decide, by decide⟩, ⟨by decide, by decide⟩, ⟨by decide, by decide⟩, by decide, by decide⟩
theorem pc_lowR (l : List Cell) : LowR (pc l) := fun c hc => by
  obtain ⟨d, hd, rfl⟩ := mem_pc hc
  exact ⟨smallF_range _, smallF_range _, smallF_range _, smallF_range _⟩
/-- No number is out of bounds. -/
structure RS.In (s : RS) (m : Nat) : Prop where
  hn0 : -(m * 1099511627776 : Int) ≤ s.hn0 ∧ s.hn0 ≤ m * 1099511627776
  hb0 : -(m * 1099511627776 : Int) ≤ s.hb0 ∧ s.hb0 ≤ m * 1099511627776
  hn1 : -(m * 1099511627776 : Int) ≤ s.hn1 ∧ s.hn1 ≤ m * 1099511627776
  hb1 : -(m * 1099511627776 : Int) ≤ s.hb1 ∧ s.hb1 ≤ m * 1099511627776
theorem rmStep_in {l : List Cell} (h : LowR l) {s : RS} {m : Nat} (hs : s.In m) (it : Item) : (rmStep l s it).In (m + 1) := by
  obtain ⟨h1, h2, h3, h4⟩ := hs
  have c := h.rd it.cell.toNat
  obtain ⟨c1, c2, c3, c4⟩ := c
  have e : ((m + 1 : Nat) : Int) = (m : Int) + 1 := by omega
  unfold rmStep
  split
  · split
    · constructor <;> simp only [rm0, e] <;> omega
    · constructor <;> simp only [rm1, e] <;> omega
  · constructor <;> rw [e] <;> omega
theorem foldl_in {l : List Cell} (h : LowR l) : ∀ (its : List Item) {s : RS} {m : Nat}, s.In m → (its.foldl (rmStep l) s).In (m + its.length)
  | [], s, m, hs => hs
  | it :: its, s, m, hs => by
    have := foldl_in h its (rmStep_in h hs it)
    rw [List.length_cons, show m + (its.length + 1) = m + 1 + its.length by omega]
    exact this
theorem rmF_in {l : List Cell} (h : LowR l) (its : List Item) : (rmF l its).In its.length := by
  have := foldl_in h its (s := rs0) (m := 0) ⟨⟨by decide, by decide⟩, ⟨by decide, by decide⟩, ⟨by decide, by decide⟩, by decide, by decide⟩
  rw [Nat.zero_add] at this
  exact this
/-- The items of a plan. -/
theorem ofS_items (l : List Cell) (B : List Bool) : ∀ j, (ofS l B j).items.length ≤ j ∧ ∀ it ∈ (ofS l B j).items, (0 ≤ it.cell ∧ it.cell < j) ∧ (it.dst = 0 ∨ it.dst = 1)
  | 0 => ⟨Nat.le_refl _, fun it h => by simp [ofS, ps0] at h⟩
  | j + 1 => by
    obtain ⟨h1, h2⟩ := ofS_items l B j
    have keep : (ofS l B j).items.length ≤ j + 1 ∧ ∀ it ∈ (ofS l B j).items, (0 ≤ it.cell ∧ it.cell < ((j + 1 : Nat) : Int)) ∧ (it.dst = 0 ∨ it.dst = 1) :=
      ⟨by omega, fun it h => ⟨by have := (h2 it h).1; omega, (h2 it h).2⟩⟩
    have add : ∀ n (a b m : Int), (b = 0 ∨ b = 1) → ((ofS l B j).items ++ [itemOf l j n a b m]).length ≤ j + 1 ∧ ∀ it ∈ (ofS l B j).items ++ [itemOf l j n a b m], (0 ≤ it.cell ∧ it.cell < ((j + 1 : Nat) : Int)) ∧ (it.dst = 0 ∨ it.dst = 1) := by
      intro n a b m hb
      refine ⟨by simp; omega, fun it h => ?_⟩
      rcases List.mem_append.1 h with h | h
      · exact keep.2 it h
      · obtain rfl := List.mem_singleton.1 h
        exact ⟨⟨by simp [itemOf], by simp [itemOf]; omega⟩, hb⟩
    simp only [ofS, ofStep]
    (repeat' split) <;> first | exact keep | exact add _ _ _ _ (.inl rfl) | exact add _ _ _ _ (.inr rfl)
theorem rm_law {l : List Cell} (h : LowR l) (h300 : l.length ≤ 300) (B : List Bool) : ∀ j, j ≤ l.length → rmF l (ofS l B j).items = ⟨(ofS l B j).x0, (ofS l B j).y0, (ofS l B j).x1, (ofS l B j).y1, (ofS l B j).n0, (ofS l B j).b0, (ofS l B j).n1, (ofS l B j).b1⟩
  | 0, _ => rfl
  | j + 1, hj => by
    have ih := rm_law h h300 B j (by omega)
    have hin := rmF_in h (ofS l B j).items
    have hlen := (ofS_items l B j).1
    rw [ih] at hin
    obtain ⟨b1, b2, b3, b4⟩ := hin
    have hm : ((ofS l B j).items.length : Int) * 1099511627776 ≤ 300 * 1099511627776 := by omega
    simp only at b1 b2 b3 b4
    obtain ⟨c1, c2, c3, c4⟩ := h.rd j
    have big : ∀ a b : Int, -(1000 * 1099511627776) ≤ a → a ≤ 1000 * 1099511627776 → -(1000 * 1099511627776) ≤ b → b ≤ 1000 * 1099511627776 → addF a b = a + b := by
      intro a b h1 h2 h3 h4
      unfold addF
      rw [if_neg (by omega), if_neg (by omega)]
    have m1 : max (rd l j cell0).names 0 = (rd l j cell0).names := by omega
    have m2 : max (rd l j cell0).bytes 0 = (rd l j cell0).bytes := by omega
    have m3 : max (rd l j cell0).hadN 0 = (rd l j cell0).hadN := by omega
    have m4 : max (rd l j cell0).hadB 0 = (rd l j cell0).hadB := by omega
    have e : cAt l j = rd l j cell0 := rfl
    simp only [ofS, ofStep]
    (repeat' split)
    · exact ih
    · rename_i hw
      rw [stBoth, rmF_snoc, rmStep, if_neg (by simp only [itemOf]; omega), ih]
    · rename_i hw _ hw2
      rw [stTo1, rmF_snoc, rmStep, if_pos (by simp only [itemOf]; omega), if_neg (by simp [itemOf]), ih]
      simp only [itemOf, Int.toNat_natCast, rm1, e, m1, m2, m3, m4]
      have a1 := big (ofS l B j).x1 (rd l j cell0).names (by omega) (by omega) (by omega) (by omega)
      have a2 := big (ofS l B j).y1 (rd l j cell0).bytes (by omega) (by omega) (by omega) (by omega)
      have a3 := big ((ofS l B j).x1 + (rd l j cell0).names) (0 - (rd l j cell0).hadN) (by omega) (by omega) (by omega) (by omega)
      have a4 := big ((ofS l B j).y1 + (rd l j cell0).bytes) (0 - (rd l j cell0).hadB) (by omega) (by omega) (by omega) (by omega)
      rw [a1, a2, a3, a4]
      simp only [Int.sub_eq_add_neg, Int.zero_add]
    · rename_i hw
      rw [stBoth, rmF_snoc, rmStep, if_neg (by simp only [itemOf]; omega), ih]
    · rename_i hw _ _ hw2
      rw [stTo0, rmF_snoc, rmStep, if_pos (by simp only [itemOf]; omega), if_pos (by simp [itemOf]), ih]
      simp only [itemOf, Int.toNat_natCast, rm0, e, m1, m2, m3, m4]
      have a1 := big (ofS l B j).x0 (rd l j cell0).names (by omega) (by omega) (by omega) (by omega)
      have a2 := big (ofS l B j).y0 (rd l j cell0).bytes (by omega) (by omega) (by omega) (by omega)
      have a3 := big ((ofS l B j).x0 + (rd l j cell0).names) (0 - (rd l j cell0).hadN) (by omega) (by omega) (by omega) (by omega)
      have a4 := big ((ofS l B j).y0 + (rd l j cell0).bytes) (0 - (rd l j cell0).hadB) (by omega) (by omega) (by omega) (by omega)
      rw [a1, a2, a3, a4]
      simp only [Int.sub_eq_add_neg, Int.zero_add]
    · exact ih
    · exact ih
end Go.Proofs.Ytljamcgngojaeaa.T
