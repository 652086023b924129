/- The law WirePuts: what its proof needs of lists. -/
import Derived.Test.YtndlpbheifalhaaGreatDoorWc
namespace Go.Proofs.YtndlpbheifalhaaGreatDoor.T
open Go.Proofs.YtndlpbheifalhaaGreatDoor.E
set_option maxRecDepth 100000
set_option linter.unusedVariables false
theorem bump_zero (l : List Int) : bump l 0 = l := by simp [bump]
theorem bump_len (l : List Int) (i : Nat) (h : i ≤ l.length) : (bump l i).length = l.length := by simp [bump]; omega
theorem bump_rd (l : List Int) (z : Nat) (h : z < l.length) (d : Int) : rd (bump l z ++ lots 600) z d = rd l z d := by
  have h1 : ((l.take z).map (fun x => IntKind.wrap .u8 (x + 1))).length = z := by simp; omega
  unfold rd bump
  rw [List.getD_eq_getElem?_getD, List.getD_eq_getElem?_getD, List.append_assoc, List.getElem?_append_right (by omega), h1, Nat.sub_self, List.getElem?_append_left (by simp; omega), List.getElem?_drop]
  simp
theorem bump_set (l : List Int) (z : Nat) (h : z < l.length) (x : Int) (hx : x = IntKind.wrap .u8 (rd l z 0 + 1)) : (bump l z ++ lots 600).set z x = bump l (z + 1) ++ lots 600 := by
  subst hx
  have e : l.drop z = rd l z 0 :: l.drop (z + 1) := drop_rd h 0
  have h1 : ((l.take z).map (fun x => IntKind.wrap .u8 (x + 1))).length = z := by simp; omega
  have e2 : l.take (z + 1) = l.take z ++ [rd l z 0] := take_succ_rd h
  unfold bump
  rw [e, e2, List.map_append, List.append_assoc, List.append_assoc, List.append_assoc]
  rw [List.set_append_right _ _ (by omega), h1, Nat.sub_self]
  rfl
theorem lots_rd (k : Nat) (h : k < 600) (d : Int) : rd (lots 600) k d = lotB k := by
  unfold rd lots
  rw [List.getD_eq_getElem?_getD, List.getElem?_map, List.getElem?_range h]; rfl
theorem Lent.row {l : List Int} {i b c : Nat} {B : BS} {φ : Bag KK} (h : Lent l i b c B φ) (hi : i ≤ l.length) : (RS.mk b 0 l.length (far l)).row φ Kd.u8 = some (bump l i) := by
  obtain ⟨h1, h2, _⟩ := h
  have h3 := bump_len l i hi
  have hf : far l = l.length + 600 := rfl
  have := RS.row_of (K := KK) (φ := φ) (kd := Kd.u8) (b := b) (lo := 0) (len := l.length) (cap := far l) (xs := bump l i ++ lots 600) h1 (by show 0 + l.length ≤ (bump l i ++ lots 600).length; rw [List.length_append]; omega) (by omega) (by omega)
  rw [this]
  refine congrArg some ?_
  show List.take l.length (List.drop 0 (bump l i ++ lots 600)) = bump l i
  rw [List.drop_zero, ← h3, List.take_left]
theorem Lent.has {l : List Int} {i b c : Nat} {B : BS} {φ : Bag KK} (h : Lent l i b c B φ) (hi : i ≤ l.length) (hl : l.length ≤ 65536) : Has φ (RS.mk b 0 l.length (far l)) ∧ cont φ (RS.mk b 0 l.length (far l)) = bump l i :=
  ⟨Has.of (h.row hi) (by rw [bump_len l i hi]; omega), cont_of (h.row hi)⟩
theorem Lent.marks {l : List Int} {i b c : Nat} {B : BS} {φ : Bag KK} (h : Lent l i b c B φ) (hi : i ≤ l.length) (hl : l.length ≤ 65536) : Marks [RS.mk b 0 (far l) c] [(l.length : Int)] φ := by
  obtain ⟨g1, g2, _⟩ := h
  have h1 := bump_len l i hi
  have hf : far l = l.length + 600 := rfl
  have hlen : (bump l i ++ lots 600).length = far l := by rw [List.length_append, lots_len]; omega
  refine ⟨rfl, by simp, fun q hq => ?_⟩
  obtain rfl : q = 0 := by simp at hq; exact hq
  refine ⟨bump l i ++ lots 600, ?_, by omega, ⟨by show (0 : Int) ≤ (l.length : Int); omega, by show (l.length : Int) ≤ _; omega⟩, fun k hk hk2 => ?_⟩
  · have := RS.row_of (K := KK) (φ := φ) (kd := Kd.u8) (b := b) (lo := 0) (len := far l) (cap := c) (xs := bump l i ++ lots 600) g1 (by show 0 + far l ≤ (bump l i ++ lots 600).length; omega) (by omega) g2
    show RS.row φ Kd.u8 (RS.mk b 0 (far l) c) = _
    rw [this]
    refine congrArg some ?_
    show List.take (far l) (List.drop 0 (bump l i ++ lots 600)) = bump l i ++ lots 600
    rw [List.drop_zero, List.take_of_length_le (by omega)]
  · have hk : (l.length : Int) ≤ (k : Int) := hk
    have e : rd (bump l i ++ lots 600) k 0 = rd (lots 600) (k - l.length) 0 := by
      unfold rd
      rw [List.getD_eq_getElem?_getD, List.getD_eq_getElem?_getD, List.getElem?_append_right (by omega), h1]
    rw [e, lots_rd _ (by omega)]
    congr 1
    show ((k - l.length : Nat) : Int) = (k : Int) - (l.length : Int)
    omega
theorem Lent.ext {l : List Int} {i b c : Nat} {B : BS} {φ ψ : Bag KK} (h : Lent l i b c B φ) (e : Ext φ ψ) : Lent l i b c B ψ := ⟨e _ _ h.1, h.2.1, h.2.2⟩
theorem Lent.book {l : List Int} {i b c : Nat} {B C : BS} {φ ψ : Bag KK} {x : RS} (h : Lent l i b c B φ) (hx : ¬ x.At b) (k : StaysX φ B.bk x ψ C.bk) : Lent l i b c C ψ := by
  obtain ⟨h1, h2, h3⟩ := h
  obtain ⟨k1, k2⟩ := k b _ h1 h3 hx
  exact ⟨k1, h2, k2⟩
theorem Lent.off {l : List Int} {i b c : Nat} {B : BS} {φ ψ : Bag KK} {x : RS} {xs : List Int} (h : Lent l i b c B φ) (hy : Frz φ Kd.u8 xs x ψ) : ¬ x.At b := fun e => by
  have := hy.at_ b e
  rw [h.1] at this; cases this
theorem RestOk.new (φ : Bag KK) : RestOk φ ⟨0, 0, [], [], [], [], [], [], [], [], 0⟩ :=
  ⟨⟨⟨trivial, trivial, (fun x hx => by cases hx), (fun x hx => by cases hx), List.Pairwise.nil, List.Pairwise.nil, (fun x hx => by cases hx), (fun x hx => by rcases hx with hx | hx <;> cases hx), (fun x hx => by cases hx), (fun x hx => by cases hx)⟩, trivial, rfl, rfl, rfl, (fun x hx => by cases hx), (fun x hx => by cases hx), rfl, by decide, by decide⟩, rfl, rfl, rfl, rfl⟩
theorem RestOk.ext {φ ψ : Bag KK} {B : BS} (h : RestOk φ B) (e : Ext φ ψ) : RestOk ψ B :=
  ⟨⟨h.ok.good.ext e, h.ok.tab.ext e, h.ok.lm, h.ok.ld, h.ok.lr, h.ok.mb, h.ok.rb, h.ok.cnt, h.ok.few, h.ok.turn⟩, h.f, h.r, h.deep, h.turn⟩
/-- A write beside the book. -/
theorem RestOk.write {φ : Bag KK} {B : BS} {b : Nat} {i : BI KK} (h : RestOk φ B) (hb : B.bk.Free b) : RestOk (bput φ b i) B :=
  ⟨⟨h.ok.good.keep fun y hy c hc => bput_other fun e => by subst e; exact hb y hy hc, trivial, h.ok.lm, h.ok.ld, h.ok.lr, h.ok.mb, h.ok.rb, h.ok.cnt, h.ok.few, h.ok.turn⟩, h.f, h.r, h.deep, h.turn⟩
/-- A list of one's own that is handed to the book. -/
theorem alone_frz {φ ψ : Bag KK} {B : BS} {l : List Int} {x : RS} (h : RestOk φ B) (hl : l.length ≤ 1000000) (hy : Frz φ Kd.u8 l x ψ) : Alone ψ Kd.u8 1000000 B.bk x :=
  ⟨⟨l, hy.whole.1, hy.whole.2, hl⟩, fun y hm => by
    obtain ⟨ys, h1⟩ := h.ok.good.has y hm
    exact (RS.off_frz h1 hy).symm⟩
end Go.Proofs.YtndlpbheifalhaaGreatDoor.T
