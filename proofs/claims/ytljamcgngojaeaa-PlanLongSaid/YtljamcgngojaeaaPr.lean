/- The plan: as many items as there is room for (plain part). -/
import Derived.Test.YtljamcgngojaeaaPm
namespace Go.Proofs.Ytljamcgngojaeaa.T
open Go.Proofs.Ytljamcgngojaeaa.E
set_option maxRecDepth 100000
set_option linter.unusedVariables false
structure Four where
  n0 : Int
  b0 : Int
  n1 : Int
  b1 : Int
def four0 : Four := ⟨0, 0, 0, 0⟩
abbrev item0 : Item := Item.mk 0 0 .empty 0 0 0 0
abbrev cellOf (l : List Cell) (it : Item) : Cell := rd l it.cell.toNat (KK.dflt Kd.cell)
def after (n a b : Int) : Int := addF (addF n (max a 0)) (0 - max b 0)
def balStep (l : List Cell) (s : Four) (it : Item) : Four :=
  if it.what = 2 then s
  else if it.dst = 0 then ⟨after s.n0 (cellOf l it).names (cellOf l it).hadN, after s.b0 (cellOf l it).bytes (cellOf l it).hadB, s.n1, s.b1⟩
  else ⟨s.n0, s.b0, after s.n1 (cellOf l it).names (cellOf l it).hadN, after s.b1 (cellOf l it).bytes (cellOf l it).hadB⟩
def needN (l : List Cell) (s : Four) (it : Item) : Int := if it.what = 2 then 0 else addF (if it.dst = 0 then s.n0 else s.n1) (max (cellOf l it).names 0)
def needB (l : List Cell) (s : Four) (it : Item) : Int := if it.what = 2 then 0 else addF (if it.dst = 0 then s.b0 else s.b1) (max (cellOf l it).bytes 0)
def Four.le (n b fn fb : Int) : Prop := n ≤ max fn 0 ∧ b ≤ max fb 0
/-- Does an item go ahead? -/
def okIt (l : List Cell) (f s : Four) (it : Item) : Bool := if it.dst = 0 then decide (needN l s it ≤ max f.n0 0 ∧ needB l s it ≤ max f.b0 0) else decide (needN l s it ≤ max f.n1 0 ∧ needB l s it ≤ max f.b1 0)
def fitsL (l : List Cell) (f : Four) : List Item → Four → Nat
  | [], _ => 0
  | it :: its, s => if okIt l f s it then fitsL l f its (balStep l s it) + 1 else 0
def fitsF (l : List Cell) (most : Int) (f : Four) : Nat := fitsL l f (ofF l most).items four0
def balF (l : List Cell) (its : List Item) : Four := its.foldl (balStep l) four0
theorem balF_snoc (l : List Cell) (its : List Item) (it : Item) : balF l (its ++ [it]) = balStep l (balF l its) it := by simp [balF]
theorem fitsL_le (l : List Cell) (f : Four) : ∀ (its : List Item) (s : Four), fitsL l f its s ≤ its.length
  | [], s => Nat.le_refl _
  | it :: its, s => by
    simp only [fitsL]
    split
    · have := fitsL_le l f its (balStep l s it); rw [List.length_cons]; omega
    · omega
structure Four.Ok (s : Four) : Prop where
  n0 : i64ok s.n0
  b0 : i64ok s.b0
  n1 : i64ok s.n1
  b1 : i64ok s.b1
theorem after_ok {n a b : Int} (h1 : i64ok n) (h2 : i64ok a) (h3 : i64ok b) : i64ok (after n a b) := addF_ok _ _ (addF_ok _ _ h1 (max0_ok h2).1) (max0_ok h3).2
theorem balStep_ok {l : List Cell} (h : Cells l) {s : Four} (hs : s.Ok) (it : Item) : (balStep l s it).Ok := by
  have c := h.rd it.cell.toNat
  obtain ⟨h1, h2, h3, h4⟩ := hs
  unfold balStep
  split
  · exact ⟨h1, h2, h3, h4⟩
  · split
    · exact ⟨after_ok h1 c.names c.hadN, after_ok h2 c.bytes c.hadB, h3, h4⟩
    · exact ⟨h1, h2, after_ok h3 c.names c.hadN, after_ok h4 c.bytes c.hadB⟩
theorem foldl_ok {l : List Cell} (h : Cells l) : ∀ (its : List Item) {s : Four}, s.Ok → (its.foldl (balStep l) s).Ok
  | [], s, hs => hs
  | it :: its, s, hs => foldl_ok h its (balStep_ok h hs it)
theorem balF_ok {l : List Cell} (h : Cells l) (its : List Item) : (balF l its).Ok := foldl_ok h its ⟨i64z, i64z, i64z, i64z⟩
end Go.Proofs.Ytljamcgngojaeaa.T
