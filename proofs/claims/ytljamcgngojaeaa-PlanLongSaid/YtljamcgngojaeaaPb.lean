/- The plan: sums over cells. -/
import Derived.Test.YtljamcgngojaeaaPa
namespace Go.Proofs.Ytljamcgngojaeaa.T
open Go.Proofs.Ytljamcgngojaeaa.E
set_option maxRecDepth 100000
set_option linter.unusedVariables false
structure Cell.Ok (c : Cell) : Prop where
  what : i64ok c.what
  side : i64ok c.side
  mode : i64ok c.mode
  keep : i64ok c.keep
  take : i64ok c.take
  names : i64ok c.names
  bytes : i64ok c.bytes
  hadN : i64ok c.hadN
  hadB : i64ok c.hadB
abbrev cell0 : Cell := Cell.mk .empty 0 0 0 0 0 0 0 0 0
theorem i64z : i64ok 0 := ⟨by decide, by decide⟩
theorem cell0_ok : Cell.Ok cell0 := ⟨i64z, i64z, i64z, i64z, i64z, i64z, i64z, i64z, i64z⟩
def Cells (l : List Cell) : Prop := ∀ c ∈ l, c.Ok
theorem Cells.rd {l : List Cell} (h : Cells l) (i : Nat) : (rd l i cell0).Ok := by
  unfold E.rd
  rw [List.getD_eq_getElem?_getD]
  rcases Nat.lt_or_ge i l.length with h' | h'
  · rw [List.getElem?_eq_getElem h']; exact h _ (List.getElem_mem h')
  · rw [List.getElem?_eq_none h']; exact cell0_ok
theorem into_mk {N0 : Nat} {ks : List KK.Kd} {τ : List Nat} {vs : List VV} {H : VH KK} {us : List VV} {H' : VH KK}
    (hg : (nodupB τ && (τ.all (fun n => Nat.blt n (H.length + ks.length)) && (prefB N0 τ && (Nat.ble N0 H'.length && (us.all (VV.ltB H'.length) && (H'.all (Atom.ltB H'.length))))))) = true)
    (h1 : EqVs H.length (fun n => τ.getD n 0) vs us) (h2 : EqH H.length (fun n => τ.getD n 0) (H ++ nilsOf ks) τ H') : Into N0 ks τ vs H us H' := guardP_iff.2 ⟨hg, h1, h2⟩
def tab1 : Tab Try.prog KK := ⟨mixed, fun f args H => match f, args with
  | 39, [.one (.c (.int _ a)), .one (.c (.int _ b))] => some (ct_add a b, [], [])
  | 28, [.one (.c (.int _ a))] => some (ct_small a, [], [])
  | 36, [.one (.agg l)] => match KK.dec .cell l with
    | some c => some (ct_sort c, [], [])
    | none => none
  | _, _ => none, fun f args H ct ks τ h => by
    split at h
    · cases h; exact add_ok _ _
    · cases h; exact small_ok _
    · split at h
      · cases h; exact sort_ok _
      · cases h
    · cases h⟩
theorem addF_ok (a b : Int) (ha : i64ok a) (hb : i64ok b) : i64ok (addF a b) := by
  unfold i64ok addF at *; (repeat' split) <;> omega
/-- What so many give. -/
def wsum (f : Nat → Int) : Nat → Int
  | 0 => 0
  | i + 1 => addF (wsum f i) (f i)
theorem wsum_succ (f : Nat → Int) (i : Nat) : wsum f (i + 1) = addF (wsum f i) (f i) := rfl
theorem wsum_ok {f : Nat → Int} (h : ∀ i, i64ok (f i)) : ∀ i, i64ok (wsum f i)
  | 0 => i64z
  | i + 1 => addF_ok _ _ (wsum_ok h i) (h i)
abbrev anys (n : Nat) : List VV := List.replicate n .any
def pwAt (l : List Cell) (left : List Bool) (i : Nat) : Int := if rd left i false then max (rd l i cell0).keep 0 else max (max (rd l i cell0).keep 0) (rd l i cell0).take
def pworstF (l : List Cell) (left : List Bool) : Int := wsum (pwAt l left) l.length
def ct_pworst (l : List Cell) (left : List Bool) : Ct KK := { need := Cells l ∧ l.length ≤ left.length ∧ i64ok l.length, pre := [.ro .cell l, .ro .bool left], args := [.c (.slc 0 0 l.length none), .c (.slc 1 0 left.length none)], Y := Unit, ok := fun _ => True, ret := fun _ => i64 (pworstF l left), post := fun _ => [.gone, .gone] }
def inv_pworst (l : List Cell) (left : List Bool) : Inv KK := { X := Nat, fr := fun i => [.c (.slc 0 0 l.length none), .c (.slc 1 0 left.length none), .any, .any, .any, i64 (wsum (pwAt l left) i), .any, .any, .any, .c (.slc 0 0 l.length none), i64 l.length, i64 i] ++ anys 21, H := fun _ => [.ro .cell l, .ro .bool left], ok := fun i => i ≤ l.length, meas := fun i : Nat => l.length - i }
def ann1 (inv : Inv KK) : Ann KK := ⟨fun _ _ _ => some inv, fun _ _ _ => none⟩
theorem vc_pworst (l : List Cell) (left : List Bool) : evFn tab1 (ann1 (inv_pworst l left)) Try.f37 (ct_pworst l left) = ( Enter (1 + 1) (inv_pworst l left) (fun (x : Nat) => True) [VV.one (V1.c (C.slc 0 0 l.length none)), VV.one (V1.c (C.slc 1 0 left.length none)), VV.any, VV.any, i64 (0 : Int), i64 (0 : Int), VV.any, VV.any,
 VV.any, VV.one (V1.c (C.slc 0 0 l.length none)), i64 (↑l.length : Int), i64 (0 : Int), VV.any, VV.any, VV.any, VV.any, VV.any, VV.any, VV.any, VV.any, VV.any, VV.any, VV.any, VV.any, VV.any, VV.any, VV.any,
 VV.any, VV.any, VV.any, VV.any, VV.any, VV.any] [Atom.ro Kd.cell l, Atom.ro Kd.bool left] ∧ ∀ (z : Nat), z ≤ l.length → ite2 (decide ((↑z : Int) < (↑l.length : Int))) (((0 : Int) ≤ (↑z : Int) ∧ (↑z : Int)
 < (↑l.length : Int)) ∧ 0 + (↑z : Int).toNat < l.length ∧ True ∧ 0 + (↑z : Int).toNat < l.length ∧ ((0 : Int) ≤ (↑z : Int) ∧ (↑z : Int) < (↑left.length : Int)) ∧ 0 + (↑z : Int).toNat < left.length ∧ True
 ∧ 0 + (↑z : Int).toNat < left.length ∧ ite2 (rd left (0 + (↑z : Int).toNat) false) ((i64ok (wsum (pwAt l left) z) ∧ i64ok (max (rd l (0 + (↑z : Int).toNat) (KK.dflt Kd.cell)).keep (0 : Int))) ∧ Into (K
 := KK) 0 [] [] [i64 (wsum (pwAt l left) z), i64 (max (rd l (0 + (↑z : Int).toNat) (KK.dflt Kd.cell)).keep (0 : Int))] [Atom.ro Kd.cell l, Atom.ro Kd.bool left, Atom.cells 44 [C.str (rd l (0 + (↑z : Int).toNat)
 (KK.dflt Kd.cell)).path, C.int .i64 (rd l (0 + (↑z : Int).toNat) (KK.dflt Kd.cell)).what, C.int .i64 (rd l (0 + (↑z : Int).toNat) (KK.dflt Kd.cell)).side, C.int .i64 (rd l (0 + (↑z : Int).toNat) (KK.dflt
 Kd.cell)).mode, C.int .i64 (rd l (0 + (↑z : Int).toNat) (KK.dflt Kd.cell)).keep, C.int .i64 (rd l (0 + (↑z : Int).toNat) (KK.dflt Kd.cell)).take, C.int .i64 (rd l (0 + (↑z : Int).toNat) (KK.dflt Kd.cell)).names,
 C.int .i64 (rd l (0 + (↑z : Int).toNat) (KK.dflt Kd.cell)).bytes, C.int .i64 (rd l (0 + (↑z : Int).toNat) (KK.dflt Kd.cell)).hadN, C.int .i64 (rd l (0 + (↑z : Int).toNat) (KK.dflt Kd.cell)).hadB]] [i64
 (wsum (pwAt l left) z), i64 (max (rd l (0 + (↑z : Int).toNat) (KK.dflt Kd.cell)).keep (0 : Int))] [] ∧ ∀ (y : Unit), True → i64ok ((↑z : Int) + (1 : Int)) ∧ Enter (1 + 1) (inv_pworst l left) (fun (z' :
 Nat) => l.length - z' < l.length - z) [VV.one (V1.c (C.slc 0 0 l.length none)), VV.one (V1.c (C.slc 1 0 left.length none)), VV.any, VV.any, VV.any, VV.one (V1.c (C.int .i64 (addF (wsum (pwAt l left) z)
 (max (rd l (0 + (↑z : Int).toNat) (KK.dflt Kd.cell)).keep (0 : Int))))), i64 (↑z : Int), VV.one (V1.c (C.ptr 2 0 0)), i64 (max (rd l (0 + (↑z : Int).toNat) (KK.dflt Kd.cell)).keep (0 : Int)), VV.one (V1.c
 (C.slc 0 0 l.length none)), i64 (↑l.length : Int), i64 ((↑z : Int) + (1 : Int)), boolv true, i64 (↑z : Int), VV.one (V1.c (C.ptr 0 (0 + (↑z : Int).toNat) 0)), VV.one (V1.agg [C.str (rd l (0 + (↑z : Int).toNat)
 (KK.dflt Kd.cell)).path, C.int .i64 (rd l (0 + (↑z : Int).toNat) (KK.dflt Kd.cell)).what, C.int .i64 (rd l (0 + (↑z : Int).toNat) (KK.dflt Kd.cell)).side, C.int .i64 (rd l (0 + (↑z : Int).toNat) (KK.dflt
 Kd.cell)).mode, C.int .i64 (rd l (0 + (↑z : Int).toNat) (KK.dflt Kd.cell)).keep, C.int .i64 (rd l (0 + (↑z : Int).toNat) (KK.dflt Kd.cell)).take, C.int .i64 (rd l (0 + (↑z : Int).toNat) (KK.dflt Kd.cell)).names,
 C.int .i64 (rd l (0 + (↑z : Int).toNat) (KK.dflt Kd.cell)).bytes, C.int .i64 (rd l (0 + (↑z : Int).toNat) (KK.dflt Kd.cell)).hadN, C.int .i64 (rd l (0 + (↑z : Int).toNat) (KK.dflt Kd.cell)).hadB]), VV.one
 (V1.c (C.ptr 2 0 4)), i64 (rd l (0 + (↑z : Int).toNat) (KK.dflt Kd.cell)).keep, i64 (max (rd l (0 + (↑z : Int).toNat) (KK.dflt Kd.cell)).keep (0 : Int)), VV.one (V1.c (C.slc 1 0 left.length none)), i64
 (↑z : Int), VV.one (V1.c (C.ptr 1 (0 + (↑z : Int).toNat) 0)), boolv (rd left (0 + (↑z : Int).toNat) false), boolv false, VV.any, VV.any, VV.any, VV.any, i64 (wsum (pwAt l left) z), i64 (max (rd l (0 +
 (↑z : Int).toNat) (KK.dflt Kd.cell)).keep (0 : Int)), VV.one (V1.c (C.int .i64 (addF (wsum (pwAt l left) z) (max (rd l (0 + (↑z : Int).toNat) (KK.dflt Kd.cell)).keep (0 : Int))))), i64 ((↑z : Int) + (1
 : Int)), VV.any] [Atom.ro Kd.cell l, Atom.ro Kd.bool left, Atom.cells 44 [C.str (rd l (0 + (↑z : Int).toNat) (KK.dflt Kd.cell)).path, C.int .i64 (rd l (0 + (↑z : Int).toNat) (KK.dflt Kd.cell)).what, C.int
 .i64 (rd l (0 + (↑z : Int).toNat) (KK.dflt Kd.cell)).side, C.int .i64 (rd l (0 + (↑z : Int).toNat) (KK.dflt Kd.cell)).mode, C.int .i64 (rd l (0 + (↑z : Int).toNat) (KK.dflt Kd.cell)).keep, C.int .i64 (rd
 l (0 + (↑z : Int).toNat) (KK.dflt Kd.cell)).take, C.int .i64 (rd l (0 + (↑z : Int).toNat) (KK.dflt Kd.cell)).names, C.int .i64 (rd l (0 + (↑z : Int).toNat) (KK.dflt Kd.cell)).bytes, C.int .i64 (rd l (0
 + (↑z : Int).toNat) (KK.dflt Kd.cell)).hadN, C.int .i64 (rd l (0 + (↑z : Int).toNat) (KK.dflt Kd.cell)).hadB]]) ((i64ok (wsum (pwAt l left) z) ∧ i64ok (max (max (rd l (0 + (↑z : Int).toNat) (KK.dflt Kd.cell)).keep
 (0 : Int)) (rd l (0 + (↑z : Int).toNat) (KK.dflt Kd.cell)).take)) ∧ Into (K := KK) 0 [] [] [i64 (wsum (pwAt l left) z), VV.one (V1.c (C.int .i64 (max (max (rd l (0 + (↑z : Int).toNat) (KK.dflt Kd.cell)).keep
 (0 : Int)) (rd l (0 + (↑z : Int).toNat) (KK.dflt Kd.cell)).take)))] [Atom.ro Kd.cell l, Atom.ro Kd.bool left, Atom.cells 44 [C.str (rd l (0 + (↑z : Int).toNat) (KK.dflt Kd.cell)).path, C.int .i64 (rd l
 (0 + (↑z : Int).toNat) (KK.dflt Kd.cell)).what, C.int .i64 (rd l (0 + (↑z : Int).toNat) (KK.dflt Kd.cell)).side, C.int .i64 (rd l (0 + (↑z : Int).toNat) (KK.dflt Kd.cell)).mode, C.int .i64 (rd l (0 + (↑z
 : Int).toNat) (KK.dflt Kd.cell)).keep, C.int .i64 (rd l (0 + (↑z : Int).toNat) (KK.dflt Kd.cell)).take, C.int .i64 (rd l (0 + (↑z : Int).toNat) (KK.dflt Kd.cell)).names, C.int .i64 (rd l (0 + (↑z : Int).toNat)
 (KK.dflt Kd.cell)).bytes, C.int .i64 (rd l (0 + (↑z : Int).toNat) (KK.dflt Kd.cell)).hadN, C.int .i64 (rd l (0 + (↑z : Int).toNat) (KK.dflt Kd.cell)).hadB]] [i64 (wsum (pwAt l left) z), VV.one (V1.c (C.int
 .i64 (max (max (rd l (0 + (↑z : Int).toNat) (KK.dflt Kd.cell)).keep (0 : Int)) (rd l (0 + (↑z : Int).toNat) (KK.dflt Kd.cell)).take)))] [] ∧ ∀ (y : Unit), True → i64ok ((↑z : Int) + (1 : Int)) ∧ Enter
 (1 + 1) (inv_pworst l left) (fun (z' : Nat) => l.length - z' < l.length - z) [VV.one (V1.c (C.slc 0 0 l.length none)), VV.one (V1.c (C.slc 1 0 left.length none)), VV.any, VV.any, VV.any, VV.one (V1.c (C.int
 .i64 (addF (wsum (pwAt l left) z) (max (max (rd l (0 + (↑z : Int).toNat) (KK.dflt Kd.cell)).keep (0 : Int)) (rd l (0 + (↑z : Int).toNat) (KK.dflt Kd.cell)).take)))), i64 (↑z : Int), VV.one (V1.c (C.ptr
 2 0 0)), VV.one (V1.c (C.int .i64 (max (max (rd l (0 + (↑z : Int).toNat) (KK.dflt Kd.cell)).keep (0 : Int)) (rd l (0 + (↑z : Int).toNat) (KK.dflt Kd.cell)).take))), VV.one (V1.c (C.slc 0 0 l.length none)),
 i64 (↑l.length : Int), i64 ((↑z : Int) + (1 : Int)), boolv true, i64 (↑z : Int), VV.one (V1.c (C.ptr 0 (0 + (↑z : Int).toNat) 0)), VV.one (V1.agg [C.str (rd l (0 + (↑z : Int).toNat) (KK.dflt Kd.cell)).path,
 C.int .i64 (rd l (0 + (↑z : Int).toNat) (KK.dflt Kd.cell)).what, C.int .i64 (rd l (0 + (↑z : Int).toNat) (KK.dflt Kd.cell)).side, C.int .i64 (rd l (0 + (↑z : Int).toNat) (KK.dflt Kd.cell)).mode, C.int
 .i64 (rd l (0 + (↑z : Int).toNat) (KK.dflt Kd.cell)).keep, C.int .i64 (rd l (0 + (↑z : Int).toNat) (KK.dflt Kd.cell)).take, C.int .i64 (rd l (0 + (↑z : Int).toNat) (KK.dflt Kd.cell)).names, C.int .i64
 (rd l (0 + (↑z : Int).toNat) (KK.dflt Kd.cell)).bytes, C.int .i64 (rd l (0 + (↑z : Int).toNat) (KK.dflt Kd.cell)).hadN, C.int .i64 (rd l (0 + (↑z : Int).toNat) (KK.dflt Kd.cell)).hadB]), VV.one (V1.c (C.ptr
 2 0 4)), i64 (rd l (0 + (↑z : Int).toNat) (KK.dflt Kd.cell)).keep, i64 (max (rd l (0 + (↑z : Int).toNat) (KK.dflt Kd.cell)).keep (0 : Int)), VV.one (V1.c (C.slc 1 0 left.length none)), i64 (↑z : Int),
 VV.one (V1.c (C.ptr 1 (0 + (↑z : Int).toNat) 0)), boolv (rd left (0 + (↑z : Int).toNat) false), boolv true, i64 (max (rd l (0 + (↑z : Int).toNat) (KK.dflt Kd.cell)).keep (0 : Int)), VV.one (V1.c (C.ptr
 2 0 5)), i64 (rd l (0 + (↑z : Int).toNat) (KK.dflt Kd.cell)).take, VV.one (V1.c (C.int .i64 (max (max (rd l (0 + (↑z : Int).toNat) (KK.dflt Kd.cell)).keep (0 : Int)) (rd l (0 + (↑z : Int).toNat) (KK.dflt
 Kd.cell)).take))), i64 (wsum (pwAt l left) z), VV.one (V1.c (C.int .i64 (max (max (rd l (0 + (↑z : Int).toNat) (KK.dflt Kd.cell)).keep (0 : Int)) (rd l (0 + (↑z : Int).toNat) (KK.dflt Kd.cell)).take))),
 VV.one (V1.c (C.int .i64 (addF (wsum (pwAt l left) z) (max (max (rd l (0 + (↑z : Int).toNat) (KK.dflt Kd.cell)).keep (0 : Int)) (rd l (0 + (↑z : Int).toNat) (KK.dflt Kd.cell)).take)))), i64 ((↑z : Int)
 + (1 : Int)), VV.any] [Atom.ro Kd.cell l, Atom.ro Kd.bool left, Atom.cells 44 [C.str (rd l (0 + (↑z : Int).toNat) (KK.dflt Kd.cell)).path, C.int .i64 (rd l (0 + (↑z : Int).toNat) (KK.dflt Kd.cell)).what,
 C.int .i64 (rd l (0 + (↑z : Int).toNat) (KK.dflt Kd.cell)).side, C.int .i64 (rd l (0 + (↑z : Int).toNat) (KK.dflt Kd.cell)).mode, C.int .i64 (rd l (0 + (↑z : Int).toNat) (KK.dflt Kd.cell)).keep, C.int
 .i64 (rd l (0 + (↑z : Int).toNat) (KK.dflt Kd.cell)).take, C.int .i64 (rd l (0 + (↑z : Int).toNat) (KK.dflt Kd.cell)).names, C.int .i64 (rd l (0 + (↑z : Int).toNat) (KK.dflt Kd.cell)).bytes, C.int .i64
 (rd l (0 + (↑z : Int).toNat) (KK.dflt Kd.cell)).hadN, C.int .i64 (rd l (0 + (↑z : Int).toNat) (KK.dflt Kd.cell)).hadB]])) (EndsAs (1 + 1) (ct_pworst l left) (i64 (wsum (pwAt l left) z)) [Atom.ro Kd.cell
 l, Atom.ro Kd.bool left])) := by kernel_rfl
theorem pworst_ok (l : List Cell) (left : List Bool) : CtOk Try.prog 37 (ct_pworst l left) := CtOk_of KK_ok tab1 (ann1 (inv_pworst l left)) (fn := Try.f37) rfl (fun _ _ => rfl) fun hn => by
  obtain ⟨hl, hle, hlen⟩ := hn
  rw [vc_pworst]
  simp only [Int.toNat_natCast, Nat.zero_add]
  have hok : ∀ i, i64ok (pwAt l left i) := fun i => by
    have h := hl.rd i; have h1 := h.keep; have h2 := h.take
    unfold pwAt i64ok at *; split <;> omega
  have hw := wsum_ok hok
  refine ⟨⟨(0 : Nat), [], [0, 1], Nat.zero_le _, trivial, into_mk (by kernel_rfl) ?_ ?_⟩, fun z hz => ite2_decide (fun hz1 => ?_) (fun hz1 => ?_)⟩
  · (repeat' first | exact trivial | exact rfl | apply And.intro)
  · (repeat' first | exact trivial | exact rfl | apply And.intro)
  · have h : (rd l z (KK.dflt Kd.cell)).Ok := hl.rd z
    have h1 := h.keep
    have h2 := h.take
    have hi : i64ok ((z : Int) + 1) := by unfold i64ok at *; omega
    refine ⟨by omega, by omega, trivial, by omega, by omega, by omega, trivial, by omega, ite2_mk (fun hb => ?_) (fun hb => ?_)⟩
    · refine ⟨⟨hw z, by unfold i64ok at *; omega⟩, into_mk (by kernel_rfl) ?_ ?_, fun _ _ => ⟨hi, ⟨(z + 1 : Nat), [], [0, 1], by show z + 1 ≤ l.length; omega, by omega, into_mk (by kernel_rfl) ?_ ?_⟩⟩⟩
      · (repeat' first | exact trivial | exact rfl | apply And.intro)
      · (repeat' first | exact trivial | exact rfl | apply And.intro)
      · (repeat' first | exact trivial | exact rfl | apply And.intro)
        all_goals (rw [wsum_succ, pwAt, hb]; rfl)
      · (repeat' first | exact trivial | exact rfl | apply And.intro)
    · refine ⟨⟨hw z, by unfold i64ok at *; omega⟩, into_mk (by kernel_rfl) ?_ ?_, fun _ _ => ⟨hi, ⟨(z + 1 : Nat), [], [0, 1], by show z + 1 ≤ l.length; omega, by omega, into_mk (by kernel_rfl) ?_ ?_⟩⟩⟩
      · (repeat' first | exact trivial | exact rfl | apply And.intro)
      · (repeat' first | exact trivial | exact rfl | apply And.intro)
      · (repeat' first | exact trivial | exact rfl | apply And.intro)
        all_goals (rw [wsum_succ, pwAt, hb]; rfl)
      · (repeat' first | exact trivial | exact rfl | apply And.intro)
  · have e : z = l.length := by omega
    subst e
    refine ⟨(), [], [0, 1], trivial, ?_⟩
    (repeat' first | exact trivial | exact rfl | apply And.intro)
end Go.Proofs.Ytljamcgngojaeaa.T
