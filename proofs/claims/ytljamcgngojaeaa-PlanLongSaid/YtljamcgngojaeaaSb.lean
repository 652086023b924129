/- The reference: which cells are left out. The reference: which cells are left out, proof; what room is needed. The reference: what room is needed. The reference: what room is needed, proof. -/
import Derived.Test.YtljamcgngojaeaaSa
namespace Go.Proofs.Ytljamcgngojaeaa.T
open Go.Proofs.Ytljamcgngojaeaa.E
set_option maxRecDepth 100000
set_option linter.unusedVariables false
theorem last_ok (l : List Cell) (left : List Bool) (s : Int) : CtOk Try.prog 42 (ct_last l left s) := CtOk_of KK_ok tab13 (ann1 (inv_last l left s)) (fn := Try.f42) rfl (fun _ _ => rfl) fun hn => by
  obtain ⟨hlen, hi⟩ := hn
  rw [vc_last]
  refine ⟨by unfold i64ok at *; omega, ⟨(l.length : Nat), [], [0, 1], ⟨Nat.le_refl _, fun j h1 h2 => absurd h2 (Nat.not_lt.2 h1)⟩, trivial, into_mk (by kernel_rfl) (by (repeat' first | exact trivial | exact rfl | apply And.intro)) (by (repeat' first | exact trivial | exact rfl | apply And.intro))⟩, fun z hz => ite2_decide (fun hlt => ?_) (fun hge => ?_)⟩
  · obtain ⟨hz, hnone⟩ := hz
    obtain ⟨q, rfl⟩ : ∃ q, z = q + 1 := ⟨z - 1, by omega⟩
    have e : ((q + 1 : Nat) : Int) - 1 = (q : Int) := by omega
    have z1 : (0 : Int) ≤ (q : Int) ∧ (q : Int) < l.length := by omega
    have z2 : q < l.length := by omega
    have z3 : (0 : Int) ≤ (q : Int) ∧ (q : Int) < left.length := by omega
    have z4 : q < left.length := by omega
    have hi1 : i64ok ((q : Int) - 1) := by unfold i64ok at *; omega
    simp only [e, Int.toNat_natCast, Nat.zero_add]
    have no : ¬ AtS l left s q → ∀ j, q ≤ j → j < l.length → ¬ AtS l left s j := fun h j h1 h2 => by
      by_cases ej : j = q
      · subst ej; exact h
      · exact hnone j (by omega) h2
    refine ⟨z3, z4, trivial, z4, ite2_mk (fun hb => ⟨hi1, ⟨(q : Nat), [], [0, 1], ⟨by omega, no fun h => by rw [h.1] at hb; cases hb⟩, by omega, into_mk (by kernel_rfl) (by (repeat' first | exact trivial | exact rfl | apply And.intro)) (by (repeat' first | exact trivial | exact rfl | apply And.intro))⟩⟩) (fun hb => ⟨z1, z2, trivial, z2, ?_⟩)⟩
    refine ⟨trivial, into_mk (by kernel_rfl) (by (repeat' first | exact trivial | exact rfl | apply And.intro)) (by (repeat' first | exact trivial | exact rfl | apply And.intro)), fun _ _ => ite2_decide (fun hs => ?_) (fun hs => ⟨hi1, ⟨(q : Nat), [], [0, 1], ⟨by omega, no fun h => hs h.2⟩, by omega, into_mk (by kernel_rfl) (by (repeat' first | exact trivial | exact rfl | apply And.intro)) (by (repeat' first | exact trivial | exact rfl | apply And.intro))⟩⟩)⟩
    exact ⟨(q : Int), [], [0, 1], .inr ⟨q, rfl, z2, ⟨hb, hs⟩, fun j h1 h2 => hnone j h1 h2⟩, by (repeat' first | exact trivial | exact rfl | apply And.intro)⟩
  · have hz0 : z = 0 := by omega
    subst hz0
    exact ⟨(-1 : Int), [], [0, 1], .inl ⟨rfl, fun j h => hz.2 j (Nat.zero_le _) h⟩, by (repeat' first | exact trivial | exact rfl | apply And.intro)⟩
def tab14 : Tab Try.prog KK := ⟨mixed, fun f args H => match f, args with
  | 42, [.one (.c (.slc n 0 len none)), .one (.c (.slc m 0 len' none)), .one (.c (.int _ s))] => match getL .cell (at_ H n), getL .bool (at_ H m) with
    | some a, some b => some (ct_last a b s, [], [n, m])
    | _, _ => none
  | f, args => tab13.pick f args H, fun f args H ct ks τ h => by
    split at h
    · split at h
      · cases h; exact last_ok _ _ _
      · cases h
    · exact tab13.ok _ _ _ _ _ _ h⟩
def ct_rleft (l : List Cell) (most : Int) : Ct KK := { need := Cells l ∧ l.length ≤ 1000000 ∧ i64ok most, pre := [.ro .cell l], args := [.c (.slc 0 0 l.length none), i64 most], Y := Unit, ok := fun _ => True, ret := fun _ => .c (.slc 1 0 l.length none), post := fun _ => [.gone, .arr .bool (leaveF l (mostF most))] }
def inv_rleft (l : List Cell) (most : Int) : Inv KK := { X := Nat × Nat, fr := fun _ => [.c (.slc 0 0 l.length none), i64 most, .any, .any, .any, .c (.slc 1 0 l.length none)] ++ anys 24, H := fun x => [.ro .cell l, .arr .bool (marks l x.1 x.2)], ok := fun x => CutOk l (mostF most) x.1 x.2, meas := fun x : Nat × Nat => x.1 + x.2 }
theorem vc_rleft (l : List Cell) (most : Int) : evFn tab14 (ann1 (inv_rleft l most)) Try.f33 (ct_rleft l most) = ( ((0 : Int) ≤ (↑l.length : Int) ∧ (↑l.length : Int) ≤ (↑l.length : Int)) ∧ ((↑l.length : Int) ≤ (4611686018427387904 : Int) ∧ (1 : Int) * (↑l.length : Int) ≤ (281474976710656 : Int)) ∧ Enter 1 (inv_rleft
 l most) (fun (x : Nat × Nat) => True) [VV.one (V1.c (C.slc 0 0 l.length none)), i64 most, VV.any, VV.any, VV.one (V1.c C.nils), VV.one (V1.c (C.slc 1 0 (↑l.length : Int).toNat none)), VV.any, VV.one (V1.c
 (C.slc 0 0 l.length none)), i64 (↑l.length : Int), VV.one (V1.c (C.slc 1 0 (↑l.length : Int).toNat none)), VV.any, VV.any, VV.any, VV.any, VV.any, VV.any, VV.any, VV.any, VV.any, VV.any, VV.any, VV.any,
 VV.any, VV.any, VV.any, VV.any, VV.any, VV.any, VV.any, VV.any] [Atom.ro Kd.cell l, Atom.arr Kd.bool (List.replicate (↑l.length : Int).toNat false)] ∧ ∀ (z : Nat × Nat), CutOk l (min (max most (1 : Int))
 (1048576 : Int)) z.fst z.snd → ((∀ (c : Cell), List.Mem c l → c.Ok) ∧ l.length ≤ (marks l z.fst z.snd).length ∧ i64ok (↑l.length : Int)) ∧ Into (K := KK) 0 [] [0, 1] [VV.one (V1.c (C.slc 0 0 l.length none)),
 VV.one (V1.c (C.slc 1 0 l.length none))] [Atom.ro Kd.cell l, Atom.arr Kd.bool (marks l z.fst z.snd)] [VV.one (V1.c (C.slc 0 0 l.length none)), VV.one (V1.c (C.slc 1 0 (marks l z.fst z.snd).length none))]
 [Atom.ro Kd.cell l, Atom.ro Kd.bool (marks l z.fst z.snd)] ∧ ∀ (y : Unit), True → True ∧ Into (K := KK) 0 [] [] [i64 most] [Atom.ro Kd.cell l, Atom.arr Kd.bool (marks l z.fst z.snd)] [i64 most] [] ∧ ∀
 (y : Unit), True → ite2 (decide (min (max most (1 : Int)) (1048576 : Int) < pworstF l (marks l z.fst z.snd))) ((l.length = (marks l z.fst z.snd).length ∧ i64ok (↑l.length : Int)) ∧ Into (K := KK) 0 []
 [0, 1] [VV.one (V1.c (C.slc 0 0 l.length none)), VV.one (V1.c (C.slc 1 0 l.length none)), i64 (1 : Int)] [Atom.ro Kd.cell l, Atom.arr Kd.bool (marks l z.fst z.snd)] [VV.one (V1.c (C.slc 0 0 l.length none)),
 VV.one (V1.c (C.slc 1 0 (marks l z.fst z.snd).length none)), i64 (1 : Int)] [Atom.ro Kd.cell l, Atom.ro Kd.bool (marks l z.fst z.snd)] ∧ ∀ (y : Int), ((y = (-1 : Int) ∧ ∀ (j : Nat), j < l.length → ¬AtS
 l (marks l z.fst z.snd) (1 : Int) j) ∨ ∃ (i : Nat), y = (↑i : Int) ∧ i < l.length ∧ AtS l (marks l z.fst z.snd) (1 : Int) i ∧ ∀ (j : Nat), i < j → j < l.length → ¬AtS l (marks l z.fst z.snd) (1 : Int)
 j) → ite2 (decide (y < (0 : Int))) ((l.length = (marks l z.fst z.snd).length ∧ i64ok (↑l.length : Int)) ∧ Into (K := KK) 0 [] [0, 1] [VV.one (V1.c (C.slc 0 0 l.length none)), VV.one (V1.c (C.slc 1 0 l.length
 none)), i64 (2 : Int)] [Atom.ro Kd.cell l, Atom.arr Kd.bool (marks l z.fst z.snd)] [VV.one (V1.c (C.slc 0 0 l.length none)), VV.one (V1.c (C.slc 1 0 (marks l z.fst z.snd).length none)), i64 (2 : Int)]
 [Atom.ro Kd.cell l, Atom.ro Kd.bool (marks l z.fst z.snd)] ∧ ∀ (y_1 : Int), ((y_1 = (-1 : Int) ∧ ∀ (j : Nat), j < l.length → ¬AtS l (marks l z.fst z.snd) (2 : Int) j) ∨ ∃ (i : Nat), y_1 = (↑i : Int) ∧
 i < l.length ∧ AtS l (marks l z.fst z.snd) (2 : Int) i ∧ ∀ (j : Nat), i < j → j < l.length → ¬AtS l (marks l z.fst z.snd) (2 : Int) j) → ite2 (decide (y_1 < (0 : Int))) (EndsAs 1 (ct_rleft l most) (VV.one
 (V1.c (C.slc 1 0 l.length none))) [Atom.ro Kd.cell l, Atom.arr Kd.bool (marks l z.fst z.snd)]) (((0 : Int) ≤ y_1 ∧ y_1 < (↑l.length : Int)) ∧ 0 + y_1.toNat < (marks l z.fst z.snd).length ∧ True ∧ 0 + y_1.toNat
 < (marks l z.fst z.snd).length ∧ Enter 1 (inv_rleft l most) (fun (z' : Nat × Nat) => z'.fst + z'.snd < z.fst + z.snd) [VV.one (V1.c (C.slc 0 0 l.length none)), i64 most, VV.any, VV.any, VV.any, VV.one
 (V1.c (C.slc 1 0 l.length none)), i64 y_1, VV.any, VV.any, VV.any, VV.one (V1.c (C.slc 0 0 l.length none)), VV.one (V1.c (C.slc 1 0 l.length none)), i64 (pworstF l (marks l z.fst z.snd)), i64 most, i64
 (min (max most (1 : Int)) (1048576 : Int)), boolv true, VV.one (V1.c (C.slc 0 0 l.length none)), VV.one (V1.c (C.slc 1 0 l.length none)), i64 y, i64 y, boolv true, VV.one (V1.c (C.slc 0 0 l.length none)),
 VV.one (V1.c (C.slc 1 0 l.length none)), i64 y_1, i64 y_1, boolv false, VV.one (V1.c (C.slc 1 0 l.length none)), i64 y_1, VV.one (V1.c (C.ptr 1 (0 + y_1.toNat) 0)), VV.any] [Atom.ro Kd.cell l, Atom.arr
 Kd.bool ((marks l z.fst z.snd).set (0 + y_1.toNat) true)])) (ite2 (decide (y < (0 : Int))) (EndsAs 1 (ct_rleft l most) (VV.one (V1.c (C.slc 1 0 l.length none))) [Atom.ro Kd.cell l, Atom.arr Kd.bool (marks
 l z.fst z.snd)]) (((0 : Int) ≤ y ∧ y < (↑l.length : Int)) ∧ 0 + y.toNat < (marks l z.fst z.snd).length ∧ True ∧ 0 + y.toNat < (marks l z.fst z.snd).length ∧ Enter 1 (inv_rleft l most) (fun (z' : Nat ×
 Nat) => z'.fst + z'.snd < z.fst + z.snd) [VV.one (V1.c (C.slc 0 0 l.length none)), i64 most, VV.any, VV.any, VV.any, VV.one (V1.c (C.slc 1 0 l.length none)), i64 y, VV.any, VV.any, VV.any, VV.one (V1.c
 (C.slc 0 0 l.length none)), VV.one (V1.c (C.slc 1 0 l.length none)), i64 (pworstF l (marks l z.fst z.snd)), i64 most, i64 (min (max most (1 : Int)) (1048576 : Int)), boolv true, VV.one (V1.c (C.slc 0 0
 l.length none)), VV.one (V1.c (C.slc 1 0 l.length none)), i64 y, i64 y, boolv false, VV.any, VV.any, VV.any, i64 y, boolv false, VV.one (V1.c (C.slc 1 0 l.length none)), i64 y, VV.one (V1.c (C.ptr 1 (0
 + y.toNat) 0)), VV.any] [Atom.ro Kd.cell l, Atom.arr Kd.bool ((marks l z.fst z.snd).set (0 + y.toNat) true)]))) (EndsAs 1 (ct_rleft l most) (VV.one (V1.c (C.slc 1 0 l.length none))) [Atom.ro Kd.cell l,
 Atom.arr Kd.bool (marks l z.fst z.snd)])) := by kernel_rfl
end Go.Proofs.Ytljamcgngojaeaa.T
namespace Go.Proofs.Ytljamcgngojaeaa.T
open Go.Proofs.Ytljamcgngojaeaa.E
set_option maxRecDepth 100000
set_option linter.unusedVariables false
theorem atS_still {l : List Cell} {a b j : Nat} {s : Int} (hj : j < l.length) (hs : s = 1 ∨ s = 2) : AtS l (marks l a b) s j ↔ rd (still l a b) j 0 = s := by
  unfold AtS
  rw [rd_marks hj, rd_still hj]
  cases hb : behind l a b j with
  | true => simp; omega
  | false => simp
theorem set_len {α : Type} (xs : List α) (i : Nat) (x : α) : (xs.set i x).length = xs.length := List.length_set ..
theorem rleft_ok (l : List Cell) (most : Int) : CtOk Try.prog 33 (ct_rleft l most) := CtOk_of KK_ok tab14 (ann1 (inv_rleft l most)) (fn := Try.f33) rfl (fun _ _ => rfl) fun hn => by
  obtain ⟨hl, hn, hm⟩ := hn
  rw [vc_rleft]
  have mlen : ∀ a b, (marks l a b).length = l.length := fun a b => tb_len _ _
  have slen : ∀ a b, (still l a b).length = l.length := fun a b => tb_len _ _
  have i1 : i64ok (l.length : Int) := by unfold i64ok; omega
  have fin : ∀ a b, CutOk l (mostF most) a b → final l (mostF most) a b = (a, b) → EndsAs 1 (ct_rleft l most) (VV.one (V1.c (C.slc 1 0 l.length none))) [Atom.ro Kd.cell l, Atom.arr Kd.bool (marks l a b)] := fun a b hc hf => by
    have hq := leave_stop hc hf
    exact ⟨(), [], [0, 1], trivial, by (repeat' first | exact trivial | exact rfl | exact hq | apply And.intro)⟩
  have go : ∀ (a b s : Nat) (i : Nat), CutOk l (mostF most) a b → mostF most < pworstF l (marks l a b) → (s = 1 ∨ s = 2) → i < l.length → AtS l (marks l a b) s i → (∀ j, i < j → j < l.length → ¬ AtS l (marks l a b) s j) →
      (1 < s → ∀ j, j < l.length → ¬ AtS l (marks l a b) 1 j) → ∃ a' b', CutOk l (mostF most) a' b' ∧ a' + b' < a + b ∧ (marks l a b).set i true = marks l a' b' := fun a b s i hc hw hs hi hat hn h1 => by
    have hs' : (s : Int) = 1 ∨ (s : Int) = 2 := by omega
    obtain ⟨a', b', h2, h3, h4, _⟩ := round hc hw hs hi ((atS_still hi hs').1 hat) (fun j hj hl' => fun e => hn j hj (by rw [← slen a b]; exact hl') ((atS_still (by rw [← slen a b]; exact hl') hs').2 e))
      (fun h j _ hl' => fun e => h1 h j (by rw [← slen a b]; exact hl') ((atS_still (by rw [← slen a b]; exact hl') (.inl rfl)).2 e))
    exact ⟨a', b', h2, h3, h4⟩
  simp only [Int.toNat_natCast, Nat.zero_add]
  refine ⟨by omega, by omega, ⟨((l.length, l.length) : Nat × Nat), [], [0, 1], ⟨Nat.le_refl _, Nat.le_refl _, rfl⟩, trivial, into_mk (by kernel_rfl) (by (repeat' first | exact trivial | exact rfl | apply And.intro)) ?_⟩, fun z hc => ⟨⟨hl, by rw [mlen]; exact Nat.le_refl _, i1⟩, into_mk (by kernel_rfl) ?_ (by (repeat' first | exact trivial | exact rfl | apply And.intro)), fun _ _ => ⟨trivial, into_mk (by kernel_rfl) (by (repeat' first | exact trivial | exact rfl | apply And.intro)) (by (repeat' first | exact trivial | exact rfl | apply And.intro)), fun _ _ => ite2_decide (fun hw => ?_) (fun hw => fin _ _ hc (final_stop hw))⟩⟩⟩
  · have hq : List.replicate l.length false = marks l l.length l.length := (false_zero l).trans (marks_all l)
    (repeat' first | exact trivial | exact rfl | exact hq | apply And.intro)
  · have hq := (mlen z.1 z.2).symm
    (repeat' first | exact trivial | exact rfl | exact hq | apply And.intro)
  · have hq := (mlen z.1 z.2).symm
    refine ⟨⟨hq, i1⟩, into_mk (by kernel_rfl) (by (repeat' first | exact trivial | exact rfl | exact hq | apply And.intro)) (by (repeat' first | exact trivial | exact rfl | apply And.intro)), fun y hy => ite2_decide (fun hy0 => ?_) (fun hy0 => ite2_decide (fun h => absurd h hy0) (fun _ => ?_))⟩
    · have h1 : ∀ j, j < l.length → ¬ AtS l (marks l z.1 z.2) 1 j := by
        rcases hy with ⟨_, h⟩ | ⟨i, hi, _⟩
        · exact h
        · omega
      refine ⟨⟨hq, i1⟩, into_mk (by kernel_rfl) (by (repeat' first | exact trivial | exact rfl | exact hq | apply And.intro)) (by (repeat' first | exact trivial | exact rfl | apply And.intro)), fun y2 hy2 => ite2_decide (fun hy3 => ?_) (fun hy3 => ?_)⟩
      · have h2 : ∀ j, j < l.length → ¬ AtS l (marks l z.1 z.2) 2 j := by
          rcases hy2 with ⟨_, h⟩ | ⟨i, hi, _⟩
          · exact h
          · omega
        refine fin _ _ hc (final_none (prevS_none fun j hj e => ?_) (prevS_none fun j hj e => ?_))
        · have hjl : j < l.length := by have := hc.m1; omega
          exact h1 j hjl ((atS_still hjl (.inl rfl)).2 ((still_one hjl).2 ⟨e, hj⟩))
        · have hjl : j < l.length := by have := hc.m2; omega
          exact h2 j hjl ((atS_still hjl (.inr rfl)).2 ((still_two hjl).2 ⟨e, hj⟩))
      · rcases hy2 with ⟨h, _⟩ | ⟨i, hi, hil, hat, hnone⟩
        · omega
        · subst hi
          obtain ⟨a', b', hc', hlt, hset⟩ := go z.1 z.2 2 i hc hw (.inr rfl) hil hat hnone (fun _ => h1)
          have z1 : (0 : Int) ≤ (i : Int) ∧ (i : Int) < l.length := by omega
          have z2 : i < (marks l z.1 z.2).length := by rw [mlen]; exact hil
          simp only [Int.toNat_natCast]
          have hq := hset
          exact ⟨z1, z2, trivial, z2, ⟨((a', b') : Nat × Nat), [], [0, 1], hc', hlt, into_mk (by kernel_rfl) (by (repeat' first | exact trivial | exact rfl | apply And.intro)) (by (repeat' first | exact trivial | exact rfl | exact hq | apply And.intro))⟩⟩
    · rcases hy with ⟨h, _⟩ | ⟨i, hi, hil, hat, hnone⟩
      · omega
      · subst hi
        obtain ⟨a', b', hc', hlt, hset⟩ := go z.1 z.2 1 i hc hw (.inl rfl) hil hat hnone (fun h => absurd h (by decide))
        have z1 : (0 : Int) ≤ (i : Int) ∧ (i : Int) < l.length := by omega
        have z2 : i < (marks l z.1 z.2).length := by rw [mlen]; exact hil
        simp only [Int.toNat_natCast]
        have hq := hset
        exact ⟨z1, z2, trivial, z2, ⟨((a', b') : Nat × Nat), [], [0, 1], hc', hlt, into_mk (by kernel_rfl) (by (repeat' first | exact trivial | exact rfl | apply And.intro)) (by (repeat' first | exact trivial | exact rfl | exact hq | apply And.intro))⟩⟩
end Go.Proofs.Ytljamcgngojaeaa.T
namespace Go.Proofs.Ytljamcgngojaeaa.T
open Go.Proofs.Ytljamcgngojaeaa.E
set_option maxRecDepth 100000
set_option linter.unusedVariables false
def come (l : List Cell) (b : Bool) (it : Item) : Int := max (if b then (cellOf l it).bytes else (cellOf l it).names) 0
def gone' (l : List Cell) (b : Bool) (it : Item) : Int := max (if b then (cellOf l it).hadB else (cellOf l it).hadN) 0
def rnStep (l : List Cell) (d : Int) (b : Bool) (p : Int × Int) (it : Item) : Int × Int := if it.dst = d ∧ it.what = 3 then (max p.1 (addF p.2 (come l b it)), addF (addF p.2 (come l b it)) (0 - gone' l b it)) else p
def rnF (l : List Cell) (d : Int) (b : Bool) (its : List Item) : Int × Int := its.foldl (rnStep l d b) (0, 0)
theorem rnF_snoc (l : List Cell) (d : Int) (b : Bool) (its : List Item) (it : Item) : rnF l d b (its ++ [it]) = rnStep l d b (rnF l d b its) it := by simp [rnF]
def ct_rneed (l : List Cell) (its : List Item) (d : Int) (b : Bool) : Ct KK := { need := Cells l ∧ its.length ≤ 100000 ∧ ∀ it ∈ its, 0 ≤ it.cell ∧ it.cell < l.length, pre := [.ro .cell l, .ro .item its], args := [.agg [.slc 0 0 l.length none], .c (.slc 1 0 its.length none), i64 d, boolv b], Y := Unit, ok := fun _ => True, ret := fun _ => i64 (rnF l d b its).1, post := fun _ => [.gone, .gone] }
abbrev rnA (l : List Cell) (its : List Item) (d : Int) (b : Bool) (i : Nat) : Int × Int := rnF l d b (its.take i)
def inv_rneed (l : List Cell) (its : List Item) (d : Int) (b : Bool) : Inv KK := { X := Nat, fr := fun i => [.any, .c (.slc 1 0 its.length none), i64 d, boolv b, .c (.ptr 2 0 0), .any, .any, .any, .any, i64 (rnA l its d b i).1, i64 (rnA l its d b i).2, i64 i] ++ anys 58, H := fun _ => [.ro .cell l, .ro .item its, .cells 25 [.slc 0 0 l.length none]], ok := fun i => i ≤ its.length, meas := fun i : Nat => its.length - i }
theorem vc_rneed (l : List Cell) (its : List Item) (d : Int) (b : Bool) : evFn tab14 (ann1 (inv_rneed l its d b)) Try.f34 (ct_rneed l its d b) = ( Enter (1 + 1) (inv_rneed l its d b) (fun (x : Nat) => True) [VV.one (V1.agg [C.slc 0 0 l.length none]), VV.one (V1.c (C.slc 1 0 its.length none)), i64 d, boolv b, VV.one (V1.c (C.ptr 2 0 0)), VV.any,
 VV.any, VV.any, i64 (0 : Int), i64 (0 : Int), i64 (0 : Int), i64 (0 : Int), VV.any, VV.any, VV.any, VV.any, VV.any, VV.any, VV.any, VV.any, VV.any, VV.any, VV.any, VV.any, VV.any, VV.any, VV.any, VV.any,
 VV.any, VV.any, VV.any, VV.any, VV.any, VV.any, VV.any, VV.any, VV.any, VV.any, VV.any, VV.any, VV.any, VV.any, VV.any, VV.any, VV.any, VV.any, VV.any, VV.any, VV.any, VV.any, VV.any, VV.any, VV.any, VV.any,
 VV.any, VV.any, VV.any, VV.any, VV.any, VV.any, VV.any, VV.any, VV.any, VV.any, VV.any, VV.any, VV.any, VV.any, VV.any, VV.any] [Atom.ro Kd.cell l, Atom.ro Kd.item its, Atom.cells 25 [C.slc 0 0 l.length
 none]] ∧ ∀ (z : Nat), z ≤ its.length → ite2 (decide ((↑z : Int) < (↑its.length : Int))) (((0 : Int) ≤ (↑z : Int) ∧ (↑z : Int) < (↑its.length : Int)) ∧ 0 + (↑z : Int).toNat < its.length ∧ True ∧ 0 + (↑z
 : Int).toNat < its.length ∧ ite2 (decide ((rd its (0 + (↑z : Int).toNat) (KK.dflt Kd.item)).dst = d)) (((0 : Int) ≤ (↑z : Int) ∧ (↑z : Int) < (↑its.length : Int)) ∧ 0 + (↑z : Int).toNat < its.length ∧
 True ∧ 0 + (↑z : Int).toNat < its.length ∧ ite2 (decide ((rd its (0 + (↑z : Int).toNat) (KK.dflt Kd.item)).what = (3 : Int))) (((0 : Int) ≤ (↑z : Int) ∧ (↑z : Int) < (↑its.length : Int)) ∧ 0 + (↑z : Int).toNat
 < its.length ∧ True ∧ 0 + (↑z : Int).toNat < its.length ∧ ((0 : Int) ≤ (rd its (0 + (↑z : Int).toNat) (KK.dflt Kd.item)).cell ∧ (rd its (0 + (↑z : Int).toNat) (KK.dflt Kd.item)).cell < (↑l.length : Int))
 ∧ 0 + (rd its (0 + (↑z : Int).toNat) (KK.dflt Kd.item)).cell.toNat < l.length ∧ True ∧ 0 + (rd its (0 + (↑z : Int).toNat) (KK.dflt Kd.item)).cell.toNat < l.length ∧ True ∧ True ∧ True ∧ True ∧ Into (K
 := KK) 0 [] [] [VV.one (V1.c (C.int .i64 (rd l (0 + (rd its (0 + (↑z : Int).toNat) (KK.dflt Kd.item)).cell.toNat) (KK.dflt Kd.cell)).names))] [Atom.ro Kd.cell l, Atom.ro Kd.item its, Atom.cells 25 [C.slc
 0 0 l.length none], Atom.cells 44 [C.str (rd l (0 + (rd its (0 + (↑z : Int).toNat) (KK.dflt Kd.item)).cell.toNat) (KK.dflt Kd.cell)).path, C.int .i64 (rd l (0 + (rd its (0 + (↑z : Int).toNat) (KK.dflt
 Kd.item)).cell.toNat) (KK.dflt Kd.cell)).what, C.int .i64 (rd l (0 + (rd its (0 + (↑z : Int).toNat) (KK.dflt Kd.item)).cell.toNat) (KK.dflt Kd.cell)).side, C.int .i64 (rd l (0 + (rd its (0 + (↑z : Int).toNat)
 (KK.dflt Kd.item)).cell.toNat) (KK.dflt Kd.cell)).mode, C.int .i64 (rd l (0 + (rd its (0 + (↑z : Int).toNat) (KK.dflt Kd.item)).cell.toNat) (KK.dflt Kd.cell)).keep, C.int .i64 (rd l (0 + (rd its (0 + (↑z
 : Int).toNat) (KK.dflt Kd.item)).cell.toNat) (KK.dflt Kd.cell)).take, C.int .i64 (rd l (0 + (rd its (0 + (↑z : Int).toNat) (KK.dflt Kd.item)).cell.toNat) (KK.dflt Kd.cell)).names, C.int .i64 (rd l (0 +
 (rd its (0 + (↑z : Int).toNat) (KK.dflt Kd.item)).cell.toNat) (KK.dflt Kd.cell)).bytes, C.int .i64 (rd l (0 + (rd its (0 + (↑z : Int).toNat) (KK.dflt Kd.item)).cell.toNat) (KK.dflt Kd.cell)).hadN, C.int
 .i64 (rd l (0 + (rd its (0 + (↑z : Int).toNat) (KK.dflt Kd.item)).cell.toNat) (KK.dflt Kd.cell)).hadB]] [VV.one (V1.c (C.int .i64 (rd l (0 + (rd its (0 + (↑z : Int).toNat) (KK.dflt Kd.item)).cell.toNat)
 (KK.dflt Kd.cell)).names))] [] ∧ ∀ (y : Unit), True → (VV.one (V1.c (C.int .i64 (rd l (0 + (rd its (0 + (↑z : Int).toNat) (KK.dflt Kd.item)).cell.toNat) (KK.dflt Kd.cell)).hadN)) = VV.one (V1.c (C.int
 .i64 (rd l (0 + (rd its (0 + (↑z : Int).toNat) (KK.dflt Kd.item)).cell.toNat) (KK.dflt Kd.cell)).hadN)) ∧ True) ∧ True ∧ Into (K := KK) 0 [] [] [VV.one (V1.c (C.int .i64 (rd l (0 + (rd its (0 + (↑z : Int).toNat)
 (KK.dflt Kd.item)).cell.toNat) (KK.dflt Kd.cell)).hadN))] [Atom.ro Kd.cell l, Atom.ro Kd.item its, Atom.cells 25 [C.slc 0 0 l.length none], Atom.cells 44 [C.str (rd l (0 + (rd its (0 + (↑z : Int).toNat)
 (KK.dflt Kd.item)).cell.toNat) (KK.dflt Kd.cell)).path, C.int .i64 (rd l (0 + (rd its (0 + (↑z : Int).toNat) (KK.dflt Kd.item)).cell.toNat) (KK.dflt Kd.cell)).what, C.int .i64 (rd l (0 + (rd its (0 + (↑z
 : Int).toNat) (KK.dflt Kd.item)).cell.toNat) (KK.dflt Kd.cell)).side, C.int .i64 (rd l (0 + (rd its (0 + (↑z : Int).toNat) (KK.dflt Kd.item)).cell.toNat) (KK.dflt Kd.cell)).mode, C.int .i64 (rd l (0 +
 (rd its (0 + (↑z : Int).toNat) (KK.dflt Kd.item)).cell.toNat) (KK.dflt Kd.cell)).keep, C.int .i64 (rd l (0 + (rd its (0 + (↑z : Int).toNat) (KK.dflt Kd.item)).cell.toNat) (KK.dflt Kd.cell)).take, C.int
 .i64 (rd l (0 + (rd its (0 + (↑z : Int).toNat) (KK.dflt Kd.item)).cell.toNat) (KK.dflt Kd.cell)).names, C.int .i64 (rd l (0 + (rd its (0 + (↑z : Int).toNat) (KK.dflt Kd.item)).cell.toNat) (KK.dflt Kd.cell)).bytes,
 C.int .i64 (rd l (0 + (rd its (0 + (↑z : Int).toNat) (KK.dflt Kd.item)).cell.toNat) (KK.dflt Kd.cell)).hadN, C.int .i64 (rd l (0 + (rd its (0 + (↑z : Int).toNat) (KK.dflt Kd.item)).cell.toNat) (KK.dflt
 Kd.cell)).hadB]] [VV.one (V1.c (C.int .i64 (rd l (0 + (rd its (0 + (↑z : Int).toNat) (KK.dflt Kd.item)).cell.toNat) (KK.dflt Kd.cell)).hadN))] [] ∧ ∀ (y : Unit), True → True ∧ True ∧ True ∧ ite2 b (True
 ∧ True ∧ Into (K := KK) 0 [] [] [VV.one (V1.c (C.int .i64 (rd l (0 + (rd its (0 + (↑z : Int).toNat) (KK.dflt Kd.item)).cell.toNat) (KK.dflt Kd.cell)).bytes))] [Atom.ro Kd.cell l, Atom.ro Kd.item its, Atom.cells
 25 [C.slc 0 0 l.length none], Atom.cells 44 [C.str (rd l (0 + (rd its (0 + (↑z : Int).toNat) (KK.dflt Kd.item)).cell.toNat) (KK.dflt Kd.cell)).path, C.int .i64 (rd l (0 + (rd its (0 + (↑z : Int).toNat)
 (KK.dflt Kd.item)).cell.toNat) (KK.dflt Kd.cell)).what, C.int .i64 (rd l (0 + (rd its (0 + (↑z : Int).toNat) (KK.dflt Kd.item)).cell.toNat) (KK.dflt Kd.cell)).side, C.int .i64 (rd l (0 + (rd its (0 + (↑z
 : Int).toNat) (KK.dflt Kd.item)).cell.toNat) (KK.dflt Kd.cell)).mode, C.int .i64 (rd l (0 + (rd its (0 + (↑z : Int).toNat) (KK.dflt Kd.item)).cell.toNat) (KK.dflt Kd.cell)).keep, C.int .i64 (rd l (0 +
 (rd its (0 + (↑z : Int).toNat) (KK.dflt Kd.item)).cell.toNat) (KK.dflt Kd.cell)).take, C.int .i64 (rd l (0 + (rd its (0 + (↑z : Int).toNat) (KK.dflt Kd.item)).cell.toNat) (KK.dflt Kd.cell)).names, C.int
 .i64 (rd l (0 + (rd its (0 + (↑z : Int).toNat) (KK.dflt Kd.item)).cell.toNat) (KK.dflt Kd.cell)).bytes, C.int .i64 (rd l (0 + (rd its (0 + (↑z : Int).toNat) (KK.dflt Kd.item)).cell.toNat) (KK.dflt Kd.cell)).hadN,
 C.int .i64 (rd l (0 + (rd its (0 + (↑z : Int).toNat) (KK.dflt Kd.item)).cell.toNat) (KK.dflt Kd.cell)).hadB]] [VV.one (V1.c (C.int .i64 (rd l (0 + (rd its (0 + (↑z : Int).toNat) (KK.dflt Kd.item)).cell.toNat)
 (KK.dflt Kd.cell)).bytes))] [] ∧ ∀ (y : Unit), True → (VV.one (V1.c (C.int .i64 (rd l (0 + (rd its (0 + (↑z : Int).toNat) (KK.dflt Kd.item)).cell.toNat) (KK.dflt Kd.cell)).hadB)) = VV.one (V1.c (C.int
 .i64 (rd l (0 + (rd its (0 + (↑z : Int).toNat) (KK.dflt Kd.item)).cell.toNat) (KK.dflt Kd.cell)).hadB)) ∧ True) ∧ True ∧ Into (K := KK) 0 [] [] [VV.one (V1.c (C.int .i64 (rd l (0 + (rd its (0 + (↑z : Int).toNat)
 (KK.dflt Kd.item)).cell.toNat) (KK.dflt Kd.cell)).hadB))] [Atom.ro Kd.cell l, Atom.ro Kd.item its, Atom.cells 25 [C.slc 0 0 l.length none], Atom.cells 44 [C.str (rd l (0 + (rd its (0 + (↑z : Int).toNat)
 (KK.dflt Kd.item)).cell.toNat) (KK.dflt Kd.cell)).path, C.int .i64 (rd l (0 + (rd its (0 + (↑z : Int).toNat) (KK.dflt Kd.item)).cell.toNat) (KK.dflt Kd.cell)).what, C.int .i64 (rd l (0 + (rd its (0 + (↑z
 : Int).toNat) (KK.dflt Kd.item)).cell.toNat) (KK.dflt Kd.cell)).side, C.int .i64 (rd l (0 + (rd its (0 + (↑z : Int).toNat) (KK.dflt Kd.item)).cell.toNat) (KK.dflt Kd.cell)).mode, C.int .i64 (rd l (0 +
 (rd its (0 + (↑z : Int).toNat) (KK.dflt Kd.item)).cell.toNat) (KK.dflt Kd.cell)).keep, C.int .i64 (rd l (0 + (rd its (0 + (↑z : Int).toNat) (KK.dflt Kd.item)).cell.toNat) (KK.dflt Kd.cell)).take, C.int
 .i64 (rd l (0 + (rd its (0 + (↑z : Int).toNat) (KK.dflt Kd.item)).cell.toNat) (KK.dflt Kd.cell)).names, C.int .i64 (rd l (0 + (rd its (0 + (↑z : Int).toNat) (KK.dflt Kd.item)).cell.toNat) (KK.dflt Kd.cell)).bytes,
 C.int .i64 (rd l (0 + (rd its (0 + (↑z : Int).toNat) (KK.dflt Kd.item)).cell.toNat) (KK.dflt Kd.cell)).hadN, C.int .i64 (rd l (0 + (rd its (0 + (↑z : Int).toNat) (KK.dflt Kd.item)).cell.toNat) (KK.dflt
 Kd.cell)).hadB]] [VV.one (V1.c (C.int .i64 (rd l (0 + (rd its (0 + (↑z : Int).toNat) (KK.dflt Kd.item)).cell.toNat) (KK.dflt Kd.cell)).hadB))] [] ∧ ∀ (y : Unit), True → True ∧ True ∧ True ∧ (i64ok (rnA
 l its d b z).snd ∧ i64ok (max (rd l (0 + (rd its (0 + (↑z : Int).toNat) (KK.dflt Kd.item)).cell.toNat) (KK.dflt Kd.cell)).bytes (0 : Int)) ∧ (0 : Int) ≤ max (rd l (0 + (rd its (0 + (↑z : Int).toNat) (KK.dflt
 Kd.item)).cell.toNat) (KK.dflt Kd.cell)).bytes (0 : Int)) ∧ Into (K := KK) 0 [] [] [VV.one (V1.c (C.int .i64 (rnA l its d b z).snd)), VV.one (V1.c (C.int .i64 (max (rd l (0 + (rd its (0 + (↑z : Int).toNat)
 (KK.dflt Kd.item)).cell.toNat) (KK.dflt Kd.cell)).bytes (0 : Int))))] [Atom.ro Kd.cell l, Atom.ro Kd.item its, Atom.cells 25 [C.slc 0 0 l.length none], Atom.cells 44 [C.str (rd l (0 + (rd its (0 + (↑z
 : Int).toNat) (KK.dflt Kd.item)).cell.toNat) (KK.dflt Kd.cell)).path, C.int .i64 (rd l (0 + (rd its (0 + (↑z : Int).toNat) (KK.dflt Kd.item)).cell.toNat) (KK.dflt Kd.cell)).what, C.int .i64 (rd l (0 +
 (rd its (0 + (↑z : Int).toNat) (KK.dflt Kd.item)).cell.toNat) (KK.dflt Kd.cell)).side, C.int .i64 (rd l (0 + (rd its (0 + (↑z : Int).toNat) (KK.dflt Kd.item)).cell.toNat) (KK.dflt Kd.cell)).mode, C.int
 .i64 (rd l (0 + (rd its (0 + (↑z : Int).toNat) (KK.dflt Kd.item)).cell.toNat) (KK.dflt Kd.cell)).keep, C.int .i64 (rd l (0 + (rd its (0 + (↑z : Int).toNat) (KK.dflt Kd.item)).cell.toNat) (KK.dflt Kd.cell)).take,
 C.int .i64 (rd l (0 + (rd its (0 + (↑z : Int).toNat) (KK.dflt Kd.item)).cell.toNat) (KK.dflt Kd.cell)).names, C.int .i64 (rd l (0 + (rd its (0 + (↑z : Int).toNat) (KK.dflt Kd.item)).cell.toNat) (KK.dflt
 Kd.cell)).bytes, C.int .i64 (rd l (0 + (rd its (0 + (↑z : Int).toNat) (KK.dflt Kd.item)).cell.toNat) (KK.dflt Kd.cell)).hadN, C.int .i64 (rd l (0 + (rd its (0 + (↑z : Int).toNat) (KK.dflt Kd.item)).cell.toNat)
 (KK.dflt Kd.cell)).hadB]] [VV.one (V1.c (C.int .i64 (rnA l its d b z).snd)), VV.one (V1.c (C.int .i64 (max (rd l (0 + (rd its (0 + (↑z : Int).toNat) (KK.dflt Kd.item)).cell.toNat) (KK.dflt Kd.cell)).bytes
 (0 : Int))))] [] ∧ ∀ (y : Unit), True → (i64ok (addF (rnA l its d b z).snd (max (rd l (0 + (rd its (0 + (↑z : Int).toNat) (KK.dflt Kd.item)).cell.toNat) (KK.dflt Kd.cell)).bytes (0 : Int))) ∧ i64ok (max
 (rd l (0 + (rd its (0 + (↑z : Int).toNat) (KK.dflt Kd.item)).cell.toNat) (KK.dflt Kd.cell)).hadB (0 : Int)) ∧ (0 : Int) ≤ max (rd l (0 + (rd its (0 + (↑z : Int).toNat) (KK.dflt Kd.item)).cell.toNat) (KK.dflt
 Kd.cell)).hadB (0 : Int)) ∧ Into (K := KK) 0 [] [] [VV.one (V1.c (C.int .i64 (addF (rnA l its d b z).snd (max (rd l (0 + (rd its (0 + (↑z : Int).toNat) (KK.dflt Kd.item)).cell.toNat) (KK.dflt Kd.cell)).bytes
 (0 : Int))))), VV.one (V1.c (C.int .i64 (max (rd l (0 + (rd its (0 + (↑z : Int).toNat) (KK.dflt Kd.item)).cell.toNat) (KK.dflt Kd.cell)).hadB (0 : Int))))] [Atom.ro Kd.cell l, Atom.ro Kd.item its, Atom.cells
 25 [C.slc 0 0 l.length none], Atom.cells 44 [C.str (rd l (0 + (rd its (0 + (↑z : Int).toNat) (KK.dflt Kd.item)).cell.toNat) (KK.dflt Kd.cell)).path, C.int .i64 (rd l (0 + (rd its (0 + (↑z : Int).toNat)
 (KK.dflt Kd.item)).cell.toNat) (KK.dflt Kd.cell)).what, C.int .i64 (rd l (0 + (rd its (0 + (↑z : Int).toNat) (KK.dflt Kd.item)).cell.toNat) (KK.dflt Kd.cell)).side, C.int .i64 (rd l (0 + (rd its (0 + (↑z
 : Int).toNat) (KK.dflt Kd.item)).cell.toNat) (KK.dflt Kd.cell)).mode, C.int .i64 (rd l (0 + (rd its (0 + (↑z : Int).toNat) (KK.dflt Kd.item)).cell.toNat) (KK.dflt Kd.cell)).keep, C.int .i64 (rd l (0 +
 (rd its (0 + (↑z : Int).toNat) (KK.dflt Kd.item)).cell.toNat) (KK.dflt Kd.cell)).take, C.int .i64 (rd l (0 + (rd its (0 + (↑z : Int).toNat) (KK.dflt Kd.item)).cell.toNat) (KK.dflt Kd.cell)).names, C.int
 .i64 (rd l (0 + (rd its (0 + (↑z : Int).toNat) (KK.dflt Kd.item)).cell.toNat) (KK.dflt Kd.cell)).bytes, C.int .i64 (rd l (0 + (rd its (0 + (↑z : Int).toNat) (KK.dflt Kd.item)).cell.toNat) (KK.dflt Kd.cell)).hadN,
 C.int .i64 (rd l (0 + (rd its (0 + (↑z : Int).toNat) (KK.dflt Kd.item)).cell.toNat) (KK.dflt Kd.cell)).hadB]] [VV.one (V1.c (C.int .i64 (addF (rnA l its d b z).snd (max (rd l (0 + (rd its (0 + (↑z : Int).toNat)
 (KK.dflt Kd.item)).cell.toNat) (KK.dflt Kd.cell)).bytes (0 : Int))))), VV.one (V1.c (C.int .i64 (max (rd l (0 + (rd its (0 + (↑z : Int).toNat) (KK.dflt Kd.item)).cell.toNat) (KK.dflt Kd.cell)).hadB (0
 : Int))))] [] ∧ ∀ (y : Unit), True → i64ok ((↑z : Int) + (1 : Int)) ∧ Enter (1 + 1) (inv_rneed l its d b) (fun (z' : Nat) => its.length - z' < its.length - z) [VV.any, VV.one (V1.c (C.slc 1 0 its.length
 none)), VV.one (V1.c (C.int .i64 d)), boolv b, VV.one (V1.c (C.ptr 2 0 0)), VV.any, VV.any, VV.any, VV.any, VV.one (V1.c (C.int .i64 (max (rnA l its d b z).fst (addF (rnA l its d b z).snd (max (rd l (0
 + (rd its ((0 : Nat) + (↑z : Int).toNat) (KK.dflt Kd.item)).cell.toNat) (KK.dflt Kd.cell)).bytes (0 : Int)))))), VV.one (V1.c (C.int .i64 (addF (addF (rnA l its d b z).snd (max (rd l (0 + (rd its ((0 :
 Nat) + (↑z : Int).toNat) (KK.dflt Kd.item)).cell.toNat) (KK.dflt Kd.cell)).bytes (0 : Int))) ((0 : Int) - max (rd l (0 + (rd its ((0 : Nat) + (↑z : Int).toNat) (KK.dflt Kd.item)).cell.toNat) (KK.dflt Kd.cell)).hadB
 (0 : Int))))), VV.one (V1.c (C.int .i64 ((↑z : Int) + (1 : Int)))), VV.one (V1.c (C.ptr 3 0 0)), VV.one (V1.c (C.int .i64 (max (rd l (0 + (rd its (0 + (↑z : Int).toNat) (KK.dflt Kd.item)).cell.toNat) (KK.dflt
 Kd.cell)).bytes (0 : Int)))), VV.one (V1.c (C.int .i64 (max (rd l (0 + (rd its (0 + (↑z : Int).toNat) (KK.dflt Kd.item)).cell.toNat) (KK.dflt Kd.cell)).hadB (0 : Int)))), VV.one (V1.c (C.int .i64 (↑z :
 Int))), VV.one (V1.c (C.slc 1 0 its.length none)), VV.one (V1.c (C.int .i64 (↑its.length : Int))), boolv true, VV.one (V1.c (C.int .i64 (↑z : Int))), VV.one (V1.c (C.int .i64 ((↑z : Int) + (1 : Int)))),
 VV.one (V1.c (C.slc 1 0 its.length none)), VV.one (V1.c (C.int .i64 (↑z : Int))), VV.one (V1.c (C.ptr 1 (0 + (↑z : Int).toNat) 0)), VV.one (V1.c (C.ptr 1 (0 + (↑z : Int).toNat) 5)), VV.one (V1.c (C.int
 .i64 (rd its (0 + (↑z : Int).toNat) (KK.dflt Kd.item)).dst)), VV.one (V1.c (C.int .i64 d)), boolv false, boolv false, VV.one (V1.c (C.slc 1 0 its.length none)), VV.one (V1.c (C.int .i64 (↑z : Int))), VV.one
 (V1.c (C.ptr 1 (0 + (↑z : Int).toNat) 0)), VV.one (V1.c (C.ptr 1 (0 + (↑z : Int).toNat) 3)), VV.one (V1.c (C.int .i64 (rd its (0 + (↑z : Int).toNat) (KK.dflt Kd.item)).what)), boolv false, boolv false,
 VV.one (V1.c (C.ptr 2 0 0)), VV.one (V1.c (C.slc 0 0 l.length none)), VV.one (V1.c (C.slc 1 0 its.length none)), VV.one (V1.c (C.int .i64 (↑z : Int))), VV.one (V1.c (C.ptr 1 (0 + (↑z : Int).toNat) 0)),
 VV.one (V1.c (C.ptr 1 (0 + (↑z : Int).toNat) 1)), VV.one (V1.c (C.int .i64 (rd its (0 + (↑z : Int).toNat) (KK.dflt Kd.item)).cell)), VV.one (V1.c (C.ptr 0 (0 + (rd its (0 + (↑z : Int).toNat) (KK.dflt Kd.item)).cell.toNat)
 0)), VV.one (V1.agg [C.str (rd l (0 + (rd its (0 + (↑z : Int).toNat) (KK.dflt Kd.item)).cell.toNat) (KK.dflt Kd.cell)).path, C.int .i64 (rd l (0 + (rd its (0 + (↑z : Int).toNat) (KK.dflt Kd.item)).cell.toNat)
 (KK.dflt Kd.cell)).what, C.int .i64 (rd l (0 + (rd its (0 + (↑z : Int).toNat) (KK.dflt Kd.item)).cell.toNat) (KK.dflt Kd.cell)).side, C.int .i64 (rd l (0 + (rd its (0 + (↑z : Int).toNat) (KK.dflt Kd.item)).cell.toNat)
 (KK.dflt Kd.cell)).mode, C.int .i64 (rd l (0 + (rd its (0 + (↑z : Int).toNat) (KK.dflt Kd.item)).cell.toNat) (KK.dflt Kd.cell)).keep, C.int .i64 (rd l (0 + (rd its (0 + (↑z : Int).toNat) (KK.dflt Kd.item)).cell.toNat)
 (KK.dflt Kd.cell)).take, C.int .i64 (rd l (0 + (rd its (0 + (↑z : Int).toNat) (KK.dflt Kd.item)).cell.toNat) (KK.dflt Kd.cell)).names, C.int .i64 (rd l (0 + (rd its (0 + (↑z : Int).toNat) (KK.dflt Kd.item)).cell.toNat)
 (KK.dflt Kd.cell)).bytes, C.int .i64 (rd l (0 + (rd its (0 + (↑z : Int).toNat) (KK.dflt Kd.item)).cell.toNat) (KK.dflt Kd.cell)).hadN, C.int .i64 (rd l (0 + (rd its (0 + (↑z : Int).toNat) (KK.dflt Kd.item)).cell.toNat)
 (KK.dflt Kd.cell)).hadB]), VV.one (V1.c (C.ptr 3 0 6)), VV.one (V1.c (C.int .i64 (rd l (0 + (rd its (0 + (↑z : Int).toNat) (KK.dflt Kd.item)).cell.toNat) (KK.dflt Kd.cell)).names)), VV.one (V1.c (C.int
 .i64 (max (rd l (0 + (rd its (0 + (↑z : Int).toNat) (KK.dflt Kd.item)).cell.toNat) (KK.dflt Kd.cell)).names (0 : Int)))), VV.one (V1.c (C.ptr 3 0 8)), VV.one (V1.c (C.ptr 3 0 8)), VV.one (V1.c (C.int .i64
 (rd l (0 + (rd its (0 + (↑z : Int).toNat) (KK.dflt Kd.item)).cell.toNat) (KK.dflt Kd.cell)).hadN)), VV.one (V1.c (C.int .i64 (max (rd l (0 + (rd its (0 + (↑z : Int).toNat) (KK.dflt Kd.item)).cell.toNat)
 (KK.dflt Kd.cell)).hadN (0 : Int)))), boolv b, VV.one (V1.c (C.ptr 3 0 7)), VV.one (V1.c (C.int .i64 (rd l (0 + (rd its (0 + (↑z : Int).toNat) (KK.dflt Kd.item)).cell.toNat) (KK.dflt Kd.cell)).bytes)),
 VV.one (V1.c (C.int .i64 (max (rd l (0 + (rd its (0 + (↑z : Int).toNat) (KK.dflt Kd.item)).cell.toNat) (KK.dflt Kd.cell)).bytes (0 : Int)))), VV.one (V1.c (C.ptr 3 0 8)), VV.one (V1.c (C.ptr 3 0 9)), VV.one
 (V1.c (C.int .i64 (rd l (0 + (rd its (0 + (↑z : Int).toNat) (KK.dflt Kd.item)).cell.toNat) (KK.dflt Kd.cell)).hadB)), VV.one (V1.c (C.int .i64 (max (rd l (0 + (rd its (0 + (↑z : Int).toNat) (KK.dflt Kd.item)).cell.toNat)
 (KK.dflt Kd.cell)).hadB (0 : Int)))), VV.one (V1.c (C.int .i64 (rnA l its d b z).snd)), VV.one (V1.c (C.int .i64 (max (rd l (0 + (rd its (0 + (↑z : Int).toNat) (KK.dflt Kd.item)).cell.toNat) (KK.dflt Kd.cell)).bytes
 (0 : Int)))), VV.one (V1.c (C.int .i64 (addF (rnA l its d b z).snd (max (rd l (0 + (rd its (0 + (↑z : Int).toNat) (KK.dflt Kd.item)).cell.toNat) (KK.dflt Kd.cell)).bytes (0 : Int))))), VV.one (V1.c (C.int
 .i64 (rnA l its d b z).fst)), VV.one (V1.c (C.int .i64 (addF (rnA l its d b z).snd (max (rd l (0 + (rd its (0 + (↑z : Int).toNat) (KK.dflt Kd.item)).cell.toNat) (KK.dflt Kd.cell)).bytes (0 : Int))))),
 VV.one (V1.c (C.int .i64 (max (rnA l its d b z).fst (addF (rnA l its d b z).snd (max (rd l (0 + (rd its ((0 : Nat) + (↑z : Int).toNat) (KK.dflt Kd.item)).cell.toNat) (KK.dflt Kd.cell)).bytes (0 : Int)))))),
 VV.one (V1.c (C.int .i64 (addF (rnA l its d b z).snd (max (rd l (0 + (rd its (0 + (↑z : Int).toNat) (KK.dflt Kd.item)).cell.toNat) (KK.dflt Kd.cell)).bytes (0 : Int))))), VV.one (V1.c (C.int .i64 (max
 (rd l (0 + (rd its (0 + (↑z : Int).toNat) (KK.dflt Kd.item)).cell.toNat) (KK.dflt Kd.cell)).hadB (0 : Int)))), VV.one (V1.c (C.int .i64 (addF (addF (rnA l its d b z).snd (max (rd l (0 + (rd its ((0 : Nat)
 + (↑z : Int).toNat) (KK.dflt Kd.item)).cell.toNat) (KK.dflt Kd.cell)).bytes (0 : Int))) ((0 : Int) - max (rd l (0 + (rd its ((0 : Nat) + (↑z : Int).toNat) (KK.dflt Kd.item)).cell.toNat) (KK.dflt Kd.cell)).hadB
 (0 : Int))))), VV.any] [Atom.ro Kd.cell l, Atom.ro Kd.item its, Atom.cells 25 [C.slc 0 0 l.length none], Atom.cells 44 [C.str (rd l (0 + (rd its (0 + (↑z : Int).toNat) (KK.dflt Kd.item)).cell.toNat) (KK.dflt
 Kd.cell)).path, C.int .i64 (rd l (0 + (rd its (0 + (↑z : Int).toNat) (KK.dflt Kd.item)).cell.toNat) (KK.dflt Kd.cell)).what, C.int .i64 (rd l (0 + (rd its (0 + (↑z : Int).toNat) (KK.dflt Kd.item)).cell.toNat)
 (KK.dflt Kd.cell)).side, C.int .i64 (rd l (0 + (rd its (0 + (↑z : Int).toNat) (KK.dflt Kd.item)).cell.toNat) (KK.dflt Kd.cell)).mode, C.int .i64 (rd l (0 + (rd its (0 + (↑z : Int).toNat) (KK.dflt Kd.item)).cell.toNat)
 (KK.dflt Kd.cell)).keep, C.int .i64 (rd l (0 + (rd its (0 + (↑z : Int).toNat) (KK.dflt Kd.item)).cell.toNat) (KK.dflt Kd.cell)).take, C.int .i64 (rd l (0 + (rd its (0 + (↑z : Int).toNat) (KK.dflt Kd.item)).cell.toNat)
 (KK.dflt Kd.cell)).names, C.int .i64 (rd l (0 + (rd its (0 + (↑z : Int).toNat) (KK.dflt Kd.item)).cell.toNat) (KK.dflt Kd.cell)).bytes, C.int .i64 (rd l (0 + (rd its (0 + (↑z : Int).toNat) (KK.dflt Kd.item)).cell.toNat)
 (KK.dflt Kd.cell)).hadN, C.int .i64 (rd l (0 + (rd its (0 + (↑z : Int).toNat) (KK.dflt Kd.item)).cell.toNat) (KK.dflt Kd.cell)).hadB]]) ((i64ok (rnA l its d b z).snd ∧ i64ok (max (rd l (0 + (rd its (0
 + (↑z : Int).toNat) (KK.dflt Kd.item)).cell.toNat) (KK.dflt Kd.cell)).names (0 : Int)) ∧ (0 : Int) ≤ max (rd l (0 + (rd its (0 + (↑z : Int).toNat) (KK.dflt Kd.item)).cell.toNat) (KK.dflt Kd.cell)).names
 (0 : Int)) ∧ Into (K := KK) 0 [] [] [i64 (rnA l its d b z).snd, VV.one (V1.c (C.int .i64 (max (rd l (0 + (rd its (0 + (↑z : Int).toNat) (KK.dflt Kd.item)).cell.toNat) (KK.dflt Kd.cell)).names (0 : Int))))]
 [Atom.ro Kd.cell l, Atom.ro Kd.item its, Atom.cells 25 [C.slc 0 0 l.length none], Atom.cells 44 [C.str (rd l (0 + (rd its (0 + (↑z : Int).toNat) (KK.dflt Kd.item)).cell.toNat) (KK.dflt Kd.cell)).path,
 C.int .i64 (rd l (0 + (rd its (0 + (↑z : Int).toNat) (KK.dflt Kd.item)).cell.toNat) (KK.dflt Kd.cell)).what, C.int .i64 (rd l (0 + (rd its (0 + (↑z : Int).toNat) (KK.dflt Kd.item)).cell.toNat) (KK.dflt
 Kd.cell)).side, C.int .i64 (rd l (0 + (rd its (0 + (↑z : Int).toNat) (KK.dflt Kd.item)).cell.toNat) (KK.dflt Kd.cell)).mode, C.int .i64 (rd l (0 + (rd its (0 + (↑z : Int).toNat) (KK.dflt Kd.item)).cell.toNat)
 (KK.dflt Kd.cell)).keep, C.int .i64 (rd l (0 + (rd its (0 + (↑z : Int).toNat) (KK.dflt Kd.item)).cell.toNat) (KK.dflt Kd.cell)).take, C.int .i64 (rd l (0 + (rd its (0 + (↑z : Int).toNat) (KK.dflt Kd.item)).cell.toNat)
 (KK.dflt Kd.cell)).names, C.int .i64 (rd l (0 + (rd its (0 + (↑z : Int).toNat) (KK.dflt Kd.item)).cell.toNat) (KK.dflt Kd.cell)).bytes, C.int .i64 (rd l (0 + (rd its (0 + (↑z : Int).toNat) (KK.dflt Kd.item)).cell.toNat)
 (KK.dflt Kd.cell)).hadN, C.int .i64 (rd l (0 + (rd its (0 + (↑z : Int).toNat) (KK.dflt Kd.item)).cell.toNat) (KK.dflt Kd.cell)).hadB]] [i64 (rnA l its d b z).snd, VV.one (V1.c (C.int .i64 (max (rd l (0
 + (rd its (0 + (↑z : Int).toNat) (KK.dflt Kd.item)).cell.toNat) (KK.dflt Kd.cell)).names (0 : Int))))] [] ∧ ∀ (y : Unit), True → (i64ok (addF (rnA l its d b z).snd (max (rd l (0 + (rd its (0 + (↑z : Int).toNat)
 (KK.dflt Kd.item)).cell.toNat) (KK.dflt Kd.cell)).names (0 : Int))) ∧ i64ok (max (rd l (0 + (rd its (0 + (↑z : Int).toNat) (KK.dflt Kd.item)).cell.toNat) (KK.dflt Kd.cell)).hadN (0 : Int)) ∧ (0 : Int)
 ≤ max (rd l (0 + (rd its (0 + (↑z : Int).toNat) (KK.dflt Kd.item)).cell.toNat) (KK.dflt Kd.cell)).hadN (0 : Int)) ∧ Into (K := KK) 0 [] [] [VV.one (V1.c (C.int .i64 (addF (rnA l its d b z).snd (max (rd
 l (0 + (rd its (0 + (↑z : Int).toNat) (KK.dflt Kd.item)).cell.toNat) (KK.dflt Kd.cell)).names (0 : Int))))), VV.one (V1.c (C.int .i64 (max (rd l (0 + (rd its (0 + (↑z : Int).toNat) (KK.dflt Kd.item)).cell.toNat)
 (KK.dflt Kd.cell)).hadN (0 : Int))))] [Atom.ro Kd.cell l, Atom.ro Kd.item its, Atom.cells 25 [C.slc 0 0 l.length none], Atom.cells 44 [C.str (rd l (0 + (rd its (0 + (↑z : Int).toNat) (KK.dflt Kd.item)).cell.toNat)
 (KK.dflt Kd.cell)).path, C.int .i64 (rd l (0 + (rd its (0 + (↑z : Int).toNat) (KK.dflt Kd.item)).cell.toNat) (KK.dflt Kd.cell)).what, C.int .i64 (rd l (0 + (rd its (0 + (↑z : Int).toNat) (KK.dflt Kd.item)).cell.toNat)
 (KK.dflt Kd.cell)).side, C.int .i64 (rd l (0 + (rd its (0 + (↑z : Int).toNat) (KK.dflt Kd.item)).cell.toNat) (KK.dflt Kd.cell)).mode, C.int .i64 (rd l (0 + (rd its (0 + (↑z : Int).toNat) (KK.dflt Kd.item)).cell.toNat)
 (KK.dflt Kd.cell)).keep, C.int .i64 (rd l (0 + (rd its (0 + (↑z : Int).toNat) (KK.dflt Kd.item)).cell.toNat) (KK.dflt Kd.cell)).take, C.int .i64 (rd l (0 + (rd its (0 + (↑z : Int).toNat) (KK.dflt Kd.item)).cell.toNat)
 (KK.dflt Kd.cell)).names, C.int .i64 (rd l (0 + (rd its (0 + (↑z : Int).toNat) (KK.dflt Kd.item)).cell.toNat) (KK.dflt Kd.cell)).bytes, C.int .i64 (rd l (0 + (rd its (0 + (↑z : Int).toNat) (KK.dflt Kd.item)).cell.toNat)
 (KK.dflt Kd.cell)).hadN, C.int .i64 (rd l (0 + (rd its (0 + (↑z : Int).toNat) (KK.dflt Kd.item)).cell.toNat) (KK.dflt Kd.cell)).hadB]] [VV.one (V1.c (C.int .i64 (addF (rnA l its d b z).snd (max (rd l (0
 + (rd its (0 + (↑z : Int).toNat) (KK.dflt Kd.item)).cell.toNat) (KK.dflt Kd.cell)).names (0 : Int))))), VV.one (V1.c (C.int .i64 (max (rd l (0 + (rd its (0 + (↑z : Int).toNat) (KK.dflt Kd.item)).cell.toNat)
 (KK.dflt Kd.cell)).hadN (0 : Int))))] [] ∧ ∀ (y : Unit), True → i64ok ((↑z : Int) + (1 : Int)) ∧ Enter (1 + 1) (inv_rneed l its d b) (fun (z' : Nat) => its.length - z' < its.length - z) [VV.any, VV.one
 (V1.c (C.slc 1 0 its.length none)), i64 d, boolv b, VV.one (V1.c (C.ptr 2 0 0)), VV.any, VV.any, VV.any, VV.any, VV.one (V1.c (C.int .i64 (max (rnA l its d b z).fst (addF (rnA l its d b z).snd (max (rd
 l (0 + (rd its (0 + (↑z : Int).toNat) (KK.dflt Kd.item)).cell.toNat) (KK.dflt Kd.cell)).names (0 : Int)))))), VV.one (V1.c (C.int .i64 (addF (addF (rnA l its d b z).snd (max (rd l (0 + (rd its (0 + (↑z
 : Int).toNat) (KK.dflt Kd.item)).cell.toNat) (KK.dflt Kd.cell)).names (0 : Int))) ((0 : Int) - max (rd l (0 + (rd its (0 + (↑z : Int).toNat) (KK.dflt Kd.item)).cell.toNat) (KK.dflt Kd.cell)).hadN (0 :
 Int))))), i64 ((↑z : Int) + (1 : Int)), VV.one (V1.c (C.ptr 3 0 0)), VV.one (V1.c (C.int .i64 (max (rd l (0 + (rd its (0 + (↑z : Int).toNat) (KK.dflt Kd.item)).cell.toNat) (KK.dflt Kd.cell)).names (0 :
 Int)))), VV.one (V1.c (C.int .i64 (max (rd l (0 + (rd its (0 + (↑z : Int).toNat) (KK.dflt Kd.item)).cell.toNat) (KK.dflt Kd.cell)).hadN (0 : Int)))), i64 (↑z : Int), VV.one (V1.c (C.slc 1 0 its.length
 none)), i64 (↑its.length : Int), boolv true, i64 (↑z : Int), i64 ((↑z : Int) + (1 : Int)), VV.one (V1.c (C.slc 1 0 its.length none)), i64 (↑z : Int), VV.one (V1.c (C.ptr 1 (0 + (↑z : Int).toNat) 0)), VV.one
 (V1.c (C.ptr 1 (0 + (↑z : Int).toNat) 5)), VV.one (V1.c (C.int .i64 (rd its (0 + (↑z : Int).toNat) (KK.dflt Kd.item)).dst)), i64 d, boolv false, boolv false, VV.one (V1.c (C.slc 1 0 its.length none)),
 i64 (↑z : Int), VV.one (V1.c (C.ptr 1 (0 + (↑z : Int).toNat) 0)), VV.one (V1.c (C.ptr 1 (0 + (↑z : Int).toNat) 3)), VV.one (V1.c (C.int .i64 (rd its (0 + (↑z : Int).toNat) (KK.dflt Kd.item)).what)), boolv
 false, boolv false, VV.one (V1.c (C.ptr 2 0 0)), VV.one (V1.c (C.slc 0 0 l.length none)), VV.one (V1.c (C.slc 1 0 its.length none)), i64 (↑z : Int), VV.one (V1.c (C.ptr 1 (0 + (↑z : Int).toNat) 0)), VV.one
 (V1.c (C.ptr 1 (0 + (↑z : Int).toNat) 1)), VV.one (V1.c (C.int .i64 (rd its (0 + (↑z : Int).toNat) (KK.dflt Kd.item)).cell)), VV.one (V1.c (C.ptr 0 (0 + (rd its (0 + (↑z : Int).toNat) (KK.dflt Kd.item)).cell.toNat)
 0)), VV.one (V1.agg [C.str (rd l (0 + (rd its (0 + (↑z : Int).toNat) (KK.dflt Kd.item)).cell.toNat) (KK.dflt Kd.cell)).path, C.int .i64 (rd l (0 + (rd its (0 + (↑z : Int).toNat) (KK.dflt Kd.item)).cell.toNat)
 (KK.dflt Kd.cell)).what, C.int .i64 (rd l (0 + (rd its (0 + (↑z : Int).toNat) (KK.dflt Kd.item)).cell.toNat) (KK.dflt Kd.cell)).side, C.int .i64 (rd l (0 + (rd its (0 + (↑z : Int).toNat) (KK.dflt Kd.item)).cell.toNat)
 (KK.dflt Kd.cell)).mode, C.int .i64 (rd l (0 + (rd its (0 + (↑z : Int).toNat) (KK.dflt Kd.item)).cell.toNat) (KK.dflt Kd.cell)).keep, C.int .i64 (rd l (0 + (rd its (0 + (↑z : Int).toNat) (KK.dflt Kd.item)).cell.toNat)
 (KK.dflt Kd.cell)).take, C.int .i64 (rd l (0 + (rd its (0 + (↑z : Int).toNat) (KK.dflt Kd.item)).cell.toNat) (KK.dflt Kd.cell)).names, C.int .i64 (rd l (0 + (rd its (0 + (↑z : Int).toNat) (KK.dflt Kd.item)).cell.toNat)
 (KK.dflt Kd.cell)).bytes, C.int .i64 (rd l (0 + (rd its (0 + (↑z : Int).toNat) (KK.dflt Kd.item)).cell.toNat) (KK.dflt Kd.cell)).hadN, C.int .i64 (rd l (0 + (rd its (0 + (↑z : Int).toNat) (KK.dflt Kd.item)).cell.toNat)
 (KK.dflt Kd.cell)).hadB]), VV.one (V1.c (C.ptr 3 0 6)), VV.one (V1.c (C.int .i64 (rd l (0 + (rd its (0 + (↑z : Int).toNat) (KK.dflt Kd.item)).cell.toNat) (KK.dflt Kd.cell)).names)), VV.one (V1.c (C.int
 .i64 (max (rd l (0 + (rd its (0 + (↑z : Int).toNat) (KK.dflt Kd.item)).cell.toNat) (KK.dflt Kd.cell)).names (0 : Int)))), VV.one (V1.c (C.ptr 3 0 8)), VV.one (V1.c (C.ptr 3 0 8)), VV.one (V1.c (C.int .i64
 (rd l (0 + (rd its (0 + (↑z : Int).toNat) (KK.dflt Kd.item)).cell.toNat) (KK.dflt Kd.cell)).hadN)), VV.one (V1.c (C.int .i64 (max (rd l (0 + (rd its (0 + (↑z : Int).toNat) (KK.dflt Kd.item)).cell.toNat)
 (KK.dflt Kd.cell)).hadN (0 : Int)))), boolv b, VV.any, VV.any, VV.any, VV.any, VV.any, VV.any, VV.any, i64 (rnA l its d b z).snd, VV.one (V1.c (C.int .i64 (max (rd l (0 + (rd its (0 + (↑z : Int).toNat)
 (KK.dflt Kd.item)).cell.toNat) (KK.dflt Kd.cell)).names (0 : Int)))), VV.one (V1.c (C.int .i64 (addF (rnA l its d b z).snd (max (rd l (0 + (rd its (0 + (↑z : Int).toNat) (KK.dflt Kd.item)).cell.toNat)
 (KK.dflt Kd.cell)).names (0 : Int))))), i64 (rnA l its d b z).fst, VV.one (V1.c (C.int .i64 (addF (rnA l its d b z).snd (max (rd l (0 + (rd its (0 + (↑z : Int).toNat) (KK.dflt Kd.item)).cell.toNat) (KK.dflt
 Kd.cell)).names (0 : Int))))), VV.one (V1.c (C.int .i64 (max (rnA l its d b z).fst (addF (rnA l its d b z).snd (max (rd l (0 + (rd its (0 + (↑z : Int).toNat) (KK.dflt Kd.item)).cell.toNat) (KK.dflt Kd.cell)).names
 (0 : Int)))))), VV.one (V1.c (C.int .i64 (addF (rnA l its d b z).snd (max (rd l (0 + (rd its (0 + (↑z : Int).toNat) (KK.dflt Kd.item)).cell.toNat) (KK.dflt Kd.cell)).names (0 : Int))))), VV.one (V1.c (C.int
 .i64 (max (rd l (0 + (rd its (0 + (↑z : Int).toNat) (KK.dflt Kd.item)).cell.toNat) (KK.dflt Kd.cell)).hadN (0 : Int)))), VV.one (V1.c (C.int .i64 (addF (addF (rnA l its d b z).snd (max (rd l (0 + (rd its
 (0 + (↑z : Int).toNat) (KK.dflt Kd.item)).cell.toNat) (KK.dflt Kd.cell)).names (0 : Int))) ((0 : Int) - max (rd l (0 + (rd its (0 + (↑z : Int).toNat) (KK.dflt Kd.item)).cell.toNat) (KK.dflt Kd.cell)).hadN
 (0 : Int))))), VV.any] [Atom.ro Kd.cell l, Atom.ro Kd.item its, Atom.cells 25 [C.slc 0 0 l.length none], Atom.cells 44 [C.str (rd l (0 + (rd its (0 + (↑z : Int).toNat) (KK.dflt Kd.item)).cell.toNat) (KK.dflt
 Kd.cell)).path, C.int .i64 (rd l (0 + (rd its (0 + (↑z : Int).toNat) (KK.dflt Kd.item)).cell.toNat) (KK.dflt Kd.cell)).what, C.int .i64 (rd l (0 + (rd its (0 + (↑z : Int).toNat) (KK.dflt Kd.item)).cell.toNat)
 (KK.dflt Kd.cell)).side, C.int .i64 (rd l (0 + (rd its (0 + (↑z : Int).toNat) (KK.dflt Kd.item)).cell.toNat) (KK.dflt Kd.cell)).mode, C.int .i64 (rd l (0 + (rd its (0 + (↑z : Int).toNat) (KK.dflt Kd.item)).cell.toNat)
 (KK.dflt Kd.cell)).keep, C.int .i64 (rd l (0 + (rd its (0 + (↑z : Int).toNat) (KK.dflt Kd.item)).cell.toNat) (KK.dflt Kd.cell)).take, C.int .i64 (rd l (0 + (rd its (0 + (↑z : Int).toNat) (KK.dflt Kd.item)).cell.toNat)
 (KK.dflt Kd.cell)).names, C.int .i64 (rd l (0 + (rd its (0 + (↑z : Int).toNat) (KK.dflt Kd.item)).cell.toNat) (KK.dflt Kd.cell)).bytes, C.int .i64 (rd l (0 + (rd its (0 + (↑z : Int).toNat) (KK.dflt Kd.item)).cell.toNat)
 (KK.dflt Kd.cell)).hadN, C.int .i64 (rd l (0 + (rd its (0 + (↑z : Int).toNat) (KK.dflt Kd.item)).cell.toNat) (KK.dflt Kd.cell)).hadB]])) (i64ok ((↑z : Int) + (1 : Int)) ∧ Enter (1 + 1) (inv_rneed l its
 d b) (fun (z' : Nat) => its.length - z' < its.length - z) [VV.any, VV.one (V1.c (C.slc 1 0 its.length none)), i64 d, boolv b, VV.one (V1.c (C.ptr 2 0 0)), VV.any, VV.any, VV.any, VV.any, i64 (rnA l its
 d b z).fst, i64 (rnA l its d b z).snd, i64 ((↑z : Int) + (1 : Int)), VV.any, VV.any, VV.any, i64 (↑z : Int), VV.one (V1.c (C.slc 1 0 its.length none)), i64 (↑its.length : Int), boolv true, i64 (↑z : Int),
 i64 ((↑z : Int) + (1 : Int)), VV.one (V1.c (C.slc 1 0 its.length none)), i64 (↑z : Int), VV.one (V1.c (C.ptr 1 (0 + (↑z : Int).toNat) 0)), VV.one (V1.c (C.ptr 1 (0 + (↑z : Int).toNat) 5)), i64 (rd its
 (0 + (↑z : Int).toNat) (KK.dflt Kd.item)).dst, i64 d, boolv false, boolv false, VV.one (V1.c (C.slc 1 0 its.length none)), i64 (↑z : Int), VV.one (V1.c (C.ptr 1 (0 + (↑z : Int).toNat) 0)), VV.one (V1.c
 (C.ptr 1 (0 + (↑z : Int).toNat) 3)), i64 (rd its (0 + (↑z : Int).toNat) (KK.dflt Kd.item)).what, boolv true, boolv true, VV.any, VV.any, VV.any, VV.any, VV.any, VV.any, VV.any, VV.any, VV.any, VV.any,
 VV.any, VV.any, VV.any, VV.any, VV.any, VV.any, VV.any, VV.any, VV.any, VV.any, VV.any, VV.any, VV.any, VV.any, VV.any, VV.any, VV.any, VV.any, VV.any, VV.any, VV.any, VV.any, VV.any, VV.any] [Atom.ro
 Kd.cell l, Atom.ro Kd.item its, Atom.cells 25 [C.slc 0 0 l.length none]])) (i64ok ((↑z : Int) + (1 : Int)) ∧ Enter (1 + 1) (inv_rneed l its d b) (fun (z' : Nat) => its.length - z' < its.length - z) [VV.any,
 VV.one (V1.c (C.slc 1 0 its.length none)), i64 d, boolv b, VV.one (V1.c (C.ptr 2 0 0)), VV.any, VV.any, VV.any, VV.any, i64 (rnA l its d b z).fst, i64 (rnA l its d b z).snd, i64 ((↑z : Int) + (1 : Int)),
 VV.any, VV.any, VV.any, i64 (↑z : Int), VV.one (V1.c (C.slc 1 0 its.length none)), i64 (↑its.length : Int), boolv true, i64 (↑z : Int), i64 ((↑z : Int) + (1 : Int)), VV.one (V1.c (C.slc 1 0 its.length
 none)), i64 (↑z : Int), VV.one (V1.c (C.ptr 1 (0 + (↑z : Int).toNat) 0)), VV.one (V1.c (C.ptr 1 (0 + (↑z : Int).toNat) 5)), i64 (rd its (0 + (↑z : Int).toNat) (KK.dflt Kd.item)).dst, i64 d, boolv true,
 boolv true, VV.tup [], VV.tup [], VV.tup [], VV.tup [], VV.tup [], VV.tup [], boolv true, VV.any, VV.any, VV.any, VV.any, VV.any, VV.any, VV.any, VV.any, VV.any, VV.any, VV.any, VV.any, VV.any, VV.any,
 VV.any, VV.any, VV.any, VV.any, VV.any, VV.any, VV.any, VV.any, VV.any, VV.any, VV.any, VV.any, VV.any, VV.any, VV.any, VV.any, VV.any, VV.any, VV.any, VV.any] [Atom.ro Kd.cell l, Atom.ro Kd.item its,
 Atom.cells 25 [C.slc 0 0 l.length none]])) (EndsAs (1 + 1) (ct_rneed l its d b) (i64 (rnA l its d b z).fst) [Atom.ro Kd.cell l, Atom.ro Kd.item its, Atom.cells 25 [C.slc 0 0 l.length none]])) := by kernel_rfl
end Go.Proofs.Ytljamcgngojaeaa.T
namespace Go.Proofs.Ytljamcgngojaeaa.T
open Go.Proofs.Ytljamcgngojaeaa.E
set_option maxRecDepth 100000
set_option linter.unusedVariables false
theorem rnStep_ok {l : List Cell} (h : Cells l) (d : Int) (b : Bool) {p : Int × Int} (hp : i64ok p.1 ∧ i64ok p.2) (it : Item) : i64ok (rnStep l d b p it).1 ∧ i64ok (rnStep l d b p it).2 := by
  have c := h.rd it.cell.toNat
  unfold rnStep
  split
  · have hc : i64ok (come l b it) := by
      unfold come; cases b
      · exact (max0_ok c.names).1
      · exact (max0_ok c.bytes).1
    have hg : i64ok (0 - gone' l b it) := by
      unfold gone'; cases b
      · exact (max0_ok c.hadN).2
      · exact (max0_ok c.hadB).2
    exact ⟨max_i64 hp.1 (addF_ok _ _ hp.2 hc), addF_ok _ _ (addF_ok _ _ hp.2 hc) hg⟩
  · exact hp
theorem rnFold_ok {l : List Cell} (h : Cells l) (d : Int) (b : Bool) : ∀ (its : List Item) {p : Int × Int}, i64ok p.1 ∧ i64ok p.2 → i64ok (its.foldl (rnStep l d b) p).1 ∧ i64ok (its.foldl (rnStep l d b) p).2
  | [], p, hp => hp
  | it :: its, p, hp => rnFold_ok h d b its (rnStep_ok h d b hp it)
theorem rn_next (l : List Cell) (its : List Item) (d : Int) (b : Bool) {z : Nat} (h : z < its.length) : rnA l its d b (z + 1) = rnStep l d b (rnA l its d b z) (rd its z item0) := by
  unfold rnA
  rw [take_snoc (d := item0) h, rnF_snoc]
set_option maxHeartbeats 4000000 in
theorem rneed_ok (l : List Cell) (its : List Item) (d : Int) (b : Bool) : CtOk Try.prog 34 (ct_rneed l its d b) := CtOk_of KK_ok tab14 (ann1 (inv_rneed l its d b)) (fn := Try.f34) rfl (fun _ _ => rfl) fun hn => by
  obtain ⟨hl, h5, hi⟩ := hn
  rw [vc_rneed]
  refine ⟨⟨(0 : Nat), [], [0, 1, 2], Nat.zero_le _, trivial, into_mk (by kernel_rfl) (by (repeat' first | exact trivial | exact rfl | apply And.intro)) (by (repeat' first | exact trivial | exact rfl | apply And.intro))⟩, fun z hz => ite2_decide (fun hlt => ?_) (fun hge => ?_)⟩
  · have hz' : z ≤ its.length := hz
    have z1 : (0 : Int) ≤ z ∧ (z : Int) < its.length := by omega
    have z2 : z < its.length := by omega
    have hi1 : i64ok ((z : Int) + 1) := by unfold i64ok; omega
    have ic : 0 ≤ (rd its z (KK.dflt Kd.item)).cell ∧ (rd its z (KK.dflt Kd.item)).cell < (l.length : Int) := hi _ (rd_mem' (d := item0) z2)
    have c0 : (rd its z (KK.dflt Kd.item)).cell.toNat < l.length := by omega
    have c : (rd l (rd its z (KK.dflt Kd.item)).cell.toNat (KK.dflt Kd.cell)).Ok := hl.rd _
    have hp := rnFold_ok hl d b (its.take z) (p := (0, 0)) ⟨i64z, i64z⟩
    have hp2 : i64ok (rnA l its d b z).snd := hp.2
    have hnx := rn_next l its d b z2
    simp only [Int.toNat_natCast, Nat.zero_add]
    refine ⟨z1, z2, trivial, z2, ite2_decide (fun hd => ⟨z1, z2, trivial, z2, ite2_decide (fun hw => ?_) (fun hw => ?_)⟩) (fun hd => ?_)⟩
    · have hst : rnA l its d b (z + 1) = (max (rnA l its d b z).1 (addF (rnA l its d b z).2 (come l b (rd its z item0))), addF (addF (rnA l its d b z).2 (come l b (rd its z item0))) (0 - gone' l b (rd its z item0))) := by
        rw [hnx, rnStep]; exact if_pos ⟨hd, hw⟩
      have kn := (max0_ok c.names).1
      have kb := (max0_ok c.bytes).1
      have kh := (max0_ok c.hadN).1
      have kg := (max0_ok c.hadB).1
      have an := addF_ok _ _ hp2 kn
      have ab := addF_ok _ _ hp2 kb
      have n0 : (0 : Int) ≤ max (rd l (rd its z (KK.dflt Kd.item)).cell.toNat (KK.dflt Kd.cell)).names 0 := by omega
      have b0 : (0 : Int) ≤ max (rd l (rd its z (KK.dflt Kd.item)).cell.toNat (KK.dflt Kd.cell)).bytes 0 := by omega
      have h0 : (0 : Int) ≤ max (rd l (rd its z (KK.dflt Kd.item)).cell.toNat (KK.dflt Kd.cell)).hadN 0 := by omega
      have g0 : (0 : Int) ≤ max (rd l (rd its z (KK.dflt Kd.item)).cell.toNat (KK.dflt Kd.cell)).hadB 0 := by omega
      refine ⟨z1, z2, trivial, z2, ic, c0, trivial, c0, ?_⟩
      repeat' first | exact trivial | exact rfl | exact into_mk (by kernel_rfl) (by (repeat' first | exact trivial | exact rfl | apply And.intro)) (by (repeat' first | exact trivial | exact rfl | apply And.intro)) | (intro _ _) | apply And.intro
      cases b
      · have q1 := congrArg Prod.fst hst
        have q2 := congrArg Prod.snd hst
        refine ite2_mk (fun h => by cases h) (fun _ => ?_)
        repeat' first | exact trivial | exact rfl | exact hp2 | exact kn | exact kh | exact an | exact n0 | exact h0 | exact hi1 | exact ⟨(z + 1 : Nat), [], [0, 1, 2], z2, by omega, into_mk (by kernel_rfl) (by (repeat' first | exact trivial | exact rfl | exact q1.symm | exact q2.symm | apply And.intro)) (by (repeat' first | exact trivial | exact rfl | apply And.intro))⟩ | exact into_mk (by kernel_rfl) (by (repeat' first | exact trivial | exact rfl | apply And.intro)) (by (repeat' first | exact trivial | exact rfl | apply And.intro)) | (intro _ _) | apply And.intro
      · have q1 := congrArg Prod.fst hst
        have q2 := congrArg Prod.snd hst
        refine ite2_mk (fun _ => ?_) (fun h => by cases h)
        repeat' first | exact trivial | exact rfl | exact hp2 | exact kb | exact kg | exact ab | exact b0 | exact g0 | exact hi1 | exact ⟨(z + 1 : Nat), [], [0, 1, 2], z2, by omega, into_mk (by kernel_rfl) (by (repeat' first | exact trivial | exact rfl | exact q1.symm | exact q2.symm | apply And.intro)) (by (repeat' first | exact trivial | exact rfl | apply And.intro))⟩ | exact into_mk (by kernel_rfl) (by (repeat' first | exact trivial | exact rfl | apply And.intro)) (by (repeat' first | exact trivial | exact rfl | apply And.intro)) | (intro _ _) | apply And.intro
    · have hst : rnA l its d b (z + 1) = rnA l its d b z := by rw [hnx, rnStep]; exact if_neg fun h => hw h.2
      exact ⟨hi1, ⟨(z + 1 : Nat), [], [0, 1, 2], z2, by omega, into_mk (by kernel_rfl) (by simp only [inv_rneed, hst]; (repeat' first | exact trivial | exact rfl | apply And.intro)) (by (repeat' first | exact trivial | exact rfl | apply And.intro))⟩⟩
    · have hst : rnA l its d b (z + 1) = rnA l its d b z := by rw [hnx, rnStep]; exact if_neg fun h => hd h.1
      exact ⟨hi1, ⟨(z + 1 : Nat), [], [0, 1, 2], z2, by omega, into_mk (by kernel_rfl) (by simp only [inv_rneed, hst]; (repeat' first | exact trivial | exact rfl | apply And.intro)) (by (repeat' first | exact trivial | exact rfl | apply And.intro))⟩⟩
  · have e : z = its.length := by have : z ≤ its.length := hz; omega
    subst e
    have hq : (rnA l its d b its.length).1 = (rnF l d b its).1 := by unfold rnA; rw [List.take_length]
    exact ⟨(), [], [0, 1], trivial, by (repeat' first | exact trivial | exact rfl | exact hq | apply And.intro)⟩
/-- The reference's sums are the plan's. -/
theorem rn_mx (l : List Cell) : ∀ (its : List Item) (p : Four × Four), (∀ it ∈ its, (it.what = 3 ∨ it.what = 2) ∧ (it.dst = 0 ∨ it.dst = 1)) →
    its.foldl (rnStep l 0 false) (p.2.n0, p.1.n0) = ((its.foldl (mxStep l) p).2.n0, (its.foldl (mxStep l) p).1.n0) ∧ its.foldl (rnStep l 0 true) (p.2.b0, p.1.b0) = ((its.foldl (mxStep l) p).2.b0, (its.foldl (mxStep l) p).1.b0) ∧
    its.foldl (rnStep l 1 false) (p.2.n1, p.1.n1) = ((its.foldl (mxStep l) p).2.n1, (its.foldl (mxStep l) p).1.n1) ∧ its.foldl (rnStep l 1 true) (p.2.b1, p.1.b1) = ((its.foldl (mxStep l) p).2.b1, (its.foldl (mxStep l) p).1.b1)
  | [], p, _ => ⟨rfl, rfl, rfl, rfl⟩
  | it :: its, p, h => by
    obtain ⟨hw, hd⟩ := h it (List.mem_cons_self ..)
    have ih := rn_mx l its (mxStep l p it) fun x hx => h x (List.mem_cons_of_mem _ hx)
    simp only [List.foldl_cons]
    have s : rnStep l 0 false (p.2.n0, p.1.n0) it = ((mxStep l p it).2.n0, (mxStep l p it).1.n0) ∧ rnStep l 0 true (p.2.b0, p.1.b0) it = ((mxStep l p it).2.b0, (mxStep l p it).1.b0) ∧ rnStep l 1 false (p.2.n1, p.1.n1) it = ((mxStep l p it).2.n1, (mxStep l p it).1.n1) ∧ rnStep l 1 true (p.2.b1, p.1.b1) it = ((mxStep l p it).2.b1, (mxStep l p it).1.b1) := by
      by_cases h2 : it.what = 2
      · have e : mxStep l p it = p := by
          unfold mxStep balStep; rw [if_pos h2, if_pos h2]
        rw [e]
        have no : ∀ d : Int, ¬ (it.dst = d ∧ it.what = 3) := fun d h => by have := h.2; omega
        exact ⟨if_neg (no 0), if_neg (no 0), if_neg (no 1), if_neg (no 1)⟩
      · have h3 : it.what = 3 := by omega
        rcases hd with hd | hd
        · have e : mxStep l p it = (⟨after p.1.n0 (cellOf l it).names (cellOf l it).hadN, after p.1.b0 (cellOf l it).bytes (cellOf l it).hadB, p.1.n1, p.1.b1⟩, ⟨max p.2.n0 (addF p.1.n0 (max (cellOf l it).names 0)), max p.2.b0 (addF p.1.b0 (max (cellOf l it).bytes 0)), p.2.n1, p.2.b1⟩) := by
            unfold mxStep balStep; rw [if_neg h2, if_neg h2, if_pos hd, if_pos hd]
          rw [e]
          have no : ¬ (it.dst = 1 ∧ it.what = 3) := fun h => by have := h.1; omega
          exact ⟨if_pos ⟨hd, h3⟩, if_pos ⟨hd, h3⟩, if_neg no, if_neg no⟩
        · have hd0 : ¬ it.dst = 0 := by omega
          have e : mxStep l p it = (⟨p.1.n0, p.1.b0, after p.1.n1 (cellOf l it).names (cellOf l it).hadN, after p.1.b1 (cellOf l it).bytes (cellOf l it).hadB⟩, ⟨p.2.n0, p.2.b0, max p.2.n1 (addF p.1.n1 (max (cellOf l it).names 0)), max p.2.b1 (addF p.1.b1 (max (cellOf l it).bytes 0))⟩) := by
            unfold mxStep balStep; rw [if_neg h2, if_neg h2, if_neg hd0, if_neg hd0]
          rw [e]
          have no : ¬ (it.dst = 0 ∧ it.what = 3) := fun h => hd0 h.1
          exact ⟨if_neg no, if_neg no, if_pos ⟨hd, h3⟩, if_pos ⟨hd, h3⟩⟩
    rw [s.1, s.2.1, s.2.2.1, s.2.2.2]
    exact ih
theorem rn_need {l : List Cell} {most : Int} : (rnF l 0 false (ofF l most).items).1 = (ofF l most).n0 ∧ (rnF l 0 true (ofF l most).items).1 = (ofF l most).b0 ∧ (rnF l 1 false (ofF l most).items).1 = (ofF l most).n1 ∧ (rnF l 1 true (ofF l most).items).1 = (ofF l most).b1 := by
  have hk := ofS_kinds l (leftOf l most) l.length
  have hits := ofS_items l (leftOf l most) l.length
  have hmx := mx_of l (leftOf l most) l.length
  have := rn_mx l (ofF l most).items (four0, four0) fun it h => ⟨(hk it h).2.1, (hits.2 it h).2⟩
  have e : (ofF l most).items.foldl (mxStep l) (four0, four0) = (balS (ofF l most), needF (ofF l most)) := hmx
  rw [e] at this
  exact ⟨congrArg Prod.fst this.1, congrArg Prod.fst this.2.1, congrArg Prod.fst this.2.2.1, congrArg Prod.fst this.2.2.2⟩
end Go.Proofs.Ytljamcgngojaeaa.T
