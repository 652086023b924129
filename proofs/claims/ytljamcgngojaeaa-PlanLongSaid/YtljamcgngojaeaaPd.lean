/- The plan: Contains, the count of parts, few, the law's worst. -/
import Derived.Test.YtljamcgngojaeaaPc
namespace Go.Proofs.Ytljamcgngojaeaa.T
open Go.Proofs.Ytljamcgngojaeaa.E
set_option maxRecDepth 100000
set_option linter.unusedVariables false
def tab2 : Tab Try.prog KK := ⟨mixed, fun f args H => match f, args with
  | 14, [.one (.c (.slc n 0 len none)), .one (.c (.int _ a))] => match getL .int (at_ H n) with
    | some l => some (ct_in l a, [], [n])
    | none => none
  | 14, [.one (.c .nils), .one (.c (.int _ a))] => some (ct_in [] a, [.int], [H.length])
  | 38, [.one (.c (.slc n 0 len none)), .one (.c (.int _ a))] => match getL .int (at_ H n) with
    | some l => some (ct_index l a, [], [n])
    | none => none
  | 31, [.one (.agg [.int _ n, .int _ a]), .one (.agg l)] => match KK.dec .cell l with
    | some c => some (ct_carry n a c, [], [])
    | none => none
  | 37, [.one (.c (.slc n 0 len none)), .one (.c (.slc m 0 len' none))] => match getL .cell (at_ H n), getL .bool (at_ H m) with
    | some l, some q => some (ct_pworst l q, [], [n, m])
    | _, _ => none
  | f, args => tab1.pick f args H, fun f args H ct ks τ h => by
    split at h
    · split at h
      · cases h; exact in_ok _ _
      · cases h
    · cases h; exact in_ok _ _
    · split at h
      · cases h; exact index_ok _ _
      · cases h
    · split at h
      · cases h; exact carry_ok _ _ _
      · cases h
    · split at h
      · cases h; exact pworst_ok _ _
      · cases h
    · exact tab1.ok _ _ _ _ _ _ h⟩
def ct_contains (l : List Int) (n : Int) : Ct KK := { need := i64ok l.length, pre := [.ro .int l], args := [.c (.slc 0 0 l.length none), i64 n], Y := Unit, ok := fun _ => True, ret := fun _ => boolv (decide (n ∈ l)), post := fun _ => [.gone] }
abbrev ptr0 : VV := .c (.ptr 0 0 0)
def ct_many (n : Int) : Ct KK := { need := i64ok n, pre := [], args := [i64 n], Y := Unit, ok := fun _ => True, ret := fun _ => ptr0, post := fun _ => [.cells 72 [.int .i64 n]] }
def ct_cok (n : Int) : Ct KK := { need := True, pre := [.cells 72 [.int .i64 n]], args := [ptr0], Y := Unit, ok := fun _ => True, ret := fun _ => boolv (decide (0 ≤ n)), post := fun _ => [.cells 72 [.int .i64 n]] }
def countF (m n : Int) : Int := if 0 ≤ m then m - n else m
def ct_cadd (m n : Int) : Ct KK := { need := i64ok m ∧ i64ok n ∧ 0 ≤ n, pre := [.cells 72 [.int .i64 m]], args := [ptr0, i64 n], Y := Unit, ok := fun _ => True, ret := fun _ => boolv (decide (0 ≤ countF m n)), post := fun _ => [.cells 72 [.int .i64 (countF m n)]] }
def lawAt (l : List Cell) (q : List Int) (i : Nat) : Int := if (i : Int) ∈ q then (rd l i cell0).keep else max (rd l i cell0).keep (rd l i cell0).take
def lsum (f : Nat → Int) : Nat → Int
  | 0 => 0
  | i + 1 => lsum f i + f i
def lworstF (l : List Cell) (q : List Int) : Int := lsum (lawAt l q) l.length
def Low (l : List Cell) : Prop := l.length ≤ 300 ∧ ∀ c ∈ l, (0 ≤ c.keep ∧ c.keep < 1099511627776) ∧ (0 ≤ c.take ∧ c.take < 1099511627776)
def ct_lworst (l : List Cell) (q : List Int) : Ct KK := { need := Low l ∧ i64ok q.length, pre := [.ro .cell l, .ro .int q], args := [.c (.slc 0 0 l.length none), .c (.slc 1 0 q.length none)], Y := Unit, ok := fun _ => True, ret := fun _ => i64 (lworstF l q), post := fun _ => [.gone, .gone] }
def inv_lworst (l : List Cell) (q : List Int) : Inv KK := { X := Nat, fr := fun i => [.c (.slc 0 0 l.length none), .c (.slc 1 0 q.length none), .any, .any, .any, i64 (lsum (lawAt l q) i), i64 i] ++ anys 30, H := fun _ => [.ro .cell l, .ro .int q], ok := fun i => i ≤ l.length, meas := fun i : Nat => l.length - i }
theorem vc_cadd (m n : Int) : evFn tab2 ann0 Try.f35 (ct_cadd m n) = ( ite2 (decide ((0 : Int) ≤ m)) (i64ok (m - n) ∧ ite2 (decide ((0 : Int) ≤ m - n)) (EndsAs 1 (ct_cadd m n) (boolv true) [Atom.cells (72 : TypeId) [C.int .i64 (m - n)]]) (EndsAs 1 (ct_cadd m n) (boolv false)
 [Atom.cells (72 : TypeId) [C.int .i64 (m - n)]])) (ite2 (decide ((0 : Int) ≤ m)) (EndsAs 1 (ct_cadd m n) (boolv true) [Atom.cells (72 : TypeId) [C.int .i64 m]]) (EndsAs 1 (ct_cadd m n) (boolv false) [Atom.cells
 (72 : TypeId) [C.int .i64 m]]))) := by kernel_rfl
theorem vc_lworst (l : List Cell) (q : List Int) : evFn tab2 (ann1 (inv_lworst l q)) Try.f15 (ct_lworst l q) = ( Enter (1 + 1) (inv_lworst l q) (fun (x : Nat) => True) [VV.one (V1.c (C.slc 0 0 l.length none)), VV.one (V1.c (C.slc 1 0 q.length none)), VV.any, VV.any, i64 (0 : Int), i64 (0 : Int), i64 (0 : Int), VV.any,
 VV.any, VV.any, VV.any, VV.any, VV.any, VV.any, VV.any, VV.any, VV.any, VV.any, VV.any, VV.any, VV.any, VV.any, VV.any, VV.any, VV.any, VV.any, VV.any, VV.any, VV.any, VV.any, VV.any, VV.any, VV.any, VV.any,
 VV.any, VV.any, VV.any] [Atom.ro Kd.cell l, Atom.ro Kd.int q] ∧ ∀ (z : Nat), z ≤ l.length → ite2 (decide ((↑z : Int) < (↑l.length : Int))) (((0 : Int) ≤ (↑z : Int) ∧ (↑z : Int) < (↑l.length : Int)) ∧ 0
 + (↑z : Int).toNat < l.length ∧ True ∧ 0 + (↑z : Int).toNat < l.length ∧ ((0 : Int) ≤ (↑z : Int) ∧ (↑z : Int) < (↑l.length : Int)) ∧ 0 + (↑z : Int).toNat < l.length ∧ True ∧ 0 + (↑z : Int).toNat < l.length
 ∧ True ∧ True ∧ i64ok (↑q.length : Int) ∧ Into (K := KK) 0 [] [1] [VV.one (V1.c (C.slc 1 0 q.length none)), i64 (↑z : Int)] [Atom.ro Kd.cell l, Atom.ro Kd.int q] [VV.one (V1.c (C.slc 0 0 q.length none)),
 i64 (↑z : Int)] [Atom.ro Kd.int q] ∧ ∀ (y : Unit), True → ite2 (decide ((↑z : Int) ∈ q)) (((0 : Int) ≤ (↑z : Int) ∧ (↑z : Int) < (↑l.length : Int)) ∧ 0 + (↑z : Int).toNat < l.length ∧ True ∧ 0 + (↑z :
 Int).toNat < l.length ∧ i64ok (lsum (lawAt l q) z + (rd l (0 + (↑z : Int).toNat) (KK.dflt Kd.cell)).keep) ∧ i64ok ((↑z : Int) + (1 : Int)) ∧ Enter (1 + 1) (inv_lworst l q) (fun (z' : Nat) => l.length -
 z' < l.length - z) [VV.one (V1.c (C.slc 0 0 l.length none)), VV.one (V1.c (C.slc 1 0 q.length none)), VV.any, VV.any, VV.any, VV.one (V1.c (C.int .i64 (lsum (lawAt l q) z + (rd l (0 + (↑z : Int).toNat)
 (KK.dflt Kd.cell)).keep))), i64 ((↑z : Int) + (1 : Int)), i64 (rd l (0 + (↑z : Int).toNat) (KK.dflt Kd.cell)).keep, i64 (↑z : Int), VV.one (V1.c (C.slc 0 0 l.length none)), i64 (↑l.length : Int), boolv
 true, i64 (↑z : Int), i64 ((↑z : Int) + (1 : Int)), VV.one (V1.c (C.slc 0 0 l.length none)), i64 (↑z : Int), VV.one (V1.c (C.ptr 0 (0 + (↑z : Int).toNat) 0)), VV.one (V1.c (C.ptr 0 (0 + (↑z : Int).toNat)
 4)), i64 (rd l (0 + (↑z : Int).toNat) (KK.dflt Kd.cell)).keep, VV.one (V1.c (C.slc 0 0 l.length none)), i64 (↑z : Int), VV.one (V1.c (C.ptr 0 (0 + (↑z : Int).toNat) 0)), VV.one (V1.c (C.ptr 0 (0 + (↑z
 : Int).toNat) 5)), i64 (rd l (0 + (↑z : Int).toNat) (KK.dflt Kd.cell)).take, VV.one (V1.c (C.int .i64 (max (rd l (0 + (↑z : Int).toNat) (KK.dflt Kd.cell)).keep (rd l (0 + (↑z : Int).toNat) (KK.dflt Kd.cell)).take))),
 VV.one (V1.c (C.slc 1 0 q.length none)), i64 (↑z : Int), boolv (decide ((↑z : Int) ∈ q)), VV.one (V1.c (C.slc 0 0 l.length none)), i64 (↑z : Int), VV.one (V1.c (C.ptr 0 (0 + (↑z : Int).toNat) 0)), VV.one
 (V1.c (C.ptr 0 (0 + (↑z : Int).toNat) 4)), i64 (rd l (0 + (↑z : Int).toNat) (KK.dflt Kd.cell)).keep, i64 (lsum (lawAt l q) z), i64 (rd l (0 + (↑z : Int).toNat) (KK.dflt Kd.cell)).keep, VV.one (V1.c (C.int
 .i64 (lsum (lawAt l q) z + (rd l (0 + (↑z : Int).toNat) (KK.dflt Kd.cell)).keep))), VV.any] [Atom.ro Kd.cell l, Atom.ro Kd.int q]) (i64ok (lsum (lawAt l q) z + max (rd l (0 + (↑z : Int).toNat) (KK.dflt
 Kd.cell)).keep (rd l (0 + (↑z : Int).toNat) (KK.dflt Kd.cell)).take) ∧ i64ok ((↑z : Int) + (1 : Int)) ∧ Enter (1 + 1) (inv_lworst l q) (fun (z' : Nat) => l.length - z' < l.length - z) [VV.one (V1.c (C.slc
 0 0 l.length none)), VV.one (V1.c (C.slc 1 0 q.length none)), VV.any, VV.any, VV.any, VV.one (V1.c (C.int .i64 (lsum (lawAt l q) z + max (rd l (0 + (↑z : Int).toNat) (KK.dflt Kd.cell)).keep (rd l (0 +
 (↑z : Int).toNat) (KK.dflt Kd.cell)).take))), i64 ((↑z : Int) + (1 : Int)), VV.one (V1.c (C.int .i64 (max (rd l (0 + (↑z : Int).toNat) (KK.dflt Kd.cell)).keep (rd l (0 + (↑z : Int).toNat) (KK.dflt Kd.cell)).take))),
 i64 (↑z : Int), VV.one (V1.c (C.slc 0 0 l.length none)), i64 (↑l.length : Int), boolv true, i64 (↑z : Int), i64 ((↑z : Int) + (1 : Int)), VV.one (V1.c (C.slc 0 0 l.length none)), i64 (↑z : Int), VV.one
 (V1.c (C.ptr 0 (0 + (↑z : Int).toNat) 0)), VV.one (V1.c (C.ptr 0 (0 + (↑z : Int).toNat) 4)), i64 (rd l (0 + (↑z : Int).toNat) (KK.dflt Kd.cell)).keep, VV.one (V1.c (C.slc 0 0 l.length none)), i64 (↑z :
 Int), VV.one (V1.c (C.ptr 0 (0 + (↑z : Int).toNat) 0)), VV.one (V1.c (C.ptr 0 (0 + (↑z : Int).toNat) 5)), i64 (rd l (0 + (↑z : Int).toNat) (KK.dflt Kd.cell)).take, VV.one (V1.c (C.int .i64 (max (rd l (0
 + (↑z : Int).toNat) (KK.dflt Kd.cell)).keep (rd l (0 + (↑z : Int).toNat) (KK.dflt Kd.cell)).take))), VV.one (V1.c (C.slc 1 0 q.length none)), i64 (↑z : Int), boolv (decide ((↑z : Int) ∈ q)), VV.any, VV.any,
 VV.any, VV.any, VV.any, i64 (lsum (lawAt l q) z), VV.one (V1.c (C.int .i64 (max (rd l (0 + (↑z : Int).toNat) (KK.dflt Kd.cell)).keep (rd l (0 + (↑z : Int).toNat) (KK.dflt Kd.cell)).take))), VV.one (V1.c
 (C.int .i64 (lsum (lawAt l q) z + max (rd l (0 + (↑z : Int).toNat) (KK.dflt Kd.cell)).keep (rd l (0 + (↑z : Int).toNat) (KK.dflt Kd.cell)).take))), VV.any] [Atom.ro Kd.cell l, Atom.ro Kd.int q])) (EndsAs
 (1 + 1) (ct_lworst l q) (i64 (lsum (lawAt l q) z)) [Atom.ro Kd.cell l, Atom.ro Kd.int q])) := by kernel_rfl
theorem vc_contains (l : List Int) (n : Int) : evFn tab2 ann0 Try.f30 (ct_contains l n) = ( i64ok (↑l.length : Int) ∧ Into (K := KK) 0 [] [0] [VV.one (V1.c (C.slc 0 0 l.length none)), i64 n] [Atom.ro Kd.int l] [VV.one (V1.c (C.slc 0 0 l.length none)), i64 n] [Atom.ro Kd.int l] ∧ ∀ (y : Int),
 ((0 : Int) ≤ y ↔ n ∈ l) → ite2 (decide ((0 : Int) ≤ y)) (EndsAs 1 (ct_contains l n) (boolv true) [Atom.ro Kd.int l]) (EndsAs 1 (ct_contains l n) (boolv false) [Atom.ro Kd.int l])) := by kernel_rfl
theorem vc_many (n : Int) : evFn tab2 ann0 Try.f25 (ct_many n) = ( EndsAs 0 (ct_many n) (VV.one (V1.c (C.ptr 0 0 0))) [Atom.cells 72 [C.int .i64 n]]) := by kernel_rfl
theorem vc_cok (n : Int) : evFn tab2 ann0 Try.f26 (ct_cok n) = ( ite2 (decide ((0 : Int) ≤ n)) (EndsAs 1 (ct_cok n) (boolv true) [Atom.cells (72 : TypeId) [C.int .i64 n]]) (EndsAs 1 (ct_cok n) (boolv false) [Atom.cells (72 : TypeId) [C.int .i64 n]])) := by kernel_rfl
theorem contains_ok (l : List Int) (n : Int) : CtOk Try.prog 30 (ct_contains l n) := CtOk_of KK_ok tab2 ann0 (fn := Try.f30) rfl (fun _ _ => rfl) fun hlen => by
  have hlen : i64ok l.length := hlen
  rw [vc_contains]
  have fin : ∀ b, b = decide (n ∈ l) → EndsAs 1 (ct_contains l n) (boolv b) [Atom.ro Kd.int l] := fun b hb => by
    subst hb
    refine ⟨(), [], [0], trivial, ?_⟩
    (repeat' first | exact trivial | exact rfl | apply And.intro)
  refine ⟨hlen, into_mk (by kernel_rfl) ?_ ?_, fun y hy => ite2_decide (fun h => fin _ ?_) (fun h => fin _ ?_)⟩
  · (repeat' first | exact trivial | exact rfl | apply And.intro)
  · (repeat' first | exact trivial | exact rfl | apply And.intro)
  · simp [hy.1 h]
  · exact (decide_eq_false fun h' => h (hy.2 h')).symm
theorem many_ok (n : Int) : CtOk Try.prog 25 (ct_many n) := CtOk_of KK_ok tab2 ann0 (fn := Try.f25) rfl (fun _ _ => rfl) fun hn => by
  rw [vc_many]
  refine ⟨(), [], [0], trivial, ?_⟩
  (repeat' first | exact trivial | exact rfl | apply And.intro)
theorem cok_ok (n : Int) : CtOk Try.prog 26 (ct_cok n) := CtOk_of KK_ok tab2 ann0 (fn := Try.f26) rfl (fun _ _ => rfl) fun hn => by
  rw [vc_cok]
  have fin : ∀ b, b = decide (0 ≤ n) → EndsAs 1 (ct_cok n) (boolv b) [Atom.cells 72 [.int .i64 n]] := fun b hb => by
    subst hb
    refine ⟨(), [], [0], trivial, ?_⟩
    (repeat' first | exact trivial | exact rfl | apply And.intro)
  exact ite2_decide (fun h => fin _ (by simp [h])) (fun h => fin _ (by simp [h]))
theorem cadd_ok (m n : Int) : CtOk Try.prog 35 (ct_cadd m n) := CtOk_of KK_ok tab2 ann0 (fn := Try.f35) rfl (fun _ _ => rfl) fun hn => by
  obtain ⟨hm, hn, h0⟩ := hn
  rw [vc_cadd]
  have fin : ∀ b x, x = countF m n → b = decide (0 ≤ x) → EndsAs 1 (ct_cadd m n) (boolv b) [Atom.cells 72 [.int .i64 x]] := fun b x hx hb => by
    subst hx hb
    refine ⟨(), [], [0], trivial, ?_⟩
    (repeat' first | exact trivial | exact rfl | apply And.intro)
  refine ite2_decide (fun h => ⟨?_, ite2_decide (fun h' => fin _ _ ?_ ?_) (fun h' => fin _ _ ?_ ?_)⟩) (fun h => ite2_decide (fun h' => fin _ _ ?_ ?_) (fun h' => fin _ _ ?_ ?_))
  · unfold i64ok at *; omega
  · unfold countF; rw [if_pos h]
  · exact (decide_eq_true h').symm
  · unfold countF; rw [if_pos h]
  · exact (decide_eq_false h').symm
  · omega
  · omega
  · unfold countF; rw [if_neg h]
  · exact (decide_eq_false h').symm
theorem lsum_succ (f : Nat → Int) (i : Nat) : lsum f (i + 1) = lsum f i + f i := rfl
theorem lsum_le {f : Nat → Int} {b : Int} (h : ∀ i, 0 ≤ f i ∧ f i ≤ b) : ∀ i : Nat, 0 ≤ lsum f i ∧ lsum f i ≤ i * b
  | 0 => by simp [lsum]
  | i + 1 => by
    have h1 := lsum_le h i
    have h2 := h i
    rw [lsum_succ]
    have : ((i + 1 : Nat) : Int) * b = i * b + b := by rw [Int.natCast_add, Int.add_mul]; simp
    omega
theorem Low.rd {l : List Cell} (h : Low l) (i : Nat) : (0 ≤ (rd l i cell0).keep ∧ (rd l i cell0).keep < 1099511627776) ∧ (0 ≤ (rd l i cell0).take ∧ (rd l i cell0).take < 1099511627776) := by
  unfold E.rd
  rw [List.getD_eq_getElem?_getD]
  rcases Nat.lt_or_ge i l.length with h' | h'
  · rw [List.getElem?_eq_getElem h']; exact h.2 _ (List.getElem_mem h')
  · rw [List.getElem?_eq_none h']; exact ⟨⟨by decide, by decide⟩, by decide, by decide⟩
theorem lawAt_le {l : List Cell} (h : Low l) (q : List Int) (i : Nat) : 0 ≤ lawAt l q i ∧ lawAt l q i ≤ 1099511627776 := by
  have := h.rd i
  unfold lawAt; split <;> omega
theorem lworst_ok (l : List Cell) (q : List Int) : CtOk Try.prog 15 (ct_lworst l q) := CtOk_of KK_ok tab2 (ann1 (inv_lworst l q)) (fn := Try.f15) rfl (fun _ _ => rfl) fun hn => by
  obtain ⟨hl, hq⟩ := hn
  rw [vc_lworst]
  simp only [Int.toNat_natCast, Nat.zero_add]
  have h300 := hl.1
  have hs := fun z => lsum_le (lawAt_le hl q) z
  refine ⟨⟨(0 : Nat), [], [0, 1], Nat.zero_le _, trivial, into_mk (by kernel_rfl) ?_ ?_⟩, fun z hz => ite2_decide (fun hz1 => ?_) (fun hz1 => ?_)⟩
  · (repeat' first | exact trivial | exact rfl | apply And.intro)
  · (repeat' first | exact trivial | exact rfl | apply And.intro)
  · have h : _ := hl.rd z
    have hk : (0 ≤ (rd l z (KK.dflt Kd.cell)).keep ∧ (rd l z (KK.dflt Kd.cell)).keep < 1099511627776) ∧ (0 ≤ (rd l z (KK.dflt Kd.cell)).take ∧ (rd l z (KK.dflt Kd.cell)).take < 1099511627776) := h
    have h1 := hs z
    have h2 : (z : Int) * 1099511627776 ≤ 300 * 1099511627776 := Int.mul_le_mul_of_nonneg_right (by omega) (by decide)
    have hi : i64ok ((z : Int) + 1) := by unfold i64ok at *; omega
    have nx : ∀ x, x = lawAt l q z → (i64ok (lsum (lawAt l q) z + x)) := fun x hx => by unfold i64ok; have := lawAt_le hl q z; omega
    refine ⟨by omega, by omega, trivial, by omega, by omega, by omega, trivial, by omega, trivial, trivial, hq, into_mk (by kernel_rfl) ?_ ?_, fun _ _ => ite2_decide (fun hb => ?_) (fun hb => ?_)⟩
    · (repeat' first | exact trivial | exact rfl | apply And.intro)
    · (repeat' first | exact trivial | exact rfl | apply And.intro)
    · have e : (rd l z (KK.dflt Kd.cell)).keep = lawAt l q z := by unfold lawAt; rw [if_pos hb]; rfl
      refine ⟨by omega, by omega, trivial, by omega, nx _ e, hi, ⟨(z + 1 : Nat), [], [0, 1], by show z + 1 ≤ l.length; omega, by omega, into_mk (by kernel_rfl) ?_ ?_⟩⟩
      · (repeat' first | exact trivial | exact rfl | apply And.intro)
        all_goals (rw [lsum_succ, ← e]; exact rfl)
      · (repeat' first | exact trivial | exact rfl | apply And.intro)
    · have e : max (rd l z (KK.dflt Kd.cell)).keep (rd l z (KK.dflt Kd.cell)).take = lawAt l q z := by unfold lawAt; rw [if_neg hb]; rfl
      refine ⟨nx _ e, hi, ⟨(z + 1 : Nat), [], [0, 1], by show z + 1 ≤ l.length; omega, by omega, into_mk (by kernel_rfl) ?_ ?_⟩⟩
      · (repeat' first | exact trivial | exact rfl | apply And.intro)
        all_goals (rw [lsum_succ, ← e]; exact rfl)
      · (repeat' first | exact trivial | exact rfl | apply And.intro)
  · have e : z = l.length := by omega
    subst e
    refine ⟨(), [], [0, 1], trivial, ?_⟩
    (repeat' first | exact trivial | exact rfl | apply And.intro)
end Go.Proofs.Ytljamcgngojaeaa.T
