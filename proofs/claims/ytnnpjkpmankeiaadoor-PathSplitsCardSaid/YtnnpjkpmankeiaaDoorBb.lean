/- The book: numbers as texts, by the library's table; two lists held against one another; when a list is due. -/
import Derived.Test.YtnnpjkpmankeiaaDoorBa
import Derived.Test.YtnnpjkpmankeiaaDoorShelf
namespace Go.Proofs.YtnnpjkpmankeiaaDoor.T
open Go.Proofs.YtnnpjkpmankeiaaDoor.E
open Go.RowKit Go.Sort Go.Lib
set_option maxRecDepth 100000
set_option linter.unusedVariables false
def itoaS (n : Int) : ByteArray := ⟨(Lib.itoa n).toArray⟩
def tabC : List C := Lib.pow10Tab.map fun z => .int .u64 z
/-- The table stands in the bag. -/
def HasTab (φ : Bag KK) : Prop := φ 0 = some (.tab 131 (0, 0) tabC)
theorem HasTab.is {φ : Bag KK} {w : World} (h : HasTab φ) (hw : ∀ b i, φ b = some i → i.ok b w) : Lib.TabIs Tryd.prog w "internal/strconv.uint64pow10" .u64 Lib.pow10Tab := by
  obtain ⟨_, hv⟩ := hw _ _ h
  have hg : Tryd.prog.globalNamed "internal/strconv.uint64pow10" = some 0 := by kernel_rfl
  unfold Lib.TabIs World.var?
  rw [hg, Option.bind_some, hv]
  simp [tabC, List.map_map, Function.comp_def, C.plain]
theorem HasTab.ext {φ ψ : Bag KK} (h : HasTab φ) (e : Ext φ ψ) : HasTab ψ := e _ _ h
theorem below_grow' (w : World) (k : Nat) (os : Array Obj) : Below w.heap.size w (grow (w.drewN k) os) :=
  ⟨rfl, rfl, rfl, by show w.heap.size ≤ (w.heap ++ os).size; rw [Array.size_append]; omega, fun j hj => by show (w.heap ++ os)[j]? = w.heap[j]?; rw [Array.getElem?_append_left hj]⟩
/-- A contract that leaves memory as it was. -/
theorem bag_below {r : Nat → Ref} {w w' : World} {φ : Bag KK} (st : HeapOK (Ours r [(.bag φ : Atom KK)]) w r [.bag φ] w) (h : Below w.heap.size w w') : HeapOK (Ours r [(.bag φ : Atom KK)]) w r [.bag φ] w' := by
  have hbag : ∀ c i, φ c = some i → i.ok c w := st.ok 0
  exact st.bagStep (m := 0) (φ' := φ) rfl h.os h.tape h.output h.size (fun c hc _ => h.block c hc) (fun c i hi => BI.ok_keep (hbag c i hi) (h.block c (BI.ok_lt (hbag c i hi)))) (fun c i hi => .inl ⟨i, hi⟩)
def ct_itoa (n : Int) (φ : Bag KK) : Ct KK := { need := i64ok n ∧ HasTab φ, pre := [.bag φ], args := [i64 n], Y := Unit, ok := fun _ => True, ret := fun _ => .c (.str (itoaS n)), post := fun _ => [.bag φ] }
theorem itoa_ok (n : Int) (φ : Bag KK) : CtOk Tryd.prog 83 (ct_itoa n φ) := by
  refine ⟨fun _ _ => rfl, fun hn r w vals st ha _ => ?_⟩
  obtain ⟨h1, h2⟩ := hn
  match vals, ha with
  | [v0], ⟨hv0, _⟩ =>
    have hv0 : v0 = .int .i64 n := hv0
    subst hv0
    refine (Tryd.strconv_Itoa n h1.1 h1.2 w (h2.is (st.ok 0))).mono ?_
    rintro e w' ⟨rfl, k, os, rfl⟩
    exact ⟨_, rfl, r, _, _, ⟨(), trivial, rfl, rfl⟩, rfl, lt_of_nm rfl, Nat.le_refl _, fun _ _ => rfl, RoKeep.none rfl, bag_below st (below_grow' w k os)⟩
theorem ite2_mk {b : Bool} {p q : Prop} (h1 : b = true → p) (h2 : b = false → q) : ite2 b p q := by
  cases b
  · exact h2 rfl
  · exact h1 rfl
def ct_sameT (x y : RS) (φ : Bag KK) : Ct KK := { need := RS.Alike φ Kd.str 1000000000 x y, pre := [.bag φ], args := [.c (.rs 9 1 x), .c (.rs 9 1 y)], Y := Unit, ok := fun _ => True, ret := fun _ => boolv true, post := fun _ => [.bag φ] }
def inv_sameT (x y : RS) (φ : Bag KK) : Inv KK := { X := Nat, fr := fun i => [.c (.rs 9 1 x), .c (.rs 9 1 y), .any, .any, .any, i64 i] ++ anys 24, H := fun _ => [.bag φ], ok := fun i => i ≤ x.len, meas := fun i : Nat => x.len - i }
def ct_due (B : BS) (n : Int) : Ct KK := { need := (0 ≤ B.turn ∧ B.turn ≤ 1000000) ∧ 0 ≤ n ∧ n ≤ 1000000, pre := bookH B, args := [.c (.ptr 0 0 0), i64 n], Y := Int, ok := fun y => 0 ≤ y ∧ y ≤ 2000000, ret := fun y => i64 y, post := fun _ => bookH B }
theorem vc_sameT (x y : RS) (φ : Bag KK) : evFn tab0 (ann1 (inv_sameT x y φ)) Tryd.f36 (ct_sameT x y φ) = ( ite2 (decide ((↑x.len : Int) = (↑y.len : Int))) (Enter 1 (inv_sameT x y φ) (fun (x : Nat) => True) ([VV.one (V1.c (C.rs 9 1 x)), VV.one (V1.c (C.rs 9 1 y)), VV.any, VV.any, boolv false, i64 (0 : Int),
 VV.any, VV.any, VV.one (V1.c (C.rs 9 1 x)), i64 (↑x.len : Int), VV.one (V1.c (C.rs 9 1 y)), i64 (↑y.len : Int), boolv false] ++ anys 17) [Atom.bag φ] ∧ ∀ (z : Nat), z ≤ x.len → ite2 (decide ((↑z : Int)
 < (↑x.len : Int))) (((0 : Int) ≤ (↑z : Int) ∧ (↑z : Int) < (↑x.len : Int)) ∧ ∃ (cap : Nat), ∃ (xs : List (KK.α Kd.str)), φ x.blk = some (BI.row Kd.str cap xs) ∧ x.lo + (↑z : Int).toNat < xs.length ∧ ((0
 : Int) ≤ (↑z : Int) ∧ (↑z : Int) < (↑y.len : Int)) ∧ ∃ (cap : Nat), ∃ (xs_1 : List (KK.α Kd.str)), φ y.blk = some (BI.row Kd.str cap xs_1) ∧ y.lo + (↑z : Int).toNat < xs_1.length ∧ ite2 (decide (ByteArray.toList
 (rd xs (x.lo + (↑z : Int).toNat) (ByteArray.mk (#[]))) = ByteArray.toList (rd xs_1 (y.lo + (↑z : Int).toNat) (ByteArray.mk (#[]))))) (i64ok ((↑z : Int) + (1 : Int)) ∧ Enter 1 (inv_sameT x y φ) (fun (z'
 : Nat) => x.len - z' < x.len - z) [VV.one (V1.c (C.rs 9 1 x)), VV.one (V1.c (C.rs 9 1 y)), VV.any, VV.any, VV.any, i64 ((↑z : Int) + (1 : Int)), VV.one (V1.c (C.str (rd xs (x.lo + (↑z : Int).toNat) (ByteArray.mk
 (#[]))))), VV.one (V1.c (C.str (rd xs_1 (y.lo + (↑z : Int).toNat) (ByteArray.mk (#[]))))), VV.any, VV.any, VV.any, VV.any, VV.any, i64 (↑z : Int), VV.one (V1.c (C.rs 9 1 x)), i64 (↑x.len : Int), boolv
 true, i64 (↑z : Int), i64 ((↑z : Int) + (1 : Int)), VV.one (V1.c (C.rs 9 1 x)), i64 (↑z : Int), VV.one (V1.c (C.rp 9 1 x.blk (x.lo + (↑z : Int).toNat) 0)), VV.one (V1.c (C.str (rd xs (x.lo + (↑z : Int).toNat)
 (ByteArray.mk (#[]))))), VV.one (V1.c (C.rs 9 1 y)), i64 (↑z : Int), VV.one (V1.c (C.rp 9 1 y.blk (y.lo + (↑z : Int).toNat) 0)), VV.one (V1.c (C.str (rd xs_1 (y.lo + (↑z : Int).toNat) (ByteArray.mk (#[]))))),
 VV.one (V1.c (C.str (rd xs (x.lo + (↑z : Int).toNat) (ByteArray.mk (#[]))))), VV.one (V1.c (C.str (rd xs_1 (y.lo + (↑z : Int).toNat) (ByteArray.mk (#[]))))), boolv false] [Atom.bag φ]) (EndsAs 1 (ct_sameT
 x y φ) (boolv false) [Atom.bag φ])) (EndsAs 1 (ct_sameT x y φ) (boolv true) [Atom.bag φ])) (EndsAs 1 (ct_sameT x y φ) (boolv false) [Atom.bag φ])) := by kernel_rfl
theorem vc_due (B : BS) (n : Int) : evFn tab0 ann0 Tryd.f14 (ct_due B n) = ( (3 : Int) ≠ (0 : Int) ∧ ite2 (decide (n.tmod (3 : Int) = (0 : Int))) (EndsAs 9 (ct_due B n) (i64 B.turn) (bookH B)) ((3 : Int) ≠ (0 : Int) ∧ ite2 (decide (n.tmod (3 : Int) = (1 : Int))) (i64ok (B.turn
 + (1 : Int)) ∧ (3 : Int) ≠ (0 : Int) ∧ i64ok (n.tdiv (3 : Int)) ∧ (8 : Int) ≠ (0 : Int) ∧ i64ok (B.turn + (1 : Int) + (n.tdiv (3 : Int)).tmod (8 : Int)) ∧ EndsAs 9 (ct_due B n) (i64 (B.turn + (1 : Int)
 + (n.tdiv (3 : Int)).tmod (8 : Int))) (bookH B)) (i64ok (B.turn + (1 : Int)) ∧ EndsAs 9 (ct_due B n) (i64 (B.turn + (1 : Int))) (bookH B)))) := by kernel_rfl
theorem sameT_ok (x y : RS) (φ : Bag KK) : CtOk Tryd.prog 36 (ct_sameT x y φ) := CtOk_of KK_ok tab0 (ann1 (inv_sameT x y φ)) (fn := Tryd.f36) rfl (fun _ _ => rfl) fun hn => by
  obtain ⟨(xs : List ByteArray), h1, h2, h3⟩ := hn
  have h3 : xs.length ≤ 1000000000 := h3
  have l1 : xs.length = x.len := RS.row_len h1
  have l2 : xs.length = y.len := RS.row_len h2
  have hxy : ((x.len : Nat) : Int) = y.len := by omega
  rw [vc_sameT]
  simp only [Int.toNat_natCast, Nat.zero_add]
  refine ite2_decide (fun _ => ⟨⟨(0 : Nat), [], [0], Nat.zero_le _, trivial, into_mk (by kernel_rfl) (by (repeat' first | exact trivial | exact rfl | apply And.intro)) (by (repeat' first | exact trivial | exact rfl | apply And.intro))⟩, fun z hz => ite2_decide (fun hl => ?_) (fun hl => ⟨(), [], [0], trivial, by (repeat' first | exact trivial | exact rfl | apply And.intro)⟩)⟩) (fun h => absurd hxy h)
  have hz1 : z < x.len := by omega
  have hz2 : z < y.len := by omega
  obtain ⟨c1, u1, e1, e2, e3⟩ := RS.rd h1 hz1 (ByteArray.mk #[])
  obtain ⟨c2, u2, f1, f2, f3⟩ := RS.rd h2 hz2 (ByteArray.mk #[])
  refine ⟨⟨by omega, by omega⟩, c1, u1, e1, e2, ⟨by omega, by omega⟩, c2, u2, f1, f2, ite2_decide (fun _ => ⟨by unfold i64ok; omega, (z + 1 : Nat), [], [0], by show z + 1 ≤ x.len; omega, by omega, into_mk (by kernel_rfl) (by (repeat' first | exact trivial | exact rfl | apply And.intro)) (by (repeat' first | exact trivial | exact rfl | apply And.intro))⟩) (fun h => absurd (congrArg ByteArray.toList (e3.trans f3.symm)) h)⟩
theorem due_ok (B : BS) (n : Int) : CtOk Tryd.prog 14 (ct_due B n) := CtOk_of KK_ok tab0 ann0 (fn := Tryd.f14) rfl (fun _ _ => rfl) fun hn => by
  obtain ⟨⟨h1, h2⟩, h3, h4⟩ := hn
  rw [vc_due]
  have e : ∀ y : Int, 0 ≤ y ∧ y ≤ 2000000 → EndsAs 9 (ct_due B n) (i64 y) (bookH B) := fun y hy => ⟨y, [], bookN, hy, by (repeat' first | exact trivial | exact rfl | apply And.intro)⟩
  have q := Int.tdiv_nonneg h3 (show (0 : Int) ≤ 3 by decide)
  have q2 : n.tdiv 3 ≤ n := Int.tdiv_le_self _ h3
  have q3 : 0 ≤ (n.tdiv 3).tmod 8 := Int.tmod_nonneg _ q
  have q4 : (n.tdiv 3).tmod 8 < 8 := Int.tmod_lt_of_pos _ (by decide)
  have rest : (3 : Int) ≠ 0 := by decide
  refine ⟨rest, ite2_decide (fun _ => e _ ⟨h1, by omega⟩) (fun _ => ⟨rest, ite2_decide (fun _ => ⟨by unfold i64ok; omega, rest, by unfold i64ok; omega, by decide, by unfold i64ok; omega, e _ ⟨by omega, by omega⟩⟩) (fun _ => ⟨by unfold i64ok; omega, e _ ⟨by omega, by omega⟩⟩)⟩)⟩
#print axioms itoa_ok
end Go.Proofs.YtnnpjkpmankeiaaDoor.T
