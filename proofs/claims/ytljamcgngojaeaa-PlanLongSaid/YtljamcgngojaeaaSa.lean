/- The reference: its small functions; the law's. The reference: its small functions, proofs. The reference: how cells grow, the worst sum, the last of a sort. The reference: proofs; the last cell of a sort. -/
import Derived.Test.YtljamcgngojaeaaQb
import Derived.Test.YtljamcgngojaeaaQc
namespace Go.Proofs.Ytljamcgngojaeaa.T
open Go.Proofs.Ytljamcgngojaeaa.E
set_option maxRecDepth 100000
set_option linter.unusedVariables false
def ct_above0 (n : Int) : Ct KK := { need := True, pre := [], args := [i64 n], Y := Unit, ok := fun _ => True, ret := fun _ => i64 (max n 0), post := fun _ => [] }
def ct_plus (a b : Int) : Ct KK := { need := i64ok a ∧ i64ok b ∧ 0 ≤ b, pre := [], args := [i64 a, i64 b], Y := Unit, ok := fun _ => True, ret := fun _ => i64 (addF a b), post := fun _ => [] }
def ct_less (a b : Int) : Ct KK := { need := i64ok a ∧ i64ok b ∧ 0 ≤ b, pre := [], args := [i64 a, i64 b], Y := Unit, ok := fun _ => True, ret := fun _ => i64 (addF a (0 - b)), post := fun _ => [] }
def ct_most (n : Int) : Ct KK := { need := True, pre := [], args := [i64 n], Y := Unit, ok := fun _ => True, ret := fun _ => i64 (min (max n 1) 1048576), post := fun _ => [] }
def ct_place (k n : Int) : Ct KK := { need := i64ok k ∧ i64ok n ∧ 0 < n, pre := [], args := [i64 k, i64 n], Y := Int, ok := fun y => 0 ≤ y ∧ y < n, ret := fun y => i64 y, post := fun _ => [] }
def ct_next (x n : Int) : Ct KK := { need := (0 ≤ x ∧ x < 2147483648) ∧ 0 < n ∧ i64ok n, pre := [.cells 48 [.int .i64 x]], args := [.c (.ptr 0 0 0), i64 n], Y := Int × Int, ok := fun y => (0 ≤ y.1 ∧ y.1 < n) ∧ 0 ≤ y.2 ∧ y.2 < 2147483648, ret := fun y => i64 y.1, post := fun y => [.cells 48 [.int .i64 y.2]] }
def ct_digits (n : Int) : Ct KK := { need := True, pre := [], args := [i64 n], Y := ByteArray, ok := fun s => s.size = 4, ret := fun s => .c (.str s), post := fun _ => [] }
def ct_sameItems (a b : List Item) : Ct KK := { need := a = b ∧ i64ok a.length, pre := [.ro .item a, .ro .item b], args := [.c (.slc 0 0 a.length none), .c (.slc 1 0 b.length none)], Y := Unit, ok := fun _ => True, ret := fun _ => boolv true, post := fun _ => [.gone, .gone] }
def inv_sameItems (a b : List Item) : Inv KK := { X := Nat, fr := fun i => [.c (.slc 0 0 a.length none), .c (.slc 1 0 b.length none), .any, .any, .any, i64 i] ++ anys 20, H := fun _ => [.ro .item a, .ro .item b], ok := fun i => i ≤ a.length, meas := fun i : Nat => a.length - i }
theorem vc_above0 (n : Int) : evFn tab11 ann0 Try.f43 (ct_above0 n) = ( EndsAs 0 (ct_above0 n) (i64 (max n (0 : Int))) []) := by kernel_rfl
theorem vc_plus (a b : Int) : evFn tab11 ann0 Try.f44 (ct_plus a b) = ( ite2 (decide ((0 : Int) < b)) (i64ok ((9223372036854775807 : Int) - b) ∧ ite2 (decide ((9223372036854775807 : Int) - b < a)) (EndsAs 0 (ct_plus a b) (i64 (9223372036854775807 : Int)) []) (i64ok (a + b)
 ∧ EndsAs 0 (ct_plus a b) (i64 (a + b)) [])) (i64ok (a + b) ∧ EndsAs 0 (ct_plus a b) (i64 (a + b)) [])) := by kernel_rfl
theorem vc_less (a b : Int) : evFn tab11 ann0 Try.f45 (ct_less a b) = ( ite2 (decide ((0 : Int) < b)) (i64ok ((-9223372036854775808 : Int) + b) ∧ ite2 (decide (a < (-9223372036854775808 : Int) + b)) (EndsAs 0 (ct_less a b) (i64 (-9223372036854775808 : Int)) []) (i64ok (a
 - b) ∧ EndsAs 0 (ct_less a b) (i64 (a - b)) [])) (i64ok (a - b) ∧ EndsAs 0 (ct_less a b) (i64 (a - b)) [])) := by kernel_rfl
theorem vc_most (n : Int) : evFn tab11 ann0 Try.f41 (ct_most n) = ( EndsAs 0 (ct_most n) (i64 (min (max n (1 : Int)) (1048576 : Int))) []) := by kernel_rfl
theorem vc_place (k n : Int) : evFn tab11 ann0 Try.f16 (ct_place k n) = ( n ≠ (0 : Int) ∧ ite2 (decide (k.tmod n < (0 : Int))) (i64ok (k.tmod n + n) ∧ EndsAs 0 (ct_place k n) (i64 (k.tmod n + n)) []) (EndsAs 0 (ct_place k n) (i64 (k.tmod n)) [])) := by kernel_rfl
theorem vc_next (x n : Int) : evFn tab11 ann0 Try.f18 (ct_next x n) = ( i64ok (x * (1103515 : Int)) ∧ i64ok (x * (1103515 : Int) + (12345 : Int)) ∧ (64 : Int) ≠ (0 : Int) ∧ i64ok ((bitw BinOp.and .i64 (x * (1103515 : Int) + (12345 : Int)) (2147483647 : Int)).tdiv (64 : Int))
 ∧ n ≠ (0 : Int) ∧ EndsAs 1 (ct_next x n) (VV.one (V1.c (C.int .i64 (((bitw BinOp.and .i64 (x * (1103515 : Int) + (12345 : Int)) (2147483647 : Int)).tdiv (64 : Int)).tmod n)))) [Atom.cells 48 [C.int .i64
 (bitw BinOp.and .i64 (x * (1103515 : Int) + (12345 : Int)) (2147483647 : Int))]]) := by kernel_rfl
theorem vc_sameItems (a b : List Item) : evFn tab11 (ann1 (inv_sameItems a b)) Try.f32 (ct_sameItems a b) = ( ite2 (decide ((↑a.length : Int) = (↑b.length : Int))) (Enter (1 + 1) (inv_sameItems a b) (fun (x : Nat) => True) [VV.one (V1.c (C.slc 0 0 a.length none)), VV.one (V1.c (C.slc 1 0 b.length none)), VV.any,
 VV.any, boolv false, i64 (0 : Int), VV.one (V1.c (C.slc 0 0 a.length none)), i64 (↑a.length : Int), VV.one (V1.c (C.slc 1 0 b.length none)), i64 (↑b.length : Int), boolv false, VV.any, VV.any, VV.any,
 VV.any, VV.any, VV.any, VV.any, VV.any, VV.any, VV.any, VV.any, VV.any, VV.any, VV.any, VV.any] [Atom.ro Kd.item a, Atom.ro Kd.item b] ∧ ∀ (z : Nat), z ≤ a.length → ite2 (decide ((↑z : Int) < (↑a.length
 : Int))) (((0 : Int) ≤ (↑z : Int) ∧ (↑z : Int) < (↑a.length : Int)) ∧ 0 + (↑z : Int).toNat < a.length ∧ True ∧ 0 + (↑z : Int).toNat < a.length ∧ ((0 : Int) ≤ (↑z : Int) ∧ (↑z : Int) < (↑b.length : Int))
 ∧ 0 + (↑z : Int).toNat < b.length ∧ True ∧ 0 + (↑z : Int).toNat < b.length ∧ ite2 (decide ((rd a (0 + (↑z : Int).toNat) (KK.dflt Kd.item)).number = (rd b (0 + (↑z : Int).toNat) (KK.dflt Kd.item)).number)
 && (decide ((rd a (0 + (↑z : Int).toNat) (KK.dflt Kd.item)).cell = (rd b (0 + (↑z : Int).toNat) (KK.dflt Kd.item)).cell) && (decide ((rd a (0 + (↑z : Int).toNat) (KK.dflt Kd.item)).path.data = (rd b (0
 + (↑z : Int).toNat) (KK.dflt Kd.item)).path.data) && (decide ((rd a (0 + (↑z : Int).toNat) (KK.dflt Kd.item)).what = (rd b (0 + (↑z : Int).toNat) (KK.dflt Kd.item)).what) && (decide ((rd a (0 + (↑z : Int).toNat)
 (KK.dflt Kd.item)).src = (rd b (0 + (↑z : Int).toNat) (KK.dflt Kd.item)).src) && (decide ((rd a (0 + (↑z : Int).toNat) (KK.dflt Kd.item)).dst = (rd b (0 + (↑z : Int).toNat) (KK.dflt Kd.item)).dst) && (decide
 ((rd a (0 + (↑z : Int).toNat) (KK.dflt Kd.item)).mode = (rd b (0 + (↑z : Int).toNat) (KK.dflt Kd.item)).mode) && true))))))) (True ∧ i64ok ((↑z : Int) + (1 : Int)) ∧ Enter (1 + 1) (inv_sameItems a b) (fun
 (z' : Nat) => a.length - z' < a.length - z) [VV.one (V1.c (C.slc 0 0 a.length none)), VV.one (V1.c (C.slc 1 0 b.length none)), VV.any, VV.any, VV.any, i64 ((↑z : Int) + (1 : Int)), VV.any, VV.any, VV.any,
 VV.any, VV.any, i64 (↑z : Int), VV.one (V1.c (C.slc 0 0 a.length none)), i64 (↑a.length : Int), boolv true, i64 (↑z : Int), i64 ((↑z : Int) + (1 : Int)), VV.one (V1.c (C.slc 0 0 a.length none)), i64 (↑z
 : Int), VV.one (V1.c (C.ptr 0 (0 + (↑z : Int).toNat) 0)), VV.one (V1.agg [C.int .i64 (rd a (0 + (↑z : Int).toNat) (KK.dflt Kd.item)).number, C.int .i64 (rd a (0 + (↑z : Int).toNat) (KK.dflt Kd.item)).cell,
 C.str (rd a (0 + (↑z : Int).toNat) (KK.dflt Kd.item)).path, C.int .i64 (rd a (0 + (↑z : Int).toNat) (KK.dflt Kd.item)).what, C.int .i64 (rd a (0 + (↑z : Int).toNat) (KK.dflt Kd.item)).src, C.int .i64 (rd
 a (0 + (↑z : Int).toNat) (KK.dflt Kd.item)).dst, C.int .i64 (rd a (0 + (↑z : Int).toNat) (KK.dflt Kd.item)).mode]), VV.one (V1.c (C.slc 1 0 b.length none)), i64 (↑z : Int), VV.one (V1.c (C.ptr 1 (0 + (↑z
 : Int).toNat) 0)), VV.one (V1.agg [C.int .i64 (rd b (0 + (↑z : Int).toNat) (KK.dflt Kd.item)).number, C.int .i64 (rd b (0 + (↑z : Int).toNat) (KK.dflt Kd.item)).cell, C.str (rd b (0 + (↑z : Int).toNat)
 (KK.dflt Kd.item)).path, C.int .i64 (rd b (0 + (↑z : Int).toNat) (KK.dflt Kd.item)).what, C.int .i64 (rd b (0 + (↑z : Int).toNat) (KK.dflt Kd.item)).src, C.int .i64 (rd b (0 + (↑z : Int).toNat) (KK.dflt
 Kd.item)).dst, C.int .i64 (rd b (0 + (↑z : Int).toNat) (KK.dflt Kd.item)).mode]), boolv false] [Atom.ro Kd.item a, Atom.ro Kd.item b]) (True ∧ EndsAs (1 + 1) (ct_sameItems a b) (boolv false) [Atom.ro Kd.item
 a, Atom.ro Kd.item b])) (EndsAs (1 + 1) (ct_sameItems a b) (boolv true) [Atom.ro Kd.item a, Atom.ro Kd.item b])) (EndsAs (1 + 1) (ct_sameItems a b) (boolv false) [Atom.ro Kd.item a, Atom.ro Kd.item b])) := by kernel_rfl
end Go.Proofs.Ytljamcgngojaeaa.T
namespace Go.Proofs.Ytljamcgngojaeaa.T
open Go.Proofs.Ytljamcgngojaeaa.E
set_option maxRecDepth 100000
set_option linter.unusedVariables false
theorem above0_ok (n : Int) : CtOk Try.prog 43 (ct_above0 n) := CtOk_of KK_ok tab11 ann0 (fn := Try.f43) rfl (fun _ _ => rfl) fun _ => by
  rw [vc_above0]; exact ⟨(), [], [], trivial, by (repeat' first | exact trivial | exact rfl | apply And.intro)⟩
theorem most_ok (n : Int) : CtOk Try.prog 41 (ct_most n) := CtOk_of KK_ok tab11 ann0 (fn := Try.f41) rfl (fun _ _ => rfl) fun _ => by
  rw [vc_most]; exact ⟨(), [], [], trivial, by (repeat' first | exact trivial | exact rfl | apply And.intro)⟩
theorem plus_ok (a b : Int) : CtOk Try.prog 44 (ct_plus a b) := CtOk_of KK_ok tab11 ann0 (fn := Try.f44) rfl (fun _ _ => rfl) fun hn => by
  obtain ⟨ha, hb, h0⟩ := hn
  rw [vc_plus]
  unfold i64ok at *
  have fin : ∀ z, z = addF a b → EndsAs 0 (ct_plus a b) (i64 z) [] := fun z hq => ⟨(), [], [], trivial, by (repeat' first | exact trivial | exact rfl | exact hq | apply And.intro)⟩
  refine ite2_decide (fun h1 => ⟨by omega, ite2_decide (fun h2 => fin _ ?_) (fun h2 => ⟨by omega, fin _ ?_⟩)⟩) (fun h1 => ⟨by omega, fin _ ?_⟩)
  · rw [addF, if_pos (by omega)]
  · rw [addF, if_neg (by omega), if_neg (by omega)]
  · rw [addF, if_neg (by omega), if_neg (by omega)]
theorem less_ok (a b : Int) : CtOk Try.prog 45 (ct_less a b) := CtOk_of KK_ok tab11 ann0 (fn := Try.f45) rfl (fun _ _ => rfl) fun hn => by
  obtain ⟨ha, hb, h0⟩ := hn
  rw [vc_less]
  unfold i64ok at *
  have fin : ∀ z, z = addF a (0 - b) → EndsAs 0 (ct_less a b) (i64 z) [] := fun z hq => ⟨(), [], [], trivial, by (repeat' first | exact trivial | exact rfl | exact hq | apply And.intro)⟩
  refine ite2_decide (fun h1 => ⟨by omega, ite2_decide (fun h2 => fin _ ?_) (fun h2 => ⟨by omega, fin _ ?_⟩)⟩) (fun h1 => ⟨by omega, fin _ ?_⟩)
  · rw [addF, if_neg (by omega), if_pos (by omega)]
  · rw [addF, if_neg (by omega), if_neg (by omega)]; omega
  · rw [addF, if_neg (by omega), if_neg (by omega)]; omega
theorem tmod_range {k n : Int} (hn : 0 < n) : -n < k.tmod n ∧ k.tmod n < n := by
  have h : (k.tmod n).natAbs < n.natAbs := by rw [Int.natAbs_tmod]; exact Nat.mod_lt _ (by omega)
  omega
theorem place_ok (k n : Int) : CtOk Try.prog 16 (ct_place k n) := CtOk_of KK_ok tab11 ann0 (fn := Try.f16) rfl (fun _ _ => rfl) fun hn => by
  obtain ⟨hk, hn, h0⟩ := hn
  rw [vc_place]
  have hr := tmod_range (k := k) h0
  unfold i64ok at *
  exact ⟨by omega, ite2_decide (fun h => ⟨by omega, (k.tmod n + n : Int), [], [], ⟨by omega, by omega⟩, by (repeat' first | exact trivial | exact rfl | apply And.intro)⟩) (fun h => ⟨(k.tmod n : Int), [], [], ⟨by omega, by omega⟩, by (repeat' first | exact trivial | exact rfl | apply And.intro)⟩)⟩
theorem mask_range (z : Int) : 0 ≤ bitw .and .i64 z 2147483647 ∧ bitw .and .i64 z 2147483647 < 2147483648 := by
  have hle : (BitVec.ofInt 64 z &&& BitVec.ofInt 64 2147483647).toNat ≤ 2147483647 := by
    rw [BitVec.toNat_and]
    exact Nat.le_trans Nat.and_le_right (by decide)
  have e : bitw .and .i64 z 2147483647 = IntKind.i64.wrap ((BitVec.ofInt 64 z &&& BitVec.ofInt 64 2147483647).toNat : Int) := rfl
  rw [e, IntWalk.i64_in _ (by omega)]
  omega
theorem next_ok (x n : Int) : CtOk Try.prog 18 (ct_next x n) := CtOk_of KK_ok tab11 ann0 (fn := Try.f18) rfl (fun _ _ => rfl) fun hn => by
  obtain ⟨hx, h0, hn⟩ := hn
  rw [vc_next]
  have hm := mask_range (x * 1103515 + 12345)
  generalize bitw .and .i64 (x * 1103515 + 12345) 2147483647 = m at *
  have hq : m.tdiv 64 = m / 64 := Int.tdiv_eq_ediv_of_nonneg hm.1
  have hr : (m.tdiv 64).tmod n = (m / 64) % n := by rw [hq, Int.tmod_eq_emod_of_nonneg (by omega)]
  have h1 := Int.emod_nonneg (m / 64) (show n ≠ 0 by omega)
  have h2 := Int.emod_lt_of_pos (m / 64) h0
  refine ⟨by unfold i64ok; omega, by unfold i64ok; omega, by decide, by rw [hq]; unfold i64ok; omega, by omega, ⟨(((m.tdiv 64).tmod n, m) : Int × Int), [], [0], ⟨⟨?_, ?_⟩, hm.1, hm.2⟩, by (repeat' first | exact trivial | exact rfl | apply And.intro)⟩⟩
  · show 0 ≤ (m.tdiv 64).tmod n; rw [hr]; exact h1
  · show (m.tdiv 64).tmod n < n; rw [hr]; exact h2
theorem digits_ok (n : Int) : CtOk Try.prog 17 (ct_digits n) := ⟨fun _ _ => rfl, fun _ r w vals st ha _ => by
  match vals, ha with
  | [v], ⟨hv, _⟩ =>
    have hv' : v = .int .i64 n := hv
    subst hv'
    refine (D.digits_calls n w).mono fun e w' he => ?_
    obtain ⟨⟨s, rfl, hs⟩, bel⟩ := he
    refine ⟨_, rfl, r, .c (.str s), [], ⟨s, hs, rfl, rfl⟩, rfl, fun n hn => by simp [C.nm] at hn, Nat.le_refl _, fun _ _ => rfl, RoKeep.refl _, ⟨fun n => ?_, fun n => ?_, fun n m b _ h => ?_, fun n b h => ?_, fun n m b h => ?_, ⟨bel.os, bel.tape, bel.output, bel.size, fun b hb _ => bel.block b hb⟩⟩⟩
    · simp [at_, Atom.ok]
    · simp [at_, Atom.lt]
    · simp [blkOf, at_, Atom.blk] at h
    · simp [blkOf, at_, Atom.blk] at h
    · simp [rbOf, at_, Atom.rb] at h⟩
theorem sameItems_ok (a b : List Item) : CtOk Try.prog 32 (ct_sameItems a b) := CtOk_of KK_ok tab11 (ann1 (inv_sameItems a b)) (fn := Try.f32) rfl (fun _ _ => rfl) fun hn => by
  obtain ⟨rfl, hlen⟩ := hn
  rw [vc_sameItems]
  refine ite2_decide (fun _ => ⟨⟨(0 : Nat), [], [0, 1], Nat.zero_le _, trivial, into_mk (by kernel_rfl) (by (repeat' first | exact trivial | exact rfl | apply And.intro)) (by (repeat' first | exact trivial | exact rfl | apply And.intro))⟩, fun z hz => ite2_decide (fun hlt => ?_) (fun _ => ⟨(), [], [0, 1], trivial, by (repeat' first | exact trivial | exact rfl | apply And.intro)⟩)⟩) (fun h => absurd rfl h)
  have z1 : (0 : Int) ≤ z ∧ (z : Int) < a.length := by omega
  have z2 : z < a.length := by omega
  simp only [Int.toNat_natCast, Nat.zero_add]
  exact ⟨z1, z2, trivial, z2, z1, z2, trivial, z2, ite2_mk (fun _ => ⟨trivial, by unfold i64ok at *; omega, ⟨(z + 1 : Nat), [], [0, 1], z2, by omega, into_mk (by kernel_rfl) (by (repeat' first | exact trivial | exact rfl | apply And.intro)) (by (repeat' first | exact trivial | exact rfl | apply And.intro))⟩⟩) (fun hb => absurd hb (by simp))⟩
end Go.Proofs.Ytljamcgngojaeaa.T
namespace Go.Proofs.Ytljamcgngojaeaa.T
open Go.Proofs.Ytljamcgngojaeaa.E
set_option maxRecDepth 100000
set_option linter.unusedVariables false
def tab12 : Tab Try.prog KK := ⟨mixed, fun f args H => match f, args with
  | 43, [.one (.c (.int _ a))] => some (ct_above0 a, [], [])
  | 44, [.one (.c (.int _ a)), .one (.c (.int _ b))] => some (ct_plus a b, [], [])
  | 45, [.one (.c (.int _ a)), .one (.c (.int _ b))] => some (ct_less a b, [], [])
  | 41, [.one (.c (.int _ a))] => some (ct_most a, [], [])
  | 16, [.one (.c (.int _ a)), .one (.c (.int _ b))] => some (ct_place a b, [], [])
  | 17, [.one (.c (.int _ a))] => some (ct_digits a, [], [])
  | 18, [.one (.c (.ptr n 0 0)), .one (.c (.int _ a))] => match cnt (at_ H n) with
    | some x => some (ct_next x a, [], [n])
    | none => none
  | 32, [.one (.c (.slc n 0 len none)), .one (.c (.slc m 0 len' none))] => match getL .item (at_ H n), getL .item (at_ H m) with
    | some a, some b => some (ct_sameItems a b, [], [n, m])
    | _, _ => none
  | f, args => tab11.pick f args H, fun f args H ct ks τ h => by
    split at h
    · cases h; exact above0_ok _
    · cases h; exact plus_ok _ _
    · cases h; exact less_ok _ _
    · cases h; exact most_ok _
    · cases h; exact place_ok _ _
    · cases h; exact digits_ok _
    · split at h
      · cases h; exact next_ok _ _
      · cases h
    · split at h
      · cases h; exact sameItems_ok _ _
      · cases h
    · exact tab11.ok _ _ _ _ _ _ h⟩
def ct_grows (c : Cell) : Ct KK := { need := True, pre := [], args := [.agg (KK.enc .cell c)], Y := Unit, ok := fun _ => True, ret := fun _ => i64 (sortF c), post := fun _ => [] }
def ct_rworst (l : List Cell) (left : List Bool) : Ct KK := { need := Cells l ∧ l.length ≤ left.length ∧ i64ok l.length, pre := [.ro .cell l, .ro .bool left], args := [.c (.slc 0 0 l.length none), .c (.slc 1 0 left.length none)], Y := Unit, ok := fun _ => True, ret := fun _ => i64 (pworstF l left), post := fun _ => [.gone, .gone] }
def inv_rworst (l : List Cell) (left : List Bool) : Inv KK := { X := Nat, fr := fun i => [.c (.slc 0 0 l.length none), .c (.slc 1 0 left.length none), .any, .any, .any, i64 (wsum (pwAt l left) i), i64 i] ++ anys 30, H := fun _ => [.ro .cell l, .ro .bool left], ok := fun i => i ≤ l.length, meas := fun i : Nat => l.length - i }
def AtS (l : List Cell) (left : List Bool) (s : Int) (j : Nat) : Prop := rd left j false = false ∧ srt l j = s
def ct_last (l : List Cell) (left : List Bool) (s : Int) : Ct KK := { need := l.length = left.length ∧ i64ok l.length, pre := [.ro .cell l, .ro .bool left], args := [.c (.slc 0 0 l.length none), .c (.slc 1 0 left.length none), i64 s], Y := Int, ok := fun y => (y = -1 ∧ ∀ j, j < l.length → ¬ AtS l left s j) ∨ (∃ i : Nat, y = i ∧ i < l.length ∧ AtS l left s i ∧ ∀ j, i < j → j < l.length → ¬ AtS l left s j), ret := fun y => i64 y, post := fun _ => [.gone, .gone] }
def inv_last (l : List Cell) (left : List Bool) (s : Int) : Inv KK := { X := Nat, fr := fun i => [.c (.slc 0 0 l.length none), .c (.slc 1 0 left.length none), i64 s, .any, .any, .any, .any, i64 ((i : Int) - 1)] ++ anys 22, H := fun _ => [.ro .cell l, .ro .bool left], ok := fun i => i ≤ l.length ∧ ∀ j, i ≤ j → j < l.length → ¬ AtS l left s j, meas := fun i : Nat => i }
theorem vc_grows (c : Cell) : evFn tab12 ann0 Try.f46 (ct_grows c) = ( True ∧ True ∧ Into (K := KK) 0 [] [] [i64 c.take] [Atom.cells 44 [C.str c.path, C.int .i64 c.what, C.int .i64 c.side, C.int .i64 c.mode, C.int .i64 c.keep, C.int .i64 c.take, C.int .i64 c.names, C.int
 .i64 c.bytes, C.int .i64 c.hadN, C.int .i64 c.hadB]] [i64 c.take] [] ∧ ∀ (y : Unit), True → (i64 c.keep = i64 c.keep ∧ True) ∧ True ∧ Into (K := KK) 0 [] [] [i64 c.keep] [Atom.cells 44 [C.str c.path, C.int
 .i64 c.what, C.int .i64 c.side, C.int .i64 c.mode, C.int .i64 c.keep, C.int .i64 c.take, C.int .i64 c.names, C.int .i64 c.bytes, C.int .i64 c.hadN, C.int .i64 c.hadB]] [i64 c.keep] [] ∧ ∀ (y : Unit), True
 → ite2 (decide (max c.take (0 : Int) ≤ max c.keep (0 : Int))) (True ∧ EndsAs 0 (ct_grows c) (i64 (0 : Int)) [Atom.cells 44 [C.str c.path, C.int .i64 c.what, C.int .i64 c.side, C.int .i64 c.mode, C.int
 .i64 c.keep, C.int .i64 c.take, C.int .i64 c.names, C.int .i64 c.bytes, C.int .i64 c.hadN, C.int .i64 c.hadB]]) (True ∧ ite2 (decide (c.what = (3 : Int))) (EndsAs 0 (ct_grows c) (i64 (1 : Int)) [Atom.cells
 44 [C.str c.path, C.int .i64 c.what, C.int .i64 c.side, C.int .i64 c.mode, C.int .i64 c.keep, C.int .i64 c.take, C.int .i64 c.names, C.int .i64 c.bytes, C.int .i64 c.hadN, C.int .i64 c.hadB]]) (ite2 (decide
 (c.what = (1 : Int))) (EndsAs 0 (ct_grows c) (i64 (2 : Int)) [Atom.cells 44 [C.str c.path, C.int .i64 c.what, C.int .i64 c.side, C.int .i64 c.mode, C.int .i64 c.keep, C.int .i64 c.take, C.int .i64 c.names,
 C.int .i64 c.bytes, C.int .i64 c.hadN, C.int .i64 c.hadB]]) (ite2 (decide (c.what = (2 : Int))) (EndsAs 0 (ct_grows c) (i64 (2 : Int)) [Atom.cells 44 [C.str c.path, C.int .i64 c.what, C.int .i64 c.side,
 C.int .i64 c.mode, C.int .i64 c.keep, C.int .i64 c.take, C.int .i64 c.names, C.int .i64 c.bytes, C.int .i64 c.hadN, C.int .i64 c.hadB]]) (ite2 (decide (c.what = (5 : Int))) (EndsAs 0 (ct_grows c) (i64
 (2 : Int)) [Atom.cells 44 [C.str c.path, C.int .i64 c.what, C.int .i64 c.side, C.int .i64 c.mode, C.int .i64 c.keep, C.int .i64 c.take, C.int .i64 c.names, C.int .i64 c.bytes, C.int .i64 c.hadN, C.int
 .i64 c.hadB]]) (EndsAs 0 (ct_grows c) (i64 (0 : Int)) [Atom.cells 44 [C.str c.path, C.int .i64 c.what, C.int .i64 c.side, C.int .i64 c.mode, C.int .i64 c.keep, C.int .i64 c.take, C.int .i64 c.names, C.int
 .i64 c.bytes, C.int .i64 c.hadN, C.int .i64 c.hadB]])))))) := by kernel_rfl
theorem vc_rworst (l : List Cell) (left : List Bool) : evFn tab12 (ann1 (inv_rworst l left)) Try.f40 (ct_rworst l left) = ( Enter (1 + 1) (inv_rworst l left) (fun (x : Nat) => True) [VV.one (V1.c (C.slc 0 0 l.length none)), VV.one (V1.c (C.slc 1 0 left.length none)), VV.any, VV.any, i64 (0 : Int), i64 (0 : Int), i64 (0 : Int),
 VV.any, VV.any, VV.any, VV.any, VV.any, VV.any, VV.any, VV.any, VV.any, VV.any, VV.any, VV.any, VV.any, VV.any, VV.any, VV.any, VV.any, VV.any, VV.any, VV.any, VV.any, VV.any, VV.any, VV.any, VV.any, VV.any,
 VV.any, VV.any, VV.any, VV.any] [Atom.ro Kd.cell l, Atom.ro Kd.bool left] ∧ ∀ (z : Nat), z ≤ l.length → ite2 (decide ((↑z : Int) < (↑l.length : Int))) (((0 : Int) ≤ (↑z : Int) ∧ (↑z : Int) < (↑l.length
 : Int)) ∧ 0 + (↑z : Int).toNat < l.length ∧ True ∧ 0 + (↑z : Int).toNat < l.length ∧ True ∧ Into (K := KK) 0 [] [] [i64 (rd l (0 + (↑z : Int).toNat) (KK.dflt Kd.cell)).keep] [Atom.ro Kd.cell l, Atom.ro
 Kd.bool left] [i64 (rd l (0 + (↑z : Int).toNat) (KK.dflt Kd.cell)).keep] [] ∧ ∀ (y : Unit), True → ((0 : Int) ≤ (↑z : Int) ∧ (↑z : Int) < (↑left.length : Int)) ∧ 0 + (↑z : Int).toNat < left.length ∧ True
 ∧ 0 + (↑z : Int).toNat < left.length ∧ ite2 (rd left (0 + (↑z : Int).toNat) false) ((i64ok (wsum (pwAt l left) z) ∧ i64ok (max (rd l (0 + (↑z : Int).toNat) (KK.dflt Kd.cell)).keep (0 : Int)) ∧ (0 : Int)
 ≤ max (rd l (0 + (↑z : Int).toNat) (KK.dflt Kd.cell)).keep (0 : Int)) ∧ Into (K := KK) 0 [] [] [i64 (wsum (pwAt l left) z), i64 (max (rd l (0 + (↑z : Int).toNat) (KK.dflt Kd.cell)).keep (0 : Int))] [Atom.ro
 Kd.cell l, Atom.ro Kd.bool left] [i64 (wsum (pwAt l left) z), i64 (max (rd l (0 + (↑z : Int).toNat) (KK.dflt Kd.cell)).keep (0 : Int))] [] ∧ ∀ (y : Unit), True → i64ok ((↑z : Int) + (1 : Int)) ∧ Enter
 (1 + 1) (inv_rworst l left) (fun (z' : Nat) => l.length - z' < l.length - z) [VV.one (V1.c (C.slc 0 0 l.length none)), VV.one (V1.c (C.slc 1 0 left.length none)), VV.any, VV.any, VV.any, VV.one (V1.c (C.int
 .i64 (addF (wsum (pwAt l left) z) (max (rd l (0 + (↑z : Int).toNat) (KK.dflt Kd.cell)).keep (0 : Int))))), i64 ((↑z : Int) + (1 : Int)), VV.one (V1.c (C.int .i64 (max (rd l (0 + (↑z : Int).toNat) (KK.dflt
 Kd.cell)).keep (0 : Int)))), i64 (↑z : Int), VV.one (V1.c (C.slc 0 0 l.length none)), i64 (↑l.length : Int), boolv true, i64 (↑z : Int), i64 ((↑z : Int) + (1 : Int)), VV.one (V1.c (C.slc 0 0 l.length none)),
 i64 (↑z : Int), VV.one (V1.c (C.ptr 0 (0 + (↑z : Int).toNat) 0)), VV.one (V1.c (C.ptr 0 (0 + (↑z : Int).toNat) 4)), i64 (rd l (0 + (↑z : Int).toNat) (KK.dflt Kd.cell)).keep, VV.one (V1.c (C.int .i64 (max
 (rd l (0 + (↑z : Int).toNat) (KK.dflt Kd.cell)).keep (0 : Int)))), VV.one (V1.c (C.slc 1 0 left.length none)), i64 (↑z : Int), VV.one (V1.c (C.ptr 1 (0 + (↑z : Int).toNat) 0)), boolv (rd left (0 + (↑z
 : Int).toNat) false), boolv false, VV.any, VV.any, VV.any, VV.any, VV.any, VV.any, VV.any, VV.any, i64 (wsum (pwAt l left) z), VV.one (V1.c (C.int .i64 (max (rd l (0 + (↑z : Int).toNat) (KK.dflt Kd.cell)).keep
 (0 : Int)))), VV.one (V1.c (C.int .i64 (addF (wsum (pwAt l left) z) (max (rd l (0 + (↑z : Int).toNat) (KK.dflt Kd.cell)).keep (0 : Int))))), VV.any] [Atom.ro Kd.cell l, Atom.ro Kd.bool left]) (((0 : Int)
 ≤ (↑z : Int) ∧ (↑z : Int) < (↑l.length : Int)) ∧ 0 + (↑z : Int).toNat < l.length ∧ True ∧ 0 + (↑z : Int).toNat < l.length ∧ True ∧ Into (K := KK) 0 [] [] [i64 (rd l (0 + (↑z : Int).toNat) (KK.dflt Kd.cell)).take]
 [Atom.ro Kd.cell l, Atom.ro Kd.bool left] [i64 (rd l (0 + (↑z : Int).toNat) (KK.dflt Kd.cell)).take] [] ∧ ∀ (y : Unit), True → (i64ok (wsum (pwAt l left) z) ∧ i64ok (max (max (rd l (0 + (↑z : Int).toNat)
 (KK.dflt Kd.cell)).keep (0 : Int)) (max (rd l (0 + (↑z : Int).toNat) (KK.dflt Kd.cell)).take (0 : Int))) ∧ (0 : Int) ≤ max (max (rd l (0 + (↑z : Int).toNat) (KK.dflt Kd.cell)).keep (0 : Int)) (max (rd
 l (0 + (↑z : Int).toNat) (KK.dflt Kd.cell)).take (0 : Int))) ∧ Into (K := KK) 0 [] [] [i64 (wsum (pwAt l left) z), VV.one (V1.c (C.int .i64 (max (max (rd l (0 + (↑z : Int).toNat) (KK.dflt Kd.cell)).keep
 (0 : Int)) (max (rd l (0 + (↑z : Int).toNat) (KK.dflt Kd.cell)).take (0 : Int)))))] [Atom.ro Kd.cell l, Atom.ro Kd.bool left] [i64 (wsum (pwAt l left) z), VV.one (V1.c (C.int .i64 (max (max (rd l (0 +
 (↑z : Int).toNat) (KK.dflt Kd.cell)).keep (0 : Int)) (max (rd l (0 + (↑z : Int).toNat) (KK.dflt Kd.cell)).take (0 : Int)))))] [] ∧ ∀ (y : Unit), True → i64ok ((↑z : Int) + (1 : Int)) ∧ Enter (1 + 1) (inv_rworst
 l left) (fun (z' : Nat) => l.length - z' < l.length - z) [VV.one (V1.c (C.slc 0 0 l.length none)), VV.one (V1.c (C.slc 1 0 left.length none)), VV.any, VV.any, VV.any, VV.one (V1.c (C.int .i64 (addF (wsum
 (pwAt l left) z) (max (max (rd l (0 + (↑z : Int).toNat) (KK.dflt Kd.cell)).keep (0 : Int)) (max (rd l (0 + (↑z : Int).toNat) (KK.dflt Kd.cell)).take (0 : Int)))))), i64 ((↑z : Int) + (1 : Int)), VV.one
 (V1.c (C.int .i64 (max (max (rd l (0 + (↑z : Int).toNat) (KK.dflt Kd.cell)).keep (0 : Int)) (max (rd l (0 + (↑z : Int).toNat) (KK.dflt Kd.cell)).take (0 : Int))))), i64 (↑z : Int), VV.one (V1.c (C.slc
 0 0 l.length none)), i64 (↑l.length : Int), boolv true, i64 (↑z : Int), i64 ((↑z : Int) + (1 : Int)), VV.one (V1.c (C.slc 0 0 l.length none)), i64 (↑z : Int), VV.one (V1.c (C.ptr 0 (0 + (↑z : Int).toNat)
 0)), VV.one (V1.c (C.ptr 0 (0 + (↑z : Int).toNat) 4)), VV.one (V1.c (C.int .i64 (rd l (0 + (↑z : Int).toNat) (KK.dflt Kd.cell)).keep)), VV.one (V1.c (C.int .i64 (max (rd l (0 + (↑z : Int).toNat) (KK.dflt
 Kd.cell)).keep (0 : Int)))), VV.one (V1.c (C.slc 1 0 left.length none)), i64 (↑z : Int), VV.one (V1.c (C.ptr 1 (0 + (↑z : Int).toNat) 0)), boolv (rd left (0 + (↑z : Int).toNat) false), boolv true, VV.one
 (V1.c (C.int .i64 (max (rd l (0 + (↑z : Int).toNat) (KK.dflt Kd.cell)).keep (0 : Int)))), VV.one (V1.c (C.slc 0 0 l.length none)), i64 (↑z : Int), VV.one (V1.c (C.ptr 0 (0 + (↑z : Int).toNat) 0)), VV.one
 (V1.c (C.ptr 0 (0 + (↑z : Int).toNat) 5)), VV.one (V1.c (C.int .i64 (rd l (0 + (↑z : Int).toNat) (KK.dflt Kd.cell)).take)), VV.one (V1.c (C.int .i64 (max (rd l (0 + (↑z : Int).toNat) (KK.dflt Kd.cell)).take
 (0 : Int)))), VV.one (V1.c (C.int .i64 (max (max (rd l (0 + (↑z : Int).toNat) (KK.dflt Kd.cell)).keep (0 : Int)) (max (rd l (0 + (↑z : Int).toNat) (KK.dflt Kd.cell)).take (0 : Int))))), i64 (wsum (pwAt
 l left) z), VV.one (V1.c (C.int .i64 (max (max (rd l (0 + (↑z : Int).toNat) (KK.dflt Kd.cell)).keep (0 : Int)) (max (rd l (0 + (↑z : Int).toNat) (KK.dflt Kd.cell)).take (0 : Int))))), VV.one (V1.c (C.int
 .i64 (addF (wsum (pwAt l left) z) (max (max (rd l (0 + (↑z : Int).toNat) (KK.dflt Kd.cell)).keep (0 : Int)) (max (rd l (0 + (↑z : Int).toNat) (KK.dflt Kd.cell)).take (0 : Int)))))), VV.any] [Atom.ro Kd.cell
 l, Atom.ro Kd.bool left])) (EndsAs (1 + 1) (ct_rworst l left) (i64 (wsum (pwAt l left) z)) [Atom.ro Kd.cell l, Atom.ro Kd.bool left])) := by kernel_rfl
end Go.Proofs.Ytljamcgngojaeaa.T
namespace Go.Proofs.Ytljamcgngojaeaa.T
open Go.Proofs.Ytljamcgngojaeaa.E
set_option maxRecDepth 100000
set_option linter.unusedVariables false
theorem grows_ok (c : Cell) : CtOk Try.prog 46 (ct_grows c) := CtOk_of KK_ok tab12 ann0 (fn := Try.f46) rfl (fun _ _ => rfl) fun _ => by
  rw [vc_grows]
  have fin : ∀ z, z = sortF c → EndsAs 0 (ct_grows c) (i64 z) [.cells 44 [.str c.path, .int .i64 c.what, .int .i64 c.side, .int .i64 c.mode, .int .i64 c.keep, .int .i64 c.take, .int .i64 c.names, .int .i64 c.bytes, .int .i64 c.hadN, .int .i64 c.hadB]] := fun z hq => ⟨(), [], [], trivial, by (repeat' first | exact trivial | exact rfl | exact hq | apply And.intro)⟩
  refine ⟨trivial, trivial, into_mk (by kernel_rfl) (by (repeat' first | exact trivial | exact rfl | apply And.intro)) (by (repeat' first | exact trivial | exact rfl | apply And.intro)), fun _ _ => ⟨⟨rfl, trivial⟩, trivial, into_mk (by kernel_rfl) (by (repeat' first | exact trivial | exact rfl | apply And.intro)) (by (repeat' first | exact trivial | exact rfl | apply And.intro)), fun _ _ => ite2_decide (fun h => ⟨trivial, fin _ ?_⟩) (fun h => ⟨trivial, ite2_decide (fun h3 => fin _ ?_) (fun h3 => ite2_decide (fun h1 => fin _ ?_) (fun h1 => ite2_decide (fun h2 => fin _ ?_) (fun h2 => ite2_decide (fun h5 => fin _ ?_) (fun h5 => fin _ ?_))))⟩)⟩⟩
  · rw [sortF, if_pos h]
  · rw [sortF, if_neg h, if_pos h3]
  · rw [sortF, if_neg h, if_neg h3, if_pos (.inl h1)]
  · rw [sortF, if_neg h, if_neg h3, if_pos (.inr (.inl h2))]
  · rw [sortF, if_neg h, if_neg h3, if_pos (.inr (.inr h5))]
  · rw [sortF, if_neg h, if_neg h3, if_neg (by omega)]
theorem rworst_ok (l : List Cell) (left : List Bool) : CtOk Try.prog 40 (ct_rworst l left) := CtOk_of KK_ok tab12 (ann1 (inv_rworst l left)) (fn := Try.f40) rfl (fun _ _ => rfl) fun hn => by
  obtain ⟨hl, hlen, hi⟩ := hn
  rw [vc_rworst]
  have hw : ∀ i, i64ok (wsum (pwAt l left) i) := wsum_ok fun i => by
    have c := hl.rd i
    have h1 := c.keep
    have h2 := c.take
    unfold pwAt; split <;> (unfold i64ok at *; omega)
  refine ⟨⟨(0 : Nat), [], [0, 1], Nat.zero_le _, trivial, into_mk (by kernel_rfl) (by (repeat' first | exact trivial | exact rfl | apply And.intro)) (by (repeat' first | exact trivial | exact rfl | apply And.intro))⟩, fun z hz => ite2_decide (fun hlt => ?_) (fun hge => ?_)⟩
  · have hz' : z ≤ l.length := hz
    have z1 : (0 : Int) ≤ z ∧ (z : Int) < l.length := by omega
    have z2 : z < l.length := by omega
    have z3 : (0 : Int) ≤ z ∧ (z : Int) < left.length := by omega
    have z4 : z < left.length := by omega
    have hi1 : i64ok ((z : Int) + 1) := by unfold i64ok at *; omega
    have c : (rd l z (KK.dflt Kd.cell)).Ok := hl.rd z
    have hk : i64ok (max (rd l z (KK.dflt Kd.cell)).keep 0) := (max0_ok c.keep).1
    have ht : i64ok (max (max (rd l z (KK.dflt Kd.cell)).keep 0) (max (rd l z (KK.dflt Kd.cell)).take 0)) := max_i64 hk (max0_ok c.take).1
    have k0 : (0 : Int) ≤ max (rd l z (KK.dflt Kd.cell)).keep 0 := by omega
    have t0 : (0 : Int) ≤ max (max (rd l z (KK.dflt Kd.cell)).keep 0) (max (rd l z (KK.dflt Kd.cell)).take 0) := by omega
    simp only [Int.toNat_natCast, Nat.zero_add]
    refine ⟨z1, z2, trivial, z2, trivial, into_mk (by kernel_rfl) (by (repeat' first | exact trivial | exact rfl | apply And.intro)) (by (repeat' first | exact trivial | exact rfl | apply And.intro)), fun _ _ => ⟨z3, z4, trivial, z4, ite2_mk (fun hb => ?_) (fun hb => ?_)⟩⟩
    · have hq : addF (wsum (pwAt l left) z) (max (rd l z (KK.dflt Kd.cell)).keep 0) = wsum (pwAt l left) (z + 1) := by
        rw [wsum_succ]; congr 1; exact (if_pos hb).symm
      refine ⟨⟨hw z, hk, k0⟩, into_mk (by kernel_rfl) (by (repeat' first | exact trivial | exact rfl | apply And.intro)) (by (repeat' first | exact trivial | exact rfl | apply And.intro)), fun _ _ => ⟨hi1, ⟨(z + 1 : Nat), [], [0, 1], z2, by omega, into_mk (by kernel_rfl) (by (repeat' first | exact trivial | exact rfl | exact hq | apply And.intro)) (by (repeat' first | exact trivial | exact rfl | apply And.intro))⟩⟩⟩
    · have hq : addF (wsum (pwAt l left) z) (max (max (rd l z (KK.dflt Kd.cell)).keep 0) (max (rd l z (KK.dflt Kd.cell)).take 0)) = wsum (pwAt l left) (z + 1) := by
        rw [wsum_succ]; congr 1
        refine Eq.trans ?_ (if_neg (by rw [hb]; decide)).symm
        show max (max (rd l z cell0).keep 0) (max (rd l z cell0).take 0) = max (max (rd l z cell0).keep 0) (rd l z cell0).take
        omega
      repeat' first | exact trivial | exact rfl | exact z1 | exact z2 | exact hw z | exact ht | exact t0 | exact hi1 | exact into_mk (by kernel_rfl) (by (repeat' first | exact trivial | exact rfl | apply And.intro)) (by (repeat' first | exact trivial | exact rfl | apply And.intro)) | exact ⟨(z + 1 : Nat), [], [0, 1], z2, by omega, into_mk (by kernel_rfl) (by (repeat' first | exact trivial | exact rfl | exact hq | apply And.intro)) (by (repeat' first | exact trivial | exact rfl | apply And.intro))⟩ | (intro _ _) | apply And.intro
  · have e : z = l.length := by have : z ≤ l.length := hz; omega
    subst e
    exact ⟨(), [], [0, 1], trivial, by (repeat' first | exact trivial | exact rfl | apply And.intro)⟩
def tab13 : Tab Try.prog KK := ⟨mixed, fun f args H => match f, args with
  | 46, [.one (.agg l)] => match KK.dec .cell l with
    | some c => some (ct_grows c, [], [])
    | none => none
  | 40, [.one (.c (.slc n 0 len none)), .one (.c (.slc m 0 len' none))] => match getL .cell (at_ H n), getL .bool (at_ H m) with
    | some a, some b => some (ct_rworst a b, [], [n, m])
    | _, _ => none
  | f, args => tab12.pick f args H, fun f args H ct ks τ h => by
    split at h
    · split at h
      · cases h; exact grows_ok _
      · cases h
    · split at h
      · cases h; exact rworst_ok _ _
      · cases h
    · exact tab12.ok _ _ _ _ _ _ h⟩
theorem vc_last (l : List Cell) (left : List Bool) (s : Int) : evFn tab13 (ann1 (inv_last l left s)) Try.f42 (ct_last l left s) = ( i64ok ((↑l.length : Int) - (1 : Int)) ∧ Enter (1 + 1) (inv_last l left s) (fun (x : Nat) => True) [VV.one (V1.c (C.slc 0 0 l.length none)), VV.one (V1.c (C.slc 1 0 left.length none)), i64 s, VV.any, VV.any,
 VV.any, i64 (0 : Int), i64 ((↑l.length : Int) - (1 : Int)), VV.one (V1.c (C.slc 0 0 l.length none)), i64 (↑l.length : Int), i64 ((↑l.length : Int) - (1 : Int)), VV.any, VV.any, VV.any, VV.any, VV.any,
 VV.any, VV.any, VV.any, VV.any, VV.any, VV.any, VV.any, VV.any, VV.any, VV.any, VV.any, VV.any, VV.any, VV.any] [Atom.ro Kd.cell l, Atom.ro Kd.bool left] ∧ ∀ (z : Nat), (z ≤ l.length ∧ ∀ (j : Nat), z ≤
 j → j < l.length → ¬AtS l left s j) → ite2 (decide ((0 : Int) ≤ (↑z : Int) - (1 : Int))) (((0 : Int) ≤ (↑z : Int) - (1 : Int) ∧ (↑z : Int) - (1 : Int) < (↑left.length : Int)) ∧ 0 + ((↑z : Int) - (1 : Int)).toNat
 < left.length ∧ True ∧ 0 + ((↑z : Int) - (1 : Int)).toNat < left.length ∧ ite2 (rd left (0 + ((↑z : Int) - (1 : Int)).toNat) false) (i64ok ((↑z : Int) - (1 : Int) - (1 : Int)) ∧ Enter (1 + 1) (inv_last
 l left s) (fun (z' : Nat) => z' < z) [VV.one (V1.c (C.slc 0 0 l.length none)), VV.one (V1.c (C.slc 1 0 left.length none)), i64 s, VV.any, VV.any, VV.any, VV.any, i64 ((↑z : Int) - (1 : Int) - (1 : Int)),
 VV.any, VV.any, VV.any, i64 ((↑z : Int) - (1 : Int)), boolv true, i64 ((↑z : Int) - (1 : Int)), i64 ((↑z : Int) - (1 : Int) - (1 : Int)), VV.one (V1.c (C.slc 1 0 left.length none)), i64 ((↑z : Int) - (1
 : Int)), VV.one (V1.c (C.ptr 1 (0 + ((↑z : Int) - (1 : Int)).toNat) 0)), boolv (rd left (0 + ((↑z : Int) - (1 : Int)).toNat) false), boolv false, boolv false, VV.tup [], VV.tup [], VV.tup [], VV.tup [],
 VV.tup [], VV.tup [], VV.tup [], boolv false, VV.any] [Atom.ro Kd.cell l, Atom.ro Kd.bool left]) (((0 : Int) ≤ (↑z : Int) - (1 : Int) ∧ (↑z : Int) - (1 : Int) < (↑l.length : Int)) ∧ 0 + ((↑z : Int) - (1
 : Int)).toNat < l.length ∧ True ∧ 0 + ((↑z : Int) - (1 : Int)).toNat < l.length ∧ True ∧ Into (K := KK) 0 [] [] [VV.one (V1.agg [C.str (rd l (0 + ((↑z : Int) - (1 : Int)).toNat) (KK.dflt Kd.cell)).path,
 C.int .i64 (rd l (0 + ((↑z : Int) - (1 : Int)).toNat) (KK.dflt Kd.cell)).what, C.int .i64 (rd l (0 + ((↑z : Int) - (1 : Int)).toNat) (KK.dflt Kd.cell)).side, C.int .i64 (rd l (0 + ((↑z : Int) - (1 : Int)).toNat)
 (KK.dflt Kd.cell)).mode, C.int .i64 (rd l (0 + ((↑z : Int) - (1 : Int)).toNat) (KK.dflt Kd.cell)).keep, C.int .i64 (rd l (0 + ((↑z : Int) - (1 : Int)).toNat) (KK.dflt Kd.cell)).take, C.int .i64 (rd l (0
 + ((↑z : Int) - (1 : Int)).toNat) (KK.dflt Kd.cell)).names, C.int .i64 (rd l (0 + ((↑z : Int) - (1 : Int)).toNat) (KK.dflt Kd.cell)).bytes, C.int .i64 (rd l (0 + ((↑z : Int) - (1 : Int)).toNat) (KK.dflt
 Kd.cell)).hadN, C.int .i64 (rd l (0 + ((↑z : Int) - (1 : Int)).toNat) (KK.dflt Kd.cell)).hadB])] [Atom.ro Kd.cell l, Atom.ro Kd.bool left] [VV.one (V1.agg [C.str (rd l (0 + ((↑z : Int) - (1 : Int)).toNat)
 (KK.dflt Kd.cell)).path, C.int .i64 (rd l (0 + ((↑z : Int) - (1 : Int)).toNat) (KK.dflt Kd.cell)).what, C.int .i64 (rd l (0 + ((↑z : Int) - (1 : Int)).toNat) (KK.dflt Kd.cell)).side, C.int .i64 (rd l (0
 + ((↑z : Int) - (1 : Int)).toNat) (KK.dflt Kd.cell)).mode, C.int .i64 (rd l (0 + ((↑z : Int) - (1 : Int)).toNat) (KK.dflt Kd.cell)).keep, C.int .i64 (rd l (0 + ((↑z : Int) - (1 : Int)).toNat) (KK.dflt
 Kd.cell)).take, C.int .i64 (rd l (0 + ((↑z : Int) - (1 : Int)).toNat) (KK.dflt Kd.cell)).names, C.int .i64 (rd l (0 + ((↑z : Int) - (1 : Int)).toNat) (KK.dflt Kd.cell)).bytes, C.int .i64 (rd l (0 + ((↑z
 : Int) - (1 : Int)).toNat) (KK.dflt Kd.cell)).hadN, C.int .i64 (rd l (0 + ((↑z : Int) - (1 : Int)).toNat) (KK.dflt Kd.cell)).hadB])] [] ∧ ∀ (y : Unit), True → ite2 (decide (sortF (Cell.mk ((rd l (0 + ((↑z
 : Int) - (1 : Int)).toNat) (KK.dflt Kd.cell)).path) ((rd l (0 + ((↑z : Int) - (1 : Int)).toNat) (KK.dflt Kd.cell)).what) ((rd l (0 + ((↑z : Int) - (1 : Int)).toNat) (KK.dflt Kd.cell)).side) ((rd l (0 +
 ((↑z : Int) - (1 : Int)).toNat) (KK.dflt Kd.cell)).mode) ((rd l (0 + ((↑z : Int) - (1 : Int)).toNat) (KK.dflt Kd.cell)).keep) ((rd l (0 + ((↑z : Int) - (1 : Int)).toNat) (KK.dflt Kd.cell)).take) ((rd l
 (0 + ((↑z : Int) - (1 : Int)).toNat) (KK.dflt Kd.cell)).names) ((rd l (0 + ((↑z : Int) - (1 : Int)).toNat) (KK.dflt Kd.cell)).bytes) ((rd l (0 + ((↑z : Int) - (1 : Int)).toNat) (KK.dflt Kd.cell)).hadN)
 ((rd l (0 + ((↑z : Int) - (1 : Int)).toNat) (KK.dflt Kd.cell)).hadB)) = s)) (EndsAs (1 + 1) (ct_last l left s) (i64 ((↑z : Int) - (1 : Int))) [Atom.ro Kd.cell l, Atom.ro Kd.bool left]) (i64ok ((↑z : Int)
 - (1 : Int) - (1 : Int)) ∧ Enter (1 + 1) (inv_last l left s) (fun (z' : Nat) => z' < z) [VV.one (V1.c (C.slc 0 0 l.length none)), VV.one (V1.c (C.slc 1 0 left.length none)), i64 s, VV.any, VV.any, VV.any,
 VV.any, i64 ((↑z : Int) - (1 : Int) - (1 : Int)), VV.any, VV.any, VV.any, i64 ((↑z : Int) - (1 : Int)), boolv true, i64 ((↑z : Int) - (1 : Int)), i64 ((↑z : Int) - (1 : Int) - (1 : Int)), VV.one (V1.c
 (C.slc 1 0 left.length none)), i64 ((↑z : Int) - (1 : Int)), VV.one (V1.c (C.ptr 1 (0 + ((↑z : Int) - (1 : Int)).toNat) 0)), boolv (rd left (0 + ((↑z : Int) - (1 : Int)).toNat) false), boolv true, boolv
 true, VV.one (V1.c (C.slc 0 0 l.length none)), i64 ((↑z : Int) - (1 : Int)), VV.one (V1.c (C.ptr 0 (0 + ((↑z : Int) - (1 : Int)).toNat) 0)), VV.one (V1.agg [C.str (rd l (0 + ((↑z : Int) - (1 : Int)).toNat)
 (KK.dflt Kd.cell)).path, C.int .i64 (rd l (0 + ((↑z : Int) - (1 : Int)).toNat) (KK.dflt Kd.cell)).what, C.int .i64 (rd l (0 + ((↑z : Int) - (1 : Int)).toNat) (KK.dflt Kd.cell)).side, C.int .i64 (rd l (0
 + ((↑z : Int) - (1 : Int)).toNat) (KK.dflt Kd.cell)).mode, C.int .i64 (rd l (0 + ((↑z : Int) - (1 : Int)).toNat) (KK.dflt Kd.cell)).keep, C.int .i64 (rd l (0 + ((↑z : Int) - (1 : Int)).toNat) (KK.dflt
 Kd.cell)).take, C.int .i64 (rd l (0 + ((↑z : Int) - (1 : Int)).toNat) (KK.dflt Kd.cell)).names, C.int .i64 (rd l (0 + ((↑z : Int) - (1 : Int)).toNat) (KK.dflt Kd.cell)).bytes, C.int .i64 (rd l (0 + ((↑z
 : Int) - (1 : Int)).toNat) (KK.dflt Kd.cell)).hadN, C.int .i64 (rd l (0 + ((↑z : Int) - (1 : Int)).toNat) (KK.dflt Kd.cell)).hadB]), VV.one (V1.c (C.int .i64 (sortF (Cell.mk ((rd l (0 + ((↑z : Int) - (1
 : Int)).toNat) (KK.dflt Kd.cell)).path) ((rd l (0 + ((↑z : Int) - (1 : Int)).toNat) (KK.dflt Kd.cell)).what) ((rd l (0 + ((↑z : Int) - (1 : Int)).toNat) (KK.dflt Kd.cell)).side) ((rd l (0 + ((↑z : Int)
 - (1 : Int)).toNat) (KK.dflt Kd.cell)).mode) ((rd l (0 + ((↑z : Int) - (1 : Int)).toNat) (KK.dflt Kd.cell)).keep) ((rd l (0 + ((↑z : Int) - (1 : Int)).toNat) (KK.dflt Kd.cell)).take) ((rd l (0 + ((↑z :
 Int) - (1 : Int)).toNat) (KK.dflt Kd.cell)).names) ((rd l (0 + ((↑z : Int) - (1 : Int)).toNat) (KK.dflt Kd.cell)).bytes) ((rd l (0 + ((↑z : Int) - (1 : Int)).toNat) (KK.dflt Kd.cell)).hadN) ((rd l (0 +
 ((↑z : Int) - (1 : Int)).toNat) (KK.dflt Kd.cell)).hadB))))), i64 s, boolv false, boolv false, VV.any] [Atom.ro Kd.cell l, Atom.ro Kd.bool left]))) (EndsAs (1 + 1) (ct_last l left s) (i64 (-1 : Int)) [Atom.ro
 Kd.cell l, Atom.ro Kd.bool left])) := by kernel_rfl
end Go.Proofs.Ytljamcgngojaeaa.T
