/- The room: a count; the marks. -/
import Derived.Test.YtnmidichehjbgaaTK
namespace Go.Proofs.Ytnmidichehjbgaa.T
open Go.Proofs.Ytnmidichehjbgaa.E
set_option maxRecDepth 100000
set_option linter.unusedVariables false
def one_ : ByteArray := ⟨#[60, 111, 110, 101, 62]⟩
def two_ : ByteArray := ⟨#[60, 116, 119, 111, 62]⟩
def wordF (i : Int) : ByteArray := if Int.tmod i 2 = 0 then one_ else two_
def ct_word (i : Int) : Ct KK := { need := True, pre := [], args := [i64 i], Y := Unit, ok := fun _ => True, ret := fun _ => .c (.str (wordF i)), post := fun _ => [] }
def cAdd (x n : Int) : Int := if 0 ≤ x then x - n else x
def ct_many (x : Int) : Ct KK := { need := True, pre := [], args := [i64 x], Y := Unit, ok := fun _ => True, ret := fun _ => .c (.ptr 0 0 0), post := fun _ => [.cells 51 [.int .i64 x]] }
def ct_cok (x : Int) : Ct KK := { need := True, pre := [.cells 51 [.int .i64 x]], args := [.c (.ptr 0 0 0)], Y := Unit, ok := fun _ => True, ret := fun _ => boolv (decide (0 ≤ x)), post := fun _ => [.cells 51 [.int .i64 x]] }
def ct_cadd (x n : Int) : Ct KK := { need := i64ok x ∧ i64ok n ∧ 0 ≤ n, pre := [.cells 51 [.int .i64 x]], args := [.c (.ptr 0 0 0), i64 n], Y := Unit, ok := fun _ => True, ret := fun _ => boolv (decide (0 ≤ cAdd x n)), post := fun _ => [.cells 51 [.int .i64 (cAdd x n)]] }
theorem vc_word (i : Int) : evFn tab0 ann0 Try.f29 (ct_word i) = ( (2 : Int) ≠ (0 : Int) ∧ ite2 (decide (i.tmod (2 : Int) = (0 : Int))) (EndsAs 0 (ct_word i) (VV.one (V1.c (C.str (ByteArray.mk (#[(60 : UInt8), (111 : UInt8), (110 : UInt8), (101 : UInt8), (62 : UInt8)])))))
 []) (EndsAs 0 (ct_word i) (VV.one (V1.c (C.str (ByteArray.mk (#[(60 : UInt8), (116 : UInt8), (119 : UInt8), (111 : UInt8), (62 : UInt8)]))))) [])) := by kernel_rfl
theorem vc_many (x : Int) : evFn tab0 ann0 Try.f10 (ct_many x) = ( EndsAs 0 (ct_many x) (VV.one (V1.c (C.ptr 0 0 0))) [Atom.cells 51 [C.int .i64 x]]) := by kernel_rfl
theorem vc_cok (x : Int) : evFn tab0 ann0 Try.f12 (ct_cok x) = ( ite2 (decide ((0 : Int) ≤ x)) (EndsAs 1 (ct_cok x) (boolv true) [Atom.cells 51 [C.int .i64 x]]) (EndsAs 1 (ct_cok x) (boolv false) [Atom.cells 51 [C.int .i64 x]])) := by kernel_rfl
theorem vc_cadd (x n : Int) : evFn tab0 ann0 Try.f34 (ct_cadd x n) = ( ite2 (decide ((0 : Int) ≤ x)) (i64ok (x - n) ∧ ite2 (decide ((0 : Int) ≤ x - n)) (EndsAs 1 (ct_cadd x n) (boolv true) [Atom.cells 51 [C.int .i64 (x - n)]]) (EndsAs 1 (ct_cadd x n) (boolv false) [Atom.cells
 51 [C.int .i64 (x - n)]])) (ite2 (decide ((0 : Int) ≤ x)) (EndsAs 1 (ct_cadd x n) (boolv true) [Atom.cells 51 [C.int .i64 x]]) (EndsAs 1 (ct_cadd x n) (boolv false) [Atom.cells 51 [C.int .i64 x]]))) := by kernel_rfl
theorem word_ok (i : Int) : CtOk Try.prog 29 (ct_word i) := CtOk_of KK_ok tab0 ann0 (fn := Try.f29) rfl (fun _ _ => rfl) fun hn => by
  rw [vc_word]
  refine ⟨by decide, ite2_decide (fun h => ?_) (fun h => ?_)⟩
  · exact ⟨(), [], [], trivial, ⟨⟨show one_ = wordF i by rw [wordF, if_pos h], trivial⟩, trivial⟩⟩
  · exact ⟨(), [], [], trivial, ⟨⟨show two_ = wordF i by rw [wordF, if_neg h], trivial⟩, trivial⟩⟩
theorem many_ok (x : Int) : CtOk Try.prog 10 (ct_many x) := CtOk_of KK_ok tab0 ann0 (fn := Try.f10) rfl (fun _ _ => rfl) fun hn => by
  rw [vc_many]
  exact ⟨(), [], [0], trivial, by (repeat' first | exact trivial | exact rfl | apply And.intro)⟩
theorem cok_ok (x : Int) : CtOk Try.prog 12 (ct_cok x) := CtOk_of KK_ok tab0 ann0 (fn := Try.f12) rfl (fun _ _ => rfl) fun hn => by
  rw [vc_cok]
  refine ite2_decide (fun h => ?_) (fun h => ?_)
  · exact ⟨(), [], [0], trivial, by
      have e := h
      (repeat' first | exact trivial | exact rfl | (show _ = decide (0 ≤ x); simp [e]; done) | apply And.intro)⟩
  · exact ⟨(), [], [0], trivial, by
      have e := h
      (repeat' first | exact trivial | exact rfl | (show _ = decide (0 ≤ x); simp [e]; done) | apply And.intro)⟩
theorem cadd_ok (x n : Int) : CtOk Try.prog 34 (ct_cadd x n) := CtOk_of KK_ok tab0 ann0 (fn := Try.f34) rfl (fun _ _ => rfl) fun hn => by
  obtain ⟨hx, hn, h0⟩ := hn
  rw [vc_cadd]
  have e : ∀ (b : Bool) (y : Int), y = cAdd x n → b = decide (0 ≤ cAdd x n) → EndsAs 1 (ct_cadd x n) (boolv b) [Atom.cells 51 [C.int .i64 y]] := fun b y hy hb => by
    subst hy hb
    exact ⟨(), [], [0], trivial, by (repeat' first | exact trivial | exact rfl | apply And.intro)⟩
  refine ite2_decide (fun h => ⟨by unfold i64ok at *; omega, ite2_decide (fun h1 => ?_) (fun h1 => ?_)⟩) (fun h => ite2_decide (fun h1 => absurd h1 h) (fun h1 => ?_))
  · exact e _ _ (by rw [cAdd, if_pos h]) (by rw [cAdd, if_pos h]; exact (decide_eq_true h1).symm)
  · exact e _ _ (by rw [cAdd, if_pos h]) (by rw [cAdd, if_pos h]; exact (decide_eq_false h1).symm)
  · exact e _ _ (by rw [cAdd, if_neg h]) (by rw [cAdd, if_neg h]; simp [h1])
def tab1 : Tab Try.prog KK := ⟨mixed, fun f args H => match f, args with
  | 29, [.one (.c (.int _ i))] => some (ct_word i, [], [])
  | 10, [.one (.c (.int _ i))] => some (ct_many i, [], [])
  | 12, [.one (.c (.ptr n _ _))] => match at_ H n with
    | .cells _ [.int _ x] => some (ct_cok x, [], [n])
    | _ => none
  | 34, [.one (.c (.ptr n _ _)), .one (.c (.int _ m))] => match at_ H n with
    | .cells _ [.int _ x] => some (ct_cadd x m, [], [n])
    | _ => none
  | _, _ => none, fun f args H ct ks τ h => by
    split at h
    · cases h; exact word_ok _
    · cases h; exact many_ok _
    · split at h
      · cases h; exact cok_ok _
      · cases h
    · split at h
      · cases h; exact cadd_ok _ _
      · cases h
    · cases h⟩
end Go.Proofs.Ytnmidichehjbgaa.T
