/- The room: texts are counted. -/
import Derived.Test.YtnmidichehjbgaaTa
namespace Go.Proofs.Ytnmidichehjbgaa.T
open Go.Proofs.Ytnmidichehjbgaa.E
set_option maxRecDepth 100000
set_option linter.unusedVariables false
def ct_ctext (x : Int) (s : ByteArray) : Ct KK := { need := i64ok x ∧ x ≤ 1000000 ∧ -9223372036854775807 ≤ x ∧ s.size ≤ 9223372036854775807, pre := [.cells 51 [.int .i64 x]], args := [.c (.ptr 0 0 0), .c (.str s)], Y := Unit, ok := fun _ => True, ret := fun _ => .tup [], post := fun _ => [.cells 51 [.int .i64 (cAdd (cAdd x 1) s.size)]] }
theorem vc_ctext (x : Int) (s : ByteArray) : evFn tab1 ann0 Try.f28 (ct_ctext x s) = ( (i64ok x ∧ i64ok (1 : Int) ∧ (0 : Int) ≤ (1 : Int)) ∧ Into (K := KK) 0 [] [0] [VV.one (V1.c (C.ptr 0 0 0)), i64 (1 : Int)] [Atom.cells 51 [C.int .i64 x]] [VV.one (V1.c (C.ptr 0 0 0)), i64 (1 : Int)] [Atom.cells
 51 [C.int .i64 x]] ∧ ∀ (y : Unit), True → (i64ok (cAdd x (1 : Int)) ∧ i64ok (↑s.size : Int) ∧ (0 : Int) ≤ (↑s.size : Int)) ∧ Into (K := KK) 0 [] [0] [VV.one (V1.c (C.ptr 0 0 0)), i64 (↑s.size : Int)] [Atom.cells
 51 [C.int .i64 (cAdd x (1 : Int))]] [VV.one (V1.c (C.ptr 0 0 0)), i64 (↑s.size : Int)] [Atom.cells 51 [C.int .i64 (cAdd x (1 : Int))]] ∧ ∀ (y : Unit), True → EndsAs 1 (ct_ctext x s) (VV.tup []) [Atom.cells
 51 [C.int .i64 (cAdd (cAdd x (1 : Int)) (↑s.size : Int))]]) := by kernel_rfl
theorem ctext_ok (x : Int) (s : ByteArray) : CtOk Try.prog 28 (ct_ctext x s) := CtOk_of KK_ok tab1 ann0 (fn := Try.f28) rfl (fun _ _ => rfl) fun hn => by
  obtain ⟨h1, h2, h3, h4⟩ := hn
  rw [vc_ctext]
  have hc : i64ok (cAdd x 1) := by unfold cAdd i64ok at *; split <;> omega
  refine ⟨⟨h1, by unfold i64ok; omega, by omega⟩, into_mk (by kernel_rfl) (by (repeat' first | exact trivial | exact rfl | apply And.intro)) (by (repeat' first | exact trivial | exact rfl | apply And.intro)), fun _ _ => ⟨⟨hc, by unfold i64ok; omega, by omega⟩, into_mk (by kernel_rfl) (by (repeat' first | exact trivial | exact rfl | apply And.intro)) (by (repeat' first | exact trivial | exact rfl | apply And.intro)), fun _ _ => ⟨(), [], [0], trivial, by (repeat' first | exact trivial | exact rfl | apply And.intro)⟩⟩⟩
def tab2 : Tab Try.prog KK := ⟨mixed, fun f args H => match f, args with
  | 28, [.one (.c (.ptr n _ _)), .one (.c (.str s))] => match at_ H n with
    | .cells _ [.int _ x] => some (ct_ctext x s, [], [n])
    | _ => none
  | f, args => tab1.pick f args H, fun f args H ct ks τ h => by
    split at h
    · split at h
      · cases h; exact ctext_ok _ _
      · cases h
    · exact tab1.ok _ _ _ _ _ _ h⟩
end Go.Proofs.Ytnmidichehjbgaa.T
