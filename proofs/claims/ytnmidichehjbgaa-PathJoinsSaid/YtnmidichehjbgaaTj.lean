/- The law's few; lengths of what is joined. -/
import Derived.Test.YtnmidichehjbgaaTc
import Derived.Test.YtnmidichehjbgaaTd
namespace Go.Proofs.Ytnmidichehjbgaa.T
open Go.Proofs.Ytnmidichehjbgaa.E
set_option maxRecDepth 100000
set_option linter.unusedVariables false
def tab6 : Tab Try.prog KK := ⟨mixed, fun f args H => match f, args with
  | 11, [.one (.c (.ptr n 0 0)), .one (.c (.slc m 0 _ none))] => match at_ H n, at_ H m with
    | .cells _ [.int _ x], .ro .str l => some (ct_ctexts x l, [], [n, m])
    | _, _ => none
  | f, args => tab1.pick f args H, fun f args H ct ks τ h => by
    split at h
    · split at h
      · cases h; exact ctexts_ok _ _
      · cases h
    · exact tab1.ok _ _ _ _ _ _ h⟩
def ct_few (l : List ByteArray) : Ct KK := { need := i64ok l.length ∧ (∀ s ∈ l, s.size ≤ 9223372036854775807), pre := [.ro .str l], args := [.c (.slc 0 0 l.length none)], Y := Bool, ok := fun y => y = true → parts l ≤ 30000, ret := fun y => boolv y, post := fun _ => [.gone] }
theorem vc_few (l : List ByteArray) : evFn tab6 ann0 Try.f4 (ct_few l) = ( True ∧ Into (K := KK) 0 [] [] [i64 (30000 : Int)] [Atom.ro Kd.str l] [i64 (30000 : Int)] [] ∧ ∀ (y : Unit), True → ((0 : Int) ≤ (30000 : Int) ∧ (30000 : Int) ≤ (1000000 : Int) ∧ i64ok (↑l.length : Int)
 ∧ ∀ (s : ByteArray), List.Mem s l → s.size ≤ 9223372036854775807) ∧ Into (K := KK) 0 [] [1, 0] [VV.one (V1.c (C.ptr 1 0 0)), VV.one (V1.c (C.slc 0 0 l.length none))] [Atom.ro Kd.str l, Atom.cells 51 [C.int
 .i64 (30000 : Int)]] [VV.one (V1.c (C.ptr 0 0 0)), VV.one (V1.c (C.slc 1 0 l.length none))] [Atom.cells 51 [C.int .i64 (30000 : Int)], Atom.ro Kd.str l] ∧ ∀ (y : Int), ((0 : Int) ≤ y → (↑(parts l) : Int)
 ≤ (30000 : Int)) → True ∧ Into (K := KK) 0 [] [1] [VV.one (V1.c (C.ptr 1 0 0))] [Atom.ro Kd.str l, Atom.cells 51 [C.int .i64 y]] [VV.one (V1.c (C.ptr 0 0 0))] [Atom.cells 51 [C.int .i64 y]] ∧ ∀ (y_1 :
 Unit), True → EndsAs 1 (ct_few l) (boolv (decide ((0 : Int) ≤ y))) [Atom.ro Kd.str l, Atom.cells 51 [C.int .i64 y]]) := by kernel_rfl
theorem few_ok (l : List ByteArray) : CtOk Try.prog 4 (ct_few l) := CtOk_of KK_ok tab6 ann0 (fn := Try.f4) rfl (fun _ _ => rfl) fun hn => by
  obtain ⟨h1, h2⟩ := hn
  rw [vc_few]
  refine ⟨trivial, into_mk (by kernel_rfl) (by (repeat' first | exact trivial | exact rfl | apply And.intro)) (by (repeat' first | exact trivial | exact rfl | apply And.intro)), fun _ _ => ⟨⟨by omega, by omega, h1, h2⟩, into_mk (by kernel_rfl) (by (repeat' first | exact trivial | exact rfl | apply And.intro)) (by (repeat' first | exact trivial | exact rfl | apply And.intro)), fun y hy => ⟨trivial, into_mk (by kernel_rfl) (by (repeat' first | exact trivial | exact rfl | apply And.intro)) (by (repeat' first | exact trivial | exact rfl | apply And.intro)), fun _ _ => ⟨decide (0 ≤ y), [], [0], fun h => ?_, by (repeat' first | exact trivial | exact rfl | apply And.intro)⟩⟩⟩⟩
  have := hy (of_decide_eq_true h)
  omega
theorem joinB_parts (l : List ByteArray) : ∀ i, i ≤ l.length → (joinB (l.take i)).size ≤ parts (l.take i)
  | 0, _ => by simp [joinB]
  | i + 1, h => by
    have h1 := joinB_parts l i (by omega)
    have h2 := joinB_le l i h
    rw [parts_succ l i h, ← h2]
    split <;> omega
theorem joinB_sz (l : List ByteArray) : (joinB l).size ≤ parts l := by
  have := joinB_parts l l.length (Nat.le_refl _)
  rwa [List.take_length] at this
theorem parts_len (l : List ByteArray) : l.length ≤ parts l := by
  induction l with
  | nil => simp
  | cons x t ih => simp [parts] at *; omega
def ext_ : ByteArray := ⟨#[47, 120]⟩
theorem parts_ext (l : List ByteArray) : parts (l.map (fun s => s ++ ext_)) = parts l + 2 * l.length := by
  induction l with
  | nil => simp [parts]
  | cons x t ih =>
    have h1 : (x ++ ext_).size = x.size + 2 := by
      have : (x ++ ext_).size = x.size + ext_.size := ByteArray.size_append
      rw [this]; rfl
    simp [parts] at *
    rw [h1]; omega
theorem parts_mem (l : List ByteArray) (i : Nat) (h : i < l.length) : (rd l i .empty).size ≤ parts l := by
  have h1 := parts_succ l i h
  have h2 : ∀ n, parts (l.take n) ≤ parts l := fun n => by
    have e : parts l = parts (l.take n) + parts (l.drop n) := by
      unfold parts
      rw [← List.sum_append, ← List.map_append, List.take_append_drop]
    omega
  have := h2 (i + 1)
  omega
end Go.Proofs.Ytnmidichehjbgaa.T
