/- The plan: the small functions. -/
import Derived.Test.YtljamcgngojaeaaPK
namespace Go.Proofs.Ytljamcgngojaeaa.T
open Go.Proofs.Ytljamcgngojaeaa.E
set_option maxRecDepth 100000
set_option linter.unusedVariables false
def addF (a b : Int) : Int := if 9223372036854775807 < a + b then 9223372036854775807 else if a + b < -9223372036854775808 then -9223372036854775808 else a + b
def ct_add (a b : Int) : Ct KK := { need := i64ok a ∧ i64ok b, pre := [], args := [i64 a, i64 b], Y := Unit, ok := fun _ => True, ret := fun _ => i64 (addF a b), post := fun _ => [] }
def smallF (n : Int) : Int := if Int.tmod n 1099511627776 < 0 then - Int.tmod n 1099511627776 else Int.tmod n 1099511627776
def ct_small (n : Int) : Ct KK := { need := i64ok n, pre := [], args := [i64 n], Y := Unit, ok := fun _ => True, ret := fun _ => i64 (smallF n), post := fun _ => [] }
def sortF (c : Cell) : Int := if max c.take 0 ≤ max c.keep 0 then 0 else if c.what = 3 then 1 else if c.what = 1 ∨ c.what = 2 ∨ c.what = 5 then 2 else 0
def ct_sort (c : Cell) : Ct KK := { need := True, pre := [], args := [.agg (KK.enc .cell c)], Y := Unit, ok := fun _ => True, ret := fun _ => i64 (sortF c), post := fun _ => [] }
theorem vc_add (a b : Int) : evFn tab0 ann0 Try.f39 (ct_add a b) = ( ite2 (decide ((0 : Int) < b)) (i64ok ((9223372036854775807 : Int) - b) ∧ ite2 (decide ((9223372036854775807 : Int) - b < a)) (EndsAs 0 (ct_add a b) (i64 (9223372036854775807 : Int)) []) (ite2 (decide
 (b < (0 : Int))) (i64ok ((-9223372036854775808 : Int) - b) ∧ ite2 (decide (a < (-9223372036854775808 : Int) - b)) (EndsAs 0 (ct_add a b) (i64 (-9223372036854775808 : Int)) []) (i64ok (a + b) ∧ EndsAs 0
 (ct_add a b) (i64 (a + b)) [])) (i64ok (a + b) ∧ EndsAs 0 (ct_add a b) (i64 (a + b)) []))) (ite2 (decide (b < (0 : Int))) (i64ok ((-9223372036854775808 : Int) - b) ∧ ite2 (decide (a < (-9223372036854775808
 : Int) - b)) (EndsAs 0 (ct_add a b) (i64 (-9223372036854775808 : Int)) []) (i64ok (a + b) ∧ EndsAs 0 (ct_add a b) (i64 (a + b)) [])) (i64ok (a + b) ∧ EndsAs 0 (ct_add a b) (i64 (a + b)) []))) := by kernel_rfl
theorem vc_small (n : Int) : evFn tab0 ann0 Try.f28 (ct_small n) = ( (1099511627776 : Int) ≠ (0 : Int) ∧ ite2 (decide (n.tmod (1099511627776 : Int) < (0 : Int))) (i64ok ((0 : Int) - n.tmod (1099511627776 : Int)) ∧ EndsAs 0 (ct_small n) (i64 ((0 : Int) - n.tmod (1099511627776
 : Int))) []) (EndsAs 0 (ct_small n) (i64 (n.tmod (1099511627776 : Int))) [])) := by kernel_rfl
theorem vc_sort (c : Cell) : evFn tab0 ann0 Try.f36 (ct_sort c) = ( ite2 (decide (max c.take (0 : Int) ≤ max c.keep (0 : Int))) (EndsAs 0 (ct_sort c) (i64 (0 : Int)) [Atom.cells 44 [C.str c.path, C.int .i64 c.what, C.int .i64 c.side, C.int .i64 c.mode, C.int .i64 c.keep,
 C.int .i64 c.take, C.int .i64 c.names, C.int .i64 c.bytes, C.int .i64 c.hadN, C.int .i64 c.hadB]]) (ite2 (decide (c.what = (3 : Int))) (EndsAs 0 (ct_sort c) (i64 (1 : Int)) [Atom.cells 44 [C.str c.path,
 C.int .i64 c.what, C.int .i64 c.side, C.int .i64 c.mode, C.int .i64 c.keep, C.int .i64 c.take, C.int .i64 c.names, C.int .i64 c.bytes, C.int .i64 c.hadN, C.int .i64 c.hadB]]) (ite2 (decide (c.what = (1
 : Int))) (EndsAs 0 (ct_sort c) (i64 (2 : Int)) [Atom.cells 44 [C.str c.path, C.int .i64 c.what, C.int .i64 c.side, C.int .i64 c.mode, C.int .i64 c.keep, C.int .i64 c.take, C.int .i64 c.names, C.int .i64
 c.bytes, C.int .i64 c.hadN, C.int .i64 c.hadB]]) (ite2 (decide (c.what = (2 : Int))) (EndsAs 0 (ct_sort c) (i64 (2 : Int)) [Atom.cells 44 [C.str c.path, C.int .i64 c.what, C.int .i64 c.side, C.int .i64
 c.mode, C.int .i64 c.keep, C.int .i64 c.take, C.int .i64 c.names, C.int .i64 c.bytes, C.int .i64 c.hadN, C.int .i64 c.hadB]]) (ite2 (decide (c.what = (5 : Int))) (EndsAs 0 (ct_sort c) (i64 (2 : Int)) [Atom.cells
 44 [C.str c.path, C.int .i64 c.what, C.int .i64 c.side, C.int .i64 c.mode, C.int .i64 c.keep, C.int .i64 c.take, C.int .i64 c.names, C.int .i64 c.bytes, C.int .i64 c.hadN, C.int .i64 c.hadB]]) (EndsAs
 0 (ct_sort c) (i64 (0 : Int)) [Atom.cells 44 [C.str c.path, C.int .i64 c.what, C.int .i64 c.side, C.int .i64 c.mode, C.int .i64 c.keep, C.int .i64 c.take, C.int .i64 c.names, C.int .i64 c.bytes, C.int
 .i64 c.hadN, C.int .i64 c.hadB]])))))) := by kernel_rfl
theorem ends_i64 {N0 : Nat} {ct : Ct KK} {n m : Int} {H : VH KK} (y : ct.Y) (hok : ct.ok y) (hr : ct.ret y = i64 m) (hp : ct.post y = []) (h0 : N0 = 0) (h : n = m) : EndsAs N0 ct (i64 n) H := by
  subst h0 h
  refine ⟨y, [], [], hok, ?_⟩
  rw [hr, hp]
  exact ⟨⟨rfl, trivial⟩, trivial⟩
theorem enter39 : ∀ args w, (callFunc 39 args).run Try.prog w = .ok (.enter 39 args) w := fun _ _ => rfl
theorem add_ok (a b : Int) : CtOk Try.prog 39 (ct_add a b) := CtOk_of KK_ok tab0 ann0 (fn := Try.f39) rfl (fun _ _ => rfl) fun hn => by
  obtain ⟨ha, hb⟩ := hn
  rw [vc_add]
  unfold i64ok at *
  have e : ∀ x, x = addF a b → EndsAs 0 (ct_add a b) (i64 x) [] := fun x hx => ends_i64 () trivial rfl rfl rfl hx
  refine ite2_decide (fun h1 => ⟨?_, ite2_decide (fun h2 => ?_) (fun h2 => ite2_decide (fun h3 => ⟨?_, ?_⟩) (fun h3 => ⟨?_, ?_⟩))⟩) (fun h1 => ite2_decide (fun h2 => ⟨?_, ite2_decide (fun h3 => ?_) (fun h3 => ⟨?_, ?_⟩)⟩) (fun h2 => ⟨?_, ?_⟩))
  all_goals first
    | omega
    | exact e _ (by unfold addF; (repeat' split) <;> omega)
theorem small_ok (n : Int) : CtOk Try.prog 28 (ct_small n) := CtOk_of KK_ok tab0 ann0 (fn := Try.f28) rfl (fun _ _ => rfl) fun hn => by
  rw [vc_small]
  have hn : i64ok n := hn
  unfold i64ok at *
  have h1 := Int.tmod_lt_of_pos n (show (0 : Int) < 1099511627776 by decide)
  have h2 : -1099511627776 < Int.tmod n 1099511627776 := by
    have := Int.tmod_lt_of_pos (-n) (show (0 : Int) < 1099511627776 by decide)
    rw [Int.neg_tmod] at this
    omega
  have e : ∀ x H, x = smallF n → EndsAs 0 (ct_small n) (i64 x) H := fun x H hx => ends_i64 () trivial rfl rfl rfl hx
  refine ⟨by decide, ite2_decide (fun h1 => ⟨by omega, e _ _ ?_⟩) (fun h1 => e _ _ ?_)⟩ <;> unfold smallF <;> split <;> omega
theorem sort_ok (c : Cell) : CtOk Try.prog 36 (ct_sort c) := CtOk_of KK_ok tab0 ann0 (fn := Try.f36) rfl (fun _ _ => rfl) fun hn => by
  rw [vc_sort]
  have e : ∀ x H, x = sortF c → EndsAs 0 (ct_sort c) (i64 x) H := fun x H hx => ends_i64 () trivial rfl rfl rfl hx
  refine ite2_decide (fun h1 => e _ _ ?_) (fun h1 => ite2_decide (fun h2 => e _ _ ?_) (fun h2 => ite2_decide (fun h3 => e _ _ ?_) (fun h3 => ite2_decide (fun h4 => e _ _ ?_) (fun h4 => ite2_decide (fun h5 => e _ _ ?_) (fun h5 => e _ _ ?_)))))
  all_goals (unfold sortF; (repeat' split) <;> omega)
end Go.Proofs.Ytljamcgngojaeaa.T
