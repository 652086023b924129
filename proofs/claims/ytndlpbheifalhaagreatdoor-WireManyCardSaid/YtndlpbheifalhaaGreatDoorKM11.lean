/- Text 12 of 13 texts that prove the statement of Vx; it holds without conditions beyond the statement's own. -/
import Derived.Laws.AppendOwn
import Derived.Laws.OwnMore
import Derived.Deep.MidRow
import Derived.Calls
import Derived.Deep.AppendSrc
import Derived.Maps.AppendAt
import Derived.IntWalk
import Derived.Tactics
import Derived.Laws.StructEq
import Derived.Laws.BytesString
import Derived.Orders
import Derived.Scope
import Derived.Deep.LoopGhost
import Derived.Recover
import Derived.Test.YtndlpbheifalhaaGreatDoorProg
import Derived.KernelRfl
import Derived.Deep.Slices
import Derived.ChangeSame
import Derived.ChangeSlices
import Derived.Carry
import Derived.RowKit
import Derived.Test.YtndlpbheifalhaaGreatDoorKM10
set_option linter.unusedSimpArgs false
set_option linter.unusedVariables false
namespace Go.Proofs.YtndlpbheifalhaaGreatDoor
end Go.Proofs.YtndlpbheifalhaaGreatDoor
namespace Go.Proofs.YtndlpbheifalhaaGreatDoor.E
end Go.Proofs.YtndlpbheifalhaaGreatDoor.E
namespace Go.Proofs.YtndlpbheifalhaaGreatDoor.T
end Go.Proofs.YtndlpbheifalhaaGreatDoor.T
namespace Go.Proofs.YtndlpbheifalhaaGreatDoor.TwireMany
end Go.Proofs.YtndlpbheifalhaaGreatDoor.TwireMany
namespace Go.Proofs.YtndlpbheifalhaaGreatDoor.V
end Go.Proofs.YtndlpbheifalhaaGreatDoor.V
section
namespace Go.Proofs.YtndlpbheifalhaaGreatDoor.T
open Go.Proofs.YtndlpbheifalhaaGreatDoor.E Go.ChangeShapes Go.WideShapes Go.Deep Go.RowKit
set_option maxRecDepth 100000
set_option linter.unusedVariables false
set_option linter.unusedSimpArgs false
theorem u57 : Tryz.prog.underlying 57 = some (.slice 66) := by kernel_rfl
theorem u66 : Tryz.prog.underlying 66 = some (.struct #[Field.mk "Kind" 3 0 false "" "" 0, Field.mk "Second" 4 1 false "" "" 8, Field.mk "Most" 23 2 false "" "" 16, Field.mk "N" 3 3 false "" "" 24]) := by kernel_rfl
theorem u3 : Tryz.prog.underlying 3 = some (.int .i64) := by kernel_rfl
theorem u4 : Tryz.prog.underlying 4 = some .bool := by kernel_rfl
theorem u23 : Tryz.prog.underlying 23 = some (.int .u64) := by kernel_rfl
theorem u5 : Tryz.prog.underlying 5 = some (.int .u8) := by kernel_rfl
theorem u22 : Tryz.prog.underlying 22 = some (.slice 5) := by kernel_rfl
theorem c3 : Tryz.prog.cellsOf 3 = 1 := by kernel_rfl
theorem c4 : Tryz.prog.cellsOf 4 = 1 := by kernel_rfl
theorem c23 : Tryz.prog.cellsOf 23 = 1 := by kernel_rfl
theorem c66 : Tryz.prog.cellsOf 66 = 4 := by kernel_rfl
theorem i64_of {z : Int} (h : (Lit.int .i64 z).wf = true) : i64ok z := by
  simp only [Lit.wf, Bool.and_eq_true, decide_eq_true_eq] at h
  have e1 : IntKind.i64.min = -9223372036854775808 := by kernel_rfl
  have e2 : IntKind.i64.max = 9223372036854775807 := by kernel_rfl
  rw [e1, e2] at h
  exact h
theorem u8_of {z : Int} (h : (Lit.int .u8 z).wf = true) : 0 ≤ z ∧ z < 256 := by
  simp only [Lit.wf, Bool.and_eq_true, decide_eq_true_eq] at h
  have e1 : IntKind.u8.min = 0 := by kernel_rfl
  have e2 : IntKind.u8.max = 255 := by kernel_rfl
  rw [e1, e2] at h
  omega
def encO (o : OpT) : List Value := [.int .i64 o.1, .bool o.2.1, .int .u64 o.2.2.1, .int .i64 o.2.2.2]
theorem flat_encO : ∀ l : List OpT, (flat (K := KK) Kd.op l).map C.plain = l.flatMap encO
  | [] => rfl
  | c :: l => by
    have ih := flat_encO l
    rw [List.flatMap_cons, ← ih]
    exact List.map_append
theorem flatMap_at {α β : Type} {f : α → List β} {n : Nat} (hf : ∀ x, (f x).length = n) : ∀ {xs : List α} {j : Nat} {u : β}, (xs.flatMap f)[j]? = some u → ∃ i k x, xs[i]? = some x ∧ j = i * n + k ∧ k < n ∧ (f x)[k]? = some u
  | [], j, u, h => by simp at h
  | y :: ys, j, u, h => by
    rw [List.flatMap_cons] at h
    by_cases hj : j < n
    · rw [List.getElem?_append_left (by rw [hf]; exact hj)] at h
      exact ⟨0, j, y, rfl, by omega, hj, h⟩
    · rw [List.getElem?_append_right (by rw [hf]; omega), hf] at h
      obtain ⟨i, k, x, h1, h2, h3, h4⟩ := flatMap_at hf h
      exact ⟨i + 1, k, x, by simpa using h1, by rw [Nat.add_mul]; omega, h3, h4⟩
theorem cell_lt {w : World} {a : Addr} {u : Value} (h : w.cell? a = some u) : a.block < w.heap.size := by
  unfold World.cell? at h
  cases e : w.heap[a.block]? with
  | none => simp [e] at h
  | some o => exact (Array.getElem?_eq_some_iff.1 e).1
theorem open_op {H : Type} {enc : TypeId × Value → H} {W : World} {base : Nat} {sp : Nat → Bool} {n : Nat} {cs : List Value} {x : DataW H × List MemPlace} (h : DataW.trod enc Tryz.prog W base sp true n 66 cs = some x) :
    ∃ o : OpT, i64ok o.2.2.2 ∧ cs = encO o := by
  obtain ⟨xs, m, _, _, hl, hxl, hf⟩ := DataW.trod_struct u66 h
  rw [c66] at hl
  match cs, hl with
  | [v0, v1, v2, v3], _ =>
    match xs, hxl with
    | [y0, y1, y2, y3], _ =>
      have f0 := hf 0 (Field.mk "Kind" 3 0 false "" "" 0) rfl
      have f1 := hf 1 (Field.mk "Second" 4 1 false "" "" 8) rfl
      have f2 := hf 2 (Field.mk "Most" 23 2 false "" "" 16) rfl
      have f3 := hf 3 (Field.mk "N" 3 3 false "" "" 24) rfl
      simp only [c3, c4, c23, List.drop, List.take] at f0 f1 f2 f3
      obtain ⟨n0, e0, _, w0⟩ := DataW.trod_int u3 f0
      obtain ⟨n1, e1, _⟩ := DataW.trod_bool u4 f1
      obtain ⟨n2, e2, _, w2⟩ := DataW.trod_int u23 f2
      obtain ⟨n3, e3, _, w3⟩ := DataW.trod_int u3 f3
      simp only [List.cons.injEq, and_true] at e0 e1 e2 e3
      subst e0 e1 e2 e3
      exact ⟨(n0, n1, n2, n3), i64_of w3, rfl⟩
theorem open_ops {H : Type} {enc : TypeId × Value → H} {W : World} {base : Nat} {v : Value} {d : DataW H} {ps : List MemPlace} (hval : Value.okWide Tryz.prog W .any base 57 v) (h : DataW.Trod enc Tryz.prog W 0 (fun _ => true) true 57 v d ps) :
    ∃ (x : Ref) (l : List OpT), (∀ r : Nat → Ref, r 1 = x → (C.slc 1 0 l.length none).is r v) ∧ (∀ o ∈ l, i64ok o.2.2.2) ∧ ∀ r : Nat → Ref, (Atom.ro (K := KK) Kd.op l).ok r x W := by
  obtain ⟨fuel, hf⟩ := h
  obtain ⟨A, n, c, rfl⟩ := okWide_slice u57 hval
  rcases open_slice u57 hf with ⟨hcs, _⟩ | ⟨a, len, cap, m, k, D, Pl, hcs, _, hle, hmx, hm, _, hall⟩
  · simp [Value.cells] at hcs
    obtain ⟨rfl, rfl, rfl⟩ := hcs
    exact ⟨⟨0, 4, 0, true, 0⟩, [], fun r hr => ⟨none, by simp [hr], .inr (by simp [hr])⟩, (fun c hc => by cases hc), fun r => ⟨rfl, Nat.le_refl _, fun _ => rfl, fun h => absurd rfl h⟩⟩
  · simp [Value.cells] at hcs
    obtain ⟨rfl, rfl, rfl⟩ := hcs
    have hsp : a.spot = none := by
      simp only [Value.okWide, Cell.okWide, u57, Cell.ok] at hval
      exact hval.2.2.2.1
    obtain ⟨blk, off, spot⟩ := a
    simp only at hsp
    subst hsp
    simp only [if_true] at hm
    subst hm
    have each : ∀ i, i < m → ∃ c : OpT, i64ok c.2.2.2 ∧ W.cells? 0 ((⟨blk, off, none⟩ : Addr).add (i * 4)) 4 = some (encO c) := by
      intro i hi
      obtain ⟨cs', h1, h2⟩ := hall i hi
      rw [c66] at h1
      obtain ⟨c, hc, rfl⟩ := open_op h2
      exact ⟨c, hc, h1⟩
    obtain ⟨q, hq⟩ := choose_lt each
    have hlen : ((List.range n).map q).length = n := by simp
    refine ⟨⟨blk, 4, m, false, off⟩, (List.range n).map q, fun r hr => ?_, fun c hc => ?_, fun r => ⟨rfl, ?_, fun h => (by cases h), fun hne => ?_⟩⟩
    · rw [hlen]
      exact ⟨some ⟨blk, off, none⟩, by simp [hr], .inr (by simp [hr])⟩
    · obtain ⟨i, hi, rfl⟩ := List.mem_map.1 hc
      exact (hq i (by have := List.mem_range.1 hi; omega)).1
    · show ((List.range n).map q).length ≤ m
      rw [hlen]; exact hle
    · have cell : ∀ j u, (((List.range n).map q).flatMap encO)[j]? = some u → W.cell? ⟨blk, off + j, none⟩ = some u := by
        intro j u hj
        obtain ⟨i, k, c, h1, h2, h3, h4⟩ := flatMap_at (n := 4) (fun _ => rfl) hj
        obtain ⟨hi, hc⟩ := List.getElem?_eq_some_iff.1 h1
        rw [hlen] at hi
        simp only [List.getElem_map, List.getElem_range] at hc
        subst hc
        obtain ⟨_, _, hcell⟩ := World.cells?_some (hq i (by omega)).2
        have := hcell k h3
        rw [h4, add_add] at this
        rw [← this, h2]
        congr 1
        unfold Addr.add
        split
        · rename_i h0
          simp [h0]
        · rfl
      refine ⟨?_, fun j u hj => ?_⟩
      · have h0 : 0 < n := by
          rcases Nat.eq_zero_or_pos n with h | h
          · subst h; exact absurd rfl hne
          · exact h
        have := cell 0 (.int .i64 (q 0).1) (by
          obtain ⟨t, rfl⟩ : ∃ t, n = t + 1 := ⟨n - 1, by omega⟩
          rw [List.range_succ_eq_map]; rfl)
        exact cell_lt this
      · have e := flat_encO ((List.range n).map q)
        rw [e] at hj
        exact cell j u hj
theorem open_bytesW {H : Type} {enc : TypeId × Value → H} {W : World} {base : Nat} {v : Value} {d : DataW H} {ps : List MemPlace} (hval : Value.okWide Tryz.prog W .any base 22 v) (h : DataW.Trod enc Tryz.prog W 0 (fun _ => true) true 22 v d ps) :
    ∃ (x : Ref) (l : List Int), (∀ r : Nat → Ref, r 0 = x → (C.slc 0 0 l.length none).is r v) ∧ (∀ n ∈ l, 0 ≤ n ∧ n < 256) ∧ ∀ r : Nat → Ref, (Atom.ro (K := KK) Kd.u8 l).ok r x W := by
  obtain ⟨fuel, hf⟩ := h
  rcases open_ints u22 u5 (by kernel_rfl) hf with ⟨hcs, _⟩ | ⟨a, len, cap, ss, hcs, _, hl, hm, hz, _, hcell, hws⟩
  · obtain ⟨A, n, c, rfl⟩ := okWide_slice u22 hval
    simp [Value.cells] at hcs
    obtain ⟨rfl, rfl, rfl⟩ := hcs
    exact ⟨⟨0, 1, 0, true, 0⟩, [], fun r hr => ⟨none, by simp [hr], .inr (by simp [hr])⟩, (fun n hn => by cases hn), fun r => ⟨rfl, Nat.le_refl _, fun _ => rfl, fun h => absurd rfl h⟩⟩
  · obtain ⟨A, n, c, rfl⟩ := okWide_slice u22 hval
    simp [Value.cells] at hcs
    obtain ⟨rfl, rfl, rfl⟩ := hcs
    have hsp : a.spot = none := by
      simp only [Value.okWide, Cell.okWide, u22, Cell.ok] at hval
      exact hval.2.2.2.1
    obtain ⟨blk, off, spot⟩ := a
    simp only at hsp
    subst hsp
    simp only [if_true] at hz
    have hlen : (ss.take n).length = n := by rw [List.length_take]; omega
    have hc' : ∀ j y, (ss.take n)[j]? = some y → W.cell? ⟨blk, off + j, none⟩ = some (.int .u8 y) := fun j y hj => by
      have hjl : j < n := by have := (List.getElem?_eq_some_iff.1 hj).1; omega
      have h1 := hcell j (by omega)
      rw [List.getElem?_take, if_pos hjl] at hj
      rw [List.getD_eq_getElem?_getD, hj, Option.getD_some] at h1
      simpa [Addr.add_lit] using h1
    refine ⟨⟨blk, 1, c, false, off⟩, ss.take n, fun r hr => ?_, fun z hz => u8_of (hws z (List.mem_of_mem_take hz)), fun r => ⟨rfl, ?_, fun h => (by cases h), fun hne => ⟨?_, fun j u hj => ?_⟩⟩⟩
    · rw [hlen]
      exact ⟨some ⟨blk, off, none⟩, by simp [hr], .inr (by simp [hr])⟩
    · show (ss.take n).length ≤ c
      omega
    · show blk < W.heap.size
      cases hs : ss.take n with
      | nil => exact absurd hs hne
      | cons y t =>
        have h1 := hc' 0 y (by rw [hs]; rfl)
        unfold World.cell? at h1
        cases e : W.heap[blk]? with
        | none => simp [e] at h1
        | some o => exact (Array.getElem?_eq_some_iff.1 e).1
    · rw [flat_u8, List.map_map, List.getElem?_map] at hj
      cases hq : (ss.take n)[j]? with
      | none => rw [hq] at hj; cases hj
      | some y =>
        rw [hq] at hj
        obtain rfl := Option.some.inj hj
        exact hc' j y hq
end Go.Proofs.YtndlpbheifalhaaGreatDoor.T
end
