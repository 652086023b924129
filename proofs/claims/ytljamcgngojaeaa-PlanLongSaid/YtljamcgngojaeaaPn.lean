/- The plan: a merge among the arguments, opened. -/
import Derived.Test.YtljamcgngojaeaaPK
import Derived.Deep.Slices
import Derived.ChangeSame
import Derived.Carry
namespace Go.Proofs.Ytljamcgngojaeaa.T
open Go.Proofs.Ytljamcgngojaeaa.E Go.ChangeShapes Go.WideShapes Go.Deep
set_option maxRecDepth 100000
set_option linter.unusedVariables false
theorem u25 : Try.prog.underlying 25 = some (.struct #[Field.mk "Cells" 23 0 false "" "" 0]) := by kernel_rfl
theorem u23 : Try.prog.underlying 23 = some (.slice 44) := by kernel_rfl
theorem u44 : Try.prog.underlying 44 = some (.struct #[Field.mk "Path" 9 0 false "" "" 0, Field.mk "What" 3 1 false "" "" 16, Field.mk "Side" 3 2 false "" "" 24, Field.mk "Mode" 3 3 false "" "" 32, Field.mk "Keep" 3 4 false "" "" 40, Field.mk "Take" 3 5 false "" "" 48, Field.mk "Names" 3 6 false "" "" 56, Field.mk "Bytes" 3 7 false "" "" 64, Field.mk "Had" 31 8 false "" "" 72]) := by kernel_rfl
theorem u31 : Try.prog.underlying 31 = some (.struct #[Field.mk "Names" 3 0 false "" "" 0, Field.mk "Bytes" 3 1 false "" "" 8]) := by kernel_rfl
theorem u9 : Try.prog.underlying 9 = some .string := by kernel_rfl
theorem u3 : Try.prog.underlying 3 = some (.int .i64) := by kernel_rfl
theorem c3 : Try.prog.cellsOf 3 = 1 := by kernel_rfl
theorem c9 : Try.prog.cellsOf 9 = 1 := by kernel_rfl
theorem c23 : Try.prog.cellsOf 23 = 1 := by kernel_rfl
theorem c25 : Try.prog.cellsOf 25 = 1 := by kernel_rfl
theorem c31 : Try.prog.cellsOf 31 = 2 := by kernel_rfl
theorem c44 : Try.prog.cellsOf 44 = 10 := by kernel_rfl
instance : Inhabited Cell := ⟨Cell.mk .empty 0 0 0 0 0 0 0 0 0⟩
def wfB (n : Int) : Prop := (Lit.int .i64 n).wf = true
/-- What a cell's reading tells. -/
structure CellWf (c : Cell) : Prop where
  path : c.path.size ≤ maxLen
  what : wfB c.what
  side : wfB c.side
  mode : wfB c.mode
  keep : wfB c.keep
  take : wfB c.take
  names : wfB c.names
  bytes : wfB c.bytes
  hadN : wfB c.hadN
  hadB : wfB c.hadB
def encC (c : Cell) : List Value := [.string c.path, .int .i64 c.what, .int .i64 c.side, .int .i64 c.mode, .int .i64 c.keep, .int .i64 c.take, .int .i64 c.names, .int .i64 c.bytes, .int .i64 c.hadN, .int .i64 c.hadB]
theorem flat_encC : ∀ l : List Cell, (flat (K := KK) Kd.cell l).map C.plain = l.flatMap encC
  | [] => rfl
  | c :: l => by
    have ih := flat_encC l
    rw [List.flatMap_cons, ← ih]
    exact List.map_append
theorem flatMap_at {α β : Type} {f : α → List β} {n : Nat} (hf : ∀ x, (f x).length = n) : ∀ {xs : List α} {j : Nat} {u : β}, (xs.flatMap f)[j]? = some u → ∃ i k x, xs[i]? = some x ∧ j = i * n + k ∧ k < n ∧ (f x)[k]? = some u
  | [], j, u, h => by simp at h
  | y :: ys, j, u, h => by
    rw [List.flatMap_cons] at h
    by_cases hj : j < n
    · rw [List.getElem?_append_left (by rw [hf]; exact hj)] at h
      exact ⟨0, j, y, rfl, by omega, hj, h⟩
    · rw [List.getElem?_append_right (by rw [hf]; omega), hf] at h
      obtain ⟨i, k, x, h1, h2, h3, h4⟩ := flatMap_at hf h
      exact ⟨i + 1, k, x, by simpa using h1, by rw [Nat.add_mul]; omega, h3, h4⟩
theorem cell_lt {w : World} {a : Addr} {u : Value} (h : w.cell? a = some u) : a.block < w.heap.size := by
  unfold World.cell? at h
  cases e : w.heap[a.block]? with
  | none => simp [e] at h
  | some o => exact (Array.getElem?_eq_some_iff.1 e).1
section
variable {H : Type} {enc : TypeId × Value → H} {W : World} {base : Nat} {sp : Nat → Bool}
theorem open_cell {n : Nat} {cs : List Value} {x : DataW H × List MemPlace} (h : DataW.trod enc Try.prog W base sp true n 44 cs = some x) :
    ∃ c : Cell, CellWf c ∧ cs = encC c := by
  obtain ⟨xs, m, _, _, hl, hxl, hf⟩ := DataW.trod_struct u44 h
  rw [c44] at hl
  match cs, hl with
  | [v0, v1, v2, v3, v4, v5, v6, v7, v8, v9], _ =>
    match xs, hxl with
    | [y0, y1, y2, y3, y4, y5, y6, y7, y8], _ =>
      have f0 := hf 0 (Field.mk "Path" 9 0 false "" "" 0) rfl
      have f1 := hf 1 (Field.mk "What" 3 1 false "" "" 16) rfl
      have f2 := hf 2 (Field.mk "Side" 3 2 false "" "" 24) rfl
      have f3 := hf 3 (Field.mk "Mode" 3 3 false "" "" 32) rfl
      have f4 := hf 4 (Field.mk "Keep" 3 4 false "" "" 40) rfl
      have f5 := hf 5 (Field.mk "Take" 3 5 false "" "" 48) rfl
      have f6 := hf 6 (Field.mk "Names" 3 6 false "" "" 56) rfl
      have f7 := hf 7 (Field.mk "Bytes" 3 7 false "" "" 64) rfl
      have f8 := hf 8 (Field.mk "Had" 31 8 false "" "" 72) rfl
      simp only [c9, c3, c31, List.drop, List.take] at f0 f1 f2 f3 f4 f5 f6 f7 f8
      obtain ⟨p, e0, _, w0⟩ := DataW.trod_string u9 f0
      obtain ⟨n1, e1, _, w1⟩ := DataW.trod_int u3 f1
      obtain ⟨n2, e2, _, w2⟩ := DataW.trod_int u3 f2
      obtain ⟨n3, e3, _, w3⟩ := DataW.trod_int u3 f3
      obtain ⟨n4, e4, _, w4⟩ := DataW.trod_int u3 f4
      obtain ⟨n5, e5, _, w5⟩ := DataW.trod_int u3 f5
      obtain ⟨n6, e6, _, w6⟩ := DataW.trod_int u3 f6
      obtain ⟨n7, e7, _, w7⟩ := DataW.trod_int u3 f7
      obtain ⟨z0, z1, k, _, _, g0, g1⟩ := trod_struct2 u31 f8
      simp only [c3, List.drop, List.take] at g0 g1
      obtain ⟨n8, e8, _, w8⟩ := DataW.trod_int u3 g0
      obtain ⟨n9, e9, _, w9⟩ := DataW.trod_int u3 g1
      simp only [List.cons.injEq, and_true] at e0 e1 e2 e3 e4 e5 e6 e7 e8 e9
      subst e0 e1 e2 e3 e4 e5 e6 e7 e8 e9
      exact ⟨Cell.mk p n1 n2 n3 n4 n5 n6 n7 n8 n9, ⟨w0, w1, w2, w3, w4, w5, w6, w7, w8, w9⟩, rfl⟩
/-- A merge's cells: the list, and where it lies. -/
theorem open_merge {v : Value} {d : DataW H} {ps : List MemPlace} (hval : Value.okWide Try.prog W .any base 25 v) (h : DataW.Trod enc Try.prog W 0 (fun _ => true) true 25 v d ps) :
    ∃ (x : Ref) (l : List Cell) (s : Value), v = .agg #[s] ∧ (∀ c ∈ l, CellWf c) ∧ l.length ≤ maxLen ∧ (∀ r : Nat → Ref, r 0 = x → (C.slc 0 0 l.length none).is r s) ∧ ∀ r : Nat → Ref, (Atom.ro (K := KK) .cell l).ok r x W := by
  obtain ⟨cs, rfl, hsz, ts, ht, _, hrow⟩ : ∃ cs, v = .agg cs ∧ cs.size = Try.prog.cellsOf 25 ∧ Row.okWide Try.prog W .any base 25 cs := by
    simp only [Value.okWide, u25] at hval
    exact hval
  rw [c25] at hsz
  obtain ⟨s, rfl⟩ : ∃ s, cs = #[s] := by
    cases cs with
    | mk l => match l, hsz with | [s], _ => exact ⟨s, rfl⟩
  obtain ⟨u, hu, hok⟩ := hrow 0 s rfl
  have e : Try.prog.cellTypes Try.prog.depth 25 = some [23] := by kernel_rfl
  rw [e] at ht
  obtain rfl := Option.some.inj ht
  have eu : u = 23 := by simpa using hu.symm
  subst eu
  obtain ⟨fuel, hf⟩ := h
  obtain ⟨y0, n, _, _, ht0⟩ := trod_struct1 u25 hf
  simp only [Value.cells, c23, List.drop, List.take] at ht0
  rcases open_slice u23 ht0 with ⟨hcs, _⟩ | ⟨a, len, cap, m, k, D, Pl, hcs, _, hle, hmx, hm, _, hall⟩
  · simp only [List.cons.injEq, and_true] at hcs
    subst hcs
    refine ⟨⟨0, 10, 0, true, 0⟩, [], _, rfl, fun c hc => (by cases hc), Nat.zero_le _, fun r hr => ⟨none, by simp [hr], .inr (by simp [hr])⟩, fun r => ⟨rfl, Nat.le_refl _, fun _ => rfl, fun h => absurd rfl h⟩⟩
  · simp only [List.cons.injEq, and_true] at hcs
    subst hcs
    have hsp : a.spot = none := by
      simp only [Cell.okWide, u23, Cell.ok] at hok
      exact hok.2.2.2.1
    obtain ⟨blk, off, spot⟩ := a
    simp only at hsp
    subst hsp
    simp only [if_true] at hm
    subst hm
    have each : ∀ i, i < m → ∃ c : Cell, CellWf c ∧ W.cells? 0 ((⟨blk, off, none⟩ : Addr).add (i * 10)) 10 = some (encC c) := by
      intro i hi
      obtain ⟨cs', h1, h2⟩ := hall i hi
      rw [c44] at h1
      obtain ⟨c, hc, rfl⟩ := open_cell h2
      exact ⟨c, hc, h1⟩
    obtain ⟨q, hq⟩ := choose_lt each
    have hlen : ((List.range len).map q).length = len := by simp
    refine ⟨⟨blk, 10, m, false, off⟩, (List.range len).map q, _, rfl, fun c hc => ?_, by rw [hlen]; omega, fun r hr => ?_, fun r => ⟨rfl, ?_, fun h => (by cases h), fun hne => ?_⟩⟩
    · obtain ⟨i, hi, rfl⟩ := List.mem_map.1 hc
      exact (hq i (by have := List.mem_range.1 hi; omega)).1
    · rw [hlen]
      exact ⟨some ⟨blk, off, none⟩, by simp [hr], .inr (by simp [hr])⟩
    · show ((List.range len).map q).length ≤ m
      rw [hlen]; exact hle
    · have cell : ∀ j u, (((List.range len).map q).flatMap encC)[j]? = some u → W.cell? ⟨blk, off + j, none⟩ = some u := by
        intro j u hj
        obtain ⟨i, k, c, h1, h2, h3, h4⟩ := flatMap_at (n := 10) (fun _ => rfl) hj
        obtain ⟨hi, hc⟩ := List.getElem?_eq_some_iff.1 h1
        rw [hlen] at hi
        simp only [List.getElem_map, List.getElem_range] at hc
        subst hc
        obtain ⟨_, _, hcell⟩ := World.cells?_some (hq i (by omega)).2
        have := hcell k h3
        rw [h4, add_add] at this
        rw [← this, h2]
        congr 1
        unfold Addr.add
        split
        · rename_i h0
          simp [h0]
        · rfl
      refine ⟨?_, fun j u hj => ?_⟩
      · have h0 : 0 < len := by
          rcases Nat.eq_zero_or_pos len with h | h
          · subst h; exact absurd rfl hne
          · exact h
        have := cell 0 (.string (q 0).path) (by
          obtain ⟨t, rfl⟩ : ∃ t, len = t + 1 := ⟨len - 1, by omega⟩
          rw [List.range_succ_eq_map]; rfl)
        exact cell_lt this
      · have e := flat_encC ((List.range len).map q)
        rw [e] at hj
        exact cell j u hj
end
end Go.Proofs.Ytljamcgngojaeaa.T
