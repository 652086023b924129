/- Four digits: some text of four bytes. -/
import Derived.Test.YtljamcgngojaeaaPz
import Derived.Handy
import Derived.WalkKit
import Derived.LoopN
import Derived.Below
import Derived.Lib.SlBytesConst
namespace Go.Proofs.Ytljamcgngojaeaa.D
open Go.RowKit
set_option maxRecDepth 100000
set_option linter.unusedVariables false
theorem u68 : Try.prog.underlying 68 = some (.slice 5) := by kernel_rfl
theorem u5 : Try.prog.underlying 5 = some (.int .u8) := by kernel_rfl
theorem u3 : Try.prog.underlying 3 = some (.int .i64) := by kernel_rfl
theorem u9 : Try.prog.underlying 9 = some .string := by kernel_rfl
theorem func17 : Try.prog.funcs[17]? = some Try.f17 := by kernel_rfl
theorem ntmps17 : Try.f17.ntmps = 22 := rfl
def row4 (w : World) (a b c d : Int) : World := w.alloc (.cells #[.int .u8 a, .int .u8 b, .int .u8 c, .int .u8 d] 5 (4, 5))
theorem row4_heap (w : World) (a b c d : Int) : (row4 w a b c d).heap[w.heap.size]? = some (.cells #[.int .u8 a, .int .u8 b, .int .u8 c, .int .u8 d] 5 (4, 5)) := by
  show (w.heap.push _)[w.heap.size]? = _
  simp
theorem row4_cell (w : World) (a b c d : Int) (i : Nat) (hi : i < 4) : (row4 w a b c d).cell? ⟨w.heap.size, i, none⟩ = (#[Value.int .u8 a, .int .u8 b, .int .u8 c, .int .u8 d] : Array Value)[i]? := by
  unfold World.cell?
  rw [row4_heap]
  rfl
theorem row4_froz (w : World) (a b c d : Int) (i : Nat) (hi : i < 4) : (row4 w a b c d).frozen? ⟨w.heap.size, i, none⟩ = false := by
  unfold World.frozen?
  rw [row4_heap]
  simp
  omega
theorem row4_set (w : World) (a b c d : Int) (i : Nat) (u : Value) : (row4 w a b c d).setCell ⟨w.heap.size, i, none⟩ u = w.alloc (.cells ((#[Value.int .u8 a, .int .u8 b, .int .u8 c, .int .u8 d] : Array Value).setIfInBounds i u) 5 (4, 5)) := by
  unfold World.setCell row4
  show ({ w.alloc _ with heap := (w.heap.push _).modify w.heap.size _ } : World) = _
  have hm : ∀ (a : Array Obj) (x : Obj) (f : Obj → Obj), (a.push x).modify a.size f = a.push (f x) := by
    intro a x f
    apply Array.ext
    · simp
    · intro i h1 h2
      simp only [Array.getElem_modify, Array.getElem_push]
      by_cases h : a.size = i
      · subst h
        simp
      · have hi : i < a.size := by simp at h1; omega
        simp [h, hi]
  rw [hm]
  rfl
def Byte (a : Int) : Prop := 0 ≤ a ∧ a < 256
theorem byte_at {a : Int} (h : Byte a) : ((UInt8.ofNat a.toNat).toNat : Int) = a := by
  have h1 : a.toNat < 256 := by have := h.1; have := h.2; omega
  rw [UInt8.toNat_ofNat_of_lt' (by simpa using h1)]
  have := h.1
  omega
theorem row4_back {w : World} {a b c d : Int} (ha : Byte a) (hb : Byte b) (hc : Byte c) (hd : Byte d) :
    (convert 68 9 (.slice (some ⟨w.heap.size, 0, none⟩) 4 4)).run Try.prog (row4 w a b c d) = .ok (.string ⟨[UInt8.ofNat a.toNat, UInt8.ofNat b.toNat, UInt8.ofNat c.toNat, UInt8.ofNat d.toNat].toArray⟩) (row4 w a b c d) := by
  refine run_convert_bytes_back (row4 w a b c d) 68 9 5 ⟨w.heap.size, 0, none⟩ 4 [UInt8.ofNat a.toNat, UInt8.ofNat b.toNat, UInt8.ofNat c.toNat, UInt8.ofNat d.toNat] u68 u5 u9 fun j hj => ?_
  have hj' : j < 4 := hj
  have e : (⟨w.heap.size, 0, none⟩ : Addr).add j = ⟨w.heap.size, j, none⟩ := by
    unfold Addr.add
    split
    · rename_i h; rw [h]
    · simp
  rw [e, row4_cell w a b c d j hj']
  rcases (by omega : j = 0 ∨ j = 1 ∨ j = 2 ∨ j = 3) with rfl | rfl | rfl | rfl
  · show some (Value.int .u8 a) = some (Value.int .u8 ((UInt8.ofNat a.toNat).toNat : Int)); rw [byte_at ha]
  · show some (Value.int .u8 b) = some (Value.int .u8 ((UInt8.ofNat b.toNat).toNat : Int)); rw [byte_at hb]
  · show some (Value.int .u8 c) = some (Value.int .u8 ((UInt8.ofNat c.toNat).toNat : Int)); rw [byte_at hc]
  · show some (Value.int .u8 d) = some (Value.int .u8 ((UInt8.ofNat d.toNat).toNat : Int)); rw [byte_at hd]
theorem byte_mod (x : Int) : Byte (x % 256) := ⟨Int.emod_nonneg _ (by decide), Int.emod_lt_of_pos _ (by decide)⟩
def meas4 (v : Value) : Nat := match v with | .int _ i => (i + 1).toNat | _ => 0
set_option maxHeartbeats 2000000 in
theorem digits_calls (n : Int) (w : World) : Calls Try.prog 17 #[.int .i64 n] w fun e w' => (∃ s : ByteArray, e = .returned (.string s) ∧ s.size = 4) ∧ Below w.heap.size w w' := by
  have kc := fun (w : World) (C : Array Value) (n c : Nat) => Lib.run_convert_bytes_const (P := Try.prog) w 68 5 C n c u68 u5
  go_enter func17, ntmps17
  go_wp2
  clear kc
  go_loopw [0, 4] (fun v0 v4 w' => ∃ (m i a b c d : Int), v0 = .int .i64 m ∧ v4 = .int .i64 i ∧ (-1 ≤ i ∧ i ≤ 3) ∧ (Byte a ∧ Byte b ∧ Byte c ∧ Byte d) ∧ w' = row4 w a b c d) (fun _ v4 _ => meas4 v4)
  case atStart => exact ⟨n, 3, 48, 48, 48, 48, rfl, rfl, by omega, by unfold Byte; omega, rfl⟩
  case round =>
    obtain ⟨m, i, a, b, c, d, rfl, rfl, hi, ⟨ha, hb, hc, hd⟩, rfl⟩ := hrel
    rcases (by omega : i = -1 ∨ i = 0 ∨ i = 1 ∨ i = 2 ∨ i = 3) with rfl | rfl | rfl | rfl | rfl
    · have kb := row4_back (w := w) ha hb hc hd
      go_wp2
      go_ret
      exact ⟨⟨_, rfl, rfl⟩, (Below.refl _ w).alloc (Nat.le_refl _) _⟩
    · have hcc := row4_cell w a b c d 0 (by decide)
      have hf := row4_froz w a b c d 0 (by decide)
      have hs := fun u => row4_set w a b c d 0 u
      simp only [List.getElem?_toArray, List.getElem?_cons_zero, List.getElem?_cons_succ] at hcc
      go_wp2
      exact ⟨⟨_, _, _, b, c, d, rfl, rfl, by decide, ⟨byte_mod _, hb, hc, hd⟩, rfl⟩, by decide⟩
    · have hcc := row4_cell w a b c d 1 (by decide)
      have hf := row4_froz w a b c d 1 (by decide)
      have hs := fun u => row4_set w a b c d 1 u
      simp only [List.getElem?_toArray, List.getElem?_cons_zero, List.getElem?_cons_succ] at hcc
      go_wp2
      exact ⟨⟨_, _, a, _, c, d, rfl, rfl, by decide, ⟨ha, byte_mod _, hc, hd⟩, rfl⟩, by decide⟩
    · have hcc := row4_cell w a b c d 2 (by decide)
      have hf := row4_froz w a b c d 2 (by decide)
      have hs := fun u => row4_set w a b c d 2 u
      simp only [List.getElem?_toArray, List.getElem?_cons_zero, List.getElem?_cons_succ] at hcc
      go_wp2
      exact ⟨⟨_, _, a, b, _, d, rfl, rfl, by decide, ⟨ha, hb, byte_mod _, hd⟩, rfl⟩, by decide⟩
    · have hcc := row4_cell w a b c d 3 (by decide)
      have hf := row4_froz w a b c d 3 (by decide)
      have hs := fun u => row4_set w a b c d 3 u
      simp only [List.getElem?_toArray, List.getElem?_cons_zero, List.getElem?_cons_succ] at hcc
      go_wp2
      exact ⟨⟨_, _, a, b, c, _, rfl, rfl, by decide, ⟨ha, hb, hc, byte_mod _⟩, rfl⟩, by decide⟩
end Go.Proofs.Ytljamcgngojaeaa.D
