/- Text 12 of 26 texts that prove the statement of RowParses; it holds without conditions beyond the statement's own. -/
import Derived.Laws.OwnMore
import Derived.Maps.AppendAt
import Derived.Tactics
import Derived.Deep.LoopGhost
import GoSem.Core.Utf8
import Derived.Laws.RangeAny
import Derived.Below
import Derived.Deep.Draws
import Derived.Deep.AppendLies
import Derived.OwnWalk
import Derived.Laws.BytesArg
import Derived.Laws.MakeOwn
import Derived.Deep.OwnRows
import Derived.Lib.ConvBytes
import Derived.Laws.Slices
import Derived.WalkKit
import Derived.KernelRfl
import Derived.RowKit3
import Derived.Deep.QuietTactic
import Derived.BigQuiet
import Derived.WideLaws
import Derived.Deep.DeepCutAuto
import Derived.Deep.CutBlock
import Derived.Deep.RegionHeld3
import Derived.Laws.Rows
import Derived.Lib.AppendStr
import Derived.ArgAppend
import Derived.Laws.IdiomCopy
import Derived.RowKit
import Derived.OrdersHeld
import Derived.Laws.BitsLemmas
import Derived.Test.YtoidibkcdkdneaaGreatDoorProg
import Derived.Lib.OthersKept
import Derived.WalkSmall
import Derived.Test.YtoidibkcdkdneaaGreatDoorKP7
import Derived.Test.YtoidibkcdkdneaaGreatDoorKP8
import Derived.Test.YtoidibkcdkdneaaGreatDoorKP9
import Derived.Test.YtoidibkcdkdneaaGreatDoorKP10
namespace Foot
end Foot
namespace Go.Proofs
end Go.Proofs
namespace Go.Proofs.YtoidibkcdkdneaaGreatDoor
end Go.Proofs.YtoidibkcdkdneaaGreatDoor
namespace Go.Proofs.YtoidibkcdkdneaaGreatDoor.E
end Go.Proofs.YtoidibkcdkdneaaGreatDoor.E
namespace Go.Proofs.YtoidibkcdkdneaaGreatDoor.Hand
end Go.Proofs.YtoidibkcdkdneaaGreatDoor.Hand
namespace Go.Proofs.YtoidibkcdkdneaaGreatDoor.MPat
end Go.Proofs.YtoidibkcdkdneaaGreatDoor.MPat
namespace Go.Proofs.YtoidibkcdkdneaaGreatDoor.MStr
end Go.Proofs.YtoidibkcdkdneaaGreatDoor.MStr
namespace Go.Proofs.YtoidibkcdkdneaaGreatDoor.PRead
end Go.Proofs.YtoidibkcdkdneaaGreatDoor.PRead
namespace Go.Proofs.YtoidibkcdkdneaaGreatDoor.PSplit
end Go.Proofs.YtoidibkcdkdneaaGreatDoor.PSplit
namespace Go.Proofs.YtoidibkcdkdneaaGreatDoor.R
end Go.Proofs.YtoidibkcdkdneaaGreatDoor.R
namespace Go.Proofs.YtoidibkcdkdneaaGreatDoor.T
end Go.Proofs.YtoidibkcdkdneaaGreatDoor.T
namespace Go.Proofs.YtoidibkcdkdneaaGreatDoor.TR
end Go.Proofs.YtoidibkcdkdneaaGreatDoor.TR
namespace Go.Proofs.YtoidibkcdkdneaaGreatDoor.TrulesParses
end Go.Proofs.YtoidibkcdkdneaaGreatDoor.TrulesParses
namespace Go.Proofs.YtoidibkcdkdneaaGreatDoorW.PrintLast
end Go.Proofs.YtoidibkcdkdneaaGreatDoorW.PrintLast
namespace Go.Proofs.YtoidibkcdkdneaaGreatDoorW.PrintMore
end Go.Proofs.YtoidibkcdkdneaaGreatDoorW.PrintMore
namespace Go.Proofs.YtoidibkcdkdneaaGreatDoorW.PrintWords
end Go.Proofs.YtoidibkcdkdneaaGreatDoorW.PrintWords
namespace Kd
end Kd
section
namespace Go.Proofs.YtoidibkcdkdneaaGreatDoor.Hand
set_option linter.unusedVariables false
set_option linter.unusedSimpArgs false
open Go.RowKit Go.Proofs.YtoidibkcdkdneaaGreatDoor.MStr Go.Proofs.YtoidibkcdkdneaaGreatDoorW.PrintWords Go.Proofs.YtoidibkcdkdneaaGreatDoorW.PrintLast Go.Proofs.YtoidibkcdkdneaaGreatDoorW.PrintMore
set_option linter.unusedVariables false
def path_pieces.f (s : ByteArray) : Option (List ByteArray) := if s.size ≤ 8796093022206 then some (pieces s) else none
theorem infoStr : (Tryz.prog.info? 9).map (fun i => (i.zero, i.size, i.bytes)) = some (some (.string ⟨#[]⟩), 1, 16) := by kernel_rfl
theorem iter_below {B : Nat} {w W : World} (h : Below B w W) (k : Nat) (hk : B ≤ k) (s : ByteArray) (p : Nat) : Below B w (W.iterAt k s p) :=
  ⟨h.os, h.tape, h.output, by rw [Lib.iterAt_size]; exact h.size, fun i hi => by rw [Lib.iterAt_other _ _ _ _ _ (by omega)]; exact h.block i hi⟩
theorem R_iterAt {α : Type} {d : Kd α} {e : Nat} {w : World} {base : Nat} {v : Value} {xs : List α} (h : Kd.R d e w base (fun _ => True) v xs) (k : Nat) (hk : k < base) (s : ByteArray) (p : Nat) : Kd.R d e (w.iterAt k s p) base (fun _ => True) v xs :=
  Kd.R_mono (Kd.R_move (Kd.R_bound h) (fun j hj => Lib.iterAt_other _ _ _ _ _ (by have := hj.2.1; omega))) (fun _ _ => trivial)
theorem iterAt_at {w : World} {k : Nat} {o : Obj} (h : w.heap[k]? = some o) (s : ByteArray) (p : Nat) : (w.iterAt k s p).heap[k]? = some (.stringIter s p) := by
  have hk := (Array.getElem?_eq_some_iff.1 h).1
  simp [World.iterAt, hk]
set_option maxHeartbeats 2000000 in
set_option maxRecDepth 100000 in
theorem path_pieces.calls (s : ByteArray) (r : List ByteArray) (w : World) (h : path_pieces.f s = some r) :
    Calls Tryz.prog 84 #[.string s] w fun e w' => ∃ v0_ : Value, e = .returned v0_ ∧ Kd.R Kd.string 9 w' w.heap.size (fun _ => True) v0_ r ∧ Below w.heap.size w w' := by
  unfold path_pieces.f at h
  by_cases hs : s.size ≤ 8796093022206
  case neg => rw [if_neg hs] at h; cases h
  rw [if_pos hs] at h
  have hr : r = pieces s := (Option.some.inj h).symm
  clear h
  by_cases c0 : s.toList = []
  · have hf : pieces s = [] := by rw [pieces, if_pos c0]
    rw [hf] at hr
    have c1b : (s.toList == ([] : List UInt8)) = true := beq_iff_eq.mpr c0
    clear c0 hf hs
    subst hr
    go_enter Tryz.func84, Tryz.ntmps84
    go_wp2
    go_ret
    exact ⟨_, rfl, Kd.R_nil _ _ _ _ _, Below.refl _ _⟩
  have c1b : (s.toList == ([] : List UInt8)) = false := beq_eq_false_iff_ne.mpr c0
  have HR := Aside0.mk hr
  have HZ := Aside0.mk c0
  clear hr c0
  have hs' : (s.size : Int) ≤ 8796093022206 := by omega
  go_enter Tryz.func84, Tryz.ntmps84
  go_wp2
  go_loopw [3, 4, 5] (fun v3 v4 v5 w' => ∃ (acc : List ByteArray) (a b : Nat), v4 = .int .i64 a ∧ Aside0 (Cutting s acc a b) ∧ Aside0 (w'.heap[w.heap.size]? = some (.stringIter s b)) ∧ Aside0 (Kd.R Kd.string 9 w' (w.heap.size + 1) (fun _ => True) v3 acc) ∧ Aside0 (Below w.heap.size w w')) (fun _ _ _ w' => s.size - w'.iterPos w.heap.size)
  case atStart => exact ⟨[], 0, 0, rfl, ⟨Cutting.start s⟩, ⟨World.iter_heap _ _ _⟩, ⟨Kd.R_nil _ _ _ _ _⟩, ⟨below_alloc (Below.refl _ _) _⟩⟩
  case round =>
    obtain ⟨acc, a, b, rfl, HC, HI, HO, HB⟩ := hrel
    have hab := HC.out.le
    have hbs := HC.out.le'
    have hfew := HC.out.few
    have AL := Aside0.mk (show (acc.length + 1) * 16 ≤ 140737488355328 from by omega)
    by_cases hp : b < s.size
    · have hnx : ∀ ty, (Instr.next (.pointer (some ⟨w.heap.size, 0, none⟩)) true ty).run Tryz.prog wr = _ := fun ty => Lib.run_next_any_at wr w.heap.size s b ty HI.out hp
      rcases decode_cases s b hp with ⟨ha, hd⟩ | ⟨ha, hr1, hr2, hr3, hr4⟩
      · rw [hd] at hnx
        have HI' := Aside0.mk (iterAt_at HI.out s (b + 1))
        have HO' := Aside0.mk (R_iterAt HO.out w.heap.size (by omega) s (b + 1))
        have HB' := Aside0.mk (iter_below HB.out w.heap.size (Nat.le_refl _) s (b + 1))
        have HP := Aside0.mk (iterPos_of HI.out)
        by_cases hb : (s.get! b) = 47
        · have HC' := Aside0.mk (HC.out.slash hp hb)
          have hbi : ((((s.get! b).toNat : Nat) : Int) == 47) = true := by rw [hb]; rfl
          clear hd ha HC HI HO HB hb
          generalize (s.get! b).toNat = c at *
          dsimp only at hnx
          generalize wr.iterAt w.heap.size s (b + 1) = wi at *
          have AS := Aside0.mk (show w.heap.size + 1 ≤ wi.heap.size from (Array.getElem?_eq_some_iff.1 HI'.out).1)
          go_wp2_with (first | ((with_reducible refine gate_builtin (b := .append) (xs := #[.tmp 17, .tmp 22]) rfl ?_); at_builtin; refine Kd.R_append Kd.string (w0 := wi) (w.heap.size + 1) rfl (.tmp 17) (.tmp 22) 54 9 (.string ⟨#[]⟩) 16 rfl Tryz.underlying54 infoStr rfl (by decide) (by omega) u3 acc (s.extract a b) [.string (s.extract a b)] (fun _ => True) (fun _ => False) rfl rfl rfl (fun _ hk => hk.elim) (fun _ _ => trivial) HO'.out (Below.refl _ _) ?aS ?aL ?_; (case aS => exact AS.out); (case aL => exact AL.out); intro v1 w1 ho hb hg hat; have HO2 := Aside0.mk ho; have HB2 := Aside0.mk hb; clear ho hb hg hat))
          have HI2 := Aside0.mk ((HB2.out.block w.heap.size (by omega)).trans HI'.out)
          have HB3 := Aside0.mk (HB'.out.trans (HB2.out.mono (by omega)))
          go_roundw
          case rel => exact ⟨_, b + 1, b + 1, by go_num, HC', HI2, HO2, HB3⟩
          case measure => rw [iterPos_of HI2.out, HP.out]; omega
        · have HC' := Aside0.mk (HC.out.pass (n := 1) (by omega) (fun j h1 h2 => by obtain rfl : j = b := (by omega); exact hb))
          have hbi : ((((s.get! b).toNat : Nat) : Int) == 47) = false := by
            rw [beq_eq_false_iff_ne]
            intro e
            apply hb
            apply UInt8.toNat_inj.1
            have : (47 : UInt8).toNat = 47 := rfl
            omega
          clear hd ha HC HI HO HB hb
          generalize (s.get! b).toNat = c at *
          dsimp only at hnx
          generalize wr.iterAt w.heap.size s (b + 1) = wi at *
          go_wp2
          go_roundw
          case rel => exact ⟨_, a, b + 1, rfl, HC', HI', HO', HB'⟩
          case measure => rw [iterPos_of HI'.out, HP.out]; omega
      · have HC' := Aside0.mk (HC.out.pass (n := (Utf8.decode s b).2) hr3 (fun j h1 h2 e => by
          have := hr4 j h1 h2
          rw [e] at this
          exact absurd this (by decide)))
        have hx : ((((Utf8.decode s b).1 : Nat) : Int) == 47) = false := by rw [beq_eq_false_iff_ne]; omega
        clear ha hr4
        generalize hd : Utf8.decode s b = d at *
        clear hd
        have HI' := Aside0.mk (iterAt_at HI.out s (b + d.2))
        have HO' := Aside0.mk (R_iterAt HO.out w.heap.size (by omega) s (b + d.2))
        have HB' := Aside0.mk (iter_below HB.out w.heap.size (Nat.le_refl _) s (b + d.2))
        have HP := Aside0.mk (iterPos_of HI.out)
        clear HC HI HO HB
        generalize wr.iterAt w.heap.size s (b + d.2) = wi at *
        go_wp2
        go_roundw
        case rel => exact ⟨_, a, b + d.2, rfl, HC', HI', HO', HB'⟩
        case measure => rw [iterPos_of HI'.out, HP.out]; omega
    · have hnx : ∀ ty, (Instr.next (.pointer (some ⟨w.heap.size, 0, none⟩)) true ty).run Tryz.prog wr = _ := fun ty => Lib.run_next_end_at wr w.heap.size s b ty HI.out hp
      have hfin := HC.out.fin hp HZ.out
      have AS := Aside0.mk (show w.heap.size + 1 ≤ wr.heap.size from (Array.getElem?_eq_some_iff.1 HI.out).1)
      have HF := Aside0.mk (HR.out.trans hfin)
      clear hfin HC HI HR
      go_wp2_with (first | ((with_reducible refine gate_builtin (b := .append) (xs := #[.tmp 26, .tmp 30]) rfl ?_); at_builtin; refine Kd.R_append Kd.string (w0 := wr) (w.heap.size + 1) rfl (.tmp 26) (.tmp 30) 54 9 (.string ⟨#[]⟩) 16 rfl Tryz.underlying54 infoStr rfl (by decide) (by omega) u3 acc (s.extract a s.size) [.string (s.extract a s.size)] (fun _ => True) (fun _ => False) rfl rfl rfl (fun _ hk => hk.elim) (fun _ _ => trivial) HO.out (Below.refl _ _) ?aS ?aL ?_; (case aS => exact AS.out); (case aL => exact AL.out); intro v1 w1 ho hb hg hat; have HO2 := Aside0.mk ho; have HB2 := Aside0.mk hb; clear ho hb hg hat))
      go_ret
      exact ⟨_, rfl, by rw [HF.out]; exact Kd.R_lower HO2.out (by omega), HB.out.trans (HB2.out.mono (by omega))⟩
end Go.Proofs.YtoidibkcdkdneaaGreatDoor.Hand
end
