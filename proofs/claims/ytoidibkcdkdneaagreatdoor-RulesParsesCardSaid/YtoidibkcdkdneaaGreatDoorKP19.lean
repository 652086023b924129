/- Text 20 of 26 texts that prove the statement of RowParses; it holds without conditions beyond the statement's own. -/
import Derived.Laws.OwnMore
import Derived.Maps.AppendAt
import Derived.Tactics
import Derived.Laws.StructEq
import Derived.Deep.LoopGhost
import GoSem.Core.Utf8
import Derived.Laws.RangeAny
import Derived.Below
import Derived.Deep.Draws
import Derived.Deep.AppendLies
import Derived.OwnWalk
import Derived.Laws.BytesArg
import Derived.Laws.MakeOwn
import Derived.Deep.OwnRows
import Derived.Lib.ConvBytes
import Derived.Laws.Slices
import Derived.WalkKit
import Derived.KernelRfl
import Derived.RowKit3
import Derived.Deep.QuietTactic
import Derived.BigQuiet
import Derived.WideLaws
import Derived.Deep.DeepCutAuto
import Derived.Deep.CutBlock
import Derived.Deep.RegionHeld3
import Derived.Laws.Rows
import Derived.Lib.AppendStr
import Derived.ArgAppend
import Derived.Laws.IdiomCopy
import Derived.RowKit
import Derived.OrdersHeld
import Derived.Laws.BitsLemmas
import Derived.Test.YtoidibkcdkdneaaGreatDoorProg
import Derived.Lib.OthersKept
import Derived.WalkSmall
import Derived.Shelf.Strings.Builder1
import Derived.Shelf.Strings.Builder2
import Derived.Shelf.Strings.OnBuilder
import Derived.Shelf.Small.Wraps
import Derived.Shelf.Strings.Search1
import Derived.Shelf.Strings.Search2
import Derived.Shelf.Strings.Search3
import Derived.Shelf.Strings.Count
import Derived.Shelf.LaysM
import Derived.Shelf.Strings.Shaped
import Derived.Shelf.Strings.Prefix
import Derived.Shelf.Strings.Split
import Derived.Shelf.Unicode.DecodeSlow
import Derived.WalkLawsBesides
import Derived.StillTailTactics
import Derived.Test.YtoidibkcdkdneaaGreatDoorKP14
import Derived.Test.YtoidibkcdkdneaaGreatDoorKP15
import Derived.Test.YtoidibkcdkdneaaGreatDoorKP16
import Derived.Test.YtoidibkcdkdneaaGreatDoorKP18
namespace Foot
end Foot
namespace Go.Proofs
end Go.Proofs
namespace Go.Proofs.YtoidibkcdkdneaaGreatDoor
end Go.Proofs.YtoidibkcdkdneaaGreatDoor
namespace Go.Proofs.YtoidibkcdkdneaaGreatDoor.E
end Go.Proofs.YtoidibkcdkdneaaGreatDoor.E
namespace Go.Proofs.YtoidibkcdkdneaaGreatDoor.Hand
end Go.Proofs.YtoidibkcdkdneaaGreatDoor.Hand
namespace Go.Proofs.YtoidibkcdkdneaaGreatDoor.MPat
end Go.Proofs.YtoidibkcdkdneaaGreatDoor.MPat
namespace Go.Proofs.YtoidibkcdkdneaaGreatDoor.MStr
end Go.Proofs.YtoidibkcdkdneaaGreatDoor.MStr
namespace Go.Proofs.YtoidibkcdkdneaaGreatDoor.PRead
end Go.Proofs.YtoidibkcdkdneaaGreatDoor.PRead
namespace Go.Proofs.YtoidibkcdkdneaaGreatDoor.PSplit
end Go.Proofs.YtoidibkcdkdneaaGreatDoor.PSplit
namespace Go.Proofs.YtoidibkcdkdneaaGreatDoor.R
end Go.Proofs.YtoidibkcdkdneaaGreatDoor.R
namespace Go.Proofs.YtoidibkcdkdneaaGreatDoor.T
end Go.Proofs.YtoidibkcdkdneaaGreatDoor.T
namespace Go.Proofs.YtoidibkcdkdneaaGreatDoor.TR
end Go.Proofs.YtoidibkcdkdneaaGreatDoor.TR
namespace Go.Proofs.YtoidibkcdkdneaaGreatDoor.TrulesParses
end Go.Proofs.YtoidibkcdkdneaaGreatDoor.TrulesParses
namespace Go.Proofs.YtoidibkcdkdneaaGreatDoorW.PrintLast
end Go.Proofs.YtoidibkcdkdneaaGreatDoorW.PrintLast
namespace Go.Proofs.YtoidibkcdkdneaaGreatDoorW.PrintMore
end Go.Proofs.YtoidibkcdkdneaaGreatDoorW.PrintMore
namespace Go.Proofs.YtoidibkcdkdneaaGreatDoorW.PrintWords
end Go.Proofs.YtoidibkcdkdneaaGreatDoorW.PrintWords
namespace Kd
end Kd
section
namespace Go.Proofs.YtoidibkcdkdneaaGreatDoor.Hand
open Go.RowKit Go.Proofs.YtoidibkcdkdneaaGreatDoor.MStr Go.Proofs.YtoidibkcdkdneaaGreatDoor.MPat Go.Proofs.YtoidibkcdkdneaaGreatDoor.PRead Go.Proofs.YtoidibkcdkdneaaGreatDoorW.PrintWords Go.Proofs.YtoidibkcdkdneaaGreatDoorW.PrintLast Go.Proofs.YtoidibkcdkdneaaGreatDoorW.PrintMore
set_option linter.unusedVariables false
set_option linter.unusedSimpArgs false
def ptAt (l : List Pt) (i : Nat) : Pt := l.getD i z96
def txAt (l : List ByteArray) (k : Nat) : ByteArray := l.getD k ByteArray.empty
def ptMany (l : List Pt) (i : Nat) : Bool := (ptAt l i).f0
def ptOne (l : List Pt) (names : List ByteArray) (i k : Nat) : Bool := nameM (ptAt l i).f1 (txAt names k)
/-- Do parts match names? -/
def partsM (l : List Pt) (names : List ByteArray) : Bool := mt l.length names.length (ptMany l) (ptOne l names) 0 0
theorem rd_pt (l : List Pt) (i : Nat) : rd_T96 l (i : Int) = ptAt l i := by
  unfold rd_T96 ptAt
  rw [Int.toNat_natCast]
theorem rd_tx (l : List ByteArray) (k : Nat) : rdOf ByteArray.empty l (k : Int) = txAt l k := by
  unfold rdOf txAt
  rw [Int.toNat_natCast]
set_option maxHeartbeats 1000000 in
set_option maxRecDepth 100000 in
theorem match1_calls (p : Addr) (A : Option Addr) (c : Nat) (l : List Pt) (x : Int) (i : Nat) (w : World) (hx : x = i) (hi : i < l.length)
    (hp : w.cell? p = some (.slice A l.length c)) (hC : Kd.C kPt w A l.length l) :
    Calls Tryz.prog 51 #[.int .i64 x, .pointer (some p)] w fun e w' => e = .returned (.bool (ptMany l i)) ∧ Below w.heap.size w w' := by
  subst hx
  obtain ⟨ad, A1, c1, rfl, hx0, hx1, _, _⟩ := at_T96 hC (i : Int) (by omega) (by omega)
  rw [Int.toNat_natCast, rd_pt] at hx0
  have hib : decide ((i : Int) < (l.length : Int)) = true := decide_eq_true (by omega)
  have hic : decide (i < l.length) = true := decide_eq_true hi
  clear hx1 hC
  go_enter Tryz.func51, Tryz.ntmps51
  go_wp2
  go_ret
  exact ⟨rfl, Below.refl _ _⟩
set_option maxHeartbeats 1000000 in
set_option maxRecDepth 100000 in
theorem match2_calls (p q : Addr) (A A' : Option Addr) (c c' : Nat) (l : List Pt) (names : List ByteArray) (x y : Int) (i k : Nat) (w : World) (hx : x = i) (hy : y = k) (hi : i < l.length) (hk : k < names.length)
    (hp : w.cell? p = some (.slice A l.length c)) (hC : Kd.C kPt w A l.length l) (hq : w.cell? q = some (.slice A' names.length c')) (hN : Kd.C Kd.string w A' names.length names)
    (h1 : (ptAt l i).f1.length ≤ 4611686018427387904) (h2 : (txAt names k).size ≤ 4611686018427387904) :
    Calls Tryz.prog 52 #[.int .i64 x, .int .i64 y, .pointer (some p), .pointer (some q)] w fun e w' => e = .returned (.bool (ptOne l names i k)) ∧ Below w.heap.size w w' := by
  subst hx hy
  have hl := hC.2.1
  have hn := hN.2.1
  obtain ⟨ad, A1, c1, rfl, _, hx1, _, hCs⟩ := at_T96 hC (i : Int) (by omega) (by omega)
  rw [Int.toNat_natCast] at hx1
  rw [rd_pt] at hx1 hCs
  obtain ⟨ad', rfl, hy1⟩ := Kd.at_string hN (k : Int) (by omega) (by omega)
  rw [Int.toNat_natCast, rd_tx] at hy1
  have hib : decide ((i : Int) < (l.length : Int)) = true := decide_eq_true (by omega)
  have hic : decide (i < l.length) = true := decide_eq_true hi
  have hkb : decide ((k : Int) < (names.length : Int)) = true := decide_eq_true (by omega)
  have hkc : decide (k < names.length) = true := decide_eq_true hk
  have HCS := Aside0.mk hCs
  clear hC hN hCs
  go_enter Tryz.func52, Tryz.ntmps52
  go_wp2
  go_still_tail 9, (by kernel_rfl)
  go_wp2_with (go_at_call 53; refine (name_calls A1 c1 (ptAt l i).f1 (txAt names k) _ h1 h2 (Kd.C_drewN HCS.out 1)).mono ?_; rintro e w1 ⟨rfl, hb⟩; have HB := Aside0.mk ((pw_below_drewN (Below.refl _ _) 1).trans hb); clear hb)
  go_ret
  exact ⟨rfl, HB.out⟩
/-- What Match answers. -/
def matchB (pat p : ByteArray) : Bool × Int :=
  if (readB pat).2.2 = false then (false, 32)
  else if (splitB p 64).2 ≠ 0 then (false, (splitB p 64).2)
  else if (splitB p 64).1 = [] then (false, 0)
  else if (readB pat).2.1 = false then (partsM (readB pat).1 ((splitB p 64).1.drop ((splitB p 64).1.length - 1)), 0)
  else (partsM (readB pat).1 (splitB p 64).1, 0)
theorem cut_tail (A : Option Addr) (c : Nat) (l nl : List ByteArray) (hnl : l.drop (l.length - 1) = nl) (hl : 0 < l.length) (hc : l.length ≤ c) (hm : l.length ≤ 9223372036854775807) :
    ∃ (A' : Option Addr) (c' : Nat), (∀ W : World, (Instr.slice 54 (.slice A l.length c) (some (.int .i64 ((l.length : Int) - 1))) none none).run Tryz.prog W = .ok (.slice A' nl.length c') W) ∧
      ∀ w : World, Kd.C Kd.string w A l.length l → Kd.C Kd.string w A' nl.length nl := by
  subst hnl
  have hu : Tryz.prog.underlying 54 = some (.slice (Tryz.prog.elem 54)) := by kernel_rfl
  have hel : Tryz.prog.elem 54 = 9 := by kernel_rfl
  obtain ⟨i0, hi, hz⟩ := Option.map_eq_some_iff.1 infoStr
  simp only [Prod.mk.injEq] at hz
  have hn : ((l.length : Int) - 1).toNat = l.length - 1 := by omega
  refine ⟨if c = l.length - 1 then A else A.map (·.add ((l.length - 1) * 1)), c - (l.length - 1), fun W => ?_, fun w h => Kd.C_drop h (by omega) hc⟩
  rw [run_slice_l W 54 A l.length c hu .i64 ((l.length : Int) - 1) (by omega) (by omega), hel, hn]
  simp [sizeOf, typeInfo, hi, hz.2.1, sliced, Result.andThen]
theorem parts_small (l : List ByteArray) (n : Nat) (h : ∀ x ∈ l, x.size ≤ n) : ∀ r, partsL l = some r → r.1.length = l.length ∧ ∀ x ∈ r.1, x.f1.length ≤ n := by
  induction l with
  | nil => intro r hr; simp only [partsL, Option.some.injEq] at hr; subst hr; simp
  | cons a t ih =>
    intro r hr
    rw [partsL] at hr
    split at hr
    · rw [Option.map_eq_some_iff] at hr
      obtain ⟨q, hq, rfl⟩ := hr
      obtain ⟨h1, h2⟩ := ih (fun x hx => h x (by simp [hx])) q hq
      refine ⟨by simp [h1], fun x hx => ?_⟩
      rcases List.mem_cons.1 hx with rfl | hx
      · exact Nat.le_trans (signsOut_length a) (h a (by simp))
      · exact h2 x hx
    · cases hr
theorem read_small (pat : ByteArray) : (readB pat).1.length ≤ 256 ∧ ∀ x ∈ (readB pat).1, x.f1.length ≤ 255 := by
  unfold readB
  split
  · simp
  · rename_i h
    have ht := trim_size pat
    split
    · simp
    · split
      · simp
      · rename_i r hr
        obtain ⟨h1, h2⟩ := parts_small _ 255 (fun x hx => Nat.le_trans (pieces_size _ x hx) (by omega)) r hr
        refine ⟨?_, h2⟩
        rw [h1]
        exact pieces_few _ 255 (by omega)
theorem split_small (p : ByteArray) (n : Nat) (h : p.size ≤ n) : (splitB p 64).1.length ≤ n + 1 ∧ ∀ x ∈ (splitB p 64).1, x.size ≤ n := by
  unfold splitB
  split
  · simp
  · split
    · exact ⟨pieces_few p n h, fun x hx => Nat.le_trans (pieces_size p x hx) h⟩
    · simp
theorem ptAt_small (l : List Pt) (n : Nat) (h : ∀ x ∈ l, x.f1.length ≤ n) (i : Nat) : (ptAt l i).f1.length ≤ n := by
  unfold ptAt
  rw [List.getD_eq_getElem?_getD]
  cases hi : l[i]? with
  | none => simp [z96]
  | some x => exact h x (List.mem_of_getElem? hi)
theorem txAt_small (l : List ByteArray) (n : Nat) (h : ∀ x ∈ l, x.size ≤ n) (i : Nat) : (txAt l i).size ≤ n := by
  unfold txAt
  rw [List.getD_eq_getElem?_getD]
  cases hi : l[i]? with
  | none => simp
  | some x => exact h x (List.mem_of_getElem? hi)
set_option maxHeartbeats 2000000 in
set_option maxRecDepth 100000 in
theorem match_calls (pat p : ByteArray) (hp : p.size ≤ 1000000000) (w : World) :
    Calls Tryz.prog 21 #[.string pat, .string p] w fun e w' => e = .returned (.tuple #[.bool (matchB pat p).1, .int .i64 (matchB pat p).2]) ∧ Below w.heap.size w w' := by
  obtain ⟨r1, r2⟩ := read_small pat
  obtain ⟨s1, s2⟩ := split_small p _ hp
  have HR := Aside0.mk (read_calls pat w)
  have HS := Aside0.mk (fun W => split_calls p 64 (by omega) W)
  have HM := Aside0.mk (show matchB pat p = _ from rfl)
  have R1 := Aside0.mk r1
  have R2 := Aside0.mk r2
  have S1 := Aside0.mk s1
  have S2 := Aside0.mk s2
  unfold matchB
  clear r1 r2 s1 s2 HM
  generalize readB pat = rd at *
  generalize splitB p 64 = sp at *
  obtain ⟨parts, anch, ok⟩ := rd
  obtain ⟨names, e⟩ := sp
  dsimp only at *
  cases ok with
  | false =>
    rw [if_pos rfl]
    go_enter Tryz.func21, Tryz.ntmps21
    go_wp2_with (first | (go_at_call 48; refine HR.out.mono ?_; rintro e w1 ⟨v6, rfl, hR, hb⟩; obtain ⟨A6, c6, rfl, hl6, hC6⟩ := Kd.R_reads hR; have HB1 := Aside0.mk hb; have HC6 := Aside0.mk hC6; have HL6 := Aside0.mk hl6; clear hR hb hl6 hC6))
    go_ret2
    exact ⟨rfl, by repeat (first | exact HB1.out | apply below_alloc)⟩
  | true =>
    rw [if_neg (by decide)]
    by_cases he : e = 0
    case neg =>
      rw [if_pos he]
      have heb : (e != 0) = true := bne_iff_ne.mpr he
      have hec : (e == 0) = false := beq_eq_false_iff_ne.mpr he
      clear he
      go_enter Tryz.func21, Tryz.ntmps21
      go_wp2_with (first | (go_at_call 48; refine HR.out.mono ?_; rintro e w1 ⟨v6, rfl, hR, hb⟩; obtain ⟨A6, c6, rfl, hl6, hC6⟩ := Kd.R_reads hR; have HB1 := Aside0.mk hb; have HC6 := Aside0.mk hC6; have HL6 := Aside0.mk hl6; clear hR hb hl6 hC6) | (go_at_call 49; refine (HS.out _).mono ?_; rintro e w2 ⟨v9, rfl, hR, hb⟩; obtain ⟨A9, c9, rfl, hl9, hC9⟩ := Kd.R_reads hR; have HB2 := Aside0.mk hb; have HC9 := Aside0.mk hC9; have HL9 := Aside0.mk hl9; clear hR hb hl9 hC9))
      go_ret2
      refine ⟨rfl, ?_⟩
      have k1 := below_alloc HB1.out (.cells #[.slice A6 parts.length c6] 88)
      have k2 := k1.trans (HB2.out.mono k1.size)
      exact by repeat (first | exact k2 | apply below_alloc)
    case pos =>
      rw [if_neg (by simp [he])]
      have heb : (e != 0) = false := by simp [he]
      have hec : (e == 0) = true := by simp [he]
      subst he
      by_cases hn : names.length = 0
      case pos =>
        rw [if_pos (List.length_eq_zero_iff.1 hn)]
        have hnb : ((names.length : Int) == 0) = true := by rw [beq_iff_eq]; omega
        clear hn
        go_enter Tryz.func21, Tryz.ntmps21
        go_wp2_with (first | (go_at_call 48; refine HR.out.mono ?_; rintro e w1 ⟨v6, rfl, hR, hb⟩; obtain ⟨A6, c6, rfl, hl6, hC6⟩ := Kd.R_reads hR; have HB1 := Aside0.mk hb; have HC6 := Aside0.mk hC6; have HL6 := Aside0.mk hl6; clear hR hb hl6 hC6) | (go_at_call 49; refine (HS.out _).mono ?_; rintro e w2 ⟨v9, rfl, hR, hb⟩; obtain ⟨A9, c9, rfl, hl9, hC9⟩ := Kd.R_reads hR; have HB2 := Aside0.mk hb; have HC9 := Aside0.mk hC9; have HL9 := Aside0.mk hl9; clear hR hb hl9 hC9))
        go_ret2
        refine ⟨rfl, ?_⟩
        have k1 := below_alloc HB1.out (.cells #[.slice A6 parts.length c6] 88)
        have k2 := k1.trans (HB2.out.mono k1.size)
        exact by repeat (first | exact k2 | apply below_alloc)
      case neg =>
        rw [if_neg (fun e => hn (by rw [e]; rfl))]
        have hnb : ((names.length : Int) == 0) = false := by rw [beq_eq_false_iff_ne]; omega
        have hpos : 0 < names.length := by omega
        have hsn : names.length ≤ 1000000001 := S1.out
        clear hn
        cases anch with
        | true =>
          rw [if_neg (by decide)]
          go_enter Tryz.func21, Tryz.ntmps21
          go_wp2_with (first | (go_at_call 48; refine HR.out.mono ?_; rintro e w1 ⟨v6, rfl, hR, hb⟩; obtain ⟨A6, c6, rfl, hl6, hC6⟩ := Kd.R_reads hR; have HB1 := Aside0.mk hb; have HC6 := Aside0.mk hC6; have HL6 := Aside0.mk hl6; clear hR hb hl6 hC6) | (go_at_call 49; refine (HS.out _).mono ?_; rintro e w2 ⟨v9, rfl, hR, hb⟩; obtain ⟨A9, c9, rfl, hl9, hC9⟩ := Kd.R_reads hR; have HB2 := Aside0.mk hb; have HC9 := Aside0.mk hC9; have HL9 := Aside0.mk hl9; have hc6 : w2.cell? ⟨w1.heap.size, 0, none⟩ = some (.slice A6 parts.length c6) := pw_cell_below hb (by go_simp); have hz6 : w1.heap.size < w2.heap.size := Nat.le_trans (Nat.le_of_eq (by simp)) hb.size; clear hR hb hl9 hC9))
          have k1 := below_alloc HB1.out (.cells #[.slice A6 parts.length c6] 88)
          have k2 := k1.trans (HB2.out.mono k1.size)
          have k3 := below_alloc k2 (.cells #[.slice A9 names.length c9] 54)
          have k4 := below_alloc ((below_alloc (Below.refl w1.heap.size w1) (.cells #[.slice A6 parts.length c6] 88)).trans (HB2.out.mono (by simp))) (.cells #[.slice A9 names.length c9] 54)
          have k5 := Kd.C_below HC9.out (below_alloc (Below.refl w2.heap.size w2) (.cells #[.slice A9 names.length c9] 54))
          have p6 : (w2.alloc (.cells #[.slice A9 names.length c9] 54)).cell? ⟨w1.heap.size, 0, none⟩ = some (.slice A6 parts.length c6) := pw_cell_below (below_alloc (Below.refl w2.heap.size w2) _) hc6
          have p9 : (w2.alloc (.cells #[.slice A9 names.length c9] 54)).cell? ⟨w2.heap.size, 0, none⟩ = some (.slice A9 names.length c9) := by go_simp
          have NS := Aside0.mk S2.out
          have H0 := Aside0.mk k3
          have P6 := Aside0.mk p6
          have P9 := Aside0.mk p9
          have C6 := Aside0.mk (Kd.C_below HC6.out k4)
          have C9 := Aside0.mk k5
          generalize hw3 : w2.alloc (.cells #[.slice A9 names.length c9] 54) = w3 at H0 P6 P9 C6 C9 ⊢
          clear hw3
          refine (fits_Match ⟨w1.heap.size, 0, none⟩ ⟨w2.heap.size, 0, none⟩ parts.length names.length (ptMany parts) (ptOne parts names) w3 (by have := R1.out; omega) (by first | omega | (rw [List.length_drop]; omega))
            (fun x i W hx hi hb => match1_calls _ A6 c6 parts x i W hx hi (pw_cell_below hb P6.out) (Kd.C_below C6.out hb))
            (fun x y i k W hx hy hi hk hb => match2_calls _ _ A6 A9 c6 c9 parts names x y i k W hx hy hi hk (pw_cell_below hb P6.out) (Kd.C_below C6.out hb) (pw_cell_below hb P9.out) (Kd.C_below C9.out hb) (Nat.le_trans (ptAt_small parts 255 R2.out i) (by omega)) (Nat.le_trans (txAt_small _ 1000000000 NS.out k) (by omega)))).mono ?_
          rintro e w4 ⟨rfl, hb⟩
          have HB4 := Aside0.mk (H0.out.trans (hb.mono H0.out.size))
          clear hb
          go_wp2
          go_ret2
          exact ⟨rfl, HB4.out⟩
          
        | false =>
          rw [if_pos rfl]
          have NS := Aside0.mk (fun x (hx : x ∈ names.drop (names.length - 1)) => S2.out x (List.mem_of_mem_drop hx))
          have hnl2 : (names.drop (names.length - 1)).length ≤ 1000000001 := by rw [List.length_drop]; omega
          generalize hnl : names.drop (names.length - 1) = nl at *
          have HNL := Aside0.mk hnl
          clear hnl
          go_enter Tryz.func21, Tryz.ntmps21
          go_wp2_with (first | (go_at_call 48; refine HR.out.mono ?_; rintro e w1 ⟨v6, rfl, hR, hb⟩; obtain ⟨A6, c6, rfl, hl6, hC6⟩ := Kd.R_reads hR; have HB1 := Aside0.mk hb; have HC6 := Aside0.mk hC6; have HL6 := Aside0.mk hl6; clear hR hb hl6 hC6) | (go_at_call 49; refine (HS.out _).mono ?_; rintro e w2 ⟨v9, rfl, hR, hb⟩; obtain ⟨A9, c9, rfl, hl9, hC9⟩ := Kd.R_reads hR; obtain ⟨A', c', hcut, hC'⟩ := cut_tail A9 c9 names nl HNL.out hpos hl9 (by omega); have HB2 := Aside0.mk hb; have HC9 := Aside0.mk (hC' _ hC9); have hc6 : w2.cell? ⟨w1.heap.size, 0, none⟩ = some (.slice A6 parts.length c6) := pw_cell_below hb (by go_simp); have hz6 : w1.heap.size < w2.heap.size := Nat.le_trans (Nat.le_of_eq (by simp)) hb.size; clear hR hb hl9 hC9 hC'))
          have k1 := below_alloc HB1.out (.cells #[.slice A6 parts.length c6] 88)
          have k2 := k1.trans (HB2.out.mono k1.size)
          have k3 := below_alloc k2 (.cells #[.slice A' nl.length c'] 54)
          have k4 := below_alloc ((below_alloc (Below.refl w1.heap.size w1) (.cells #[.slice A6 parts.length c6] 88)).trans (HB2.out.mono (by simp))) (.cells #[.slice A' nl.length c'] 54)
          have k5 := Kd.C_below HC9.out (below_alloc (Below.refl w2.heap.size w2) (.cells #[.slice A' nl.length c'] 54))
          have p6 : (w2.alloc (.cells #[.slice A' nl.length c'] 54)).cell? ⟨w1.heap.size, 0, none⟩ = some (.slice A6 parts.length c6) := pw_cell_below (below_alloc (Below.refl w2.heap.size w2) _) hc6
          have p9 : (w2.alloc (.cells #[.slice A' nl.length c'] 54)).cell? ⟨w2.heap.size, 0, none⟩ = some (.slice A' nl.length c') := by go_simp
          have H0 := Aside0.mk k3
          have P6 := Aside0.mk p6
          have P9 := Aside0.mk p9
          have C6 := Aside0.mk (Kd.C_below HC6.out k4)
          have C9 := Aside0.mk k5
          generalize hw3 : w2.alloc (.cells #[.slice A' nl.length c'] 54) = w3 at H0 P6 P9 C6 C9 ⊢
          clear hw3
          refine (fits_Match ⟨w1.heap.size, 0, none⟩ ⟨w2.heap.size, 0, none⟩ parts.length nl.length (ptMany parts) (ptOne parts nl) w3 (by have := R1.out; omega) (by first | omega | (rw [List.length_drop]; omega))
            (fun x i W hx hi hb => match1_calls _ A6 c6 parts x i W hx hi (pw_cell_below hb P6.out) (Kd.C_below C6.out hb))
            (fun x y i k W hx hy hi hk hb => match2_calls _ _ A6 A' c6 c' parts nl x y i k W hx hy hi hk (pw_cell_below hb P6.out) (Kd.C_below C6.out hb) (pw_cell_below hb P9.out) (Kd.C_below C9.out hb) (Nat.le_trans (ptAt_small parts 255 R2.out i) (by omega)) (Nat.le_trans (txAt_small _ 1000000000 NS.out k) (by omega)))).mono ?_
          rintro e w4 ⟨rfl, hb⟩
          have HB4 := Aside0.mk (H0.out.trans (hb.mono H0.out.size))
          clear hb
          go_wp2
          go_ret2
          exact ⟨rfl, HB4.out⟩
end Go.Proofs.YtoidibkcdkdneaaGreatDoor.Hand
end
