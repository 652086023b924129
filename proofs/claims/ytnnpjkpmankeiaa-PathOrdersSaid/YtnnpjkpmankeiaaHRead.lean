/- The walk of path.read: the parts of a pattern, whether it is anchored, whether it may be. -/
import Derived.Test.YtnnpjkpmankeiaaHSign
import Derived.Test.YtnnpjkpmankeiaaHStr
import Derived.Test.YtnnpjkpmankeiaaHPieces
namespace Go.Proofs.Ytnnpjkpmankeiaa.Hand
open Go.RowKit Go.Proofs.Ytnnpjkpmankeiaa.MStr Go.Proofs.Ytnnpjkpmankeiaa.PRead Go.Proofs.YtnnpjkpmankeiaaW.PrintWords Go.Proofs.YtnnpjkpmankeiaaW.PrintLast Go.Proofs.YtnnpjkpmankeiaaW.PrintMore
set_option linter.unusedVariables false
set_option linter.unusedSimpArgs false

/-- A text without a slash at its very beginning. -/
def trimS (s : ByteArray) : ByteArray := if s.data.toList.head? = some 47 then s.extract 1 s.size else s
theorem trim_f (s : ByteArray) : strings_TrimPrefix.f s ⟨#[47]⟩ = some (trimS s) := by
  unfold strings_TrimPrefix.f stringslite_TrimPrefix.f stringslite_HasPrefix.f trimS
  have e1 : (((⟨#[47]⟩ : ByteArray).size : Nat) : Int) = 1 := rfl
  rw [e1]
  by_cases h : (s.size : Int) ≥ 1
  · rw [if_pos h, if_pos (by omega), if_pos (by omega)]
    have e2 : (s.extract 0 ((1 : Int) : Int).toNat).toList = [s.get! 0] := by
      rw [toList_data, extract_tx, tx_list, List.drop_zero]
      have := drop_get s 0 (by omega)
      rw [List.drop_zero] at this
      rw [this]
      rfl
    have e3 : s.data.toList.head? = some (s.get! 0) := by
      have := drop_get s 0 (by omega)
      rw [List.drop_zero] at this
      rw [this]
      rfl
    rw [e2, e3, toList_data]
    by_cases hc : s.get! 0 = 47
    · rw [hc]
      simp [h]
    · simp [hc]
  · rw [if_neg h]
    have e3 : s.data.toList = [] := by
      apply List.eq_nil_of_length_eq_zero
      have e4 : s.data.toList.length = s.size := by simp
      omega
    rw [e3]
    simp
theorem trim_size (s : ByteArray) : (trimS s).size ≤ s.size := by
  unfold trimS
  split <;> simp
/-- The parts of pieces, and how many signs stand for any bytes. -/
def partsL : List ByteArray → Option (List Pt × Nat)
  | [] => some ([], 0)
  | p :: t => if (signsOut p).2 = true then (partsL t).map fun r => ((⟨p.toList == [42, 42], (signsOut p).1⟩ : Pt) :: r.1, (signsOut p).1.countP (fun x => x.f0) + r.2) else none
/-- What read answers. -/
def readB (s : ByteArray) : List Pt × Bool × Bool :=
  if s.size < 1 ∨ 255 < s.size then ([], false, false)
  else if pieces (trimS s) = [] then ([], false, false)
  else match partsL (pieces (trimS s)) with
    | none => ([], false, false)
    | some r => (r.1, decide (0 ≤ Lib.indexByte s.data.toList 47), decide (r.2 ≤ 8))
theorem partsL_take (all : List ByteArray) (j : Nat) (hj : j < all.length) (l : List Pt) (n : Nat) (h : partsL (all.take j) = some (l, n)) :
    partsL (all.take (j + 1)) = if (signsOut all[j]).2 = true then some (l ++ [(⟨all[j].toList == [42, 42], (signsOut all[j]).1⟩ : Pt)], n + (signsOut all[j]).1.countP (fun x => x.f0)) else none := by
  rw [List.take_succ_eq_append_getElem hj]
  generalize all.take j = a at h
  generalize all[j] = p
  induction a generalizing l n with
  | nil =>
    simp only [partsL, Option.some.injEq, Prod.mk.injEq] at h
    obtain ⟨rfl, rfl⟩ := h
    simp only [List.nil_append, partsL]
    split <;> simp
  | cons q t ih =>
    simp only [List.cons_append, partsL] at h ⊢
    split at h
    · rename_i hq
      rw [if_pos hq]
      rw [Option.map_eq_some_iff] at h
      obtain ⟨r, hr, he⟩ := h
      simp only [Prod.mk.injEq] at he
      obtain ⟨rfl, rfl⟩ := he
      rw [ih r.1 r.2 hr]
      split
      · simp; omega
      · rfl
    · cases h
theorem partsL_none (all : List ByteArray) (j : Nat) (h : partsL (all.take j) = none) : partsL all = none := by
  rw [← List.take_append_drop j all]
  generalize all.take j = a at h
  generalize all.drop j = b
  induction a with
  | nil => simp [partsL] at h
  | cons q t ih =>
    simp only [List.cons_append, partsL] at h ⊢
    split at h
    · rename_i hq
      rw [if_pos hq]
      rw [Option.map_eq_none_iff] at h
      rw [ih h]
      rfl
    · rename_i hq
      rw [if_neg hq]
theorem signsOut_length (s : ByteArray) : (signsOut s).1.length ≤ s.size := by
  unfold signsOut
  split
  · simp
  · rename_i l hl
    have := signsL_length _ l hl
    have h2 : s.data.toList.length = s.size := by simp
    simp
    omega
theorem infoPt : (Try.prog.info? 77).map (fun i => (i.zero, i.size, i.bytes)) = some (some (.agg #[(.bool false), (.slice none 0 0)]), 2, 32) := by kernel_rfl

set_option maxHeartbeats 4000000 in
set_option maxRecDepth 100000 in
theorem read_calls (s : ByteArray) (w : World) :
    Calls Try.prog 56 #[.string s] w fun e w' => ∃ v0_ : Value, e = .returned (.tuple #[v0_, .bool (readB s).2.1, .bool (readB s).2.2]) ∧ Kd.R kPt 77 w' w.heap.size (fun _ => True) v0_ (readB s).1 ∧ Below w.heap.size w w' := by
  by_cases c1 : (s.size : Int) < 1
  · have hf : readB s = ([], false, false) := by rw [readB, if_pos (.inl (by omega))]
    rw [hf]
    have c1b : decide ((s.size : Int) < 1) = true := decide_eq_true c1
    have c1c : decide (s.size < 1) = true := decide_eq_true (by omega)
    clear c1 hf
    go_enter Try.func56, Try.ntmps56
    go_wp2
    go_ret3
    exact ⟨_, rfl, Kd.R_nil _ _ _ _ _, Below.refl _ _⟩
  have c1b : decide ((s.size : Int) < 1) = false := decide_eq_false c1
  have c1c : decide (s.size < 1) = false := decide_eq_false (by omega)
  by_cases c2 : (s.size : Int) > 255
  · have hf : readB s = ([], false, false) := by rw [readB, if_pos (.inr (by omega))]
    rw [hf]
    have c2b : decide (255 < (s.size : Int)) = true := decide_eq_true c2
    have c2c : decide (255 < s.size) = true := decide_eq_true (by omega)
    clear c1 c2 hf
    go_enter Try.func56, Try.ntmps56
    go_wp2
    go_ret3
    exact ⟨_, rfl, Kd.R_nil _ _ _ _ _, Below.refl _ _⟩
  have c2b : decide (255 < (s.size : Int)) = false := decide_eq_false c2
  have c2c : decide (255 < s.size) = false := decide_eq_false (by omega)
  have ht := trim_size s
  have hal : (pieces (trimS s)).length ≤ 256 := pieces_few _ _ (by omega)
  have hpz : ∀ x ∈ pieces (trimS s), x.size ≤ 255 := fun x hx => Nat.le_trans (pieces_size _ x hx) (by omega)
  have hpf : path_pieces.f (trimS s) = some (pieces (trimS s)) := by rw [path_pieces.f, if_pos (by omega)]
  have HPF := Aside0.mk hpf
  have HTF := Aside0.mk (trim_f s)
  have hrd : readB s = if pieces (trimS s) = [] then ([], false, false) else match partsL (pieces (trimS s)) with
    | none => ([], false, false)
    | some r => (r.1, decide (0 ≤ Lib.indexByte s.data.toList 47), decide (r.2 ≤ 8)) := by rw [readB, if_neg (by omega)]
  have HRD := Aside0.mk hrd
  have HAL := Aside0.mk hal
  have HPZ := Aside0.mk hpz
  clear hrd hpf ht c1 c2 hal hpz
  generalize pieces (trimS s) = all at *
  by_cases hz : all.length = 0
  · have hal : all = [] := List.length_eq_zero_iff.1 hz
    have hr := HRD.out
    rw [if_pos hal] at hr
    have hzb : ((all.length : Int) == 0) = true := by rw [beq_iff_eq]; omega
    have HR := Aside0.mk hr
    clear HRD hz hal hr
    go_enter Try.func56, Try.ntmps56
    go_wp2_with (first | (go_at_call 72; refine (strings_TrimPrefix.calls s ⟨#[47]⟩ (trimS s) _ HTF.out).mono ?_; rintro e w1 ⟨rfl, hb⟩; have HB1 := Aside0.mk hb.below; clear hb) | (go_at_call 53; refine (path_pieces.calls (trimS s) all _ HPF.out).mono ?_; rintro e w2 ⟨v5, rfl, hR, hb⟩; obtain ⟨A5, c5, rfl, hl5, hC5⟩ := Kd.R_reads hR; have HC5 := Aside0.mk hC5; have HB2 := Aside0.mk (HB1.out.trans (hb.mono HB1.out.size)); clear hR hb hl5 hC5))
    go_ret3
    exact ⟨_, by rw [HR.out]; rfl, by rw [HR.out]; exact Kd.R_nil _ _ _ _ _, HB2.out⟩
  · have hal : ¬ all = [] := fun e => hz (by rw [e]; rfl)
    have hr := HRD.out
    rw [if_neg hal] at hr
    have hzb : ((all.length : Int) == 0) = false := by rw [beq_eq_false_iff_ne]; omega
    have HR := Aside0.mk hr
    have hal2 : all.length ≤ 256 := HAL.out
    clear HRD hz hal hr
    go_enter Try.func56, Try.ntmps56
    go_wp2_with (first | (go_at_call 72; refine (strings_TrimPrefix.calls s ⟨#[47]⟩ (trimS s) _ HTF.out).mono ?_; rintro e w1 ⟨rfl, hb⟩; have HB1 := Aside0.mk hb.below; clear hb) | (go_at_call 53; refine (path_pieces.calls (trimS s) all _ HPF.out).mono ?_; rintro e w2 ⟨v5, rfl, hR, hb⟩; obtain ⟨A5, c5, rfl, hl5, hC5⟩ := Kd.R_reads hR; have HC5 := Aside0.mk hC5; have HB2 := Aside0.mk (HB1.out.trans (hb.mono HB1.out.size)); clear hR hb hl5 hC5))
    go_loopw [6, 7, 30] (fun v6 v7 v30 w' => ∃ (acc : List Pt) (n j : Nat), v7 = .int .i64 n ∧ v30 = .int .i64 j ∧ Aside0 (j ≤ all.length) ∧ Aside0 (n ≤ 65536 * j) ∧ Aside0 (partsL (all.take j) = some (acc, n)) ∧ Aside0 (acc.length ≤ j) ∧ Aside0 (Kd.R kPt 77 w' w2.heap.size (fun _ => True) v6 acc) ∧ Aside0 (Below w.heap.size w w') ∧ Aside0 (Below w2.heap.size w2 w')) (fun _ _ v30 _ => all.length - (intOf v30).toNat)
    case atStart => exact ⟨[], 0, 0, rfl, rfl, ⟨Nat.zero_le _⟩, ⟨Nat.zero_le _⟩, ⟨rfl⟩, ⟨Nat.le_refl _⟩, ⟨Kd.R_nil _ _ _ _ _⟩, HB2, ⟨Below.refl _ _⟩⟩
    case round =>
      obtain ⟨acc, n, j, rfl, rfl, HJ, HN, HP, HA, HO, HB, HB3⟩ := hrel
      have hj := HJ.out
      have hn := HN.out
      have ha := HA.out
      by_cases hlt : j < all.length
      · have hjb : decide ((j : Int) < (all.length : Int)) = true := decide_eq_true (by omega)
        have hjc : decide (j < all.length) = true := decide_eq_true hlt
        obtain ⟨ad, he, hcell⟩ := Kd.at_string (Kd.C_below HC5.out HB3.out) (j : Int) (by omega) (by omega)
        subst he
        rw [Int.toNat_natCast] at hcell
        have hrd : rdOf ByteArray.empty all (j : Int) = all[j] := by
          unfold rdOf
          rw [Int.toNat_natCast, List.getD_eq_getElem?_getD, List.getElem?_eq_getElem hlt]
          rfl
        rw [hrd] at hcell
        have hps := HPZ.out all[j] (List.getElem_mem hlt)
        have HPT := Aside0.mk (partsL_take all j hlt acc n HP.out)
        have HPN := Aside0.mk (fun h => partsL_none all (j + 1) h)
        clear hrd HP
        generalize all[j] = pc at *
        have hsl := signsOut_length pc
        by_cases hok : (signsOut pc).2 = true
        case neg =>
          have hok' : (signsOut pc).2 = false := by simpa using hok
          have hr := HR.out
          rw [HPN.out (by rw [HPT.out, if_neg hok])] at hr
          have HR' := Aside0.mk hr
          clear HR hr HPN HPT hok
          go_wp2_with (first | (go_at_call 73; refine (signs_calls pc (by omega) _).mono ?_; rintro e w3 ⟨v10, rfl, hR, hb⟩; have HB4 := Aside0.mk (HB.out.trans (hb.mono HB.out.size)); clear hR hb))
          go_ret3
          exact ⟨_, by rw [HR'.out]; rfl, by rw [HR'.out]; exact Kd.R_nil _ _ _ _ _, HB4.out⟩
        case pos =>
          have hpt := HPT.out
          rw [if_pos hok] at hpt
          have HPT' := Aside0.mk hpt
          have HOWN := Aside0.mk (Kd.R_own HO.out)
          clear HPT hpt HPN
          have HSL := Aside0.mk hsl
          clear hsl
          go_wp2_with (first | (go_at_call 73; refine (signs_calls pc (by omega) _).mono ?_; rintro e w3 ⟨v10, rfl, hR, hb⟩; have HR0 := Aside0.mk (Kd.R_lower (Kd.R_new hR HOWN.out.choose_spec) HB3.out.size); obtain ⟨A10, c10, rfl, hl10, hC10⟩ := Kd.R_reads hR; have HC10 := Aside0.mk hC10; have HO4 := Aside0.mk (Kd.R_below HO.out hb); have HB4 := Aside0.mk (HB.out.trans (hb.mono HB.out.size)); have HB5 := Aside0.mk (HB3.out.trans (hb.mono HB3.out.size)); clear hR hb hl10 hC10 HOWN; generalize (signsOut pc).1 = sg at *))
          obtain ⟨wo, rfl⟩ : ∃ wo : World, wo = w3 := ⟨_, rfl⟩
          have hsg := HSL.out
          go_loopw [7, 43] (fun v7 v43 w' => ∃ i : Nat, v43 = .int .i64 i ∧ v7 = .int .i64 ((n : Int) + (((sg.take i).countP (fun x => x.f0) : Nat) : Int)) ∧ Aside0 (i ≤ sg.length) ∧ Aside0 (Below wo.heap.size wo w')) (fun _ v43 _ => sg.length - (intOf v43).toNat)
          case atStart => exact ⟨0, rfl, by simp, ⟨Nat.zero_le _⟩, ⟨Below.refl _ _⟩⟩
          case round =>
            obtain ⟨i, rfl, rfl, HI, HB6⟩ := hrel
            have hi := HI.out
            by_cases hil : i < sg.length
            · have hib : decide ((i : Int) < (sg.length : Int)) = true := decide_eq_true (by omega)
              have hic : decide (i < sg.length) = true := decide_eq_true hil
              obtain ⟨ad1, he1, hx0, hx1, hx2⟩ := at_T143 (Kd.C_below HC10.out HB6.out) (i : Int) (by omega) (by omega)
              subst he1
              rw [Int.toNat_natCast] at hx0 hx1 hx2
              have hrd1 : rd_T143 sg (i : Int) = sg[i] := by
                unfold rd_T143
                rw [Int.toNat_natCast, List.getD_eq_getElem?_getD, List.getElem?_eq_getElem hil]
                rfl
              rw [hrd1] at hx0 hx1 hx2
              have hcnt : (sg.take (i + 1)).countP (fun x => x.f0) = (sg.take i).countP (fun x => x.f0) + (if sg[i].f0 = true then 1 else 0) := by
                rw [List.take_succ_eq_append_getElem hil, List.countP_append, List.countP_singleton]
              have hcl : (sg.take i).countP (fun x => x.f0) ≤ i := Nat.le_trans List.countP_le_length (List.length_take_le _ _)
              have HCN := Aside0.mk hcnt
              clear hcnt hrd1
              have hn2 : (n : Int) ≤ 16777216 := by omega
              have hi2 : (i : Int) ≤ 255 := by omega
              have hc2 : (((sg.take i).countP (fun x => x.f0) : Nat) : Int) ≤ 255 := by omega
              generalize hgi : sg[i] = x at *
              obtain ⟨x0, x1, x2⟩ := x
              clear hgi
              cases x0 with
              | true =>
                have hcn := HCN.out
                rw [if_pos rfl] at hcn
                have HCN' := Aside0.mk hcn
                clear HCN hcn
                go_wp2
                go_roundw
                case rel => exact ⟨i + 1, by go_num, by rw [HCN'.out]; go_num, ⟨by omega⟩, ⟨by repeat (first | exact HB6.out | apply below_alloc)⟩⟩
                case measure => simp only [intOf]; omega
              | false =>
                have hcn := HCN.out
                rw [if_neg Bool.false_ne_true] at hcn
                have HCN' := Aside0.mk hcn
                clear HCN hcn
                go_wp2
                go_roundw
                case rel => exact ⟨i + 1, by go_num, by rw [HCN'.out]; go_num, ⟨by omega⟩, ⟨by repeat (first | exact HB6.out | apply below_alloc)⟩⟩
                case measure => simp only [intOf]; omega
            · have hib : decide ((i : Int) < (sg.length : Int)) = false := decide_eq_false (by omega)
              have hic : decide (i < sg.length) = false := decide_eq_false hil
              have ht : sg.take i = sg := List.take_of_length_le (by omega)
              rw [ht]
              have hcl : sg.countP (fun x => x.f0) ≤ 255 := Nat.le_trans List.countP_le_length (by omega)
              have hn2 : (n : Int) ≤ 16777216 := by omega
              have hj2 : (j : Int) ≤ 256 := by omega
              have HO7 := Aside0.mk (Kd.R_below HO4.out HB6.out)
              have HR7 := Aside0.mk (Kd.R_below HR0.out HB6.out)
              have AS := Aside0.mk (show w2.heap.size ≤ wr.heap.size from Nat.le_trans HB5.out.size HB6.out.size)
              have AL := Aside0.mk (show (acc.length + 1) * 32 ≤ 140737488355328 by omega)
              clear ht
              go_wp2_with (first | ((with_reducible refine gate_builtin (b := .append) (xs := #[.tmp 52, .tmp 57]) rfl ?_); at_builtin; (refine Kd.R_append kPt (w0 := wr) w2.heap.size rfl (.tmp 52) (.tmp 57) 71 77 (.agg #[(.bool false), (.slice none 0 0)]) 32 rfl Try.underlying71 infoPt rfl (by decide) (by omega) u6 acc (⟨pc.toList == [42, 42], sg⟩ : Pt) [.bool (pc.toList == [42, 42]), .slice A10 sg.length c10] (fun _ => True) _ rfl rfl (k77_mkM _ _ _ (⟨pc.toList == [42, 42], sg⟩ : Pt) HR7.out) (fun k hk => ⟨trivial, hk.2⟩) (fun _ _ => trivial) HO7.out (Below.refl _ _) ?aS ?aL ?_); (case aS => exact AS.out); (case aL => exact AL.out); intro v1 w1 ho hb hg hat; have HO8 := Aside0.mk ho; have HB8 := Aside0.mk hb; clear ho hb hg hat))
              have HB9 := Aside0.mk (HB4.out.trans (HB6.out.mono HB4.out.size))
              have HB10 := Aside0.mk (HB9.out.trans (HB8.out.mono HB2.out.size))
              have HB11 := Aside0.mk ((HB5.out.trans (HB6.out.mono HB5.out.size)).trans HB8.out)
              go_roundw
              case rel => exact ⟨acc ++ [(⟨pc.toList == [42, 42], sg⟩ : Pt)], n + sg.countP (fun x => x.f0), j + 1, by go_num, by go_num, ⟨by omega⟩, ⟨by omega⟩, HPT', ⟨by rw [List.length_append, List.length_singleton]; omega⟩, HO8, HB10, HB11⟩
              case measure => simp only [intOf]; omega
      · have hjb : decide ((j : Int) < (all.length : Int)) = false := decide_eq_false (by omega)
        have hjc : decide (j < all.length) = false := decide_eq_false hlt
        have hp := HP.out
        rw [List.take_of_length_le (by omega)] at hp
        have hr := HR.out
        rw [hp] at hr
        have HR' := Aside0.mk hr
        have hn8 : (n : Int) ≤ 16777216 := by omega
        have HC := Aside0.mk (show strings_Contains.f s ⟨#[47]⟩ = some (decide (0 ≤ Lib.indexByte s.data.toList 47)) from rfl)
        clear HR hr HP hp
        go_wp2_with (first | (go_at_call 74; refine (strings_Contains.calls s ⟨#[47]⟩ _ _ HC.out).mono ?_; rintro e w3 ⟨rfl, hb⟩; have HB4 := Aside0.mk hb.below; have HB5 := Aside0.mk (HB.out.trans (hb.below.mono HB.out.size)); clear hb))
        go_ret3
        have e8 : decide ((n : Int) ≤ 8) = decide (n ≤ 8) := decide_eq_decide.2 (by omega)
        exact ⟨u6, by rw [HR'.out, ← e8]; rfl, by rw [HR'.out]; exact Kd.R_lower (Kd.R_below HO.out HB4.out) HB2.out.size, HB5.out⟩
end Go.Proofs.Ytnnpjkpmankeiaa.Hand
