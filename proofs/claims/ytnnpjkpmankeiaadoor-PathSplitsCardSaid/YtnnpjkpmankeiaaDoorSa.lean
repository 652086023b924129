/- path.pieces and path.Check as contracts; the reference's Pieces and Name. -/
import Derived.Test.YtnnpjkpmankeiaaDoorK3
import Derived.Test.YtnnpjkpmankeiaaDoorHPieces
import Derived.Test.YtnnpjkpmankeiaaDoorHCheck
namespace Go.Proofs.YtnnpjkpmankeiaaDoor.T
open Go.Proofs.YtnnpjkpmankeiaaDoor.E
open Go.Proofs.YtnnpjkpmankeiaaDoor.MStr
set_option maxRecDepth 100000
set_option linter.unusedVariables false
theorem flat_strs (l : List ByteArray) : (flat (K := KK) Kd.str l).map C.plain = l.map Value.string := by
  induction l with
  | nil => rfl
  | cons x t ih =>
    show Value.string x :: (flat (K := KK) Kd.str t).map C.plain = Value.string x :: t.map Value.string
    exact congrArg _ ih
theorem reps_strs {M : ByteArray → List Value → Prop} {l : List ByteArray} {cs : List Value} (hM : ∀ x c, M x c → c = [Value.string x]) (h : Go.Proofs.YtnnpjkpmankeiaaDoorW.PrintWords.Reps M 1 l cs) : cs = l.map Value.string := by
  obtain ⟨h1, h2⟩ := h
  apply List.ext_getElem?
  intro j
  rw [List.getElem?_map]
  cases hj : l[j]? with
  | none =>
    have := List.getElem?_eq_none_iff.1 hj
    rw [List.getElem?_eq_none (by omega)]; rfl
  | some x =>
    have h3 := hM _ _ (h2 j x hj)
    have h4 : ((cs.drop (j * 1)).take 1)[0]? = some (Value.string x) := by rw [h3]; rfl
    rw [List.getElem?_take, if_pos (by decide), List.getElem?_drop] at h4
    simpa using h4
/-- A list of texts that a call made, as a list of one's own. -/
theorem own_texts {r : Nat → Ref} {w w' : World} {v : Value} {l : List ByteArray} (st : HeapOK (K := KK) (Ours r ([] : VH KK)) w r [] w) (hb : Go.RowKit.Below w.heap.size w w') (h : Go.Proofs.YtnnpjkpmankeiaaDoorW.PrintWords.Kd.R Go.Proofs.YtnnpjkpmankeiaaDoorW.PrintWords.Kd.string 9 w' w.heap.size (fun _ => True) v l) :
    ∃ r' : Nat → Ref, HeapOK (Ours r ([] : VH KK)) w r' [(.arr Kd.str l : Atom KK)] w' ∧ (C.slc 0 0 l.length none).is r' v := by
  obtain ⟨_, inner, ho, hr⟩ := h
  obtain rfl := reps_strs (fun x c hc => hc) hr
  have ho : w'.ownsRow w.heap.size 9 1 v l.length (l.map Value.string) := ho
  have hbase : ∀ b, v.ownBlock = some b → w.heap.size ≤ b := fun b hb => Go.Proofs.YtnnpjkpmankeiaaDoorW.PrintWords.own_base ho b hb
  have ho0 : w'.ownsRow 0 (KK.elem Kd.str) (KK.size Kd.str) v l.length ((flat (K := KK) Kd.str l).map C.plain) := by
    rw [flat_strs]; exact Go.Proofs.YtnnpjkpmankeiaaDoorW.PrintWords.own_weaken ho (Nat.zero_le _)
  obtain ⟨x, hx, hsz, st2⟩ := st.owned none (row := none) ⟨hb.os, hb.tape, hb.output, hb.size, fun b hb' _ => hb.block b hb'⟩ (fun b hb' => by cases hb') ho0 (fun b hb' => .inr (hbase b hb'))
  refine ⟨_, st2, ?_⟩
  rw [hx]
  exact val_is (N := 0) upd_new hsz.2
def ct_pieces (s : ByteArray) : Ct KK := { need := s.size ≤ 8796093022206, pre := [], args := [.c (.str s)], Y := Unit, ok := fun _ => True, ret := fun _ => .c (.slc 0 0 (pieces s).length none), post := fun _ => [.arr .str (pieces s)] }
theorem pieces_ok (s : ByteArray) : CtOk Tryd.prog 12 (ct_pieces s) := by
  refine ⟨fun _ _ => rfl, fun hn r w vals st ha _ => ?_⟩
  have hn : s.size ≤ 8796093022206 := hn
  match vals, ha with
  | [v0], ⟨hv0, _⟩ =>
    have hv0 : v0 = .string s := hv0
    subst hv0
    refine (Hand.path_pieces.calls s (pieces s) w (if_pos hn)).mono ?_
    rintro e w' ⟨v, rfl, hR, hb⟩
    obtain ⟨r', st', hv⟩ := own_texts st hb hR
    exact ⟨v, rfl, r', _, _, ⟨(), trivial, rfl, rfl⟩, hv, fun n hn => (by simp [C.nm] at hn; subst hn; exact Nat.zero_lt_one), Nat.zero_le _, fun n hn => absurd hn (Nat.not_lt_zero n), RoKeep.none rfl, st'⟩
/-- What Check answers. -/
def chk (s : ByteArray) : Int := if nameB s = true then 0 else 30
def ct_check (s : ByteArray) : Ct KK := { need := True, pre := [], args := [.c (.str s)], Y := Unit, ok := fun _ => True, ret := fun _ => i64 (chk s), post := fun _ => [] }
theorem empty_ok {r : Nat → Ref} {w w' : World} (st : HeapOK (K := KK) (Ours r ([] : VH KK)) w r [] w) (h : Go.RowKit.Below w.heap.size w w') : HeapOK (K := KK) (Ours r ([] : VH KK)) w r [] w' := by
  have off : ∀ n, at_ ([] : VH KK) n = .gone := fun n => at_ge (by simp)
  refine ⟨fun n => by rw [off]; trivial, fun n => by rw [off]; trivial, fun n m b _ h1 => ?_, fun n b h1 => ?_, fun n m b h1 => ?_, ⟨h.os, h.tape, h.output, h.size, fun b hb _ => h.block b hb⟩⟩
  · rw [blkOf, off] at h1; exact h1.elim
  · rw [blkOf, off] at h1; exact h1.elim
  · rw [rbOf, off] at h1; simp [Atom.rb] at h1
theorem check_ok (s : ByteArray) : CtOk Tryd.prog 13 (ct_check s) := by
  refine ⟨fun _ _ => rfl, fun hn r w vals st ha _ => ?_⟩
  match vals, ha with
  | [v0], ⟨hv0, _⟩ =>
    have hv0 : v0 = .string s := hv0
    subst hv0
    refine (Hand.path_Check.calls s _ w rfl).mono ?_
    rintro e w' ⟨rfl, hb⟩
    exact ⟨_, rfl, r, _, _, ⟨(), trivial, rfl, rfl⟩, rfl, lt_of_nm rfl, Nat.le_refl _, fun _ _ => rfl, RoKeep.none rfl, empty_ok st hb⟩
theorem bt_get (s : ByteArray) (j : Nat) : bt s j = ((s.get! j).toNat : Int) := by
  unfold bt ByteArray.get!
  simp [Array.getElem!_eq_getD]
  rfl
def ct_rpieces (s : ByteArray) : Ct KK := { need := s.size ≤ 1000000, pre := [], args := [.c (.str s)], Y := Unit, ok := fun _ => True, ret := fun _ => .c (.slc 0 0 (pieces s).length none), post := fun _ => [.arr .str (pieces s)] }
def inv_rpieces (s : ByteArray) : Inv KK := { X := List ByteArray × Nat × Nat, fr := fun z => [.c (.str s), .any, .any, .c (.slc 0 0 z.1.length none), i64 z.2.1, i64 z.2.2] ++ anys 27, H := fun z => [.arr .str z.1], ok := fun z => Cutting s z.1 z.2.1 z.2.2, meas := fun z => s.size - z.2.2 }
def ann_rpieces (s : ByteArray) : Ann KK := { loop := fun _ _ _ => some (inv_rpieces s), cut := fun _ _ _ => none, keep := some 6 }
def ct_rname (s : ByteArray) : Ct KK := { need := s.size ≤ 1000000, pre := [], args := [.c (.str s)], Y := Unit, ok := fun _ => True, ret := fun _ => boolv (nameB s), post := fun _ => [] }
def inv_rname (s : ByteArray) : Inv KK := { X := Nat, fr := fun i => [.c (.str s), .any, .any, i64 i] ++ anys 32, H := fun _ => [], ok := fun i => i ≤ s.size ∧ goodTo s i, meas := fun i : Nat => s.size - i }
def ann_rname (s : ByteArray) : Ann KK := { loop := fun _ _ _ => some (inv_rname s), cut := fun _ _ _ => none, keep := some 4 }
theorem vc_rpieces (s : ByteArray) : evFn tab0 (ann_rpieces s) Tryd.f10 (ct_rpieces s) = ( ite2 (decide (s.toList = (ByteArray.mk (#[])).toList)) (EndsAs 0 (ct_rpieces s) (VV.one (V1.c C.nils)) []) (Enter 0 (inv_rpieces s) (fun (x : List ByteArray × Nat × Nat) => True) ([VV.one (V1.c (C.str
 s)), VV.any, VV.one (V1.c C.nils), VV.one (V1.c C.nils), i64 (0 : Int), i64 (0 : Int)] ++ anys 27) [] ∧ ∀ (z : List ByteArray × Nat × Nat), Cutting s z.fst z.snd.fst z.snd.snd → ite2 (decide ((↑z.snd.snd
 : Int) < (↑s.size : Int))) (((0 : Int) ≤ (↑z.snd.snd : Int) ∧ (↑z.snd.snd : Int) < (↑s.size : Int)) ∧ ite2 (decide (bt s (↑z.snd.snd : Int).toNat = (47 : Int))) (((0 : Int) ≤ (↑z.snd.fst : Int) ∧ (↑z.snd.fst
 : Int) ≤ (↑z.snd.snd : Int) ∧ (↑z.snd.snd : Int) ≤ (↑s.size : Int)) ∧ z.fst.length = z.fst.length ∧ (1 ≤ 1 ∧ True) ∧ (z.fst.length + 1) * 16 ≤ 140737488355328 ∧ i64ok ((↑z.snd.snd : Int) + (1 : Int)) ∧
 i64ok ((↑z.snd.snd : Int) + (1 : Int)) ∧ Enter 0 (inv_rpieces s) (fun (z' : List ByteArray × Nat × Nat) => s.size - z'.snd.snd < s.size - z.snd.snd) ([VV.one (V1.c (C.str s)), VV.any, VV.any, VV.one (V1.c
 (C.slc 2 0 (z.fst.length + 1) none)), i64 ((↑z.snd.snd : Int) + (1 : Int)), i64 ((↑z.snd.snd : Int) + (1 : Int))] ++ anys 27) [Atom.gone, Atom.arr Kd.str [s.extract (↑z.snd.fst : Int).toNat (↑z.snd.snd
 : Int).toNat], Atom.arr Kd.str (z.fst ++ [s.extract (↑z.snd.fst : Int).toNat (↑z.snd.snd : Int).toNat])]) (i64ok ((↑z.snd.snd : Int) + (1 : Int)) ∧ Enter 0 (inv_rpieces s) (fun (z' : List ByteArray × Nat
 × Nat) => s.size - z'.snd.snd < s.size - z.snd.snd) ([VV.one (V1.c (C.str s)), VV.any, VV.any, VV.one (V1.c (C.slc 0 0 z.fst.length none)), i64 (↑z.snd.fst : Int), i64 ((↑z.snd.snd : Int) + (1 : Int))]
 ++ anys 27) [Atom.arr Kd.str z.fst])) (((0 : Int) ≤ (↑z.snd.fst : Int) ∧ (↑z.snd.fst : Int) ≤ (↑s.size : Int) ∧ (↑s.size : Int) ≤ (↑s.size : Int)) ∧ z.fst.length = z.fst.length ∧ (1 ≤ 1 ∧ True) ∧ (z.fst.length
 + 1) * 16 ≤ 140737488355328 ∧ EndsAs 0 (ct_rpieces s) (VV.one (V1.c (C.slc 2 0 (z.fst.length + 1) none))) [Atom.gone, Atom.arr Kd.str [s.extract (↑z.snd.fst : Int).toNat (↑s.size : Int).toNat], Atom.arr
 Kd.str (z.fst ++ [s.extract (↑z.snd.fst : Int).toNat (↑s.size : Int).toNat])]))) := by kernel_rfl
theorem vc_rname (s : ByteArray) : evFn tab0 (ann_rname s) Tryd.f11 (ct_rname s) = ( ite2 (decide ((↑s.size : Int) < (1 : Int))) (EndsAs 0 (ct_rname s) (boolv false) []) (ite2 (decide ((255 : Int) < (↑s.size : Int))) (EndsAs 0 (ct_rname s) (boolv false) []) (ite2 (decide (s.toList = (ByteArray.mk
 (#[(46 : UInt8)])).toList)) (EndsAs 0 (ct_rname s) (boolv false) []) (ite2 (decide (s.toList = (ByteArray.mk (#[(46 : UInt8), (46 : UInt8)])).toList)) (EndsAs 0 (ct_rname s) (boolv false) []) (Enter 0
 (inv_rname s) (fun (x : Nat) => True) ([VV.one (V1.c (C.str s)), VV.any, boolv false, i64 (0 : Int)] ++ anys 32) [] ∧ ∀ (z : Nat), z ≤ s.size ∧ goodTo s z → ite2 (decide ((↑z : Int) < (↑s.size : Int)))
 (((0 : Int) ≤ (↑z : Int) ∧ (↑z : Int) < (↑s.size : Int)) ∧ ite2 (decide (bt s (↑z : Int).toNat = (47 : Int))) (EndsAs 0 (ct_rname s) (boolv false) []) (((0 : Int) ≤ (↑z : Int) ∧ (↑z : Int) < (↑s.size :
 Int)) ∧ ite2 (decide (bt s (↑z : Int).toNat = (0 : Int))) (EndsAs 0 (ct_rname s) (boolv false) []) (i64ok ((↑z : Int) + (1 : Int)) ∧ Enter 0 (inv_rname s) (fun (z' : Nat) => s.size - z' < s.size - z) ([VV.one
 (V1.c (C.str s)), VV.any, VV.any, i64 ((↑z : Int) + (1 : Int))] ++ anys 32) []))) (EndsAs 0 (ct_rname s) (boolv true) [])))))) := by kernel_rfl
theorem rpieces_ok (s : ByteArray) : CtOk Tryd.prog 10 (ct_rpieces s) := CtOk_of KK_ok tab0 (ann_rpieces s) (fn := Tryd.f10) rfl (fun _ _ => rfl) fun hn => by
  have hn : s.size ≤ 1000000 := hn
  rw [vc_rpieces]
  simp only [Int.toNat_natCast, Nat.zero_add, Nat.add_zero]
  refine ite2_decide (fun h => ?_) (fun h => ⟨⟨([], (0 : Nat), (0 : Nat)), [.str], [0], Cutting.start s, trivial, into_mk (by kernel_rfl) (by (repeat' first | exact trivial | exact rfl | apply And.intro)) (by (repeat' first | exact trivial | exact rfl | apply And.intro))⟩, ?_⟩)
  · have hq : pieces s = [] := by
      have h : s.toList = [] := h.trans (toList_data _)
      rw [pieces, if_pos h]
    have hq1 : (pieces s).length = 0 := by rw [hq]; rfl
    have hq2 : [] = pieces s := hq.symm
    exact ⟨(), [.str], [0], trivial, by (repeat' first | exact trivial | exact rfl | exact hq1 | exact hq2 | apply And.intro)⟩
  · rintro ⟨acc, a, b⟩ hz
    have hz : Cutting s acc a b := hz
    have h1 := hz.few
    have h2 := hz.le
    have h3 := hz.le'
    dsimp only
    refine ite2_decide (fun hl => ?_) (fun hl => ?_)
    · have hl1 : b < s.size := by omega
      refine ⟨⟨by omega, by omega⟩, ite2_decide (fun hs => ?_) (fun hs => ?_)⟩
      · have hs : bt s b = 47 := hs
        rw [bt_get] at hs
        have hs1 : s.get! b = 47 := by
          apply UInt8.toNat_inj.1
          show (s.get! b).toNat = 47
          omega
        have hq3 : acc.length + 1 = (acc ++ [s.extract a b]).length := by simp
        exact ⟨⟨by omega, by omega, by omega⟩, trivial, ⟨Nat.le_refl _, trivial⟩, by omega, by unfold i64ok; omega, by unfold i64ok; omega, (acc ++ [s.extract a b], b + 1, b + 1), [], [2], hz.slash hl1 hs1, by show s.size - (b + 1) < s.size - b; omega, into_mk (by kernel_rfl) (by (repeat' first | exact trivial | exact rfl | exact hq3 | apply And.intro)) (by (repeat' first | exact trivial | exact rfl | exact hq3 | apply And.intro))⟩
      · have hs : ¬ bt s b = 47 := hs
        rw [bt_get] at hs
        have hp : Cutting s acc a (b + 1) := hz.pass hl1 fun j j1 j2 e => by
          obtain rfl : j = b := by omega
          rw [e] at hs
          exact hs rfl
        exact ⟨by unfold i64ok; omega, (acc, a, b + 1), [], [0], hp, by show s.size - (b + 1) < s.size - b; omega, into_mk (by kernel_rfl) (by (repeat' first | exact trivial | exact rfl | apply And.intro)) (by (repeat' first | exact trivial | exact rfl | apply And.intro))⟩
    · have hf := hz.fin (by omega) (fun e => h (e.trans (toList_data ⟨#[]⟩).symm))
      have hq1 : acc.length + 1 = (pieces s).length := by rw [hf]; simp
      have hq2 : acc ++ [s.extract a s.size] = pieces s := hf.symm
      exact ⟨⟨by omega, by omega, by omega⟩, trivial, ⟨Nat.le_refl _, trivial⟩, by omega, (), [], [2], trivial, by (repeat' first | exact trivial | exact rfl | exact hq1 | exact hq2 | apply And.intro)⟩
theorem rname_ok (s : ByteArray) : CtOk Tryd.prog 11 (ct_rname s) := CtOk_of KK_ok tab0 (ann_rname s) (fn := Tryd.f11) rfl (fun _ _ => rfl) fun hn => by
  have hn : s.size ≤ 1000000 := hn
  rw [vc_rname]
  simp only [Int.toNat_natCast, Nat.zero_add, Nat.add_zero]
  have no : ∀ b : Bool, b = nameB s → EndsAs 0 (ct_rname s) (boolv b) [] := fun b hb => by
    subst hb
    exact ⟨(), [], [], trivial, by (repeat' first | exact trivial | exact rfl | apply And.intro)⟩
  refine ite2_decide (fun h1 => no _ ?_) (fun h1 => ite2_decide (fun h2 => no _ ?_) (fun h2 => ite2_decide (fun h3 => no _ ?_) (fun h3 => ite2_decide (fun h4 => no _ ?_) (fun h4 => ⟨⟨(0 : Nat), [], [], ⟨Nat.zero_le _, goodTo_zero s⟩, trivial, into_mk (by kernel_rfl) (by (repeat' first | exact trivial | exact rfl | apply And.intro)) (by (repeat' first | exact trivial | exact rfl | apply And.intro))⟩, ?_⟩))))
  · have : decide (1 ≤ s.size) = false := decide_eq_false (by omega)
    simp [nameB, this]
  · have : decide (s.size ≤ 255) = false := decide_eq_false (by omega)
    simp [nameB, this]
  · have h3 : s.toList = [46] := h3.trans (toList_data _)
    simp [nameB, h3]
  · have h4 : s.toList = [46, 46] := h4.trans (toList_data _)
    simp [nameB, h4]
  have h3 : ¬ s.toList = [46] := fun e => h3 (e.trans (toList_data ⟨#[46]⟩).symm)
  have h4 : ¬ s.toList = [46, 46] := fun e => h4 (e.trans (toList_data ⟨#[46, 46]⟩).symm)
  have h5 : decide (1 ≤ s.size) = true := decide_eq_true (by omega)
  have h6 : decide (s.size ≤ 255) = true := decide_eq_true (by omega)
  have hnb : nameB s = !(s.data.toList.any badByte) := by
    simp [nameB, h3, h4, h5, h6]
  rintro i ⟨hi, hg⟩
  refine ite2_decide (fun hl => ?_) (fun hl => no _ ?_)
  · have hl1 : i < s.size := by omega
    refine ⟨⟨by omega, by omega⟩, ite2_decide (fun hs => no _ ?_) (fun hs => ⟨⟨by omega, by omega⟩, ite2_decide (fun hz => no _ ?_) (fun hz => ?_)⟩)⟩
    · have hs : bt s i = 47 := hs
      rw [bt_get] at hs
      rw [hnb, not_good s i hl1 (by simp only [badByte, Bool.or_eq_true, beq_iff_eq]; left; omega)]
      rfl
    · have hz : bt s i = 0 := hz
      rw [bt_get] at hz
      rw [hnb, not_good s i hl1 (by simp only [badByte, Bool.or_eq_true, beq_iff_eq]; right; omega)]
      rfl
    · have hs : ¬ bt s i = 47 := hs
      have hz : ¬ bt s i = 0 := hz
      rw [bt_get] at hs hz
      have hb : badByte (s.get! i) = false := by
        simp only [badByte, Bool.or_eq_false_iff, beq_eq_false_iff_ne]
        exact ⟨by omega, by omega⟩
      exact ⟨by unfold i64ok; omega, (i + 1 : Nat), [], [], ⟨hl1, goodTo_ascii s i hg hb⟩, by omega, into_mk (by kernel_rfl) (by (repeat' first | exact trivial | exact rfl | apply And.intro)) (by (repeat' first | exact trivial | exact rfl | apply And.intro))⟩
  · rw [hnb, goodTo_all s i (by omega) hg]
    rfl
end Go.Proofs.YtnnpjkpmankeiaaDoor.T
