/- The book: what was written full is laid on. -/
import Derived.Test.YtndlpbheifalhaaGreatDoorBd
namespace Go.Proofs.YtndlpbheifalhaaGreatDoor.T
open Go.Proofs.YtndlpbheifalhaaGreatDoor.E
set_option maxRecDepth 100000
set_option linter.unusedVariables false
def ct_gT (B : BS) (φ : Bag KK) : Ct KK := { need := BookOk φ B, pre := bookH B ++ [.bag φ], args := [.c (.ptr 0 0 0)], Y := BS × Bag KK, ok := fun y => (BookOk y.2 y.1 ∧ SameB B y.1 ∧ Stays φ B.bk y.2 y.1.bk) ∧ y.1.f = [] ∧ y.1.r = [], ret := fun _ => .tup [], post := fun y => bookM y.1 y.2 }
def gkH (B : BS) (o t : List RS) (φ : Bag KK) : VH KK :=
  [.cells 46 (bookC false false B.turn B.deep [.slc 10 0 o.length none, .slc 11 0 t.length none, .slc 3 0 B.w.length none, .slc 4 0 B.n.length none, .slc 5 0 B.f.length none, .slc 6 0 B.m.length none, .slc 7 0 B.d.length none, .slc 8 0 B.r.length none, .int .i64 B.seen]),
   .gone, .gone, .arr .ru8 B.w, .arr .ru8 B.n, .arr .ru8 B.f, .arr .int B.m, .arr .int B.d, .arr .int B.r, .bag φ, .arr .ru8 o, .arr .ru8 t]
def GrowOk (B : BS) (o t : List RS) (φ : Bag KK) (k : Nat) : Prop := BkOk φ Kd.u8 1000000 ⟨o, t, B.w, B.n, B.f.drop k⟩ ∧ HasTab φ ∧ (o.length : Int) + 2 * B.w.length + (B.f.length - k : Nat) = 2 * B.seen
def inv_gT (B : BS) (φ : Bag KK) : Inv KK := { X := List RS × List RS × Bag KK × Nat, fr := fun z => [.c (.ptr 0 0 0), .any, i64 z.2.2.2] ++ anys 67, H := fun z => gkH B z.1 z.2.1 z.2.2.1, ok := fun z => z.2.2.2 ≤ B.f.length ∧ GrowOk B z.1 z.2.1 z.2.2.1 z.2.2.2 ∧ Stays φ B.bk z.2.2.1 ⟨z.1, z.2.1, B.w, B.n, B.f.drop z.2.2.2⟩, meas := fun z => B.f.length - z.2.2.2 }
def inv_gTi (B : BS) (o t : List RS) (k : Int) (mark : Int) (φ : Bag KK) : Inv KK := { X := Nat × RS × Bag KK, fr := fun z => [.c (.ptr 0 0 0), .any, i64 k, i64 mark, .c (.rs 5 1 z.2.1), i64 z.1] ++ anys 64, H := fun z => gkH B o t z.2.2, ok := fun z => z.1 ≤ 150 ∧ BkOk z.2.2 Kd.u8 1000000 ⟨o, t, B.w, B.n, B.f.drop (k.toNat + 1)⟩ ∧ Cur z.2.2 Kd.u8 (1000000 + z.1) ⟨o, t, B.w, B.n, B.f.drop (k.toNat + 1)⟩ z.2.1 ∧ HasTab z.2.2 ∧ Cur1 φ ⟨o, t, B.w, B.n, B.f.drop k.toNat⟩ z.2.1 z.2.2, meas := fun z => 150 - z.1 }
def loop_gT (B : BS) (φ : Bag KK) (id : Nat) (fr : List VV) (H : VH KK) : Option (Inv KK) := match id with
  | 1 => some (inv_gT B φ)
  | _ => match fr.getD 2 .any, fr.getD 3 .any, at_ H 9, at_ H 10, at_ H 11 with
    | .one (.c (.int _ k)), .one (.c (.int _ mark)), .bag φ1, .arr .ru8 o, .arr .ru8 t => some (inv_gTi B o t k mark φ1)
    | _, _, _, _, _ => none
def ann_gT (B : BS) (φ : Bag KK) : Ann KK := { loop := loop_gT B φ, cut := fun _ _ _ => none, keep := some 6 }
theorem vc_gT (B : BS) (φ : Bag KK) : evFn tabB (ann_gT B φ) Tryz.f108 (ct_gT B φ) = ( Enter 10 (inv_gT B φ) (fun (x : List RS × List RS × Bag KK × Nat) => True) ([VV.one (V1.c (C.ptr 0 0 0)), VV.any, i64 (0 : Int)] ++ anys 67) [Atom.cells 46 (bookC false false B.turn B.deep [C.slc 1 0
 B.o.length none, C.slc 2 0 B.t.length none, C.slc 3 0 B.w.length none, C.slc 4 0 B.n.length none, C.slc 5 0 B.f.length none, C.slc 6 0 B.m.length none, C.slc 7 0 B.d.length none, C.slc 8 0 B.r.length none,
 C.int .i64 B.seen]), Atom.arr Kd.ru8 B.o, Atom.arr Kd.ru8 B.t, Atom.arr Kd.ru8 B.w, Atom.arr Kd.ru8 B.n, Atom.arr Kd.ru8 B.f, Atom.arr Kd.int B.m, Atom.arr Kd.int B.d, Atom.arr Kd.int B.r, Atom.bag φ]
 ∧ ∀ (z : List RS × List RS × Bag KK × Nat), (z.snd.snd.snd ≤ B.f.length ∧ GrowOk B z.fst z.snd.fst z.snd.snd.fst z.snd.snd.snd ∧ ∀ (b : Nat) (i : BI KK), φ b = some i → (∀ (y : RS), List.Mem y (B.o ++
 (B.t ++ (B.w ++ (B.n ++ B.f)))) → ¬y.At b) → z.snd.snd.fst b = some i ∧ ∀ (y : RS), List.Mem y (z.fst ++ (z.snd.fst ++ (B.w ++ (B.n ++ List.drop z.snd.snd.snd B.f)))) → ¬y.At b) → ite2 (decide ((↑z.snd.snd.snd
 : Int) < (↑B.f.length : Int))) (((0 : Int) ≤ (↑z.snd.snd.snd : Int) ∧ (↑z.snd.snd.snd : Int) < (↑B.r.length : Int)) ∧ (↑z.snd.snd.snd : Int).toNat < B.r.length ∧ True ∧ (↑z.snd.snd.snd : Int).toNat < B.r.length
 ∧ ((0 : Int) ≤ (↑z.snd.snd.snd : Int) ∧ (↑z.snd.snd.snd : Int) < (↑B.f.length : Int)) ∧ (↑z.snd.snd.snd : Int).toNat < B.f.length ∧ True ∧ (↑z.snd.snd.snd : Int).toNat < B.f.length ∧ Enter 10 (inv_gTi
 B z.fst z.snd.fst (↑z.snd.snd.snd : Int) (rd B.r (↑z.snd.snd.snd : Int).toNat (0 : Int)) z.snd.snd.fst) (fun (x : Nat × RS × Bag KK) => True) ([VV.one (V1.c (C.ptr 0 0 0)), VV.any, i64 (↑z.snd.snd.snd
 : Int), i64 (rd B.r (↑z.snd.snd.snd : Int).toNat (0 : Int)), VV.one (V1.c (C.rs 5 1 (rd B.f (↑z.snd.snd.snd : Int).toNat RS.nil))), i64 (0 : Int)] ++ anys 64) [Atom.cells 46 (bookC false false B.turn B.deep
 [C.slc 10 0 z.fst.length none, C.slc 11 0 z.snd.fst.length none, C.slc 3 0 B.w.length none, C.slc 4 0 B.n.length none, C.slc 5 0 B.f.length none, C.slc 6 0 B.m.length none, C.slc 7 0 B.d.length none, C.slc
 8 0 B.r.length none, C.int .i64 B.seen]), Atom.gone, Atom.gone, Atom.arr Kd.ru8 B.w, Atom.arr Kd.ru8 B.n, Atom.arr Kd.ru8 B.f, Atom.arr Kd.int B.m, Atom.arr Kd.int B.d, Atom.arr Kd.int B.r, Atom.bag z.snd.snd.fst,
 Atom.arr Kd.ru8 z.fst, Atom.arr Kd.ru8 z.snd.fst] ∧ ∀ (z_1 : Nat × RS × Bag KK), (z_1.fst ≤ 150 ∧ BkOk z_1.snd.snd Kd.u8 1000000 (Bk.mk (z.fst) (z.snd.fst) (B.w) (B.n) (List.drop ((↑z.snd.snd.snd : Int).toNat
 + 1) B.f)) ∧ Cur z_1.snd.snd Kd.u8 (1000000 + z_1.fst) (Bk.mk (z.fst) (z.snd.fst) (B.w) (B.n) (List.drop ((↑z.snd.snd.snd : Int).toNat + 1) B.f)) z_1.snd.fst ∧ HasTab z_1.snd.snd ∧ ∀ (b : Nat) (i : BI
 KK), z.snd.snd.fst b = some i → (∀ (y : RS), List.Mem y (z.fst ++ (z.snd.fst ++ (B.w ++ (B.n ++ List.drop (↑z.snd.snd.snd : Int).toNat B.f)))) → ¬y.At b) → z_1.snd.snd b = some i ∧ ¬z_1.snd.fst.At b) →
 ite2 (decide ((↑z_1.fst : Int) < (150 : Int))) (i64ok (rd B.r (↑z.snd.snd.snd : Int).toNat (0 : Int) + (6 : Int)) ∧ i64ok ((5 : Int) * (↑z_1.fst : Int)) ∧ i64ok (rd B.r (↑z.snd.snd.snd : Int).toNat (0
 : Int) + (6 : Int) + (5 : Int) * (↑z_1.fst : Int)) ∧ (1 ≤ 1 ∧ True) ∧ ∃ (xs : List (Int)), RS.full z_1.snd.snd Kd.u8 z_1.snd.fst = some xs ∧ (xs.length + 1) * 1 ≤ 140737488355328 ∧ ∀ (g' : RS) (φ' : Nat
 → Option (BI KK)), App z_1.snd.snd Kd.u8 xs [IntKind.wrap .u8 (rd B.r (↑z.snd.snd.snd : Int).toNat (0 : Int) + (6 : Int) + (5 : Int) * (↑z_1.fst : Int))] z_1.snd.fst g' φ' → i64ok ((↑z_1.fst : Int) + (1
 : Int)) ∧ Enter 10 (inv_gTi B z.fst z.snd.fst (↑z.snd.snd.snd : Int) (rd B.r (↑z.snd.snd.snd : Int).toNat (0 : Int)) z.snd.snd.fst) (fun (z' : Nat × RS × Bag KK) => 150 - z'.fst < 150 - z_1.fst) ([VV.one
 (V1.c (C.ptr 0 0 0)), VV.any, i64 (↑z.snd.snd.snd : Int), i64 (rd B.r (↑z.snd.snd.snd : Int).toNat (0 : Int)), VV.one (V1.c (C.rs 5 1 g')), i64 ((↑z_1.fst : Int) + (1 : Int))] ++ anys 64) [Atom.cells 46
 (bookC false false B.turn B.deep [C.slc 10 0 z.fst.length none, C.slc 11 0 z.snd.fst.length none, C.slc 3 0 B.w.length none, C.slc 4 0 B.n.length none, C.slc 5 0 B.f.length none, C.slc 6 0 B.m.length none,
 C.slc 7 0 B.d.length none, C.slc 8 0 B.r.length none, C.int .i64 B.seen]), Atom.gone, Atom.gone, Atom.arr Kd.ru8 B.w, Atom.arr Kd.ru8 B.n, Atom.arr Kd.ru8 B.f, Atom.arr Kd.int B.m, Atom.arr Kd.int B.d,
 Atom.arr Kd.int B.r, Atom.bag φ', Atom.arr Kd.ru8 z.fst, Atom.arr Kd.ru8 z.snd.fst, Atom.arr Kd.u8 [IntKind.wrap .u8 (rd B.r (↑z.snd.snd.snd : Int).toNat (0 : Int) + (6 : Int) + (5 : Int) * (↑z_1.fst :
 Int))]]) (z.fst.length = z.fst.length ∧ (1 ≤ 1 ∧ True) ∧ (z.fst.length + 1) * 24 ≤ 140737488355328 ∧ True ∧ (VV.one (V1.c (C.slc 11 0 z.snd.fst.length none)) = VV.one (V1.c (C.slc 11 0 z.snd.fst.length
 none)) ∧ True) ∧ 0 = 0 ∧ ∃ (ys : List (Int)), RS.row z_1.snd.snd Kd.u8 z_1.snd.fst = some ys ∧ (0 + ys.length) * 1 ≤ 140737488355328 ∧ (VV.one (V1.c (C.slc 11 0 z.snd.fst.length none)) = VV.one (V1.c (C.slc
 11 0 z.snd.fst.length none)) ∧ True) ∧ 0 + ys.length = ys.length ∧ (ys = [] → (VV.one (V1.c (C.slc 11 0 z.snd.fst.length none)) = VV.one (V1.c (C.slc 11 0 z.snd.fst.length none)) ∧ True) ∧ z.snd.fst.length
 = z.snd.fst.length ∧ (1 ≤ 1 ∧ True) ∧ (z.snd.fst.length + 1) * 24 ≤ 140737488355328 ∧ True ∧ True ∧ i64ok ((↑z.snd.snd.snd : Int) + (1 : Int)) ∧ Enter 10 (inv_gT B φ) (fun (z' : List RS × List RS × Bag
 KK × Nat) => B.f.length - z'.snd.snd.snd < B.f.length - z.snd.snd.snd) ([VV.one (V1.c (C.ptr 0 0 0)), VV.any, i64 ((↑z.snd.snd.snd : Int) + (1 : Int)), i64 (rd B.r (↑z.snd.snd.snd : Int).toNat (0 : Int)),
 VV.one (V1.c (C.rs 5 1 z_1.snd.fst)), i64 (↑z_1.fst : Int)] ++ anys 64) [Atom.cells 46 (bookC false false B.turn B.deep [C.slc 13 0 (z.fst.length + 1) none, C.slc 17 0 (z.snd.fst.length + 1) none, C.slc
 3 0 B.w.length none, C.slc 4 0 B.n.length none, C.slc 5 0 B.f.length none, C.slc 6 0 B.m.length none, C.slc 7 0 B.d.length none, C.slc 8 0 B.r.length none, C.int .i64 B.seen]), Atom.gone, Atom.gone, Atom.arr
 Kd.ru8 B.w, Atom.arr Kd.ru8 B.n, Atom.arr Kd.ru8 B.f, Atom.arr Kd.int B.m, Atom.arr Kd.int B.d, Atom.arr Kd.int B.r, Atom.bag z_1.snd.snd, Atom.gone, Atom.gone, Atom.arr Kd.ru8 [z_1.snd.fst], Atom.arr
 Kd.ru8 (z.fst ++ [z_1.snd.fst]), Atom.gone, Atom.gone, Atom.arr Kd.ru8 [RS.nil], Atom.arr Kd.ru8 (z.snd.fst ++ [RS.nil])]) ∧ ∀ (b c : Nat), z_1.snd.snd b = none → ys.length ≤ c → (VV.one (V1.c (C.slc 11
 0 z.snd.fst.length none)) = VV.one (V1.c (C.slc 11 0 z.snd.fst.length none)) ∧ True) ∧ z.snd.fst.length = z.snd.fst.length ∧ (1 ≤ 1 ∧ True) ∧ (z.snd.fst.length + 1) * 24 ≤ 140737488355328 ∧ True ∧ True
 ∧ i64ok ((↑z.snd.snd.snd : Int) + (1 : Int)) ∧ Enter 10 (inv_gT B φ) (fun (z' : List RS × List RS × Bag KK × Nat) => B.f.length - z'.snd.snd.snd < B.f.length - z.snd.snd.snd) ([VV.one (V1.c (C.ptr 0 0
 0)), VV.any, i64 ((↑z.snd.snd.snd : Int) + (1 : Int)), VV.one (V1.c (C.int .i64 (rd B.r (↑z.snd.snd.snd : Int).toNat (0 : Int)))), VV.one (V1.c (C.rs 5 1 z_1.snd.fst)), i64 (↑z_1.fst : Int)] ++ anys 64)
 [Atom.cells 46 (bookC false false B.turn B.deep [C.slc 13 0 (z.fst.length + 1) none, C.slc 17 0 (z.snd.fst.length + 1) none, C.slc 3 0 B.w.length none, C.slc 4 0 B.n.length none, C.slc 5 0 B.f.length none,
 C.slc 6 0 B.m.length none, C.slc 7 0 B.d.length none, C.slc 8 0 B.r.length none, C.int .i64 B.seen]), Atom.gone, Atom.gone, Atom.arr Kd.ru8 B.w, Atom.arr Kd.ru8 B.n, Atom.arr Kd.ru8 B.f, Atom.arr Kd.int
 B.m, Atom.arr Kd.int B.d, Atom.arr Kd.int B.r, Atom.bag (bput z_1.snd.snd b (BI.row Kd.u8 c ys)), Atom.gone, Atom.gone, Atom.arr Kd.ru8 [z_1.snd.fst], Atom.arr Kd.ru8 (z.fst ++ [z_1.snd.fst]), Atom.gone,
 Atom.gone, Atom.arr Kd.ru8 [RS.mk b 0 (0 + ys.length) c], Atom.arr Kd.ru8 (z.snd.fst ++ [RS.mk b 0 (0 + ys.length) c])])) (EndsAs 10 (ct_gT B φ) (VV.tup []) [Atom.cells 46 (bookC false false B.turn B.deep
 [C.slc 10 0 z.fst.length none, C.slc 11 0 z.snd.fst.length none, C.slc 3 0 B.w.length none, C.slc 4 0 B.n.length none, C.nils, C.slc 6 0 B.m.length none, C.slc 7 0 B.d.length none, C.nils, C.int .i64 B.seen]),
 Atom.gone, Atom.gone, Atom.arr Kd.ru8 B.w, Atom.arr Kd.ru8 B.n, Atom.arr Kd.ru8 B.f, Atom.arr Kd.int B.m, Atom.arr Kd.int B.d, Atom.arr Kd.int B.r, Atom.bag z.snd.snd.fst, Atom.arr Kd.ru8 z.fst, Atom.arr
 Kd.ru8 z.snd.fst])) := by kernel_rfl
theorem le_app {n i : Nat} (h : n ≤ 1000000 + i) (hi : i < 150) : (n + 1) * 1 ≤ 140737488355328 := by omega
theorem zero_mk (b n c : Nat) : [RS.mk b 0 (0 + n) c] = [RS.mk b 0 n c] := by rw [Nat.zero_add]
theorem zero_mks (t : List RS) (b n c : Nat) : t ++ [RS.mk b 0 (0 + n) c] = t ++ [RS.mk b 0 n c] := by rw [Nat.zero_add]
theorem HasTab.app {φ φ' : Bag KK} {kd : Kd} {xs ys : List (KK.α kd)} {x y : RS} (h : HasTab φ) (hp : App φ kd xs ys x y φ') : HasTab φ' := by
  cases hp with
  | none_ _ _ => exact h
  | room b c hφ _ => exact h.put
  | new _ b c hφ _ => exact h.put
theorem gT_ok (B : BS) (φ : Bag KK) : CtOk Tryz.prog 108 (ct_gT B φ) := CtOk_of KK_ok tabB (ann_gT B φ) (fn := Tryz.f108) rfl (fun _ _ => rfl) fun hn => by
  have hn : BookOk φ B := hn
  have hlr := hn.lr
  have hcB := hn.cnt
  have hfB := hn.few
  have hon : B.w.length = B.n.length := All2.length hn.good.note
  rw [vc_gT]
  simp only [Int.toNat_natCast, Nat.zero_add, Nat.add_zero]
  refine ⟨⟨(B.o, B.t, φ, (0 : Nat)), [], [0, 1, 2, 3, 4, 5, 6, 7, 8, 9, 1, 2], ⟨Nat.zero_le _, ⟨hn.good, hn.tab, by simpa using hn.cnt⟩, Stays.refl _ _⟩, trivial, into_mk (by kernel_rfl) (by (repeat' first | exact trivial | exact rfl | apply And.intro)) (by (repeat' first | exact trivial | exact rfl | apply And.intro))⟩, ?_⟩
  rintro ⟨o, t, φ', k⟩ ⟨hk, ⟨hg, ht, hc⟩, hst⟩
  dsimp only at hk hg ht hc ⊢
  have hst : Stays φ B.bk φ' ⟨o, t, B.w, B.n, B.f.drop k⟩ := hst
  have hot : o.length = t.length := All2.length hg.told
  refine ite2_decide (fun hl => ?_) (fun hl => ?_)
  · have hl1 : k < B.f.length := by omega
    have hl2 : k < B.r.length := by omega
    rw [drop_rd hl1 .nil] at hg hst
    obtain ⟨hg', hcur⟩ := hg.next
    have hmk := hn.rb (rd B.r k 0) (mem_drop_rd hl2 0)
    refine ⟨⟨by omega, by omega⟩, hl2, trivial, hl2, ⟨by omega, by omega⟩, hl1, trivial, hl1, ⟨((0 : Nat), rd B.f k .nil, φ'), [], [0, 1, 2, 3, 4, 5, 6, 7, 8, 9, 10, 11], ⟨Nat.zero_le _, hg', hcur, ht, fun b i hb hf => ⟨hb, hf _ (by rw [Int.toNat_natCast, drop_rd hl1 .nil]; simp [Bk.all])⟩⟩, trivial, into_mk (by kernel_rfl) (by (repeat' first | exact trivial | exact rfl | apply And.intro)) (by (repeat' first | exact trivial | exact rfl | apply And.intro))⟩, ?_⟩
    rintro ⟨i, g, ψ⟩ ⟨hi, gg, cc, tt, kk⟩
    dsimp only at hi gg cc tt ⊢
    have kc : Cur1 φ' ⟨o, t, B.w, B.n, B.f.drop k⟩ g ψ := kk
    rw [drop_rd hl1 .nil] at kc
    clear kk
    obtain ⟨zs, z1, z2, z3⟩ := cc.whole
    have hzl := RS.row_len z2
    have z3' : (zs : List Int).length ≤ 1000000 + i := z3
    refine ite2_decide (fun hil => ?_) (fun hil => ?_)
    · refine ⟨by unfold i64ok; omega, by unfold i64ok; omega, by unfold i64ok; omega, ⟨Nat.le_refl _, trivial⟩, zs, z1, le_app z3 (by omega), fun g' φ'' hp => ?_⟩
      obtain ⟨gg', cc', _, _⟩ := gg.laid cc z1 hp
      exact ⟨by unfold i64ok; omega, ((i + 1 : Nat), g', φ''), [], [0, 1, 2, 3, 4, 5, 6, 7, 8, 9, 10, 11], ⟨by show i + 1 ≤ 150; omega, gg', cc', tt.app hp, by have := kc.app hp; rw [← drop_rd hl1 .nil] at this; exact this⟩, by show 150 - (i + 1) < 150 - i; omega, into_mk (by kernel_rfl) (by (repeat' first | exact trivial | exact rfl | apply And.intro)) (by (repeat' first | exact trivial | exact rfl | apply And.intro))⟩
    · obtain rfl : i = 150 := by omega
      have key : ∀ y φ'', Frz ψ Kd.u8 zs y φ'' → GrowOk B (o ++ [g]) (t ++ [y]) φ'' (k + 1) := fun y φ'' hy => ⟨gg.grown (by omega) cc z2 hy, tt.frz hy, by have e := hc; show ((o ++ [g]).length : Int) + 2 * B.w.length + ((B.f.length - (k + 1) : Nat) : Int) = 2 * B.seen; simp only [List.length_append, List.length_singleton]; omega⟩
      refine ⟨trivial, ⟨Nat.le_refl _, trivial⟩, by omega, trivial, ⟨trivial, trivial⟩, trivial, zs, z2, le_lim z3, ⟨trivial, trivial⟩, by first | trivial | omega, fun hz => ⟨⟨trivial, trivial⟩, trivial, ⟨Nat.le_refl _, trivial⟩, by omega, trivial, trivial, by unfold i64ok; omega,
        (o ++ [g], t ++ [.nil], ψ, (k + 1 : Nat)), [], [0, 1, 2, 3, 4, 5, 6, 7, 8, 9, 13, 17], ⟨hl1, key _ _ (.nil_ hz), hst.trans (kc.grown (.nil_ hz))⟩, by show B.f.length - (k + 1) < B.f.length - k; omega, into_mk (by kernel_rfl) (by (repeat' first | exact trivial | exact rfl | exact len_snoc _ _ | apply And.intro)) (by (repeat' first | exact trivial | exact rfl | exact len_snoc _ _ | apply And.intro))⟩, fun b c hfr hc' => ⟨⟨trivial, trivial⟩, trivial, ⟨Nat.le_refl _, trivial⟩, by omega, trivial, trivial, by unfold i64ok; omega,
        (o ++ [g], t ++ [.mk b 0 zs.length c], bput ψ b (.row Kd.u8 c zs), (k + 1 : Nat)), [], [0, 1, 2, 3, 4, 5, 6, 7, 8, 9, 13, 17], ⟨hl1, key _ _ (.mk b c hfr hc'), hst.trans (kc.grown (.mk b c hfr hc'))⟩, by show B.f.length - (k + 1) < B.f.length - k; omega, into_mk (by kernel_rfl) (by (repeat' first | exact trivial | exact rfl | exact len_snoc _ _ | exact zero_mk _ _ _ | exact zero_mks _ _ _ _ | apply And.intro)) (by (repeat' first | exact trivial | exact rfl | exact len_snoc _ _ | exact zero_mk _ _ _ | exact zero_mks _ _ _ _ | apply And.intro))⟩⟩
  · obtain rfl : k = B.f.length := by omega
    rw [List.drop_of_length_le (Nat.le_refl _)] at hg hst
    have hb : BookOk φ' { B with o := o, t := t, f := [], r := [] } := ⟨hg, ht, hn.lm, hn.ld, rfl, hn.mb, fun x hx => by simp at hx, by simpa using hc, hn.few, hn.turn⟩
    exact ⟨({ B with o := o, t := t, f := [], r := [] }, φ'), [.ru8, .int], [0, 1, 2, 3, 4, 5, 6, 7, 8, 9, 10, 11, 3, 4, 12, 6, 7, 13], ⟨⟨hb, ⟨rfl, rfl, rfl⟩, hst⟩, rfl, rfl⟩, by (repeat' first | exact trivial | exact rfl | exact len_snoc _ _ | apply And.intro)⟩
end Go.Proofs.YtndlpbheifalhaaGreatDoor.T
