/- Text 11 of 13 texts that prove the statement of Vx; it holds without conditions beyond the statement's own. -/
import Derived.Laws.AppendOwn
import Derived.Laws.OwnMore
import Derived.Deep.MidRow
import Derived.Calls
import Derived.Deep.AppendSrc
import Derived.Maps.AppendAt
import Derived.IntWalk
import Derived.Tactics
import Derived.Laws.StructEq
import Derived.Laws.BytesString
import Derived.Orders
import Derived.Scope
import Derived.Deep.LoopGhost
import Derived.Recover
import Derived.Test.YtndlpbheifalhaaGreatDoorProg
import Derived.KernelRfl
import Derived.Test.YtndlpbheifalhaaGreatDoorKM9
set_option linter.unusedSimpArgs false
set_option linter.unusedVariables false
namespace Go.Proofs.YtndlpbheifalhaaGreatDoor
end Go.Proofs.YtndlpbheifalhaaGreatDoor
namespace Go.Proofs.YtndlpbheifalhaaGreatDoor.E
end Go.Proofs.YtndlpbheifalhaaGreatDoor.E
namespace Go.Proofs.YtndlpbheifalhaaGreatDoor.T
end Go.Proofs.YtndlpbheifalhaaGreatDoor.T
namespace Go.Proofs.YtndlpbheifalhaaGreatDoor.TwireMany
end Go.Proofs.YtndlpbheifalhaaGreatDoor.TwireMany
namespace Go.Proofs.YtndlpbheifalhaaGreatDoor.V
end Go.Proofs.YtndlpbheifalhaaGreatDoor.V
section
namespace Go.Proofs.YtndlpbheifalhaaGreatDoor.T
open Go.Proofs.YtndlpbheifalhaaGreatDoor.E
set_option maxRecDepth 100000
set_option linter.unusedVariables false
def ct_gT (B : BS) (φ : Bag KK) : Ct KK := { need := BookOk φ B, pre := bookH B ++ [.bag φ], args := [.c (.ptr 0 0 0)], Y := BS × Bag KK, ok := fun y => (BookOk y.2 y.1 ∧ SameB B y.1 ∧ Stays φ B.bk y.2 y.1.bk) ∧ y.1.f = [] ∧ y.1.r = [], ret := fun _ => .tup [], post := fun y => bookM y.1 y.2 }
def gkH (B : BS) (o t : List RS) (φ : Bag KK) : VH KK :=
  [.cells 46 (bookC false false B.turn B.deep [.slc 10 0 o.length none, .slc 11 0 t.length none, .slc 3 0 B.w.length none, .slc 4 0 B.n.length none, .slc 5 0 B.f.length none, .slc 6 0 B.m.length none, .slc 7 0 B.d.length none, .slc 8 0 B.r.length none, .int .i64 B.seen]),
   .gone, .gone, .arr .ru8 B.w, .arr .ru8 B.n, .arr .ru8 B.f, .arr .int B.m, .arr .int B.d, .arr .int B.r, .bag φ, .arr .ru8 o, .arr .ru8 t]
def GrowOk (B : BS) (o t : List RS) (φ : Bag KK) (k : Nat) : Prop := BkOk φ Kd.u8 1000000 ⟨o, t, B.w, B.n, B.f.drop k⟩ ∧ HasTab φ ∧ (o.length : Int) + 2 * B.w.length + (B.f.length - k : Nat) = 2 * B.seen
def inv_gT (B : BS) (φ : Bag KK) : Inv KK := { X := List RS × List RS × Bag KK × Nat, fr := fun z => [.c (.ptr 0 0 0), .any, i64 z.2.2.2] ++ anys 67, H := fun z => gkH B z.1 z.2.1 z.2.2.1, ok := fun z => z.2.2.2 ≤ B.f.length ∧ GrowOk B z.1 z.2.1 z.2.2.1 z.2.2.2 ∧ Stays φ B.bk z.2.2.1 ⟨z.1, z.2.1, B.w, B.n, B.f.drop z.2.2.2⟩, meas := fun z => B.f.length - z.2.2.2 }
def inv_gTi (B : BS) (o t : List RS) (k : Int) (mark : Int) (φ : Bag KK) : Inv KK := { X := Nat × RS × Bag KK, fr := fun z => [.c (.ptr 0 0 0), .any, i64 k, i64 mark, .c (.rs 5 1 z.2.1), i64 z.1] ++ anys 64, H := fun z => gkH B o t z.2.2, ok := fun z => z.1 ≤ 150 ∧ BkOk z.2.2 Kd.u8 1000000 ⟨o, t, B.w, B.n, B.f.drop (k.toNat + 1)⟩ ∧ Cur z.2.2 Kd.u8 (1000000 + z.1) ⟨o, t, B.w, B.n, B.f.drop (k.toNat + 1)⟩ z.2.1 ∧ HasTab z.2.2 ∧ Cur1 φ ⟨o, t, B.w, B.n, B.f.drop k.toNat⟩ z.2.1 z.2.2, meas := fun z => 150 - z.1 }
def loop_gT (B : BS) (φ : Bag KK) (id : Nat) (fr : List VV) (H : VH KK) : Option (Inv KK) := match id with
  | 1 => some (inv_gT B φ)
  | _ => match fr.getD 2 .any, fr.getD 3 .any, at_ H 9, at_ H 10, at_ H 11 with
    | .one (.c (.int _ k)), .one (.c (.int _ mark)), .bag φ1, .arr .ru8 o, .arr .ru8 t => some (inv_gTi B o t k mark φ1)
    | _, _, _, _, _ => none
def ann_gT (B : BS) (φ : Bag KK) : Ann KK := { loop := loop_gT B φ, cut := fun _ _ _ => none, keep := some 6 }
theorem vc_gT (B : BS) (φ : Bag KK) : evFn tabB (ann_gT B φ) Tryz.f108 (ct_gT B φ) = ( Enter 10 (inv_gT B φ) (fun (x : List RS × List RS × Bag KK × Nat) => True) ([VV.one (V1.c (C.ptr 0 0 0)), VV.any, i64 (0 : Int)] ++ anys 67) [Atom.cells 46 (bookC false false B.turn B.deep [C.slc 1 0
 B.o.length none, C.slc 2 0 B.t.length none, C.slc 3 0 B.w.length none, C.slc 4 0 B.n.length none, C.slc 5 0 B.f.length none, C.slc 6 0 B.m.length none, C.slc 7 0 B.d.length none, C.slc 8 0 B.r.length none,
 C.int .i64 B.seen]), Atom.arr Kd.ru8 B.o, Atom.arr Kd.ru8 B.t, Atom.arr Kd.ru8 B.w, Atom.arr Kd.ru8 B.n, Atom.arr Kd.ru8 B.f, Atom.arr Kd.int B.m, Atom.arr Kd.int B.d, Atom.arr Kd.int B.r, Atom.bag φ]
 ∧ ∀ (z : List RS × List RS × Bag KK × Nat), (z.snd.snd.snd ≤ B.f.length ∧ GrowOk B z.fst z.snd.fst z.snd.snd.fst z.snd.snd.snd ∧ ∀ (b : Nat) (i : BI KK), φ b = some i → (∀ (y : RS), List.Mem y (B.o ++
 (B.t ++ (B.w ++ (B.n ++ B.f)))) → ¬y.At b) → z.snd.snd.fst b = some i ∧ ∀ (y : RS), List.Mem y (z.fst ++ (z.snd.fst ++ (B.w ++ (B.n ++ List.drop z.snd.snd.snd B.f)))) → ¬y.At b) → ite2 (decide ((↑z.snd.snd.snd
 : Int) < (↑B.f.length : Int))) (((0 : Int) ≤ (↑z.snd.snd.snd : Int) ∧ (↑z.snd.snd.snd : Int) < (↑B.r.length : Int)) ∧ (↑z.snd.snd.snd : Int).toNat < B.r.length ∧ True ∧ (↑z.snd.snd.snd : Int).toNat < B.r.length
 ∧ ((0 : Int) ≤ (↑z.snd.snd.snd : Int) ∧ (↑z.snd.snd.snd : Int) < (↑B.f.length : Int)) ∧ (↑z.snd.snd.snd : Int).toNat < B.f.length ∧ True ∧ (↑z.snd.snd.snd : Int).toNat < B.f.length ∧ Enter 10 (inv_gTi
 B z.fst z.snd.fst (↑z.snd.snd.snd : Int) (rd B.r (↑z.snd.snd.snd : Int).toNat (0 : Int)) z.snd.snd.fst) (fun (x : Nat × RS × Bag KK) => True) ([VV.one (V1.c (C.ptr 0 0 0)), VV.any, i64 (↑z.snd.snd.snd
 : Int), i64 (rd B.r (↑z.snd.snd.snd : Int).toNat (0 : Int)), VV.one (V1.c (C.rs 5 1 (rd B.f (↑z.snd.snd.snd : Int).toNat RS.nil))), i64 (0 : Int)] ++ anys 64) [Atom.cells 46 (bookC false false B.turn B.deep
 [C.slc 10 0 z.fst.length none, C.slc 11 0 z.snd.fst.length none, C.slc 3 0 B.w.length none, C.slc 4 0 B.n.length none, C.slc 5 0 B.f.length none, C.slc 6 0 B.m.length none, C.slc 7 0 B.d.length none, C.slc
 8 0 B.r.length none, C.int .i64 B.seen]), Atom.gone, Atom.gone, Atom.arr Kd.ru8 B.w, Atom.arr Kd.ru8 B.n, Atom.arr Kd.ru8 B.f, Atom.arr Kd.int B.m, Atom.arr Kd.int B.d, Atom.arr Kd.int B.r, Atom.bag z.snd.snd.fst,
 Atom.arr Kd.ru8 z.fst, Atom.arr Kd.ru8 z.snd.fst] ∧ ∀ (z_1 : Nat × RS × Bag KK), (z_1.fst ≤ 150 ∧ BkOk z_1.snd.snd Kd.u8 1000000 (Bk.mk (z.fst) (z.snd.fst) (B.w) (B.n) (List.drop ((↑z.snd.snd.snd : Int).toNat
 + 1) B.f)) ∧ Cur z_1.snd.snd Kd.u8 (1000000 + z_1.fst) (Bk.mk (z.fst) (z.snd.fst) (B.w) (B.n) (List.drop ((↑z.snd.snd.snd : Int).toNat + 1) B.f)) z_1.snd.fst ∧ HasTab z_1.snd.snd ∧ ∀ (b : Nat) (i : BI
 KK), z.snd.snd.fst b = some i → (∀ (y : RS), List.Mem y (z.fst ++ (z.snd.fst ++ (B.w ++ (B.n ++ List.drop (↑z.snd.snd.snd : Int).toNat B.f)))) → ¬y.At b) → z_1.snd.snd b = some i ∧ ¬z_1.snd.fst.At b) →
 ite2 (decide ((↑z_1.fst : Int) < (150 : Int))) (i64ok (rd B.r (↑z.snd.snd.snd : Int).toNat (0 : Int) + (6 : Int)) ∧ i64ok ((5 : Int) * (↑z_1.fst : Int)) ∧ i64ok (rd B.r (↑z.snd.snd.snd : Int).toNat (0
 : Int) + (6 : Int) + (5 : Int) * (↑z_1.fst : Int)) ∧ (1 ≤ 1 ∧ True) ∧ ∃ (xs : List (Int)), RS.full z_1.snd.snd Kd.u8 z_1.snd.fst = some xs ∧ (xs.length + 1) * 1 ≤ 140737488355328 ∧ ∀ (g' : RS) (φ' : Nat
 → Option (BI KK)), App z_1.snd.snd Kd.u8 xs [IntKind.wrap .u8 (rd B.r (↑z.snd.snd.snd : Int).toNat (0 : Int) + (6 : Int) + (5 : Int) * (↑z_1.fst : Int))] z_1.snd.fst g' φ' → i64ok ((↑z_1.fst : Int) + (1
 : Int)) ∧ Enter 10 (inv_gTi B z.fst z.snd.fst (↑z.snd.snd.snd : Int) (rd B.r (↑z.snd.snd.snd : Int).toNat (0 : Int)) z.snd.snd.fst) (fun (z' : Nat × RS × Bag KK) => 150 - z'.fst < 150 - z_1.fst) ([VV.one
 (V1.c (C.ptr 0 0 0)), VV.any, i64 (↑z.snd.snd.snd : Int), i64 (rd B.r (↑z.snd.snd.snd : Int).toNat (0 : Int)), VV.one (V1.c (C.rs 5 1 g')), i64 ((↑z_1.fst : Int) + (1 : Int))] ++ anys 64) [Atom.cells 46
 (bookC false false B.turn B.deep [C.slc 10 0 z.fst.length none, C.slc 11 0 z.snd.fst.length none, C.slc 3 0 B.w.length none, C.slc 4 0 B.n.length none, C.slc 5 0 B.f.length none, C.slc 6 0 B.m.length none,
 C.slc 7 0 B.d.length none, C.slc 8 0 B.r.length none, C.int .i64 B.seen]), Atom.gone, Atom.gone, Atom.arr Kd.ru8 B.w, Atom.arr Kd.ru8 B.n, Atom.arr Kd.ru8 B.f, Atom.arr Kd.int B.m, Atom.arr Kd.int B.d,
 Atom.arr Kd.int B.r, Atom.bag φ', Atom.arr Kd.ru8 z.fst, Atom.arr Kd.ru8 z.snd.fst, Atom.arr Kd.u8 [IntKind.wrap .u8 (rd B.r (↑z.snd.snd.snd : Int).toNat (0 : Int) + (6 : Int) + (5 : Int) * (↑z_1.fst :
 Int))]]) (z.fst.length = z.fst.length ∧ (1 ≤ 1 ∧ True) ∧ (z.fst.length + 1) * 24 ≤ 140737488355328 ∧ True ∧ (VV.one (V1.c (C.slc 11 0 z.snd.fst.length none)) = VV.one (V1.c (C.slc 11 0 z.snd.fst.length
 none)) ∧ True) ∧ 0 = 0 ∧ ∃ (ys : List (Int)), RS.row z_1.snd.snd Kd.u8 z_1.snd.fst = some ys ∧ (0 + ys.length) * 1 ≤ 140737488355328 ∧ (VV.one (V1.c (C.slc 11 0 z.snd.fst.length none)) = VV.one (V1.c (C.slc
 11 0 z.snd.fst.length none)) ∧ True) ∧ 0 + ys.length = ys.length ∧ (ys = [] → (VV.one (V1.c (C.slc 11 0 z.snd.fst.length none)) = VV.one (V1.c (C.slc 11 0 z.snd.fst.length none)) ∧ True) ∧ z.snd.fst.length
 = z.snd.fst.length ∧ (1 ≤ 1 ∧ True) ∧ (z.snd.fst.length + 1) * 24 ≤ 140737488355328 ∧ True ∧ True ∧ i64ok ((↑z.snd.snd.snd : Int) + (1 : Int)) ∧ Enter 10 (inv_gT B φ) (fun (z' : List RS × List RS × Bag
 KK × Nat) => B.f.length - z'.snd.snd.snd < B.f.length - z.snd.snd.snd) ([VV.one (V1.c (C.ptr 0 0 0)), VV.any, i64 ((↑z.snd.snd.snd : Int) + (1 : Int)), i64 (rd B.r (↑z.snd.snd.snd : Int).toNat (0 : Int)),
 VV.one (V1.c (C.rs 5 1 z_1.snd.fst)), i64 (↑z_1.fst : Int)] ++ anys 64) [Atom.cells 46 (bookC false false B.turn B.deep [C.slc 13 0 (z.fst.length + 1) none, C.slc 17 0 (z.snd.fst.length + 1) none, C.slc
 3 0 B.w.length none, C.slc 4 0 B.n.length none, C.slc 5 0 B.f.length none, C.slc 6 0 B.m.length none, C.slc 7 0 B.d.length none, C.slc 8 0 B.r.length none, C.int .i64 B.seen]), Atom.gone, Atom.gone, Atom.arr
 Kd.ru8 B.w, Atom.arr Kd.ru8 B.n, Atom.arr Kd.ru8 B.f, Atom.arr Kd.int B.m, Atom.arr Kd.int B.d, Atom.arr Kd.int B.r, Atom.bag z_1.snd.snd, Atom.gone, Atom.gone, Atom.arr Kd.ru8 [z_1.snd.fst], Atom.arr
 Kd.ru8 (z.fst ++ [z_1.snd.fst]), Atom.gone, Atom.gone, Atom.arr Kd.ru8 [RS.nil], Atom.arr Kd.ru8 (z.snd.fst ++ [RS.nil])]) ∧ ∀ (b c : Nat), z_1.snd.snd b = none → ys.length ≤ c → (VV.one (V1.c (C.slc 11
 0 z.snd.fst.length none)) = VV.one (V1.c (C.slc 11 0 z.snd.fst.length none)) ∧ True) ∧ z.snd.fst.length = z.snd.fst.length ∧ (1 ≤ 1 ∧ True) ∧ (z.snd.fst.length + 1) * 24 ≤ 140737488355328 ∧ True ∧ True
 ∧ i64ok ((↑z.snd.snd.snd : Int) + (1 : Int)) ∧ Enter 10 (inv_gT B φ) (fun (z' : List RS × List RS × Bag KK × Nat) => B.f.length - z'.snd.snd.snd < B.f.length - z.snd.snd.snd) ([VV.one (V1.c (C.ptr 0 0
 0)), VV.any, i64 ((↑z.snd.snd.snd : Int) + (1 : Int)), VV.one (V1.c (C.int .i64 (rd B.r (↑z.snd.snd.snd : Int).toNat (0 : Int)))), VV.one (V1.c (C.rs 5 1 z_1.snd.fst)), i64 (↑z_1.fst : Int)] ++ anys 64)
 [Atom.cells 46 (bookC false false B.turn B.deep [C.slc 13 0 (z.fst.length + 1) none, C.slc 17 0 (z.snd.fst.length + 1) none, C.slc 3 0 B.w.length none, C.slc 4 0 B.n.length none, C.slc 5 0 B.f.length none,
 C.slc 6 0 B.m.length none, C.slc 7 0 B.d.length none, C.slc 8 0 B.r.length none, C.int .i64 B.seen]), Atom.gone, Atom.gone, Atom.arr Kd.ru8 B.w, Atom.arr Kd.ru8 B.n, Atom.arr Kd.ru8 B.f, Atom.arr Kd.int
 B.m, Atom.arr Kd.int B.d, Atom.arr Kd.int B.r, Atom.bag (bput z_1.snd.snd b (BI.row Kd.u8 c ys)), Atom.gone, Atom.gone, Atom.arr Kd.ru8 [z_1.snd.fst], Atom.arr Kd.ru8 (z.fst ++ [z_1.snd.fst]), Atom.gone,
 Atom.gone, Atom.arr Kd.ru8 [RS.mk b 0 (0 + ys.length) c], Atom.arr Kd.ru8 (z.snd.fst ++ [RS.mk b 0 (0 + ys.length) c])])) (EndsAs 10 (ct_gT B φ) (VV.tup []) [Atom.cells 46 (bookC false false B.turn B.deep
 [C.slc 10 0 z.fst.length none, C.slc 11 0 z.snd.fst.length none, C.slc 3 0 B.w.length none, C.slc 4 0 B.n.length none, C.nils, C.slc 6 0 B.m.length none, C.slc 7 0 B.d.length none, C.nils, C.int .i64 B.seen]),
 Atom.gone, Atom.gone, Atom.arr Kd.ru8 B.w, Atom.arr Kd.ru8 B.n, Atom.arr Kd.ru8 B.f, Atom.arr Kd.int B.m, Atom.arr Kd.int B.d, Atom.arr Kd.int B.r, Atom.bag z.snd.snd.fst, Atom.arr Kd.ru8 z.fst, Atom.arr
 Kd.ru8 z.snd.fst])) := by kernel_rfl
theorem le_app {n i : Nat} (h : n ≤ 1000000 + i) (hi : i < 150) : (n + 1) * 1 ≤ 140737488355328 := by omega
theorem zero_mk (b n c : Nat) : [RS.mk b 0 (0 + n) c] = [RS.mk b 0 n c] := by rw [Nat.zero_add]
theorem zero_mks (t : List RS) (b n c : Nat) : t ++ [RS.mk b 0 (0 + n) c] = t ++ [RS.mk b 0 n c] := by rw [Nat.zero_add]
theorem HasTab.app {φ φ' : Bag KK} {kd : Kd} {xs ys : List (KK.α kd)} {x y : RS} (h : HasTab φ) (hp : App φ kd xs ys x y φ') : HasTab φ' := by
  cases hp with
  | none_ _ _ => exact h
  | room b c hφ _ => exact h.put
  | new _ b c hφ _ => exact h.put
theorem gT_ok (B : BS) (φ : Bag KK) : CtOk Tryz.prog 108 (ct_gT B φ) := CtOk_of KK_ok tabB (ann_gT B φ) (fn := Tryz.f108) rfl (fun _ _ => rfl) fun hn => by
  have hn : BookOk φ B := hn
  have hlr := hn.lr
  have hcB := hn.cnt
  have hfB := hn.few
  have hon : B.w.length = B.n.length := All2.length hn.good.note
  rw [vc_gT]
  simp only [Int.toNat_natCast, Nat.zero_add, Nat.add_zero]
  refine ⟨⟨(B.o, B.t, φ, (0 : Nat)), [], [0, 1, 2, 3, 4, 5, 6, 7, 8, 9, 1, 2], ⟨Nat.zero_le _, ⟨hn.good, hn.tab, by simpa using hn.cnt⟩, Stays.refl _ _⟩, trivial, into_mk (by kernel_rfl) (by (repeat' first | exact trivial | exact rfl | apply And.intro)) (by (repeat' first | exact trivial | exact rfl | apply And.intro))⟩, ?_⟩
  rintro ⟨o, t, φ', k⟩ ⟨hk, ⟨hg, ht, hc⟩, hst⟩
  dsimp only at hk hg ht hc ⊢
  have hst : Stays φ B.bk φ' ⟨o, t, B.w, B.n, B.f.drop k⟩ := hst
  have hot : o.length = t.length := All2.length hg.told
  refine ite2_decide (fun hl => ?_) (fun hl => ?_)
  · have hl1 : k < B.f.length := by omega
    have hl2 : k < B.r.length := by omega
    rw [drop_rd hl1 .nil] at hg hst
    obtain ⟨hg', hcur⟩ := hg.next
    have hmk := hn.rb (rd B.r k 0) (mem_drop_rd hl2 0)
    refine ⟨⟨by omega, by omega⟩, hl2, trivial, hl2, ⟨by omega, by omega⟩, hl1, trivial, hl1, ⟨((0 : Nat), rd B.f k .nil, φ'), [], [0, 1, 2, 3, 4, 5, 6, 7, 8, 9, 10, 11], ⟨Nat.zero_le _, hg', hcur, ht, fun b i hb hf => ⟨hb, hf _ (by rw [Int.toNat_natCast, drop_rd hl1 .nil]; simp [Bk.all])⟩⟩, trivial, into_mk (by kernel_rfl) (by (repeat' first | exact trivial | exact rfl | apply And.intro)) (by (repeat' first | exact trivial | exact rfl | apply And.intro))⟩, ?_⟩
    rintro ⟨i, g, ψ⟩ ⟨hi, gg, cc, tt, kk⟩
    dsimp only at hi gg cc tt ⊢
    have kc : Cur1 φ' ⟨o, t, B.w, B.n, B.f.drop k⟩ g ψ := kk
    rw [drop_rd hl1 .nil] at kc
    clear kk
    obtain ⟨zs, z1, z2, z3⟩ := cc.whole
    have hzl := RS.row_len z2
    have z3' : (zs : List Int).length ≤ 1000000 + i := z3
    refine ite2_decide (fun hil => ?_) (fun hil => ?_)
    · refine ⟨by unfold i64ok; omega, by unfold i64ok; omega, by unfold i64ok; omega, ⟨Nat.le_refl _, trivial⟩, zs, z1, le_app z3 (by omega), fun g' φ'' hp => ?_⟩
      obtain ⟨gg', cc', _, _⟩ := gg.laid cc z1 hp
      exact ⟨by unfold i64ok; omega, ((i + 1 : Nat), g', φ''), [], [0, 1, 2, 3, 4, 5, 6, 7, 8, 9, 10, 11], ⟨by show i + 1 ≤ 150; omega, gg', cc', tt.app hp, by have := kc.app hp; rw [← drop_rd hl1 .nil] at this; exact this⟩, by show 150 - (i + 1) < 150 - i; omega, into_mk (by kernel_rfl) (by (repeat' first | exact trivial | exact rfl | apply And.intro)) (by (repeat' first | exact trivial | exact rfl | apply And.intro))⟩
    · obtain rfl : i = 150 := by omega
      have key : ∀ y φ'', Frz ψ Kd.u8 zs y φ'' → GrowOk B (o ++ [g]) (t ++ [y]) φ'' (k + 1) := fun y φ'' hy => ⟨gg.grown (by omega) cc z2 hy, tt.frz hy, by have e := hc; show ((o ++ [g]).length : Int) + 2 * B.w.length + ((B.f.length - (k + 1) : Nat) : Int) = 2 * B.seen; simp only [List.length_append, List.length_singleton]; omega⟩
      refine ⟨trivial, ⟨Nat.le_refl _, trivial⟩, by omega, trivial, ⟨trivial, trivial⟩, trivial, zs, z2, le_lim z3, ⟨trivial, trivial⟩, by first | trivial | omega, fun hz => ⟨⟨trivial, trivial⟩, trivial, ⟨Nat.le_refl _, trivial⟩, by omega, trivial, trivial, by unfold i64ok; omega,
        (o ++ [g], t ++ [.nil], ψ, (k + 1 : Nat)), [], [0, 1, 2, 3, 4, 5, 6, 7, 8, 9, 13, 17], ⟨hl1, key _ _ (.nil_ hz), hst.trans (kc.grown (.nil_ hz))⟩, by show B.f.length - (k + 1) < B.f.length - k; omega, into_mk (by kernel_rfl) (by (repeat' first | exact trivial | exact rfl | exact len_snoc _ _ | apply And.intro)) (by (repeat' first | exact trivial | exact rfl | exact len_snoc _ _ | apply And.intro))⟩, fun b c hfr hc' => ⟨⟨trivial, trivial⟩, trivial, ⟨Nat.le_refl _, trivial⟩, by omega, trivial, trivial, by unfold i64ok; omega,
        (o ++ [g], t ++ [.mk b 0 zs.length c], bput ψ b (.row Kd.u8 c zs), (k + 1 : Nat)), [], [0, 1, 2, 3, 4, 5, 6, 7, 8, 9, 13, 17], ⟨hl1, key _ _ (.mk b c hfr hc'), hst.trans (kc.grown (.mk b c hfr hc'))⟩, by show B.f.length - (k + 1) < B.f.length - k; omega, into_mk (by kernel_rfl) (by (repeat' first | exact trivial | exact rfl | exact len_snoc _ _ | exact zero_mk _ _ _ | exact zero_mks _ _ _ _ | apply And.intro)) (by (repeat' first | exact trivial | exact rfl | exact len_snoc _ _ | exact zero_mk _ _ _ | exact zero_mks _ _ _ _ | apply And.intro))⟩⟩
  · obtain rfl : k = B.f.length := by omega
    rw [List.drop_of_length_le (Nat.le_refl _)] at hg hst
    have hb : BookOk φ' { B with o := o, t := t, f := [], r := [] } := ⟨hg, ht, hn.lm, hn.ld, rfl, hn.mb, fun x hx => by simp at hx, by simpa using hc, hn.few, hn.turn⟩
    exact ⟨({ B with o := o, t := t, f := [], r := [] }, φ'), [.ru8, .int], [0, 1, 2, 3, 4, 5, 6, 7, 8, 9, 10, 11, 3, 4, 12, 6, 7, 13], ⟨⟨hb, ⟨rfl, rfl, rfl⟩, hst⟩, rfl, rfl⟩, by (repeat' first | exact trivial | exact rfl | exact len_snoc _ _ | apply And.intro)⟩
end Go.Proofs.YtndlpbheifalhaaGreatDoor.T
end
section
namespace Go.Proofs.YtndlpbheifalhaaGreatDoor.T
open Go.Proofs.YtndlpbheifalhaaGreatDoor.E
set_option maxRecDepth 100000
set_option linter.unusedVariables false
/-- The book that stands at name 0, and the names of its lists. -/
def getB (H : VH KK) : Option (BS × List Nat) := match at_ H 0 with
  | .cells _ (_ :: _ :: .int _ turn :: .int _ deep :: cs) => match cs.drop 0 with
    | .slc a _ _ _ :: .slc b _ _ _ :: .slc c _ _ _ :: .slc d _ _ _ :: .slc e _ _ _ :: .slc f _ _ _ :: .slc g _ _ _ :: .slc h _ _ _ :: .int _ seen :: _ =>
      match at_ H a, at_ H b, at_ H c, at_ H d, at_ H e, at_ H f, at_ H g, at_ H h with
      | .arr .ru8 o, .arr .ru8 t, .arr .ru8 w, .arr .ru8 n, .arr .ru8 fr, .arr .int m, .arr .int du, .arr .int r => some (⟨turn, deep, o, t, w, n, fr, m, du, r, seen⟩, [0, a, b, c, d, e, f, g, h])
      | _, _, _, _, _, _, _, _ => none
    | _ => none
  | _ => none
def getBB (H : VH KK) : Option (BS × Bag KK × List Nat) := match getB H, at_ H 9 with
  | some (B, τ), .bag φ => some (B, φ, τ ++ [9])
  | _, _ => none
def ct_hT (B : BS) (φ : Bag KK) : Ct KK := { need := BookOk φ B, pre := bookH B ++ [.bag φ], args := [.c (.ptr 0 0 0)], Y := Unit, ok := fun _ => True, ret := fun _ => boolv true, post := fun _ => bookH B ++ [.bag φ] }
def inv_hT1 (B : BS) (φ : Bag KK) : Inv KK := { X := Nat, fr := fun i => [.c (.ptr 0 0 0), .any, .any, i64 i] ++ anys 51, H := fun _ => bookH B ++ [.bag φ], ok := fun i => i ≤ B.o.length, meas := fun i : Nat => B.o.length - i }
def inv_hT2 (B : BS) (φ : Bag KK) : Inv KK := { X := Nat, fr := fun i => [.c (.ptr 0 0 0), .any, .any, .any, i64 i] ++ anys 50, H := fun _ => bookH B ++ [.bag φ], ok := fun i => i ≤ B.w.length, meas := fun i : Nat => B.w.length - i }
def loop_hT (B : BS) (φ : Bag KK) (id : Nat) (fr : List VV) (H : VH KK) : Option (Inv KK) := match id with
  | 2 => some (inv_hT1 B φ)
  | _ => some (inv_hT2 B φ)
def ann_hT (B : BS) (φ : Bag KK) : Ann KK := { loop := loop_hT B φ, cut := fun _ _ _ => none, keep := some 5 }
def ct_marks (B : BS) (φ : Bag KK) : Ct KK := { need := BookOk φ B, pre := bookH B ++ [.bag φ], args := [.c (.ptr 0 0 0)], Y := BS × Bag KK, ok := fun y => BookOk y.2 y.1 ∧ SameB B y.1 ∧ Stays φ B.bk y.2 y.1.bk, ret := fun _ => .tup [], post := fun y => bookM y.1 y.2 }
def ct_grows (B : BS) (φ : Bag KK) : Ct KK := { need := BookOk φ B, pre := bookH B ++ [.bag φ], args := [.c (.ptr 0 0 0)], Y := BS × Bag KK, ok := fun y => (BookOk y.2 y.1 ∧ SameB B y.1 ∧ Stays φ B.bk y.2 y.1.bk) ∧ y.1.f = [] ∧ y.1.r = [], ret := fun _ => .tup [], post := fun y => bookM y.1 y.2 }
def pick_tabM (f : FuncId) (B : BS) (τ : List Nat) : Option (Ct KK × List KK.Kd × List Nat) := match f with
  | 93 => some (ct_b B (.tup []), [], τ)
  | 94 => some (ct_b B (.tup []), [], τ)
  | 95 => some (ct_b B (.tup []), [], τ)
  | 96 => some (ct_b B (.tup []), [], τ)
  | 97 => some (ct_b B (.tup []), [], τ)
  | 98 => some (ct_b B (.tup []), [], τ)
  | 99 => some (ct_b B (.tup []), [], τ)
  | 100 => some (ct_b B (.tup []), [], τ)
  | 101 => some (ct_b B (.tup []), [], τ)
  | 102 => some (ct_b B (.tup []), [], τ)
  | 103 => some (ct_b B (.tup []), [], τ)
  | 104 => some (ct_b B (.tup []), [], τ)
  | 105 => some (ct_b B (.tup []), [], τ)
  | 106 => some (ct_b B (.tup []), [], τ)
  | 107 => some (ct_b B (.tup []), [], τ)
  | _ => none
theorem pick_tabM_ok (f : FuncId) (B : BS) (τ : List Nat) (ct ks ρ) (h : pick_tabM f B τ = some (ct, ks, ρ)) : CtOk Tryz.prog f ct := by
  unfold pick_tabM at h
  split at h
  · cases h; exact mInts_ok _
  · cases h; exact mTexts_ok _
  · cases h; exact mLosts_ok _
  · cases h; exact mChanges_ok _
  · cases h; exact mCells_ok _
  · cases h; exact mItems_ok _
  · cases h; exact mEntries_ok _
  · cases h; exact mPlaceds_ok _
  · cases h; exact mRules_ok _
  · cases h; exact mFaults_ok _
  · cases h; exact mChunks_ok _
  · cases h; exact mThings_ok _
  · cases h; exact mDones_ok _
  · cases h; exact mNodes_ok _
  · cases h; exact mSteps_ok _
  · cases h
def tabM : Tab Tryz.prog KK := ⟨mixed, fun f args H => match args with
  | [.one (.c (.ptr 0 0 0))] => match f with
    | 92 => match getBB H with
      | some (B, φ, τ) => some (ct_mT B φ, [], τ)
      | none => none
    | f => match getB H with
      | some (B, τ) => pick_tabM f B τ
      | none => none
  | _ => none, fun f args H ct ks τ h => by
    split at h
    · split at h
      · split at h
        · cases h; exact mT_ok _ _
        · cases h
      · split at h
        · exact pick_tabM_ok _ _ _ _ _ _ h
        · cases h
    · cases h⟩
def pick_tabG (f : FuncId) (B : BS) (τ : List Nat) : Option (Ct KK × List KK.Kd × List Nat) := match f with
  | 109 => some (ct_b B (.tup []), [], τ)
  | 110 => some (ct_b B (.tup []), [], τ)
  | 111 => some (ct_b B (.tup []), [], τ)
  | 112 => some (ct_b B (.tup []), [], τ)
  | 113 => some (ct_b B (.tup []), [], τ)
  | 114 => some (ct_b B (.tup []), [], τ)
  | 115 => some (ct_b B (.tup []), [], τ)
  | 116 => some (ct_b B (.tup []), [], τ)
  | 117 => some (ct_b B (.tup []), [], τ)
  | 118 => some (ct_b B (.tup []), [], τ)
  | 119 => some (ct_b B (.tup []), [], τ)
  | 120 => some (ct_b B (.tup []), [], τ)
  | 121 => some (ct_b B (.tup []), [], τ)
  | 122 => some (ct_b B (.tup []), [], τ)
  | 123 => some (ct_b B (.tup []), [], τ)
  | _ => none
theorem pick_tabG_ok (f : FuncId) (B : BS) (τ : List Nat) (ct ks ρ) (h : pick_tabG f B τ = some (ct, ks, ρ)) : CtOk Tryz.prog f ct := by
  unfold pick_tabG at h
  split at h
  · cases h; exact gInts_ok _
  · cases h; exact gTexts_ok _
  · cases h; exact gLosts_ok _
  · cases h; exact gChanges_ok _
  · cases h; exact gCells_ok _
  · cases h; exact gItems_ok _
  · cases h; exact gEntries_ok _
  · cases h; exact gPlaceds_ok _
  · cases h; exact gRules_ok _
  · cases h; exact gFaults_ok _
  · cases h; exact gChunks_ok _
  · cases h; exact gThings_ok _
  · cases h; exact gDones_ok _
  · cases h; exact gNodes_ok _
  · cases h; exact gSteps_ok _
  · cases h
def tabG : Tab Tryz.prog KK := ⟨mixed, fun f args H => match args with
  | [.one (.c (.ptr 0 0 0))] => match f with
    | 108 => match getBB H with
      | some (B, φ, τ) => some (ct_gT B φ, [], τ)
      | none => none
    | f => match getB H with
      | some (B, τ) => pick_tabG f B τ
      | none => none
  | _ => none, fun f args H ct ks τ h => by
    split at h
    · split at h
      · split at h
        · cases h; exact gT_ok _ _
        · cases h
      · split at h
        · exact pick_tabG_ok _ _ _ _ _ _ h
        · cases h
    · cases h⟩
theorem vc_hT (B : BS) (φ : Bag KK) : evFn tabB (ann_hT B φ) Tryz.f36 (ct_hT B φ) = ( Enter 10 (inv_hT1 B φ) (fun (x : Nat) => True) ([VV.one (V1.c (C.ptr 0 0 0)), VV.any, boolv false, i64 (0 : Int)] ++ anys 51) (bookH B ++ [.bag φ]) ∧ ∀ (z : Nat), z ≤ B.o.length → ite2 (decide ((↑z :
 Int) < (↑B.o.length : Int))) (((0 : Int) ≤ (↑z : Int) ∧ (↑z : Int) < (↑B.o.length : Int)) ∧ (↑z : Int).toNat < B.o.length ∧ True ∧ (↑z : Int).toNat < B.o.length ∧ ((0 : Int) ≤ (↑z : Int) ∧ (↑z : Int) <
 (↑B.t.length : Int)) ∧ (↑z : Int).toNat < B.t.length ∧ True ∧ (↑z : Int).toNat < B.t.length ∧ True ∧ (∃ (xs : List (Int)), RS.row φ Kd.u8 (rd B.o (↑z : Int).toNat RS.nil) = some xs ∧ RS.row φ Kd.u8 (rd
 B.t (↑z : Int).toNat RS.nil) = some xs ∧ xs.length ≤ 1000000000) ∧ Into (K := KK) 0 [] [9] [VV.one (V1.c (C.rs 5 1 (rd B.o (↑z : Int).toNat RS.nil))), VV.one (V1.c (C.rs 5 1 (rd B.t (↑z : Int).toNat RS.nil)))]
 (bookH B ++ [.bag φ]) [VV.one (V1.c (C.rs 5 1 (rd B.o (↑z : Int).toNat RS.nil))), VV.one (V1.c (C.rs 5 1 (rd B.t (↑z : Int).toNat RS.nil)))] [Atom.bag φ] ∧ ∀ (y : Unit), True → True ∧ i64ok ((↑z : Int)
 + (1 : Int)) ∧ Enter 10 (inv_hT1 B φ) (fun (z' : Nat) => B.o.length - z' < B.o.length - z) ([VV.one (V1.c (C.ptr 0 0 0)), VV.any, VV.any, i64 ((↑z : Int) + (1 : Int))] ++ anys 51) (bookH B ++ [.bag φ]))
 (Enter 10 (inv_hT2 B φ) (fun (x : Nat) => True) ([VV.one (V1.c (C.ptr 0 0 0)), VV.any, VV.any, i64 (↑z : Int), i64 (0 : Int)] ++ anys 50) (bookH B ++ [.bag φ]) ∧ ∀ (z : Nat), z ≤ B.w.length → ite2 (decide
 ((↑z : Int) < (↑B.w.length : Int))) (((0 : Int) ≤ (↑z : Int) ∧ (↑z : Int) < (↑B.w.length : Int)) ∧ (↑z : Int).toNat < B.w.length ∧ True ∧ (↑z : Int).toNat < B.w.length ∧ ((0 : Int) ≤ (↑z : Int) ∧ (↑z :
 Int) < (↑B.n.length : Int)) ∧ (↑z : Int).toNat < B.n.length ∧ True ∧ (↑z : Int).toNat < B.n.length ∧ True ∧ (∃ (xs : List (Int)), RS.row φ Kd.u8 (rd B.w (↑z : Int).toNat RS.nil) = some xs ∧ RS.row φ Kd.u8
 (rd B.n (↑z : Int).toNat RS.nil) = some xs ∧ xs.length ≤ 1000000000) ∧ Into (K := KK) 0 [] [9] [VV.one (V1.c (C.rs 5 1 (rd B.w (↑z : Int).toNat RS.nil))), VV.one (V1.c (C.rs 5 1 (rd B.n (↑z : Int).toNat
 RS.nil)))] (bookH B ++ [.bag φ]) [VV.one (V1.c (C.rs 5 1 (rd B.w (↑z : Int).toNat RS.nil))), VV.one (V1.c (C.rs 5 1 (rd B.n (↑z : Int).toNat RS.nil)))] [Atom.bag φ] ∧ ∀ (y : Unit), True → True ∧ i64ok
 ((↑z : Int) + (1 : Int)) ∧ Enter 10 (inv_hT2 B φ) (fun (z' : Nat) => B.w.length - z' < B.w.length - z) ([VV.one (V1.c (C.ptr 0 0 0)), VV.any, VV.any, VV.any, i64 ((↑z : Int) + (1 : Int))] ++ anys 50) (bookH
 B ++ [.bag φ])) (EndsAs 10 (ct_hT B φ) (boolv true) (bookH B ++ [.bag φ])))) := by kernel_rfl
theorem vc_marks (B : BS) (φ : Bag KK) : evFn tabM ann0 Tryz.f68 (ct_marks B φ) = ( BookOk φ (BS.mk (B.turn) (B.deep) (B.o) (B.t) (B.w) (B.n) (B.f) (B.m) (B.d) (B.r) (B.seen)) ∧ Into (K := KK) 0 [] [0, 1, 2, 3, 4, 5, 6, 7, 8, 9] [VV.one (V1.c (C.ptr 0 0 0))] (bookH B ++ [.bag φ]) [VV.one
 (V1.c (C.ptr 0 0 0))] (bookH B ++ [.bag φ]) ∧ ∀ (y : BS × Bag KK), (BookOk y.snd y.fst ∧ (y.fst.turn = B.turn ∧ y.fst.deep = B.deep ∧ y.fst.seen = B.seen) ∧ ∀ (b : Nat) (i : BI KK), φ b = some i → (∀ (y
 : RS), List.Mem y (B.o ++ (B.t ++ (B.w ++ (B.n ++ B.f)))) → ¬y.At b) → y.snd b = some i ∧ ∀ (y_1 : RS), List.Mem y_1 (y.fst.o ++ (y.fst.t ++ (y.fst.w ++ (y.fst.n ++ y.fst.f)))) → ¬y_1.At b) → True ∧ Into
 (K := KK) 0 [] [0, 10, 11, 12, 13, 14, 15, 16, 17] [VV.one (V1.c (C.ptr 0 0 0))] [Atom.cells 46 (bookC false false y.fst.turn y.fst.deep [C.slc 10 0 y.fst.o.length none, C.slc 11 0 y.fst.t.length none,
 C.slc 12 0 y.fst.w.length none, C.slc 13 0 y.fst.n.length none, C.slc 14 0 y.fst.f.length none, C.slc 15 0 y.fst.m.length none, C.slc 16 0 y.fst.d.length none, C.slc 17 0 y.fst.r.length none, C.int .i64
 y.fst.seen]), Atom.gone, Atom.gone, Atom.gone, Atom.gone, Atom.gone, Atom.gone, Atom.gone, Atom.gone, Atom.bag y.snd, Atom.arr Kd.ru8 y.fst.o, Atom.arr Kd.ru8 y.fst.t, Atom.arr Kd.ru8 y.fst.w, Atom.arr
 Kd.ru8 y.fst.n, Atom.arr Kd.ru8 y.fst.f, Atom.arr Kd.int y.fst.m, Atom.arr Kd.int y.fst.d, Atom.arr Kd.int y.fst.r] [VV.one (V1.c (C.ptr 0 0 0))] [Atom.cells 46 (bookC false false y.fst.turn y.fst.deep
 [C.slc 1 0 y.fst.o.length none, C.slc 2 0 y.fst.t.length none, C.slc 3 0 y.fst.w.length none, C.slc 4 0 y.fst.n.length none, C.slc 5 0 y.fst.f.length none, C.slc 6 0 y.fst.m.length none, C.slc 7 0 y.fst.d.length
 none, C.slc 8 0 y.fst.r.length none, C.int .i64 y.fst.seen]), Atom.arr Kd.ru8 y.fst.o, Atom.arr Kd.ru8 y.fst.t, Atom.arr Kd.ru8 y.fst.w, Atom.arr Kd.ru8 y.fst.n, Atom.arr Kd.ru8 y.fst.f, Atom.arr Kd.int
 y.fst.m, Atom.arr Kd.int y.fst.d, Atom.arr Kd.int y.fst.r] ∧ ∀ (y_1 : Unit), True → True ∧ Into (K := KK) 0 [] [0, 10, 11, 12, 13, 14, 15, 16, 17] [VV.one (V1.c (C.ptr 0 0 0))] [Atom.cells 46 (bookC false
 false y.fst.turn y.fst.deep [C.slc 10 0 y.fst.o.length none, C.slc 11 0 y.fst.t.length none, C.slc 12 0 y.fst.w.length none, C.slc 13 0 y.fst.n.length none, C.slc 14 0 y.fst.f.length none, C.slc 15 0 y.fst.m.length
 none, C.slc 16 0 y.fst.d.length none, C.slc 17 0 y.fst.r.length none, C.int .i64 y.fst.seen]), Atom.gone, Atom.gone, Atom.gone, Atom.gone, Atom.gone, Atom.gone, Atom.gone, Atom.gone, Atom.bag y.snd, Atom.arr
 Kd.ru8 y.fst.o, Atom.arr Kd.ru8 y.fst.t, Atom.arr Kd.ru8 y.fst.w, Atom.arr Kd.ru8 y.fst.n, Atom.arr Kd.ru8 y.fst.f, Atom.arr Kd.int y.fst.m, Atom.arr Kd.int y.fst.d, Atom.arr Kd.int y.fst.r] [VV.one (V1.c
 (C.ptr 0 0 0))] [Atom.cells 46 (bookC false false y.fst.turn y.fst.deep [C.slc 1 0 y.fst.o.length none, C.slc 2 0 y.fst.t.length none, C.slc 3 0 y.fst.w.length none, C.slc 4 0 y.fst.n.length none, C.slc
 5 0 y.fst.f.length none, C.slc 6 0 y.fst.m.length none, C.slc 7 0 y.fst.d.length none, C.slc 8 0 y.fst.r.length none, C.int .i64 y.fst.seen]), Atom.arr Kd.ru8 y.fst.o, Atom.arr Kd.ru8 y.fst.t, Atom.arr
 Kd.ru8 y.fst.w, Atom.arr Kd.ru8 y.fst.n, Atom.arr Kd.ru8 y.fst.f, Atom.arr Kd.int y.fst.m, Atom.arr Kd.int y.fst.d, Atom.arr Kd.int y.fst.r] ∧ ∀ (y_2 : Unit), True → True ∧ Into (K := KK) 0 [] [0, 10,
 11, 12, 13, 14, 15, 16, 17] [VV.one (V1.c (C.ptr 0 0 0))] [Atom.cells 46 (bookC false false y.fst.turn y.fst.deep [C.slc 10 0 y.fst.o.length none, C.slc 11 0 y.fst.t.length none, C.slc 12 0 y.fst.w.length
 none, C.slc 13 0 y.fst.n.length none, C.slc 14 0 y.fst.f.length none, C.slc 15 0 y.fst.m.length none, C.slc 16 0 y.fst.d.length none, C.slc 17 0 y.fst.r.length none, C.int .i64 y.fst.seen]), Atom.gone,
 Atom.gone, Atom.gone, Atom.gone, Atom.gone, Atom.gone, Atom.gone, Atom.gone, Atom.bag y.snd, Atom.arr Kd.ru8 y.fst.o, Atom.arr Kd.ru8 y.fst.t, Atom.arr Kd.ru8 y.fst.w, Atom.arr Kd.ru8 y.fst.n, Atom.arr
 Kd.ru8 y.fst.f, Atom.arr Kd.int y.fst.m, Atom.arr Kd.int y.fst.d, Atom.arr Kd.int y.fst.r] [VV.one (V1.c (C.ptr 0 0 0))] [Atom.cells 46 (bookC false false y.fst.turn y.fst.deep [C.slc 1 0 y.fst.o.length
 none, C.slc 2 0 y.fst.t.length none, C.slc 3 0 y.fst.w.length none, C.slc 4 0 y.fst.n.length none, C.slc 5 0 y.fst.f.length none, C.slc 6 0 y.fst.m.length none, C.slc 7 0 y.fst.d.length none, C.slc 8 0
 y.fst.r.length none, C.int .i64 y.fst.seen]), Atom.arr Kd.ru8 y.fst.o, Atom.arr Kd.ru8 y.fst.t, Atom.arr Kd.ru8 y.fst.w, Atom.arr Kd.ru8 y.fst.n, Atom.arr Kd.ru8 y.fst.f, Atom.arr Kd.int y.fst.m, Atom.arr
 Kd.int y.fst.d, Atom.arr Kd.int y.fst.r] ∧ ∀ (y_3 : Unit), True → True ∧ Into (K := KK) 0 [] [0, 10, 11, 12, 13, 14, 15, 16, 17] [VV.one (V1.c (C.ptr 0 0 0))] [Atom.cells 46 (bookC false false y.fst.turn
 y.fst.deep [C.slc 10 0 y.fst.o.length none, C.slc 11 0 y.fst.t.length none, C.slc 12 0 y.fst.w.length none, C.slc 13 0 y.fst.n.length none, C.slc 14 0 y.fst.f.length none, C.slc 15 0 y.fst.m.length none,
 C.slc 16 0 y.fst.d.length none, C.slc 17 0 y.fst.r.length none, C.int .i64 y.fst.seen]), Atom.gone, Atom.gone, Atom.gone, Atom.gone, Atom.gone, Atom.gone, Atom.gone, Atom.gone, Atom.bag y.snd, Atom.arr
 Kd.ru8 y.fst.o, Atom.arr Kd.ru8 y.fst.t, Atom.arr Kd.ru8 y.fst.w, Atom.arr Kd.ru8 y.fst.n, Atom.arr Kd.ru8 y.fst.f, Atom.arr Kd.int y.fst.m, Atom.arr Kd.int y.fst.d, Atom.arr Kd.int y.fst.r] [VV.one (V1.c
 (C.ptr 0 0 0))] [Atom.cells 46 (bookC false false y.fst.turn y.fst.deep [C.slc 1 0 y.fst.o.length none, C.slc 2 0 y.fst.t.length none, C.slc 3 0 y.fst.w.length none, C.slc 4 0 y.fst.n.length none, C.slc
 5 0 y.fst.f.length none, C.slc 6 0 y.fst.m.length none, C.slc 7 0 y.fst.d.length none, C.slc 8 0 y.fst.r.length none, C.int .i64 y.fst.seen]), Atom.arr Kd.ru8 y.fst.o, Atom.arr Kd.ru8 y.fst.t, Atom.arr
 Kd.ru8 y.fst.w, Atom.arr Kd.ru8 y.fst.n, Atom.arr Kd.ru8 y.fst.f, Atom.arr Kd.int y.fst.m, Atom.arr Kd.int y.fst.d, Atom.arr Kd.int y.fst.r] ∧ ∀ (y_4 : Unit), True → True ∧ Into (K := KK) 0 [] [0, 10,
 11, 12, 13, 14, 15, 16, 17] [VV.one (V1.c (C.ptr 0 0 0))] [Atom.cells 46 (bookC false false y.fst.turn y.fst.deep [C.slc 10 0 y.fst.o.length none, C.slc 11 0 y.fst.t.length none, C.slc 12 0 y.fst.w.length
 none, C.slc 13 0 y.fst.n.length none, C.slc 14 0 y.fst.f.length none, C.slc 15 0 y.fst.m.length none, C.slc 16 0 y.fst.d.length none, C.slc 17 0 y.fst.r.length none, C.int .i64 y.fst.seen]), Atom.gone,
 Atom.gone, Atom.gone, Atom.gone, Atom.gone, Atom.gone, Atom.gone, Atom.gone, Atom.bag y.snd, Atom.arr Kd.ru8 y.fst.o, Atom.arr Kd.ru8 y.fst.t, Atom.arr Kd.ru8 y.fst.w, Atom.arr Kd.ru8 y.fst.n, Atom.arr
 Kd.ru8 y.fst.f, Atom.arr Kd.int y.fst.m, Atom.arr Kd.int y.fst.d, Atom.arr Kd.int y.fst.r] [VV.one (V1.c (C.ptr 0 0 0))] [Atom.cells 46 (bookC false false y.fst.turn y.fst.deep [C.slc 1 0 y.fst.o.length
 none, C.slc 2 0 y.fst.t.length none, C.slc 3 0 y.fst.w.length none, C.slc 4 0 y.fst.n.length none, C.slc 5 0 y.fst.f.length none, C.slc 6 0 y.fst.m.length none, C.slc 7 0 y.fst.d.length none, C.slc 8 0
 y.fst.r.length none, C.int .i64 y.fst.seen]), Atom.arr Kd.ru8 y.fst.o, Atom.arr Kd.ru8 y.fst.t, Atom.arr Kd.ru8 y.fst.w, Atom.arr Kd.ru8 y.fst.n, Atom.arr Kd.ru8 y.fst.f, Atom.arr Kd.int y.fst.m, Atom.arr
 Kd.int y.fst.d, Atom.arr Kd.int y.fst.r] ∧ ∀ (y_5 : Unit), True → True ∧ Into (K := KK) 0 [] [0, 10, 11, 12, 13, 14, 15, 16, 17] [VV.one (V1.c (C.ptr 0 0 0))] [Atom.cells 46 (bookC false false y.fst.turn
 y.fst.deep [C.slc 10 0 y.fst.o.length none, C.slc 11 0 y.fst.t.length none, C.slc 12 0 y.fst.w.length none, C.slc 13 0 y.fst.n.length none, C.slc 14 0 y.fst.f.length none, C.slc 15 0 y.fst.m.length none,
 C.slc 16 0 y.fst.d.length none, C.slc 17 0 y.fst.r.length none, C.int .i64 y.fst.seen]), Atom.gone, Atom.gone, Atom.gone, Atom.gone, Atom.gone, Atom.gone, Atom.gone, Atom.gone, Atom.bag y.snd, Atom.arr
 Kd.ru8 y.fst.o, Atom.arr Kd.ru8 y.fst.t, Atom.arr Kd.ru8 y.fst.w, Atom.arr Kd.ru8 y.fst.n, Atom.arr Kd.ru8 y.fst.f, Atom.arr Kd.int y.fst.m, Atom.arr Kd.int y.fst.d, Atom.arr Kd.int y.fst.r] [VV.one (V1.c
 (C.ptr 0 0 0))] [Atom.cells 46 (bookC false false y.fst.turn y.fst.deep [C.slc 1 0 y.fst.o.length none, C.slc 2 0 y.fst.t.length none, C.slc 3 0 y.fst.w.length none, C.slc 4 0 y.fst.n.length none, C.slc
 5 0 y.fst.f.length none, C.slc 6 0 y.fst.m.length none, C.slc 7 0 y.fst.d.length none, C.slc 8 0 y.fst.r.length none, C.int .i64 y.fst.seen]), Atom.arr Kd.ru8 y.fst.o, Atom.arr Kd.ru8 y.fst.t, Atom.arr
 Kd.ru8 y.fst.w, Atom.arr Kd.ru8 y.fst.n, Atom.arr Kd.ru8 y.fst.f, Atom.arr Kd.int y.fst.m, Atom.arr Kd.int y.fst.d, Atom.arr Kd.int y.fst.r] ∧ ∀ (y_6 : Unit), True → True ∧ Into (K := KK) 0 [] [0, 10,
 11, 12, 13, 14, 15, 16, 17] [VV.one (V1.c (C.ptr 0 0 0))] [Atom.cells 46 (bookC false false y.fst.turn y.fst.deep [C.slc 10 0 y.fst.o.length none, C.slc 11 0 y.fst.t.length none, C.slc 12 0 y.fst.w.length
 none, C.slc 13 0 y.fst.n.length none, C.slc 14 0 y.fst.f.length none, C.slc 15 0 y.fst.m.length none, C.slc 16 0 y.fst.d.length none, C.slc 17 0 y.fst.r.length none, C.int .i64 y.fst.seen]), Atom.gone,
 Atom.gone, Atom.gone, Atom.gone, Atom.gone, Atom.gone, Atom.gone, Atom.gone, Atom.bag y.snd, Atom.arr Kd.ru8 y.fst.o, Atom.arr Kd.ru8 y.fst.t, Atom.arr Kd.ru8 y.fst.w, Atom.arr Kd.ru8 y.fst.n, Atom.arr
 Kd.ru8 y.fst.f, Atom.arr Kd.int y.fst.m, Atom.arr Kd.int y.fst.d, Atom.arr Kd.int y.fst.r] [VV.one (V1.c (C.ptr 0 0 0))] [Atom.cells 46 (bookC false false y.fst.turn y.fst.deep [C.slc 1 0 y.fst.o.length
 none, C.slc 2 0 y.fst.t.length none, C.slc 3 0 y.fst.w.length none, C.slc 4 0 y.fst.n.length none, C.slc 5 0 y.fst.f.length none, C.slc 6 0 y.fst.m.length none, C.slc 7 0 y.fst.d.length none, C.slc 8 0
 y.fst.r.length none, C.int .i64 y.fst.seen]), Atom.arr Kd.ru8 y.fst.o, Atom.arr Kd.ru8 y.fst.t, Atom.arr Kd.ru8 y.fst.w, Atom.arr Kd.ru8 y.fst.n, Atom.arr Kd.ru8 y.fst.f, Atom.arr Kd.int y.fst.m, Atom.arr
 Kd.int y.fst.d, Atom.arr Kd.int y.fst.r] ∧ ∀ (y_7 : Unit), True → True ∧ Into (K := KK) 0 [] [0, 10, 11, 12, 13, 14, 15, 16, 17] [VV.one (V1.c (C.ptr 0 0 0))] [Atom.cells 46 (bookC false false y.fst.turn
 y.fst.deep [C.slc 10 0 y.fst.o.length none, C.slc 11 0 y.fst.t.length none, C.slc 12 0 y.fst.w.length none, C.slc 13 0 y.fst.n.length none, C.slc 14 0 y.fst.f.length none, C.slc 15 0 y.fst.m.length none,
 C.slc 16 0 y.fst.d.length none, C.slc 17 0 y.fst.r.length none, C.int .i64 y.fst.seen]), Atom.gone, Atom.gone, Atom.gone, Atom.gone, Atom.gone, Atom.gone, Atom.gone, Atom.gone, Atom.bag y.snd, Atom.arr
 Kd.ru8 y.fst.o, Atom.arr Kd.ru8 y.fst.t, Atom.arr Kd.ru8 y.fst.w, Atom.arr Kd.ru8 y.fst.n, Atom.arr Kd.ru8 y.fst.f, Atom.arr Kd.int y.fst.m, Atom.arr Kd.int y.fst.d, Atom.arr Kd.int y.fst.r] [VV.one (V1.c
 (C.ptr 0 0 0))] [Atom.cells 46 (bookC false false y.fst.turn y.fst.deep [C.slc 1 0 y.fst.o.length none, C.slc 2 0 y.fst.t.length none, C.slc 3 0 y.fst.w.length none, C.slc 4 0 y.fst.n.length none, C.slc
 5 0 y.fst.f.length none, C.slc 6 0 y.fst.m.length none, C.slc 7 0 y.fst.d.length none, C.slc 8 0 y.fst.r.length none, C.int .i64 y.fst.seen]), Atom.arr Kd.ru8 y.fst.o, Atom.arr Kd.ru8 y.fst.t, Atom.arr
 Kd.ru8 y.fst.w, Atom.arr Kd.ru8 y.fst.n, Atom.arr Kd.ru8 y.fst.f, Atom.arr Kd.int y.fst.m, Atom.arr Kd.int y.fst.d, Atom.arr Kd.int y.fst.r] ∧ ∀ (y_8 : Unit), True → True ∧ Into (K := KK) 0 [] [0, 10,
 11, 12, 13, 14, 15, 16, 17] [VV.one (V1.c (C.ptr 0 0 0))] [Atom.cells 46 (bookC false false y.fst.turn y.fst.deep [C.slc 10 0 y.fst.o.length none, C.slc 11 0 y.fst.t.length none, C.slc 12 0 y.fst.w.length
 none, C.slc 13 0 y.fst.n.length none, C.slc 14 0 y.fst.f.length none, C.slc 15 0 y.fst.m.length none, C.slc 16 0 y.fst.d.length none, C.slc 17 0 y.fst.r.length none, C.int .i64 y.fst.seen]), Atom.gone,
 Atom.gone, Atom.gone, Atom.gone, Atom.gone, Atom.gone, Atom.gone, Atom.gone, Atom.bag y.snd, Atom.arr Kd.ru8 y.fst.o, Atom.arr Kd.ru8 y.fst.t, Atom.arr Kd.ru8 y.fst.w, Atom.arr Kd.ru8 y.fst.n, Atom.arr
 Kd.ru8 y.fst.f, Atom.arr Kd.int y.fst.m, Atom.arr Kd.int y.fst.d, Atom.arr Kd.int y.fst.r] [VV.one (V1.c (C.ptr 0 0 0))] [Atom.cells 46 (bookC false false y.fst.turn y.fst.deep [C.slc 1 0 y.fst.o.length
 none, C.slc 2 0 y.fst.t.length none, C.slc 3 0 y.fst.w.length none, C.slc 4 0 y.fst.n.length none, C.slc 5 0 y.fst.f.length none, C.slc 6 0 y.fst.m.length none, C.slc 7 0 y.fst.d.length none, C.slc 8 0
 y.fst.r.length none, C.int .i64 y.fst.seen]), Atom.arr Kd.ru8 y.fst.o, Atom.arr Kd.ru8 y.fst.t, Atom.arr Kd.ru8 y.fst.w, Atom.arr Kd.ru8 y.fst.n, Atom.arr Kd.ru8 y.fst.f, Atom.arr Kd.int y.fst.m, Atom.arr
 Kd.int y.fst.d, Atom.arr Kd.int y.fst.r] ∧ ∀ (y_9 : Unit), True → True ∧ Into (K := KK) 0 [] [0, 10, 11, 12, 13, 14, 15, 16, 17] [VV.one (V1.c (C.ptr 0 0 0))] [Atom.cells 46 (bookC false false y.fst.turn
 y.fst.deep [C.slc 10 0 y.fst.o.length none, C.slc 11 0 y.fst.t.length none, C.slc 12 0 y.fst.w.length none, C.slc 13 0 y.fst.n.length none, C.slc 14 0 y.fst.f.length none, C.slc 15 0 y.fst.m.length none,
 C.slc 16 0 y.fst.d.length none, C.slc 17 0 y.fst.r.length none, C.int .i64 y.fst.seen]), Atom.gone, Atom.gone, Atom.gone, Atom.gone, Atom.gone, Atom.gone, Atom.gone, Atom.gone, Atom.bag y.snd, Atom.arr
 Kd.ru8 y.fst.o, Atom.arr Kd.ru8 y.fst.t, Atom.arr Kd.ru8 y.fst.w, Atom.arr Kd.ru8 y.fst.n, Atom.arr Kd.ru8 y.fst.f, Atom.arr Kd.int y.fst.m, Atom.arr Kd.int y.fst.d, Atom.arr Kd.int y.fst.r] [VV.one (V1.c
 (C.ptr 0 0 0))] [Atom.cells 46 (bookC false false y.fst.turn y.fst.deep [C.slc 1 0 y.fst.o.length none, C.slc 2 0 y.fst.t.length none, C.slc 3 0 y.fst.w.length none, C.slc 4 0 y.fst.n.length none, C.slc
 5 0 y.fst.f.length none, C.slc 6 0 y.fst.m.length none, C.slc 7 0 y.fst.d.length none, C.slc 8 0 y.fst.r.length none, C.int .i64 y.fst.seen]), Atom.arr Kd.ru8 y.fst.o, Atom.arr Kd.ru8 y.fst.t, Atom.arr
 Kd.ru8 y.fst.w, Atom.arr Kd.ru8 y.fst.n, Atom.arr Kd.ru8 y.fst.f, Atom.arr Kd.int y.fst.m, Atom.arr Kd.int y.fst.d, Atom.arr Kd.int y.fst.r] ∧ ∀ (y_10 : Unit), True → True ∧ Into (K := KK) 0 [] [0, 10,
 11, 12, 13, 14, 15, 16, 17] [VV.one (V1.c (C.ptr 0 0 0))] [Atom.cells 46 (bookC false false y.fst.turn y.fst.deep [C.slc 10 0 y.fst.o.length none, C.slc 11 0 y.fst.t.length none, C.slc 12 0 y.fst.w.length
 none, C.slc 13 0 y.fst.n.length none, C.slc 14 0 y.fst.f.length none, C.slc 15 0 y.fst.m.length none, C.slc 16 0 y.fst.d.length none, C.slc 17 0 y.fst.r.length none, C.int .i64 y.fst.seen]), Atom.gone,
 Atom.gone, Atom.gone, Atom.gone, Atom.gone, Atom.gone, Atom.gone, Atom.gone, Atom.bag y.snd, Atom.arr Kd.ru8 y.fst.o, Atom.arr Kd.ru8 y.fst.t, Atom.arr Kd.ru8 y.fst.w, Atom.arr Kd.ru8 y.fst.n, Atom.arr
 Kd.ru8 y.fst.f, Atom.arr Kd.int y.fst.m, Atom.arr Kd.int y.fst.d, Atom.arr Kd.int y.fst.r] [VV.one (V1.c (C.ptr 0 0 0))] [Atom.cells 46 (bookC false false y.fst.turn y.fst.deep [C.slc 1 0 y.fst.o.length
 none, C.slc 2 0 y.fst.t.length none, C.slc 3 0 y.fst.w.length none, C.slc 4 0 y.fst.n.length none, C.slc 5 0 y.fst.f.length none, C.slc 6 0 y.fst.m.length none, C.slc 7 0 y.fst.d.length none, C.slc 8 0
 y.fst.r.length none, C.int .i64 y.fst.seen]), Atom.arr Kd.ru8 y.fst.o, Atom.arr Kd.ru8 y.fst.t, Atom.arr Kd.ru8 y.fst.w, Atom.arr Kd.ru8 y.fst.n, Atom.arr Kd.ru8 y.fst.f, Atom.arr Kd.int y.fst.m, Atom.arr
 Kd.int y.fst.d, Atom.arr Kd.int y.fst.r] ∧ ∀ (y_11 : Unit), True → True ∧ Into (K := KK) 0 [] [0, 10, 11, 12, 13, 14, 15, 16, 17] [VV.one (V1.c (C.ptr 0 0 0))] [Atom.cells 46 (bookC false false y.fst.turn
 y.fst.deep [C.slc 10 0 y.fst.o.length none, C.slc 11 0 y.fst.t.length none, C.slc 12 0 y.fst.w.length none, C.slc 13 0 y.fst.n.length none, C.slc 14 0 y.fst.f.length none, C.slc 15 0 y.fst.m.length none,
 C.slc 16 0 y.fst.d.length none, C.slc 17 0 y.fst.r.length none, C.int .i64 y.fst.seen]), Atom.gone, Atom.gone, Atom.gone, Atom.gone, Atom.gone, Atom.gone, Atom.gone, Atom.gone, Atom.bag y.snd, Atom.arr
 Kd.ru8 y.fst.o, Atom.arr Kd.ru8 y.fst.t, Atom.arr Kd.ru8 y.fst.w, Atom.arr Kd.ru8 y.fst.n, Atom.arr Kd.ru8 y.fst.f, Atom.arr Kd.int y.fst.m, Atom.arr Kd.int y.fst.d, Atom.arr Kd.int y.fst.r] [VV.one (V1.c
 (C.ptr 0 0 0))] [Atom.cells 46 (bookC false false y.fst.turn y.fst.deep [C.slc 1 0 y.fst.o.length none, C.slc 2 0 y.fst.t.length none, C.slc 3 0 y.fst.w.length none, C.slc 4 0 y.fst.n.length none, C.slc
 5 0 y.fst.f.length none, C.slc 6 0 y.fst.m.length none, C.slc 7 0 y.fst.d.length none, C.slc 8 0 y.fst.r.length none, C.int .i64 y.fst.seen]), Atom.arr Kd.ru8 y.fst.o, Atom.arr Kd.ru8 y.fst.t, Atom.arr
 Kd.ru8 y.fst.w, Atom.arr Kd.ru8 y.fst.n, Atom.arr Kd.ru8 y.fst.f, Atom.arr Kd.int y.fst.m, Atom.arr Kd.int y.fst.d, Atom.arr Kd.int y.fst.r] ∧ ∀ (y_12 : Unit), True → True ∧ Into (K := KK) 0 [] [0, 10,
 11, 12, 13, 14, 15, 16, 17] [VV.one (V1.c (C.ptr 0 0 0))] [Atom.cells 46 (bookC false false y.fst.turn y.fst.deep [C.slc 10 0 y.fst.o.length none, C.slc 11 0 y.fst.t.length none, C.slc 12 0 y.fst.w.length
 none, C.slc 13 0 y.fst.n.length none, C.slc 14 0 y.fst.f.length none, C.slc 15 0 y.fst.m.length none, C.slc 16 0 y.fst.d.length none, C.slc 17 0 y.fst.r.length none, C.int .i64 y.fst.seen]), Atom.gone,
 Atom.gone, Atom.gone, Atom.gone, Atom.gone, Atom.gone, Atom.gone, Atom.gone, Atom.bag y.snd, Atom.arr Kd.ru8 y.fst.o, Atom.arr Kd.ru8 y.fst.t, Atom.arr Kd.ru8 y.fst.w, Atom.arr Kd.ru8 y.fst.n, Atom.arr
 Kd.ru8 y.fst.f, Atom.arr Kd.int y.fst.m, Atom.arr Kd.int y.fst.d, Atom.arr Kd.int y.fst.r] [VV.one (V1.c (C.ptr 0 0 0))] [Atom.cells 46 (bookC false false y.fst.turn y.fst.deep [C.slc 1 0 y.fst.o.length
 none, C.slc 2 0 y.fst.t.length none, C.slc 3 0 y.fst.w.length none, C.slc 4 0 y.fst.n.length none, C.slc 5 0 y.fst.f.length none, C.slc 6 0 y.fst.m.length none, C.slc 7 0 y.fst.d.length none, C.slc 8 0
 y.fst.r.length none, C.int .i64 y.fst.seen]), Atom.arr Kd.ru8 y.fst.o, Atom.arr Kd.ru8 y.fst.t, Atom.arr Kd.ru8 y.fst.w, Atom.arr Kd.ru8 y.fst.n, Atom.arr Kd.ru8 y.fst.f, Atom.arr Kd.int y.fst.m, Atom.arr
 Kd.int y.fst.d, Atom.arr Kd.int y.fst.r] ∧ ∀ (y_13 : Unit), True → True ∧ Into (K := KK) 0 [] [0, 10, 11, 12, 13, 14, 15, 16, 17] [VV.one (V1.c (C.ptr 0 0 0))] [Atom.cells 46 (bookC false false y.fst.turn
 y.fst.deep [C.slc 10 0 y.fst.o.length none, C.slc 11 0 y.fst.t.length none, C.slc 12 0 y.fst.w.length none, C.slc 13 0 y.fst.n.length none, C.slc 14 0 y.fst.f.length none, C.slc 15 0 y.fst.m.length none,
 C.slc 16 0 y.fst.d.length none, C.slc 17 0 y.fst.r.length none, C.int .i64 y.fst.seen]), Atom.gone, Atom.gone, Atom.gone, Atom.gone, Atom.gone, Atom.gone, Atom.gone, Atom.gone, Atom.bag y.snd, Atom.arr
 Kd.ru8 y.fst.o, Atom.arr Kd.ru8 y.fst.t, Atom.arr Kd.ru8 y.fst.w, Atom.arr Kd.ru8 y.fst.n, Atom.arr Kd.ru8 y.fst.f, Atom.arr Kd.int y.fst.m, Atom.arr Kd.int y.fst.d, Atom.arr Kd.int y.fst.r] [VV.one (V1.c
 (C.ptr 0 0 0))] [Atom.cells 46 (bookC false false y.fst.turn y.fst.deep [C.slc 1 0 y.fst.o.length none, C.slc 2 0 y.fst.t.length none, C.slc 3 0 y.fst.w.length none, C.slc 4 0 y.fst.n.length none, C.slc
 5 0 y.fst.f.length none, C.slc 6 0 y.fst.m.length none, C.slc 7 0 y.fst.d.length none, C.slc 8 0 y.fst.r.length none, C.int .i64 y.fst.seen]), Atom.arr Kd.ru8 y.fst.o, Atom.arr Kd.ru8 y.fst.t, Atom.arr
 Kd.ru8 y.fst.w, Atom.arr Kd.ru8 y.fst.n, Atom.arr Kd.ru8 y.fst.f, Atom.arr Kd.int y.fst.m, Atom.arr Kd.int y.fst.d, Atom.arr Kd.int y.fst.r] ∧ ∀ (y_14 : Unit), True → True ∧ Into (K := KK) 0 [] [0, 10,
 11, 12, 13, 14, 15, 16, 17] [VV.one (V1.c (C.ptr 0 0 0))] [Atom.cells 46 (bookC false false y.fst.turn y.fst.deep [C.slc 10 0 y.fst.o.length none, C.slc 11 0 y.fst.t.length none, C.slc 12 0 y.fst.w.length
 none, C.slc 13 0 y.fst.n.length none, C.slc 14 0 y.fst.f.length none, C.slc 15 0 y.fst.m.length none, C.slc 16 0 y.fst.d.length none, C.slc 17 0 y.fst.r.length none, C.int .i64 y.fst.seen]), Atom.gone,
 Atom.gone, Atom.gone, Atom.gone, Atom.gone, Atom.gone, Atom.gone, Atom.gone, Atom.bag y.snd, Atom.arr Kd.ru8 y.fst.o, Atom.arr Kd.ru8 y.fst.t, Atom.arr Kd.ru8 y.fst.w, Atom.arr Kd.ru8 y.fst.n, Atom.arr
 Kd.ru8 y.fst.f, Atom.arr Kd.int y.fst.m, Atom.arr Kd.int y.fst.d, Atom.arr Kd.int y.fst.r] [VV.one (V1.c (C.ptr 0 0 0))] [Atom.cells 46 (bookC false false y.fst.turn y.fst.deep [C.slc 1 0 y.fst.o.length
 none, C.slc 2 0 y.fst.t.length none, C.slc 3 0 y.fst.w.length none, C.slc 4 0 y.fst.n.length none, C.slc 5 0 y.fst.f.length none, C.slc 6 0 y.fst.m.length none, C.slc 7 0 y.fst.d.length none, C.slc 8 0
 y.fst.r.length none, C.int .i64 y.fst.seen]), Atom.arr Kd.ru8 y.fst.o, Atom.arr Kd.ru8 y.fst.t, Atom.arr Kd.ru8 y.fst.w, Atom.arr Kd.ru8 y.fst.n, Atom.arr Kd.ru8 y.fst.f, Atom.arr Kd.int y.fst.m, Atom.arr
 Kd.int y.fst.d, Atom.arr Kd.int y.fst.r] ∧ ∀ (y_15 : Unit), True → EndsAs 10 (ct_marks B φ) (VV.tup []) [Atom.cells 46 (bookC false false y.fst.turn y.fst.deep [C.slc 10 0 y.fst.o.length none, C.slc 11
 0 y.fst.t.length none, C.slc 12 0 y.fst.w.length none, C.slc 13 0 y.fst.n.length none, C.slc 14 0 y.fst.f.length none, C.slc 15 0 y.fst.m.length none, C.slc 16 0 y.fst.d.length none, C.slc 17 0 y.fst.r.length
 none, C.int .i64 y.fst.seen]), Atom.gone, Atom.gone, Atom.gone, Atom.gone, Atom.gone, Atom.gone, Atom.gone, Atom.gone, Atom.bag y.snd, Atom.arr Kd.ru8 y.fst.o, Atom.arr Kd.ru8 y.fst.t, Atom.arr Kd.ru8
 y.fst.w, Atom.arr Kd.ru8 y.fst.n, Atom.arr Kd.ru8 y.fst.f, Atom.arr Kd.int y.fst.m, Atom.arr Kd.int y.fst.d, Atom.arr Kd.int y.fst.r]) := by kernel_rfl
theorem vc_grows (B : BS) (φ : Bag KK) : evFn tabG ann0 Tryz.f69 (ct_grows B φ) = ( BookOk φ (BS.mk (B.turn) (B.deep) (B.o) (B.t) (B.w) (B.n) (B.f) (B.m) (B.d) (B.r) (B.seen)) ∧ Into (K := KK) 0 [] [0, 1, 2, 3, 4, 5, 6, 7, 8, 9] [VV.one (V1.c (C.ptr 0 0 0))] (bookH B ++ [.bag φ]) [VV.one
 (V1.c (C.ptr 0 0 0))] (bookH B ++ [.bag φ]) ∧ ∀ (y : BS × Bag KK), (BookOk y.snd y.fst ∧ (y.fst.turn = B.turn ∧ y.fst.deep = B.deep ∧ y.fst.seen = B.seen) ∧ ∀ (b : Nat) (i : BI KK), φ b = some i → (∀ (y
 : RS), List.Mem y (B.o ++ (B.t ++ (B.w ++ (B.n ++ B.f)))) → ¬y.At b) → y.snd b = some i ∧ ∀ (y_1 : RS), List.Mem y_1 (y.fst.o ++ (y.fst.t ++ (y.fst.w ++ (y.fst.n ++ y.fst.f)))) → ¬y_1.At b) ∧ y.fst.f =
 [] ∧ y.fst.r = [] → True ∧ Into (K := KK) 0 [] [0, 10, 11, 12, 13, 14, 15, 16, 17] [VV.one (V1.c (C.ptr 0 0 0))] [Atom.cells 46 (bookC false false y.fst.turn y.fst.deep [C.slc 10 0 y.fst.o.length none,
 C.slc 11 0 y.fst.t.length none, C.slc 12 0 y.fst.w.length none, C.slc 13 0 y.fst.n.length none, C.slc 14 0 y.fst.f.length none, C.slc 15 0 y.fst.m.length none, C.slc 16 0 y.fst.d.length none, C.slc 17
 0 y.fst.r.length none, C.int .i64 y.fst.seen]), Atom.gone, Atom.gone, Atom.gone, Atom.gone, Atom.gone, Atom.gone, Atom.gone, Atom.gone, Atom.bag y.snd, Atom.arr Kd.ru8 y.fst.o, Atom.arr Kd.ru8 y.fst.t,
 Atom.arr Kd.ru8 y.fst.w, Atom.arr Kd.ru8 y.fst.n, Atom.arr Kd.ru8 y.fst.f, Atom.arr Kd.int y.fst.m, Atom.arr Kd.int y.fst.d, Atom.arr Kd.int y.fst.r] [VV.one (V1.c (C.ptr 0 0 0))] [Atom.cells 46 (bookC
 false false y.fst.turn y.fst.deep [C.slc 1 0 y.fst.o.length none, C.slc 2 0 y.fst.t.length none, C.slc 3 0 y.fst.w.length none, C.slc 4 0 y.fst.n.length none, C.slc 5 0 y.fst.f.length none, C.slc 6 0 y.fst.m.length
 none, C.slc 7 0 y.fst.d.length none, C.slc 8 0 y.fst.r.length none, C.int .i64 y.fst.seen]), Atom.arr Kd.ru8 y.fst.o, Atom.arr Kd.ru8 y.fst.t, Atom.arr Kd.ru8 y.fst.w, Atom.arr Kd.ru8 y.fst.n, Atom.arr
 Kd.ru8 y.fst.f, Atom.arr Kd.int y.fst.m, Atom.arr Kd.int y.fst.d, Atom.arr Kd.int y.fst.r] ∧ ∀ (y_1 : Unit), True → True ∧ Into (K := KK) 0 [] [0, 10, 11, 12, 13, 14, 15, 16, 17] [VV.one (V1.c (C.ptr 0
 0 0))] [Atom.cells 46 (bookC false false y.fst.turn y.fst.deep [C.slc 10 0 y.fst.o.length none, C.slc 11 0 y.fst.t.length none, C.slc 12 0 y.fst.w.length none, C.slc 13 0 y.fst.n.length none, C.slc 14
 0 y.fst.f.length none, C.slc 15 0 y.fst.m.length none, C.slc 16 0 y.fst.d.length none, C.slc 17 0 y.fst.r.length none, C.int .i64 y.fst.seen]), Atom.gone, Atom.gone, Atom.gone, Atom.gone, Atom.gone, Atom.gone,
 Atom.gone, Atom.gone, Atom.bag y.snd, Atom.arr Kd.ru8 y.fst.o, Atom.arr Kd.ru8 y.fst.t, Atom.arr Kd.ru8 y.fst.w, Atom.arr Kd.ru8 y.fst.n, Atom.arr Kd.ru8 y.fst.f, Atom.arr Kd.int y.fst.m, Atom.arr Kd.int
 y.fst.d, Atom.arr Kd.int y.fst.r] [VV.one (V1.c (C.ptr 0 0 0))] [Atom.cells 46 (bookC false false y.fst.turn y.fst.deep [C.slc 1 0 y.fst.o.length none, C.slc 2 0 y.fst.t.length none, C.slc 3 0 y.fst.w.length
 none, C.slc 4 0 y.fst.n.length none, C.slc 5 0 y.fst.f.length none, C.slc 6 0 y.fst.m.length none, C.slc 7 0 y.fst.d.length none, C.slc 8 0 y.fst.r.length none, C.int .i64 y.fst.seen]), Atom.arr Kd.ru8
 y.fst.o, Atom.arr Kd.ru8 y.fst.t, Atom.arr Kd.ru8 y.fst.w, Atom.arr Kd.ru8 y.fst.n, Atom.arr Kd.ru8 y.fst.f, Atom.arr Kd.int y.fst.m, Atom.arr Kd.int y.fst.d, Atom.arr Kd.int y.fst.r] ∧ ∀ (y_2 : Unit),
 True → True ∧ Into (K := KK) 0 [] [0, 10, 11, 12, 13, 14, 15, 16, 17] [VV.one (V1.c (C.ptr 0 0 0))] [Atom.cells 46 (bookC false false y.fst.turn y.fst.deep [C.slc 10 0 y.fst.o.length none, C.slc 11 0 y.fst.t.length
 none, C.slc 12 0 y.fst.w.length none, C.slc 13 0 y.fst.n.length none, C.slc 14 0 y.fst.f.length none, C.slc 15 0 y.fst.m.length none, C.slc 16 0 y.fst.d.length none, C.slc 17 0 y.fst.r.length none, C.int
 .i64 y.fst.seen]), Atom.gone, Atom.gone, Atom.gone, Atom.gone, Atom.gone, Atom.gone, Atom.gone, Atom.gone, Atom.bag y.snd, Atom.arr Kd.ru8 y.fst.o, Atom.arr Kd.ru8 y.fst.t, Atom.arr Kd.ru8 y.fst.w, Atom.arr
 Kd.ru8 y.fst.n, Atom.arr Kd.ru8 y.fst.f, Atom.arr Kd.int y.fst.m, Atom.arr Kd.int y.fst.d, Atom.arr Kd.int y.fst.r] [VV.one (V1.c (C.ptr 0 0 0))] [Atom.cells 46 (bookC false false y.fst.turn y.fst.deep
 [C.slc 1 0 y.fst.o.length none, C.slc 2 0 y.fst.t.length none, C.slc 3 0 y.fst.w.length none, C.slc 4 0 y.fst.n.length none, C.slc 5 0 y.fst.f.length none, C.slc 6 0 y.fst.m.length none, C.slc 7 0 y.fst.d.length
 none, C.slc 8 0 y.fst.r.length none, C.int .i64 y.fst.seen]), Atom.arr Kd.ru8 y.fst.o, Atom.arr Kd.ru8 y.fst.t, Atom.arr Kd.ru8 y.fst.w, Atom.arr Kd.ru8 y.fst.n, Atom.arr Kd.ru8 y.fst.f, Atom.arr Kd.int
 y.fst.m, Atom.arr Kd.int y.fst.d, Atom.arr Kd.int y.fst.r] ∧ ∀ (y_3 : Unit), True → True ∧ Into (K := KK) 0 [] [0, 10, 11, 12, 13, 14, 15, 16, 17] [VV.one (V1.c (C.ptr 0 0 0))] [Atom.cells 46 (bookC false
 false y.fst.turn y.fst.deep [C.slc 10 0 y.fst.o.length none, C.slc 11 0 y.fst.t.length none, C.slc 12 0 y.fst.w.length none, C.slc 13 0 y.fst.n.length none, C.slc 14 0 y.fst.f.length none, C.slc 15 0 y.fst.m.length
 none, C.slc 16 0 y.fst.d.length none, C.slc 17 0 y.fst.r.length none, C.int .i64 y.fst.seen]), Atom.gone, Atom.gone, Atom.gone, Atom.gone, Atom.gone, Atom.gone, Atom.gone, Atom.gone, Atom.bag y.snd, Atom.arr
 Kd.ru8 y.fst.o, Atom.arr Kd.ru8 y.fst.t, Atom.arr Kd.ru8 y.fst.w, Atom.arr Kd.ru8 y.fst.n, Atom.arr Kd.ru8 y.fst.f, Atom.arr Kd.int y.fst.m, Atom.arr Kd.int y.fst.d, Atom.arr Kd.int y.fst.r] [VV.one (V1.c
 (C.ptr 0 0 0))] [Atom.cells 46 (bookC false false y.fst.turn y.fst.deep [C.slc 1 0 y.fst.o.length none, C.slc 2 0 y.fst.t.length none, C.slc 3 0 y.fst.w.length none, C.slc 4 0 y.fst.n.length none, C.slc
 5 0 y.fst.f.length none, C.slc 6 0 y.fst.m.length none, C.slc 7 0 y.fst.d.length none, C.slc 8 0 y.fst.r.length none, C.int .i64 y.fst.seen]), Atom.arr Kd.ru8 y.fst.o, Atom.arr Kd.ru8 y.fst.t, Atom.arr
 Kd.ru8 y.fst.w, Atom.arr Kd.ru8 y.fst.n, Atom.arr Kd.ru8 y.fst.f, Atom.arr Kd.int y.fst.m, Atom.arr Kd.int y.fst.d, Atom.arr Kd.int y.fst.r] ∧ ∀ (y_4 : Unit), True → True ∧ Into (K := KK) 0 [] [0, 10,
 11, 12, 13, 14, 15, 16, 17] [VV.one (V1.c (C.ptr 0 0 0))] [Atom.cells 46 (bookC false false y.fst.turn y.fst.deep [C.slc 10 0 y.fst.o.length none, C.slc 11 0 y.fst.t.length none, C.slc 12 0 y.fst.w.length
 none, C.slc 13 0 y.fst.n.length none, C.slc 14 0 y.fst.f.length none, C.slc 15 0 y.fst.m.length none, C.slc 16 0 y.fst.d.length none, C.slc 17 0 y.fst.r.length none, C.int .i64 y.fst.seen]), Atom.gone,
 Atom.gone, Atom.gone, Atom.gone, Atom.gone, Atom.gone, Atom.gone, Atom.gone, Atom.bag y.snd, Atom.arr Kd.ru8 y.fst.o, Atom.arr Kd.ru8 y.fst.t, Atom.arr Kd.ru8 y.fst.w, Atom.arr Kd.ru8 y.fst.n, Atom.arr
 Kd.ru8 y.fst.f, Atom.arr Kd.int y.fst.m, Atom.arr Kd.int y.fst.d, Atom.arr Kd.int y.fst.r] [VV.one (V1.c (C.ptr 0 0 0))] [Atom.cells 46 (bookC false false y.fst.turn y.fst.deep [C.slc 1 0 y.fst.o.length
 none, C.slc 2 0 y.fst.t.length none, C.slc 3 0 y.fst.w.length none, C.slc 4 0 y.fst.n.length none, C.slc 5 0 y.fst.f.length none, C.slc 6 0 y.fst.m.length none, C.slc 7 0 y.fst.d.length none, C.slc 8 0
 y.fst.r.length none, C.int .i64 y.fst.seen]), Atom.arr Kd.ru8 y.fst.o, Atom.arr Kd.ru8 y.fst.t, Atom.arr Kd.ru8 y.fst.w, Atom.arr Kd.ru8 y.fst.n, Atom.arr Kd.ru8 y.fst.f, Atom.arr Kd.int y.fst.m, Atom.arr
 Kd.int y.fst.d, Atom.arr Kd.int y.fst.r] ∧ ∀ (y_5 : Unit), True → True ∧ Into (K := KK) 0 [] [0, 10, 11, 12, 13, 14, 15, 16, 17] [VV.one (V1.c (C.ptr 0 0 0))] [Atom.cells 46 (bookC false false y.fst.turn
 y.fst.deep [C.slc 10 0 y.fst.o.length none, C.slc 11 0 y.fst.t.length none, C.slc 12 0 y.fst.w.length none, C.slc 13 0 y.fst.n.length none, C.slc 14 0 y.fst.f.length none, C.slc 15 0 y.fst.m.length none,
 C.slc 16 0 y.fst.d.length none, C.slc 17 0 y.fst.r.length none, C.int .i64 y.fst.seen]), Atom.gone, Atom.gone, Atom.gone, Atom.gone, Atom.gone, Atom.gone, Atom.gone, Atom.gone, Atom.bag y.snd, Atom.arr
 Kd.ru8 y.fst.o, Atom.arr Kd.ru8 y.fst.t, Atom.arr Kd.ru8 y.fst.w, Atom.arr Kd.ru8 y.fst.n, Atom.arr Kd.ru8 y.fst.f, Atom.arr Kd.int y.fst.m, Atom.arr Kd.int y.fst.d, Atom.arr Kd.int y.fst.r] [VV.one (V1.c
 (C.ptr 0 0 0))] [Atom.cells 46 (bookC false false y.fst.turn y.fst.deep [C.slc 1 0 y.fst.o.length none, C.slc 2 0 y.fst.t.length none, C.slc 3 0 y.fst.w.length none, C.slc 4 0 y.fst.n.length none, C.slc
 5 0 y.fst.f.length none, C.slc 6 0 y.fst.m.length none, C.slc 7 0 y.fst.d.length none, C.slc 8 0 y.fst.r.length none, C.int .i64 y.fst.seen]), Atom.arr Kd.ru8 y.fst.o, Atom.arr Kd.ru8 y.fst.t, Atom.arr
 Kd.ru8 y.fst.w, Atom.arr Kd.ru8 y.fst.n, Atom.arr Kd.ru8 y.fst.f, Atom.arr Kd.int y.fst.m, Atom.arr Kd.int y.fst.d, Atom.arr Kd.int y.fst.r] ∧ ∀ (y_6 : Unit), True → True ∧ Into (K := KK) 0 [] [0, 10,
 11, 12, 13, 14, 15, 16, 17] [VV.one (V1.c (C.ptr 0 0 0))] [Atom.cells 46 (bookC false false y.fst.turn y.fst.deep [C.slc 10 0 y.fst.o.length none, C.slc 11 0 y.fst.t.length none, C.slc 12 0 y.fst.w.length
 none, C.slc 13 0 y.fst.n.length none, C.slc 14 0 y.fst.f.length none, C.slc 15 0 y.fst.m.length none, C.slc 16 0 y.fst.d.length none, C.slc 17 0 y.fst.r.length none, C.int .i64 y.fst.seen]), Atom.gone,
 Atom.gone, Atom.gone, Atom.gone, Atom.gone, Atom.gone, Atom.gone, Atom.gone, Atom.bag y.snd, Atom.arr Kd.ru8 y.fst.o, Atom.arr Kd.ru8 y.fst.t, Atom.arr Kd.ru8 y.fst.w, Atom.arr Kd.ru8 y.fst.n, Atom.arr
 Kd.ru8 y.fst.f, Atom.arr Kd.int y.fst.m, Atom.arr Kd.int y.fst.d, Atom.arr Kd.int y.fst.r] [VV.one (V1.c (C.ptr 0 0 0))] [Atom.cells 46 (bookC false false y.fst.turn y.fst.deep [C.slc 1 0 y.fst.o.length
 none, C.slc 2 0 y.fst.t.length none, C.slc 3 0 y.fst.w.length none, C.slc 4 0 y.fst.n.length none, C.slc 5 0 y.fst.f.length none, C.slc 6 0 y.fst.m.length none, C.slc 7 0 y.fst.d.length none, C.slc 8 0
 y.fst.r.length none, C.int .i64 y.fst.seen]), Atom.arr Kd.ru8 y.fst.o, Atom.arr Kd.ru8 y.fst.t, Atom.arr Kd.ru8 y.fst.w, Atom.arr Kd.ru8 y.fst.n, Atom.arr Kd.ru8 y.fst.f, Atom.arr Kd.int y.fst.m, Atom.arr
 Kd.int y.fst.d, Atom.arr Kd.int y.fst.r] ∧ ∀ (y_7 : Unit), True → True ∧ Into (K := KK) 0 [] [0, 10, 11, 12, 13, 14, 15, 16, 17] [VV.one (V1.c (C.ptr 0 0 0))] [Atom.cells 46 (bookC false false y.fst.turn
 y.fst.deep [C.slc 10 0 y.fst.o.length none, C.slc 11 0 y.fst.t.length none, C.slc 12 0 y.fst.w.length none, C.slc 13 0 y.fst.n.length none, C.slc 14 0 y.fst.f.length none, C.slc 15 0 y.fst.m.length none,
 C.slc 16 0 y.fst.d.length none, C.slc 17 0 y.fst.r.length none, C.int .i64 y.fst.seen]), Atom.gone, Atom.gone, Atom.gone, Atom.gone, Atom.gone, Atom.gone, Atom.gone, Atom.gone, Atom.bag y.snd, Atom.arr
 Kd.ru8 y.fst.o, Atom.arr Kd.ru8 y.fst.t, Atom.arr Kd.ru8 y.fst.w, Atom.arr Kd.ru8 y.fst.n, Atom.arr Kd.ru8 y.fst.f, Atom.arr Kd.int y.fst.m, Atom.arr Kd.int y.fst.d, Atom.arr Kd.int y.fst.r] [VV.one (V1.c
 (C.ptr 0 0 0))] [Atom.cells 46 (bookC false false y.fst.turn y.fst.deep [C.slc 1 0 y.fst.o.length none, C.slc 2 0 y.fst.t.length none, C.slc 3 0 y.fst.w.length none, C.slc 4 0 y.fst.n.length none, C.slc
 5 0 y.fst.f.length none, C.slc 6 0 y.fst.m.length none, C.slc 7 0 y.fst.d.length none, C.slc 8 0 y.fst.r.length none, C.int .i64 y.fst.seen]), Atom.arr Kd.ru8 y.fst.o, Atom.arr Kd.ru8 y.fst.t, Atom.arr
 Kd.ru8 y.fst.w, Atom.arr Kd.ru8 y.fst.n, Atom.arr Kd.ru8 y.fst.f, Atom.arr Kd.int y.fst.m, Atom.arr Kd.int y.fst.d, Atom.arr Kd.int y.fst.r] ∧ ∀ (y_8 : Unit), True → True ∧ Into (K := KK) 0 [] [0, 10,
 11, 12, 13, 14, 15, 16, 17] [VV.one (V1.c (C.ptr 0 0 0))] [Atom.cells 46 (bookC false false y.fst.turn y.fst.deep [C.slc 10 0 y.fst.o.length none, C.slc 11 0 y.fst.t.length none, C.slc 12 0 y.fst.w.length
 none, C.slc 13 0 y.fst.n.length none, C.slc 14 0 y.fst.f.length none, C.slc 15 0 y.fst.m.length none, C.slc 16 0 y.fst.d.length none, C.slc 17 0 y.fst.r.length none, C.int .i64 y.fst.seen]), Atom.gone,
 Atom.gone, Atom.gone, Atom.gone, Atom.gone, Atom.gone, Atom.gone, Atom.gone, Atom.bag y.snd, Atom.arr Kd.ru8 y.fst.o, Atom.arr Kd.ru8 y.fst.t, Atom.arr Kd.ru8 y.fst.w, Atom.arr Kd.ru8 y.fst.n, Atom.arr
 Kd.ru8 y.fst.f, Atom.arr Kd.int y.fst.m, Atom.arr Kd.int y.fst.d, Atom.arr Kd.int y.fst.r] [VV.one (V1.c (C.ptr 0 0 0))] [Atom.cells 46 (bookC false false y.fst.turn y.fst.deep [C.slc 1 0 y.fst.o.length
 none, C.slc 2 0 y.fst.t.length none, C.slc 3 0 y.fst.w.length none, C.slc 4 0 y.fst.n.length none, C.slc 5 0 y.fst.f.length none, C.slc 6 0 y.fst.m.length none, C.slc 7 0 y.fst.d.length none, C.slc 8 0
 y.fst.r.length none, C.int .i64 y.fst.seen]), Atom.arr Kd.ru8 y.fst.o, Atom.arr Kd.ru8 y.fst.t, Atom.arr Kd.ru8 y.fst.w, Atom.arr Kd.ru8 y.fst.n, Atom.arr Kd.ru8 y.fst.f, Atom.arr Kd.int y.fst.m, Atom.arr
 Kd.int y.fst.d, Atom.arr Kd.int y.fst.r] ∧ ∀ (y_9 : Unit), True → True ∧ Into (K := KK) 0 [] [0, 10, 11, 12, 13, 14, 15, 16, 17] [VV.one (V1.c (C.ptr 0 0 0))] [Atom.cells 46 (bookC false false y.fst.turn
 y.fst.deep [C.slc 10 0 y.fst.o.length none, C.slc 11 0 y.fst.t.length none, C.slc 12 0 y.fst.w.length none, C.slc 13 0 y.fst.n.length none, C.slc 14 0 y.fst.f.length none, C.slc 15 0 y.fst.m.length none,
 C.slc 16 0 y.fst.d.length none, C.slc 17 0 y.fst.r.length none, C.int .i64 y.fst.seen]), Atom.gone, Atom.gone, Atom.gone, Atom.gone, Atom.gone, Atom.gone, Atom.gone, Atom.gone, Atom.bag y.snd, Atom.arr
 Kd.ru8 y.fst.o, Atom.arr Kd.ru8 y.fst.t, Atom.arr Kd.ru8 y.fst.w, Atom.arr Kd.ru8 y.fst.n, Atom.arr Kd.ru8 y.fst.f, Atom.arr Kd.int y.fst.m, Atom.arr Kd.int y.fst.d, Atom.arr Kd.int y.fst.r] [VV.one (V1.c
 (C.ptr 0 0 0))] [Atom.cells 46 (bookC false false y.fst.turn y.fst.deep [C.slc 1 0 y.fst.o.length none, C.slc 2 0 y.fst.t.length none, C.slc 3 0 y.fst.w.length none, C.slc 4 0 y.fst.n.length none, C.slc
 5 0 y.fst.f.length none, C.slc 6 0 y.fst.m.length none, C.slc 7 0 y.fst.d.length none, C.slc 8 0 y.fst.r.length none, C.int .i64 y.fst.seen]), Atom.arr Kd.ru8 y.fst.o, Atom.arr Kd.ru8 y.fst.t, Atom.arr
 Kd.ru8 y.fst.w, Atom.arr Kd.ru8 y.fst.n, Atom.arr Kd.ru8 y.fst.f, Atom.arr Kd.int y.fst.m, Atom.arr Kd.int y.fst.d, Atom.arr Kd.int y.fst.r] ∧ ∀ (y_10 : Unit), True → True ∧ Into (K := KK) 0 [] [0, 10,
 11, 12, 13, 14, 15, 16, 17] [VV.one (V1.c (C.ptr 0 0 0))] [Atom.cells 46 (bookC false false y.fst.turn y.fst.deep [C.slc 10 0 y.fst.o.length none, C.slc 11 0 y.fst.t.length none, C.slc 12 0 y.fst.w.length
 none, C.slc 13 0 y.fst.n.length none, C.slc 14 0 y.fst.f.length none, C.slc 15 0 y.fst.m.length none, C.slc 16 0 y.fst.d.length none, C.slc 17 0 y.fst.r.length none, C.int .i64 y.fst.seen]), Atom.gone,
 Atom.gone, Atom.gone, Atom.gone, Atom.gone, Atom.gone, Atom.gone, Atom.gone, Atom.bag y.snd, Atom.arr Kd.ru8 y.fst.o, Atom.arr Kd.ru8 y.fst.t, Atom.arr Kd.ru8 y.fst.w, Atom.arr Kd.ru8 y.fst.n, Atom.arr
 Kd.ru8 y.fst.f, Atom.arr Kd.int y.fst.m, Atom.arr Kd.int y.fst.d, Atom.arr Kd.int y.fst.r] [VV.one (V1.c (C.ptr 0 0 0))] [Atom.cells 46 (bookC false false y.fst.turn y.fst.deep [C.slc 1 0 y.fst.o.length
 none, C.slc 2 0 y.fst.t.length none, C.slc 3 0 y.fst.w.length none, C.slc 4 0 y.fst.n.length none, C.slc 5 0 y.fst.f.length none, C.slc 6 0 y.fst.m.length none, C.slc 7 0 y.fst.d.length none, C.slc 8 0
 y.fst.r.length none, C.int .i64 y.fst.seen]), Atom.arr Kd.ru8 y.fst.o, Atom.arr Kd.ru8 y.fst.t, Atom.arr Kd.ru8 y.fst.w, Atom.arr Kd.ru8 y.fst.n, Atom.arr Kd.ru8 y.fst.f, Atom.arr Kd.int y.fst.m, Atom.arr
 Kd.int y.fst.d, Atom.arr Kd.int y.fst.r] ∧ ∀ (y_11 : Unit), True → True ∧ Into (K := KK) 0 [] [0, 10, 11, 12, 13, 14, 15, 16, 17] [VV.one (V1.c (C.ptr 0 0 0))] [Atom.cells 46 (bookC false false y.fst.turn
 y.fst.deep [C.slc 10 0 y.fst.o.length none, C.slc 11 0 y.fst.t.length none, C.slc 12 0 y.fst.w.length none, C.slc 13 0 y.fst.n.length none, C.slc 14 0 y.fst.f.length none, C.slc 15 0 y.fst.m.length none,
 C.slc 16 0 y.fst.d.length none, C.slc 17 0 y.fst.r.length none, C.int .i64 y.fst.seen]), Atom.gone, Atom.gone, Atom.gone, Atom.gone, Atom.gone, Atom.gone, Atom.gone, Atom.gone, Atom.bag y.snd, Atom.arr
 Kd.ru8 y.fst.o, Atom.arr Kd.ru8 y.fst.t, Atom.arr Kd.ru8 y.fst.w, Atom.arr Kd.ru8 y.fst.n, Atom.arr Kd.ru8 y.fst.f, Atom.arr Kd.int y.fst.m, Atom.arr Kd.int y.fst.d, Atom.arr Kd.int y.fst.r] [VV.one (V1.c
 (C.ptr 0 0 0))] [Atom.cells 46 (bookC false false y.fst.turn y.fst.deep [C.slc 1 0 y.fst.o.length none, C.slc 2 0 y.fst.t.length none, C.slc 3 0 y.fst.w.length none, C.slc 4 0 y.fst.n.length none, C.slc
 5 0 y.fst.f.length none, C.slc 6 0 y.fst.m.length none, C.slc 7 0 y.fst.d.length none, C.slc 8 0 y.fst.r.length none, C.int .i64 y.fst.seen]), Atom.arr Kd.ru8 y.fst.o, Atom.arr Kd.ru8 y.fst.t, Atom.arr
 Kd.ru8 y.fst.w, Atom.arr Kd.ru8 y.fst.n, Atom.arr Kd.ru8 y.fst.f, Atom.arr Kd.int y.fst.m, Atom.arr Kd.int y.fst.d, Atom.arr Kd.int y.fst.r] ∧ ∀ (y_12 : Unit), True → True ∧ Into (K := KK) 0 [] [0, 10,
 11, 12, 13, 14, 15, 16, 17] [VV.one (V1.c (C.ptr 0 0 0))] [Atom.cells 46 (bookC false false y.fst.turn y.fst.deep [C.slc 10 0 y.fst.o.length none, C.slc 11 0 y.fst.t.length none, C.slc 12 0 y.fst.w.length
 none, C.slc 13 0 y.fst.n.length none, C.slc 14 0 y.fst.f.length none, C.slc 15 0 y.fst.m.length none, C.slc 16 0 y.fst.d.length none, C.slc 17 0 y.fst.r.length none, C.int .i64 y.fst.seen]), Atom.gone,
 Atom.gone, Atom.gone, Atom.gone, Atom.gone, Atom.gone, Atom.gone, Atom.gone, Atom.bag y.snd, Atom.arr Kd.ru8 y.fst.o, Atom.arr Kd.ru8 y.fst.t, Atom.arr Kd.ru8 y.fst.w, Atom.arr Kd.ru8 y.fst.n, Atom.arr
 Kd.ru8 y.fst.f, Atom.arr Kd.int y.fst.m, Atom.arr Kd.int y.fst.d, Atom.arr Kd.int y.fst.r] [VV.one (V1.c (C.ptr 0 0 0))] [Atom.cells 46 (bookC false false y.fst.turn y.fst.deep [C.slc 1 0 y.fst.o.length
 none, C.slc 2 0 y.fst.t.length none, C.slc 3 0 y.fst.w.length none, C.slc 4 0 y.fst.n.length none, C.slc 5 0 y.fst.f.length none, C.slc 6 0 y.fst.m.length none, C.slc 7 0 y.fst.d.length none, C.slc 8 0
 y.fst.r.length none, C.int .i64 y.fst.seen]), Atom.arr Kd.ru8 y.fst.o, Atom.arr Kd.ru8 y.fst.t, Atom.arr Kd.ru8 y.fst.w, Atom.arr Kd.ru8 y.fst.n, Atom.arr Kd.ru8 y.fst.f, Atom.arr Kd.int y.fst.m, Atom.arr
 Kd.int y.fst.d, Atom.arr Kd.int y.fst.r] ∧ ∀ (y_13 : Unit), True → True ∧ Into (K := KK) 0 [] [0, 10, 11, 12, 13, 14, 15, 16, 17] [VV.one (V1.c (C.ptr 0 0 0))] [Atom.cells 46 (bookC false false y.fst.turn
 y.fst.deep [C.slc 10 0 y.fst.o.length none, C.slc 11 0 y.fst.t.length none, C.slc 12 0 y.fst.w.length none, C.slc 13 0 y.fst.n.length none, C.slc 14 0 y.fst.f.length none, C.slc 15 0 y.fst.m.length none,
 C.slc 16 0 y.fst.d.length none, C.slc 17 0 y.fst.r.length none, C.int .i64 y.fst.seen]), Atom.gone, Atom.gone, Atom.gone, Atom.gone, Atom.gone, Atom.gone, Atom.gone, Atom.gone, Atom.bag y.snd, Atom.arr
 Kd.ru8 y.fst.o, Atom.arr Kd.ru8 y.fst.t, Atom.arr Kd.ru8 y.fst.w, Atom.arr Kd.ru8 y.fst.n, Atom.arr Kd.ru8 y.fst.f, Atom.arr Kd.int y.fst.m, Atom.arr Kd.int y.fst.d, Atom.arr Kd.int y.fst.r] [VV.one (V1.c
 (C.ptr 0 0 0))] [Atom.cells 46 (bookC false false y.fst.turn y.fst.deep [C.slc 1 0 y.fst.o.length none, C.slc 2 0 y.fst.t.length none, C.slc 3 0 y.fst.w.length none, C.slc 4 0 y.fst.n.length none, C.slc
 5 0 y.fst.f.length none, C.slc 6 0 y.fst.m.length none, C.slc 7 0 y.fst.d.length none, C.slc 8 0 y.fst.r.length none, C.int .i64 y.fst.seen]), Atom.arr Kd.ru8 y.fst.o, Atom.arr Kd.ru8 y.fst.t, Atom.arr
 Kd.ru8 y.fst.w, Atom.arr Kd.ru8 y.fst.n, Atom.arr Kd.ru8 y.fst.f, Atom.arr Kd.int y.fst.m, Atom.arr Kd.int y.fst.d, Atom.arr Kd.int y.fst.r] ∧ ∀ (y_14 : Unit), True → True ∧ Into (K := KK) 0 [] [0, 10,
 11, 12, 13, 14, 15, 16, 17] [VV.one (V1.c (C.ptr 0 0 0))] [Atom.cells 46 (bookC false false y.fst.turn y.fst.deep [C.slc 10 0 y.fst.o.length none, C.slc 11 0 y.fst.t.length none, C.slc 12 0 y.fst.w.length
 none, C.slc 13 0 y.fst.n.length none, C.slc 14 0 y.fst.f.length none, C.slc 15 0 y.fst.m.length none, C.slc 16 0 y.fst.d.length none, C.slc 17 0 y.fst.r.length none, C.int .i64 y.fst.seen]), Atom.gone,
 Atom.gone, Atom.gone, Atom.gone, Atom.gone, Atom.gone, Atom.gone, Atom.gone, Atom.bag y.snd, Atom.arr Kd.ru8 y.fst.o, Atom.arr Kd.ru8 y.fst.t, Atom.arr Kd.ru8 y.fst.w, Atom.arr Kd.ru8 y.fst.n, Atom.arr
 Kd.ru8 y.fst.f, Atom.arr Kd.int y.fst.m, Atom.arr Kd.int y.fst.d, Atom.arr Kd.int y.fst.r] [VV.one (V1.c (C.ptr 0 0 0))] [Atom.cells 46 (bookC false false y.fst.turn y.fst.deep [C.slc 1 0 y.fst.o.length
 none, C.slc 2 0 y.fst.t.length none, C.slc 3 0 y.fst.w.length none, C.slc 4 0 y.fst.n.length none, C.slc 5 0 y.fst.f.length none, C.slc 6 0 y.fst.m.length none, C.slc 7 0 y.fst.d.length none, C.slc 8 0
 y.fst.r.length none, C.int .i64 y.fst.seen]), Atom.arr Kd.ru8 y.fst.o, Atom.arr Kd.ru8 y.fst.t, Atom.arr Kd.ru8 y.fst.w, Atom.arr Kd.ru8 y.fst.n, Atom.arr Kd.ru8 y.fst.f, Atom.arr Kd.int y.fst.m, Atom.arr
 Kd.int y.fst.d, Atom.arr Kd.int y.fst.r] ∧ ∀ (y_15 : Unit), True → EndsAs 10 (ct_grows B φ) (VV.tup []) [Atom.cells 46 (bookC false false y.fst.turn y.fst.deep [C.slc 10 0 y.fst.o.length none, C.slc 11
 0 y.fst.t.length none, C.slc 12 0 y.fst.w.length none, C.slc 13 0 y.fst.n.length none, C.slc 14 0 y.fst.f.length none, C.slc 15 0 y.fst.m.length none, C.slc 16 0 y.fst.d.length none, C.slc 17 0 y.fst.r.length
 none, C.int .i64 y.fst.seen]), Atom.gone, Atom.gone, Atom.gone, Atom.gone, Atom.gone, Atom.gone, Atom.gone, Atom.gone, Atom.bag y.snd, Atom.arr Kd.ru8 y.fst.o, Atom.arr Kd.ru8 y.fst.t, Atom.arr Kd.ru8
 y.fst.w, Atom.arr Kd.ru8 y.fst.n, Atom.arr Kd.ru8 y.fst.f, Atom.arr Kd.int y.fst.m, Atom.arr Kd.int y.fst.d, Atom.arr Kd.int y.fst.r]) := by kernel_rfl
theorem hT_ok (B : BS) (φ : Bag KK) : CtOk Tryz.prog 36 (ct_hT B φ) := CtOk_of KK_ok tabB (ann_hT B φ) (fn := Tryz.f36) rfl (fun _ _ => rfl) fun hn => by
  have hn : BookOk φ B := hn
  have hto : B.o.length = B.t.length := All2.length hn.good.told
  have hon : B.w.length = B.n.length := All2.length hn.good.note
  have hcB := hn.cnt
  have hfB := hn.few
  rw [vc_hT]
  simp only [Int.toNat_natCast, Nat.zero_add, Nat.add_zero]
  refine ⟨⟨(0 : Nat), [], [0, 1, 2, 3, 4, 5, 6, 7, 8, 9], Nat.zero_le _, trivial, into_mk (by kernel_rfl) (by (repeat' first | exact trivial | exact rfl | apply And.intro)) (by (repeat' first | exact trivial | exact rfl | apply And.intro))⟩, fun i hi => ite2_decide (fun hl => ?_) (fun hl => ⟨⟨(0 : Nat), [], [0, 1, 2, 3, 4, 5, 6, 7, 8, 9], Nat.zero_le _, trivial, into_mk (by kernel_rfl) (by (repeat' first | exact trivial | exact rfl | apply And.intro)) (by (repeat' first | exact trivial | exact rfl | apply And.intro))⟩, fun j hj => ite2_decide (fun hl2 => ?_) (fun hl2 => ⟨(), [], [0, 1, 2, 3, 4, 5, 6, 7, 8, 9], trivial, by (repeat' first | exact trivial | exact rfl | apply And.intro)⟩)⟩)⟩
  · have h1 : i < B.o.length := by omega
    have h2 : i < B.t.length := by omega
    obtain ⟨xs, x1, x2, x3⟩ := hn.good.told.rd .nil .nil i h1
    have x3' : (xs : List Int).length ≤ 1000150 := x3
    exact ⟨⟨by omega, by omega⟩, h1, trivial, h1, ⟨by omega, by omega⟩, h2, trivial, h2, trivial, ⟨xs, x1, x2, le_big (by first | exact x3 | exact le_150 x3)⟩, into_mk (by kernel_rfl) (by (repeat' first | exact trivial | exact rfl | apply And.intro)) (by (repeat' first | exact trivial | exact rfl | apply And.intro)), fun _ _ => ⟨trivial, by unfold i64ok; omega, (i + 1 : Nat), [], [0, 1, 2, 3, 4, 5, 6, 7, 8, 9], h1, by omega, into_mk (by kernel_rfl) (by (repeat' first | exact trivial | exact rfl | apply And.intro)) (by (repeat' first | exact trivial | exact rfl | apply And.intro))⟩⟩
  · have h1 : j < B.w.length := by omega
    have h2 : j < B.n.length := by omega
    obtain ⟨xs, x1, x2, x3⟩ := hn.good.note.rd .nil .nil j h1
    have x3' : (xs : List Int).length ≤ 1000000 := x3
    exact ⟨⟨by omega, by omega⟩, h1, trivial, h1, ⟨by omega, by omega⟩, h2, trivial, h2, trivial, ⟨xs, x1, x2, le_big (by first | exact x3 | exact le_150 x3)⟩, into_mk (by kernel_rfl) (by (repeat' first | exact trivial | exact rfl | apply And.intro)) (by (repeat' first | exact trivial | exact rfl | apply And.intro)), fun _ _ => ⟨trivial, by unfold i64ok; omega, (j + 1 : Nat), [], [0, 1, 2, 3, 4, 5, 6, 7, 8, 9], h1, by omega, into_mk (by kernel_rfl) (by (repeat' first | exact trivial | exact rfl | apply And.intro)) (by (repeat' first | exact trivial | exact rfl | apply And.intro))⟩⟩
theorem marks_ok (B : BS) (φ : Bag KK) : CtOk Tryz.prog 68 (ct_marks B φ) := CtOk_of KK_ok tabM ann0 (fn := Tryz.f68) rfl (fun _ _ => rfl) fun hn => by
  rw [vc_marks]
  exact ⟨hn, into_mk (by kernel_rfl) (by (repeat' first | exact trivial | exact rfl | apply And.intro)) (by (repeat' first | exact trivial | exact rfl | apply And.intro)), fun y hy => ⟨trivial, into_mk (by kernel_rfl) (by (repeat' first | exact trivial | exact rfl | apply And.intro)) (by (repeat' first | exact trivial | exact rfl | apply And.intro)), fun _ _ => ⟨trivial, into_mk (by kernel_rfl) (by (repeat' first | exact trivial | exact rfl | apply And.intro)) (by (repeat' first | exact trivial | exact rfl | apply And.intro)), fun _ _ => ⟨trivial, into_mk (by kernel_rfl) (by (repeat' first | exact trivial | exact rfl | apply And.intro)) (by (repeat' first | exact trivial | exact rfl | apply And.intro)), fun _ _ => ⟨trivial, into_mk (by kernel_rfl) (by (repeat' first | exact trivial | exact rfl | apply And.intro)) (by (repeat' first | exact trivial | exact rfl | apply And.intro)), fun _ _ => ⟨trivial, into_mk (by kernel_rfl) (by (repeat' first | exact trivial | exact rfl | apply And.intro)) (by (repeat' first | exact trivial | exact rfl | apply And.intro)), fun _ _ => ⟨trivial, into_mk (by kernel_rfl) (by (repeat' first | exact trivial | exact rfl | apply And.intro)) (by (repeat' first | exact trivial | exact rfl | apply And.intro)), fun _ _ => ⟨trivial, into_mk (by kernel_rfl) (by (repeat' first | exact trivial | exact rfl | apply And.intro)) (by (repeat' first | exact trivial | exact rfl | apply And.intro)), fun _ _ => ⟨trivial, into_mk (by kernel_rfl) (by (repeat' first | exact trivial | exact rfl | apply And.intro)) (by (repeat' first | exact trivial | exact rfl | apply And.intro)), fun _ _ => ⟨trivial, into_mk (by kernel_rfl) (by (repeat' first | exact trivial | exact rfl | apply And.intro)) (by (repeat' first | exact trivial | exact rfl | apply And.intro)), fun _ _ => ⟨trivial, into_mk (by kernel_rfl) (by (repeat' first | exact trivial | exact rfl | apply And.intro)) (by (repeat' first | exact trivial | exact rfl | apply And.intro)), fun _ _ => ⟨trivial, into_mk (by kernel_rfl) (by (repeat' first | exact trivial | exact rfl | apply And.intro)) (by (repeat' first | exact trivial | exact rfl | apply And.intro)), fun _ _ => ⟨trivial, into_mk (by kernel_rfl) (by (repeat' first | exact trivial | exact rfl | apply And.intro)) (by (repeat' first | exact trivial | exact rfl | apply And.intro)), fun _ _ => ⟨trivial, into_mk (by kernel_rfl) (by (repeat' first | exact trivial | exact rfl | apply And.intro)) (by (repeat' first | exact trivial | exact rfl | apply And.intro)), fun _ _ => ⟨trivial, into_mk (by kernel_rfl) (by (repeat' first | exact trivial | exact rfl | apply And.intro)) (by (repeat' first | exact trivial | exact rfl | apply And.intro)), fun _ _ => ⟨trivial, into_mk (by kernel_rfl) (by (repeat' first | exact trivial | exact rfl | apply And.intro)) (by (repeat' first | exact trivial | exact rfl | apply And.intro)), fun _ _ => ⟨y, [], [0, 1, 2, 3, 4, 5, 6, 7, 8, 9, 10, 11, 12, 13, 14, 15, 16, 17], hy, by (repeat' first | exact trivial | exact rfl | apply And.intro)⟩⟩⟩⟩⟩⟩⟩⟩⟩⟩⟩⟩⟩⟩⟩⟩⟩
theorem grows_ok (B : BS) (φ : Bag KK) : CtOk Tryz.prog 69 (ct_grows B φ) := CtOk_of KK_ok tabG ann0 (fn := Tryz.f69) rfl (fun _ _ => rfl) fun hn => by
  rw [vc_grows]
  exact ⟨hn, into_mk (by kernel_rfl) (by (repeat' first | exact trivial | exact rfl | apply And.intro)) (by (repeat' first | exact trivial | exact rfl | apply And.intro)), fun y hy => ⟨trivial, into_mk (by kernel_rfl) (by (repeat' first | exact trivial | exact rfl | apply And.intro)) (by (repeat' first | exact trivial | exact rfl | apply And.intro)), fun _ _ => ⟨trivial, into_mk (by kernel_rfl) (by (repeat' first | exact trivial | exact rfl | apply And.intro)) (by (repeat' first | exact trivial | exact rfl | apply And.intro)), fun _ _ => ⟨trivial, into_mk (by kernel_rfl) (by (repeat' first | exact trivial | exact rfl | apply And.intro)) (by (repeat' first | exact trivial | exact rfl | apply And.intro)), fun _ _ => ⟨trivial, into_mk (by kernel_rfl) (by (repeat' first | exact trivial | exact rfl | apply And.intro)) (by (repeat' first | exact trivial | exact rfl | apply And.intro)), fun _ _ => ⟨trivial, into_mk (by kernel_rfl) (by (repeat' first | exact trivial | exact rfl | apply And.intro)) (by (repeat' first | exact trivial | exact rfl | apply And.intro)), fun _ _ => ⟨trivial, into_mk (by kernel_rfl) (by (repeat' first | exact trivial | exact rfl | apply And.intro)) (by (repeat' first | exact trivial | exact rfl | apply And.intro)), fun _ _ => ⟨trivial, into_mk (by kernel_rfl) (by (repeat' first | exact trivial | exact rfl | apply And.intro)) (by (repeat' first | exact trivial | exact rfl | apply And.intro)), fun _ _ => ⟨trivial, into_mk (by kernel_rfl) (by (repeat' first | exact trivial | exact rfl | apply And.intro)) (by (repeat' first | exact trivial | exact rfl | apply And.intro)), fun _ _ => ⟨trivial, into_mk (by kernel_rfl) (by (repeat' first | exact trivial | exact rfl | apply And.intro)) (by (repeat' first | exact trivial | exact rfl | apply And.intro)), fun _ _ => ⟨trivial, into_mk (by kernel_rfl) (by (repeat' first | exact trivial | exact rfl | apply And.intro)) (by (repeat' first | exact trivial | exact rfl | apply And.intro)), fun _ _ => ⟨trivial, into_mk (by kernel_rfl) (by (repeat' first | exact trivial | exact rfl | apply And.intro)) (by (repeat' first | exact trivial | exact rfl | apply And.intro)), fun _ _ => ⟨trivial, into_mk (by kernel_rfl) (by (repeat' first | exact trivial | exact rfl | apply And.intro)) (by (repeat' first | exact trivial | exact rfl | apply And.intro)), fun _ _ => ⟨trivial, into_mk (by kernel_rfl) (by (repeat' first | exact trivial | exact rfl | apply And.intro)) (by (repeat' first | exact trivial | exact rfl | apply And.intro)), fun _ _ => ⟨trivial, into_mk (by kernel_rfl) (by (repeat' first | exact trivial | exact rfl | apply And.intro)) (by (repeat' first | exact trivial | exact rfl | apply And.intro)), fun _ _ => ⟨trivial, into_mk (by kernel_rfl) (by (repeat' first | exact trivial | exact rfl | apply And.intro)) (by (repeat' first | exact trivial | exact rfl | apply And.intro)), fun _ _ => ⟨y, [], [0, 1, 2, 3, 4, 5, 6, 7, 8, 9, 10, 11, 12, 13, 14, 15, 16, 17], hy, by (repeat' first | exact trivial | exact rfl | apply And.intro)⟩⟩⟩⟩⟩⟩⟩⟩⟩⟩⟩⟩⟩⟩⟩⟩⟩
end Go.Proofs.YtndlpbheifalhaaGreatDoor.T
end
section
namespace Go.Proofs.YtndlpbheifalhaaGreatDoor.T
open Go.Proofs.YtndlpbheifalhaaGreatDoor.E
set_option maxRecDepth 100000
set_option linter.unusedVariables false
/-- A book between two calls. -/
structure RestOk (φ : Bag KK) (B : BS) : Prop where
  ok : BookOk φ B
  f : B.f = []
  r : B.r = []
  deep : B.deep = 0
  turn : B.turn = B.seen
def ct_done (B : BS) (φ : Bag KK) : Ct KK := { need := BookOk φ B ∧ B.deep = 1 ∧ B.turn + 1 = B.seen, pre := bookH B ++ [.bag φ], args := [.c (.ptr 0 0 0)], Y := BS × Bag KK, ok := fun y => RestOk y.2 y.1 ∧ y.1.seen = B.seen ∧ Stays φ B.bk y.2 y.1.bk, ret := fun _ => .tup [], post := fun y => bookM y.1 y.2 }
def tabD : Tab Tryz.prog KK := ⟨mixed, fun f args H => match args with
  | [.one (.c (.ptr 0 0 0))] => match getBB H with
    | some (B, φ, τ) => match f with
      | 68 => some (ct_marks B φ, [], τ)
      | 69 => some (ct_grows B φ, [], τ)
      | _ => none
    | none => none
  | _ => none, fun f args H ct ks τ h => by
    split at h
    · split at h
      · split at h
        · cases h; exact marks_ok _ _
        · cases h; exact grows_ok _ _
        · cases h
      · cases h
    · cases h⟩
theorem vc_done (B : BS) (φ : Bag KK) : evFn tabD ann0 Tryz.f35 (ct_done B φ) = ( i64ok (B.deep - (1 : Int)) ∧ ite2 (decide ((0 : Int) < B.deep - (1 : Int))) (EndsAs 10 (ct_done B φ) (VV.tup []) [Atom.cells 46 (bookC false false B.turn (B.deep - (1 : Int)) [C.slc 1 0 B.o.length none,
 C.slc 2 0 B.t.length none, C.slc 3 0 B.w.length none, C.slc 4 0 B.n.length none, C.slc 5 0 B.f.length none, C.slc 6 0 B.m.length none, C.slc 7 0 B.d.length none, C.slc 8 0 B.r.length none, C.int .i64 B.seen]),
 Atom.arr Kd.ru8 B.o, Atom.arr Kd.ru8 B.t, Atom.arr Kd.ru8 B.w, Atom.arr Kd.ru8 B.n, Atom.arr Kd.ru8 B.f, Atom.arr Kd.int B.m, Atom.arr Kd.int B.d, Atom.arr Kd.int B.r, Atom.bag φ]) (BookOk φ (BS.mk (B.turn)
 (B.deep - (1 : Int)) (B.o) (B.t) (B.w) (B.n) (B.f) (B.m) (B.d) (B.r) (B.seen)) ∧ Into (K := KK) 0 [] [0, 1, 2, 3, 4, 5, 6, 7, 8, 9] [VV.one (V1.c (C.ptr 0 0 0))] [Atom.cells 46 (bookC false false B.turn
 (B.deep - (1 : Int)) [C.slc 1 0 B.o.length none, C.slc 2 0 B.t.length none, C.slc 3 0 B.w.length none, C.slc 4 0 B.n.length none, C.slc 5 0 B.f.length none, C.slc 6 0 B.m.length none, C.slc 7 0 B.d.length
 none, C.slc 8 0 B.r.length none, C.int .i64 B.seen]), Atom.arr Kd.ru8 B.o, Atom.arr Kd.ru8 B.t, Atom.arr Kd.ru8 B.w, Atom.arr Kd.ru8 B.n, Atom.arr Kd.ru8 B.f, Atom.arr Kd.int B.m, Atom.arr Kd.int B.d,
 Atom.arr Kd.int B.r, Atom.bag φ] [VV.one (V1.c (C.ptr 0 0 0))] [Atom.cells 46 (bookC false false B.turn (B.deep - (1 : Int)) [C.slc 1 0 B.o.length none, C.slc 2 0 B.t.length none, C.slc 3 0 B.w.length
 none, C.slc 4 0 B.n.length none, C.slc 5 0 B.f.length none, C.slc 6 0 B.m.length none, C.slc 7 0 B.d.length none, C.slc 8 0 B.r.length none, C.int .i64 B.seen]), Atom.arr Kd.ru8 B.o, Atom.arr Kd.ru8 B.t,
 Atom.arr Kd.ru8 B.w, Atom.arr Kd.ru8 B.n, Atom.arr Kd.ru8 B.f, Atom.arr Kd.int B.m, Atom.arr Kd.int B.d, Atom.arr Kd.int B.r, Atom.bag φ] ∧ ∀ (y : BS × Bag KK), (BookOk y.snd y.fst ∧ (y.fst.turn = B.turn
 ∧ y.fst.deep = B.deep - (1 : Int) ∧ y.fst.seen = B.seen) ∧ ∀ (b : Nat) (i : BI KK), φ b = some i → (∀ (y : RS), List.Mem y (B.o ++ (B.t ++ (B.w ++ (B.n ++ B.f)))) → ¬y.At b) → y.snd b = some i ∧ ∀ (y_1
 : RS), List.Mem y_1 (y.fst.o ++ (y.fst.t ++ (y.fst.w ++ (y.fst.n ++ y.fst.f)))) → ¬y_1.At b) → BookOk y.snd (BS.mk (y.fst.turn) (y.fst.deep) (y.fst.o) (y.fst.t) (y.fst.w) (y.fst.n) (y.fst.f) (y.fst.m)
 (y.fst.d) (y.fst.r) (y.fst.seen)) ∧ Into (K := KK) 0 [] [0, 10, 11, 12, 13, 14, 15, 16, 17, 9] [VV.one (V1.c (C.ptr 0 0 0))] [Atom.cells 46 (bookC false false y.fst.turn y.fst.deep [C.slc 10 0 y.fst.o.length
 none, C.slc 11 0 y.fst.t.length none, C.slc 12 0 y.fst.w.length none, C.slc 13 0 y.fst.n.length none, C.slc 14 0 y.fst.f.length none, C.slc 15 0 y.fst.m.length none, C.slc 16 0 y.fst.d.length none, C.slc
 17 0 y.fst.r.length none, C.int .i64 y.fst.seen]), Atom.gone, Atom.gone, Atom.gone, Atom.gone, Atom.gone, Atom.gone, Atom.gone, Atom.gone, Atom.bag y.snd, Atom.arr Kd.ru8 y.fst.o, Atom.arr Kd.ru8 y.fst.t,
 Atom.arr Kd.ru8 y.fst.w, Atom.arr Kd.ru8 y.fst.n, Atom.arr Kd.ru8 y.fst.f, Atom.arr Kd.int y.fst.m, Atom.arr Kd.int y.fst.d, Atom.arr Kd.int y.fst.r] [VV.one (V1.c (C.ptr 0 0 0))] [Atom.cells 46 (bookC
 false false y.fst.turn y.fst.deep [C.slc 1 0 y.fst.o.length none, C.slc 2 0 y.fst.t.length none, C.slc 3 0 y.fst.w.length none, C.slc 4 0 y.fst.n.length none, C.slc 5 0 y.fst.f.length none, C.slc 6 0 y.fst.m.length
 none, C.slc 7 0 y.fst.d.length none, C.slc 8 0 y.fst.r.length none, C.int .i64 y.fst.seen]), Atom.arr Kd.ru8 y.fst.o, Atom.arr Kd.ru8 y.fst.t, Atom.arr Kd.ru8 y.fst.w, Atom.arr Kd.ru8 y.fst.n, Atom.arr
 Kd.ru8 y.fst.f, Atom.arr Kd.int y.fst.m, Atom.arr Kd.int y.fst.d, Atom.arr Kd.int y.fst.r, Atom.bag y.snd] ∧ ∀ (y_1 : BS × Bag KK), (BookOk y_1.snd y_1.fst ∧ (y_1.fst.turn = y.fst.turn ∧ y_1.fst.deep =
 y.fst.deep ∧ y_1.fst.seen = y.fst.seen) ∧ ∀ (b : Nat) (i : BI KK), y.snd b = some i → (∀ (y_2 : RS), List.Mem y_2 (y.fst.o ++ (y.fst.t ++ (y.fst.w ++ (y.fst.n ++ y.fst.f)))) → ¬y_2.At b) → y_1.snd b =
 some i ∧ ∀ (y : RS), List.Mem y (y_1.fst.o ++ (y_1.fst.t ++ (y_1.fst.w ++ (y_1.fst.n ++ y_1.fst.f)))) → ¬y.At b) ∧ y_1.fst.f = [] ∧ y_1.fst.r = [] → i64ok (y_1.fst.turn + (1 : Int)) ∧ EndsAs 10 (ct_done
 B φ) (VV.tup []) [Atom.cells 46 (bookC false false (y_1.fst.turn + (1 : Int)) y_1.fst.deep [C.slc 18 0 y_1.fst.o.length none, C.slc 19 0 y_1.fst.t.length none, C.slc 20 0 y_1.fst.w.length none, C.slc 21
 0 y_1.fst.n.length none, C.slc 22 0 y_1.fst.f.length none, C.slc 23 0 y_1.fst.m.length none, C.slc 24 0 y_1.fst.d.length none, C.slc 25 0 y_1.fst.r.length none, C.int .i64 y_1.fst.seen]), Atom.gone, Atom.gone,
 Atom.gone, Atom.gone, Atom.gone, Atom.gone, Atom.gone, Atom.gone, Atom.bag y_1.snd, Atom.gone, Atom.gone, Atom.gone, Atom.gone, Atom.gone, Atom.gone, Atom.gone, Atom.gone, Atom.arr Kd.ru8 y_1.fst.o, Atom.arr
 Kd.ru8 y_1.fst.t, Atom.arr Kd.ru8 y_1.fst.w, Atom.arr Kd.ru8 y_1.fst.n, Atom.arr Kd.ru8 y_1.fst.f, Atom.arr Kd.int y_1.fst.m, Atom.arr Kd.int y_1.fst.d, Atom.arr Kd.int y_1.fst.r])) := by kernel_rfl
theorem done_ok (B : BS) (φ : Bag KK) : CtOk Tryz.prog 35 (ct_done B φ) := CtOk_of KK_ok tabD ann0 (fn := Tryz.f35) rfl (fun _ _ => rfl) fun hn => by
  obtain ⟨hb, hd, ht⟩ := hn
  have hfew := hb.few
  have hturn := hb.turn
  rw [vc_done]
  refine ⟨by unfold i64ok; omega, ite2_decide (fun h => absurd h (by omega)) (fun h => ⟨⟨hb.good, hb.tab, hb.lm, hb.ld, hb.lr, hb.mb, hb.rb, hb.cnt, hb.few, hb.turn⟩, into_mk (by kernel_rfl) (by (repeat' first | exact trivial | exact rfl | apply And.intro)) (by (repeat' first | exact trivial | exact rfl | apply And.intro)), ?_⟩)⟩
  rintro ⟨C, φ'⟩ ⟨hc, ⟨s1, s2, s3⟩, st1⟩
  refine ⟨hc, into_mk (by kernel_rfl) (by (repeat' first | exact trivial | exact rfl | apply And.intro)) (by (repeat' first | exact trivial | exact rfl | apply And.intro)), ?_⟩
  rintro ⟨D, φ''⟩ ⟨⟨hd', ⟨t1, t2, t3⟩, st2⟩, t4, t5⟩
  have st1 : Stays φ B.bk φ' C.bk := st1
  have st2 : Stays φ' C.bk φ'' D.bk := st2
  have s1 : C.turn = B.turn := s1
  have s2 : C.deep = B.deep - 1 := s2
  have s3 : C.seen = B.seen := s3
  have t1 : D.turn = C.turn := t1
  have t2 : D.deep = C.deep := t2
  have t3 : D.seen = C.seen := t3
  have t4 : D.f = [] := t4
  have t5 : D.r = [] := t5
  have hf' := hd'.few
  have hf' : D.seen ≤ 100000 := hf'
  exact ⟨by show i64ok (D.turn + 1); unfold i64ok; omega, ({ D with turn := D.turn + 1 }, φ''), [], [0, 1, 2, 3, 4, 5, 6, 7, 8, 9, 18, 19, 20, 21, 22, 23, 24, 25], ⟨⟨⟨hd'.good, hd'.tab, hd'.lm, hd'.ld, hd'.lr, hd'.mb, hd'.rb, hd'.cnt, hd'.few, ⟨by show 0 ≤ D.turn + 1; omega, by show D.turn + 1 ≤ 1000000; omega⟩⟩, t4, t5, by show D.deep = 0; omega, by show D.turn + 1 = D.seen; omega⟩, by show D.seen = B.seen; omega, st1.trans st2⟩, by (repeat' first | exact trivial | exact rfl | apply And.intro)⟩
end Go.Proofs.YtndlpbheifalhaaGreatDoor.T
end
section
namespace Go.Proofs.YtndlpbheifalhaaGreatDoor.T
open Go.Proofs.YtndlpbheifalhaaGreatDoor.E
set_option maxRecDepth 100000
set_option linter.unusedVariables false
def ct_bBytes (l : RS) (mark : Int) (B : BS) (φ : Bag KK) : Ct KK := { need := RestOk φ B ∧ Alone φ Kd.u8 1000000 B.bk l ∧ (-1000000000000 ≤ mark ∧ mark ≤ 1000000000000) ∧ B.seen < 100000, pre := bookH B ++ [.bag φ], args := [.c (.ptr 0 0 0), .c (.rs 5 1 l), i64 mark], Y := BS × Bag KK, ok := fun y => RestOk y.2 y.1 ∧ y.1.seen = B.seen + 1 ∧ StaysX φ B.bk l y.2 y.1.bk, ret := fun _ => .tup [], post := fun y => bookM y.1 y.2 }
def ct_bHold (B : BS) (φ : Bag KK) : Ct KK := { need := BookOk φ B, pre := bookH B ++ [.bag φ], args := [.c (.ptr 0 0 0)], Y := Unit, ok := fun _ => True, ret := fun _ => boolv true, post := fun _ => bookH B ++ [.bag φ] }
def tabT : Tab Tryz.prog KK := ⟨mixed, fun f args H => match f, args with
  | 34, [.one (.c (.ptr 0 0 0)), .one (.c (.int _ n))] => match getB H with
    | some (B, τ) => some (ct_due B n, [], τ)
    | none => none
  | 35, [.one (.c (.ptr 0 0 0))] => match getBB H with
    | some (B, φ, τ) => some (ct_done B φ, [], τ)
    | none => none
  | _, _ => none, fun f args H ct ks τ h => by
    split at h
    · split at h
      · cases h; exact due_ok _ _
      · cases h
    · split at h
      · cases h; exact done_ok _ _
      · cases h
    · cases h⟩
def pick_tabH (f : FuncId) (B : BS) (τ : List Nat) : Option (Ct KK × List KK.Kd × List Nat) := match f with
  | 37 => some (ct_b B (boolv true), [], τ)
  | 38 => some (ct_b B (boolv true), [], τ)
  | 39 => some (ct_b B (boolv true), [], τ)
  | 40 => some (ct_b B (boolv true), [], τ)
  | 41 => some (ct_b B (boolv true), [], τ)
  | 42 => some (ct_b B (boolv true), [], τ)
  | 43 => some (ct_b B (boolv true), [], τ)
  | 44 => some (ct_b B (boolv true), [], τ)
  | 45 => some (ct_b B (boolv true), [], τ)
  | 46 => some (ct_b B (boolv true), [], τ)
  | 47 => some (ct_b B (boolv true), [], τ)
  | 48 => some (ct_b B (boolv true), [], τ)
  | 49 => some (ct_b B (boolv true), [], τ)
  | 50 => some (ct_b B (boolv true), [], τ)
  | 51 => some (ct_b B (boolv true), [], τ)
  | _ => none
theorem pick_tabH_ok (f : FuncId) (B : BS) (τ : List Nat) (ct ks ρ) (h : pick_tabH f B τ = some (ct, ks, ρ)) : CtOk Tryz.prog f ct := by
  unfold pick_tabH at h
  split at h
  · cases h; exact hInts_ok _
  · cases h; exact hTexts_ok _
  · cases h; exact hLosts_ok _
  · cases h; exact hChanges_ok _
  · cases h; exact hCells_ok _
  · cases h; exact hItems_ok _
  · cases h; exact hEntries_ok _
  · cases h; exact hPlaceds_ok _
  · cases h; exact hRules_ok _
  · cases h; exact hFaults_ok _
  · cases h; exact hChunks_ok _
  · cases h; exact hThings_ok _
  · cases h; exact hDones_ok _
  · cases h; exact hNodes_ok _
  · cases h; exact hSteps_ok _
  · cases h
def tabH : Tab Tryz.prog KK := ⟨mixed, fun f args H => match args with
  | [.one (.c (.ptr 0 0 0))] => match f with
    | 36 => match getBB H with
      | some (B, φ, τ) => some (ct_hT B φ, [], τ)
      | none => none
    | f => match getB H with
      | some (B, τ) => pick_tabH f B τ
      | none => none
  | _ => none, fun f args H ct ks τ h => by
    split at h
    · split at h
      · split at h
        · cases h; exact hT_ok _ _
        · cases h
      · split at h
        · exact pick_tabH_ok _ _ _ _ _ _ h
        · cases h
    · cases h⟩
theorem vc_bBytes (l : RS) (mark : Int) (B : BS) (φ : Bag KK) : evFn tabT ann0 Tryz.f14 (ct_bBytes l mark B φ) = ( i64ok (B.deep + (1 : Int)) ∧ B.w.length = B.w.length ∧ (1 ≤ 1 ∧ True) ∧ (B.w.length + 1) * 24 ≤ 140737488355328 ∧ True ∧ (VV.one (V1.c (C.slc 4 0 B.n.length none)) = VV.one (V1.c (C.slc 4 0 B.n.length
 none)) ∧ True) ∧ 0 = 0 ∧ ∃ (ys : List (Int)), RS.row φ Kd.u8 l = some ys ∧ (0 + ys.length) * 1 ≤ 140737488355328 ∧ (VV.one (V1.c (C.slc 4 0 B.n.length none)) = VV.one (V1.c (C.slc 4 0 B.n.length none))
 ∧ True) ∧ 0 + ys.length = ys.length ∧ (ys = [] → (VV.one (V1.c (C.slc 4 0 B.n.length none)) = VV.one (V1.c (C.slc 4 0 B.n.length none)) ∧ True) ∧ B.n.length = B.n.length ∧ (1 ≤ 1 ∧ True) ∧ (B.n.length
 + 1) * 24 ≤ 140737488355328 ∧ True ∧ True ∧ B.m.length = B.m.length ∧ (1 ≤ 1 ∧ True) ∧ (B.m.length + 1) * 8 ≤ 140737488355328 ∧ True ∧ (((0 : Int) ≤ B.turn ∧ B.turn ≤ (1000000 : Int)) ∧ (0 : Int) ≤ B.seen
 ∧ B.seen ≤ (1000000 : Int)) ∧ Into (K := KK) 0 [] [0, 1, 2, 11, 15, 5, 17, 7, 8] [VV.one (V1.c (C.ptr 0 0 0)), i64 B.seen] [Atom.cells 46 (bookC false false B.turn (B.deep + (1 : Int)) [C.slc 1 0 B.o.length
 none, C.slc 2 0 B.t.length none, C.slc 11 0 (B.w.length + 1) none, C.slc 15 0 (B.n.length + 1) none, C.slc 5 0 B.f.length none, C.slc 17 0 (B.m.length + 1) none, C.slc 7 0 B.d.length none, C.slc 8 0 B.r.length
 none, C.int .i64 B.seen]), Atom.arr Kd.ru8 B.o, Atom.arr Kd.ru8 B.t, Atom.gone, Atom.gone, Atom.arr Kd.ru8 B.f, Atom.gone, Atom.arr Kd.int B.d, Atom.arr Kd.int B.r, Atom.bag φ, Atom.arr Kd.ru8 [l], Atom.arr
 Kd.ru8 (B.w ++ [l]), Atom.gone, Atom.gone, Atom.arr Kd.ru8 [RS.nil], Atom.arr Kd.ru8 (B.n ++ [RS.nil]), Atom.arr Kd.int [mark], Atom.arr Kd.int (B.m ++ [mark])] [VV.one (V1.c (C.ptr 0 0 0)), i64 B.seen]
 [Atom.cells 46 (bookC false false B.turn (B.deep + (1 : Int)) [C.slc 1 0 B.o.length none, C.slc 2 0 B.t.length none, C.slc 3 0 (B.w ++ [l]).length none, C.slc 4 0 (B.n ++ [RS.nil]).length none, C.slc 5
 0 B.f.length none, C.slc 6 0 (B.m ++ [mark]).length none, C.slc 7 0 B.d.length none, C.slc 8 0 B.r.length none, C.int .i64 B.seen]), Atom.arr Kd.ru8 B.o, Atom.arr Kd.ru8 B.t, Atom.arr Kd.ru8 (B.w ++ [l]),
 Atom.arr Kd.ru8 (B.n ++ [RS.nil]), Atom.arr Kd.ru8 B.f, Atom.arr Kd.int (B.m ++ [mark]), Atom.arr Kd.int B.d, Atom.arr Kd.int B.r] ∧ ∀ (y : Int), (0 : Int) ≤ y ∧ y ≤ (2000000 : Int) → (VV.one (V1.c (C.slc
 7 0 B.d.length none)) = VV.one (V1.c (C.slc 7 0 B.d.length none)) ∧ True) ∧ (VV.one (V1.c (C.slc 7 0 B.d.length none)) = VV.one (V1.c (C.slc 7 0 B.d.length none)) ∧ True) ∧ B.d.length = B.d.length ∧ (1
 ≤ 1 ∧ True) ∧ (B.d.length + 1) * 8 ≤ 140737488355328 ∧ True ∧ True ∧ i64ok (B.seen + (1 : Int)) ∧ (BookOk φ (BS.mk (B.turn) (B.deep + (1 : Int)) (B.o) (B.t) (B.w ++ [l]) (B.n ++ [RS.nil]) (B.f) (B.m ++
 [mark]) (B.d ++ [y]) (B.r) (B.seen + (1 : Int))) ∧ B.deep + (1 : Int) = (1 : Int) ∧ B.turn + (1 : Int) = B.seen + (1 : Int)) ∧ Into (K := KK) 0 [] [0, 1, 2, 11, 15, 5, 17, 19, 8, 9] [VV.one (V1.c (C.ptr
 0 0 0))] [Atom.cells 46 (bookC false false B.turn (B.deep + (1 : Int)) [C.slc 1 0 B.o.length none, C.slc 2 0 B.t.length none, C.slc 11 0 (B.w ++ [l]).length none, C.slc 15 0 (B.n ++ [RS.nil]).length none,
 C.slc 5 0 B.f.length none, C.slc 17 0 (B.m ++ [mark]).length none, C.slc 19 0 (B.d.length + 1) none, C.slc 8 0 B.r.length none, C.int .i64 (B.seen + (1 : Int))]), Atom.arr Kd.ru8 B.o, Atom.arr Kd.ru8 B.t,
 Atom.gone, Atom.gone, Atom.arr Kd.ru8 B.f, Atom.gone, Atom.gone, Atom.arr Kd.int B.r, Atom.bag φ, Atom.arr Kd.ru8 [l], Atom.arr Kd.ru8 (B.w ++ [l]), Atom.gone, Atom.gone, Atom.arr Kd.ru8 [RS.nil], Atom.arr
 Kd.ru8 (B.n ++ [RS.nil]), Atom.arr Kd.int [mark], Atom.arr Kd.int (B.m ++ [mark]), Atom.arr Kd.int [y], Atom.arr Kd.int (B.d ++ [y])] [VV.one (V1.c (C.ptr 0 0 0))] [Atom.cells 46 (bookC false false B.turn
 (B.deep + (1 : Int)) [C.slc 1 0 B.o.length none, C.slc 2 0 B.t.length none, C.slc 3 0 (B.w ++ [l]).length none, C.slc 4 0 (B.n ++ [RS.nil]).length none, C.slc 5 0 B.f.length none, C.slc 6 0 (B.m ++ [mark]).length
 none, C.slc 7 0 (B.d ++ [y]).length none, C.slc 8 0 B.r.length none, C.int .i64 (B.seen + (1 : Int))]), Atom.arr Kd.ru8 B.o, Atom.arr Kd.ru8 B.t, Atom.arr Kd.ru8 (B.w ++ [l]), Atom.arr Kd.ru8 (B.n ++ [RS.nil]),
 Atom.arr Kd.ru8 B.f, Atom.arr Kd.int (B.m ++ [mark]), Atom.arr Kd.int (B.d ++ [y]), Atom.arr Kd.int B.r, Atom.bag φ] ∧ ∀ (y_1 : BS × Bag KK), (RestOk y_1.snd y_1.fst ∧ y_1.fst.seen = B.seen + (1 : Int)
 ∧ ∀ (b : Nat) (i : BI KK), φ b = some i → (∀ (y : RS), List.Mem y (B.o ++ (B.t ++ (B.w ++ [l] ++ (B.n ++ [RS.nil] ++ B.f)))) → ¬y.At b) → y_1.snd b = some i ∧ ∀ (y : RS), List.Mem y (y_1.fst.o ++ (y_1.fst.t
 ++ (y_1.fst.w ++ (y_1.fst.n ++ y_1.fst.f)))) → ¬y.At b) → EndsAs 10 (ct_bBytes l mark B φ) (VV.tup []) [Atom.cells 46 (bookC false false y_1.fst.turn y_1.fst.deep [C.slc 20 0 y_1.fst.o.length none, C.slc
 21 0 y_1.fst.t.length none, C.slc 22 0 y_1.fst.w.length none, C.slc 23 0 y_1.fst.n.length none, C.slc 24 0 y_1.fst.f.length none, C.slc 25 0 y_1.fst.m.length none, C.slc 26 0 y_1.fst.d.length none, C.slc
 27 0 y_1.fst.r.length none, C.int .i64 y_1.fst.seen]), Atom.gone, Atom.gone, Atom.gone, Atom.gone, Atom.gone, Atom.gone, Atom.gone, Atom.gone, Atom.bag y_1.snd, Atom.arr Kd.ru8 [l], Atom.gone, Atom.gone,
 Atom.gone, Atom.arr Kd.ru8 [RS.nil], Atom.gone, Atom.arr Kd.int [mark], Atom.gone, Atom.arr Kd.int [y], Atom.gone, Atom.arr Kd.ru8 y_1.fst.o, Atom.arr Kd.ru8 y_1.fst.t, Atom.arr Kd.ru8 y_1.fst.w, Atom.arr
 Kd.ru8 y_1.fst.n, Atom.arr Kd.ru8 y_1.fst.f, Atom.arr Kd.int y_1.fst.m, Atom.arr Kd.int y_1.fst.d, Atom.arr Kd.int y_1.fst.r]) ∧ ∀ (b c : Nat), φ b = none → ys.length ≤ c → (VV.one (V1.c (C.slc 4 0 B.n.length
 none)) = VV.one (V1.c (C.slc 4 0 B.n.length none)) ∧ True) ∧ B.n.length = B.n.length ∧ (1 ≤ 1 ∧ True) ∧ (B.n.length + 1) * 24 ≤ 140737488355328 ∧ True ∧ True ∧ B.m.length = B.m.length ∧ (1 ≤ 1 ∧ True)
 ∧ (B.m.length + 1) * 8 ≤ 140737488355328 ∧ True ∧ (((0 : Int) ≤ B.turn ∧ B.turn ≤ (1000000 : Int)) ∧ (0 : Int) ≤ B.seen ∧ B.seen ≤ (1000000 : Int)) ∧ Into (K := KK) 0 [] [0, 1, 2, 11, 15, 5, 17, 7, 8]
 [VV.one (V1.c (C.ptr 0 0 0)), i64 B.seen] [Atom.cells 46 (bookC false false B.turn (B.deep + (1 : Int)) [C.slc 1 0 B.o.length none, C.slc 2 0 B.t.length none, C.slc 11 0 (B.w.length + 1) none, C.slc 15
 0 (B.n.length + 1) none, C.slc 5 0 B.f.length none, C.slc 17 0 (B.m.length + 1) none, C.slc 7 0 B.d.length none, C.slc 8 0 B.r.length none, C.int .i64 B.seen]), Atom.arr Kd.ru8 B.o, Atom.arr Kd.ru8 B.t,
 Atom.gone, Atom.gone, Atom.arr Kd.ru8 B.f, Atom.gone, Atom.arr Kd.int B.d, Atom.arr Kd.int B.r, Atom.bag (bput φ b (BI.row Kd.u8 c ys)), Atom.arr Kd.ru8 [l], Atom.arr Kd.ru8 (B.w ++ [l]), Atom.gone, Atom.gone,
 Atom.arr Kd.ru8 [RS.mk b 0 (0 + ys.length) c], Atom.arr Kd.ru8 (B.n ++ [RS.mk b 0 (0 + ys.length) c]), Atom.arr Kd.int [mark], Atom.arr Kd.int (B.m ++ [mark])] [VV.one (V1.c (C.ptr 0 0 0)), i64 B.seen]
 [Atom.cells 46 (bookC false false B.turn (B.deep + (1 : Int)) [C.slc 1 0 B.o.length none, C.slc 2 0 B.t.length none, C.slc 3 0 (B.w ++ [l]).length none, C.slc 4 0 (B.n ++ [RS.mk b 0 (0 + ys.length) c]).length
 none, C.slc 5 0 B.f.length none, C.slc 6 0 (B.m ++ [mark]).length none, C.slc 7 0 B.d.length none, C.slc 8 0 B.r.length none, C.int .i64 B.seen]), Atom.arr Kd.ru8 B.o, Atom.arr Kd.ru8 B.t, Atom.arr Kd.ru8
 (B.w ++ [l]), Atom.arr Kd.ru8 (B.n ++ [RS.mk b 0 (0 + ys.length) c]), Atom.arr Kd.ru8 B.f, Atom.arr Kd.int (B.m ++ [mark]), Atom.arr Kd.int B.d, Atom.arr Kd.int B.r] ∧ ∀ (y : Int), (0 : Int) ≤ y ∧ y ≤
 (2000000 : Int) → (VV.one (V1.c (C.slc 7 0 B.d.length none)) = VV.one (V1.c (C.slc 7 0 B.d.length none)) ∧ True) ∧ (VV.one (V1.c (C.slc 7 0 B.d.length none)) = VV.one (V1.c (C.slc 7 0 B.d.length none))
 ∧ True) ∧ B.d.length = B.d.length ∧ (1 ≤ 1 ∧ True) ∧ (B.d.length + 1) * 8 ≤ 140737488355328 ∧ True ∧ True ∧ i64ok (B.seen + (1 : Int)) ∧ (BookOk (bput φ b (BI.row Kd.u8 c ys)) (BS.mk (B.turn) (B.deep +
 (1 : Int)) (B.o) (B.t) (B.w ++ [l]) (B.n ++ [RS.mk b 0 (0 + ys.length) c]) (B.f) (B.m ++ [mark]) (B.d ++ [y]) (B.r) (B.seen + (1 : Int))) ∧ B.deep + (1 : Int) = (1 : Int) ∧ B.turn + (1 : Int) = B.seen
 + (1 : Int)) ∧ Into (K := KK) 0 [] [0, 1, 2, 11, 15, 5, 17, 19, 8, 9] [VV.one (V1.c (C.ptr 0 0 0))] [Atom.cells 46 (bookC false false B.turn (B.deep + (1 : Int)) [C.slc 1 0 B.o.length none, C.slc 2 0 B.t.length
 none, C.slc 11 0 (B.w ++ [l]).length none, C.slc 15 0 (B.n ++ [RS.mk b 0 (0 + ys.length) c]).length none, C.slc 5 0 B.f.length none, C.slc 17 0 (B.m ++ [mark]).length none, C.slc 19 0 (B.d.length + 1)
 none, C.slc 8 0 B.r.length none, C.int .i64 (B.seen + (1 : Int))]), Atom.arr Kd.ru8 B.o, Atom.arr Kd.ru8 B.t, Atom.gone, Atom.gone, Atom.arr Kd.ru8 B.f, Atom.gone, Atom.gone, Atom.arr Kd.int B.r, Atom.bag
 (bput φ b (BI.row Kd.u8 c ys)), Atom.arr Kd.ru8 [l], Atom.arr Kd.ru8 (B.w ++ [l]), Atom.gone, Atom.gone, Atom.arr Kd.ru8 [RS.mk b 0 (0 + ys.length) c], Atom.arr Kd.ru8 (B.n ++ [RS.mk b 0 (0 + ys.length)
 c]), Atom.arr Kd.int [mark], Atom.arr Kd.int (B.m ++ [mark]), Atom.arr Kd.int [y], Atom.arr Kd.int (B.d ++ [y])] [VV.one (V1.c (C.ptr 0 0 0))] [Atom.cells 46 (bookC false false B.turn (B.deep + (1 : Int))
 [C.slc 1 0 B.o.length none, C.slc 2 0 B.t.length none, C.slc 3 0 (B.w ++ [l]).length none, C.slc 4 0 (B.n ++ [RS.mk b 0 (0 + ys.length) c]).length none, C.slc 5 0 B.f.length none, C.slc 6 0 (B.m ++ [mark]).length
 none, C.slc 7 0 (B.d ++ [y]).length none, C.slc 8 0 B.r.length none, C.int .i64 (B.seen + (1 : Int))]), Atom.arr Kd.ru8 B.o, Atom.arr Kd.ru8 B.t, Atom.arr Kd.ru8 (B.w ++ [l]), Atom.arr Kd.ru8 (B.n ++ [RS.mk
 b 0 (0 + ys.length) c]), Atom.arr Kd.ru8 B.f, Atom.arr Kd.int (B.m ++ [mark]), Atom.arr Kd.int (B.d ++ [y]), Atom.arr Kd.int B.r, Atom.bag (bput φ b (BI.row Kd.u8 c ys))] ∧ ∀ (y_1 : BS × Bag KK), (RestOk
 y_1.snd y_1.fst ∧ y_1.fst.seen = B.seen + (1 : Int) ∧ ∀ (b_1 : Nat) (i : BI KK), bput φ b (BI.row Kd.u8 c ys) b_1 = some i → (∀ (y : RS), List.Mem y (B.o ++ (B.t ++ (B.w ++ [l] ++ (B.n ++ [RS.mk b 0 (0
 + ys.length) c] ++ B.f)))) → ¬y.At b_1) → y_1.snd b_1 = some i ∧ ∀ (y : RS), List.Mem y (y_1.fst.o ++ (y_1.fst.t ++ (y_1.fst.w ++ (y_1.fst.n ++ y_1.fst.f)))) → ¬y.At b_1) → EndsAs 10 (ct_bBytes l mark
 B φ) (VV.tup []) [Atom.cells 46 (bookC false false y_1.fst.turn y_1.fst.deep [C.slc 20 0 y_1.fst.o.length none, C.slc 21 0 y_1.fst.t.length none, C.slc 22 0 y_1.fst.w.length none, C.slc 23 0 y_1.fst.n.length
 none, C.slc 24 0 y_1.fst.f.length none, C.slc 25 0 y_1.fst.m.length none, C.slc 26 0 y_1.fst.d.length none, C.slc 27 0 y_1.fst.r.length none, C.int .i64 y_1.fst.seen]), Atom.gone, Atom.gone, Atom.gone,
 Atom.gone, Atom.gone, Atom.gone, Atom.gone, Atom.gone, Atom.bag y_1.snd, Atom.arr Kd.ru8 [l], Atom.gone, Atom.gone, Atom.gone, Atom.arr Kd.ru8 [RS.mk b 0 (0 + ys.length) c], Atom.gone, Atom.arr Kd.int
 [mark], Atom.gone, Atom.arr Kd.int [y], Atom.gone, Atom.arr Kd.ru8 y_1.fst.o, Atom.arr Kd.ru8 y_1.fst.t, Atom.arr Kd.ru8 y_1.fst.w, Atom.arr Kd.ru8 y_1.fst.n, Atom.arr Kd.ru8 y_1.fst.f, Atom.arr Kd.int
 y_1.fst.m, Atom.arr Kd.int y_1.fst.d, Atom.arr Kd.int y_1.fst.r]) := by kernel_rfl
theorem vc_bHold (B : BS) (φ : Bag KK) : evFn tabH ann0 Tryz.f15 (ct_bHold B φ) = ( BookOk φ (BS.mk (B.turn) (B.deep) (B.o) (B.t) (B.w) (B.n) (B.f) (B.m) (B.d) (B.r) (B.seen)) ∧ Into (K := KK) 0 [] [0, 1, 2, 3, 4, 5, 6, 7, 8, 9] [VV.one (V1.c (C.ptr 0 0 0))] (bookH B ++ [.bag φ]) [VV.one
 (V1.c (C.ptr 0 0 0))] (bookH B ++ [.bag φ]) ∧ ∀ (y : Unit), True → True ∧ Into (K := KK) 0 [] [0, 1, 2, 3, 4, 5, 6, 7, 8] [VV.one (V1.c (C.ptr 0 0 0))] (bookH B ++ [.bag φ]) [VV.one (V1.c (C.ptr 0 0 0))]
 (bookH B) ∧ ∀ (y : Unit), True → True ∧ Into (K := KK) 0 [] [0, 1, 2, 3, 4, 5, 6, 7, 8] [VV.one (V1.c (C.ptr 0 0 0))] (bookH B ++ [.bag φ]) [VV.one (V1.c (C.ptr 0 0 0))] (bookH B) ∧ ∀ (y : Unit), True
 → True ∧ Into (K := KK) 0 [] [0, 1, 2, 3, 4, 5, 6, 7, 8] [VV.one (V1.c (C.ptr 0 0 0))] (bookH B ++ [.bag φ]) [VV.one (V1.c (C.ptr 0 0 0))] (bookH B) ∧ ∀ (y : Unit), True → True ∧ Into (K := KK) 0 [] [0,
 1, 2, 3, 4, 5, 6, 7, 8] [VV.one (V1.c (C.ptr 0 0 0))] (bookH B ++ [.bag φ]) [VV.one (V1.c (C.ptr 0 0 0))] (bookH B) ∧ ∀ (y : Unit), True → True ∧ Into (K := KK) 0 [] [0, 1, 2, 3, 4, 5, 6, 7, 8] [VV.one
 (V1.c (C.ptr 0 0 0))] (bookH B ++ [.bag φ]) [VV.one (V1.c (C.ptr 0 0 0))] (bookH B) ∧ ∀ (y : Unit), True → True ∧ Into (K := KK) 0 [] [0, 1, 2, 3, 4, 5, 6, 7, 8] [VV.one (V1.c (C.ptr 0 0 0))] (bookH B
 ++ [.bag φ]) [VV.one (V1.c (C.ptr 0 0 0))] (bookH B) ∧ ∀ (y : Unit), True → True ∧ Into (K := KK) 0 [] [0, 1, 2, 3, 4, 5, 6, 7, 8] [VV.one (V1.c (C.ptr 0 0 0))] (bookH B ++ [.bag φ]) [VV.one (V1.c (C.ptr
 0 0 0))] (bookH B) ∧ ∀ (y : Unit), True → True ∧ Into (K := KK) 0 [] [0, 1, 2, 3, 4, 5, 6, 7, 8] [VV.one (V1.c (C.ptr 0 0 0))] (bookH B ++ [.bag φ]) [VV.one (V1.c (C.ptr 0 0 0))] (bookH B) ∧ ∀ (y : Unit),
 True → True ∧ Into (K := KK) 0 [] [0, 1, 2, 3, 4, 5, 6, 7, 8] [VV.one (V1.c (C.ptr 0 0 0))] (bookH B ++ [.bag φ]) [VV.one (V1.c (C.ptr 0 0 0))] (bookH B) ∧ ∀ (y : Unit), True → True ∧ Into (K := KK) 0
 [] [0, 1, 2, 3, 4, 5, 6, 7, 8] [VV.one (V1.c (C.ptr 0 0 0))] (bookH B ++ [.bag φ]) [VV.one (V1.c (C.ptr 0 0 0))] (bookH B) ∧ ∀ (y : Unit), True → True ∧ Into (K := KK) 0 [] [0, 1, 2, 3, 4, 5, 6, 7, 8]
 [VV.one (V1.c (C.ptr 0 0 0))] (bookH B ++ [.bag φ]) [VV.one (V1.c (C.ptr 0 0 0))] (bookH B) ∧ ∀ (y : Unit), True → True ∧ Into (K := KK) 0 [] [0, 1, 2, 3, 4, 5, 6, 7, 8] [VV.one (V1.c (C.ptr 0 0 0))] (bookH
 B ++ [.bag φ]) [VV.one (V1.c (C.ptr 0 0 0))] (bookH B) ∧ ∀ (y : Unit), True → True ∧ Into (K := KK) 0 [] [0, 1, 2, 3, 4, 5, 6, 7, 8] [VV.one (V1.c (C.ptr 0 0 0))] (bookH B ++ [.bag φ]) [VV.one (V1.c (C.ptr
 0 0 0))] (bookH B) ∧ ∀ (y : Unit), True → True ∧ Into (K := KK) 0 [] [0, 1, 2, 3, 4, 5, 6, 7, 8] [VV.one (V1.c (C.ptr 0 0 0))] (bookH B ++ [.bag φ]) [VV.one (V1.c (C.ptr 0 0 0))] (bookH B) ∧ ∀ (y : Unit),
 True → True ∧ Into (K := KK) 0 [] [0, 1, 2, 3, 4, 5, 6, 7, 8] [VV.one (V1.c (C.ptr 0 0 0))] (bookH B ++ [.bag φ]) [VV.one (V1.c (C.ptr 0 0 0))] (bookH B) ∧ ∀ (y : Unit), True → EndsAs 10 (ct_bHold B φ)
 (VV.one (V1.c (C.bool true))) (bookH B ++ [.bag φ])) := by kernel_rfl
theorem bHold_ok (B : BS) (φ : Bag KK) : CtOk Tryz.prog 15 (ct_bHold B φ) := CtOk_of KK_ok tabH ann0 (fn := Tryz.f15) rfl (fun _ _ => rfl) fun hn => by
  rw [vc_bHold]
  exact ⟨hn, into_mk (by kernel_rfl) (by (repeat' first | exact trivial | exact rfl | apply And.intro)) (by (repeat' first | exact trivial | exact rfl | apply And.intro)), fun _ _ => ⟨trivial, into_mk (by kernel_rfl) (by (repeat' first | exact trivial | exact rfl | apply And.intro)) (by (repeat' first | exact trivial | exact rfl | apply And.intro)), fun _ _ => ⟨trivial, into_mk (by kernel_rfl) (by (repeat' first | exact trivial | exact rfl | apply And.intro)) (by (repeat' first | exact trivial | exact rfl | apply And.intro)), fun _ _ => ⟨trivial, into_mk (by kernel_rfl) (by (repeat' first | exact trivial | exact rfl | apply And.intro)) (by (repeat' first | exact trivial | exact rfl | apply And.intro)), fun _ _ => ⟨trivial, into_mk (by kernel_rfl) (by (repeat' first | exact trivial | exact rfl | apply And.intro)) (by (repeat' first | exact trivial | exact rfl | apply And.intro)), fun _ _ => ⟨trivial, into_mk (by kernel_rfl) (by (repeat' first | exact trivial | exact rfl | apply And.intro)) (by (repeat' first | exact trivial | exact rfl | apply And.intro)), fun _ _ => ⟨trivial, into_mk (by kernel_rfl) (by (repeat' first | exact trivial | exact rfl | apply And.intro)) (by (repeat' first | exact trivial | exact rfl | apply And.intro)), fun _ _ => ⟨trivial, into_mk (by kernel_rfl) (by (repeat' first | exact trivial | exact rfl | apply And.intro)) (by (repeat' first | exact trivial | exact rfl | apply And.intro)), fun _ _ => ⟨trivial, into_mk (by kernel_rfl) (by (repeat' first | exact trivial | exact rfl | apply And.intro)) (by (repeat' first | exact trivial | exact rfl | apply And.intro)), fun _ _ => ⟨trivial, into_mk (by kernel_rfl) (by (repeat' first | exact trivial | exact rfl | apply And.intro)) (by (repeat' first | exact trivial | exact rfl | apply And.intro)), fun _ _ => ⟨trivial, into_mk (by kernel_rfl) (by (repeat' first | exact trivial | exact rfl | apply And.intro)) (by (repeat' first | exact trivial | exact rfl | apply And.intro)), fun _ _ => ⟨trivial, into_mk (by kernel_rfl) (by (repeat' first | exact trivial | exact rfl | apply And.intro)) (by (repeat' first | exact trivial | exact rfl | apply And.intro)), fun _ _ => ⟨trivial, into_mk (by kernel_rfl) (by (repeat' first | exact trivial | exact rfl | apply And.intro)) (by (repeat' first | exact trivial | exact rfl | apply And.intro)), fun _ _ => ⟨trivial, into_mk (by kernel_rfl) (by (repeat' first | exact trivial | exact rfl | apply And.intro)) (by (repeat' first | exact trivial | exact rfl | apply And.intro)), fun _ _ => ⟨trivial, into_mk (by kernel_rfl) (by (repeat' first | exact trivial | exact rfl | apply And.intro)) (by (repeat' first | exact trivial | exact rfl | apply And.intro)), fun _ _ => ⟨trivial, into_mk (by kernel_rfl) (by (repeat' first | exact trivial | exact rfl | apply And.intro)) (by (repeat' first | exact trivial | exact rfl | apply And.intro)), fun _ _ => ⟨(), [], [0, 1, 2, 3, 4, 5, 6, 7, 8, 9], trivial, by (repeat' first | exact trivial | exact rfl | apply And.intro)⟩⟩⟩⟩⟩⟩⟩⟩⟩⟩⟩⟩⟩⟩⟩⟩⟩
theorem rest_new {φ φ' : Bag KK} {B : BS} {l y : RS} {zs : List Int} {mark due : Int} (h : RestOk φ B) (ha : Alone φ Kd.u8 1000000 B.bk l) (hm : -1000000000000 ≤ mark ∧ mark ≤ 1000000000000) (hs : B.seen < 100000) (hr : l.row φ Kd.u8 = some zs) (hy : Frz φ Kd.u8 zs y φ') :
    BookOk φ' { B with deep := B.deep + 1, w := B.w ++ [l], n := B.n ++ [y], m := B.m ++ [mark], d := B.d ++ [due], seen := B.seen + 1 } := by
  obtain ⟨hb, hf, hrr, hd, ht⟩ := h
  have h1 := hb.cnt
  have h2 := hb.lm
  have h3 := hb.ld
  refine ⟨hb.good.handed ha hr hy, hb.tab.frz hy, by simp [h2], by simp [h3], hb.lr, fun x hx => ?_, hb.rb, ?_, by show B.seen + 1 ≤ 100000; omega, hb.turn⟩
  · rcases List.mem_append.1 hx with hx | hx
    · exact hb.mb x hx
    · rw [List.mem_singleton.1 hx]; exact hm
  · show (B.o.length : Int) + 2 * ((B.w ++ [l]).length : Nat) + B.f.length = 2 * (B.seen + 1)
    rw [List.length_append, List.length_singleton]
    omega
theorem bBytes_ok (l : RS) (mark : Int) (B : BS) (φ : Bag KK) : CtOk Tryz.prog 14 (ct_bBytes l mark B φ) := CtOk_of KK_ok tabT ann0 (fn := Tryz.f14) rfl (fun _ _ => rfl) fun hn => by
  obtain ⟨hb, ha, hm, hs⟩ := hn
  have hfew := hb.ok.few
  have hcnt := hb.ok.cnt
  have hlm := hb.ok.lm
  have hld := hb.ok.ld
  have hd := hb.deep
  have ht := hb.turn
  have h0 := hb.ok.turn
  have hon : B.w.length = B.n.length := All2.length hb.ok.good.note
  obtain ⟨zs, z1, z2, z3⟩ := ha.whole
  have z3' : (zs : List Int).length ≤ 1000000 := z3
  rw [vc_bBytes]
  have hfew : B.seen ≤ 100000 := hfew
  have step : ∀ (c : Bool) y φ' due, Frz φ Kd.u8 zs y φ' → 0 ≤ due ∧ due ≤ 2000000 → BookOk φ' { B with deep := B.deep + 1, w := B.w ++ [l], n := B.n ++ [y], m := B.m ++ [mark], d := B.d ++ [due], seen := B.seen + 1 } := fun _ y φ' due hy _ => rest_new hb ha hm hs z2 hy
  refine ⟨by unfold i64ok; omega, rfl, ⟨Nat.le_refl _, trivial⟩, by omega, trivial, ⟨rfl, trivial⟩, rfl, zs, z2, by rw [Nat.zero_add]; exact le_lim (le_150 z3), ⟨rfl, trivial⟩, Nat.zero_add _, fun hz => ?_, fun b c hfr hc => ?_⟩
  · refine ⟨⟨rfl, trivial⟩, rfl, ⟨Nat.le_refl _, trivial⟩, by omega, trivial, trivial, rfl, ⟨Nat.le_refl _, trivial⟩, by omega, trivial, ⟨by omega, by omega, by omega⟩, into_mk (by kernel_rfl) (by (repeat' first | exact trivial | exact rfl | exact len_snoc _ _ | apply And.intro)) (by (repeat' first | exact trivial | exact rfl | exact len_snoc _ _ | apply And.intro)), fun due hdue => ⟨⟨rfl, trivial⟩, ⟨rfl, trivial⟩, rfl, ⟨Nat.le_refl _, trivial⟩, by omega, trivial, trivial, by unfold i64ok; omega, ⟨step true _ _ due (.nil_ hz) hdue, by omega, by omega⟩, into_mk (by kernel_rfl) (by (repeat' first | exact trivial | exact rfl | exact len_snoc _ _ | apply And.intro)) (by (repeat' first | exact trivial | exact rfl | exact len_snoc _ _ | apply And.intro)), fun y hy => ⟨y, [], [0, 1, 2, 3, 4, 5, 6, 7, 8, 9, 20, 21, 22, 23, 24, 25, 26, 27], ⟨hy.1, hy.2.1, (Frz.nil_ hz).handed.trans hy.2.2⟩, by (repeat' first | exact trivial | exact rfl | apply And.intro)⟩⟩⟩
  · have hq : 0 + (zs : List Int).length = zs.length := Nat.zero_add _
    have e2 : ∀ y : BS × Bag KK, Stays (bput φ b (.row Kd.u8 c zs)) ⟨B.o, B.t, B.w ++ [l], B.n ++ [RS.mk b 0 (0 + zs.length) c], B.f⟩ y.2 y.1.bk → StaysX φ B.bk l y.2 y.1.bk := fun y h => by
      rw [hq] at h
      exact (Frz.mk (kd := Kd.u8) b c hfr hc).handed.trans h
    refine ⟨⟨rfl, trivial⟩, rfl, ⟨Nat.le_refl _, trivial⟩, by omega, trivial, trivial, rfl, ⟨Nat.le_refl _, trivial⟩, by omega, trivial, ⟨by omega, by omega, by omega⟩, into_mk (by kernel_rfl) (by (repeat' first | exact trivial | exact rfl | exact len_snoc _ _ | exact zero_mk _ _ _ | exact zero_mks _ _ _ _ | apply And.intro)) (by (repeat' first | exact trivial | exact rfl | exact len_snoc _ _ | exact zero_mk _ _ _ | exact zero_mks _ _ _ _ | apply And.intro)), fun due hdue => ⟨⟨rfl, trivial⟩, ⟨rfl, trivial⟩, rfl, ⟨Nat.le_refl _, trivial⟩, by omega, trivial, trivial, by unfold i64ok; omega, ⟨?_, by omega, by omega⟩, into_mk (by kernel_rfl) (by (repeat' first | exact trivial | exact rfl | exact len_snoc _ _ | exact zero_mk _ _ _ | exact zero_mks _ _ _ _ | apply And.intro)) (by (repeat' first | exact trivial | exact rfl | exact len_snoc _ _ | exact zero_mk _ _ _ | exact zero_mks _ _ _ _ | apply And.intro)), fun y hy => ⟨y, [], [0, 1, 2, 3, 4, 5, 6, 7, 8, 9, 20, 21, 22, 23, 24, 25, 26, 27], ⟨hy.1, hy.2.1, e2 y hy.2.2⟩, by (repeat' first | exact trivial | exact rfl | apply And.intro)⟩⟩⟩
    have := step true _ _ due (.mk b c hfr hc) hdue
    rw [← hq] at this
    exact this
end Go.Proofs.YtndlpbheifalhaaGreatDoor.T
end
section
namespace Go.Proofs.YtndlpbheifalhaaGreatDoor.T
open Go.Proofs.YtndlpbheifalhaaGreatDoor.E Go.Proofs.YtndlpbheifalhaaGreatDoor.V
set_option maxRecDepth 100000
set_option linter.unusedVariables false
set_option linter.unusedSimpArgs false
/-- A reader behind a call. -/
def stepS (s : St) (o : OpT) : St := if o.1 = 1 then (byteO s).2 else if o.1 = 2 then (uintO s o.2.2.1).2 else if o.1 = 3 then (textO s o.2.2.2).2 else if o.1 = 4 then (rawO s o.2.2.2).2 else if o.1 = 5 then endO s else s
/-- Two readers stand, with a book beside them. -/
structure DoOk (u v : RS) (φ : Bag KK) (b c : Nat) (s : St) (B : BS) : Prop where
  both : Both u v φ b c s
  ok : s.Ok
  bk : RestOk φ B
  fu : ∀ d, u.At d → B.bk.Free d
  fv : ∀ d, v.At d → B.bk.Free d
/-- What lies beside the readers and the book stays. -/
def StaysD (b c : Nat) (φ : Bag KK) (B : BS) (ψ : Bag KK) (C : BS) : Prop := ∀ d i, d ≠ b → d ≠ c → φ d = some i → B.bk.Free d → ψ d = some i ∧ C.bk.Free d
def opV (o : OpT) : VV := .one (.agg [.int .i64 o.1, .bool o.2.1, .int .u64 o.2.2.1, .int .i64 o.2.2.2])
def ct_does (u v : RS) (s : St) (o : OpT) (b c : Nat) (mark : Int) (B : BS) (φ : Bag KK) : Ct KK := { need := DoOk u v φ b c s B ∧ B.seen < 100000 ∧ (-1000000000000 ≤ mark ∧ mark ≤ 1000000000000) ∧ i64ok o.2.2.2, pre := bookH B ++ [.bag φ], args := [pairV b c, .c (.ptr 0 0 0), opV o, i64 mark], Y := BS × Bag KK, ok := fun z => DoOk u v z.2 b c (stepS s o) z.1 ∧ (B.seen ≤ z.1.seen ∧ z.1.seen ≤ B.seen + 1) ∧ StaysD b c φ B z.2 z.1, ret := fun _ => boolv true, post := fun z => bookM z.1 z.2 }
/-- The book that stands at a name, and the names of its lists. -/
def bookAt (q : Nat) (H : VH KK) : Option (BS × List Nat) := match at_ H q with
  | .cells _ (_ :: _ :: .int _ turn :: .int _ deep :: cs) => match cs.drop 0 with
    | .slc a _ _ _ :: .slc b _ _ _ :: .slc c _ _ _ :: .slc d _ _ _ :: .slc e _ _ _ :: .slc f _ _ _ :: .slc g _ _ _ :: .slc h _ _ _ :: .int _ seen :: _ =>
      match at_ H a, at_ H b, at_ H c, at_ H d, at_ H e, at_ H f, at_ H g, at_ H h with
      | .arr .ru8 o, .arr .ru8 t, .arr .ru8 w, .arr .ru8 n, .arr .ru8 fr, .arr .int m, .arr .int du, .arr .int r => some (⟨turn, deep, o, t, w, n, fr, m, du, r, seen⟩, [q, a, b, c, d, e, f, g, h])
      | _, _, _, _, _, _, _, _ => none
    | _ => none
  | _ => none
def pickDo (u v : RS) (s : St) (o : OpT) (f : FuncId) (args : List VV) (H : VH KK) : Option (Ct KK × List Kd × List Nat) := match at_ H 9 with
  | .bag φ => match f, args with
    | 56, [.one (.c (.rp _ _ b _ _))] => some (ct_lbyte u s b φ, [], [9])
    | 57, [.one (.c (.rp _ _ b _ _))] => some (ct_mbyte v s b φ, [], [9])
    | 58, [.one (.c (.rp _ _ b _ _)), .one (.c (.int _ m))] => some (ct_luint u s m b φ, [], [9])
    | 59, [.one (.c (.rp _ _ b _ _)), .one (.c (.int _ m))] => some (ct_muint v s m b φ, [], [9])
    | 60, [.one (.c (.rp _ _ b _ _)), .one (.c (.int _ m))] => some (ct_ltext u s m b φ, [], [9])
    | 61, [.one (.c (.rp _ _ b _ _)), .one (.c (.int _ m))] => some (ct_mtext v s m b φ, [], [9])
    | 62, [.one (.c (.rp _ _ b _ _)), .one (.c (.int _ m))] => some (ct_lraw 75 (RdP u) s m b φ, [], [9])
    | 63, [.one (.c (.rp _ _ b _ _)), .one (.c (.int _ m))] => some (ct_lraw 77 (RdR v) s m b φ, [], [9])
    | 64, [.one (.c (.rp _ _ b _ _))] => some (ct_lend u s b φ, [], [9])
    | 65, [.one (.c (.rp _ _ b _ _))] => some (ct_mend v s b φ, [], [9])
    | 18, [.one (.agg [.rp _ _ b _ _, .rp _ _ c _ _])] => some (ct_stands u v (stepS s o) b c φ, [], [9])
    | 9, [.one (.c (.rs _ _ x)), .one (.c (.rs _ _ y))] => some (ct_sameRR x y φ, [], [9])
    | 14, [.one (.c (.ptr q _ _)), .one (.c (.rs _ _ l)), .one (.c (.int _ mark))] => match bookAt q H with
      | some (B, τ) => some (ct_bBytes l mark B φ, [], τ ++ [9])
      | none => none
    | _, _ => none
  | _ => none
theorem pickDo_ok {u v : RS} {s : St} {o : OpT} {f : FuncId} {args : List VV} {H : VH KK} {ct ks τ} (h : pickDo u v s o f args H = some (ct, ks, τ)) : CtOk Tryz.prog f ct := by
  unfold pickDo at h
  split at h
  · split at h
    · cases h; exact lbyte_ok _ _ _ _
    · cases h; exact mbyte_ok _ _ _ _
    · cases h; exact luint_ok _ _ _ _ _
    · cases h; exact muint_ok _ _ _ _ _
    · cases h; exact ltext_ok _ _ _ _ _
    · cases h; exact mtext_ok _ _ _ _ _
    · cases h; exact lraw_ok _ _ _ _ _
    · cases h; exact mraw_ok _ _ _ _ _
    · cases h; exact lend_ok _ _ _ _
    · cases h; exact mend_ok _ _ _ _
    · cases h; exact stands_ok _ _ _ _ _ _
    · cases h; exact sameRR_ok _ _ _
    · split at h
      · cases h; exact bBytes_ok _ _ _ _
      · cases h
    · cases h
  · cases h
def tabDo (u v : RS) (s : St) (o : OpT) : Tab Tryz.prog KK := ⟨mixed, pickDo u v s o, fun _ _ _ _ _ _ h => pickDo_ok h⟩
theorem vc_does (u v : RS) (s : St) (o : OpT) (b c : Nat) (mark : Int) (B : BS) (φ : Bag KK) : evFn (tabDo u v s o) ann0 Tryz.f19 (ct_does u v s o b c mark B φ) = ( ite2 (decide (o.fst = (1 : Int))) (True ∧ (RdP u φ b s ∧ s.Ok ∧ True) ∧ Into (K := KK) 0 [] [9] [VV.one (V1.c (C.rp 75 0 b 0 0))] [Atom.cells 46 (bookC false false B.turn B.deep [C.slc 1 0 B.o.length
 none, C.slc 2 0 B.t.length none, C.slc 3 0 B.w.length none, C.slc 4 0 B.n.length none, C.slc 5 0 B.f.length none, C.slc 6 0 B.m.length none, C.slc 7 0 B.d.length none, C.slc 8 0 B.r.length none, C.int
 .i64 B.seen]), Atom.arr Kd.ru8 B.o, Atom.arr Kd.ru8 B.t, Atom.arr Kd.ru8 B.w, Atom.arr Kd.ru8 B.n, Atom.arr Kd.ru8 B.f, Atom.arr Kd.int B.m, Atom.arr Kd.int B.d, Atom.arr Kd.int B.r, Atom.bag φ, Atom.cells
 63 [C.rp 75 0 b 0 0, C.rp 77 0 c 0 0], Atom.cells 66 [C.int .i64 o.fst, C.bool o.snd.fst, C.int .u64 o.snd.snd.fst, C.int .i64 o.snd.snd.snd]] [VV.one (V1.c (C.rp 75 0 b 0 0))] [Atom.bag φ] ∧ ∀ (y : Nat
 → Option (BI KK)), RdP u y b (byteO s).snd ∧ Oth b φ y → (VV.one (V1.c (C.rp 77 0 c 0 0)) = VV.one (V1.c (C.rp 77 0 c 0 0)) ∧ True) ∧ (RdR v y c s ∧ s.Ok ∧ True) ∧ Into (K := KK) 0 [] [9] [VV.one (V1.c
 (C.rp 77 0 c 0 0))] [Atom.cells 46 (bookC false false B.turn B.deep [C.slc 1 0 B.o.length none, C.slc 2 0 B.t.length none, C.slc 3 0 B.w.length none, C.slc 4 0 B.n.length none, C.slc 5 0 B.f.length none,
 C.slc 6 0 B.m.length none, C.slc 7 0 B.d.length none, C.slc 8 0 B.r.length none, C.int .i64 B.seen]), Atom.arr Kd.ru8 B.o, Atom.arr Kd.ru8 B.t, Atom.arr Kd.ru8 B.w, Atom.arr Kd.ru8 B.n, Atom.arr Kd.ru8
 B.f, Atom.arr Kd.int B.m, Atom.arr Kd.int B.d, Atom.arr Kd.int B.r, Atom.bag y, Atom.cells 63 [C.rp 75 0 b 0 0, C.rp 77 0 c 0 0], Atom.cells 66 [C.int .i64 o.fst, C.bool o.snd.fst, C.int .u64 o.snd.snd.fst,
 C.int .i64 o.snd.snd.snd]] [VV.one (V1.c (C.rp 77 0 c 0 0))] [Atom.bag y] ∧ ∀ (y_1 : Nat → Option (BI KK)), RdR v y_1 c (byteO s).snd ∧ Oth c y y_1 → ite2 (decide ((byteO s).fst = (byteO s).fst)) (True
 ∧ (Both u v y_1 b c (stepS s o) ∧ (stepS s o).Ok) ∧ Into (K := KK) 0 [] [9] [VV.one (V1.agg [C.rp 75 0 b 0 0, C.rp 77 0 c 0 0])] [Atom.cells 46 (bookC false false B.turn B.deep [C.slc 1 0 B.o.length none,
 C.slc 2 0 B.t.length none, C.slc 3 0 B.w.length none, C.slc 4 0 B.n.length none, C.slc 5 0 B.f.length none, C.slc 6 0 B.m.length none, C.slc 7 0 B.d.length none, C.slc 8 0 B.r.length none, C.int .i64 B.seen]),
 Atom.arr Kd.ru8 B.o, Atom.arr Kd.ru8 B.t, Atom.arr Kd.ru8 B.w, Atom.arr Kd.ru8 B.n, Atom.arr Kd.ru8 B.f, Atom.arr Kd.int B.m, Atom.arr Kd.int B.d, Atom.arr Kd.int B.r, Atom.bag y_1, Atom.cells 63 [C.rp
 75 0 b 0 0, C.rp 77 0 c 0 0], Atom.cells 66 [C.int .i64 o.fst, C.bool o.snd.fst, C.int .u64 o.snd.snd.fst, C.int .i64 o.snd.snd.snd]] [VV.one (V1.agg [C.rp 75 0 b 0 0, C.rp 77 0 c 0 0])] [Atom.bag y_1]
 ∧ ∀ (y : Nat → Option (BI KK)), Both u v y b c (stepS s o) ∧ Oth2 b c y_1 y → (Both u v y b c (stepS s o) ∧ (stepS s o).Ok) ∧ Into (K := KK) 0 [] [9] [VV.one (V1.agg [C.rp 75 0 b 0 0, C.rp 77 0 c 0 0])]
 [Atom.cells 46 (bookC false false B.turn B.deep [C.slc 1 0 B.o.length none, C.slc 2 0 B.t.length none, C.slc 3 0 B.w.length none, C.slc 4 0 B.n.length none, C.slc 5 0 B.f.length none, C.slc 6 0 B.m.length
 none, C.slc 7 0 B.d.length none, C.slc 8 0 B.r.length none, C.int .i64 B.seen]), Atom.arr Kd.ru8 B.o, Atom.arr Kd.ru8 B.t, Atom.arr Kd.ru8 B.w, Atom.arr Kd.ru8 B.n, Atom.arr Kd.ru8 B.f, Atom.arr Kd.int
 B.m, Atom.arr Kd.int B.d, Atom.arr Kd.int B.r, Atom.bag y, Atom.cells 63 [C.rp 75 0 b 0 0, C.rp 77 0 c 0 0], Atom.cells 66 [C.int .i64 o.fst, C.bool o.snd.fst, C.int .u64 o.snd.snd.fst, C.int .i64 o.snd.snd.snd]]
 [VV.one (V1.agg [C.rp 75 0 b 0 0, C.rp 77 0 c 0 0])] [Atom.bag y] ∧ ∀ (y_2 : Nat → Option (BI KK)), Both u v y_2 b c (stepS s o) ∧ Oth2 b c y y_2 → EndsAs 10 (ct_does u v s o b c mark B φ) (boolv true)
 [Atom.cells 46 (bookC false false B.turn B.deep [C.slc 1 0 B.o.length none, C.slc 2 0 B.t.length none, C.slc 3 0 B.w.length none, C.slc 4 0 B.n.length none, C.slc 5 0 B.f.length none, C.slc 6 0 B.m.length
 none, C.slc 7 0 B.d.length none, C.slc 8 0 B.r.length none, C.int .i64 B.seen]), Atom.arr Kd.ru8 B.o, Atom.arr Kd.ru8 B.t, Atom.arr Kd.ru8 B.w, Atom.arr Kd.ru8 B.n, Atom.arr Kd.ru8 B.f, Atom.arr Kd.int
 B.m, Atom.arr Kd.int B.d, Atom.arr Kd.int B.r, Atom.bag y_2, Atom.cells 63 [C.rp 75 0 b 0 0, C.rp 77 0 c 0 0], Atom.cells 66 [C.int .i64 o.fst, C.bool o.snd.fst, C.int .u64 o.snd.snd.fst, C.int .i64 o.snd.snd.snd]])
 (True ∧ EndsAs 10 (ct_does u v s o b c mark B φ) (boolv false) [Atom.cells 46 (bookC false false B.turn B.deep [C.slc 1 0 B.o.length none, C.slc 2 0 B.t.length none, C.slc 3 0 B.w.length none, C.slc 4
 0 B.n.length none, C.slc 5 0 B.f.length none, C.slc 6 0 B.m.length none, C.slc 7 0 B.d.length none, C.slc 8 0 B.r.length none, C.int .i64 B.seen]), Atom.arr Kd.ru8 B.o, Atom.arr Kd.ru8 B.t, Atom.arr Kd.ru8
 B.w, Atom.arr Kd.ru8 B.n, Atom.arr Kd.ru8 B.f, Atom.arr Kd.int B.m, Atom.arr Kd.int B.d, Atom.arr Kd.int B.r, Atom.bag y_1, Atom.cells 63 [C.rp 75 0 b 0 0, C.rp 77 0 c 0 0], Atom.cells 66 [C.int .i64 o.fst,
 C.bool o.snd.fst, C.int .u64 o.snd.snd.fst, C.int .i64 o.snd.snd.snd]])) (ite2 (decide (o.fst = (2 : Int))) (True ∧ (RdP u φ b s ∧ s.Ok ∧ True) ∧ Into (K := KK) 0 [] [9] [VV.one (V1.c (C.rp 75 0 b 0 0)),
 VV.one (V1.c (C.int .u64 o.snd.snd.fst))] [Atom.cells 46 (bookC false false B.turn B.deep [C.slc 1 0 B.o.length none, C.slc 2 0 B.t.length none, C.slc 3 0 B.w.length none, C.slc 4 0 B.n.length none, C.slc
 5 0 B.f.length none, C.slc 6 0 B.m.length none, C.slc 7 0 B.d.length none, C.slc 8 0 B.r.length none, C.int .i64 B.seen]), Atom.arr Kd.ru8 B.o, Atom.arr Kd.ru8 B.t, Atom.arr Kd.ru8 B.w, Atom.arr Kd.ru8
 B.n, Atom.arr Kd.ru8 B.f, Atom.arr Kd.int B.m, Atom.arr Kd.int B.d, Atom.arr Kd.int B.r, Atom.bag φ, Atom.cells 63 [C.rp 75 0 b 0 0, C.rp 77 0 c 0 0], Atom.cells 66 [C.int .i64 o.fst, C.bool o.snd.fst,
 C.int .u64 o.snd.snd.fst, C.int .i64 o.snd.snd.snd]] [VV.one (V1.c (C.rp 75 0 b 0 0)), VV.one (V1.c (C.int .u64 o.snd.snd.fst))] [Atom.bag φ] ∧ ∀ (y : Nat → Option (BI KK)), RdP u y b (uintO s o.snd.snd.fst).snd
 ∧ Oth b φ y → (VV.one (V1.c (C.rp 77 0 c 0 0)) = VV.one (V1.c (C.rp 77 0 c 0 0)) ∧ VV.one (V1.c (C.int .u64 o.snd.snd.fst)) = VV.one (V1.c (C.int .u64 o.snd.snd.fst)) ∧ True) ∧ (RdR v y c s ∧ s.Ok ∧ True)
 ∧ Into (K := KK) 0 [] [9] [VV.one (V1.c (C.rp 77 0 c 0 0)), VV.one (V1.c (C.int .u64 o.snd.snd.fst))] [Atom.cells 46 (bookC false false B.turn B.deep [C.slc 1 0 B.o.length none, C.slc 2 0 B.t.length none,
 C.slc 3 0 B.w.length none, C.slc 4 0 B.n.length none, C.slc 5 0 B.f.length none, C.slc 6 0 B.m.length none, C.slc 7 0 B.d.length none, C.slc 8 0 B.r.length none, C.int .i64 B.seen]), Atom.arr Kd.ru8 B.o,
 Atom.arr Kd.ru8 B.t, Atom.arr Kd.ru8 B.w, Atom.arr Kd.ru8 B.n, Atom.arr Kd.ru8 B.f, Atom.arr Kd.int B.m, Atom.arr Kd.int B.d, Atom.arr Kd.int B.r, Atom.bag y, Atom.cells 63 [C.rp 75 0 b 0 0, C.rp 77 0
 c 0 0], Atom.cells 66 [C.int .i64 o.fst, C.bool o.snd.fst, C.int .u64 o.snd.snd.fst, C.int .i64 o.snd.snd.snd]] [VV.one (V1.c (C.rp 77 0 c 0 0)), VV.one (V1.c (C.int .u64 o.snd.snd.fst))] [Atom.bag y]
 ∧ ∀ (y_1 : Nat → Option (BI KK)), RdR v y_1 c (uintO s o.snd.snd.fst).snd ∧ Oth c y y_1 → ite2 (decide ((uintO s o.snd.snd.fst).fst = (uintO s o.snd.snd.fst).fst)) (True ∧ (Both u v y_1 b c (stepS s o)
 ∧ (stepS s o).Ok) ∧ Into (K := KK) 0 [] [9] [VV.one (V1.agg [C.rp 75 0 b 0 0, C.rp 77 0 c 0 0])] [Atom.cells 46 (bookC false false B.turn B.deep [C.slc 1 0 B.o.length none, C.slc 2 0 B.t.length none, C.slc
 3 0 B.w.length none, C.slc 4 0 B.n.length none, C.slc 5 0 B.f.length none, C.slc 6 0 B.m.length none, C.slc 7 0 B.d.length none, C.slc 8 0 B.r.length none, C.int .i64 B.seen]), Atom.arr Kd.ru8 B.o, Atom.arr
 Kd.ru8 B.t, Atom.arr Kd.ru8 B.w, Atom.arr Kd.ru8 B.n, Atom.arr Kd.ru8 B.f, Atom.arr Kd.int B.m, Atom.arr Kd.int B.d, Atom.arr Kd.int B.r, Atom.bag y_1, Atom.cells 63 [C.rp 75 0 b 0 0, C.rp 77 0 c 0 0],
 Atom.cells 66 [C.int .i64 o.fst, C.bool o.snd.fst, C.int .u64 o.snd.snd.fst, C.int .i64 o.snd.snd.snd]] [VV.one (V1.agg [C.rp 75 0 b 0 0, C.rp 77 0 c 0 0])] [Atom.bag y_1] ∧ ∀ (y : Nat → Option (BI KK)),
 Both u v y b c (stepS s o) ∧ Oth2 b c y_1 y → (Both u v y b c (stepS s o) ∧ (stepS s o).Ok) ∧ Into (K := KK) 0 [] [9] [VV.one (V1.agg [C.rp 75 0 b 0 0, C.rp 77 0 c 0 0])] [Atom.cells 46 (bookC false false
 B.turn B.deep [C.slc 1 0 B.o.length none, C.slc 2 0 B.t.length none, C.slc 3 0 B.w.length none, C.slc 4 0 B.n.length none, C.slc 5 0 B.f.length none, C.slc 6 0 B.m.length none, C.slc 7 0 B.d.length none,
 C.slc 8 0 B.r.length none, C.int .i64 B.seen]), Atom.arr Kd.ru8 B.o, Atom.arr Kd.ru8 B.t, Atom.arr Kd.ru8 B.w, Atom.arr Kd.ru8 B.n, Atom.arr Kd.ru8 B.f, Atom.arr Kd.int B.m, Atom.arr Kd.int B.d, Atom.arr
 Kd.int B.r, Atom.bag y, Atom.cells 63 [C.rp 75 0 b 0 0, C.rp 77 0 c 0 0], Atom.cells 66 [C.int .i64 o.fst, C.bool o.snd.fst, C.int .u64 o.snd.snd.fst, C.int .i64 o.snd.snd.snd]] [VV.one (V1.agg [C.rp 75
 0 b 0 0, C.rp 77 0 c 0 0])] [Atom.bag y] ∧ ∀ (y_2 : Nat → Option (BI KK)), Both u v y_2 b c (stepS s o) ∧ Oth2 b c y y_2 → EndsAs 10 (ct_does u v s o b c mark B φ) (boolv true) [Atom.cells 46 (bookC false
 false B.turn B.deep [C.slc 1 0 B.o.length none, C.slc 2 0 B.t.length none, C.slc 3 0 B.w.length none, C.slc 4 0 B.n.length none, C.slc 5 0 B.f.length none, C.slc 6 0 B.m.length none, C.slc 7 0 B.d.length
 none, C.slc 8 0 B.r.length none, C.int .i64 B.seen]), Atom.arr Kd.ru8 B.o, Atom.arr Kd.ru8 B.t, Atom.arr Kd.ru8 B.w, Atom.arr Kd.ru8 B.n, Atom.arr Kd.ru8 B.f, Atom.arr Kd.int B.m, Atom.arr Kd.int B.d,
 Atom.arr Kd.int B.r, Atom.bag y_2, Atom.cells 63 [C.rp 75 0 b 0 0, C.rp 77 0 c 0 0], Atom.cells 66 [C.int .i64 o.fst, C.bool o.snd.fst, C.int .u64 o.snd.snd.fst, C.int .i64 o.snd.snd.snd]]) (True ∧ EndsAs
 10 (ct_does u v s o b c mark B φ) (boolv false) [Atom.cells 46 (bookC false false B.turn B.deep [C.slc 1 0 B.o.length none, C.slc 2 0 B.t.length none, C.slc 3 0 B.w.length none, C.slc 4 0 B.n.length none,
 C.slc 5 0 B.f.length none, C.slc 6 0 B.m.length none, C.slc 7 0 B.d.length none, C.slc 8 0 B.r.length none, C.int .i64 B.seen]), Atom.arr Kd.ru8 B.o, Atom.arr Kd.ru8 B.t, Atom.arr Kd.ru8 B.w, Atom.arr
 Kd.ru8 B.n, Atom.arr Kd.ru8 B.f, Atom.arr Kd.int B.m, Atom.arr Kd.int B.d, Atom.arr Kd.int B.r, Atom.bag y_1, Atom.cells 63 [C.rp 75 0 b 0 0, C.rp 77 0 c 0 0], Atom.cells 66 [C.int .i64 o.fst, C.bool o.snd.fst,
 C.int .u64 o.snd.snd.fst, C.int .i64 o.snd.snd.snd]])) (ite2 (decide (o.fst = (3 : Int))) (True ∧ (RdP u φ b s ∧ s.Ok ∧ i64ok o.snd.snd.snd) ∧ Into (K := KK) 0 [] [9] [VV.one (V1.c (C.rp 75 0 b 0 0)),
 i64 o.snd.snd.snd] [Atom.cells 46 (bookC false false B.turn B.deep [C.slc 1 0 B.o.length none, C.slc 2 0 B.t.length none, C.slc 3 0 B.w.length none, C.slc 4 0 B.n.length none, C.slc 5 0 B.f.length none,
 C.slc 6 0 B.m.length none, C.slc 7 0 B.d.length none, C.slc 8 0 B.r.length none, C.int .i64 B.seen]), Atom.arr Kd.ru8 B.o, Atom.arr Kd.ru8 B.t, Atom.arr Kd.ru8 B.w, Atom.arr Kd.ru8 B.n, Atom.arr Kd.ru8
 B.f, Atom.arr Kd.int B.m, Atom.arr Kd.int B.d, Atom.arr Kd.int B.r, Atom.bag φ, Atom.cells 63 [C.rp 75 0 b 0 0, C.rp 77 0 c 0 0], Atom.cells 66 [C.int .i64 o.fst, C.bool o.snd.fst, C.int .u64 o.snd.snd.fst,
 C.int .i64 o.snd.snd.snd]] [VV.one (V1.c (C.rp 75 0 b 0 0)), i64 o.snd.snd.snd] [Atom.bag φ] ∧ ∀ (y : Nat → Option (BI KK)), RdP u y b (textO s o.snd.snd.snd).snd ∧ Oth b φ y → (VV.one (V1.c (C.rp 77 0
 c 0 0)) = VV.one (V1.c (C.rp 77 0 c 0 0)) ∧ i64 o.snd.snd.snd = i64 o.snd.snd.snd ∧ True) ∧ (RdR v y c s ∧ s.Ok ∧ i64ok o.snd.snd.snd) ∧ Into (K := KK) 0 [] [9] [VV.one (V1.c (C.rp 77 0 c 0 0)), i64 o.snd.snd.snd]
 [Atom.cells 46 (bookC false false B.turn B.deep [C.slc 1 0 B.o.length none, C.slc 2 0 B.t.length none, C.slc 3 0 B.w.length none, C.slc 4 0 B.n.length none, C.slc 5 0 B.f.length none, C.slc 6 0 B.m.length
 none, C.slc 7 0 B.d.length none, C.slc 8 0 B.r.length none, C.int .i64 B.seen]), Atom.arr Kd.ru8 B.o, Atom.arr Kd.ru8 B.t, Atom.arr Kd.ru8 B.w, Atom.arr Kd.ru8 B.n, Atom.arr Kd.ru8 B.f, Atom.arr Kd.int
 B.m, Atom.arr Kd.int B.d, Atom.arr Kd.int B.r, Atom.bag y, Atom.cells 63 [C.rp 75 0 b 0 0, C.rp 77 0 c 0 0], Atom.cells 66 [C.int .i64 o.fst, C.bool o.snd.fst, C.int .u64 o.snd.snd.fst, C.int .i64 o.snd.snd.snd]]
 [VV.one (V1.c (C.rp 77 0 c 0 0)), i64 o.snd.snd.snd] [Atom.bag y] ∧ ∀ (y_1 : Nat → Option (BI KK)), RdR v y_1 c (textO s o.snd.snd.snd).snd ∧ Oth c y y_1 → ite2 (decide ((textO s o.snd.snd.snd).fst.toList
 = (textO s o.snd.snd.snd).fst.toList)) (True ∧ (Both u v y_1 b c (stepS s o) ∧ (stepS s o).Ok) ∧ Into (K := KK) 0 [] [9] [VV.one (V1.agg [C.rp 75 0 b 0 0, C.rp 77 0 c 0 0])] [Atom.cells 46 (bookC false
 false B.turn B.deep [C.slc 1 0 B.o.length none, C.slc 2 0 B.t.length none, C.slc 3 0 B.w.length none, C.slc 4 0 B.n.length none, C.slc 5 0 B.f.length none, C.slc 6 0 B.m.length none, C.slc 7 0 B.d.length
 none, C.slc 8 0 B.r.length none, C.int .i64 B.seen]), Atom.arr Kd.ru8 B.o, Atom.arr Kd.ru8 B.t, Atom.arr Kd.ru8 B.w, Atom.arr Kd.ru8 B.n, Atom.arr Kd.ru8 B.f, Atom.arr Kd.int B.m, Atom.arr Kd.int B.d,
 Atom.arr Kd.int B.r, Atom.bag y_1, Atom.cells 63 [C.rp 75 0 b 0 0, C.rp 77 0 c 0 0], Atom.cells 66 [C.int .i64 o.fst, C.bool o.snd.fst, C.int .u64 o.snd.snd.fst, C.int .i64 o.snd.snd.snd]] [VV.one (V1.agg
 [C.rp 75 0 b 0 0, C.rp 77 0 c 0 0])] [Atom.bag y_1] ∧ ∀ (y : Nat → Option (BI KK)), Both u v y b c (stepS s o) ∧ Oth2 b c y_1 y → (Both u v y b c (stepS s o) ∧ (stepS s o).Ok) ∧ Into (K := KK) 0 [] [9]
 [VV.one (V1.agg [C.rp 75 0 b 0 0, C.rp 77 0 c 0 0])] [Atom.cells 46 (bookC false false B.turn B.deep [C.slc 1 0 B.o.length none, C.slc 2 0 B.t.length none, C.slc 3 0 B.w.length none, C.slc 4 0 B.n.length
 none, C.slc 5 0 B.f.length none, C.slc 6 0 B.m.length none, C.slc 7 0 B.d.length none, C.slc 8 0 B.r.length none, C.int .i64 B.seen]), Atom.arr Kd.ru8 B.o, Atom.arr Kd.ru8 B.t, Atom.arr Kd.ru8 B.w, Atom.arr
 Kd.ru8 B.n, Atom.arr Kd.ru8 B.f, Atom.arr Kd.int B.m, Atom.arr Kd.int B.d, Atom.arr Kd.int B.r, Atom.bag y, Atom.cells 63 [C.rp 75 0 b 0 0, C.rp 77 0 c 0 0], Atom.cells 66 [C.int .i64 o.fst, C.bool o.snd.fst,
 C.int .u64 o.snd.snd.fst, C.int .i64 o.snd.snd.snd]] [VV.one (V1.agg [C.rp 75 0 b 0 0, C.rp 77 0 c 0 0])] [Atom.bag y] ∧ ∀ (y_2 : Nat → Option (BI KK)), Both u v y_2 b c (stepS s o) ∧ Oth2 b c y y_2 →
 EndsAs 10 (ct_does u v s o b c mark B φ) (boolv true) [Atom.cells 46 (bookC false false B.turn B.deep [C.slc 1 0 B.o.length none, C.slc 2 0 B.t.length none, C.slc 3 0 B.w.length none, C.slc 4 0 B.n.length
 none, C.slc 5 0 B.f.length none, C.slc 6 0 B.m.length none, C.slc 7 0 B.d.length none, C.slc 8 0 B.r.length none, C.int .i64 B.seen]), Atom.arr Kd.ru8 B.o, Atom.arr Kd.ru8 B.t, Atom.arr Kd.ru8 B.w, Atom.arr
 Kd.ru8 B.n, Atom.arr Kd.ru8 B.f, Atom.arr Kd.int B.m, Atom.arr Kd.int B.d, Atom.arr Kd.int B.r, Atom.bag y_2, Atom.cells 63 [C.rp 75 0 b 0 0, C.rp 77 0 c 0 0], Atom.cells 66 [C.int .i64 o.fst, C.bool o.snd.fst,
 C.int .u64 o.snd.snd.fst, C.int .i64 o.snd.snd.snd]]) (True ∧ EndsAs 10 (ct_does u v s o b c mark B φ) (boolv false) [Atom.cells 46 (bookC false false B.turn B.deep [C.slc 1 0 B.o.length none, C.slc 2
 0 B.t.length none, C.slc 3 0 B.w.length none, C.slc 4 0 B.n.length none, C.slc 5 0 B.f.length none, C.slc 6 0 B.m.length none, C.slc 7 0 B.d.length none, C.slc 8 0 B.r.length none, C.int .i64 B.seen]),
 Atom.arr Kd.ru8 B.o, Atom.arr Kd.ru8 B.t, Atom.arr Kd.ru8 B.w, Atom.arr Kd.ru8 B.n, Atom.arr Kd.ru8 B.f, Atom.arr Kd.int B.m, Atom.arr Kd.int B.d, Atom.arr Kd.int B.r, Atom.bag y_1, Atom.cells 63 [C.rp
 75 0 b 0 0, C.rp 77 0 c 0 0], Atom.cells 66 [C.int .i64 o.fst, C.bool o.snd.fst, C.int .u64 o.snd.snd.fst, C.int .i64 o.snd.snd.snd]])) (ite2 (decide (o.fst = (4 : Int))) ((RdP u φ b s ∧ s.Ok ∧ i64ok o.snd.snd.snd)
 ∧ Into (K := KK) 0 [] [9] [VV.one (V1.c (C.rp 75 0 b 0 0)), i64 o.snd.snd.snd] [Atom.cells 46 (bookC false false B.turn B.deep [C.slc 1 0 B.o.length none, C.slc 2 0 B.t.length none, C.slc 3 0 B.w.length
 none, C.slc 4 0 B.n.length none, C.slc 5 0 B.f.length none, C.slc 6 0 B.m.length none, C.slc 7 0 B.d.length none, C.slc 8 0 B.r.length none, C.int .i64 B.seen]), Atom.arr Kd.ru8 B.o, Atom.arr Kd.ru8 B.t,
 Atom.arr Kd.ru8 B.w, Atom.arr Kd.ru8 B.n, Atom.arr Kd.ru8 B.f, Atom.arr Kd.int B.m, Atom.arr Kd.int B.d, Atom.arr Kd.int B.r, Atom.bag φ, Atom.cells 63 [C.rp 75 0 b 0 0, C.rp 77 0 c 0 0], Atom.cells 66
 [C.int .i64 o.fst, C.bool o.snd.fst, C.int .u64 o.snd.snd.fst, C.int .i64 o.snd.snd.snd]] [VV.one (V1.c (C.rp 75 0 b 0 0)), i64 o.snd.snd.snd] [Atom.bag φ] ∧ ∀ (y : RS × Bag KK), (∃ (φ1 : Bag KK), (RdP
 u φ1 b (rawO s o.snd.snd.snd).snd ∧ Oth b φ φ1) ∧ Frz φ1 Kd.u8 (rawO s o.snd.snd.snd).fst y.fst y.snd) → (RdR v y.snd c s ∧ s.Ok ∧ i64ok o.snd.snd.snd) ∧ Into (K := KK) 0 [] [9] [VV.one (V1.c (C.rp 77
 0 c 0 0)), i64 o.snd.snd.snd] [Atom.cells 46 (bookC false false B.turn B.deep [C.slc 1 0 B.o.length none, C.slc 2 0 B.t.length none, C.slc 3 0 B.w.length none, C.slc 4 0 B.n.length none, C.slc 5 0 B.f.length
 none, C.slc 6 0 B.m.length none, C.slc 7 0 B.d.length none, C.slc 8 0 B.r.length none, C.int .i64 B.seen]), Atom.arr Kd.ru8 B.o, Atom.arr Kd.ru8 B.t, Atom.arr Kd.ru8 B.w, Atom.arr Kd.ru8 B.n, Atom.arr
 Kd.ru8 B.f, Atom.arr Kd.int B.m, Atom.arr Kd.int B.d, Atom.arr Kd.int B.r, Atom.bag y.snd, Atom.cells 63 [C.rp 75 0 b 0 0, C.rp 77 0 c 0 0], Atom.cells 66 [C.int .i64 o.fst, C.bool o.snd.fst, C.int .u64
 o.snd.snd.fst, C.int .i64 o.snd.snd.snd]] [VV.one (V1.c (C.rp 77 0 c 0 0)), i64 o.snd.snd.snd] [Atom.bag y.snd] ∧ ∀ (y_1 : RS × Bag KK), (∃ (φ1 : Bag KK), (RdR v φ1 c (rawO s o.snd.snd.snd).snd ∧ Oth c
 y.snd φ1) ∧ Frz φ1 Kd.u8 (rawO s o.snd.snd.snd).fst y_1.fst y_1.snd) → (Has y_1.snd y.fst ∧ Has y_1.snd y_1.fst) ∧ Into (K := KK) 0 [] [9] [VV.one (V1.c (C.rs 5 1 y.fst)), VV.one (V1.c (C.rs 5 1 y_1.fst))]
 [Atom.cells 46 (bookC false false B.turn B.deep [C.slc 1 0 B.o.length none, C.slc 2 0 B.t.length none, C.slc 3 0 B.w.length none, C.slc 4 0 B.n.length none, C.slc 5 0 B.f.length none, C.slc 6 0 B.m.length
 none, C.slc 7 0 B.d.length none, C.slc 8 0 B.r.length none, C.int .i64 B.seen]), Atom.arr Kd.ru8 B.o, Atom.arr Kd.ru8 B.t, Atom.arr Kd.ru8 B.w, Atom.arr Kd.ru8 B.n, Atom.arr Kd.ru8 B.f, Atom.arr Kd.int
 B.m, Atom.arr Kd.int B.d, Atom.arr Kd.int B.r, Atom.bag y_1.snd, Atom.cells 63 [C.rp 75 0 b 0 0, C.rp 77 0 c 0 0], Atom.cells 66 [C.int .i64 o.fst, C.bool o.snd.fst, C.int .u64 o.snd.snd.fst, C.int .i64
 o.snd.snd.snd]] [VV.one (V1.c (C.rs 5 1 y.fst)), VV.one (V1.c (C.rs 5 1 y_1.fst))] [Atom.bag y_1.snd] ∧ ∀ (y_2 : Unit), True → ite2 (decide (cont y_1.snd y.fst = cont y_1.snd y_1.fst)) ((RestOk y_1.snd
 (BS.mk (B.turn) (B.deep) (B.o) (B.t) (B.w) (B.n) (B.f) (B.m) (B.d) (B.r) (B.seen)) ∧ Alone y_1.snd Kd.u8 1000000 (Bk.mk (B.o) (B.t) (B.w) (B.n) (B.f)) y.fst ∧ ((-1000000000000 : Int) ≤ mark ∧ mark ≤ (1000000000000
 : Int)) ∧ B.seen < (100000 : Int)) ∧ Into (K := KK) 0 [] [0, 1, 2, 3, 4, 5, 6, 7, 8, 9] [VV.one (V1.c (C.ptr 0 0 0)), VV.one (V1.c (C.rs 5 1 y.fst)), i64 mark] [Atom.cells 46 (bookC false false B.turn
 B.deep [C.slc 1 0 B.o.length none, C.slc 2 0 B.t.length none, C.slc 3 0 B.w.length none, C.slc 4 0 B.n.length none, C.slc 5 0 B.f.length none, C.slc 6 0 B.m.length none, C.slc 7 0 B.d.length none, C.slc
 8 0 B.r.length none, C.int .i64 B.seen]), Atom.arr Kd.ru8 B.o, Atom.arr Kd.ru8 B.t, Atom.arr Kd.ru8 B.w, Atom.arr Kd.ru8 B.n, Atom.arr Kd.ru8 B.f, Atom.arr Kd.int B.m, Atom.arr Kd.int B.d, Atom.arr Kd.int
 B.r, Atom.bag y_1.snd, Atom.cells 63 [C.rp 75 0 b 0 0, C.rp 77 0 c 0 0], Atom.cells 66 [C.int .i64 o.fst, C.bool o.snd.fst, C.int .u64 o.snd.snd.fst, C.int .i64 o.snd.snd.snd]] [VV.one (V1.c (C.ptr 0 0
 0)), VV.one (V1.c (C.rs 5 1 y.fst)), i64 mark] [Atom.cells 46 (bookC false false B.turn B.deep [C.slc 1 0 B.o.length none, C.slc 2 0 B.t.length none, C.slc 3 0 B.w.length none, C.slc 4 0 B.n.length none,
 C.slc 5 0 B.f.length none, C.slc 6 0 B.m.length none, C.slc 7 0 B.d.length none, C.slc 8 0 B.r.length none, C.int .i64 B.seen]), Atom.arr Kd.ru8 B.o, Atom.arr Kd.ru8 B.t, Atom.arr Kd.ru8 B.w, Atom.arr
 Kd.ru8 B.n, Atom.arr Kd.ru8 B.f, Atom.arr Kd.int B.m, Atom.arr Kd.int B.d, Atom.arr Kd.int B.r, Atom.bag y_1.snd] ∧ ∀ (y_3 : BS × Bag KK), RestOk y_3.snd y_3.fst ∧ y_3.fst.seen = B.seen + (1 : Int) ∧ StaysX
 y_1.snd (Bk.mk (B.o) (B.t) (B.w) (B.n) (B.f)) y.fst y_3.snd (Bk.mk (y_3.fst.o) (y_3.fst.t) (y_3.fst.w) (y_3.fst.n) (y_3.fst.f)) → (Both u v y_3.snd b c (stepS s o) ∧ (stepS s o).Ok) ∧ Into (K := KK) 0
 [] [9] [VV.one (V1.agg [C.rp 75 0 b 0 0, C.rp 77 0 c 0 0])] [Atom.cells 46 (bookC false false y_3.fst.turn y_3.fst.deep [C.slc 12 0 y_3.fst.o.length none, C.slc 13 0 y_3.fst.t.length none, C.slc 14 0 y_3.fst.w.length
 none, C.slc 15 0 y_3.fst.n.length none, C.slc 16 0 y_3.fst.f.length none, C.slc 17 0 y_3.fst.m.length none, C.slc 18 0 y_3.fst.d.length none, C.slc 19 0 y_3.fst.r.length none, C.int .i64 y_3.fst.seen]),
 Atom.gone, Atom.gone, Atom.gone, Atom.gone, Atom.gone, Atom.gone, Atom.gone, Atom.gone, Atom.bag y_3.snd, Atom.cells 63 [C.rp 75 0 b 0 0, C.rp 77 0 c 0 0], Atom.cells 66 [C.int .i64 o.fst, C.bool o.snd.fst,
 C.int .u64 o.snd.snd.fst, C.int .i64 o.snd.snd.snd], Atom.arr Kd.ru8 y_3.fst.o, Atom.arr Kd.ru8 y_3.fst.t, Atom.arr Kd.ru8 y_3.fst.w, Atom.arr Kd.ru8 y_3.fst.n, Atom.arr Kd.ru8 y_3.fst.f, Atom.arr Kd.int
 y_3.fst.m, Atom.arr Kd.int y_3.fst.d, Atom.arr Kd.int y_3.fst.r] [VV.one (V1.agg [C.rp 75 0 b 0 0, C.rp 77 0 c 0 0])] [Atom.bag y_3.snd] ∧ ∀ (y : Nat → Option (BI KK)), Both u v y b c (stepS s o) ∧ Oth2
 b c y_3.snd y → (Both u v y b c (stepS s o) ∧ (stepS s o).Ok) ∧ Into (K := KK) 0 [] [9] [VV.one (V1.agg [C.rp 75 0 b 0 0, C.rp 77 0 c 0 0])] [Atom.cells 46 (bookC false false y_3.fst.turn y_3.fst.deep
 [C.slc 12 0 y_3.fst.o.length none, C.slc 13 0 y_3.fst.t.length none, C.slc 14 0 y_3.fst.w.length none, C.slc 15 0 y_3.fst.n.length none, C.slc 16 0 y_3.fst.f.length none, C.slc 17 0 y_3.fst.m.length none,
 C.slc 18 0 y_3.fst.d.length none, C.slc 19 0 y_3.fst.r.length none, C.int .i64 y_3.fst.seen]), Atom.gone, Atom.gone, Atom.gone, Atom.gone, Atom.gone, Atom.gone, Atom.gone, Atom.gone, Atom.bag y, Atom.cells
 63 [C.rp 75 0 b 0 0, C.rp 77 0 c 0 0], Atom.cells 66 [C.int .i64 o.fst, C.bool o.snd.fst, C.int .u64 o.snd.snd.fst, C.int .i64 o.snd.snd.snd], Atom.arr Kd.ru8 y_3.fst.o, Atom.arr Kd.ru8 y_3.fst.t, Atom.arr
 Kd.ru8 y_3.fst.w, Atom.arr Kd.ru8 y_3.fst.n, Atom.arr Kd.ru8 y_3.fst.f, Atom.arr Kd.int y_3.fst.m, Atom.arr Kd.int y_3.fst.d, Atom.arr Kd.int y_3.fst.r] [VV.one (V1.agg [C.rp 75 0 b 0 0, C.rp 77 0 c 0
 0])] [Atom.bag y] ∧ ∀ (y_4 : Nat → Option (BI KK)), Both u v y_4 b c (stepS s o) ∧ Oth2 b c y y_4 → EndsAs 10 (ct_does u v s o b c mark B φ) (boolv true) [Atom.cells 46 (bookC false false y_3.fst.turn
 y_3.fst.deep [C.slc 12 0 y_3.fst.o.length none, C.slc 13 0 y_3.fst.t.length none, C.slc 14 0 y_3.fst.w.length none, C.slc 15 0 y_3.fst.n.length none, C.slc 16 0 y_3.fst.f.length none, C.slc 17 0 y_3.fst.m.length
 none, C.slc 18 0 y_3.fst.d.length none, C.slc 19 0 y_3.fst.r.length none, C.int .i64 y_3.fst.seen]), Atom.gone, Atom.gone, Atom.gone, Atom.gone, Atom.gone, Atom.gone, Atom.gone, Atom.gone, Atom.bag y_4,
 Atom.cells 63 [C.rp 75 0 b 0 0, C.rp 77 0 c 0 0], Atom.cells 66 [C.int .i64 o.fst, C.bool o.snd.fst, C.int .u64 o.snd.snd.fst, C.int .i64 o.snd.snd.snd], Atom.arr Kd.ru8 y_3.fst.o, Atom.arr Kd.ru8 y_3.fst.t,
 Atom.arr Kd.ru8 y_3.fst.w, Atom.arr Kd.ru8 y_3.fst.n, Atom.arr Kd.ru8 y_3.fst.f, Atom.arr Kd.int y_3.fst.m, Atom.arr Kd.int y_3.fst.d, Atom.arr Kd.int y_3.fst.r]) (EndsAs 10 (ct_does u v s o b c mark B
 φ) (boolv false) [Atom.cells 46 (bookC false false B.turn B.deep [C.slc 1 0 B.o.length none, C.slc 2 0 B.t.length none, C.slc 3 0 B.w.length none, C.slc 4 0 B.n.length none, C.slc 5 0 B.f.length none,
 C.slc 6 0 B.m.length none, C.slc 7 0 B.d.length none, C.slc 8 0 B.r.length none, C.int .i64 B.seen]), Atom.arr Kd.ru8 B.o, Atom.arr Kd.ru8 B.t, Atom.arr Kd.ru8 B.w, Atom.arr Kd.ru8 B.n, Atom.arr Kd.ru8
 B.f, Atom.arr Kd.int B.m, Atom.arr Kd.int B.d, Atom.arr Kd.int B.r, Atom.bag y_1.snd, Atom.cells 63 [C.rp 75 0 b 0 0, C.rp 77 0 c 0 0], Atom.cells 66 [C.int .i64 o.fst, C.bool o.snd.fst, C.int .u64 o.snd.snd.fst,
 C.int .i64 o.snd.snd.snd]])) (ite2 (decide (o.fst = (5 : Int))) ((RdP u φ b s ∧ s.Ok ∧ True) ∧ Into (K := KK) 0 [] [9] [VV.one (V1.c (C.rp 75 0 b 0 0))] [Atom.cells 46 (bookC false false B.turn B.deep
 [C.slc 1 0 B.o.length none, C.slc 2 0 B.t.length none, C.slc 3 0 B.w.length none, C.slc 4 0 B.n.length none, C.slc 5 0 B.f.length none, C.slc 6 0 B.m.length none, C.slc 7 0 B.d.length none, C.slc 8 0 B.r.length
 none, C.int .i64 B.seen]), Atom.arr Kd.ru8 B.o, Atom.arr Kd.ru8 B.t, Atom.arr Kd.ru8 B.w, Atom.arr Kd.ru8 B.n, Atom.arr Kd.ru8 B.f, Atom.arr Kd.int B.m, Atom.arr Kd.int B.d, Atom.arr Kd.int B.r, Atom.bag
 φ, Atom.cells 63 [C.rp 75 0 b 0 0, C.rp 77 0 c 0 0], Atom.cells 66 [C.int .i64 o.fst, C.bool o.snd.fst, C.int .u64 o.snd.snd.fst, C.int .i64 o.snd.snd.snd]] [VV.one (V1.c (C.rp 75 0 b 0 0))] [Atom.bag
 φ] ∧ ∀ (y : Nat → Option (BI KK)), RdP u y b (endO s) ∧ Oth b φ y → (RdR v y c s ∧ s.Ok ∧ True) ∧ Into (K := KK) 0 [] [9] [VV.one (V1.c (C.rp 77 0 c 0 0))] [Atom.cells 46 (bookC false false B.turn B.deep
 [C.slc 1 0 B.o.length none, C.slc 2 0 B.t.length none, C.slc 3 0 B.w.length none, C.slc 4 0 B.n.length none, C.slc 5 0 B.f.length none, C.slc 6 0 B.m.length none, C.slc 7 0 B.d.length none, C.slc 8 0 B.r.length
 none, C.int .i64 B.seen]), Atom.arr Kd.ru8 B.o, Atom.arr Kd.ru8 B.t, Atom.arr Kd.ru8 B.w, Atom.arr Kd.ru8 B.n, Atom.arr Kd.ru8 B.f, Atom.arr Kd.int B.m, Atom.arr Kd.int B.d, Atom.arr Kd.int B.r, Atom.bag
 y, Atom.cells 63 [C.rp 75 0 b 0 0, C.rp 77 0 c 0 0], Atom.cells 66 [C.int .i64 o.fst, C.bool o.snd.fst, C.int .u64 o.snd.snd.fst, C.int .i64 o.snd.snd.snd]] [VV.one (V1.c (C.rp 77 0 c 0 0))] [Atom.bag
 y] ∧ ∀ (y_1 : Nat → Option (BI KK)), RdR v y_1 c (endO s) ∧ Oth c y y_1 → (Both u v y_1 b c (stepS s o) ∧ (stepS s o).Ok) ∧ Into (K := KK) 0 [] [9] [VV.one (V1.agg [C.rp 75 0 b 0 0, C.rp 77 0 c 0 0])]
 [Atom.cells 46 (bookC false false B.turn B.deep [C.slc 1 0 B.o.length none, C.slc 2 0 B.t.length none, C.slc 3 0 B.w.length none, C.slc 4 0 B.n.length none, C.slc 5 0 B.f.length none, C.slc 6 0 B.m.length
 none, C.slc 7 0 B.d.length none, C.slc 8 0 B.r.length none, C.int .i64 B.seen]), Atom.arr Kd.ru8 B.o, Atom.arr Kd.ru8 B.t, Atom.arr Kd.ru8 B.w, Atom.arr Kd.ru8 B.n, Atom.arr Kd.ru8 B.f, Atom.arr Kd.int
 B.m, Atom.arr Kd.int B.d, Atom.arr Kd.int B.r, Atom.bag y_1, Atom.cells 63 [C.rp 75 0 b 0 0, C.rp 77 0 c 0 0], Atom.cells 66 [C.int .i64 o.fst, C.bool o.snd.fst, C.int .u64 o.snd.snd.fst, C.int .i64 o.snd.snd.snd]]
 [VV.one (V1.agg [C.rp 75 0 b 0 0, C.rp 77 0 c 0 0])] [Atom.bag y_1] ∧ ∀ (y : Nat → Option (BI KK)), Both u v y b c (stepS s o) ∧ Oth2 b c y_1 y → (Both u v y b c (stepS s o) ∧ (stepS s o).Ok) ∧ Into (K
 := KK) 0 [] [9] [VV.one (V1.agg [C.rp 75 0 b 0 0, C.rp 77 0 c 0 0])] [Atom.cells 46 (bookC false false B.turn B.deep [C.slc 1 0 B.o.length none, C.slc 2 0 B.t.length none, C.slc 3 0 B.w.length none, C.slc
 4 0 B.n.length none, C.slc 5 0 B.f.length none, C.slc 6 0 B.m.length none, C.slc 7 0 B.d.length none, C.slc 8 0 B.r.length none, C.int .i64 B.seen]), Atom.arr Kd.ru8 B.o, Atom.arr Kd.ru8 B.t, Atom.arr
 Kd.ru8 B.w, Atom.arr Kd.ru8 B.n, Atom.arr Kd.ru8 B.f, Atom.arr Kd.int B.m, Atom.arr Kd.int B.d, Atom.arr Kd.int B.r, Atom.bag y, Atom.cells 63 [C.rp 75 0 b 0 0, C.rp 77 0 c 0 0], Atom.cells 66 [C.int .i64
 o.fst, C.bool o.snd.fst, C.int .u64 o.snd.snd.fst, C.int .i64 o.snd.snd.snd]] [VV.one (V1.agg [C.rp 75 0 b 0 0, C.rp 77 0 c 0 0])] [Atom.bag y] ∧ ∀ (y_2 : Nat → Option (BI KK)), Both u v y_2 b c (stepS
 s o) ∧ Oth2 b c y y_2 → EndsAs 10 (ct_does u v s o b c mark B φ) (boolv true) [Atom.cells 46 (bookC false false B.turn B.deep [C.slc 1 0 B.o.length none, C.slc 2 0 B.t.length none, C.slc 3 0 B.w.length
 none, C.slc 4 0 B.n.length none, C.slc 5 0 B.f.length none, C.slc 6 0 B.m.length none, C.slc 7 0 B.d.length none, C.slc 8 0 B.r.length none, C.int .i64 B.seen]), Atom.arr Kd.ru8 B.o, Atom.arr Kd.ru8 B.t,
 Atom.arr Kd.ru8 B.w, Atom.arr Kd.ru8 B.n, Atom.arr Kd.ru8 B.f, Atom.arr Kd.int B.m, Atom.arr Kd.int B.d, Atom.arr Kd.int B.r, Atom.bag y_2, Atom.cells 63 [C.rp 75 0 b 0 0, C.rp 77 0 c 0 0], Atom.cells
 66 [C.int .i64 o.fst, C.bool o.snd.fst, C.int .u64 o.snd.snd.fst, C.int .i64 o.snd.snd.snd]]) ((Both u v φ b c (stepS s o) ∧ (stepS s o).Ok) ∧ Into (K := KK) 0 [] [9] [VV.one (V1.agg [C.rp 75 0 b 0 0,
 C.rp 77 0 c 0 0])] [Atom.cells 46 (bookC false false B.turn B.deep [C.slc 1 0 B.o.length none, C.slc 2 0 B.t.length none, C.slc 3 0 B.w.length none, C.slc 4 0 B.n.length none, C.slc 5 0 B.f.length none,
 C.slc 6 0 B.m.length none, C.slc 7 0 B.d.length none, C.slc 8 0 B.r.length none, C.int .i64 B.seen]), Atom.arr Kd.ru8 B.o, Atom.arr Kd.ru8 B.t, Atom.arr Kd.ru8 B.w, Atom.arr Kd.ru8 B.n, Atom.arr Kd.ru8
 B.f, Atom.arr Kd.int B.m, Atom.arr Kd.int B.d, Atom.arr Kd.int B.r, Atom.bag φ, Atom.cells 63 [C.rp 75 0 b 0 0, C.rp 77 0 c 0 0], Atom.cells 66 [C.int .i64 o.fst, C.bool o.snd.fst, C.int .u64 o.snd.snd.fst,
 C.int .i64 o.snd.snd.snd]] [VV.one (V1.agg [C.rp 75 0 b 0 0, C.rp 77 0 c 0 0])] [Atom.bag φ] ∧ ∀ (y : Nat → Option (BI KK)), Both u v y b c (stepS s o) ∧ Oth2 b c φ y → (Both u v y b c (stepS s o) ∧ (stepS
 s o).Ok) ∧ Into (K := KK) 0 [] [9] [VV.one (V1.agg [C.rp 75 0 b 0 0, C.rp 77 0 c 0 0])] [Atom.cells 46 (bookC false false B.turn B.deep [C.slc 1 0 B.o.length none, C.slc 2 0 B.t.length none, C.slc 3 0
 B.w.length none, C.slc 4 0 B.n.length none, C.slc 5 0 B.f.length none, C.slc 6 0 B.m.length none, C.slc 7 0 B.d.length none, C.slc 8 0 B.r.length none, C.int .i64 B.seen]), Atom.arr Kd.ru8 B.o, Atom.arr
 Kd.ru8 B.t, Atom.arr Kd.ru8 B.w, Atom.arr Kd.ru8 B.n, Atom.arr Kd.ru8 B.f, Atom.arr Kd.int B.m, Atom.arr Kd.int B.d, Atom.arr Kd.int B.r, Atom.bag y, Atom.cells 63 [C.rp 75 0 b 0 0, C.rp 77 0 c 0 0], Atom.cells
 66 [C.int .i64 o.fst, C.bool o.snd.fst, C.int .u64 o.snd.snd.fst, C.int .i64 o.snd.snd.snd]] [VV.one (V1.agg [C.rp 75 0 b 0 0, C.rp 77 0 c 0 0])] [Atom.bag y] ∧ ∀ (y_1 : Nat → Option (BI KK)), Both u v
 y_1 b c (stepS s o) ∧ Oth2 b c y y_1 → EndsAs 10 (ct_does u v s o b c mark B φ) (boolv true) [Atom.cells 46 (bookC false false B.turn B.deep [C.slc 1 0 B.o.length none, C.slc 2 0 B.t.length none, C.slc
 3 0 B.w.length none, C.slc 4 0 B.n.length none, C.slc 5 0 B.f.length none, C.slc 6 0 B.m.length none, C.slc 7 0 B.d.length none, C.slc 8 0 B.r.length none, C.int .i64 B.seen]), Atom.arr Kd.ru8 B.o, Atom.arr
 Kd.ru8 B.t, Atom.arr Kd.ru8 B.w, Atom.arr Kd.ru8 B.n, Atom.arr Kd.ru8 B.f, Atom.arr Kd.int B.m, Atom.arr Kd.int B.d, Atom.arr Kd.int B.r, Atom.bag y_1, Atom.cells 63 [C.rp 75 0 b 0 0, C.rp 77 0 c 0 0],
 Atom.cells 66 [C.int .i64 o.fst, C.bool o.snd.fst, C.int .u64 o.snd.snd.fst, C.int .i64 o.snd.snd.snd]])))))) := by kernel_rfl
end Go.Proofs.YtndlpbheifalhaaGreatDoor.T
end
section
namespace Go.Proofs.YtndlpbheifalhaaGreatDoor.T
open Go.Proofs.YtndlpbheifalhaaGreatDoor.E Go.Proofs.YtndlpbheifalhaaGreatDoor.V
set_option maxRecDepth 100000
set_option linter.unusedVariables false
set_option linter.unusedSimpArgs false
theorem row_box {φ : Bag KK} {kd : Kd} {x : RS} {ys : List (KK.α kd)} (h : x.row φ kd = some ys) {d : Nat} (hd : x.At d) {T : TypeId} {cs : List C} (hb : φ d = some (.box T cs)) : False := by
  cases x with
  | nil => exact hd.1 rfl
  | mk b lo len cap =>
    obtain ⟨c', xs, hφ, _⟩ := RS.row_mk h
    have e : b = d := hd.2
    subst e
    rw [hb] at hφ; cases hφ
theorem bytes_at {φ ψ : Bag KK} {x : RS} {xs : List Int} (h : Bytes φ x xs) (hk : ∀ d i, x.At d → φ d = some i → ψ d = some i) : Bytes ψ x xs := by
  obtain ⟨h1, h2, h3, h4⟩ := h
  have key : ∀ d, x.At d → ψ d = φ d := fun d hd => by
    obtain ⟨i, hi⟩ := RS.row_at h2 hd
    rw [hi]; exact hk d i hd hi
  exact ⟨RS.full_keep h1 key, RS.row_keep h2 key, h3, h4⟩
theorem RdP.keep {x : RS} {φ ψ : Bag KK} {b : Nat} {s : St} (h : RdP x φ b s) (hb : ∀ d T cs, φ d = some (.box T cs) → ψ d = some (.box T cs)) (hx : ∀ d i, x.At d → φ d = some i → ψ d = some i) : RdP x ψ b s := by
  obtain ⟨e, h1, h2, h3⟩ := h
  refine ⟨e, hb b _ _ h1, bytes_at h2 hx, ?_⟩
  cases ho : s.e with
  | none => rw [ho] at h3; exact h3
  | some q =>
    rw [ho] at h3
    obtain ⟨f, e1, hf⟩ := h3
    exact ⟨f, e1, hb f _ _ hf⟩
theorem RdR.keep {x : RS} {φ ψ : Bag KK} {b : Nat} {s : St} (h : RdR x φ b s) (hb : ∀ d T cs, φ d = some (.box T cs) → ψ d = some (.box T cs)) (hx : ∀ d i, x.At d → φ d = some i → ψ d = some i) : RdR x ψ b s :=
  ⟨hb b _ _ h.1, bytes_at h.2 hx⟩
theorem box_free {φ : Bag KK} {B : BS} (h : RestOk φ B) {d : Nat} {T : TypeId} {cs : List C} (hd : φ d = some (.box T cs)) : B.bk.Free d := fun y hy hyd => by
  obtain ⟨ys, h1⟩ := h.ok.good.has y hy
  exact row_box h1 hyd hd
theorem rest_keep {φ ψ : Bag KK} {B : BS} (h : RestOk φ B) (hk : ∀ d i, ¬ B.bk.Free d → φ d = some i → ψ d = some i) : RestOk ψ B :=
  ⟨⟨h.ok.good.keep fun y hy d hd => by
      obtain ⟨ys, h1⟩ := h.ok.good.has y hy
      obtain ⟨i, hi⟩ := RS.row_at h1 hd
      rw [hi]
      exact hk d i (fun hf => hf y hy hd) hi, trivial, h.ok.lm, h.ok.ld, h.ok.lr, h.ok.mb, h.ok.rb, h.ok.cnt, h.ok.few, h.ok.turn⟩, h.f, h.r, h.deep, h.turn⟩
theorem rest_oth2 {φ ψ : Bag KK} {B : BS} {b c : Nat} (h : RestOk φ B) {T T' : TypeId} {cs cs' : List C} (hb : φ b = some (.box T cs)) (hc : φ c = some (.box T' cs')) (ho : Oth2 b c φ ψ) : RestOk ψ B :=
  rest_keep h fun d i hf hi => ho d i (fun e => hf (by rw [e]; exact box_free h hb)) (fun e => hf (by rw [e]; exact box_free h hc)) hi
theorem DoOk.oth2 {u v : RS} {φ ψ : Bag KK} {b c : Nat} {s s' : St} {B : BS} (h : DoOk u v φ b c s B) (hb : Both u v ψ b c s') (hs : s'.Ok) (ho : Oth2 b c φ ψ) : DoOk u v ψ b c s' B := by
  obtain ⟨e, h1, _⟩ := h.both.1
  exact ⟨hb, hs, rest_oth2 h.bk h1 h.both.2.1 ho, h.fu, h.fv⟩
theorem StaysD.of {b c : Nat} {φ ψ : Bag KK} {B : BS} (ho : Oth2 b c φ ψ) : StaysD b c φ B ψ B := fun d i h1 h2 hd hf => ⟨ho d i h1 h2 hd, hf⟩
theorem StaysD.trans {b c : Nat} {φ ψ χ : Bag KK} {B C D : BS} (h : StaysD b c φ B ψ C) (k : StaysD b c ψ C χ D) : StaysD b c φ B χ D := fun d i h1 h2 hd hf => k d i h1 h2 (h d i h1 h2 hd hf).1 (h d i h1 h2 hd hf).2
theorem Ext.oth2 {φ ψ : Bag KK} (h : Ext φ ψ) (b c : Nat) : Oth2 b c φ ψ := fun d i _ _ hi => h d i hi
theorem row_oth {φ ψ : Bag KK} {kd : Kd} {x : RS} {ys : List (KK.α kd)} (h : x.row φ kd = some ys) {c : Nat} {T : TypeId} {cs : List C} (hc : φ c = some (.box T cs)) (ho : Oth c φ ψ) : x.row ψ kd = some ys :=
  RS.row_keep h fun d hd => by
    obtain ⟨i, hi⟩ := RS.row_at h hd
    rw [hi]
    exact ho d i (fun e => row_box h (e ▸ hd) hc) hi
theorem full_oth {φ ψ : Bag KK} {kd : Kd} {x : RS} {ys : List (KK.α kd)} (h0 : x.full φ kd = some ys) (h : x.row φ kd = some ys) {c : Nat} {T : TypeId} {cs : List C} (hc : φ c = some (.box T cs)) (ho : Oth c φ ψ) : x.full ψ kd = some ys :=
  RS.full_keep h0 fun d hd => by
    obtain ⟨i, hi⟩ := RS.row_at h hd
    rw [hi]
    exact ho d i (fun e => row_box h (e ▸ hd) hc) hi
/-- Both readers' Raw. -/
structure Raw2 (u v : RS) (φ : Bag KK) (b c : Nat) (s' : St) (B : BS) (xs : List Int) (l m : RS) (ψ : Bag KK) : Prop where
  both : Both u v ψ b c s'
  oth : Oth2 b c φ ψ
  cl : l.row ψ Kd.u8 = some xs
  cm : m.row ψ Kd.u8 = some xs
  alone : Alone ψ Kd.u8 1000000 B.bk l
  new : ∀ d i, d ≠ b → d ≠ c → φ d = some i → ¬ l.At d
  nb : ∀ d T cs, ψ d = some (.box T cs) → ¬ l.At d
theorem raw1 {u v : RS} {φ φ1 χ : Bag KK} {b c : Nat} {s s' : St} {xs : List Int} {l : RS} {B : BS} (h : DoOk u v φ b c s B) (h1 : RdP u φ1 b s' ∧ Oth b φ φ1) (hl : Frz φ1 Kd.u8 xs l χ) : RdP u χ b s' ∧ RdR v χ c s :=
  ⟨h1.1.ext hl.ext, (both_p h.both h1.2).ext hl.ext⟩
theorem raw2 {u v : RS} {φ φ1 χ φ2 ψ : Bag KK} {b c : Nat} {s s' : St} {xs : List Int} {l m : RS} {B : BS} (h : DoOk u v φ b c s B) (hx : xs.length ≤ 1000000) (h1 : RdP u φ1 b s' ∧ Oth b φ φ1) (hl : Frz φ1 Kd.u8 xs l χ) (h2 : RdR v φ2 c s' ∧ Oth c χ φ2) (hm : Frz φ2 Kd.u8 xs m ψ) : Raw2 u v φ b c s' B xs l m ψ := by
  have hne := h.both.ne
  obtain ⟨p1, p2⟩ := raw1 h h1 hl
  obtain ⟨w1, w2⟩ := hl.whole
  have r2 := row_oth w2 p2.1 h2.2
  have f2 := full_oth w1 w2 p2.1 h2.2
  obtain ⟨e, hb, _⟩ := h.both.1
  have hR : ∀ y ∈ B.bk.all, y.Off l := fun y hy => by
    obtain ⟨ys, k1⟩ := h.bk.ok.good.has y hy
    exact RS.off_frz (row_oth k1 hb h1.2) hl
  refine ⟨⟨(both_r p1 p2 hne h2.2).ext hm.ext, h2.1.ext hm.ext⟩, ((h1.2.fst.trans (Ext.oth2 hl.ext b c)).trans h2.2.snd).trans (Ext.oth2 hm.ext b c), RS.row_keep r2 (hm.ext.keep r2), hm.whole.2, ⟨⟨xs, RS.full_keep f2 (hm.ext.keep r2), RS.row_keep r2 (hm.ext.keep r2), hx⟩, fun y hy => (hR y hy).symm⟩, fun d i d1 d2 hd hld => ?_, fun d T cs hd hld => ?_⟩
  · have := hl.at_ d hld
    rw [h1.2 d i d1 hd] at this; cases this
  · exact row_box (RS.row_keep r2 (hm.ext.keep r2)) hld hd
theorem raw3 {u v : RS} {φ ψ χ : Bag KK} {b c : Nat} {s s' : St} {xs : List Int} {l m : RS} {B C : BS} (h : DoOk u v φ b c s B) (hs : s'.Ok) (r : Raw2 u v φ b c s' B xs l m ψ) (hC : RestOk χ C) (hk : StaysX ψ B.bk l χ C.bk) : DoOk u v χ b c s' C ∧ StaysD b c φ B χ C := by
  obtain ⟨e0, hb0, hby0, _⟩ := h.both.1
  have hby1 := h.both.2.2
  have hB := rest_oth2 h.bk hb0 h.both.2.1 r.oth
  have off : ∀ {w : RS} {ws : List Int}, w.row φ Kd.u8 = some ws → ∀ d, w.At d → ¬ l.At d := fun {w ws} hw d hd => by
    obtain ⟨i, hi⟩ := RS.row_at hw hd
    exact r.new d i (fun e => row_box hw (e ▸ hd) hb0) (fun e => row_box hw (e ▸ hd) h.both.2.1) hi
  have box : ∀ d T cs, ψ d = some (.box T cs) → χ d = some (.box T cs) := fun d T cs hd => (hk d _ hd (box_free hB hd) (r.nb d T cs hd)).1
  have ku : ∀ d i, u.At d → ψ d = some i → χ d = some i := fun d i hd hi => (hk d i hi (h.fu d hd) (off hby0.2.1 d hd)).1
  have kv : ∀ d i, v.At d → ψ d = some i → χ d = some i := fun d i hd hi => (hk d i hi (h.fv d hd) (off hby1.2.1 d hd)).1
  obtain ⟨e1, hb1, hby2, _⟩ := r.both.1
  refine ⟨⟨⟨r.both.1.keep box ku, r.both.2.keep box kv⟩, hs, hC, fun d hd => ?_, fun d hd => ?_⟩, fun d i d1 d2 hd hf => hk d i (r.oth d i d1 d2 hd) hf (r.new d i d1 d2 hd)⟩
  · obtain ⟨i, hi⟩ := RS.row_at hby2.2.1 hd
    exact (hk d i hi (h.fu d hd) (off hby0.2.1 d hd)).2
  · obtain ⟨i, hi⟩ := RS.row_at r.both.2.2.2.1 hd
    exact (hk d i hi (h.fv d hd) (off hby1.2.1 d hd)).2
end Go.Proofs.YtndlpbheifalhaaGreatDoor.T
end
section
namespace Go.Proofs.YtndlpbheifalhaaGreatDoor.T
open Go.Proofs.YtndlpbheifalhaaGreatDoor.E Go.Proofs.YtndlpbheifalhaaGreatDoor.V
set_option maxRecDepth 100000
set_option linter.unusedVariables false
set_option linter.unusedSimpArgs false
theorem rawO_len {s : St} (h : s.Ok) (n : Int) : (rawO s n).1.length ≤ 1000000 := by
  have h2 := h.few
  unfold rawO St.rest
  split
  · simp
  · split
    · simp
    · simp; omega
theorem stepS_ok {s : St} (h : s.Ok) (o : OpT) : (stepS s o).Ok := by
  unfold stepS
  split
  · exact (byteO_ok h).1
  · split
    · exact (uintO_ok h _).1
    · split
      · exact (textO_ok h _).1
      · split
        · exact (rawO_ok h _).1
        · split
          · exact (endO_ok h).1
          · exact h
theorem does_end {u v : RS} {s : St} {o : OpT} {b c : Nat} {mark : Int} {B : BS} {φ χ : Bag KK} {l1 l2 : List C} (h : DoOk u v φ b c s B) (hb : Both u v χ b c (stepS s o)) (ho : Oth2 b c φ χ) :
    EndsAs 10 (ct_does u v s o b c mark B φ) (boolv true) (bookH B ++ [.bag χ, .cells 63 l1, .cells 66 l2]) :=
  ⟨(B, χ), [], [0, 1, 2, 3, 4, 5, 6, 7, 8, 9, 1, 2, 3, 4, 5, 6, 7, 8], ⟨h.oth2 hb (stepS_ok h.ok o) ho, ⟨Int.le_refl _, by show B.seen ≤ B.seen + 1; omega⟩, .of ho⟩, by (repeat' first | exact trivial | exact rfl | apply And.intro)⟩
theorem does_ok (u v : RS) (s : St) (o : OpT) (b c : Nat) (mark : Int) (B : BS) (φ : Bag KK) : CtOk Tryz.prog 19 (ct_does u v s o b c mark B φ) := CtOk_of KK_ok (tabDo u v s o) ann0 (fn := Tryz.f19) rfl (fun _ _ => rfl) fun hn => by
  rw [vc_does]
  obtain ⟨hD, hseen, hmark, hi⟩ := hn
  have hne := hD.both.ne
  have hok := hD.ok
  have hso := stepS_ok hok o
  have p0 := hD.both.1
  have two : ∀ {y y1 : Bag KK} {s' : St}, RdP u y b s' ∧ Oth b φ y → RdR v y1 c s' ∧ Oth c y y1 → Both u v y1 b c s' ∧ Oth2 b c φ y1 := fun {y y1 s'} hy hy1 => ⟨⟨both_r hy.1 (both_p hD.both hy.2) hne hy1.2, hy1.1⟩, hy.2.fst.trans hy1.2.snd⟩
  refine ite2_decide (fun h1 => ?_) (fun h1 => ite2_decide (fun h2 => ?_) (fun h2 => ite2_decide (fun h3 => ?_) (fun h3 => ite2_decide (fun h4 => ?_) (fun h4 => ite2_decide (fun h5 => ?_) (fun h5 => ?_)))))
  · have hS : stepS s o = (byteO s).2 := by unfold stepS; rw [if_pos h1]
    refine ⟨trivial, ⟨p0, hok, trivial⟩, into_mk (by kernel_rfl) (by (repeat' first | exact trivial | exact rfl | apply And.intro)) (by (repeat' first | exact trivial | exact rfl | apply And.intro)), fun y hy => ⟨⟨rfl, trivial⟩, ⟨both_p hD.both hy.2, hok, trivial⟩, into_mk (by kernel_rfl) (by (repeat' first | exact trivial | exact rfl | apply And.intro)) (by (repeat' first | exact trivial | exact rfl | apply And.intro)), fun y1 hy1 => ite2_decide (fun _ => ?_) (fun h => absurd rfl h)⟩⟩
    obtain ⟨q1, q2⟩ := two hy hy1
    rw [← hS] at q1
    exact ⟨trivial, ⟨q1, hso⟩, into_mk (by kernel_rfl) (by (repeat' first | exact trivial | exact rfl | apply And.intro)) (by (repeat' first | exact trivial | exact rfl | apply And.intro)), fun z hz => ⟨⟨hz.1, hso⟩, into_mk (by kernel_rfl) (by (repeat' first | exact trivial | exact rfl | apply And.intro)) (by (repeat' first | exact trivial | exact rfl | apply And.intro)), fun z2 hz2 => does_end hD hz2.1 ((q2.trans hz.2).trans hz2.2)⟩⟩
  · have hS : stepS s o = (uintO s o.2.2.1).2 := by unfold stepS; rw [if_neg h1, if_pos h2]
    refine ⟨trivial, ⟨p0, hok, trivial⟩, into_mk (by kernel_rfl) (by (repeat' first | exact trivial | exact rfl | apply And.intro)) (by (repeat' first | exact trivial | exact rfl | apply And.intro)), fun y hy => ⟨⟨rfl, rfl, trivial⟩, ⟨both_p hD.both hy.2, hok, trivial⟩, into_mk (by kernel_rfl) (by (repeat' first | exact trivial | exact rfl | apply And.intro)) (by (repeat' first | exact trivial | exact rfl | apply And.intro)), fun y1 hy1 => ite2_decide (fun _ => ?_) (fun h => absurd rfl h)⟩⟩
    obtain ⟨q1, q2⟩ := two hy hy1
    rw [← hS] at q1
    exact ⟨trivial, ⟨q1, hso⟩, into_mk (by kernel_rfl) (by (repeat' first | exact trivial | exact rfl | apply And.intro)) (by (repeat' first | exact trivial | exact rfl | apply And.intro)), fun z hz => ⟨⟨hz.1, hso⟩, into_mk (by kernel_rfl) (by (repeat' first | exact trivial | exact rfl | apply And.intro)) (by (repeat' first | exact trivial | exact rfl | apply And.intro)), fun z2 hz2 => does_end hD hz2.1 ((q2.trans hz.2).trans hz2.2)⟩⟩
  · have hS : stepS s o = (textO s o.2.2.2).2 := by unfold stepS; rw [if_neg h1, if_neg h2, if_pos h3]
    refine ⟨trivial, ⟨p0, hok, hi⟩, into_mk (by kernel_rfl) (by (repeat' first | exact trivial | exact rfl | apply And.intro)) (by (repeat' first | exact trivial | exact rfl | apply And.intro)), fun y hy => ⟨⟨rfl, rfl, trivial⟩, ⟨both_p hD.both hy.2, hok, hi⟩, into_mk (by kernel_rfl) (by (repeat' first | exact trivial | exact rfl | apply And.intro)) (by (repeat' first | exact trivial | exact rfl | apply And.intro)), fun y1 hy1 => ite2_decide (fun _ => ?_) (fun h => absurd rfl h)⟩⟩
    obtain ⟨q1, q2⟩ := two hy hy1
    rw [← hS] at q1
    exact ⟨trivial, ⟨q1, hso⟩, into_mk (by kernel_rfl) (by (repeat' first | exact trivial | exact rfl | apply And.intro)) (by (repeat' first | exact trivial | exact rfl | apply And.intro)), fun z hz => ⟨⟨hz.1, hso⟩, into_mk (by kernel_rfl) (by (repeat' first | exact trivial | exact rfl | apply And.intro)) (by (repeat' first | exact trivial | exact rfl | apply And.intro)), fun z2 hz2 => does_end hD hz2.1 ((q2.trans hz.2).trans hz2.2)⟩⟩
  · have hS : stepS s o = (rawO s o.2.2.2).2 := by unfold stepS; rw [if_neg h1, if_neg h2, if_neg h3, if_pos h4]
    have hlen := rawO_len hok o.2.2.2
    refine ⟨⟨p0, hok, hi⟩, into_mk (by kernel_rfl) (by (repeat' first | exact trivial | exact rfl | apply And.intro)) (by (repeat' first | exact trivial | exact rfl | apply And.intro)), fun y hy => ?_⟩
    obtain ⟨φ1, hy1, hy2⟩ := hy
    refine ⟨⟨(raw1 hD hy1 hy2).2, hok, hi⟩, into_mk (by kernel_rfl) (by (repeat' first | exact trivial | exact rfl | apply And.intro)) (by (repeat' first | exact trivial | exact rfl | apply And.intro)), fun z hz => ?_⟩
    obtain ⟨φ2, hz1, hz2⟩ := hz
    have R := raw2 hD hlen hy1 hy2 hz1 hz2
    have e1 := cont_of R.cl
    have e2 := cont_of R.cm
    obtain ⟨e0, hb0, _⟩ := hD.both.1
    refine ⟨⟨Has.of R.cl hlen, Has.of R.cm hlen⟩, into_mk (by kernel_rfl) (by (repeat' first | exact trivial | exact rfl | apply And.intro)) (by (repeat' first | exact trivial | exact rfl | apply And.intro)), fun _ _ => ite2_decide (fun _ => ⟨⟨rest_oth2 hD.bk hb0 hD.both.2.1 R.oth, R.alone, hmark, hseen⟩, into_mk (by kernel_rfl) (by (repeat' first | exact trivial | exact rfl | apply And.intro)) (by (repeat' first | exact trivial | exact rfl | apply And.intro)), fun w hw => ?_⟩) (fun h => absurd (e1.trans e2.symm) h)⟩
    obtain ⟨w1, w2, w3⟩ := hw
    rw [← hS] at R
    obtain ⟨D, SD⟩ := raw3 hD hso R w1 w3
    refine ⟨⟨D.both, hso⟩, into_mk (by kernel_rfl) (by (repeat' first | exact trivial | exact rfl | apply And.intro)) (by (repeat' first | exact trivial | exact rfl | apply And.intro)), fun x hx => ⟨⟨hx.1, hso⟩, into_mk (by kernel_rfl) (by (repeat' first | exact trivial | exact rfl | apply And.intro)) (by (repeat' first | exact trivial | exact rfl | apply And.intro)), fun x2 hx2 => ?_⟩⟩
    have ho := hx.2.trans hx2.2
    exact ⟨(w.1, x2), [], [0, 1, 2, 3, 4, 5, 6, 7, 8, 9, 12, 13, 14, 15, 16, 17, 18, 19], ⟨D.oth2 hx2.1 hso ho, ⟨by show B.seen ≤ w.1.seen; omega, by show w.1.seen ≤ B.seen + 1; omega⟩, SD.trans (.of ho)⟩, by (repeat' first | exact trivial | exact rfl | apply And.intro)⟩
  · have hS : stepS s o = endO s := by unfold stepS; rw [if_neg h1, if_neg h2, if_neg h3, if_neg h4, if_pos h5]
    refine ⟨⟨p0, hok, trivial⟩, into_mk (by kernel_rfl) (by (repeat' first | exact trivial | exact rfl | apply And.intro)) (by (repeat' first | exact trivial | exact rfl | apply And.intro)), fun y hy => ⟨⟨both_p hD.both hy.2, hok, trivial⟩, into_mk (by kernel_rfl) (by (repeat' first | exact trivial | exact rfl | apply And.intro)) (by (repeat' first | exact trivial | exact rfl | apply And.intro)), fun y1 hy1 => ?_⟩⟩
    obtain ⟨q1, q2⟩ := two hy hy1
    rw [← hS] at q1
    exact ⟨⟨q1, hso⟩, into_mk (by kernel_rfl) (by (repeat' first | exact trivial | exact rfl | apply And.intro)) (by (repeat' first | exact trivial | exact rfl | apply And.intro)), fun z hz => ⟨⟨hz.1, hso⟩, into_mk (by kernel_rfl) (by (repeat' first | exact trivial | exact rfl | apply And.intro)) (by (repeat' first | exact trivial | exact rfl | apply And.intro)), fun z2 hz2 => does_end hD hz2.1 ((q2.trans hz.2).trans hz2.2)⟩⟩
  · have hS : stepS s o = s := by unfold stepS; rw [if_neg h1, if_neg h2, if_neg h3, if_neg h4, if_neg h5]
    have q1 := hD.both
    rw [← hS] at q1
    exact ⟨⟨q1, hso⟩, into_mk (by kernel_rfl) (by (repeat' first | exact trivial | exact rfl | apply And.intro)) (by (repeat' first | exact trivial | exact rfl | apply And.intro)), fun z hz => ⟨⟨hz.1, hso⟩, into_mk (by kernel_rfl) (by (repeat' first | exact trivial | exact rfl | apply And.intro)) (by (repeat' first | exact trivial | exact rfl | apply And.intro)), fun z2 hz2 => does_end hD hz2.1 (hz.2.trans hz2.2)⟩⟩
end Go.Proofs.YtndlpbheifalhaaGreatDoor.T
end
section
namespace Go.Proofs.YtndlpbheifalhaaGreatDoor.T
open Go.Proofs.YtndlpbheifalhaaGreatDoor.E Go.Proofs.YtndlpbheifalhaaGreatDoor.V
set_option maxRecDepth 100000
set_option linter.unusedVariables false
set_option linter.unusedSimpArgs false
def DoE (φ : Bag KK) (b c : Nat) (B : BS) : Prop := ∃ u v s, DoOk u v φ b c s B
def ct_doesE (o : OpT) (b c : Nat) (mark : Int) (B : BS) (φ : Bag KK) : Ct KK := { need := DoE φ b c B ∧ B.seen < 100000 ∧ (-1000000000000 ≤ mark ∧ mark ≤ 1000000000000) ∧ i64ok o.2.2.2, pre := bookH B ++ [.bag φ], args := [pairV b c, .c (.ptr 0 0 0), opV o, i64 mark], Y := BS × Bag KK, ok := fun z => DoE z.2 b c z.1 ∧ (B.seen ≤ z.1.seen ∧ z.1.seen ≤ B.seen + 1) ∧ StaysD b c φ B z.2 z.1, ret := fun _ => boolv true, post := fun z => bookM z.1 z.2 }
theorem doesE_ok (o : OpT) (b c : Nat) (mark : Int) (B : BS) (φ : Bag KK) : CtOk Tryz.prog 19 (ct_doesE o b c mark B φ) := by
  refine CtOk.some (ι := RS × RS × St) (p := fun i => DoOk i.1 i.2.1 φ b c i.2.2 B) (fun _ _ => rfl) (fun ⟨⟨u, v, s, h⟩, _⟩ => ⟨(u, v, s), h⟩) ?_
  rintro ⟨u, v, s⟩ h
  refine (does_ok u v s o b c mark B φ).less rfl rfl (fun hn => ⟨h, hn.2⟩) (fun _ z hz => ⟨z, ⟨⟨u, v, _, hz.1⟩, hz.2⟩, rfl, rfl⟩)
def ct_standsE (b c : Nat) (B : BS) (φ : Bag KK) : Ct KK := { need := DoE φ b c B, pre := [.bag φ], args := [pairV b c], Y := Bag KK, ok := fun ψ => DoE ψ b c B ∧ Oth2 b c φ ψ, ret := fun _ => boolv true, post := fun ψ => [.bag ψ] }
theorem standsE_ok (b c : Nat) (B : BS) (φ : Bag KK) : CtOk Tryz.prog 18 (ct_standsE b c B φ) := by
  refine CtOk.some (ι := RS × RS × St) (p := fun i => DoOk i.1 i.2.1 φ b c i.2.2 B) (fun _ _ => rfl) (fun ⟨u, v, s, h⟩ => ⟨(u, v, s), h⟩) ?_
  rintro ⟨u, v, s⟩ h
  refine (stands_ok u v s b c φ).less rfl rfl (fun hn => ⟨h.both, h.ok⟩) (fun _ z hz => ⟨z, ⟨⟨u, v, s, h.oth2 hz.1 h.ok hz.2⟩, hz.2⟩, rfl, rfl⟩)
theorem box_ne {φ : Bag KK} {b d : Nat} {T T' : TypeId} {cs cs' : List C} (hT : T ≠ T') (hb : φ b = some (.box T cs)) (hd : φ d = some (.box T' cs')) : d ≠ b := fun e => by
  subst e
  rw [hb] at hd
  injection hd with hd
  injection hd with hd
  exact hT hd
theorem DoE.other {φ ψ : Bag KK} {b c b' c' : Nat} {B C : BS} (h : DoE φ b' c' B) (h0 : DoE φ b c B) (nb : b' ≠ b) (nc : c' ≠ c) (hC : RestOk ψ C) (k : StaysD b c φ B ψ C) : DoE ψ b' c' C := by
  obtain ⟨u, v, s, h⟩ := h
  obtain ⟨u0, v0, s0, h0⟩ := h0
  obtain ⟨e0, hb, _⟩ := h0.both.1
  have hc := h0.both.2.1
  obtain ⟨e, q1, q2, q3⟩ := h.both.1
  obtain ⟨r1, r2⟩ := h.both.2
  have row : ∀ {w : RS} {ws : List Int}, w.row φ Kd.u8 = some ws → (∀ d, w.At d → B.bk.Free d) → ∀ d i, w.At d → φ d = some i → ψ d = some i ∧ C.bk.Free d := fun hw hf d i hd hi => k d i (fun e => row_box hw (e ▸ hd) hb) (fun e => row_box hw (e ▸ hd) hc) hi (hf d hd)
  have keep : ∀ d T cs, d ≠ b → d ≠ c → φ d = some (.box T cs) → ψ d = some (.box T cs) := fun d T cs d1 d2 hd => (k d _ d1 d2 hd (box_free h.bk hd)).1
  refine ⟨u, v, s, ⟨⟨⟨e, ?_, bytes_at q2 (fun d i hd hi => (row q2.2.1 h.fu d i hd hi).1), ?_⟩, ?_, bytes_at r2 (fun d i hd hi => (row r2.2.1 h.fv d i hd hi).1)⟩, h.ok, hC, fun d hd => ?_, fun d hd => ?_⟩⟩
  · exact keep b' _ _ nb (box_ne (by decide) hc q1) q1
  · cases ho : s.e with
    | none => rw [ho] at q3; exact q3
    | some q =>
      rw [ho] at q3
      obtain ⟨f, e1, hf⟩ := q3
      exact ⟨f, e1, keep f _ _ (box_ne (by decide) hb hf) (box_ne (by decide) hc hf) hf⟩
  · exact keep c' _ _ (box_ne (by decide) hb r1) nc r1
  · obtain ⟨i, hi⟩ := RS.row_at q2.2.1 hd
    exact (row q2.2.1 h.fu d i hd hi).2
  · obtain ⟨i, hi⟩ := RS.row_at r2.2.1 hd
    exact (row r2.2.1 h.fv d i hd hi).2
theorem DoE.ext {φ ψ : Bag KK} {b c : Nat} {B : BS} (h : DoE φ b c B) (he : Ext φ ψ) : DoE ψ b c B := by
  obtain ⟨u, v, s, h⟩ := h
  exact ⟨u, v, s, h.oth2 ⟨h.both.1.ext he, h.both.2.ext he⟩ h.ok (Ext.oth2 he b c)⟩
theorem rest_ext {φ ψ : Bag KK} {B : BS} (h : RestOk φ B) (he : Ext φ ψ) : RestOk ψ B := rest_keep h fun d i _ hi => he d i hi
theorem new_pair {φ ψ1 ψ2 : Bag KK} {xs : List Int} {x y : RS} {b c : Nat} {B : BS} (hB : RestOk φ B) (hl : xs.length ≤ 1000000) (hx : ∀ n ∈ xs, 0 ≤ n ∧ n < 256) (h1 : New φ xs (x, b) ψ1) (h2 : New (bput ψ1 b (readI x 0 .nilp)) xs (y, c) ψ2) :
    DoE (bput ψ2 c (refI y 0 0 0)) b c B ∧ Ext φ (bput ψ2 c (refI y 0 0 0)) ∧ φ b = none ∧ φ c = none := by
  obtain ⟨f1, n1⟩ := h1
  obtain ⟨f2, n2⟩ := h2
  have n1 : ψ1 b = none := n1
  have n2 : ψ2 c = none := n2
  have x1 : Ext φ ψ1 := f1.ext
  have x2 : Ext ψ1 (bput ψ1 b (readI x 0 .nilp)) := ext_bput n1
  have x3 : Ext (bput ψ1 b (readI x 0 .nilp)) ψ2 := f2.ext
  have x4 : Ext ψ2 (bput ψ2 c (refI y 0 0 0)) := ext_bput n2
  have none_of : ∀ {φ ψ : Bag KK} {d : Nat}, Ext φ ψ → ψ d = none → φ d = none := fun {φ ψ d} he hd => by
    cases hq : φ d with
    | none => rfl
    | some i => rw [he d i hq] at hd; cases hd
  have free : ∀ d, φ d = none → B.bk.Free d := fun d hd z hz hzd => by
    obtain ⟨zs, k1⟩ := hB.ok.good.has z hz
    obtain ⟨i, hi⟩ := RS.row_at k1 hzd
    rw [hd] at hi; cases hi
  have by1 : Bytes ψ1 x xs := ⟨f1.whole.1, f1.whole.2, hl, hx⟩
  have by2 : Bytes ψ2 y xs := ⟨f2.whole.1, f2.whole.2, hl, hx⟩
  have xa := (x2.trans x3).trans x4
  have all := x1.trans xa
  refine ⟨⟨x, y, ⟨xs, 0, none⟩, ⟨⟨⟨.nilp, (x3.trans x4) b _ bput_same, bytes_at by1 fun d i _ hi => xa d i hi, rfl⟩, bput_same, bytes_at by2 fun d i _ hi => x4 d i hi⟩, ⟨Nat.zero_le _, hl, hx, fun q hq => by cases hq⟩, rest_ext hB all, fun d hd => free d (f1.at_ d hd), fun d hd => free d (none_of (x1.trans x2) (f2.at_ d hd))⟩⟩, all, none_of x1 n1, none_of ((x1.trans x2).trans x3) n2⟩
/-- All pairs of readers stand, each of its own. -/
structure AllE (φ : Bag KK) (ps : List (Nat × Nat)) (B : BS) : Prop where
  bk : RestOk φ B
  each : ∀ k, k < ps.length → DoE φ (rd ps k (0, 0)).1 (rd ps k (0, 0)).2 B
  own : ∀ j k, j < ps.length → k < ps.length → j ≠ k → (rd ps j (0, 0)).1 ≠ (rd ps k (0, 0)).1 ∧ (rd ps j (0, 0)).2 ≠ (rd ps k (0, 0)).2
theorem AllE.step {φ ψ : Bag KK} {ps : List (Nat × Nat)} {B C : BS} (h : AllE φ ps B) {k : Nat} (hk : k < ps.length) (hd : DoE ψ (rd ps k (0, 0)).1 (rd ps k (0, 0)).2 C) (st : StaysD (rd ps k (0, 0)).1 (rd ps k (0, 0)).2 φ B ψ C) : AllE ψ ps C := by
  have hC : RestOk ψ C := by
    obtain ⟨u, v, s, h1⟩ := hd
    exact h1.bk
  refine ⟨hC, fun j hj => ?_, h.own⟩
  by_cases e : j = k
  · subst e; exact hd
  · exact (h.each j hj).other (h.each k hk) (h.own j k hj hk e).1 (h.own j k hj hk e).2 hC st
theorem rd_snoc {ps : List (Nat × Nat)} {q : Nat × Nat} : rd (ps ++ [q]) ps.length (0, 0) = q := by simp [rd]
theorem rd_left {ps : List (Nat × Nat)} {q : Nat × Nat} {k : Nat} (hk : k < ps.length) : rd (ps ++ [q]) k (0, 0) = rd ps k (0, 0) := by
  simp [rd, List.getD_eq_getElem?_getD, List.getElem?_append_left hk]
theorem AllE.snoc {φ ψ : Bag KK} {ps : List (Nat × Nat)} {B : BS} {b c : Nat} (h : AllE φ ps B) (hd : DoE ψ b c B) (he : Ext φ ψ) (hb : φ b = none) (hc : φ c = none) : AllE ψ (ps ++ [(b, c)]) B := by
  have ne : ∀ k, k < ps.length → (rd ps k (0, 0)).1 ≠ b ∧ (rd ps k (0, 0)).2 ≠ c := fun k hk => by
    obtain ⟨u, v, s, h1⟩ := h.each k hk
    obtain ⟨e, q1, _⟩ := h1.both.1
    have q2 := h1.both.2.1
    exact ⟨(fun e => by rw [e, hb] at q1; cases q1), (fun e => by rw [e, hc] at q2; cases q2)⟩
  refine ⟨rest_ext h.bk he, fun k hk => ?_, fun j k hj hk hjk => ?_⟩
  · by_cases e : k < ps.length
    · rw [rd_left e]; exact (h.each k e).ext he
    · have : k = ps.length := by simp at hk; omega
      subst this
      rw [rd_snoc]; exact hd
  · by_cases ej : j < ps.length
    · rw [rd_left ej]
      by_cases ek : k < ps.length
      · rw [rd_left ek]; exact h.own j k ej ek hjk
      · have : k = ps.length := by simp at hk; omega
        subst this
        rw [rd_snoc]; exact ne j ej
    · have : j = ps.length := by simp at hj; omega
      subst this
      have ek : k < ps.length := by simp at hk; omega
      rw [rd_snoc, rd_left ek]
      exact ⟨fun e => (ne k ek).1 e.symm, fun e => (ne k ek).2 e.symm⟩
end Go.Proofs.YtndlpbheifalhaaGreatDoor.T
end
section
namespace Go.Proofs.YtndlpbheifalhaaGreatDoor.T
open Go.Proofs.YtndlpbheifalhaaGreatDoor.E Go.Proofs.YtndlpbheifalhaaGreatDoor.V
set_option maxRecDepth 100000
set_option linter.unusedVariables false
set_option linter.unusedSimpArgs false
def ct_many (l : List Int) (n : Int) (sc : List OpT) (φ : Bag KK) : Ct KK := { need := (∀ x ∈ l, 0 ≤ x ∧ x < 256) ∧ (∀ o ∈ sc, i64ok o.2.2.2), pre := [.ro .u8 l, .ro .op sc, .bag φ], args := [.c (.slc 0 0 l.length none), i64 n, .c (.slc 1 0 sc.length none)], Y := Bag KK, ok := fun _ => True, ret := fun _ => boolv true, post := fun ψ => [.gone, .gone, .bag ψ] }
def B0 : BS := ⟨0, 0, [], [], [], [], [], [], [], [], 0⟩
def manyH0 (l : List Int) (sc : List OpT) (ps : List (Nat × Nat)) (φ : Bag KK) : VH KK := [.ro .u8 l, .ro .op sc, .bag φ, .cells 46 (bookC false false 0 0 [.nils, .nils, .nils, .nils, .nils, .nils, .nils, .nils, .int .i64 0]), .arr .pair ps]
def manyH (l : List Int) (sc : List OpT) (ps : List (Nat × Nat)) (B : BS) (φ : Bag KK) : VH KK := [.ro .u8 l, .ro .op sc, .bag φ, .cells 46 (bookC false false B.turn B.deep [.slc 5 0 B.o.length none, .slc 6 0 B.t.length none, .slc 7 0 B.w.length none, .slc 8 0 B.n.length none, .slc 9 0 B.f.length none, .slc 10 0 B.m.length none, .slc 11 0 B.d.length none, .slc 12 0 B.r.length none, .int .i64 B.seen]), .arr .pair ps, .arr .ru8 B.o, .arr .ru8 B.t, .arr .ru8 B.w, .arr .ru8 B.n, .arr .ru8 B.f, .arr .int B.m, .arr .int B.d, .arr .int B.r]
def manyFr (l : List Int) (n : Int) (sc : List OpT) (ps : List (Nat × Nat)) (vs : List VV) (k : Nat) : List VV := [.c (.slc 0 0 l.length none), i64 n, .c (.slc 1 0 sc.length none), .any, .any, .any, .any, .c (.ptr 3 0 0), .c (.slc 4 0 ps.length none)] ++ (vs ++ anys k)
def inv_many1 (l : List Int) (n : Int) (sc : List OpT) : Inv KK := { X := Nat × List (Nat × Nat) × Bag KK, fr := fun z => manyFr l n sc z.2.1 [i64 z.1] (106 - 10), H := fun z => manyH0 l sc z.2.1 z.2.2, ok := fun z => (z.1 : Int) ≤ n ∧ z.2.1.length = z.1 ∧ AllE z.2.2 z.2.1 B0, meas := fun z => (n - z.1).toNat }
def inv_many2 (l : List Int) (n : Int) (sc : List OpT) (ps : List (Nat × Nat)) : Inv KK := { X := Nat × BS × Bag KK, fr := fun z => manyFr l n sc ps [.any, .any, i64 z.1] (106 - 12), H := fun z => manyH l sc ps z.2.1 z.2.2, ok := fun z => z.1 ≤ sc.length ∧ z.2.1.seen ≤ 20 * z.1 ∧ AllE z.2.2 ps z.2.1, meas := fun z => sc.length - z.1 }
def inv_many3 (l : List Int) (n : Int) (sc : List OpT) (ps : List (Nat × Nat)) (i : Int) : Inv KK := { X := Nat × BS × Bag KK, fr := fun z => manyFr l n sc ps [.any, .any, i64 i, i64 z.1] (106 - 13), H := fun z => manyH l sc ps z.2.1 z.2.2, ok := fun z => (z.1 : Int) ≤ n ∧ z.2.1.seen ≤ 20 * i + z.1 ∧ AllE z.2.2 ps z.2.1, meas := fun z => (n - z.1).toNat }
def inv_many4 (l : List Int) (n : Int) (sc : List OpT) (ps : List (Nat × Nat)) (B : BS) : Inv KK := { X := Nat × Bag KK, fr := fun z => manyFr l n sc ps [.any, .any, .any, .any, .any, i64 z.1] (106 - 15), H := fun z => manyH l sc ps B z.2, ok := fun z => (z.1 : Int) ≤ n ∧ AllE z.2 ps B, meas := fun z => (n - z.1).toNat }
def pairsAt (H : VH KK) : List (Nat × Nat) := match at_ H 4 with
  | .arr .pair ps => ps
  | _ => []
def intAt (fr : List VV) (k : Nat) : Int := match fr.getD k .any with
  | .one (.c (.int _ i)) => i
  | _ => 0
def loop_many (l : List Int) (n : Int) (sc : List OpT) (id : Nat) (fr : List VV) (H : VH KK) : Option (Inv KK) := match id with
  | 6 => some (inv_many1 l n sc)
  | 13 => some (inv_many2 l n sc (pairsAt H))
  | 16 => some (inv_many3 l n sc (pairsAt H) (intAt fr 11))
  | 22 => match bookAt 3 H with
    | some (B, _) => some (inv_many4 l n sc (pairsAt H) B)
    | none => none
  | _ => none
def ann_many (l : List Int) (n : Int) (sc : List OpT) : Ann KK := { loop := fun id fr H => loop_many l n sc id fr H, cut := fun _ _ _ => none, keep := some 15 }
def pickMany (f : FuncId) (args : List VV) (H : VH KK) : Option (Ct KK × List Kd × List Nat) := match at_ H 2 with
  | .bag φ => match f, args with
    | 16, [.one (.c (.slc m o k _))] => match at_ H m with
      | .ro .u8 l => some (ct_read o k l φ, [], [2, m])
      | _ => none
    | 17, [.one (.c (.slc m o k _))] => match at_ H m with
      | .ro .u8 l => some (ct_xread o k l φ, [], [2, m])
      | _ => none
    | 19, [.one (.agg [.rp _ _ b _ _, .rp _ _ c _ _]), .one (.c (.ptr q _ _)), .one (.agg [.int _ a1, .bool a2, .int _ a3, .int _ a4]), .one (.c (.int _ mark))] => match bookAt q H with
      | some (B, τ) => some (ct_doesE (a1, a2, a3, a4) b c mark B φ, [], τ ++ [2])
      | none => none
    | 18, [.one (.agg [.rp _ _ b _ _, .rp _ _ c _ _])] => match bookAt 3 H with
      | some (B, _) => some (ct_standsE b c B φ, [], [2])
      | none => none
    | 15, [.one (.c (.ptr q _ _))] => match bookAt q H with
      | some (B, τ) => some (ct_bHold B φ, [], τ ++ [2])
      | none => none
    | _, _ => none
  | _ => none
theorem pickMany_ok {f : FuncId} {args : List VV} {H : VH KK} {ct ks τ} (h : pickMany f args H = some (ct, ks, τ)) : CtOk Tryz.prog f ct := by
  unfold pickMany at h
  split at h
  · split at h
    · split at h
      · cases h; exact read_ok _ _ _ _
      · cases h
    · split at h
      · cases h; exact xread_ok _ _ _ _
      · cases h
    · split at h
      · cases h; exact doesE_ok _ _ _ _ _ _
      · cases h
    · split at h
      · cases h; exact standsE_ok _ _ _ _
      · cases h
    · split at h
      · cases h; exact bHold_ok _ _
      · cases h
    · cases h
  · cases h
def tabMany : Tab Tryz.prog KK := ⟨mixed, pickMany, fun _ _ _ _ _ _ h => pickMany_ok h⟩
theorem vc_many (l : List Int) (n : Int) (sc : List OpT) (φ : Bag KK) : evFn tabMany (ann_many l n sc) Tryz.f5 (ct_many l n sc φ) = ( ite2 (decide ((4096 : Int) < (↑l.length : Int))) (EndsAs 3 (ct_many l n sc φ) (boolv true) [Atom.ro Kd.u8 l, Atom.ro Kd.op sc, Atom.bag φ]) (ite2 (decide ((60 : Int) < (↑sc.length : Int))) (EndsAs 3 (ct_many
 l n sc φ) (boolv true) [Atom.ro Kd.u8 l, Atom.ro Kd.op sc, Atom.bag φ]) (ite2 (decide (n < (2 : Int))) (EndsAs 3 (ct_many l n sc φ) (boolv true) [Atom.ro Kd.u8 l, Atom.ro Kd.op sc, Atom.bag φ]) (ite2 (decide
 ((20 : Int) < n)) (EndsAs 3 (ct_many l n sc φ) (boolv true) [Atom.ro Kd.u8 l, Atom.ro Kd.op sc, Atom.bag φ]) (Enter 3 (inv_many1 l n sc) (fun (x : Nat × List (Nat × Nat) × Bag KK) => True) ([VV.one (V1.c
 (C.slc 0 0 l.length none)), i64 n, VV.one (V1.c (C.slc 1 0 sc.length none)), VV.any, VV.any, VV.any, boolv false, VV.one (V1.c (C.ptr 3 0 0)), VV.one (V1.c C.nils), i64 (0 : Int)] ++ anys 96) [Atom.ro
 Kd.u8 l, Atom.ro Kd.op sc, Atom.bag φ, Atom.cells 46 (bookC false false (0 : Int) (0 : Int) [C.nils, C.nils, C.nils, C.nils, C.nils, C.nils, C.nils, C.nils, C.int .i64 (0 : Int)])] ∧ ∀ (z : Nat × List
 (Nat × Nat) × Bag KK), (↑z.fst : Int) ≤ n ∧ z.snd.fst.length = z.fst ∧ AllE z.snd.snd z.snd.fst B0 → ite2 (decide ((↑z.fst : Int) < n)) (((0 : Int) ≤ min (↑z.fst : Int) (↑l.length : Int) ∧ min (↑z.fst
 : Int) (↑l.length : Int) ≤ (↑l.length : Int)) ∧ (0 : Int) + (↑l.length : Int) ≤ (↑l.length : Int) ∧ ((0 : Int) ≤ min (↑z.fst : Int) (↑l.length : Int) ∧ min (↑z.fst : Int) (↑l.length : Int) ≤ (↑l.length
 : Int)) ∧ (0 : Int) + (↑l.length : Int) ≤ (↑l.length : Int) ∧ True ∧ (0 + (min (↑z.fst : Int) (↑l.length : Int)).toNat + ((↑l.length : Int) - min (↑z.fst : Int) (↑l.length : Int)).toNat = l.length ∧ l.length
 ≤ 1000000) ∧ Into (K := KK) 0 [] [2, 0] [VV.one (V1.c (C.slc 0 (0 + (min (↑z.fst : Int) (↑l.length : Int)).toNat) ((↑l.length : Int) - min (↑z.fst : Int) (↑l.length : Int)).toNat none))] [Atom.ro Kd.u8
 l, Atom.ro Kd.op sc, Atom.bag z.snd.snd, Atom.cells 46 (bookC false false (0 : Int) (0 : Int) [C.nils, C.nils, C.nils, C.nils, C.nils, C.nils, C.nils, C.nils, C.int .i64 (0 : Int)]), Atom.arr Kd.pair z.snd.fst,
 Atom.gone] [VV.one (V1.c (C.slc 1 (0 + (min (↑z.fst : Int) (↑l.length : Int)).toNat) ((↑l.length : Int) - min (↑z.fst : Int) (↑l.length : Int)).toNat none))] [Atom.bag z.snd.snd, Atom.ro Kd.u8 l] ∧ ∀ (y
 : RS × Nat × Bag KK), New z.snd.snd (List.drop (0 + (min (↑z.fst : Int) (↑l.length : Int)).toNat) l) (y.fst, y.snd.fst) y.snd.snd → ((((0 : Int) ≤ min (↑z.fst : Int) (↑l.length : Int) ∧ min (↑z.fst : Int)
 (↑l.length : Int) ≤ (↑l.length : Int)) ∧ (0 : Int) + (↑l.length : Int) ≤ (↑l.length : Int) ∧ VV.one (V1.c (C.slc 0 (0 + (min (↑z.fst : Int) (↑l.length : Int)).toNat) ((↑l.length : Int) - min (↑z.fst :
 Int) (↑l.length : Int)).toNat none)) = VV.one (V1.c (C.slc 0 (0 + (min (↑z.fst : Int) (↑l.length : Int)).toNat) ((↑l.length : Int) - min (↑z.fst : Int) (↑l.length : Int)).toNat none))) ∧ True) ∧ (0 + (min
 (↑z.fst : Int) (↑l.length : Int)).toNat + ((↑l.length : Int) - min (↑z.fst : Int) (↑l.length : Int)).toNat = l.length ∧ l.length ≤ 1000000) ∧ Into (K := KK) 0 [] [2, 0] [VV.one (V1.c (C.slc 0 (0 + (min
 (↑z.fst : Int) (↑l.length : Int)).toNat) ((↑l.length : Int) - min (↑z.fst : Int) (↑l.length : Int)).toNat none))] [Atom.ro Kd.u8 l, Atom.ro Kd.op sc, Atom.bag (bput y.snd.snd y.snd.fst (BI.box 75 [C.rs
 5 1 y.fst, C.int .i64 (0 : Int), C.nilp])), Atom.cells 46 (bookC false false (0 : Int) (0 : Int) [C.nils, C.nils, C.nils, C.nils, C.nils, C.nils, C.nils, C.nils, C.int .i64 (0 : Int)]), Atom.arr Kd.pair
 z.snd.fst, Atom.gone] [VV.one (V1.c (C.slc 1 (0 + (min (↑z.fst : Int) (↑l.length : Int)).toNat) ((↑l.length : Int) - min (↑z.fst : Int) (↑l.length : Int)).toNat none))] [Atom.bag (bput y.snd.snd y.snd.fst
 (BI.box 75 [C.rs 5 1 y.fst, C.int .i64 (0 : Int), C.nilp])), Atom.ro Kd.u8 l] ∧ ∀ (y_1 : RS × Nat × Bag KK), New (bput y.snd.snd y.snd.fst (BI.box 75 [C.rs 5 1 y.fst, C.int .i64 (0 : Int), C.nilp])) (List.drop
 (0 + (min (↑z.fst : Int) (↑l.length : Int)).toNat) l) (y_1.fst, y_1.snd.fst) y_1.snd.snd → True ∧ True ∧ z.snd.fst.length = z.snd.fst.length ∧ (1 ≤ 1 ∧ True) ∧ (z.snd.fst.length + 1) * 16 ≤ 140737488355328
 ∧ i64ok ((↑z.fst : Int) + (1 : Int)) ∧ Enter 3 (inv_many1 l n sc) (fun (z' : Nat × List (Nat × Nat) × Bag KK) => (n - (↑z'.fst : Int)).toNat < (n - (↑z.fst : Int)).toNat) ([VV.one (V1.c (C.slc 0 0 l.length
 none)), i64 n, VV.one (V1.c (C.slc 1 0 sc.length none)), VV.any, VV.any, VV.any, VV.any, VV.one (V1.c (C.ptr 3 0 0)), VV.one (V1.c (C.slc 7 0 (z.snd.fst.length + 1) none)), i64 ((↑z.fst : Int) + (1 : Int)),
 VV.one (V1.c (C.ptr 5 0 0))] ++ anys 95) [Atom.ro Kd.u8 l, Atom.ro Kd.op sc, Atom.bag (bput y_1.snd.snd y_1.snd.fst (BI.box 77 [C.rs 5 1 y_1.fst, C.int .i64 (0 : Int), C.int .i64 (0 : Int), C.int .i64
 (0 : Int)])), Atom.cells 46 (bookC false false (0 : Int) (0 : Int) [C.nils, C.nils, C.nils, C.nils, C.nils, C.nils, C.nils, C.nils, C.int .i64 (0 : Int)]), Atom.gone, Atom.cells 63 [C.rp 75 0 y.snd.fst
 0 0, C.rp 77 0 y_1.snd.fst 0 0], Atom.arr Kd.pair [(y.snd.fst, y_1.snd.fst)], Atom.arr Kd.pair (z.snd.fst ++ [(y.snd.fst, y_1.snd.fst)])]) (Enter 3 (inv_many2 l n sc (pairsAt [Atom.ro Kd.u8 l, Atom.ro
 Kd.op sc, Atom.bag z.snd.snd, Atom.cells 46 (bookC false false (0 : Int) (0 : Int) [C.nils, C.nils, C.nils, C.nils, C.nils, C.nils, C.nils, C.nils, C.int .i64 (0 : Int)]), Atom.arr Kd.pair z.snd.fst]))
 (fun (x : Nat × BS × Bag KK) => True) ([VV.one (V1.c (C.slc 0 0 l.length none)), i64 n, VV.one (V1.c (C.slc 1 0 sc.length none)), VV.any, VV.any, VV.any, VV.any, VV.one (V1.c (C.ptr 3 0 0)), VV.one (V1.c
 (C.slc 4 0 z.snd.fst.length none)), i64 (↑z.fst : Int), VV.any, i64 (0 : Int)] ++ anys 94) [Atom.ro Kd.u8 l, Atom.ro Kd.op sc, Atom.bag z.snd.snd, Atom.cells 46 (bookC false false (0 : Int) (0 : Int) [C.nils,
 C.nils, C.nils, C.nils, C.nils, C.nils, C.nils, C.nils, C.int .i64 (0 : Int)]), Atom.arr Kd.pair z.snd.fst] ∧ ∀ (z_1 : Nat × BS × Bag KK), z_1.fst ≤ sc.length ∧ z_1.snd.fst.seen ≤ (20 : Int) * (↑z_1.fst
 : Int) ∧ AllE z_1.snd.snd z.snd.fst z_1.snd.fst → ite2 (decide ((↑z_1.fst : Int) < (↑sc.length : Int))) (Enter 3 (inv_many3 l n sc (pairsAt [Atom.ro Kd.u8 l, Atom.ro Kd.op sc, Atom.bag z_1.snd.snd, Atom.cells
 46 (bookC false false z_1.snd.fst.turn z_1.snd.fst.deep [C.slc 5 0 z_1.snd.fst.o.length none, C.slc 6 0 z_1.snd.fst.t.length none, C.slc 7 0 z_1.snd.fst.w.length none, C.slc 8 0 z_1.snd.fst.n.length none,
 C.slc 9 0 z_1.snd.fst.f.length none, C.slc 10 0 z_1.snd.fst.m.length none, C.slc 11 0 z_1.snd.fst.d.length none, C.slc 12 0 z_1.snd.fst.r.length none, C.int .i64 z_1.snd.fst.seen]), Atom.arr Kd.pair z.snd.fst,
 Atom.arr Kd.ru8 z_1.snd.fst.o, Atom.arr Kd.ru8 z_1.snd.fst.t, Atom.arr Kd.ru8 z_1.snd.fst.w, Atom.arr Kd.ru8 z_1.snd.fst.n, Atom.arr Kd.ru8 z_1.snd.fst.f, Atom.arr Kd.int z_1.snd.fst.m, Atom.arr Kd.int
 z_1.snd.fst.d, Atom.arr Kd.int z_1.snd.fst.r]) (↑z_1.fst : Int)) (fun (x : Nat × BS × Bag KK) => True) ([VV.one (V1.c (C.slc 0 0 l.length none)), i64 n, VV.one (V1.c (C.slc 1 0 sc.length none)), VV.any,
 VV.any, VV.any, VV.any, VV.one (V1.c (C.ptr 3 0 0)), VV.one (V1.c (C.slc 4 0 z.snd.fst.length none)), VV.any, VV.any, i64 (↑z_1.fst : Int), i64 (0 : Int)] ++ anys 93) [Atom.ro Kd.u8 l, Atom.ro Kd.op sc,
 Atom.bag z_1.snd.snd, Atom.cells 46 (bookC false false z_1.snd.fst.turn z_1.snd.fst.deep [C.slc 5 0 z_1.snd.fst.o.length none, C.slc 6 0 z_1.snd.fst.t.length none, C.slc 7 0 z_1.snd.fst.w.length none,
 C.slc 8 0 z_1.snd.fst.n.length none, C.slc 9 0 z_1.snd.fst.f.length none, C.slc 10 0 z_1.snd.fst.m.length none, C.slc 11 0 z_1.snd.fst.d.length none, C.slc 12 0 z_1.snd.fst.r.length none, C.int .i64 z_1.snd.fst.seen]),
 Atom.arr Kd.pair z.snd.fst, Atom.arr Kd.ru8 z_1.snd.fst.o, Atom.arr Kd.ru8 z_1.snd.fst.t, Atom.arr Kd.ru8 z_1.snd.fst.w, Atom.arr Kd.ru8 z_1.snd.fst.n, Atom.arr Kd.ru8 z_1.snd.fst.f, Atom.arr Kd.int z_1.snd.fst.m,
 Atom.arr Kd.int z_1.snd.fst.d, Atom.arr Kd.int z_1.snd.fst.r] ∧ ∀ (z_2 : Nat × BS × Bag KK), (↑z_2.fst : Int) ≤ n ∧ z_2.snd.fst.seen ≤ (20 : Int) * (↑z_1.fst : Int) + (↑z_2.fst : Int) ∧ AllE z_2.snd.snd
 z.snd.fst z_2.snd.fst → ite2 (decide ((↑z_2.fst : Int) < n)) (i64ok ((↑z_2.fst : Int) * (7 : Int)) ∧ i64ok ((↑z_1.fst : Int) + (↑z_2.fst : Int) * (7 : Int)) ∧ n ≠ (0 : Int) ∧ ((0 : Int) ≤ ((↑z_1.fst :
 Int) + (↑z_2.fst : Int) * (7 : Int)).tmod n ∧ ((↑z_1.fst : Int) + (↑z_2.fst : Int) * (7 : Int)).tmod n < (↑z.snd.fst.length : Int)) ∧ (((↑z_1.fst : Int) + (↑z_2.fst : Int) * (7 : Int)).tmod n).toNat <
 z.snd.fst.length ∧ True ∧ (((↑z_1.fst : Int) + (↑z_2.fst : Int) * (7 : Int)).tmod n).toNat < z.snd.fst.length ∧ ((0 : Int) ≤ (↑z_1.fst : Int) ∧ (↑z_1.fst : Int) < (↑sc.length : Int)) ∧ (↑z_1.fst : Int).toNat
 < sc.length ∧ True ∧ (↑z_1.fst : Int).toNat < sc.length ∧ i64ok ((1000 : Int) * (↑z_1.fst : Int)) ∧ i64ok ((20 : Int) * (↑z_2.fst : Int)) ∧ i64ok ((1000 : Int) * (↑z_1.fst : Int) + (20 : Int) * (↑z_2.fst
 : Int)) ∧ True ∧ (DoE z_2.snd.snd (rd z.snd.fst (((↑z_1.fst : Int) + (↑z_2.fst : Int) * (7 : Int)).tmod n).toNat (KK.dflt Kd.pair)).fst (rd z.snd.fst (((↑z_1.fst : Int) + (↑z_2.fst : Int) * (7 : Int)).tmod
 n).toNat (KK.dflt Kd.pair)).snd (BS.mk (z_2.snd.fst.turn) (z_2.snd.fst.deep) (z_2.snd.fst.o) (z_2.snd.fst.t) (z_2.snd.fst.w) (z_2.snd.fst.n) (z_2.snd.fst.f) (z_2.snd.fst.m) (z_2.snd.fst.d) (z_2.snd.fst.r)
 (z_2.snd.fst.seen)) ∧ z_2.snd.fst.seen < (100000 : Int) ∧ ((-1000000000000 : Int) ≤ (1000 : Int) * (↑z_1.fst : Int) + (20 : Int) * (↑z_2.fst : Int) ∧ (1000 : Int) * (↑z_1.fst : Int) + (20 : Int) * (↑z_2.fst
 : Int) ≤ (1000000000000 : Int)) ∧ i64ok (rd sc (↑z_1.fst : Int).toNat (KK.dflt Kd.op)).snd.snd.snd) ∧ Into (K := KK) 0 [] [3, 5, 6, 7, 8, 9, 10, 11, 12, 2] [VV.one (V1.agg [C.rp 75 0 (rd z.snd.fst (((↑z_1.fst
 : Int) + (↑z_2.fst : Int) * (7 : Int)).tmod n).toNat (KK.dflt Kd.pair)).fst 0 0, C.rp 77 0 (rd z.snd.fst (((↑z_1.fst : Int) + (↑z_2.fst : Int) * (7 : Int)).tmod n).toNat (KK.dflt Kd.pair)).snd 0 0]), VV.one
 (V1.c (C.ptr 3 0 0)), VV.one (V1.agg [C.int .i64 (rd sc (↑z_1.fst : Int).toNat (KK.dflt Kd.op)).fst, C.bool (rd sc (↑z_1.fst : Int).toNat (KK.dflt Kd.op)).snd.fst, C.int .u64 (rd sc (↑z_1.fst : Int).toNat
 (KK.dflt Kd.op)).snd.snd.fst, C.int .i64 (rd sc (↑z_1.fst : Int).toNat (KK.dflt Kd.op)).snd.snd.snd]), VV.one (V1.c (C.int .i64 ((1000 : Int) * (↑z_1.fst : Int) + (20 : Int) * (↑z_2.fst : Int))))] [Atom.ro
 Kd.u8 l, Atom.ro Kd.op sc, Atom.bag z_2.snd.snd, Atom.cells 46 (bookC false false z_2.snd.fst.turn z_2.snd.fst.deep [C.slc 5 0 z_2.snd.fst.o.length none, C.slc 6 0 z_2.snd.fst.t.length none, C.slc 7 0
 z_2.snd.fst.w.length none, C.slc 8 0 z_2.snd.fst.n.length none, C.slc 9 0 z_2.snd.fst.f.length none, C.slc 10 0 z_2.snd.fst.m.length none, C.slc 11 0 z_2.snd.fst.d.length none, C.slc 12 0 z_2.snd.fst.r.length
 none, C.int .i64 z_2.snd.fst.seen]), Atom.arr Kd.pair z.snd.fst, Atom.arr Kd.ru8 z_2.snd.fst.o, Atom.arr Kd.ru8 z_2.snd.fst.t, Atom.arr Kd.ru8 z_2.snd.fst.w, Atom.arr Kd.ru8 z_2.snd.fst.n, Atom.arr Kd.ru8
 z_2.snd.fst.f, Atom.arr Kd.int z_2.snd.fst.m, Atom.arr Kd.int z_2.snd.fst.d, Atom.arr Kd.int z_2.snd.fst.r] [VV.one (V1.agg [C.rp 75 0 (rd z.snd.fst (((↑z_1.fst : Int) + (↑z_2.fst : Int) * (7 : Int)).tmod
 n).toNat (KK.dflt Kd.pair)).fst 0 0, C.rp 77 0 (rd z.snd.fst (((↑z_1.fst : Int) + (↑z_2.fst : Int) * (7 : Int)).tmod n).toNat (KK.dflt Kd.pair)).snd 0 0]), VV.one (V1.c (C.ptr 0 0 0)), VV.one (V1.agg [C.int
 .i64 (rd sc (↑z_1.fst : Int).toNat (KK.dflt Kd.op)).fst, C.bool (rd sc (↑z_1.fst : Int).toNat (KK.dflt Kd.op)).snd.fst, C.int .u64 (rd sc (↑z_1.fst : Int).toNat (KK.dflt Kd.op)).snd.snd.fst, C.int .i64
 (rd sc (↑z_1.fst : Int).toNat (KK.dflt Kd.op)).snd.snd.snd]), VV.one (V1.c (C.int .i64 ((1000 : Int) * (↑z_1.fst : Int) + (20 : Int) * (↑z_2.fst : Int))))] [Atom.cells 46 (bookC false false z_2.snd.fst.turn
 z_2.snd.fst.deep [C.slc 1 0 z_2.snd.fst.o.length none, C.slc 2 0 z_2.snd.fst.t.length none, C.slc 3 0 z_2.snd.fst.w.length none, C.slc 4 0 z_2.snd.fst.n.length none, C.slc 5 0 z_2.snd.fst.f.length none,
 C.slc 6 0 z_2.snd.fst.m.length none, C.slc 7 0 z_2.snd.fst.d.length none, C.slc 8 0 z_2.snd.fst.r.length none, C.int .i64 z_2.snd.fst.seen]), Atom.arr Kd.ru8 z_2.snd.fst.o, Atom.arr Kd.ru8 z_2.snd.fst.t,
 Atom.arr Kd.ru8 z_2.snd.fst.w, Atom.arr Kd.ru8 z_2.snd.fst.n, Atom.arr Kd.ru8 z_2.snd.fst.f, Atom.arr Kd.int z_2.snd.fst.m, Atom.arr Kd.int z_2.snd.fst.d, Atom.arr Kd.int z_2.snd.fst.r, Atom.bag z_2.snd.snd]
 ∧ ∀ (y : BS × Bag KK), DoE y.snd (rd z.snd.fst (((↑z_1.fst : Int) + (↑z_2.fst : Int) * (7 : Int)).tmod n).toNat (KK.dflt Kd.pair)).fst (rd z.snd.fst (((↑z_1.fst : Int) + (↑z_2.fst : Int) * (7 : Int)).tmod
 n).toNat (KK.dflt Kd.pair)).snd y.fst ∧ (z_2.snd.fst.seen ≤ y.fst.seen ∧ y.fst.seen ≤ z_2.snd.fst.seen + (1 : Int)) ∧ StaysD (rd z.snd.fst (((↑z_1.fst : Int) + (↑z_2.fst : Int) * (7 : Int)).tmod n).toNat
 (KK.dflt Kd.pair)).fst (rd z.snd.fst (((↑z_1.fst : Int) + (↑z_2.fst : Int) * (7 : Int)).tmod n).toNat (KK.dflt Kd.pair)).snd z_2.snd.snd (BS.mk (z_2.snd.fst.turn) (z_2.snd.fst.deep) (z_2.snd.fst.o) (z_2.snd.fst.t)
 (z_2.snd.fst.w) (z_2.snd.fst.n) (z_2.snd.fst.f) (z_2.snd.fst.m) (z_2.snd.fst.d) (z_2.snd.fst.r) (z_2.snd.fst.seen)) y.snd y.fst → True ∧ i64ok ((↑z_2.fst : Int) + (1 : Int)) ∧ Enter 3 (inv_many3 l n sc
 (pairsAt [Atom.ro Kd.u8 l, Atom.ro Kd.op sc, Atom.bag z_1.snd.snd, Atom.cells 46 (bookC false false z_1.snd.fst.turn z_1.snd.fst.deep [C.slc 5 0 z_1.snd.fst.o.length none, C.slc 6 0 z_1.snd.fst.t.length
 none, C.slc 7 0 z_1.snd.fst.w.length none, C.slc 8 0 z_1.snd.fst.n.length none, C.slc 9 0 z_1.snd.fst.f.length none, C.slc 10 0 z_1.snd.fst.m.length none, C.slc 11 0 z_1.snd.fst.d.length none, C.slc 12
 0 z_1.snd.fst.r.length none, C.int .i64 z_1.snd.fst.seen]), Atom.arr Kd.pair z.snd.fst, Atom.arr Kd.ru8 z_1.snd.fst.o, Atom.arr Kd.ru8 z_1.snd.fst.t, Atom.arr Kd.ru8 z_1.snd.fst.w, Atom.arr Kd.ru8 z_1.snd.fst.n,
 Atom.arr Kd.ru8 z_1.snd.fst.f, Atom.arr Kd.int z_1.snd.fst.m, Atom.arr Kd.int z_1.snd.fst.d, Atom.arr Kd.int z_1.snd.fst.r]) (↑z_1.fst : Int)) (fun (z' : Nat × BS × Bag KK) => (n - (↑z'.fst : Int)).toNat
 < (n - (↑z_2.fst : Int)).toNat) ([VV.one (V1.c (C.slc 0 0 l.length none)), i64 n, VV.one (V1.c (C.slc 1 0 sc.length none)), VV.any, VV.any, VV.any, VV.any, VV.one (V1.c (C.ptr 3 0 0)), VV.one (V1.c (C.slc
 4 0 z.snd.fst.length none)), VV.any, VV.any, i64 (↑z_1.fst : Int), i64 ((↑z_2.fst : Int) + (1 : Int)), VV.one (V1.c (C.int .i64 (((↑z_1.fst : Int) + (↑z_2.fst : Int) * (7 : Int)).tmod n)))] ++ anys 92)
 [Atom.ro Kd.u8 l, Atom.ro Kd.op sc, Atom.bag y.snd, Atom.cells 46 (bookC false false y.fst.turn y.fst.deep [C.slc 13 0 y.fst.o.length none, C.slc 14 0 y.fst.t.length none, C.slc 15 0 y.fst.w.length none,
 C.slc 16 0 y.fst.n.length none, C.slc 17 0 y.fst.f.length none, C.slc 18 0 y.fst.m.length none, C.slc 19 0 y.fst.d.length none, C.slc 20 0 y.fst.r.length none, C.int .i64 y.fst.seen]), Atom.arr Kd.pair
 z.snd.fst, Atom.gone, Atom.gone, Atom.gone, Atom.gone, Atom.gone, Atom.gone, Atom.gone, Atom.gone, Atom.arr Kd.ru8 y.fst.o, Atom.arr Kd.ru8 y.fst.t, Atom.arr Kd.ru8 y.fst.w, Atom.arr Kd.ru8 y.fst.n, Atom.arr
 Kd.ru8 y.fst.f, Atom.arr Kd.int y.fst.m, Atom.arr Kd.int y.fst.d, Atom.arr Kd.int y.fst.r]) (i64ok ((↑z_1.fst : Int) + (1 : Int)) ∧ Enter 3 (inv_many2 l n sc (pairsAt [Atom.ro Kd.u8 l, Atom.ro Kd.op sc,
 Atom.bag z.snd.snd, Atom.cells 46 (bookC false false (0 : Int) (0 : Int) [C.nils, C.nils, C.nils, C.nils, C.nils, C.nils, C.nils, C.nils, C.int .i64 (0 : Int)]), Atom.arr Kd.pair z.snd.fst])) (fun (z'
 : Nat × BS × Bag KK) => sc.length - z'.fst < sc.length - z_1.fst) ([VV.one (V1.c (C.slc 0 0 l.length none)), i64 n, VV.one (V1.c (C.slc 1 0 sc.length none)), VV.any, VV.any, VV.any, VV.any, VV.one (V1.c
 (C.ptr 3 0 0)), VV.one (V1.c (C.slc 4 0 z.snd.fst.length none)), VV.any, VV.any, i64 ((↑z_1.fst : Int) + (1 : Int)), i64 (↑z_2.fst : Int)] ++ anys 93) [Atom.ro Kd.u8 l, Atom.ro Kd.op sc, Atom.bag z_2.snd.snd,
 Atom.cells 46 (bookC false false z_2.snd.fst.turn z_2.snd.fst.deep [C.slc 5 0 z_2.snd.fst.o.length none, C.slc 6 0 z_2.snd.fst.t.length none, C.slc 7 0 z_2.snd.fst.w.length none, C.slc 8 0 z_2.snd.fst.n.length
 none, C.slc 9 0 z_2.snd.fst.f.length none, C.slc 10 0 z_2.snd.fst.m.length none, C.slc 11 0 z_2.snd.fst.d.length none, C.slc 12 0 z_2.snd.fst.r.length none, C.int .i64 z_2.snd.fst.seen]), Atom.arr Kd.pair
 z.snd.fst, Atom.arr Kd.ru8 z_2.snd.fst.o, Atom.arr Kd.ru8 z_2.snd.fst.t, Atom.arr Kd.ru8 z_2.snd.fst.w, Atom.arr Kd.ru8 z_2.snd.fst.n, Atom.arr Kd.ru8 z_2.snd.fst.f, Atom.arr Kd.int z_2.snd.fst.m, Atom.arr
 Kd.int z_2.snd.fst.d, Atom.arr Kd.int z_2.snd.fst.r])) (Enter 3 (inv_many4 l n sc (pairsAt [Atom.ro Kd.u8 l, Atom.ro Kd.op sc, Atom.bag z_1.snd.snd, Atom.cells 46 (bookC false false z_1.snd.fst.turn z_1.snd.fst.deep
 [C.slc 5 0 z_1.snd.fst.o.length none, C.slc 6 0 z_1.snd.fst.t.length none, C.slc 7 0 z_1.snd.fst.w.length none, C.slc 8 0 z_1.snd.fst.n.length none, C.slc 9 0 z_1.snd.fst.f.length none, C.slc 10 0 z_1.snd.fst.m.length
 none, C.slc 11 0 z_1.snd.fst.d.length none, C.slc 12 0 z_1.snd.fst.r.length none, C.int .i64 z_1.snd.fst.seen]), Atom.arr Kd.pair z.snd.fst, Atom.arr Kd.ru8 z_1.snd.fst.o, Atom.arr Kd.ru8 z_1.snd.fst.t,
 Atom.arr Kd.ru8 z_1.snd.fst.w, Atom.arr Kd.ru8 z_1.snd.fst.n, Atom.arr Kd.ru8 z_1.snd.fst.f, Atom.arr Kd.int z_1.snd.fst.m, Atom.arr Kd.int z_1.snd.fst.d, Atom.arr Kd.int z_1.snd.fst.r]) (BS.mk (z_1.snd.fst.turn)
 (z_1.snd.fst.deep) (z_1.snd.fst.o) (z_1.snd.fst.t) (z_1.snd.fst.w) (z_1.snd.fst.n) (z_1.snd.fst.f) (z_1.snd.fst.m) (z_1.snd.fst.d) (z_1.snd.fst.r) (z_1.snd.fst.seen))) (fun (x : Nat × Bag KK) => True)
 ([VV.one (V1.c (C.slc 0 0 l.length none)), i64 n, VV.one (V1.c (C.slc 1 0 sc.length none)), VV.any, VV.any, VV.any, VV.any, VV.one (V1.c (C.ptr 3 0 0)), VV.one (V1.c (C.slc 4 0 z.snd.fst.length none)),
 VV.any, VV.any, i64 (↑z_1.fst : Int), VV.any, VV.any, i64 (0 : Int)] ++ anys 91) [Atom.ro Kd.u8 l, Atom.ro Kd.op sc, Atom.bag z_1.snd.snd, Atom.cells 46 (bookC false false z_1.snd.fst.turn z_1.snd.fst.deep
 [C.slc 5 0 z_1.snd.fst.o.length none, C.slc 6 0 z_1.snd.fst.t.length none, C.slc 7 0 z_1.snd.fst.w.length none, C.slc 8 0 z_1.snd.fst.n.length none, C.slc 9 0 z_1.snd.fst.f.length none, C.slc 10 0 z_1.snd.fst.m.length
 none, C.slc 11 0 z_1.snd.fst.d.length none, C.slc 12 0 z_1.snd.fst.r.length none, C.int .i64 z_1.snd.fst.seen]), Atom.arr Kd.pair z.snd.fst, Atom.arr Kd.ru8 z_1.snd.fst.o, Atom.arr Kd.ru8 z_1.snd.fst.t,
 Atom.arr Kd.ru8 z_1.snd.fst.w, Atom.arr Kd.ru8 z_1.snd.fst.n, Atom.arr Kd.ru8 z_1.snd.fst.f, Atom.arr Kd.int z_1.snd.fst.m, Atom.arr Kd.int z_1.snd.fst.d, Atom.arr Kd.int z_1.snd.fst.r] ∧ ∀ (z_2 : Nat
 × Bag KK), (↑z_2.fst : Int) ≤ n ∧ AllE z_2.snd z.snd.fst (BS.mk (z_1.snd.fst.turn) (z_1.snd.fst.deep) (z_1.snd.fst.o) (z_1.snd.fst.t) (z_1.snd.fst.w) (z_1.snd.fst.n) (z_1.snd.fst.f) (z_1.snd.fst.m) (z_1.snd.fst.d)
 (z_1.snd.fst.r) (z_1.snd.fst.seen)) → ite2 (decide ((↑z_2.fst : Int) < n)) (((0 : Int) ≤ (↑z_2.fst : Int) ∧ (↑z_2.fst : Int) < (↑z.snd.fst.length : Int)) ∧ (↑z_2.fst : Int).toNat < z.snd.fst.length ∧ True
 ∧ (↑z_2.fst : Int).toNat < z.snd.fst.length ∧ DoE z_2.snd (rd z.snd.fst (↑z_2.fst : Int).toNat (KK.dflt Kd.pair)).fst (rd z.snd.fst (↑z_2.fst : Int).toNat (KK.dflt Kd.pair)).snd (BS.mk (z_1.snd.fst.turn)
 (z_1.snd.fst.deep) (z_1.snd.fst.o) (z_1.snd.fst.t) (z_1.snd.fst.w) (z_1.snd.fst.n) (z_1.snd.fst.f) (z_1.snd.fst.m) (z_1.snd.fst.d) (z_1.snd.fst.r) (z_1.snd.fst.seen)) ∧ Into (K := KK) 0 [] [2] [VV.one
 (V1.agg [C.rp 75 0 (rd z.snd.fst (↑z_2.fst : Int).toNat (KK.dflt Kd.pair)).fst 0 0, C.rp 77 0 (rd z.snd.fst (↑z_2.fst : Int).toNat (KK.dflt Kd.pair)).snd 0 0])] [Atom.ro Kd.u8 l, Atom.ro Kd.op sc, Atom.bag
 z_2.snd, Atom.cells 46 (bookC false false z_1.snd.fst.turn z_1.snd.fst.deep [C.slc 5 0 z_1.snd.fst.o.length none, C.slc 6 0 z_1.snd.fst.t.length none, C.slc 7 0 z_1.snd.fst.w.length none, C.slc 8 0 z_1.snd.fst.n.length
 none, C.slc 9 0 z_1.snd.fst.f.length none, C.slc 10 0 z_1.snd.fst.m.length none, C.slc 11 0 z_1.snd.fst.d.length none, C.slc 12 0 z_1.snd.fst.r.length none, C.int .i64 z_1.snd.fst.seen]), Atom.arr Kd.pair
 z.snd.fst, Atom.arr Kd.ru8 z_1.snd.fst.o, Atom.arr Kd.ru8 z_1.snd.fst.t, Atom.arr Kd.ru8 z_1.snd.fst.w, Atom.arr Kd.ru8 z_1.snd.fst.n, Atom.arr Kd.ru8 z_1.snd.fst.f, Atom.arr Kd.int z_1.snd.fst.m, Atom.arr
 Kd.int z_1.snd.fst.d, Atom.arr Kd.int z_1.snd.fst.r] [VV.one (V1.agg [C.rp 75 0 (rd z.snd.fst (↑z_2.fst : Int).toNat (KK.dflt Kd.pair)).fst 0 0, C.rp 77 0 (rd z.snd.fst (↑z_2.fst : Int).toNat (KK.dflt
 Kd.pair)).snd 0 0])] [Atom.bag z_2.snd] ∧ ∀ (y : Nat → Option (BI KK)), DoE y (rd z.snd.fst (↑z_2.fst : Int).toNat (KK.dflt Kd.pair)).fst (rd z.snd.fst (↑z_2.fst : Int).toNat (KK.dflt Kd.pair)).snd (BS.mk
 (z_1.snd.fst.turn) (z_1.snd.fst.deep) (z_1.snd.fst.o) (z_1.snd.fst.t) (z_1.snd.fst.w) (z_1.snd.fst.n) (z_1.snd.fst.f) (z_1.snd.fst.m) (z_1.snd.fst.d) (z_1.snd.fst.r) (z_1.snd.fst.seen)) ∧ Oth2 (rd z.snd.fst
 (↑z_2.fst : Int).toNat (KK.dflt Kd.pair)).fst (rd z.snd.fst (↑z_2.fst : Int).toNat (KK.dflt Kd.pair)).snd z_2.snd y → i64ok ((↑z_2.fst : Int) + (1 : Int)) ∧ Enter 3 (inv_many4 l n sc (pairsAt [Atom.ro
 Kd.u8 l, Atom.ro Kd.op sc, Atom.bag z_1.snd.snd, Atom.cells 46 (bookC false false z_1.snd.fst.turn z_1.snd.fst.deep [C.slc 5 0 z_1.snd.fst.o.length none, C.slc 6 0 z_1.snd.fst.t.length none, C.slc 7 0
 z_1.snd.fst.w.length none, C.slc 8 0 z_1.snd.fst.n.length none, C.slc 9 0 z_1.snd.fst.f.length none, C.slc 10 0 z_1.snd.fst.m.length none, C.slc 11 0 z_1.snd.fst.d.length none, C.slc 12 0 z_1.snd.fst.r.length
 none, C.int .i64 z_1.snd.fst.seen]), Atom.arr Kd.pair z.snd.fst, Atom.arr Kd.ru8 z_1.snd.fst.o, Atom.arr Kd.ru8 z_1.snd.fst.t, Atom.arr Kd.ru8 z_1.snd.fst.w, Atom.arr Kd.ru8 z_1.snd.fst.n, Atom.arr Kd.ru8
 z_1.snd.fst.f, Atom.arr Kd.int z_1.snd.fst.m, Atom.arr Kd.int z_1.snd.fst.d, Atom.arr Kd.int z_1.snd.fst.r]) (BS.mk (z_1.snd.fst.turn) (z_1.snd.fst.deep) (z_1.snd.fst.o) (z_1.snd.fst.t) (z_1.snd.fst.w)
 (z_1.snd.fst.n) (z_1.snd.fst.f) (z_1.snd.fst.m) (z_1.snd.fst.d) (z_1.snd.fst.r) (z_1.snd.fst.seen))) (fun (z' : Nat × Bag KK) => (n - (↑z'.fst : Int)).toNat < (n - (↑z_2.fst : Int)).toNat) ([VV.one (V1.c
 (C.slc 0 0 l.length none)), i64 n, VV.one (V1.c (C.slc 1 0 sc.length none)), VV.any, VV.any, VV.any, VV.any, VV.one (V1.c (C.ptr 3 0 0)), VV.one (V1.c (C.slc 4 0 z.snd.fst.length none)), VV.any, VV.any,
 VV.any, VV.any, VV.any, i64 ((↑z_2.fst : Int) + (1 : Int))] ++ anys 91) [Atom.ro Kd.u8 l, Atom.ro Kd.op sc, Atom.bag y, Atom.cells 46 (bookC false false z_1.snd.fst.turn z_1.snd.fst.deep [C.slc 5 0 z_1.snd.fst.o.length
 none, C.slc 6 0 z_1.snd.fst.t.length none, C.slc 7 0 z_1.snd.fst.w.length none, C.slc 8 0 z_1.snd.fst.n.length none, C.slc 9 0 z_1.snd.fst.f.length none, C.slc 10 0 z_1.snd.fst.m.length none, C.slc 11
 0 z_1.snd.fst.d.length none, C.slc 12 0 z_1.snd.fst.r.length none, C.int .i64 z_1.snd.fst.seen]), Atom.arr Kd.pair z.snd.fst, Atom.arr Kd.ru8 z_1.snd.fst.o, Atom.arr Kd.ru8 z_1.snd.fst.t, Atom.arr Kd.ru8
 z_1.snd.fst.w, Atom.arr Kd.ru8 z_1.snd.fst.n, Atom.arr Kd.ru8 z_1.snd.fst.f, Atom.arr Kd.int z_1.snd.fst.m, Atom.arr Kd.int z_1.snd.fst.d, Atom.arr Kd.int z_1.snd.fst.r]) (BookOk z_2.snd (BS.mk (z_1.snd.fst.turn)
 (z_1.snd.fst.deep) (z_1.snd.fst.o) (z_1.snd.fst.t) (z_1.snd.fst.w) (z_1.snd.fst.n) (z_1.snd.fst.f) (z_1.snd.fst.m) (z_1.snd.fst.d) (z_1.snd.fst.r) (z_1.snd.fst.seen)) ∧ Into (K := KK) 0 [] [3, 5, 6, 7,
 8, 9, 10, 11, 12, 2] [VV.one (V1.c (C.ptr 3 0 0))] [Atom.ro Kd.u8 l, Atom.ro Kd.op sc, Atom.bag z_2.snd, Atom.cells 46 (bookC false false z_1.snd.fst.turn z_1.snd.fst.deep [C.slc 5 0 z_1.snd.fst.o.length
 none, C.slc 6 0 z_1.snd.fst.t.length none, C.slc 7 0 z_1.snd.fst.w.length none, C.slc 8 0 z_1.snd.fst.n.length none, C.slc 9 0 z_1.snd.fst.f.length none, C.slc 10 0 z_1.snd.fst.m.length none, C.slc 11
 0 z_1.snd.fst.d.length none, C.slc 12 0 z_1.snd.fst.r.length none, C.int .i64 z_1.snd.fst.seen]), Atom.arr Kd.pair z.snd.fst, Atom.arr Kd.ru8 z_1.snd.fst.o, Atom.arr Kd.ru8 z_1.snd.fst.t, Atom.arr Kd.ru8
 z_1.snd.fst.w, Atom.arr Kd.ru8 z_1.snd.fst.n, Atom.arr Kd.ru8 z_1.snd.fst.f, Atom.arr Kd.int z_1.snd.fst.m, Atom.arr Kd.int z_1.snd.fst.d, Atom.arr Kd.int z_1.snd.fst.r] [VV.one (V1.c (C.ptr 0 0 0))] [Atom.cells
 46 (bookC false false z_1.snd.fst.turn z_1.snd.fst.deep [C.slc 1 0 z_1.snd.fst.o.length none, C.slc 2 0 z_1.snd.fst.t.length none, C.slc 3 0 z_1.snd.fst.w.length none, C.slc 4 0 z_1.snd.fst.n.length none,
 C.slc 5 0 z_1.snd.fst.f.length none, C.slc 6 0 z_1.snd.fst.m.length none, C.slc 7 0 z_1.snd.fst.d.length none, C.slc 8 0 z_1.snd.fst.r.length none, C.int .i64 z_1.snd.fst.seen]), Atom.arr Kd.ru8 z_1.snd.fst.o,
 Atom.arr Kd.ru8 z_1.snd.fst.t, Atom.arr Kd.ru8 z_1.snd.fst.w, Atom.arr Kd.ru8 z_1.snd.fst.n, Atom.arr Kd.ru8 z_1.snd.fst.f, Atom.arr Kd.int z_1.snd.fst.m, Atom.arr Kd.int z_1.snd.fst.d, Atom.arr Kd.int
 z_1.snd.fst.r, Atom.bag z_2.snd] ∧ ∀ (y : Unit), True → EndsAs 3 (ct_many l n sc φ) (boolv true) [Atom.ro Kd.u8 l, Atom.ro Kd.op sc, Atom.bag z_2.snd, Atom.cells 46 (bookC false false z_1.snd.fst.turn
 z_1.snd.fst.deep [C.slc 5 0 z_1.snd.fst.o.length none, C.slc 6 0 z_1.snd.fst.t.length none, C.slc 7 0 z_1.snd.fst.w.length none, C.slc 8 0 z_1.snd.fst.n.length none, C.slc 9 0 z_1.snd.fst.f.length none,
 C.slc 10 0 z_1.snd.fst.m.length none, C.slc 11 0 z_1.snd.fst.d.length none, C.slc 12 0 z_1.snd.fst.r.length none, C.int .i64 z_1.snd.fst.seen]), Atom.arr Kd.pair z.snd.fst, Atom.arr Kd.ru8 z_1.snd.fst.o,
 Atom.arr Kd.ru8 z_1.snd.fst.t, Atom.arr Kd.ru8 z_1.snd.fst.w, Atom.arr Kd.ru8 z_1.snd.fst.n, Atom.arr Kd.ru8 z_1.snd.fst.f, Atom.arr Kd.int z_1.snd.fst.m, Atom.arr Kd.int z_1.snd.fst.d, Atom.arr Kd.int
 z_1.snd.fst.r])))))))) := by kernel_rfl
end Go.Proofs.YtndlpbheifalhaaGreatDoor.T
end
section
namespace Go.Proofs.YtndlpbheifalhaaGreatDoor.T
open Go.Proofs.YtndlpbheifalhaaGreatDoor.E Go.Proofs.YtndlpbheifalhaaGreatDoor.V
set_option maxRecDepth 100000
set_option linter.unusedVariables false
set_option linter.unusedSimpArgs false
theorem rest0 (φ : Bag KK) : RestOk φ B0 :=
  ⟨⟨⟨trivial, trivial, (fun x hx => by cases hx), (fun x hx => by cases hx), List.Pairwise.nil, List.Pairwise.nil, (fun x hx => by cases hx), (fun x hx => by rcases hx with hx | hx <;> cases hx), (fun x hx => by cases hx), (fun x hx => by cases hx)⟩, trivial, rfl, rfl, rfl, (fun x hx => by cases hx), (fun x hx => by cases hx), rfl, by decide, by decide⟩, rfl, rfl, rfl, rfl⟩
theorem rd_mem {α : Type} {l : List α} {i : Nat} (h : i < l.length) (d : α) : rd l i d ∈ l := by
  have : rd l i d = l[i] := by simp [rd, List.getD_eq_getElem?_getD, h]
  rw [this]
  exact List.getElem_mem h
theorem all0 (φ : Bag KK) : AllE φ [] B0 := ⟨rest0 φ, (fun k hk => by cases hk), (fun j k hj => by cases hj)⟩
theorem many_ok (l : List Int) (n : Int) (sc : List OpT) (φ : Bag KK) : CtOk Tryz.prog 5 (ct_many l n sc φ) := CtOk_of KK_ok tabMany (ann_many l n sc) (fn := Tryz.f5) rfl (fun _ _ => rfl) fun hn => by
  rw [vc_many]
  obtain ⟨hby, hop⟩ := hn
  refine ite2_decide (fun _ => ⟨φ, [], [0, 1, 2], trivial, by (repeat' first | exact trivial | exact rfl | apply And.intro)⟩) (fun h1 => ite2_decide (fun _ => ⟨φ, [], [0, 1, 2], trivial, by (repeat' first | exact trivial | exact rfl | apply And.intro)⟩) (fun h2 => ite2_decide (fun _ => ⟨φ, [], [0, 1, 2], trivial, by (repeat' first | exact trivial | exact rfl | apply And.intro)⟩) (fun h3 => ite2_decide (fun _ => ⟨φ, [], [0, 1, 2], trivial, by (repeat' first | exact trivial | exact rfl | apply And.intro)⟩) (fun h4 => ?_))))
  refine ⟨⟨((0 : Nat), [], φ), [.pair], [0, 1, 2, 3, 4], ⟨by show ((0 : Nat) : Int) ≤ n; omega, rfl, all0 φ⟩, trivial, into_mk (by kernel_rfl) (by (repeat' first | exact trivial | exact rfl | apply And.intro)) (by (repeat' first | exact trivial | exact rfl | apply And.intro))⟩, ?_⟩
  rintro ⟨i, ps, ψ⟩ ⟨hi, hlen, hA⟩
  dsimp only at hi hlen hA
  refine ite2_decide (fun hlt => ?_) (fun hge => ?_)
  · have hlt : (i : Int) < n := hlt
    have m0 : (0 : Int) ≤ min (i : Int) (l.length : Int) := by omega
    have m1 : min (i : Int) (l.length : Int) ≤ (l.length : Int) := by omega
    have m2 : 0 + (min (i : Int) (l.length : Int)).toNat + ((l.length : Int) - min (i : Int) (l.length : Int)).toNat = l.length := by omega
    refine ⟨⟨m0, m1⟩, by omega, ⟨m0, m1⟩, by omega, trivial, ⟨m2, by omega⟩, into_mk (by kernel_rfl) (by (repeat' first | exact trivial | exact rfl | apply And.intro)) (by (repeat' first | exact trivial | exact rfl | apply And.intro)), fun y hy => ⟨⟨⟨⟨m0, m1⟩, by omega, rfl⟩, trivial⟩, ⟨m2, by omega⟩, into_mk (by kernel_rfl) (by (repeat' first | exact trivial | exact rfl | apply And.intro)) (by (repeat' first | exact trivial | exact rfl | apply And.intro)), fun y1 hy1 => ⟨trivial, trivial, rfl, ⟨Nat.le_refl _, trivial⟩, by show (ps.length + 1) * 16 ≤ 140737488355328; omega, by unfold i64ok; dsimp only; omega, ?_⟩⟩⟩
    obtain ⟨d1, d2, d3, d4⟩ := new_pair hA.bk (by simp; omega) (fun x hx => hby x (List.mem_of_mem_drop hx)) hy hy1
    exact ⟨((i + 1 : Nat), ps ++ [(y.2.1, y1.2.1)], _), [], [0, 1, 2, 3, 7], ⟨by show ((i + 1 : Nat) : Int) ≤ n; omega, by show (ps ++ [(y.2.1, y1.2.1)]).length = i + 1; simp; omega, hA.snoc d1 d2 d3 d4⟩, by dsimp only; omega, into_mk (by kernel_rfl) (by (repeat' first | exact trivial | exact rfl | exact len_snoc _ _ | apply And.intro)) (by (repeat' first | exact trivial | exact rfl | apply And.intro))⟩
  · have hge : ¬ (i : Int) < n := hge
    have hpn : (ps.length : Int) = n := by omega
    refine ⟨⟨((0 : Nat), B0, ψ), [.ru8, .ru8, .ru8, .ru8, .ru8, .int, .int, .int], [0, 1, 2, 3, 4, 5, 6, 7, 8, 9, 10, 11, 12], ⟨Nat.zero_le _, by show (0 : Int) ≤ 20 * ((0 : Nat) : Int); decide, hA⟩, trivial, into_mk (by kernel_rfl) (by (repeat' first | exact trivial | exact rfl | apply And.intro)) (by (repeat' first | exact trivial | exact rfl | apply And.intro))⟩, ?_⟩
    rintro ⟨a, B, χ⟩ ⟨ha, hs, hB⟩
    dsimp only at ha hs hB
    refine ite2_decide (fun hlt => ⟨⟨((0 : Nat), B, χ), [], [0, 1, 2, 3, 4, 5, 6, 7, 8, 9, 10, 11, 12], ⟨by show ((0 : Nat) : Int) ≤ n; omega, by show B.seen ≤ 20 * (a : Int) + ((0 : Nat) : Int); omega, hB⟩, trivial, into_mk (by kernel_rfl) (by (repeat' first | exact trivial | exact rfl | apply And.intro)) (by (repeat' first | exact trivial | exact rfl | apply And.intro))⟩, ?_⟩) (fun hge2 => ⟨⟨((0 : Nat), χ), [], [0, 1, 2, 3, 4, 5, 6, 7, 8, 9, 10, 11, 12], ⟨by show ((0 : Nat) : Int) ≤ n; omega, hB⟩, trivial, into_mk (by kernel_rfl) (by (repeat' first | exact trivial | exact rfl | apply And.intro)) (by (repeat' first | exact trivial | exact rfl | apply And.intro))⟩, ?_⟩)
    · have hlt : (a : Int) < (sc.length : Int) := hlt
      have hal : a < sc.length := by omega
      rintro ⟨j, C, ω⟩ ⟨hj, hs3, hC⟩
      dsimp only at hj hs3 hC
      refine ite2_decide (fun hl => ?_) (fun hg => ⟨by unfold i64ok; dsimp only; omega, ((a + 1 : Nat), C, ω), [], [0, 1, 2, 3, 4, 5, 6, 7, 8, 9, 10, 11, 12], ⟨hal, by show C.seen ≤ 20 * ((a + 1 : Nat) : Int); omega, hC⟩, by dsimp only; omega, into_mk (by kernel_rfl) (by (repeat' first | exact trivial | exact rfl | apply And.intro)) (by (repeat' first | exact trivial | exact rfl | apply And.intro))⟩)
      have hl : (j : Int) < n := hl
      have t0 : (0 : Int) ≤ ((a : Int) + (j : Int) * 7).tmod n := Int.tmod_nonneg _ (by omega)
      have t1 : ((a : Int) + (j : Int) * 7).tmod n < n := Int.tmod_lt_of_pos _ (by omega)
      have hkl : (((a : Int) + (j : Int) * 7).tmod n).toNat < ps.length := by omega
      have ha' : ((a : Int)).toNat = a := by omega
      have hm : i64ok (rd sc a (KK.dflt Kd.op)).2.2.2 := hop _ (rd_mem hal _)
      refine ⟨by unfold i64ok; dsimp only; omega, by unfold i64ok; dsimp only; omega, by omega, ⟨t0, by show ((a : Int) + (j : Int) * 7).tmod n < (ps.length : Int); omega⟩, hkl, trivial, hkl, ⟨by omega, hlt⟩, by dsimp only; rw [ha']; exact hal, trivial, by dsimp only; rw [ha']; exact hal, by unfold i64ok; dsimp only; omega, by unfold i64ok; dsimp only; omega, by unfold i64ok; dsimp only; omega, trivial, ⟨hC.each _ hkl, by dsimp only; omega, ⟨by dsimp only; omega, by dsimp only; omega⟩, by dsimp only; rw [ha']; exact hm⟩, into_mk (by kernel_rfl) (by (repeat' first | exact trivial | exact rfl | apply And.intro)) (by (repeat' first | exact trivial | exact rfl | apply And.intro)), fun y hy => ⟨trivial, by unfold i64ok; dsimp only; omega, ((j + 1 : Nat), y.1, y.2), [], [0, 1, 2, 3, 4, 13, 14, 15, 16, 17, 18, 19, 20], ⟨by show ((j + 1 : Nat) : Int) ≤ n; omega, ?_, hC.step hkl hy.1 hy.2.2⟩, by dsimp only; omega, into_mk (by kernel_rfl) (by (repeat' first | exact trivial | exact rfl | apply And.intro)) (by (repeat' first | exact trivial | exact rfl | apply And.intro))⟩⟩
      have := hy.2.1.2
      dsimp only at this
      show y.1.seen ≤ 20 * (a : Int) + ((j + 1 : Nat) : Int)
      omega
    · rintro ⟨j, ω⟩ ⟨hj, hC⟩
      dsimp only at hj hC
      refine ite2_decide (fun hl => ?_) (fun hg => ⟨hC.bk.ok, into_mk (by kernel_rfl) (by (repeat' first | exact trivial | exact rfl | apply And.intro)) (by (repeat' first | exact trivial | exact rfl | apply And.intro)), fun _ _ => ⟨ω, [], [0, 1, 2], trivial, by (repeat' first | exact trivial | exact rfl | apply And.intro)⟩⟩)
      have hl : (j : Int) < n := hl
      have hkl : ((j : Int)).toNat < ps.length := by omega
      exact ⟨⟨by omega, by show (j : Int) < (ps.length : Int); omega⟩, hkl, trivial, hkl, hC.each _ hkl, into_mk (by kernel_rfl) (by (repeat' first | exact trivial | exact rfl | apply And.intro)) (by (repeat' first | exact trivial | exact rfl | apply And.intro)), fun y hy => ⟨by unfold i64ok; dsimp only; omega, ((j + 1 : Nat), y), [], [0, 1, 2, 3, 4, 5, 6, 7, 8, 9, 10, 11, 12], ⟨by show ((j + 1 : Nat) : Int) ≤ n; omega, hC.step hkl hy.1 (.of hy.2)⟩, by dsimp only; omega, into_mk (by kernel_rfl) (by (repeat' first | exact trivial | exact rfl | apply And.intro)) (by (repeat' first | exact trivial | exact rfl | apply And.intro))⟩⟩
end Go.Proofs.YtndlpbheifalhaaGreatDoor.T
end
