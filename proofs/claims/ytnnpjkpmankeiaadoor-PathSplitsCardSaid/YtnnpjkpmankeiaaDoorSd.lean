/- The law PathSplits: its proof. -/
import Derived.Test.YtnnpjkpmankeiaaDoorSc
namespace Go.Proofs.YtnnpjkpmankeiaaDoor.T
open Go.Proofs.YtnnpjkpmankeiaaDoor.E
open Go.Proofs.YtnnpjkpmankeiaaDoor.MStr
set_option maxRecDepth 100000
set_option linter.unusedVariables false
theorem RestOk.new (φ : Bag KK) (h : HasTab φ) : RestOk φ ⟨0, 0, [], [], [], [], [], [], [], [], 0⟩ :=
  ⟨⟨⟨trivial, trivial, (fun x hx => by cases hx), (fun x hx => by cases hx), List.Pairwise.nil, List.Pairwise.nil, (fun x hx => by cases hx), (fun x hx => by rcases hx with hx | hx <;> cases hx), (fun x hx => by cases hx), (fun x hx => by cases hx)⟩, h, rfl, rfl, rfl, (fun x hx => by cases hx), (fun x hx => by cases hx), rfl, by decide, by decide⟩, rfl, rfl, rfl, rfl⟩
theorem RestOk.ext {φ ψ : Bag KK} {B : BS} (h : RestOk φ B) (e : Ext φ ψ) : RestOk ψ B :=
  ⟨⟨h.ok.good.ext e, h.ok.tab.ext e, h.ok.lm, h.ok.ld, h.ok.lr, h.ok.mb, h.ok.rb, h.ok.cnt, h.ok.few, h.ok.turn⟩, h.f, h.r, h.deep, h.turn⟩
/-- A list of one's own that is handed to the book. -/
theorem alone_frz {φ ψ : Bag KK} {B : BS} {l : List ByteArray} {x : RS} (h : RestOk φ B) (hl : l.length ≤ 1000000) (hy : Frz φ Kd.str l x ψ) : Alone ψ Kd.str 1000000 B.bk x :=
  ⟨⟨l, hy.whole.1, hy.whole.2, hl⟩, fun y hm => by
    obtain ⟨ys, h1⟩ := h.ok.good.has y hm
    exact (RS.off_frz h1 hy).symm⟩
theorem law_ok (s : ByteArray) (n : Int) (φ : Bag KK) : CtOk Tryd.prog 3 (ct_law s n φ) := CtOk_of KK_ok tabL (ann_law s n) (fn := Tryd.f3) rfl (fun _ _ => rfl) fun hn => by
  obtain ⟨hn, ht⟩ := hn
  rw [vc_law]
  have e2 : i64ok (splitB s n).2 := by unfold splitB; (repeat' split) <;> (unfold i64ok; simp)
  refine ite2_decide (fun h => ⟨φ, [], [0], ht, by (repeat' first | exact trivial | exact rfl | apply And.intro)⟩) (fun h => ?_)
  have hs : s.size ≤ 1000000 := by omega
  have hl : (splitB s n).1.length ≤ 1000000 := by
    have := pieces_few s 20000 (by omega)
    unfold splitB
    (repeat' split) <;> simp <;> omega
  refine ⟨⟨hs, hn⟩, into_mk (by kernel_rfl) (by (repeat' first | exact trivial | exact rfl | apply And.intro)) (by (repeat' first | exact trivial | exact rfl | apply And.intro)), fun _ _ => ⟨⟨((0 : Nat), ⟨0, 0, [], [], [], [], [], [], [], [], 0⟩, φ), [.rstr, .rstr, .rstr, .rstr, .rstr, .int, .int, .int], [0, 1, 3, 4, 5, 6, 7, 8, 9, 10, 2], ⟨Nat.zero_le _, RestOk.new φ ht, rfl⟩, trivial, into_mk (by kernel_rfl) (by (repeat' first | exact trivial | exact rfl | apply And.intro)) (by (repeat' first | exact trivial | exact rfl | apply And.intro))⟩, ?_⟩⟩
  rintro ⟨i, B, φ'⟩ ⟨hi, hb, hsn⟩
  have hb : RestOk φ' B := hb
  have hsn : B.seen = (i : Int) := hsn
  have hi : i ≤ 3 := hi
  dsimp only
  refine ite2_decide (fun hil => ?_) (fun hil => ⟨hb.ok, into_mk (by kernel_rfl) (by (repeat' first | exact trivial | exact rfl | apply And.intro)) (by (repeat' first | exact trivial | exact rfl | apply And.intro)), fun _ _ => ⟨φ', [], [0], hb.ok.tab, by (repeat' first | exact trivial | exact rfl | apply And.intro)⟩⟩)
  refine ⟨⟨hs, hn⟩, into_mk (by kernel_rfl) (by (repeat' first | exact trivial | exact rfl | apply And.intro)) (by (repeat' first | exact trivial | exact rfl | apply And.intro)), fun _ _ => ⟨e2, into_mk (by kernel_rfl) (by (repeat' first | exact trivial | exact rfl | apply And.intro)) (by (repeat' first | exact trivial | exact rfl | apply And.intro)), fun _ _ => ite2_decide (fun _ => ⟨by omega, into_mk (by kernel_rfl) (by (repeat' first | exact trivial | exact rfl | apply And.intro)) (by (repeat' first | exact trivial | exact rfl | apply And.intro)), fun _ _ => ⟨rfl, fun hz => ?_, fun b c hfr hc => ?_⟩⟩) (fun h => absurd rfl h)⟩⟩
  · refine ⟨by unfold i64ok; omega, ⟨hb, alone_frz hb (by omega) (.nil_ hz), ⟨by omega, by omega⟩, by omega⟩, into_mk (by kernel_rfl) (by (repeat' first | exact trivial | exact rfl | apply And.intro)) (by (repeat' first | exact trivial | exact rfl | apply And.intro)), fun y hy => ⟨by unfold i64ok; omega, ((i + 1 : Nat), y.1, y.2), [], [0, 1, 12, 13, 14, 15, 16, 17, 18, 19, 10], ⟨by show i + 1 ≤ 3; omega, hy.1, by show y.1.seen = ((i + 1 : Nat) : Int); have := hy.2; omega⟩, by show 3 - (i + 1) < 3 - i; omega, into_mk (by kernel_rfl) (by (repeat' first | exact trivial | exact rfl | apply And.intro)) (by (repeat' first | exact trivial | exact rfl | apply And.intro))⟩⟩
  · have hy := Frz.mk (kd := Kd.str) (xs := (splitB s n).1) b c hfr hc
    refine ⟨by unfold i64ok; omega, ⟨hb.ext hy.ext, alone_frz hb hl hy, ⟨by omega, by omega⟩, by omega⟩, into_mk (by kernel_rfl) (by (repeat' first | exact trivial | exact rfl | apply And.intro)) (by (repeat' first | exact trivial | exact rfl | apply And.intro)), fun y hy => ⟨by unfold i64ok; omega, ((i + 1 : Nat), y.1, y.2), [], [0, 1, 12, 13, 14, 15, 16, 17, 18, 19, 10], ⟨by show i + 1 ≤ 3; omega, hy.1, by show y.1.seen = ((i + 1 : Nat) : Int); have := hy.2; omega⟩, by show 3 - (i + 1) < 3 - i; omega, into_mk (by kernel_rfl) (by (repeat' first | exact trivial | exact rfl | apply And.intro)) (by (repeat' first | exact trivial | exact rfl | apply And.intro))⟩⟩
end Go.Proofs.YtnnpjkpmankeiaaDoor.T
