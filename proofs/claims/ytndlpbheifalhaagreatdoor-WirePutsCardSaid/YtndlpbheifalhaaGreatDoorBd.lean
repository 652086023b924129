/- The book: what is due is written full (its proof). -/
import Derived.Test.YtndlpbheifalhaaGreatDoorBc
namespace Go.Proofs.YtndlpbheifalhaaGreatDoor.T
open Go.Proofs.YtndlpbheifalhaaGreatDoor.E
set_option maxRecDepth 100000
set_option linter.unusedVariables false
theorem HasTab.put {φ : Bag KK} (h : HasTab φ) {b : Nat} {i : BI KK} : HasTab (bput φ b i) := by
  trivial
theorem HasTab.frz {φ φ' : Bag KK} {kd : Kd} {xs : List (KK.α kd)} {y : RS} (h : HasTab φ) (hy : Frz φ kd xs y φ') : HasTab φ' := h.ext hy.ext
theorem rest_later (B C : BS) (k : Nat) (h : k < B.w.length) (hn : B.n.length = B.w.length) (hm : B.m.length = B.w.length) (hd : B.d.length = B.w.length) :
    ({ C with w := C.w ++ [rd B.w k .nil], n := C.n ++ [rd B.n k .nil], m := C.m ++ [rd B.m k 0], d := C.d ++ [rd B.d k 0] } : BS).rest B.w B.n B.m B.d (k + 1) = C.rest B.w B.n B.m B.d k := by
  simp only [BS.rest]
  rw [drop_rd h .nil, drop_rd (show k < B.n.length by omega) .nil, drop_rd (show k < B.m.length by omega) 0, drop_rd (show k < B.d.length by omega) 0]
  simp [List.append_assoc]
theorem rest_end (B C : BS) (hn : B.n.length = B.w.length) (hm : B.m.length = B.w.length) (hd : B.d.length = B.w.length) : C.rest B.w B.n B.m B.d B.w.length = C := by
  simp only [BS.rest]
  rw [List.drop_of_length_le (Nat.le_refl _), List.drop_of_length_le (by omega), List.drop_of_length_le (by omega), List.drop_of_length_le (by omega)]
  simp
theorem len_snoc {A : Type} (l : List A) (a : A) : l.length + 1 = (l ++ [a]).length := by simp
theorem mem_drop_rd {A : Type} {l : List A} {k : Nat} (h : k < l.length) (d : A) : rd l k d ∈ l := by
  rw [rd, List.getD_eq_getElem?_getD, List.getElem?_eq_getElem h]; exact List.getElem_mem h
/-- The next list is written full. -/
theorem book_written {φ' φ'' ψ : Bag KK} {B C : BS} {k : Nat} {y : RS} {ys : List Int} (hb : BookOk φ' (C.rest B.w B.n B.m B.d k)) (h : k < B.w.length) (hn : B.n.length = B.w.length) (hm : B.m.length = B.w.length) (hd : B.d.length = B.w.length)
    (e1 : C.w.length = C.n.length) (hg : BkOk ψ Kd.u8 1000000 (C.rest B.w B.n B.m B.d (k + 1)).bk) (ha : Alone ψ Kd.u8 1000000 (C.rest B.w B.n B.m B.d (k + 1)).bk (rd B.w k .nil)) (ht : HasTab ψ) (hr : (rd B.w k .nil).row ψ Kd.u8 = some ys) (hy : Frz ψ Kd.u8 ys y φ'') :
    BookOk φ'' (({ C with o := C.o ++ [rd B.w k .nil], t := C.t ++ [y], f := C.f ++ [rd B.w k .nil], r := C.r ++ [rd B.m k 0] } : BS).rest B.w B.n B.m B.d (k + 1)) := by
  have mm := drop_rd (show k < B.m.length by omega) (0 : Int)
  refine ⟨hg.written ha hr hy, ht.frz hy, ?_, ?_, ?_, fun x hx => hb.mb x ?_, fun x hx => ?_, ?_, hb.few, hb.turn⟩
  · have := hb.lm
    simp only [BS.rest, List.length_append, List.length_drop] at this ⊢
    omega
  · have := hb.ld
    simp only [BS.rest, List.length_append, List.length_drop] at this ⊢
    omega
  · have := hb.lr
    simp only [BS.rest, List.length_append, List.length_singleton] at this ⊢
    omega
  · simp only [BS.rest, List.mem_append] at hx ⊢
    rcases hx with hx | hx
    · exact .inl hx
    · exact .inr (by rw [mm]; exact List.mem_cons_of_mem _ hx)
  · simp only [BS.rest, List.mem_append, List.mem_singleton] at hx
    rcases hx with hx | rfl
    · exact hb.rb x hx
    · exact hb.mb _ (by simp only [BS.rest, List.mem_append]; exact .inr (by rw [mm]; simp))
  · have := hb.cnt
    simp only [BS.rest, List.length_append, List.length_drop, List.length_singleton] at this ⊢
    omega
theorem mT_ok (B : BS) (φ : Bag KK) : CtOk Tryz.prog 92 (ct_mT B φ) := CtOk_of KK_ok tabB (ann_mT B φ) (fn := Tryz.f92) rfl (fun _ _ => rfl) fun hn => by
  have hn : BookOk φ B := hn
  have hon : B.n.length = B.w.length := (All2.length hn.good.note).symm
  have hlm := hn.lm
  have hld := hn.ld
  have hcB := hn.cnt
  have hfB := hn.few
  rw [vc_mT]
  simp only [Int.toNat_natCast, Nat.zero_add, Nat.add_zero]
  refine ite2_decide (fun h0 => ⟨(B, φ), [], [0, 1, 2, 3, 4, 5, 6, 7, 8, 9, 1, 2, 3, 4, 5, 6, 7, 8], ⟨hn, ⟨rfl, rfl, rfl⟩, Stays.refl _ _⟩, by (repeat' first | exact trivial | exact rfl | apply And.intro)⟩) (fun h0 => ⟨⟨({ B with w := [], n := [], m := [], d := [] }, φ, (0 : Nat)), [.ru8, .ru8, .int, .int], [0, 1, 2, 3, 4, 5, 6, 7, 8, 9, 1, 2, 5, 8, 3, 4, 6, 7, 10, 11, 12, 13], ⟨Nat.zero_le _, hn, rfl, rfl, rfl, ⟨rfl, rfl, rfl⟩, Stays.refl _ _⟩, trivial, into_mk (by kernel_rfl) (by (repeat' first | exact trivial | exact rfl | apply And.intro)) (by (repeat' first | exact trivial | exact rfl | apply And.intro))⟩, ?_⟩)
  rintro ⟨C, φ', k⟩ ⟨hk, hb, e1, e2, e3, hs, hst⟩
  have hs : SameB B C := hs
  have hst : Stays φ B.bk φ' (C.rest B.w B.n B.m B.d k).bk := hst
  have hb : BookOk φ' (C.rest B.w B.n B.m B.d k) := hb
  dsimp only at hk e1 e2 e3 ⊢
  have hcnt := hb.cnt
  have hfew := hb.few
  have hlo : (C.o.length : Int) + 2 * (C.w ++ B.w.drop k).length + C.f.length = 2 * C.seen := hcnt
  have hfew : C.seen ≤ 100000 := hfew
  simp only [List.length_append, List.length_drop] at hlo
  have hto : C.o.length = C.t.length := All2.length hb.good.told
  have hrf : C.r.length = C.f.length := hb.lr
  refine ite2_decide (fun hl => ?_) (fun hl => ?_)
  · have hl1 : k < B.w.length := by omega
    have hl2 : k < B.n.length := by omega
    have hl3 : k < B.m.length := by omega
    have hl4 : k < B.d.length := by omega
    refine ⟨⟨by omega, by omega⟩, hl1, trivial, hl1, ⟨by omega, by omega⟩, hl3, trivial, hl3, ⟨by omega, by omega⟩, hl4, trivial, hl4, ite2_decide (fun hdue => ?_) (fun hdue => ?_)⟩
    · exact ⟨trivial, trivial, ⟨Nat.le_refl _, trivial⟩, by omega, ⟨by omega, by omega⟩, hl2, trivial, hl2, trivial, ⟨trivial, trivial⟩, trivial, ⟨Nat.le_refl _, trivial⟩, by omega, trivial, trivial, trivial, ⟨Nat.le_refl _, trivial⟩, by omega, ⟨by omega, by omega⟩, hl4, trivial, hl4, trivial, ⟨trivial, trivial⟩, trivial, ⟨Nat.le_refl _, trivial⟩, by omega, trivial, trivial, by unfold i64ok; omega,
        ({ C with w := C.w ++ [rd B.w k .nil], n := C.n ++ [rd B.n k .nil], m := C.m ++ [rd B.m k 0], d := C.d ++ [rd B.d k 0] }, φ', (k + 1 : Nat)), [], [0, 1, 2, 3, 4, 5, 6, 7, 8, 9, 10, 11, 12, 13, 14, 15, 16, 17, 23, 25, 27, 29], ⟨hl1, by show BookOk φ' _; rw [rest_later B C k hl1 hon hlm hld]; exact hb, by simp [e1], by simp [e2], by simp [e3], hs, by have h := hst; rw [← rest_later B C k hl1 hon hlm hld] at h; exact h⟩, by show B.w.length - (k + 1) < B.w.length - k; omega,
        into_mk (by kernel_rfl) (by (repeat' first | exact trivial | exact rfl | exact len_snoc _ _ | apply And.intro)) (by (repeat' first | exact trivial | exact rfl | exact len_snoc _ _ | apply And.intro))⟩
    · have hg := hb.good
      have hg : BkOk φ' Kd.u8 1000000 ⟨C.o, C.t, C.w ++ B.w.drop k, C.n ++ B.n.drop k, C.f⟩ := hg
      rw [drop_rd hl1 .nil, drop_rd hl2 .nil] at hg
      have hst : Stays φ B.bk φ' ⟨C.o, C.t, C.w ++ B.w.drop k, C.n ++ B.n.drop k, C.f⟩ := hst
      rw [drop_rd hl1 .nil, drop_rd hl2 .nil] at hst
      obtain ⟨hg', ha, xs, x1, x2, x3⟩ := hg.take e1
      have x3' : (xs : List Int).length ≤ 1000000 := x3
      have hmk := hb.mb (rd B.m k 0) (by simp only [BS.rest, List.mem_append]; exact .inr (by rw [drop_rd hl3 0]; simp))
      refine ⟨trivial, ⟨by omega, by omega⟩, hl2, trivial, hl2, ⟨xs, x1, x2, le_big (le_150 x3)⟩, into_mk (by kernel_rfl) (by (repeat' first | exact trivial | exact rfl | apply And.intro)) (by (repeat' first | exact trivial | exact rfl | apply And.intro)), fun _ _ => ⟨⟨((0 : Nat), φ'), [], [0, 1, 2, 3, 4, 5, 6, 7, 8, 9, 10, 11, 12, 13, 14, 15, 16, 17, 18, 19, 20, 21], ⟨Nat.zero_le _, hg', ha, hb.tab, fun _ _ h _ _ => h⟩, trivial, into_mk (by kernel_rfl) (by (repeat' first | exact trivial | exact rfl | apply And.intro)) (by (repeat' first | exact trivial | exact rfl | apply And.intro))⟩, ?_⟩⟩
      rintro ⟨i, ψ⟩ ⟨hi, gg, aa, tt, kk⟩
      dsimp only at hi gg aa tt ⊢
      have kk : Keep1 φ' ⟨C.o, C.t, C.w ++ B.w.drop (k + 1), C.n ++ B.n.drop (k + 1), C.f⟩ (rd B.w k .nil) ψ := kk
      obtain ⟨zs, z1, z2, z3⟩ := aa.whole
      have hzl := RS.row_len z2
      have z3' : (zs : List Int).length ≤ 1000000 := z3
      refine ite2_decide (fun hil => ?_) (fun hil => ?_)
      · have hil1 : i < (rd B.w k RS.nil).len := by omega
        have hzb : (rd B.w k RS.nil).len ≤ 1000000 := by omega
        obtain ⟨cap, us, u1, u2, _⟩ := RS.rd z2 hil1 (0 : Int)
        have hne : rd B.w k RS.nil ≠ .nil := fun e => by rw [e] at hil1; simp [RS.len] at hil1
        refine ⟨by unfold i64ok; omega, by unfold i64ok; omega, ⟨by omega, by omega⟩, cap, us, u1, u2, by unfold i64ok; omega, ((i + 1 : Nat), bput ψ (rd B.w k RS.nil).blk (.row Kd.u8 cap (us.set ((rd B.w k RS.nil).lo + i) (IntKind.wrap .u8 (rd B.m k 0 + 3 * i))))), [], [0, 1, 2, 3, 4, 5, 6, 7, 8, 9, 10, 11, 12, 13, 14, 15, 16, 17, 18, 19, 20, 21], ⟨hil1, gg.write aa.off ⟨hne, rfl⟩, aa.write u1 hne _ _, tt.put, kk.put hne⟩, ?_, into_mk (by kernel_rfl) (by (repeat' first | exact trivial | exact rfl | apply And.intro)) (by (repeat' first | exact trivial | exact rfl | apply And.intro))⟩
        show (rd B.w k RS.nil).len - (i + 1) < (rd B.w k RS.nil).len - i
        omega
      · have key : ∀ y φ'', Frz ψ Kd.u8 zs y φ'' → BookOk φ'' (({ C with o := C.o ++ [rd B.w k .nil], t := C.t ++ [y], f := C.f ++ [rd B.w k .nil], r := C.r ++ [rd B.m k 0] } : BS).rest B.w B.n B.m B.d (k + 1)) := fun y φ'' hy => book_written hb hl1 hon hlm hld e1 gg aa tt z2 hy
        have kst : ∀ y φ'', Frz ψ Kd.u8 zs y φ'' → Stays φ B.bk φ'' (({ C with o := C.o ++ [rd B.w k .nil], t := C.t ++ [y], f := C.f ++ [rd B.w k .nil], r := C.r ++ [rd B.m k 0] } : BS).rest B.w B.n B.m B.d (k + 1)).bk := fun y φ'' hy => hst.trans (kk.written hy)
        refine ⟨trivial, ⟨Nat.le_refl _, trivial⟩, by omega, trivial, ⟨trivial, trivial⟩, trivial, zs, z2, le_lim (le_150 z3), ⟨trivial, trivial⟩, trivial, fun hz => ⟨⟨trivial, trivial⟩, trivial, ⟨Nat.le_refl _, trivial⟩, by omega, trivial, trivial, trivial, ⟨Nat.le_refl _, trivial⟩, by omega, trivial, ⟨Nat.le_refl _, trivial⟩, by omega, by unfold i64ok; omega,
          ({ C with o := C.o ++ [rd B.w k .nil], t := C.t ++ [.nil], f := C.f ++ [rd B.w k .nil], r := C.r ++ [rd B.m k 0] }, ψ, (k + 1 : Nat)), [], [0, 1, 2, 3, 4, 5, 6, 7, 8, 9, 23, 27, 29, 31, 14, 15, 16, 17, 18, 19, 20, 21], ⟨hl1, key _ _ (.nil_ hz), e1, e2, e3, hs, kst _ _ (.nil_ hz)⟩, by show B.w.length - (k + 1) < B.w.length - k; omega, into_mk (by kernel_rfl) (by (repeat' first | exact trivial | exact rfl | exact len_snoc _ _ | apply And.intro)) (by (repeat' first | exact trivial | exact rfl | exact len_snoc _ _ | apply And.intro))⟩, fun b c hfr hc => ⟨⟨trivial, trivial⟩, trivial, ⟨Nat.le_refl _, trivial⟩, by omega, trivial, trivial, trivial, ⟨Nat.le_refl _, trivial⟩, by omega, trivial, ⟨Nat.le_refl _, trivial⟩, by omega, by unfold i64ok; omega,
          ({ C with o := C.o ++ [rd B.w k .nil], t := C.t ++ [.mk b 0 zs.length c], f := C.f ++ [rd B.w k .nil], r := C.r ++ [rd B.m k 0] }, bput ψ b (.row Kd.u8 c zs), (k + 1 : Nat)), [], [0, 1, 2, 3, 4, 5, 6, 7, 8, 9, 23, 27, 29, 31, 14, 15, 16, 17, 18, 19, 20, 21], ⟨hl1, key _ _ (.mk b c hfr hc), e1, e2, e3, hs, kst _ _ (.mk b c hfr hc)⟩, by show B.w.length - (k + 1) < B.w.length - k; omega, into_mk (by kernel_rfl) (by (repeat' first | exact trivial | exact rfl | exact len_snoc _ _ | apply And.intro)) (by (repeat' first | exact trivial | exact rfl | exact len_snoc _ _ | apply And.intro))⟩⟩
  · obtain rfl : k = B.w.length := by omega
    have hb' : BookOk φ' C := by rw [rest_end B C hon hlm hld] at hb; exact hb
    have hst' : Stays φ B.bk φ' C.bk := by have h := hst; rw [rest_end B C hon hlm hld] at h; exact h
    exact ⟨(C, φ'), [], [0, 1, 2, 3, 4, 5, 6, 7, 8, 9, 10, 11, 18, 19, 12, 20, 21, 13], ⟨hb', hs, hst'⟩, by (repeat' first | exact trivial | exact rfl | apply And.intro)⟩
end Go.Proofs.YtndlpbheifalhaaGreatDoor.T
