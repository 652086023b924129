/- What is known by its place: how it is looked up; and contracts whose lists, only read, are known by their places. -/
import Derived.Test.YtndlpbheifalhaaGreatDoorEa
namespace Go.Proofs.YtndlpbheifalhaaGreatDoor.E
set_option linter.unusedVariables false
set_option linter.unusedSimpArgs false
variable {K : Kinds} {P : Program}
theorem RS.rd {φ : Bag K} {kd : K.Kd} {x : RS} {ys : List (K.α kd)} (h : x.row φ kd = some ys) {i : Nat} (hi : i < x.len) (d : K.α kd) :
    ∃ cap xs, φ x.blk = some (.row kd cap xs) ∧ x.lo + i < xs.length ∧ E.rd xs (x.lo + i) d = E.rd ys i d := by
  cases x with
  | nil => simp [RS.len] at hi
  | mk b lo len cap =>
    obtain ⟨c, xs, hφ, h1, h2, h3, rfl⟩ := RS.row_mk h
    simp only [RS.len] at hi
    refine ⟨c, xs, hφ, by simp only [RS.lo]; omega, ?_⟩
    simp only [RS.lo, E.rd, List.getD_eq_getElem?_getD, List.getElem?_take, List.getElem?_drop, hi, if_true]
theorem bput_same {φ : Bag K} {b : Nat} {i : BI K} : bput φ b i b = some i := if_pos rfl
theorem bput_other {φ : Bag K} {b c : Nat} {i : BI K} (h : c ≠ b) : bput φ b i c = φ c := if_neg h
/-- Another block's row stays. -/
theorem RS.row_other {φ ψ : Bag K} {kd : K.Kd} {x : RS} {ys : List (K.α kd)} (h : x.row φ kd = some ys) (hb : x ≠ .nil → ψ x.blk = φ x.blk) : x.row ψ kd = some ys := by
  cases x with
  | nil => exact h
  | mk b lo len cap =>
    have hb := hb (by simp)
    simp only [RS.blk] at hb
    simp only [RS.row, hb] at h ⊢
    exact h
/-- A row that stands in a bag isn't where the bag has nothing. -/
theorem RS.row_ne {φ : Bag K} {kd : K.Kd} {x : RS} {ys : List (K.α kd)} (h : x.row φ kd = some ys) {b : Nat} (hb : φ b = none) (hx : x ≠ .nil) : x.blk ≠ b := by
  cases x with
  | nil => exact absurd rfl hx
  | mk c lo len cap =>
    obtain ⟨c', xs, hφ, _⟩ := RS.row_mk h
    intro e
    simp only [RS.blk] at e
    rw [e, hb] at hφ; cases hφ
theorem RS.row_fresh {φ : Bag K} {kd : K.Kd} {x : RS} {ys : List (K.α kd)} (h : x.row φ kd = some ys) {b : Nat} (hb : φ b = none) (i : BI K) : x.row (bput φ b i) kd = some ys :=
  RS.row_other h fun hx => bput_other (RS.row_ne h hb hx)
/-- A contract over a list that is only read, for a list that is known by its place. -/
def Ct.raw (ct : Ct K) (e : TypeId) (kd : K.Kd) (x : RS) (xs : List (K.α kd)) (φ : Bag K) (b : List VV) : Ct K :=
  { need := ct.need ∧ x.row φ kd = some xs, pre := [.bag φ], args := .c (.rs e (K.size kd) x) :: b, Y := ct.Y, ok := ct.ok, ret := ct.ret, post := fun _ => [.bag φ] }
theorem CtOk.raw (hK : K.Ok) {f : FuncId} {ct : Ct K} (h : CtOk P f ct) (e : TypeId) {kd : K.Kd} {x : RS} {xs : List (K.α kd)} {φ : Bag K} {b : List VV}
    (hpre : ct.pre = [.ro kd xs]) (hargs : ct.args = .c (.slc 0 0 xs.length none) :: b) (hb : ∀ v ∈ b, v.lt 0) (hret : ∀ y, (ct.ret y).lt 0) : CtOk P f (ct.raw e kd x xs φ b) := by
  refine ⟨h.enter, fun hn r w vals st ha hal => ?_⟩
  obtain ⟨hneed, hrow⟩ := hn
  have hlen := RS.row_len hrow
  have hbag : ∀ c i, φ c = some i → i.ok c w := st.ok 0
  obtain ⟨R, hRv, hRok⟩ : ∃ R : Ref, (C.slc 0 0 xs.length none).is (fun _ => R) (x.val (K.size kd)) ∧ Atom.ok (fun _ => R) R w (.ro kd xs) := by
    cases x with
    | nil =>
      simp only [RS.row] at hrow
      injection hrow with hrow
      subst hrow
      exact ⟨⟨0, K.size kd, 0, true, 0⟩, ⟨none, rfl, .inr rfl⟩, rfl, Nat.le_refl _, fun _ => rfl, fun h => absurd rfl h⟩
    | mk c lo len cap =>
      obtain ⟨c', ys, hφ, h1, h2, h3, rfl⟩ := RS.row_mk hrow
      have hl : ((ys.drop lo).take len).length = len := by simp; omega
      refine ⟨⟨c, K.size kd, cap, false, lo * K.size kd⟩, ⟨some ⟨c, lo * K.size kd, none⟩, by simp [RS.val, hl], .inr (by simp)⟩, rfl, by rw [hl]; exact h3, fun h => (by cases h), fun hne => ⟨BI.ok_lt (hbag c _ hφ), ?_⟩⟩
      intro j u hj
      have := lst_cells hK (a := .arr kd ys) rfl (rowOk (r := fun _ => (⟨c, K.size kd, c', false, 0⟩ : Ref)) (hbag c _ hφ)) lo len h1 (by
        have := List.length_pos_iff.2 hne; omega) j u hj
      simpa [Addr.add_lit] using this
  have st1 : HeapOK (Ours (fun _ => R) ct.pre) w (fun _ => R) ct.pre w := by
    rw [hpre]
    have off : ∀ n, n ≠ 0 → at_ [Atom.ro kd xs] n = .gone := fun n hn => at_ge (by simp; omega)
    have none_ : ∀ n c, ¬ blkOf (fun _ => R) [Atom.ro kd xs] n c := fun n c hc => by
      by_cases e : n = 0
      · subst e; exact hc
      · rw [blkOf, off n e] at hc; exact hc
    refine ⟨fun n => ?_, fun n => ?_, fun n m c _ h1 => absurd h1 (none_ n c), fun n c h1 => absurd h1 (none_ n c), fun n m c _ => none_ m c, Out.refl _ w⟩
    · by_cases e : n = 0
      · subst e; exact hRok
      · rw [off n e]; trivial
    · by_cases e : n = 0
      · subst e; trivial
      · rw [off n e]; trivial
  have ours : ∀ c, ¬ Ours (fun _ => R) ct.pre c := fun c ⟨m, hm⟩ => by
    rw [hpre] at hm
    by_cases e : m = 0
    · subst e; exact hm
    · rw [blkOf, at_ge (by simp; omega)] at hm; exact hm
  have ha1 : Are (fun _ => R) ct.args vals := by
    rw [hargs]
    cases vals with
    | nil => exact ha.elim
    | cons v vs =>
      obtain ⟨h1, h2⟩ := ha
      have h1 : v = x.val (K.size kd) := h1
      exact ⟨by rw [h1]; exact hRv, Are.congr (N := 0) (fun n hn => absurd hn (Nat.not_lt_zero n)) hb h2⟩
  refine (h.calls hneed (fun _ => R) w vals st1 ha1 (fun y hy => ?_)).mono ?_
  · rw [hargs] at hy
    rw [hpre]
    rcases List.mem_cons.1 hy with rfl | hy
    · intro n hn; simp [C.nm] at hn; subst hn; simp
    · exact VV.lt_mono (hb y hy) (Nat.zero_le _)
  · rintro e' w' ⟨v', rfl, r2, vv, H2, ⟨y, hy, rfl, rfl⟩, hvis, _, _, _, _, st2⟩
    refine ⟨v', rfl, r, ct.ret y, [.bag φ], ⟨y, hy, rfl, rfl⟩, VV.is_congr (hret y) (fun n hn => absurd hn (Nat.not_lt_zero n)) hvis, VV.lt_mono (hret y) (Nat.zero_le _), Nat.le_refl _, fun _ _ => rfl, RoKeep.refl _, ?_⟩
    have hst : HeapOK (Ours r [Atom.bag φ]) w r [Atom.bag φ] w := st
    have keep : ∀ c, c < w.heap.size → w'.heap[c]? = w.heap[c]? := fun c hc => st2.out.block c hc (ours c)
    exact hst.bagStep (m := 0) (φ' := φ) rfl st2.out.os st2.out.tape st2.out.output st2.out.size (fun c hc _ => keep c hc) (fun c i hi => BI.ok_keep (hbag c i hi) (keep c (BI.ok_lt (hbag c i hi)))) (fun c i hi => .inl ⟨i, hi⟩)
end Go.Proofs.YtndlpbheifalhaaGreatDoor.E
