/- A book of lists that are known by their places: laws of bags alone. -/
import Derived.Test.YtndlpbheifalhaaGreatDoorEk
namespace Go.Proofs.YtndlpbheifalhaaGreatDoor.E
set_option linter.unusedVariables false
set_option linter.unusedSimpArgs false
variable {K : Kinds}
def RS.At (x : RS) (b : Nat) : Prop := x ≠ .nil ∧ x.blk = b
/-- Two slices lie in different blocks. -/
def RS.Off (x y : RS) : Prop := ∀ b, x.At b → ¬ y.At b
theorem RS.Off.symm {x y : RS} (h : x.Off y) : y.Off x := fun b h1 h2 => h b h2 h1
def All2 {A B : Type} (R : A → B → Prop) : List A → List B → Prop
  | [], [] => True
  | a :: l, b :: m => R a b ∧ All2 R l m
  | _, _ => False
theorem All2.length {A B : Type} {R : A → B → Prop} : ∀ {l : List A} {m : List B}, All2 R l m → l.length = m.length
  | [], [], _ => rfl
  | _ :: _, _ :: _, h => by simp [All2.length h.2]
  | [], _ :: _, h => h.elim
  | _ :: _, [], h => h.elim
theorem All2.mono {A B : Type} {R S : A → B → Prop} : ∀ {l : List A} {m : List B}, All2 R l m → (∀ a b, a ∈ l → b ∈ m → R a b → S a b) → All2 S l m
  | [], [], _, _ => trivial
  | a :: l, b :: m, h, k => ⟨k a b (by simp) (by simp) h.1, All2.mono h.2 fun a' b' h1 h2 => k a' b' (by simp [h1]) (by simp [h2])⟩
  | [], _ :: _, h, _ => h.elim
  | _ :: _, [], h, _ => h.elim
theorem All2.snoc {A B : Type} {R : A → B → Prop} {a : A} {b : B} : ∀ {l : List A} {m : List B}, All2 R l m → R a b → All2 R (l ++ [a]) (m ++ [b])
  | [], [], _, k => ⟨k, trivial⟩
  | _ :: _, _ :: _, h, k => ⟨h.1, All2.snoc h.2 k⟩
  | [], _ :: _, h, _ => h.elim
  | _ :: _, [], h, _ => h.elim
theorem All2.rd {A B : Type} {R : A → B → Prop} (d : A) (e : B) : ∀ {l : List A} {m : List B}, All2 R l m → ∀ i, i < l.length → R (E.rd l i d) (E.rd m i e)
  | a :: l, b :: m, h, 0, _ => h.1
  | a :: l, b :: m, h, i + 1, hi => by
    have := All2.rd d e h.2 i (by simpa using hi)
    simpa [E.rd] using this
  | [], [], _, i, hi => by simp at hi
  | [], _ :: _, h, _, _ => h.elim
  | _ :: _, [], h, _, _ => h.elim
theorem All2.out {A B : Type} {R : A → B → Prop} {a : A} {b : B} {l' : List A} {m' : List B} : ∀ {l : List A} {m : List B}, All2 R (l ++ a :: l') (m ++ b :: m') → l.length = m.length → All2 R (l ++ l') (m ++ m') ∧ R a b
  | [], [], h, _ => ⟨h.2, h.1⟩
  | _ :: _, _ :: _, h, e => ⟨⟨h.1, (All2.out h.2 (by simpa using e)).1⟩, (All2.out h.2 (by simpa using e)).2⟩
  | [], _ :: _, _, e => by simp at e
  | _ :: _, [], _, e => by simp at e
theorem All2.left {A B : Type} {R : A → B → Prop} {p : A → Prop} : ∀ {l : List A} {m : List B}, All2 R l m → (∀ a b, R a b → p a) → ∀ a ∈ l, p a
  | [], [], _, _, a, h => by simp at h
  | x :: l, y :: m, h, k, a, ha => by
    rcases List.mem_cons.1 ha with rfl | ha
    · exact k _ _ h.1
    · exact All2.left h.2 k a ha
  | [], _ :: _, h, _, _, _ => h.elim
  | _ :: _, [], h, _, _, _ => h.elim
theorem All2.right {A B : Type} {R : A → B → Prop} {p : B → Prop} : ∀ {l : List A} {m : List B}, All2 R l m → (∀ a b, R a b → p b) → ∀ b ∈ m, p b
  | [], [], _, _, a, h => by simp at h
  | x :: l, y :: m, h, k, a, ha => by
    rcases List.mem_cons.1 ha with rfl | ha
    · exact k _ _ h.1
    · exact All2.right h.2 k a ha
  | [], _ :: _, h, _, _, _ => h.elim
  | _ :: _, [], h, _, _, _ => h.elim
theorem drop_rd {A : Type} {l : List A} {k : Nat} (h : k < l.length) (d : A) : l.drop k = E.rd l k d :: l.drop (k + 1) := by
  rw [List.drop_eq_getElem_cons h, E.rd, List.getD_eq_getElem?_getD, List.getElem?_eq_getElem h]; rfl
/-! ### rows -/
theorem RS.full_row {φ : Bag K} {kd : K.Kd} {x : RS} {xs : List (K.α kd)} (h : x.full φ kd = some xs) (hc : xs.length ≤ x.cap ∨ x = .nil) : x.row φ kd = some xs := by
  cases x with
  | nil => exact h
  | mk b lo len cap =>
    obtain ⟨h1, rfl, rfl⟩ := RS.full_mk h
    have hc : xs.length ≤ cap := hc.resolve_right (fun h => by cases h)
    have := RS.row_of (lo := 0) (len := xs.length) (cap := cap) h1 (by omega) (by omega) hc
    rw [this]; simp
theorem RS.row_keep {φ ψ : Bag K} {kd : K.Kd} {x : RS} {ys : List (K.α kd)} (h : x.row φ kd = some ys) (hb : ∀ b, x.At b → ψ b = φ b) : x.row ψ kd = some ys :=
  RS.row_other h fun hx => hb _ ⟨hx, rfl⟩
theorem RS.full_keep {φ ψ : Bag K} {kd : K.Kd} {x : RS} {ys : List (K.α kd)} (h : x.full φ kd = some ys) (hb : ∀ b, x.At b → ψ b = φ b) : x.full ψ kd = some ys := by
  cases x with
  | nil => exact h
  | mk b lo len cap =>
    have := hb b ⟨by simp, rfl⟩
    simp only [RS.full, this] at h ⊢
    exact h
theorem RS.row_at {φ : Bag K} {kd : K.Kd} {x : RS} {ys : List (K.α kd)} (h : x.row φ kd = some ys) {b : Nat} (hb : x.At b) : ∃ i, φ b = some i := by
  cases x with
  | nil => exact absurd rfl hb.1
  | mk c lo len cap =>
    obtain ⟨c', xs, hφ, _⟩ := RS.row_mk h
    have : c = b := hb.2
    subst this
    exact ⟨_, hφ⟩
theorem RS.off_none {φ : Bag K} {kd : K.Kd} {x y : RS} {ys : List (K.α kd)} (h : x.row φ kd = some ys) (hy : ∀ b, y.At b → φ b = none) : x.Off y := fun b h1 h2 => by
  obtain ⟨i, hi⟩ := RS.row_at h h1
  rw [hy b h2] at hi; cases hi
/-- A list of one's own that is known by its place from here on. -/
inductive Frz (φ : Bag K) (kd : K.Kd) (xs : List (K.α kd)) : RS → Bag K → Prop where
  | nil_ : xs = [] → Frz φ kd xs .nil φ
  | mk (b c : Nat) : φ b = none → xs.length ≤ c → Frz φ kd xs (.mk b 0 xs.length c) (bput φ b (.row kd c xs))
/-- A slice that is its block's whole row, not longer than so. -/
def RS.Whole (φ : Bag K) (kd : K.Kd) (L : Nat) (x : RS) : Prop := ∃ xs, x.full φ kd = some xs ∧ x.row φ kd = some xs ∧ xs.length ≤ L
def RS.Alike (φ : Bag K) (kd : K.Kd) (L : Nat) (x y : RS) : Prop := ∃ xs, x.row φ kd = some xs ∧ y.row φ kd = some xs ∧ xs.length ≤ L
def Ext (φ ψ : Bag K) : Prop := ∀ b i, φ b = some i → ψ b = some i
theorem Ext.refl (φ : Bag K) : Ext φ φ := fun _ _ h => h
theorem Ext.trans {φ ψ χ : Bag K} (h : Ext φ ψ) (k : Ext ψ χ) : Ext φ χ := fun b i hb => k b i (h b i hb)
theorem Ext.put {φ : Bag K} {b : Nat} {i : BI K} (h : φ b = none) : Ext φ (bput φ b i) := fun c j hj => by
  unfold bput
  split
  · rename_i e; rw [e, h] at hj; cases hj
  · exact hj
theorem Ext.keep {φ ψ : Bag K} (h : Ext φ ψ) {kd : K.Kd} {x : RS} {ys : List (K.α kd)} (hr : x.row φ kd = some ys) : ∀ b, x.At b → ψ b = φ b := fun b hb => by
  obtain ⟨i, hi⟩ := RS.row_at hr hb
  rw [hi]; exact h b i hi
theorem Frz.ext {φ φ' : Bag K} {kd : K.Kd} {xs : List (K.α kd)} {y : RS} (h : Frz φ kd xs y φ') : Ext φ φ' := by
  cases h with
  | nil_ h => exact Ext.refl _
  | mk b c h1 h2 => exact Ext.put h1
theorem Frz.at_ {φ φ' : Bag K} {kd : K.Kd} {xs : List (K.α kd)} {y : RS} (h : Frz φ kd xs y φ') : ∀ b, y.At b → φ b = none := fun b hb => by
  cases h with
  | nil_ h => exact absurd rfl hb.1
  | mk c cap h1 h2 =>
    have : c = b := hb.2
    subst this; exact h1
theorem Frz.whole {φ φ' : Bag K} {kd : K.Kd} {xs : List (K.α kd)} {y : RS} (h : Frz φ kd xs y φ') : y.full φ' kd = some xs ∧ y.row φ' kd = some xs := by
  cases h with
  | nil_ h => subst h; exact ⟨rfl, rfl⟩
  | mk c cap h1 h2 =>
    have h3 : RS.full (bput φ c (.row kd cap xs)) kd (.mk c 0 xs.length cap) = some xs := RS.full_of bput_same
    exact ⟨h3, RS.full_row h3 (.inl h2)⟩
/-! ### the book's lists of one kind -/
structure Bk where
  out : List RS
  told : List RS
  waits : List RS
  note : List RS
  fresh : List RS
def Bk.all (B : Bk) : List RS := B.out ++ (B.told ++ (B.waits ++ (B.note ++ B.fresh)))
structure BkOk (φ : Bag K) (kd : K.Kd) (L : Nat) (B : Bk) : Prop where
  told : All2 (RS.Alike φ kd (L + 150)) B.out B.told
  note : All2 (RS.Alike φ kd L) B.waits B.note
  whole : ∀ x ∈ B.waits, x.Whole φ kd L
  fwhole : ∀ x ∈ B.fresh, x.Whole φ kd L
  apart : B.waits.Pairwise RS.Off
  fapart : B.fresh.Pairwise RS.Off
  offF : ∀ x ∈ B.waits, ∀ y ∈ B.fresh, x.Off y
  offN : ∀ x, x ∈ B.waits ∨ x ∈ B.fresh → ∀ y, y ∈ B.told ∨ y ∈ B.note → x.Off y
  offO : ∀ x ∈ B.waits, ∀ y ∈ B.out, x.Off y
  fOut : ∀ x ∈ B.fresh, ∀ y ∈ B.out, ∀ b, x.At b → y.At b → y.lo + y.len ≤ x.len
theorem Bk.mem {B : Bk} {x : RS} : x ∈ B.all ↔ x ∈ B.out ∨ x ∈ B.told ∨ x ∈ B.waits ∨ x ∈ B.note ∨ x ∈ B.fresh := by simp [Bk.all]
theorem BkOk.has {φ : Bag K} {kd : K.Kd} {L : Nat} {B : Bk} (h : BkOk φ kd L B) : ∀ x ∈ B.all, ∃ xs, x.row φ kd = some xs := fun x hx => by
  rcases Bk.mem.1 hx with hx | hx | hx | hx | hx
  · exact All2.left (p := fun x => ∃ xs, x.row φ kd = some xs) h.told (fun a b ⟨xs, h1, _⟩ => ⟨xs, h1⟩) x hx
  · exact All2.right (p := fun x => ∃ xs, x.row φ kd = some xs) h.told (fun a b ⟨xs, _, h1, _⟩ => ⟨xs, h1⟩) x hx
  · obtain ⟨xs, _, h1, _⟩ := h.whole x hx; exact ⟨xs, h1⟩
  · exact All2.right (p := fun x => ∃ xs, x.row φ kd = some xs) h.note (fun a b ⟨xs, _, h1, _⟩ => ⟨xs, h1⟩) x hx
  · obtain ⟨xs, _, h1, _⟩ := h.fwhole x hx; exact ⟨xs, h1⟩
theorem BkOk.keep {φ ψ : Bag K} {kd : K.Kd} {L : Nat} {B : Bk} (h : BkOk φ kd L B) (hb : ∀ x ∈ B.all, ∀ b, x.At b → ψ b = φ b) : BkOk ψ kd L B where
  told := h.told.mono fun a b ha hb' ⟨xs, h1, h2, h3⟩ => ⟨xs, RS.row_keep h1 (hb a (Bk.mem.2 (.inl ha))), RS.row_keep h2 (hb b (Bk.mem.2 (.inr (.inl hb')))), h3⟩
  note := h.note.mono fun a b ha hb' ⟨xs, h1, h2, h3⟩ => ⟨xs, RS.row_keep h1 (hb a (Bk.mem.2 (.inr (.inr (.inl ha))))), RS.row_keep h2 (hb b (Bk.mem.2 (.inr (.inr (.inr (.inl hb')))))), h3⟩
  whole := fun x hx => by
    obtain ⟨xs, h1, h2, h3⟩ := h.whole x hx
    have := hb x (Bk.mem.2 (.inr (.inr (.inl hx))))
    exact ⟨xs, RS.full_keep h1 this, RS.row_keep h2 this, h3⟩
  fwhole := fun x hx => by
    obtain ⟨xs, h1, h2, h3⟩ := h.fwhole x hx
    have := hb x (Bk.mem.2 (.inr (.inr (.inr (.inr hx)))))
    exact ⟨xs, RS.full_keep h1 this, RS.row_keep h2 this, h3⟩
  apart := h.apart
  fapart := h.fapart
  offF := h.offF
  offN := h.offN
  offO := h.offO
  fOut := h.fOut
theorem BkOk.ext {φ ψ : Bag K} {kd : K.Kd} {L : Nat} {B : Bk} (h : BkOk φ kd L B) (e : Ext φ ψ) : BkOk ψ kd L B := h.keep fun x hx => by
  obtain ⟨xs, h1⟩ := h.has x hx
  exact e.keep h1
/-- A slice beside the book's lists. -/
structure Alone (φ : Bag K) (kd : K.Kd) (L : Nat) (B : Bk) (x : RS) : Prop where
  whole : x.Whole φ kd L
  off : ∀ y ∈ B.all, x.Off y
theorem RS.Whole.ext {φ ψ : Bag K} {kd : K.Kd} {L : Nat} {x : RS} (h : x.Whole φ kd L) (e : Ext φ ψ) : x.Whole ψ kd L := by
  obtain ⟨xs, h1, h2, h3⟩ := h
  exact ⟨xs, RS.full_keep h1 (e.keep h2), RS.row_keep h2 (e.keep h2), h3⟩
theorem Alone.ext {φ ψ : Bag K} {kd : K.Kd} {L : Nat} {B : Bk} {x : RS} (h : Alone φ kd L B x) (e : Ext φ ψ) : Alone ψ kd L B x := ⟨h.whole.ext e, h.off⟩
theorem BkOk.write {φ : Bag K} {kd : K.Kd} {L : Nat} {B : Bk} {x : RS} {i : BI K} (h : BkOk φ kd L B) (a : ∀ y ∈ B.all, x.Off y) {b : Nat} (hb : x.At b) : BkOk (bput φ b i) kd L B := h.keep fun y hy c hc => bput_other fun e => by
  subst e; exact a y hy c hb hc
/-- A list that waits is taken out. -/
theorem BkOk.take {φ : Bag K} {kd : K.Kd} {L : Nat} {o t w w' n n' f : List RS} {x y : RS} (h : BkOk φ kd L ⟨o, t, w ++ x :: w', n ++ y :: n', f⟩) (e : w.length = n.length) :
    BkOk φ kd L ⟨o, t, w ++ w', n ++ n', f⟩ ∧ Alone φ kd L ⟨o, t, w ++ w', n ++ n', f⟩ x ∧ x.Alike φ kd L y := by
  obtain ⟨h1, h2⟩ := All2.out h.note e
  have mem : ∀ z, z ∈ w ++ w' → z ∈ w ++ x :: w' := fun z hz => by
    rcases List.mem_append.1 hz with h | h <;> simp [h]
  have memn : ∀ z, z ∈ n ++ n' → z ∈ n ++ y :: n' := fun z hz => by
    rcases List.mem_append.1 hz with h | h <;> simp [h]
  have hx : x ∈ w ++ x :: w' := by simp
  have hp := h.apart
  have hp : (w ++ x :: w').Pairwise RS.Off := hp
  rw [List.pairwise_append] at hp
  obtain ⟨p1, p2, p3⟩ := hp
  rw [List.pairwise_cons] at p2
  refine ⟨⟨h.told, h1, fun z hz => h.whole z (mem z hz), h.fwhole, ?_, h.fapart, fun z hz => h.offF z (mem z hz), fun z hz u hu => h.offN z (hz.imp (mem z) id) u (hu.imp id (memn u)), fun z hz => h.offO z (mem z hz), h.fOut⟩, ⟨h.whole x hx, fun z hz => ?_⟩, h2⟩
  · show (w ++ w').Pairwise RS.Off
    rw [List.pairwise_append]
    exact ⟨p1, p2.2, fun a ha b hb => p3 a ha b (by simp [hb])⟩
  · rcases Bk.mem.1 hz with hz | hz | hz | hz | hz
    · exact h.offO x hx z hz
    · exact h.offN x (.inl hx) z (.inl hz)
    · rcases List.mem_append.1 hz with hz | hz
      · exact (p3 z hz x (by simp)).symm
      · exact p2.1 z hz
    · exact h.offN x (.inl hx) z (.inr (memn z hz))
    · exact h.offF x hx z hz
/-- A list comes, with its copy. -/
theorem BkOk.comes {φ : Bag K} {kd : K.Kd} {L : Nat} {o t w n f : List RS} {x y : RS} (h : BkOk φ kd L ⟨o, t, w, n, f⟩) (a : Alone φ kd L ⟨o, t, w, n, f⟩ x) (hy : x.Alike φ kd L y) (oy : ∀ z, z ∈ w ∨ z ∈ f ∨ z = x → z.Off y) :
    BkOk φ kd L ⟨o, t, w ++ [x], n ++ [y], f⟩ where
  told := h.told
  note := h.note.snoc hy
  whole := fun z hz => by
    rcases List.mem_append.1 hz with hz | hz
    · exact h.whole z hz
    · rw [List.mem_singleton.1 hz]; exact a.whole
  fwhole := h.fwhole
  apart := by
    show (w ++ [x]).Pairwise RS.Off
    rw [List.pairwise_append]
    exact ⟨h.apart, by simp, fun z hz u hu => by rw [List.mem_singleton.1 hu]; exact (a.off z (Bk.mem.2 (.inr (.inr (.inl hz))))).symm⟩
  fapart := h.fapart
  offF := fun z hz u hu => by
    rcases List.mem_append.1 hz with hz | hz
    · exact h.offF z hz u hu
    · rw [List.mem_singleton.1 hz]; exact a.off u (Bk.mem.2 (.inr (.inr (.inr (.inr hu)))))
  offN := fun z hz u hu => by
    have hv : u ∈ t ∨ u ∈ n ∨ u = y := hu.imp id fun hu => by
      rcases List.mem_append.1 hu with hu | hu
      · exact .inl hu
      · exact .inr (List.mem_singleton.1 hu)
    clear hu
    have hz' : (z ∈ w ∨ z ∈ f) ∨ z = x := by
      rcases hz with hz | hz
      · rcases List.mem_append.1 hz with hz | hz
        · exact .inl (.inl hz)
        · exact .inr (List.mem_singleton.1 hz)
      · exact .inl (.inr hz)
    clear hz
    rcases hv with hu | hu | rfl
    · rcases hz' with hz | rfl
      · exact h.offN z hz u (.inl hu)
      · exact a.off u (Bk.mem.2 (.inr (.inl hu)))
    · rcases hz' with hz | rfl
      · exact h.offN z hz u (.inr hu)
      · exact a.off u (Bk.mem.2 (.inr (.inr (.inr (.inl hu)))))
    · refine oy z ?_
      rcases hz' with (hz | hz) | hz
      · exact .inl hz
      · exact .inr (.inl hz)
      · exact .inr (.inr hz)
  offO := fun z hz u hu => by
    rcases List.mem_append.1 hz with hz | hz
    · exact h.offO z hz u hu
    · rw [List.mem_singleton.1 hz]; exact a.off u (Bk.mem.2 (.inl hu))
  fOut := h.fOut
/-- A list is noted as it is, behind the end of the book's, what is laid on it too. -/
structure Cur (φ : Bag K) (kd : K.Kd) (L : Nat) (B : Bk) (x : RS) : Prop where
  whole : x.Whole φ kd L
  off : ∀ y, y ∈ B.told ∨ y ∈ B.waits ∨ y ∈ B.note ∨ y ∈ B.fresh → x.Off y
  over : ∀ y ∈ B.out, ∀ b, x.At b → y.At b → y.lo + y.len ≤ x.len
theorem Alone.cur {φ : Bag K} {kd : K.Kd} {L : Nat} {B : Bk} {x : RS} (h : Alone φ kd L B x) : Cur φ kd L B x :=
  ⟨h.whole, fun y hy => h.off y (Bk.mem.2 (.inr hy)), fun y hy b h1 h2 => absurd h2 (h.off y (Bk.mem.2 (.inl hy)) b h1)⟩
theorem Cur.ext {φ ψ : Bag K} {kd : K.Kd} {L : Nat} {B : Bk} {x : RS} (h : Cur φ kd L B x) (e : Ext φ ψ) : Cur ψ kd L B x := ⟨h.whole.ext e, h.off, h.over⟩
theorem BkOk.noted {φ : Bag K} {kd : K.Kd} {L M : Nat} {o t w n f : List RS} {x y : RS} (h : BkOk φ kd L ⟨o, t, w, n, f⟩) (a : Cur φ kd M ⟨o, t, w, n, f⟩ x) (hy : x.Alike φ kd (L + 150) y) (oy : ∀ z, z ∈ w ∨ z ∈ f ∨ z = x → z.Off y) :
    BkOk φ kd L ⟨o ++ [x], t ++ [y], w, n, f⟩ where
  told := h.told.snoc hy
  note := h.note
  whole := h.whole
  fwhole := h.fwhole
  apart := h.apart
  fapart := h.fapart
  offF := h.offF
  offN := fun z hz u hu => by
    have hv : u = y ∨ u ∈ t ∨ u ∈ n := by
      rcases hu with hu | hu
      · rcases List.mem_append.1 hu with hu | hu
        · exact .inr (.inl hu)
        · exact .inl (List.mem_singleton.1 hu)
      · exact .inr (.inr hu)
    clear hu
    rcases hv with rfl | hu
    · exact oy z (hz.imp id .inl)
    · exact h.offN z hz u hu
  offO := fun z hz u hu => by
    rcases List.mem_append.1 hu with hu | hu
    · exact h.offO z hz u hu
    · rw [List.mem_singleton.1 hu]; exact (a.off z (.inr (.inl hz))).symm
  fOut := fun z hz u hu => by
    rcases List.mem_append.1 hu with hu | hu
    · exact h.fOut z hz u hu
    · rw [List.mem_singleton.1 hu]; intro b h1 h2; exact absurd h1 ((a.off z (.inr (.inr (.inr hz)))) b h2)
/-- A list that was written full waits to be laid on. -/
theorem BkOk.freshen {φ : Bag K} {kd : K.Kd} {L : Nat} {o t w n f : List RS} {x : RS} (h : BkOk φ kd L ⟨o, t, w, n, f⟩) (a : Cur φ kd L ⟨o, t, w, n, f⟩ x) : BkOk φ kd L ⟨o, t, w, n, f ++ [x]⟩ where
  told := h.told
  note := h.note
  whole := h.whole
  fwhole := fun z hz => by
    rcases List.mem_append.1 hz with hz | hz
    · exact h.fwhole z hz
    · rw [List.mem_singleton.1 hz]; exact a.whole
  apart := h.apart
  fapart := by
    show (f ++ [x]).Pairwise RS.Off
    rw [List.pairwise_append]
    exact ⟨h.fapart, by simp, fun z hz u hu => by rw [List.mem_singleton.1 hu]; exact (a.off z (.inr (.inr (.inr hz)))).symm⟩
  offF := fun z hz u hu => by
    rcases List.mem_append.1 hu with hu | hu
    · exact h.offF z hz u hu
    · rw [List.mem_singleton.1 hu]; exact (a.off z (.inr (.inl hz))).symm
  offN := fun z hz u hu => by
    rcases hz with hz | hz
    · exact h.offN z (.inl hz) u hu
    · rcases List.mem_append.1 hz with hz | hz
      · exact h.offN z (.inr hz) u hu
      · rw [List.mem_singleton.1 hz]
        rcases hu with hu | hu
        · exact a.off u (.inl hu)
        · exact a.off u (.inr (.inr (.inl hu)))
  offO := h.offO
  fOut := fun z hz u hu => by
    rcases List.mem_append.1 hz with hz | hz
    · exact h.fOut z hz u hu
    · rw [List.mem_singleton.1 hz]; exact a.over u hu
/-- The next one that is laid on. -/
theorem BkOk.next {φ : Bag K} {kd : K.Kd} {L : Nat} {o t w n f : List RS} {x : RS} (h : BkOk φ kd L ⟨o, t, w, n, x :: f⟩) : BkOk φ kd L ⟨o, t, w, n, f⟩ ∧ Cur φ kd L ⟨o, t, w, n, f⟩ x := by
  have hp : (x :: f).Pairwise RS.Off := h.fapart
  rw [List.pairwise_cons] at hp
  have mem : ∀ z, z ∈ f → z ∈ x :: f := fun z hz => by simp [hz]
  have hx : x ∈ x :: f := by simp
  refine ⟨⟨h.told, h.note, h.whole, fun z hz => h.fwhole z (mem z hz), h.apart, hp.2, fun z hz u hu => h.offF z hz u (mem u hu), fun z hz => h.offN z (hz.imp id (mem z)), h.offO, fun z hz => h.fOut z (mem z hz)⟩, ⟨h.fwhole x hx, fun z hz => ?_, h.fOut x hx⟩⟩
  rcases hz with hz | hz | hz | hz
  · exact h.offN x (.inr hx) z (.inl hz)
  · exact (h.offF z hz x hx).symm
  · exact h.offN x (.inr hx) z (.inr hz)
  · exact hp.1 z hz
/-- Something is laid on. -/
theorem BkOk.laid {φ φ' : Bag K} {kd : K.Kd} {L M : Nat} {B : Bk} {x x' : RS} {xs : List (K.α kd)} {v : K.α kd} (h : BkOk φ kd L B) (a : Cur φ kd M B x) (hx : x.full φ kd = some xs) (hp : App φ kd xs [v] x x' φ') :
    BkOk φ' kd L B ∧ Cur φ' kd (M + 1) B x' ∧ x'.len = x.len + 1 ∧ x'.full φ' kd = some (xs ++ [v]) := by
  obtain ⟨ys, w1, w2, w3⟩ := a.whole
  obtain rfl : ys = xs := by rw [hx] at w1; injection w1 with w1; exact w1.symm
  have hlen : ys.length = x.len := RS.row_len w2
  have fin : ∀ b c, φ' = bput φ b (.row kd c (ys ++ [v])) → ys.length + 1 ≤ c → RS.Whole φ' kd (M + 1) (.mk b 0 (ys.length + 1) c) ∧ RS.full φ' kd (.mk b 0 (ys.length + 1) c) = some (ys ++ [v]) := fun b c e hc => by
    subst e
    have h1 := RS.full_of (φ := bput φ b (.row kd c (ys ++ [v]))) (b := b) (kd := kd) (cap := c) (xs := ys ++ [v]) bput_same
    have h2 : RS.full (bput φ b (.row kd c (ys ++ [v]))) kd (.mk b 0 (ys.length + 1) c) = some (ys ++ [v]) := by simpa using h1
    exact ⟨⟨_, h2, RS.full_row h2 (.inl (by simpa [RS.cap] using hc)), by simp; omega⟩, h2⟩
  cases hp with
  | none_ h1 h2 => simp at h2
  | room b c hφ hc =>
    have hc : ys.length + 1 ≤ c := by simpa using hc
    obtain ⟨f1, f2⟩ := fin b c rfl hc
    refine ⟨?_, ⟨f1, fun y hy d hd => a.off y hy d ⟨by simp, hd.2⟩, fun y hy d h1 h2 => ?_⟩, by simp [RS.len], f2⟩
    · have off : ∀ y, y ∈ B.told ∨ y ∈ B.waits ∨ y ∈ B.note ∨ y ∈ B.fresh → ∀ d, y.At d → bput φ b (.row kd c (ys ++ [v])) d = φ d := fun y hy d hd => bput_other fun e => by
        subst e; exact a.off y hy d ⟨by simp, rfl⟩ hd
      refine ⟨h.told.mono fun p q hp hq ⟨zs, h1, h2, h3⟩ => ⟨zs, ?_, RS.row_keep h2 (off q (.inl hq)), h3⟩, h.note.mono fun p q hp hq ⟨zs, h1, h2, h3⟩ => ⟨zs, RS.row_keep h1 (off p (.inr (.inl hp))), RS.row_keep h2 (off q (.inr (.inr (.inl hq)))), h3⟩, fun z hz => ?_, fun z hz => ?_, h.apart, h.fapart, h.offF, h.offN, h.offO, h.fOut⟩
      · cases p with
        | nil => exact h1
        | mk d lo len cap =>
          by_cases e : d = b
          · subst e
            have hov := a.over _ hp d ⟨by simp, rfl⟩ ⟨by simp, rfl⟩
            simp only [RS.lo, RS.len] at hov
            obtain ⟨c', us, hφ', g1, g2, g3, rfl⟩ := RS.row_mk h1
            rw [hφ] at hφ'
            injection hφ' with hφ'
            injection hφ' with _ e1 e2
            subst e1
            subst e2
            have := RS.row_of (φ := bput φ d (.row kd c (ys ++ [v]))) (lo := lo) (len := len) (cap := cap) bput_same (by simp; omega) g2 g3
            rw [this]
            congr 1
            rw [List.drop_append_of_le_length (by omega), List.take_append_of_le_length (by simp; omega)]
          · exact RS.row_keep h1 fun d' hd => bput_other fun e' => e (by have : d = d' := hd.2; omega)
      · obtain ⟨zs, g1, g2, g3⟩ := h.whole z hz
        have := off z (.inr (.inl hz))
        exact ⟨zs, RS.full_keep g1 this, RS.row_keep g2 this, g3⟩
      · obtain ⟨zs, g1, g2, g3⟩ := h.fwhole z hz
        have := off z (.inr (.inr (.inr hz)))
        exact ⟨zs, RS.full_keep g1 this, RS.row_keep g2 this, g3⟩
    · have := a.over y hy d ⟨by simp, h1.2⟩ h2
      simp only [RS.len] at this ⊢
      simp; omega
  | new _ b c hφ hc =>
    have hc : ys.length + 1 ≤ c := by simpa using hc
    obtain ⟨f1, f2⟩ := fin b c rfl hc
    have off : ∀ y ∈ B.all, (RS.mk b 0 (ys.length + 1) c).Off y := fun y hy => by
      obtain ⟨zs, hz⟩ := h.has y hy
      exact (RS.off_none hz (fun d hd => by have : b = d := hd.2; subst this; exact hφ)).symm
    refine ⟨h.ext (Ext.put hφ), ⟨f1, fun y hy => off y (Bk.mem.2 (.inr hy)), fun y hy d h1 h2 => absurd h2 (off y (Bk.mem.2 (.inl hy)) d h1)⟩, ?_, f2⟩
    show ys.length + 1 = x.len + 1
    omega
theorem Alone.write {φ : Bag K} {kd : K.Kd} {L : Nat} {B : Bk} {x : RS} (a : Alone φ kd L B x) {cap : Nat} {xs : List (K.α kd)} (hφ : φ x.blk = some (.row kd cap xs)) (hx : x ≠ .nil) (j : Nat) (v : K.α kd) : Alone (bput φ x.blk (.row kd cap (xs.set j v))) kd L B x := by
  obtain ⟨⟨ys, h1, h2, h3⟩, ho⟩ := a
  cases x with
  | nil => exact absurd rfl hx
  | mk b lo len c =>
    obtain ⟨g1, rfl, rfl⟩ := RS.full_mk h1
    simp only [RS.blk] at hφ ⊢
    rw [g1] at hφ
    injection hφ with hφ
    injection hφ with _ e1 e2
    subst e1 e2
    have hc : ys.length ≤ c := by obtain ⟨_, _, _, _, _, h, _⟩ := RS.row_mk h2; exact h
    have h4 := RS.full_of (φ := bput φ b (.row kd c (ys.set j v))) (b := b) (kd := kd) (cap := c) (xs := ys.set j v) bput_same
    rw [List.length_set] at h4
    exact ⟨⟨_, h4, RS.full_row h4 (.inl (by simpa [RS.cap] using hc)), by simpa using h3⟩, ho⟩
theorem RS.full_lo {φ : Bag K} {kd : K.Kd} {x : RS} {xs : List (K.α kd)} (h : x.full φ kd = some xs) : x.lo = 0 := by
  cases x with
  | nil => rfl
  | mk b lo len c => obtain ⟨_, h, _⟩ := RS.full_mk h; exact h
theorem RS.off_frz {φ φ' : Bag K} {kd : K.Kd} {x y : RS} {xs zs : List (K.α kd)} (h : x.row φ kd = some zs) (hy : Frz φ kd xs y φ') : x.Off y := RS.off_none h hy.at_
/-- A list that was written is noted with its copy, and waits to be laid on. -/
theorem BkOk.written {φ φ' : Bag K} {kd : K.Kd} {L : Nat} {o t w n f : List RS} {x y : RS} {ys : List (K.α kd)} (h : BkOk φ kd L ⟨o, t, w, n, f⟩) (a : Alone φ kd L ⟨o, t, w, n, f⟩ x) (hr : x.row φ kd = some ys) (hy : Frz φ kd ys y φ') :
    BkOk φ' kd L ⟨o ++ [x], t ++ [y], w, n, f ++ [x]⟩ := by
  have oy : ∀ z, z ∈ w ∨ z ∈ f ∨ z = x → z.Off y := fun z hz => by
    rcases hz with hz | hz | rfl
    · obtain ⟨zs, h1⟩ := h.has z (Bk.mem.2 (.inr (.inr (.inl hz))))
      exact RS.off_frz h1 hy
    · obtain ⟨zs, h1⟩ := h.has z (Bk.mem.2 (.inr (.inr (.inr (.inr hz)))))
      exact RS.off_frz h1 hy
    · exact RS.off_frz hr hy
  have a' := a.ext hy.ext
  obtain ⟨zs, w1, w2, w3⟩ := a'.whole
  have hr' : x.row φ' kd = some ys := RS.row_keep hr (hy.ext.keep hr)
  obtain rfl : zs = ys := by rw [hr'] at w2; injection w2 with w2; exact w2.symm
  refine ((h.ext hy.ext).noted a'.cur ⟨zs, hr', hy.whole.2, by omega⟩ oy).freshen ⟨a'.whole, fun z hz => ?_, fun z hz b h1 h2 => ?_⟩
  · rcases hz with hz | hz | hz | hz
    · rcases List.mem_append.1 hz with hz | hz
      · exact a'.off z (Bk.mem.2 (.inr (.inl hz)))
      · rw [List.mem_singleton.1 hz]; exact oy x (.inr (.inr rfl))
    · exact a'.off z (Bk.mem.2 (.inr (.inr (.inl hz))))
    · exact a'.off z (Bk.mem.2 (.inr (.inr (.inr (.inl hz)))))
    · exact a'.off z (Bk.mem.2 (.inr (.inr (.inr (.inr hz)))))
  · rcases List.mem_append.1 hz with hz | hz
    · exact absurd h2 (a'.off z (Bk.mem.2 (.inl hz)) b h1)
    · rw [List.mem_singleton.1 hz, RS.full_lo w1]; omega
/-- A list that was laid on is noted with its copy. -/
theorem BkOk.grown {φ φ' : Bag K} {kd : K.Kd} {L M : Nat} {o t w n f : List RS} {x y : RS} {ys : List (K.α kd)} (h : BkOk φ kd L ⟨o, t, w, n, f⟩) (hM : M ≤ L + 150) (a : Cur φ kd M ⟨o, t, w, n, f⟩ x) (hr : x.row φ kd = some ys) (hy : Frz φ kd ys y φ') :
    BkOk φ' kd L ⟨o ++ [x], t ++ [y], w, n, f⟩ := by
  have oy : ∀ z, z ∈ w ∨ z ∈ f ∨ z = x → z.Off y := fun z hz => by
    rcases hz with hz | hz | rfl
    · obtain ⟨zs, h1⟩ := h.has z (Bk.mem.2 (.inr (.inr (.inl hz))))
      exact RS.off_frz h1 hy
    · obtain ⟨zs, h1⟩ := h.has z (Bk.mem.2 (.inr (.inr (.inr (.inr hz)))))
      exact RS.off_frz h1 hy
    · exact RS.off_frz hr hy
  have a' := a.ext hy.ext
  obtain ⟨zs, w1, w2, w3⟩ := a'.whole
  have hr' : x.row φ' kd = some ys := RS.row_keep hr (hy.ext.keep hr)
  obtain rfl : zs = ys := by rw [hr'] at w2; injection w2 with w2; exact w2.symm
  exact (h.ext hy.ext).noted a' ⟨zs, hr', hy.whole.2, by omega⟩ oy
/-- A list comes, with its copy. -/
theorem BkOk.handed {φ φ' : Bag K} {kd : K.Kd} {L : Nat} {o t w n f : List RS} {x y : RS} {ys : List (K.α kd)} (h : BkOk φ kd L ⟨o, t, w, n, f⟩) (a : Alone φ kd L ⟨o, t, w, n, f⟩ x) (hr : x.row φ kd = some ys) (hy : Frz φ kd ys y φ') :
    BkOk φ' kd L ⟨o, t, w ++ [x], n ++ [y], f⟩ := by
  have oy : ∀ z, z ∈ w ∨ z ∈ f ∨ z = x → z.Off y := fun z hz => by
    rcases hz with hz | hz | rfl
    · obtain ⟨zs, h1⟩ := h.has z (Bk.mem.2 (.inr (.inr (.inl hz))))
      exact RS.off_frz h1 hy
    · obtain ⟨zs, h1⟩ := h.has z (Bk.mem.2 (.inr (.inr (.inr (.inr hz)))))
      exact RS.off_frz h1 hy
    · exact RS.off_frz hr hy
  have a' := a.ext hy.ext
  obtain ⟨zs, w1, w2, w3⟩ := a'.whole
  have hr' : x.row φ' kd = some ys := RS.row_keep hr (hy.ext.keep hr)
  obtain rfl : zs = ys := by rw [hr'] at w2; injection w2 with w2; exact w2.symm
  exact (h.ext hy.ext).comes a' ⟨zs, hr', hy.whole.2, w3⟩ oy
/-! ### what lies beside the book stays -/
def Bk.Free (B : Bk) (b : Nat) : Prop := ∀ y ∈ B.all, ¬ y.At b
/-- What lies beside the book stays. -/
def Stays (φ : Bag K) (B : Bk) (ψ : Bag K) (C : Bk) : Prop := ∀ b i, φ b = some i → B.Free b → ψ b = some i ∧ C.Free b
theorem Stays.refl (φ : Bag K) (B : Bk) : Stays φ B φ B := fun _ _ h f => ⟨h, f⟩
theorem Stays.trans {φ ψ χ : Bag K} {B C D : Bk} (h : Stays φ B ψ C) (k : Stays ψ C χ D) : Stays φ B χ D := fun b i hb f => k b i (h b i hb f).1 (h b i hb f).2
/-- .. and beside a list that is being written. -/
def Keep1 (φ : Bag K) (B : Bk) (x : RS) (ψ : Bag K) : Prop := ∀ b i, φ b = some i → B.Free b → ¬ x.At b → ψ b = some i
theorem Keep1.put {φ ψ : Bag K} {B : Bk} {x : RS} {j : BI K} (h : Keep1 φ B x ψ) (hx : x ≠ .nil) : Keep1 φ B x (bput ψ x.blk j) := fun b i hb f n => by
  rw [bput_other (fun e => n ⟨hx, e.symm⟩)]; exact h b i hb f n
theorem Keep1.written {φ ψ φ' : Bag K} {kd : K.Kd} {o t w w' n n' f : List RS} {x y z : RS} {zs : List (K.α kd)} (h : Keep1 φ ⟨o, t, w ++ w', n ++ n', f⟩ x ψ) (hy : Frz ψ kd zs y φ') :
    Stays φ ⟨o, t, w ++ x :: w', n ++ z :: n', f⟩ φ' ⟨o ++ [x], t ++ [y], w ++ w', n ++ n', f ++ [x]⟩ := fun b i hb hf => by
  have hx : ¬ x.At b := hf x (by simp [Bk.all])
  have hB : Bk.Free ⟨o, t, w ++ w', n ++ n', f⟩ b := fun q hq => hf q (by
    simp only [Bk.all, List.mem_append, List.mem_cons] at hq ⊢
    rcases hq with hq | hq | (hq | hq) | (hq | hq) | hq <;> simp [hq])
  have h1 := h b i hb hB hx
  refine ⟨hy.ext b i h1, fun q hq => ?_⟩
  have hyb : ¬ y.At b := fun e => by rw [hy.at_ b e] at h1; cases h1
  simp only [Bk.all, List.mem_append, List.mem_singleton] at hq
  have key : q = x ∨ q = y ∨ q ∈ Bk.all ⟨o, t, w ++ w', n ++ n', f⟩ := by
    simp only [Bk.all, List.mem_append]
    rcases hq with (hq | hq) | (hq | hq) | hq | hq | (hq | hq) <;> simp [hq]
  rcases key with rfl | rfl | hq
  · exact hx
  · exact hyb
  · exact hB q hq
theorem App.stay {φ φ' : Bag K} {kd : K.Kd} {xs ys : List (K.α kd)} {x x' : RS} (hp : App φ kd xs ys x x' φ') {b : Nat} {i : BI K} (h : φ b = some i) (hx : ¬ x.At b) : φ' b = some i ∧ ¬ x'.At b := by
  cases hp with
  | none_ _ _ => exact ⟨h, hx⟩
  | room c cap hφ _ =>
    have hc : b ≠ c := fun e => hx ⟨by simp, e.symm⟩
    exact ⟨by rw [bput_other hc]; exact h, fun e => hx ⟨by simp, e.2⟩⟩
  | new _ c cap hφ _ =>
    have hc : b ≠ c := fun e => by rw [e, hφ] at h; cases h
    exact ⟨by rw [bput_other hc]; exact h, fun e => hc e.2.symm⟩
/-- .. and beside a list that is laid on. -/
def Cur1 (φ : Bag K) (B : Bk) (x : RS) (ψ : Bag K) : Prop := ∀ b i, φ b = some i → B.Free b → ψ b = some i ∧ ¬ x.At b
theorem Cur1.app {φ ψ ψ' : Bag K} {B : Bk} {kd : K.Kd} {xs ys : List (K.α kd)} {x x' : RS} (h : Cur1 φ B x ψ) (hp : App ψ kd xs ys x x' ψ') : Cur1 φ B x' ψ' := fun b i hb hf => hp.stay (h b i hb hf).1 (h b i hb hf).2
theorem Cur1.grown {φ ψ φ' : Bag K} {kd : K.Kd} {o t w n f : List RS} {x y z : RS} {zs : List (K.α kd)} (h : Cur1 φ ⟨o, t, w, n, z :: f⟩ x ψ) (hy : Frz ψ kd zs y φ') :
    Stays φ ⟨o, t, w, n, z :: f⟩ φ' ⟨o ++ [x], t ++ [y], w, n, f⟩ := fun b i hb hf => by
  obtain ⟨h1, hx⟩ := h b i hb hf
  refine ⟨hy.ext b i h1, fun q hq => ?_⟩
  have hyb : ¬ y.At b := fun e => by rw [hy.at_ b e] at h1; cases h1
  simp only [Bk.all, List.mem_append, List.mem_singleton] at hq
  have key : q = x ∨ q = y ∨ q ∈ Bk.all ⟨o, t, w, n, z :: f⟩ := by
    simp only [Bk.all, List.mem_append, List.mem_cons]
    rcases hq with (hq | hq) | (hq | hq) | hq | hq | hq <;> simp [hq]
  rcases key with rfl | rfl | hq
  · exact hx
  · exact hyb
  · exact hf q hq
/-- What lies beside the book and a list stays. -/
def StaysX (φ : Bag K) (B : Bk) (x : RS) (ψ : Bag K) (C : Bk) : Prop := ∀ b i, φ b = some i → B.Free b → ¬ x.At b → ψ b = some i ∧ C.Free b
theorem StaysX.trans {φ ψ χ : Bag K} {B C D : Bk} {x : RS} (h : StaysX φ B x ψ C) (k : Stays ψ C χ D) : StaysX φ B x χ D := fun b i hb f n => k b i (h b i hb f n).1 (h b i hb f n).2
theorem Frz.handed {φ φ' : Bag K} {kd : K.Kd} {zs : List (K.α kd)} {o t w n f : List RS} {x y : RS} (hy : Frz φ kd zs y φ') : StaysX φ ⟨o, t, w, n, f⟩ x φ' ⟨o, t, w ++ [x], n ++ [y], f⟩ := fun b i hb hf hx => by
  refine ⟨hy.ext b i hb, fun q hq => ?_⟩
  have hyb : ¬ y.At b := fun e => by rw [hy.at_ b e] at hb; cases hb
  simp only [Bk.all, List.mem_append, List.mem_singleton] at hq
  have key : q = x ∨ q = y ∨ q ∈ Bk.all ⟨o, t, w, n, f⟩ := by
    simp only [Bk.all, List.mem_append]
    rcases hq with hq | hq | (hq | hq) | (hq | hq) | hq <;> simp [hq]
  rcases key with rfl | rfl | hq
  · exact hx
  · exact hyb
  · exact hf q hq
end Go.Proofs.YtndlpbheifalhaaGreatDoor.E
