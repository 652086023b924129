/- Text 2 of 13 texts that prove the statement of Vx; it holds without conditions beyond the statement's own. -/
import Derived.Laws.AppendOwn
import Derived.Laws.OwnMore
import Derived.Deep.MidRow
import Derived.Calls
import Derived.Deep.AppendSrc
import Derived.Maps.AppendAt
import Derived.Test.YtndlpbheifalhaaGreatDoorKM0
namespace Go.Proofs.YtndlpbheifalhaaGreatDoor
end Go.Proofs.YtndlpbheifalhaaGreatDoor
namespace Go.Proofs.YtndlpbheifalhaaGreatDoor.E
end Go.Proofs.YtndlpbheifalhaaGreatDoor.E
namespace Go.Proofs.YtndlpbheifalhaaGreatDoor.T
end Go.Proofs.YtndlpbheifalhaaGreatDoor.T
namespace Go.Proofs.YtndlpbheifalhaaGreatDoor.TwireMany
end Go.Proofs.YtndlpbheifalhaaGreatDoor.TwireMany
namespace Go.Proofs.YtndlpbheifalhaaGreatDoor.V
end Go.Proofs.YtndlpbheifalhaaGreatDoor.V
section
namespace Go.Proofs.YtndlpbheifalhaaGreatDoor.E
set_option linter.unusedVariables false
set_option linter.unusedSimpArgs false
variable {K : Kinds}
def upd (r : Nat → Ref) (n : Nat) (x : Ref) : Nat → Ref := fun m => if m = n then x else r m
theorem upd_old {r : Nat → Ref} {n m : Nat} {x : Ref} (h : m < n) : upd r n x m = r m := if_neg (Nat.ne_of_lt h)
theorem upd_new {r : Nat → Ref} {n : Nat} {x : Ref} : upd r n x n = x := if_pos rfl
theorem at_append_old {H : VH K} {a : Atom K} {n : Nat} (h : n < H.length) : at_ (H ++ [a]) n = at_ H n := by simp [at_, List.getD_eq_getElem?_getD, List.getElem?_append_left h]
theorem at_append_new {H : VH K} {a : Atom K} : at_ (H ++ [a]) H.length = a := by simp [at_, List.getD_eq_getElem?_getD]
theorem RoKeep.push {H : VH K} {a : Atom K} (ha : a.isRo = false) : RoKeep H (H ++ [a]) := fun m hm => by
  rcases Nat.lt_or_ge m H.length with h | h
  · rw [at_append_old h] at hm ⊢; exact ⟨h, rfl⟩
  · by_cases e : m = H.length
    · subst e; rw [at_append_new, ha] at hm; cases hm
    · rw [at_ge (by simp; omega)] at hm; cases hm
theorem HeapOK.drew {S : Nat → Prop} {w0 w : World} {r : Nat → Ref} {H : VH K} (st : HeapOK S w0 r H w) : HeapOK S w0 r H { w with drawn := w.drawn + 1 } := by
  refine st.evolve (fun _ => False) (RoKeep.refl H) (Nat.le_refl _) (fun _ _ => rfl) (fun _ _ _ => rfl) rfl rfl rfl (Nat.le_refl _) (fun _ _ _ => rfl) (fun n h h' => ?_) (fun n b h hb => ?_) (fun n m b _ h _ hb => ?_)
  · exact absurd h (by simpa using h')
  · rw [blkOf, at_ge (by simpa using h)] at hb; simp [Atom.has] at hb
  · rw [blkOf, at_ge (by simpa using h)] at hb; simp [Atom.has] at hb
/-- A new block of cells. -/
theorem HeapOK.pushCells {S : Nat → Prop} {w0 w : World} {r : Nat → Ref} {H : VH K} (st : HeapOK S w0 r H w) (T : TypeId) {cs : List C} {vs : List Value} (hr : Rel r cs vs) (hl : ∀ c ∈ cs, c.lt H.length ∧ c.one = true) (x : Ref) (hx : x.blk = w.heap.size) (hn : x.nl = false ∧ x.off = 0) :
    HeapOK S w0 (upd r H.length x) (H ++ [.cells T cs]) (w.alloc (.cells vs.toArray T)) := by
  have only : ∀ n, (False ∨ H.length ≤ n) → n < (H ++ [Atom.cells T cs]).length → n = H.length := fun n h h' => by simp at h h'; omega
  have off : ∀ n, (False ∨ H.length ≤ n) → n ≠ H.length → at_ (H ++ [Atom.cells T cs]) n = .gone := fun n h h' => at_ge (by simp at h ⊢; omega)
  refine st.evolve (fun _ => False) (RoKeep.push rfl) (by simp) (fun n hn' => upd_old hn') (fun n hn' _ => at_append_old hn') rfl rfl rfl (by simp) (fun b hb _ => heap_alloc_old w _ b hb) (fun n hn' h => ?_) (fun n b h hb => ?_) (fun n m b hne h h' hb => ?_)
  · obtain rfl := only n h hn'
    rw [at_append_new, upd_new]
    refine ⟨⟨hn, vs, ?_, Rel.congr (fun n hn => upd_old hn) (fun c hc => (hl c hc).1) hr⟩, fun c hc => ⟨C.lt_mono (hl c hc).1 (by simp), (hl c hc).2⟩⟩
    rw [hx]; exact heap_alloc_new w _
  · by_cases e : n = H.length
    · subst e
      simp only [blkOf, at_append_new, upd_new, Atom.has] at hb
      exact .inr (by omega)
    · rw [blkOf, off n h e] at hb; simp [Atom.has] at hb
  · by_cases e : n = H.length
    · by_cases e' : m = H.length
      · exact absurd (e.trans e'.symm) hne
      · rw [blkOf, off m h' e']; simp [Atom.has]
    · rw [blkOf, off n h e] at hb; simp [Atom.has] at hb
/-- A row of the state's own stands for a new name; it may have taken an old name's block. -/
def kill (H : VH K) : Option Nat → VH K
  | none => H
  | some n => H.set n .gone
theorem kill_length {H : VH K} {o : Option Nat} : (kill H o).length = H.length := by cases o <;> simp [kill]
theorem at_kill {H : VH K} {o : Option Nat} {m : Nat} (h : o ≠ some m) : at_ (kill H o) m = at_ H m := by
  cases o with
  | none => rfl
  | some n => simp only [kill, at_, List.getD_eq_getElem?_getD, List.getElem?_set]; rw [if_neg (fun e => h (by rw [e]))]
theorem at_killed {H : VH K} {m : Nat} : at_ (kill H (some m)) m = .gone := by
  simp only [kill, at_, List.getD_eq_getElem?_getD, List.getElem?_set, if_true]; split <;> rfl
theorem RoKeep.kill {H : VH K} {o : Option Nat} : RoKeep H (kill H o) := fun m hm => by
  by_cases e : o = some m
  · rw [e, at_killed] at hm; cases hm
  · rw [at_kill e] at hm ⊢; exact RoKeep.refl H m hm
theorem RoKeep.trans {H H' H'' : VH K} (h : RoKeep H H') (h' : RoKeep H' H'') : RoKeep H H'' := fun n hn => by
  obtain ⟨h1, h2⟩ := h' n hn
  rw [h2] at hn
  obtain ⟨h3, h4⟩ := h n hn
  exact ⟨h3, h2.trans h4⟩
theorem owns_ref {e : TypeId} {size n : Nat} {v : Value} {xs : List Value} {w : World} (h : w.ownsRow 0 e size v n xs) : ∃ x : Ref, v = x.val n ∧ (x.sz = size ∧ x.off = 0) ∧ (x.nl = true → x.cap = 0) ∧ v.ownBlock = (if x.nl then none else some x.blk) := by
  rcases h.2 with ⟨rfl, rfl⟩ | ⟨g, cap, cur, rfl, _⟩
  · exact ⟨⟨0, size, 0, true, 0⟩, rfl, ⟨rfl, rfl⟩, fun _ => rfl, rfl⟩
  · exact ⟨⟨g, size, cap, false, 0⟩, rfl, ⟨rfl, rfl⟩, fun h => by simp at h, rfl⟩
theorem HeapOK.owned {S : Nat → Prop} {w0 w w' : World} {r : Nat → Ref} {H : VH K} (st : HeapOK S w0 r H w) (o : Option Nat) {row : Option Nat} (hg : w.grownBy w' row)
    (hrow : ∀ b, row = some b → b < w.heap.size → ∃ n, o = some n ∧ blkOf r H n b) {kd : K.Kd} {xs : List (K.α kd)} {v' : Value}
    (ho : w'.ownsRow 0 (K.elem kd) (K.size kd) v' xs.length ((flat kd xs).map C.plain)) (hb : ∀ b, v'.ownBlock = some b → (∃ n, o = some n ∧ blkOf r H n b) ∨ w.heap.size ≤ b) :
    ∃ x : Ref, v' = x.val xs.length ∧ (x.sz = K.size kd ∧ x.off = 0) ∧ HeapOK S w0 (upd r H.length x) (kill H o ++ [.arr kd xs]) w' := by
  obtain ⟨x, hx, hsz, hnc, hob⟩ := owns_ref ho
  subst hx
  refine ⟨x, rfl, hsz, ?_⟩
  have hkl : (kill H o).length = H.length := kill_length
  have newat : at_ (kill H o ++ [Atom.arr kd xs]) H.length = .arr kd xs := by rw [← hkl]; exact at_append_new
  have blknew : ∀ b, blkOf (upd r H.length x) (kill H o ++ [Atom.arr kd xs]) H.length b → (x.val xs.length).ownBlock = some b := fun b hb => by
    rw [blkOf, newat, upd_new] at hb
    obtain ⟨h1, h2⟩ := hb
    rw [hob]; simp [h1, h2]
  have killed : ∀ n, o = some n → at_ (kill H o ++ [Atom.arr kd xs]) n = .gone ∨ n = H.length := fun n hn => by
    subst hn
    rcases Nat.lt_or_ge n H.length with h' | h'
    · exact .inl (by rw [at_append_old (by rw [hkl]; exact h')]; exact at_killed)
    · by_cases e : n = H.length
      · exact .inr e
      · exact .inl (at_ge (by simp [hkl]; omega))
  have other : ∀ n, (o = some n ∨ H.length ≤ n) → n ≠ H.length → at_ (kill H o ++ [Atom.arr kd xs]) n = .gone := fun n h hne => by
    rcases h with h | h
    · exact (killed n h).resolve_right hne
    · exact at_ge (by simp [hkl]; omega)
  refine st.evolve (fun n => o = some n) (RoKeep.trans RoKeep.kill (RoKeep.push rfl)) (by simp [hkl]) (fun n hn' => upd_old hn') (fun n hn' ht => ?_) hg.os hg.tape hg.output hg.size (fun b hb' hne => ?_) (fun n hn' h => ?_) (fun n b h hb' => ?_) (fun n m b hne h h' hb' => ?_)
  · rw [at_append_old (by rw [hkl]; exact hn'), at_kill ht]
  · refine hg.block b hb' fun e => ?_
    obtain ⟨n, hn, hnb⟩ := hrow b e.symm hb'
    exact hne n hn hnb
  · by_cases e : n = H.length
    · subst e
      rw [newat, upd_new]
      exact ⟨⟨hsz, hnc, ho⟩, trivial⟩
    · rw [other n h e]; exact ⟨trivial, trivial⟩
  · by_cases e : n = H.length
    · subst e
      exact hb b (blknew b hb')
    · rw [blkOf, other n h e] at hb'; simp [Atom.has] at hb'
  · by_cases e : n = H.length
    · by_cases e' : m = H.length
      · exact absurd (e.trans e'.symm) hne
      · rw [blkOf, other m h' e']; simp [Atom.has]
    · rw [blkOf, other n h e] at hb'; simp [Atom.has] at hb'
/-- append onto a row of the state's own, from any source. -/
theorem append_src {P : Program} {w : World} {t tx ty e : TypeId} {i : TypeInfo} {z : Value} (ht : P.underlying t = some (.slice e)) (hi : P.info? e = some i) (hz : i.zero = some z) (hzs : z.cells.size = i.size) (hpos : 0 < i.size)
    {v : Value} {n : Nat} {xs : List Value} (hown : w.ownsRow 0 e i.size v n xs) {x : Value} {m : Nat} {news : List Value} (hs : Src P i.size tx x m news w)
    (h63 : n + m ≤ maxLen) (hbytes : (n + m) * i.bytes ≤ 140737488355328) :
    ∃ v' w', (Builtin.append_ #[t, tx] ty #[v, x]).run P w = .ok v' w' ∧ w'.ownsRow 0 e i.size v' (n + m) (xs ++ news) ∧ w.grownBy w' v.ownBlock ∧ (v'.ownBlock = v.ownBlock ∨ v'.ownBlock = some w.heap.size) := by
  have hlen : (xs ++ news).length = (n + m) * i.size := by rw [List.length_append, hown.1, hs.newsLen, Nat.add_mul]
  have grown : ∀ (old : Nat) (row : Option Nat),
      (w.drew.alloc (.cells ((xs ++ news).toArray ++ Builtin.zeroCells z.cells (grownCap w (n + m) old e - (n + m))) e)).ownsRow 0 e i.size
        (.slice (some ⟨w.heap.size, 0, none⟩) (n + m) (grownCap w (n + m) old e)) (n + m) (xs ++ news) ∧
      w.grownBy (w.drew.alloc (.cells ((xs ++ news).toArray ++ Builtin.zeroCells z.cells (grownCap w (n + m) old e - (n + m))) e)) row := by
    intro old row
    have hge := grownCap_ge w (n + m) old e
    have hcm : grownCap w (n + m) old e ≤ maxLen := grownCap_le_maxLen w (n + m) old e h63
    refine ⟨⟨hlen, .inr ⟨w.heap.size, _, _, rfl, Nat.zero_le _, heap_alloc_new w.drew _, hge, hcm, ?_, ?_⟩⟩, ⟨rfl, rfl, rfl, by simp, fun k hk _ => heap_alloc_old w.drew _ k hk⟩⟩
    · simp only [Array.size_append, List.size_toArray, size_zeroCells, hzs, hlen, ← Nat.add_mul]
      congr 1
      omega
    · simp only [Array.toList_append]
      rw [← hlen]
      exact List.take_left
  rcases hown.2 with ⟨rfl, rfl⟩ | ⟨g, cap, cur, rfl, hbg, hg, hnc, hcm, hcs, htake⟩
  · have hx : xs = [] := List.eq_nil_of_length_eq_zero (by simpa using hown.1)
    subst hx
    by_cases hm : m = 0
    · subst hm
      have hn : news = [] := List.eq_nil_of_length_eq_zero (by simpa using hs.newsLen)
      subst hn
      refine ⟨.slice none 0 0, w, ?_, World.ownsRow_nil w 0 e i.size, ⟨rfl, rfl, rfl, Nat.le_refl _, fun _ _ _ => rfl⟩, .inl rfl⟩
      rcases hs.kind with ⟨e', hk⟩ | hk <;> simp [Builtin.append_, run_underlying ht, run_underlying hk, sizeOf, typeInfo, hi, hs.len, hs.cells]
    · have hr := run_append_grow_src (P := P) w t tx ty e i z ht hi hz none 0 0 [] (by simp [Builtin.firstCells]) x m news hs (by omega) (by simp only [maxLen] at h63; omega)
        (growslice_fits (by omega) (by simpa using hbytes))
      have hgr := grown 0 (Value.ownBlock (.slice none 0 0))
      exact ⟨_, _, hr, hgr.1, hgr.2, .inr rfl⟩
  · by_cases hroom : n + m ≤ cap
    · have hfit : n * i.size + news.length ≤ cur.size := by rw [hs.newsLen, hcs, ← Nat.add_mul]; exact Nat.mul_le_mul_right _ hroom
      have hst := run_storeCells_at P g (n * i.size) e news 0 cur w hg (by simpa using hfit) hs.one
      refine ⟨.slice (some ⟨g, 0, none⟩) (n + m) cap, w.setRow g (cur.toList.take (n * i.size) ++ news ++ cur.toList.drop (n * i.size + news.length)).toArray, ?_, ⟨hlen, .inr ⟨g, cap, _, rfl, hbg, setRow_heap w g cur _ e _ hg, hroom, hcm, ?_, ?_⟩⟩, ⟨rfl, rfl, rfl, by simp, fun k _ hk => setRow_other w g k _ (fun e => hk (by simp [Value.ownBlock, e]))⟩, .inl rfl⟩
      · simp only [Nat.add_zero] at hst
        rcases hs.kind with ⟨e', hk⟩ | hk <;> simp [Builtin.append_, run_underlying ht, run_underlying hk, sizeOf, typeInfo, hi, hs.len, hroom, hs.cells, Addr.add_lit, hst]
      · simp only [List.size_toArray, List.length_append, List.length_take, List.length_drop, Array.length_toList]
        omega
      · rw [htake, ← hlen]
        exact List.take_left
    · have hold : (Builtin.firstCells i.size n (.slice (some ⟨g, 0, none⟩) n cap)).run P w.drew = .ok xs.toArray w.drew :=
        run_firstCells_some (P := P) w.drew i.size n ⟨g, 0, none⟩ n cap xs hown.1 (fun j u hu => by
          have := hown.cells (g := g) (by simp [Value.ownBlock]) j u hu
          simpa using this)
      have hr := run_append_grow_src (P := P) w t tx ty e i z ht hi hz (some ⟨g, 0, none⟩) n cap xs hold x m news hs (by omega) (by simp only [maxLen] at h63; omega)
        (growslice_fits (by omega) hbytes)
      have hgr := grown cap (Value.ownBlock (.slice (some ⟨g, 0, none⟩) n cap))
      exact ⟨_, _, hr, hgr.1, hgr.2, .inr rfl⟩
/-- append, told in full: where the new row lies. -/
theorem append_src2 {P : Program} {w : World} {t tx ty e : TypeId} {i : TypeInfo} {z : Value} (ht : P.underlying t = some (.slice e)) (hi : P.info? e = some i) (hz : i.zero = some z) (hzs : z.cells.size = i.size) (hpos : 0 < i.size)
    {v : Value} {n : Nat} {xs : List Value} (hown : w.ownsRow 0 e i.size v n xs) {x : Value} {m : Nat} {news : List Value} (hs : Src P i.size tx x m news w)
    (h63 : n + m ≤ maxLen) (hbytes : (n + m) * i.bytes ≤ 140737488355328) :
    ∃ v' w', (Builtin.append_ #[t, tx] ty #[v, x]).run P w = .ok v' w' ∧ w'.ownsRow 0 e i.size v' (n + m) (xs ++ news) ∧
      ((w.grownBy w' none ∧ ((v' = .slice none 0 0 ∧ v = .slice none 0 0 ∧ m = 0) ∨ ∃ c, v' = .slice (some ⟨w.heap.size, 0, none⟩) (n + m) c ∧ n + m ≤ c)) ∨
       (w.grownBy w' v.ownBlock ∧ ∃ g c, v = .slice (some ⟨g, 0, none⟩) n c ∧ v' = .slice (some ⟨g, 0, none⟩) (n + m) c ∧ n + m ≤ c)) := by
  have hlen : (xs ++ news).length = (n + m) * i.size := by rw [List.length_append, hown.1, hs.newsLen, Nat.add_mul]
  have grown : ∀ (old : Nat) (row : Option Nat),
      (w.drew.alloc (.cells ((xs ++ news).toArray ++ Builtin.zeroCells z.cells (grownCap w (n + m) old e - (n + m))) e)).ownsRow 0 e i.size
        (.slice (some ⟨w.heap.size, 0, none⟩) (n + m) (grownCap w (n + m) old e)) (n + m) (xs ++ news) ∧
      w.grownBy (w.drew.alloc (.cells ((xs ++ news).toArray ++ Builtin.zeroCells z.cells (grownCap w (n + m) old e - (n + m))) e)) row := by
    intro old row
    have hge := grownCap_ge w (n + m) old e
    have hcm : grownCap w (n + m) old e ≤ maxLen := grownCap_le_maxLen w (n + m) old e h63
    refine ⟨⟨hlen, .inr ⟨w.heap.size, _, _, rfl, Nat.zero_le _, heap_alloc_new w.drew _, hge, hcm, ?_, ?_⟩⟩, ⟨rfl, rfl, rfl, by simp, fun k hk _ => heap_alloc_old w.drew _ k hk⟩⟩
    · simp only [Array.size_append, List.size_toArray, size_zeroCells, hzs, hlen, ← Nat.add_mul]
      congr 1
      omega
    · simp only [Array.toList_append]
      rw [← hlen]
      exact List.take_left
  rcases hown.2 with ⟨rfl, rfl⟩ | ⟨g, cap, cur, rfl, hbg, hg, hnc, hcm, hcs, htake⟩
  · have hx : xs = [] := List.eq_nil_of_length_eq_zero (by simpa using hown.1)
    subst hx
    by_cases hm : m = 0
    · subst hm
      have hn : news = [] := List.eq_nil_of_length_eq_zero (by simpa using hs.newsLen)
      subst hn
      refine ⟨.slice none 0 0, w, ?_, World.ownsRow_nil w 0 e i.size, .inl ⟨⟨rfl, rfl, rfl, Nat.le_refl _, fun _ _ _ => rfl⟩, .inl ⟨rfl, rfl, rfl⟩⟩⟩
      rcases hs.kind with ⟨e', hk⟩ | hk <;> simp [Builtin.append_, run_underlying ht, run_underlying hk, sizeOf, typeInfo, hi, hs.len, hs.cells]
    · have hr := run_append_grow_src (P := P) w t tx ty e i z ht hi hz none 0 0 [] (by simp [Builtin.firstCells]) x m news hs (by omega) (by simp only [maxLen] at h63; omega)
        (growslice_fits (by omega) (by simpa using hbytes))
      have hgr := grown 0 none
      exact ⟨_, _, hr, hgr.1, .inl ⟨hgr.2, .inr ⟨_, rfl, grownCap_ge w (0 + m) 0 e⟩⟩⟩
  · by_cases hroom : n + m ≤ cap
    · have hfit : n * i.size + news.length ≤ cur.size := by rw [hs.newsLen, hcs, ← Nat.add_mul]; exact Nat.mul_le_mul_right _ hroom
      have hst := run_storeCells_at P g (n * i.size) e news 0 cur w hg (by simpa using hfit) hs.one
      refine ⟨.slice (some ⟨g, 0, none⟩) (n + m) cap, w.setRow g (cur.toList.take (n * i.size) ++ news ++ cur.toList.drop (n * i.size + news.length)).toArray, ?_, ⟨hlen, .inr ⟨g, cap, _, rfl, hbg, setRow_heap w g cur _ e _ hg, hroom, hcm, ?_, ?_⟩⟩, ?_⟩
      · simp only [Nat.add_zero] at hst
        rcases hs.kind with ⟨e', hk⟩ | hk <;> simp [Builtin.append_, run_underlying ht, run_underlying hk, sizeOf, typeInfo, hi, hs.len, hroom, hs.cells, Addr.add_lit, hst]
      · simp only [List.size_toArray, List.length_append, List.length_take, List.length_drop, Array.length_toList]
        omega
      · rw [htake, ← hlen]
        exact List.take_left
      · exact .inr ⟨⟨rfl, rfl, rfl, by simp, fun k _ hk => setRow_other w g k _ (fun e => hk (by simp [Value.ownBlock, e]))⟩, g, cap, rfl, rfl, hroom⟩
    · have hold : (Builtin.firstCells i.size n (.slice (some ⟨g, 0, none⟩) n cap)).run P w.drew = .ok xs.toArray w.drew :=
        run_firstCells_some (P := P) w.drew i.size n ⟨g, 0, none⟩ n cap xs hown.1 (fun j u hu => by
          have := hown.cells (g := g) (by simp [Value.ownBlock]) j u hu
          simpa using this)
      have hr := run_append_grow_src (P := P) w t tx ty e i z ht hi hz (some ⟨g, 0, none⟩) n cap xs hold x m news hs (by omega) (by simp only [maxLen] at h63; omega)
        (growslice_fits (by omega) hbytes)
      have hgr := grown cap none
      exact ⟨_, _, hr, hgr.1, .inl ⟨hgr.2, .inr ⟨_, rfl, grownCap_ge w (n + m) cap e⟩⟩⟩
end Go.Proofs.YtndlpbheifalhaaGreatDoor.E
end
