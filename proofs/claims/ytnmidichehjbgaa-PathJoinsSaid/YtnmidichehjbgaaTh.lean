/- strings.Join as a contract; the program's Join. -/
import Derived.Test.YtnmidichehjbgaaTd
import Derived.Test.YtnmidichehjbgaaShelf
import Derived.Below
namespace Go.Proofs.Ytnmidichehjbgaa.T
open Go.Proofs.Ytnmidichehjbgaa.E
open Go.RowKit
set_option maxRecDepth 100000
set_option linter.unusedVariables false
def ljoin (l : List ByteArray) (sep : ByteArray) : ByteArray := ⟨(Lib.join (l.map (·.data.toList)) sep.data.toList).toArray⟩
def ct_sjoin (l : List ByteArray) (sep : ByteArray) : Ct KK := { need := l.length ≤ 140737488355328 ∧ (ljoin l sep).size ≤ 140737488355328, pre := [.ro .str l], args := [.c (.slc 0 0 l.length none), .c (.str sep)], Y := Unit, ok := fun _ => True, ret := fun _ => .c (.str (ljoin l sep)), post := fun _ => [.gone] }
theorem flat_str (l : List ByteArray) : (flat (K := KK) Kd.str l).map C.plain = l.map Value.string := by
  induction l with
  | nil => rfl
  | cons x t ih =>
    show Value.string x :: (flat (K := KK) Kd.str t).map C.plain = Value.string x :: t.map Value.string
    exact congrArg _ ih
theorem gone_ok {r : Nat → Ref} {w w' : World} {l : List ByteArray} (h : Below w.heap.size w w') : HeapOK (K := KK) (Ours r [(.ro Kd.str l : Atom KK)]) w r [.gone] w' := by
  have off : ∀ n, at_ ([.gone] : VH KK) n = .gone := fun n => by
    by_cases e : n = 0
    · subst e; rfl
    · exact at_ge (by simp; omega)
  refine ⟨fun n => by rw [off]; trivial, fun n => by rw [off]; trivial, fun n m b _ h1 => ?_, fun n b h1 => ?_, fun n m b h1 => ?_, ⟨h.os, h.tape, h.output, h.size, fun b hb _ => h.block b hb⟩⟩
  · rw [blkOf, off] at h1; exact h1.elim
  · rw [blkOf, off] at h1; exact h1.elim
  · rw [rbOf, off] at h1; simp [Atom.rb] at h1
theorem sjoin_ok (l : List ByteArray) (sep : ByteArray) : CtOk Try.prog 14 (ct_sjoin l sep) := by
  refine ⟨fun _ _ => rfl, fun hn r w vals st ha _ => ?_⟩
  obtain ⟨h1, h2⟩ := hn
  obtain ⟨hsz, hcap, hnl, hc⟩ := st.ok 0
  match vals, ha with
  | [v0, v1], ⟨hv0, hv1, _⟩ =>
    have hv1 : v1 = .string sep := hv1
    subst hv1
    obtain ⟨a, rfl, haa⟩ := hv0
    have haa : a = if (r 0).nl then none else some ⟨(r 0).blk, (r 0).off + 0 * (r 0).sz, none⟩ := haa.resolve_left (fun h => h.1 rfl)
    have fin : ∀ w', Below w.heap.size w w' → After (Ours r (ct_sjoin l sep).pre) w r (ct_sjoin l sep).pre (ct_sjoin l sep).Post (.string (ljoin l sep)) w' := fun w' hb =>
      ⟨r, _, _, ⟨(), trivial, rfl, rfl⟩, rfl, lt_of_nm rfl, Nat.le_refl _, fun _ _ => rfl, RoKeep.none rfl, gone_ok hb⟩
    cases l with
    | nil =>
      refine (Try.strings_Join_none a _ sep w).mono ?_
      rintro e w' ⟨rfl, rfl⟩
      exact ⟨_, rfl, fin _ (Below.refl _ _)⟩
    | cons x t =>
      have hnf : (r 0).nl = false := by
        cases hx : (r 0).nl with
        | false => rfl
        | true => have h3 := hnl hx; have h4 : (x :: t).length ≤ (r 0).cap := hcap; rw [h3] at h4; simp at h4
      rw [hnf] at haa
      obtain ⟨hb, hcell⟩ := hc (List.cons_ne_nil _ _)
      have hcells : ∀ (j : Nat) y, (x :: t)[j]? = some y → w.cell? ⟨(r 0).blk, (r 0).off + j, none⟩ = some (.string y) := fun j y hj =>
        hcell j (.string y) (by rw [flat_str, List.getElem?_map, hj]; rfl)
      have haa : a = some ⟨(r 0).blk, (r 0).off, none⟩ := by simpa using haa
      rw [haa]
      refine (Try.strings_Join (r 0).blk (r 0).off _ (x :: t) sep w hcells hb h1 hcap h2).mono ?_
      rintro e w' ⟨rfl, hbl⟩
      exact ⟨_, rfl, fin _ hbl⟩
theorem foldl_join (t : List ByteArray) : ∀ s : ByteArray, (t.foldl (fun s y => s ++ slash ++ y) s).data.toList = s.data.toList ++ Lib.joinTail [47] (t.map (·.data.toList)) := by
  induction t with
  | nil => intro s; simp [Lib.joinTail]
  | cons y t ih =>
    intro s
    rw [List.foldl_cons, ih, ba_data', ba_data']
    simp [Lib.joinTail, slash, List.append_assoc]
theorem ljoin_eq (l : List ByteArray) : ljoin l slash = joinB l := by
  apply ba_ext
  cases l with
  | nil => rfl
  | cons x t =>
    simp only [ljoin, joinB, List.map_cons, Lib.join_cons]
    rw [foldl_join]
    simp [slash]
def tab4 : Tab Try.prog KK := ⟨mixed, fun f args H => match f, args with
  | 14, [.one (.c (.slc n 0 _ none)), .one (.c (.str s))] => match at_ H n with
    | .ro .str l => some (ct_sjoin l s, [], [n])
    | _ => none
  | f, args => none, fun f args H ct ks τ h => by
    split at h
    · split at h
      · cases h; exact sjoin_ok _ _
      · cases h
    · cases h⟩
end Go.Proofs.Ytnmidichehjbgaa.T
