/- Second part: numbers, strings, tests, lengths, parts. -/
import Derived.Test.YtndlpbheifalhaaGreatDoorE3
namespace Go.Proofs.YtndlpbheifalhaaGreatDoor.E
set_option linter.unusedVariables false
set_option linter.unusedSimpArgs false
variable {K : Kinds} {P : Program} {S : Nat → Prop} {w0 w : World} {r : Nat → Ref} {H : VH K}
theorem done {k : VV → VH K → Prop} (st : HeapOK S w0 r H w) {c : C} (hn : c.nm = none) (hk : k (.c c) H) {m : Sem Value} (hr : m.run P w = .ok c.plain w) :
    ∃ v', m.run P w = .ok v' w ∧ After S w0 r H k v' w := ⟨_, hr, After.pure st hk ((C.is_plain hn _).2 rfl) (lt_of_nm hn)⟩
def i64ok (z : Int) : Prop := -9223372036854775808 ≤ z ∧ z ≤ 9223372036854775807
def arith (k : IntKind) (z : Int) (f : VV → Prop) : Prop :=
  match k with
  | .i64 => i64ok z ∧ f (.c (.int .i64 z))
  | k => f (.c (.int k (k.wrap z)))
theorem arith_sound {k : IntKind} {z : Int} {f : VV → Prop} (h : arith k z f) : f (.c (.int k (k.wrap z))) := by
  cases k <;> simp only [arith] at h <;> first | exact h | (rw [IntWalk.i64_in z h.1]; exact h.2)
def bitw (op : BinOp) (k : IntKind) (x y : Int) : Int :=
  match op with
  | .and => k.wrap (BitVec.ofInt k.bits x &&& BitVec.ofInt k.bits y).toNat
  | .or => k.wrap (BitVec.ofInt k.bits x ||| BitVec.ofInt k.bits y).toNat
  | .xor => k.wrap (BitVec.ofInt k.bits x ^^^ BitVec.ofInt k.bits y).toNat
  | _ => k.wrap (BitVec.ofInt k.bits x &&& ~~~ (BitVec.ofInt k.bits y)).toNat
def tf (p : Prop) [Decidable p] (f : VV → Prop) : Prop := ite2 (decide p) (f (.c (.bool true))) (f (.c (.bool false)))
theorem tf_sound {p : Prop} [Decidable p] {f : VV → Prop} (h : tf p f) : f (.c (.bool (decide p))) := by
  rcases ite2_of h with ⟨hd, hf⟩ | ⟨hd, hf⟩ <;> rw [hd] <;> exact hf
def nf (p : Prop) [Decidable p] (f : VV → Prop) : Prop := ite2 (decide p) (f (.c (.bool false))) (f (.c (.bool true)))
theorem nf_sound {p : Prop} [Decidable p] {f : VV → Prop} (h : nf p f) : f (.c (.bool (!decide p))) := by
  rcases ite2_of h with ⟨hd, hf⟩ | ⟨hd, hf⟩ <;> rw [hd] <;> exact hf
def evInt (op : BinOp) (k : IntKind) (a b : Int) (f : VV → Prop) : Prop :=
  match op with
  | .add => arith k (a + b) f
  | .sub => arith k (a - b) f
  | .mul => arith k (a * b) f
  | .quo => b ≠ 0 ∧ arith k (a.tdiv b) f
  | .rem => b ≠ 0 ∧ f (.c (.int k (a.tmod b)))
  | .and => f (.c (.int k (bitw .and k a b)))
  | .or => f (.c (.int k (bitw .or k a b)))
  | .xor => f (.c (.int k (bitw .xor k a b)))
  | .andNot => f (.c (.int k (bitw .andNot k a b)))
  | .eql => tf (a = b) f
  | .neq => nf (a = b) f
  | .lss => tf (a < b) f
  | .leq => tf (a ≤ b) f
  | .gtr => tf (b < a) f
  | .geq => tf (b ≤ a) f
  | _ => False
def evShift (op : BinOp) (k : IntKind) (a b : Int) (f : VV → Prop) : Prop :=
  match op with
  | .shl => 0 ≤ b ∧ arith k (a * 2 ^ (min b.toNat k.bits)) f
  | .shr => 0 ≤ b ∧ f (.c (.int k (a.fdiv (2 ^ (min b.toNat k.bits)))))
  | _ => False
theorem toList_beq (a b : ByteArray) : (a.toList == b.toList) = decide (a.toList = b.toList) := by
  by_cases h : a.toList = b.toList <;> simp [h]
def evStr (op : BinOp) (a b : ByteArray) (f : VV → Prop) : Prop :=
  match op with
  | .add => a.size + b.size ≤ 9223372036854775807 ∧ f (.c (.str (a ++ b)))
  | .eql => tf (a.toList = b.toList) f
  | .neq => nf (a.toList = b.toList) f
  | .lss => tf (Op.bytesLess a.toList b.toList = true) f
  | .geq => nf (Op.bytesLess a.toList b.toList = true) f
  | .leq => tf (Op.bytesLess a.toList b.toList = true ∨ a.toList = b.toList) f
  | .gtr => nf (Op.bytesLess a.toList b.toList = true ∨ a.toList = b.toList) f
  | _ => False
/-- Two pointers (or lists) of which one is nil are the same, or not. -/
def evNil (op : BinOp) (ok same : Bool) (f : VV → Prop) : Prop := guardP ok (match op with
  | .eql => f (.c (.bool same))
  | .neq => f (.c (.bool (!same)))
  | _ => False)
def isPtrB (P : Program) (T : TypeId) : Bool := match P.underlying T with | some (.pointer _) => true | _ => false
def isSlcB (P : Program) (T : TypeId) : Bool := match P.underlying T with | some (.slice _) => true | _ => false
def isBoolB (P : Program) (T : TypeId) : Bool := match P.underlying T with | some .bool => true | _ => false
def RS.isNil : RS → Bool
  | .nil => true
  | _ => false
def evBoo (op : BinOp) (ok a b : Bool) (f : VV → Prop) : Prop := guardP ok (match op with
  | .eql => tf (a = b) f
  | .neq => nf (a = b) f
  | _ => False)
def evBin (P : Program) (T : TypeId) (op : BinOp) (x y : VV) (f : VV → Prop) : Prop :=
  match x, y with
  | .one (.c (.int k a)), .one (.c (.int k' b)) =>
    match op with
    | .shl => evShift .shl k a b f
    | .shr => evShift .shr k a b f
    | op => guardP (decide (k = k')) (evInt op k a b f)
  | .one (.c (.str a)), .one (.c (.str b)) => evStr op a b f
  | .one (.c .nilp), .one (.c .nilp) => evNil op (isPtrB P T) true f
  | .one (.c (.ptr _ _ _)), .one (.c .nilp) => evNil op (isPtrB P T) false f
  | .one (.c .nilp), .one (.c (.ptr _ _ _)) => evNil op (isPtrB P T) false f
  | .one (.c (.rp _ _ _ _ _)), .one (.c .nilp) => evNil op (isPtrB P T) false f
  | .one (.c .nilp), .one (.c (.rp _ _ _ _ _)) => evNil op (isPtrB P T) false f
  | .one (.c .nils), .one (.c .nils) => evNil op (isSlcB P T) true f
  | .one (.c (.rs _ _ x)), .one (.c .nils) => evNil op (isSlcB P T) x.isNil f
  | .one (.c .nils), .one (.c (.rs _ _ x)) => evNil op (isSlcB P T) x.isNil f
  | .one (.c (.bool a)), .one (.c (.bool b)) => evBoo op (isBoolB P T) a b f
  | _, _ => False
theorem evNil_sound (st : HeapOK S w0 r H w) {op : BinOp} {T : TypeId} {ox oy : Operand} {ok same : Bool} {k : VV → VH K → Prop} (h : evNil op ok same fun v => k v H) {v u : Value}
    (hg : ∀ op, (eqGuard op T ox oy v u).run P w = .ok () w) (h1 : ok = true → (Op.equal T v u).run P w = .ok same w) (h2 : ∀ op, op = .eql ∨ op = .neq → binOp op T v u = (match op with | .eql => (do pure (.bool (← Op.equal T v u)) : Sem Value) | _ => (do pure (.bool (!(← Op.equal T v u))) : Sem Value))) :
    ∃ v', (do eqGuard op T ox oy v u; binOp op T v u : Sem Value).run P w = .ok v' w ∧ After S w0 r H k v' w := by
  obtain ⟨hok, h⟩ := guardP_iff.1 h
  have e := h1 hok
  split at h
  · refine done st (c := .bool same) rfl h ?_
    simp only [Sem.run_bind, hg, Result.andThen_ok]
    rw [h2 _ (.inl rfl)]
    simp [e, C.plain]
  · refine done st (c := .bool (!same)) rfl h ?_
    simp only [Sem.run_bind, hg, Result.andThen_ok]
    rw [h2 _ (.inr rfl)]
    simp [e, C.plain]
  · exact h.elim
set_option maxRecDepth 2000 in
theorem equal_step {T : TypeId} {v u : Value} {b : Bool} (h : ∀ n, (Op.equalIn (n + 1) T v u).run P w = .ok b w) : (Op.equal T v u).run P w = .ok b w := by
  unfold Op.equal
  obtain ⟨d, hd⟩ : ∃ d, Op.maxDepth = d + 1 := ⟨_, rfl⟩
  rw [hd]; exact h d
theorem ptrB_of {T : TypeId} (h : isPtrB P T = true) : ∃ e, P.underlying T = some (.pointer e) := by
  unfold isPtrB at h; split at h
  · rename_i e he; exact ⟨e, he⟩
  · cases h
theorem slcB_of {T : TypeId} (h : isSlcB P T = true) : ∃ e, P.underlying T = some (.slice e) := by
  unfold isSlcB at h; split at h
  · rename_i e he; exact ⟨e, he⟩
  · cases h
theorem boolB_of {T : TypeId} (h : isBoolB P T = true) : P.underlying T = some .bool := by
  unfold isBoolB at h; split at h
  · rename_i he; exact he
  · cases h
theorem evBin_sound (st : HeapOK S w0 r H w) {op : BinOp} {T : TypeId} {x y : VV} {ox oy : Operand} {k : VV → VH K → Prop} (h : evBin P T op x y fun v => k v H) {v u : Value} (hx : x.is r v) (hy : y.is r u) :
    ∃ v', (do eqGuard op T ox oy v u; binOp op T v u : Sem Value).run P w = .ok v' w ∧ After S w0 r H k v' w := by
  unfold evBin at h
  split at h
  · rename_i kk a kk' b
    simp only [VV.is, V1.is, C.is, C.plain] at hx hy
    subst hx hy
    split at h
    · obtain ⟨h0, h⟩ := h
      refine done st (c := .int kk _) rfl (arith_sound h) (by simp [C.plain, eqGuard, binOp, Op.shift, Int.not_lt.2 h0])
    · obtain ⟨h0, h⟩ := h
      refine done st (c := .int kk _) rfl h (by simp [C.plain, eqGuard, binOp, Op.shift, Int.not_lt.2 h0])
    · obtain ⟨hg, h'⟩ := guardP_iff.1 h
      obtain rfl := of_decide_eq_true hg
      clear h
      rename_i h1 h2
      clear h1 h2
      have h := h'
      clear h'
      cases op <;> simp only [evInt] at h
      case add => refine done st (c := .int kk _) rfl (arith_sound h) (by simp [C.plain, eqGuard, binOp, Op.intArith])
      case sub => refine done st (c := .int kk _) rfl (arith_sound h) (by simp [C.plain, eqGuard, binOp, Op.intArith])
      case mul => refine done st (c := .int kk _) rfl (arith_sound h) (by simp [C.plain, eqGuard, binOp, Op.intArith])
      case quo => refine done st (c := .int kk _) rfl (arith_sound h.2) (by simp [C.plain, eqGuard, binOp, Op.intDiv, h.1])
      case rem => refine done st (c := .int kk _) rfl h.2 (by simp [C.plain, eqGuard, binOp, Op.intDiv, h.1])
      case and => refine done st (c := .int kk _) rfl h (by simp [C.plain, eqGuard, binOp, Op.intBits, bitw])
      case or => refine done st (c := .int kk _) rfl h (by simp [C.plain, eqGuard, binOp, Op.intBits, bitw])
      case xor => refine done st (c := .int kk _) rfl h (by simp [C.plain, eqGuard, binOp, Op.intBits, bitw])
      case andNot => refine done st (c := .int kk _) rfl h (by simp [C.plain, eqGuard, binOp, Op.intBits, bitw])
      case eql => refine done st (c := .bool _) rfl (tf_sound h) (by simp [C.plain, eqGuard, binOp, Op.intCmp]; rfl)
      case neq => refine done st (c := .bool _) rfl (nf_sound h) (by simp [C.plain, eqGuard, binOp, Op.intCmp]; rfl)
      case lss => refine done st (c := .bool _) rfl (tf_sound h) (by simp [C.plain, eqGuard, binOp, Op.intCmp])
      case leq => refine done st (c := .bool _) rfl (tf_sound h) (by simp [C.plain, eqGuard, binOp, Op.intCmp])
      case gtr => refine done st (c := .bool _) rfl (tf_sound h) (by simp [C.plain, eqGuard, binOp, Op.intCmp])
      case geq => refine done st (c := .bool _) rfl (tf_sound h) (by simp [C.plain, eqGuard, binOp, Op.intCmp])
      all_goals exact h.elim
  · rename_i a b
    simp only [VV.is, V1.is, C.is, C.plain] at hx hy
    subst hx hy
    cases op <;> simp only [evStr] at h
    case add =>
      refine done st (c := .str (a ++ b)) rfl h.2 ?_
      have h1 : ¬ (((a.size + b.size : Nat) : Int) > IntKind.i64.max) := by
        have := h.1; simp only [IntKind.max, IntKind.signed, IntKind.bits]; omega
      simp only [eqGuard, binOp, Op.stringOp, h1, if_false]
      simp [C.plain]
    case eql => refine done st (c := .bool _) rfl (tf_sound h) (by simp [C.plain, eqGuard, binOp, Op.stringOp, ← toList_beq])
    case neq => refine done st (c := .bool _) rfl (nf_sound h) (by simp [C.plain, eqGuard, binOp, Op.stringOp, ← toList_beq])
    case lss => refine done st (c := .bool _) rfl (tf_sound h) (by simp [C.plain, eqGuard, binOp, Op.stringOp])
    case geq => refine done st (c := .bool _) rfl (nf_sound h) (by simp [C.plain, eqGuard, binOp, Op.stringOp])
    case leq => refine done st (c := .bool _) rfl (tf_sound h) (by simp [C.plain, eqGuard, binOp, Op.stringOp, toList_beq])
    case gtr => refine done st (c := .bool _) rfl (nf_sound h) (by simp [C.plain, eqGuard, binOp, Op.stringOp, toList_beq])
    all_goals exact h.elim
  · simp only [VV.is, V1.is, C.is, C.plain] at hx hy
    subst hx hy
    exact evNil_sound st h (fun op => by cases op <;> simp [eqGuard]) (fun hb => by obtain ⟨e, he⟩ := ptrB_of hb; exact equal_step fun n => (by simp [Op.equalIn, run_underlying he])) (fun op ho => by rcases ho with rfl | rfl <;> rfl)
  · simp only [VV.is, V1.is, C.is, C.plain] at hx hy
    subst hx hy
    exact evNil_sound st h (fun op => by cases op <;> simp [eqGuard]) (fun hb => by obtain ⟨e, he⟩ := ptrB_of hb; exact equal_step fun n => (by simp [Op.equalIn, run_underlying he])) (fun op ho => by rcases ho with rfl | rfl <;> rfl)
  · simp only [VV.is, V1.is, C.is, C.plain] at hx hy
    subst hx hy
    exact evNil_sound st h (fun op => by cases op <;> simp [eqGuard]) (fun hb => by obtain ⟨e, he⟩ := ptrB_of hb; exact equal_step fun n => (by simp [Op.equalIn, run_underlying he])) (fun op ho => by rcases ho with rfl | rfl <;> rfl)
  · simp only [VV.is, V1.is, C.is, C.plain] at hx hy
    subst hx hy
    exact evNil_sound st h (fun op => by cases op <;> simp [eqGuard]) (fun hb => by obtain ⟨e, he⟩ := ptrB_of hb; exact equal_step fun n => (by simp [Op.equalIn, run_underlying he])) (fun op ho => by rcases ho with rfl | rfl <;> rfl)
  · simp only [VV.is, V1.is, C.is, C.plain] at hx hy
    subst hx hy
    exact evNil_sound st h (fun op => by cases op <;> simp [eqGuard]) (fun hb => by obtain ⟨e, he⟩ := ptrB_of hb; exact equal_step fun n => (by simp [Op.equalIn, run_underlying he])) (fun op ho => by rcases ho with rfl | rfl <;> rfl)
  · simp only [VV.is, V1.is, C.is, C.plain] at hx hy
    subst hx hy
    exact evNil_sound st h (fun op => by cases op <;> simp [eqGuard]) (fun hb => by obtain ⟨e, he⟩ := slcB_of hb; exact equal_step fun n => (by simp [Op.equalIn, run_underlying he])) (fun op ho => by rcases ho with rfl | rfl <;> rfl)
  · rename_i e0 sz0 x0
    simp only [VV.is, V1.is, C.is, C.plain] at hx hy
    subst hx hy
    cases x0 <;> exact evNil_sound st h (fun op => by cases op <;> simp [eqGuard, RS.val]) (fun hb => by obtain ⟨e, he⟩ := slcB_of hb; exact equal_step fun n => (by simp [Op.equalIn, run_underlying he, RS.val, RS.isNil])) (fun op ho => by rcases ho with rfl | rfl <;> rfl)
  · rename_i e0 sz0 x0
    simp only [VV.is, V1.is, C.is, C.plain] at hx hy
    subst hx hy
    cases x0 <;> exact evNil_sound st h (fun op => by cases op <;> simp [eqGuard, RS.val]) (fun hb => by obtain ⟨e, he⟩ := slcB_of hb; exact equal_step fun n => (by simp [Op.equalIn, run_underlying he, RS.val, RS.isNil])) (fun op ho => by rcases ho with rfl | rfl <;> rfl)
  · rename_i a b
    simp only [VV.is, V1.is, C.is, C.plain] at hx hy
    subst hx hy
    obtain ⟨hg, h'⟩ := guardP_iff.1 h
    have he := boolB_of hg
    have hb : (Op.equal T (.bool a) (.bool b)).run P w = .ok (a == b) w := equal_step fun n => (by simp [Op.equalIn, run_underlying he])
    have hd : decide (a = b) = (a == b) := by cases a <;> cases b <;> rfl
    split at h'
    · refine done st (c := .bool _) rfl (tf_sound h') ?_
      simp only [Sem.run_bind]
      rw [show binOp .eql T (.bool a) (.bool b) = (do pure (.bool (← Op.equal T (.bool a) (.bool b))) : Sem Value) from rfl]
      simp [eqGuard, hb, C.plain, ← hd]
    · refine done st (c := .bool _) rfl (nf_sound h') ?_
      simp only [Sem.run_bind]
      rw [show binOp .neq T (.bool a) (.bool b) = (do pure (.bool (!(← Op.equal T (.bool a) (.bool b)))) : Sem Value) from rfl]
      simp [eqGuard, hb, C.plain, ← hd]
    · exact h'.elim
  · exact h.elim
def evUn (op : UnOp) (x : VV) (f : VV → Prop) : Prop :=
  match op, x with
  | .not, .one (.c (.bool b)) => ite2 b (f (.c (.bool false))) (f (.c (.bool true)))
  | .neg, .one (.c (.int k n)) => arith k (0 - n) f
  | .xor, .one (.c (.int k n)) => f (.c (.int k (bitw .xor k (if k.signed then -1 else k.max) n)))
  | _, _ => False
theorem evUn_sound (st : HeapOK S w0 r H w) {op : UnOp} {x : VV} {k : VV → VH K → Prop} (h : evUn op x fun v => k v H) {v : Value} (hx : x.is r v) :
    ∃ v', (Op.unary op v).run P w = .ok v' w ∧ After S w0 r H k v' w := by
  unfold evUn at h
  split at h
  · simp only [VV.is, V1.is, C.is, C.plain] at hx
    subst hx
    rcases ite2_of h with ⟨rfl, h⟩ | ⟨rfl, h⟩ <;> refine done st (c := .bool _) rfl h (by simp [C.plain, Op.unary])
  · simp only [VV.is, V1.is, C.is, C.plain] at hx
    subst hx
    refine done st (c := .int _ _) rfl (arith_sound h) (by simp [C.plain, Op.unary, Op.intArith])
  · simp only [VV.is, V1.is, C.is, C.plain] at hx
    subst hx
    refine done st (c := .int _ _) rfl h (by simp [C.plain, Op.unary, Op.intBits, bitw])
  · exact h.elim
def evConv (P : Program) (src dst : TypeId) (x : VV) (f : VV → Prop) : Prop :=
  match P.underlying src, P.underlying dst, x with
  | some _, some (.int k), .one (.c (.int _ n)) => arith k n f
  | some (.string), some .string, .one (.c (.str s)) => f (.c (.str s))
  | _, _, _ => False
theorem evConv_sound (st : HeapOK S w0 r H w) {src dst : TypeId} {x : VV} {k : VV → VH K → Prop} (h : evConv P src dst x fun v => k v H) {v : Value} (hx : x.is r v) :
    ∃ v', (convert src dst v).run P w = .ok v' w ∧ After S w0 r H k v' w := by
  unfold evConv at h
  split at h
  · rename_i d kk kk' n hs hd
    simp only [VV.is, V1.is, C.is, C.plain] at hx
    subst hx
    refine done st (c := .int _ _) rfl (arith_sound h) (by simp [C.plain, convert, run_underlying hs, run_underlying hd, Conv.intToInt])
  · rename_i s hs hd
    simp only [VV.is, V1.is, C.is, C.plain] at hx
    subst hx
    refine done st (c := .str s) rfl h (by simp [C.plain, convert, run_underlying hs, run_underlying hd])
  · exact h.elim
def evExtract (x : VV) (i : Nat) (f : VV → Prop) : Prop :=
  match x with
  | .tup l => match l[i]? with | some y => f (.one y) | none => False
  | _ => False
theorem evExtract_sound (st : HeapOK S w0 r H w) {x : VV} {i : Nat} {k : VV → VH K → Prop} (h : evExtract x i fun v => k v H) {v : Value} (hx : x.is r v) (hl : x.lt H.length) :
    ∃ v', (Instr.extract v i).run P w = .ok v' w ∧ After S w0 r H k v' w := by
  unfold evExtract at h
  split at h
  · rename_i l
    obtain ⟨vs, rfl, hr⟩ := hx
    split at h
    · rename_i y hy
      obtain ⟨u, hu, hyu⟩ := hr.get i y hy
      exact ⟨u, by simp [Instr.extract, hu], After.pure st h hyu (hl y (List.mem_of_getElem? hy))⟩
    · exact h.elim
  · exact h.elim
def bt (s : ByteArray) (i : Nat) : Int := ((s.data.getD i 0).toNat : Int)
def evPart (P : Program) (e : TypeId) (l : List C) (off : Nat) (f : VV → Prop) : Prop :=
  match P.info? e, P.underlying e with
  | some inf, some d => match isRowB d with
    | true => f (.agg ((l.drop off).take inf.size))
    | false => match l[off]? with | some c => f (.c c) | none => False
  | _, _ => False
theorem evPart_sound (st : HeapOK S w0 r H w) {e : TypeId} {l : List C} {off : Nat} {k : VV → VH K → Prop} (h : evPart P e l off fun v => k v H) {vs : List Value} (hr : Rel r l vs) (hl : (VV.agg l).lt H.length) :
    ∃ v', (part e vs.toArray off).run P w = .ok v' w ∧ After S w0 r H k v' w := by
  unfold evPart at h
  split at h
  · rename_i inf d hi hd
    split at h
    · rename_i hrow
      have hagg : (isAgg e).run P w = .ok true w := by
        unfold isAgg; rw [Sem.run_bind, run_underlying hd w]; cases d <;> simp_all [isRowB]
      refine ⟨.agg ((vs.drop off).take inf.size).toArray, ?_, After.pure st h ⟨_, rfl, (hr.drop _).take _⟩ (fun c hc => hl c (List.mem_of_mem_drop (List.mem_of_mem_take hc)))⟩
      simp [part, hagg, sizeOf, typeInfo, hi, List.drop_take]
    · rename_i hrow
      have hagg : (isAgg e).run P w = .ok false w := by
        unfold isAgg; rw [Sem.run_bind, run_underlying hd w]; cases d <;> simp_all [isRowB]
      split at h
      · rename_i c hc
        obtain ⟨u, hu', hcu⟩ := hr.get _ c hc
        exact ⟨u, by simp [part, hagg, hu'], After.pure st h hcu (hl c (List.mem_of_getElem? hc))⟩
      · exact h.elim
  · exact h.elim
def evIndex (P : Program) (T : TypeId) (x ix : VV) (f : VV → Prop) : Prop :=
  match ix, P.underlying T, x with
  | .one (.c (.int _ z)), some .string, .one (.c (.str s)) => (0 ≤ z ∧ z < (s.size : Int)) ∧ f (.c (.int .u8 (bt s z.toNat)))
  | .one (.c (.int _ z)), some (.array len e), .one (.agg l) => match P.info? e with
    | some inf => (0 ≤ z ∧ z < (len : Int)) ∧ idxSplit z (fun q => evPart P e l (q * inf.size) f) len 0
    | none => False
  | _, _, _ => False
theorem evIndex_sound (st : HeapOK S w0 r H w) {T : TypeId} {x ix : VV} {k : VV → VH K → Prop} (h : evIndex P T x ix fun v => k v H) {v u : Value} (hx : x.is r v) (hix : ix.is r u) (hl : x.lt H.length) :
    ∃ v', (Instr.index T v u).run P w = .ok v' w ∧ After S w0 r H k v' w := by
  unfold evIndex at h
  split at h
  · rename_i kk z s hu
    simp only [VV.is, V1.is, C.is, C.plain] at hx hix
    subst hx hix
    obtain ⟨hz, h⟩ := h
    have hlt : z.toNat < s.size := by omega
    refine ⟨.int .u8 (bt s z.toNat), ?_, After.pure st h rfl (lt_of_nm rfl)⟩
    have hg : s[z.toNat]? = some s[z.toNat] := by simp [hlt]
    simp only [Instr.index, asIntOf, Sem.run_bind, Sem.run_pure, Result.andThen_ok, run_underlying hu, hz.1, if_true, hg]
    have : s[z.toNat] = s.data.getD z.toNat 0 := by
      have hlt' : z.toNat < s.data.size := hlt
      have hlt2 : z.toNat < s.size := hlt
      simp only [Array.getD, hlt']; rfl
    simp [bt, this]
  · rename_i kk z len e l hu
    simp only [VV.is, V1.is, C.is, C.plain] at hix
    subst hix
    obtain ⟨vs, rfl, hr⟩ := hx
    split at h
    · rename_i inf hi
      obtain ⟨hz, h⟩ := h
      have h := idxSplit_sound h (by simpa using hz.1) (by simpa using hz.2)
      obtain ⟨v', h1, h2⟩ := evPart_sound st h hr hl
      refine ⟨v', ?_, h2⟩
      simp only [Instr.index, asIntOf, Sem.run_bind, Sem.run_pure, Result.andThen_ok, run_underlying hu, hz.1, hz.2, and_self, if_true, sizeOf, typeInfo, hi]
      simp [hi, h1]
    · exact h.elim
  · exact h.elim
def cutOff (fs : Array Field) (f : Nat) : Option Field := fs[f]?
def evField (P : Program) (T : TypeId) (x : VV) (fd : Nat) (f : VV → Prop) : Prop :=
  match x, P.underlying T with
  | .one (.agg l), some (.struct fs) =>
    match fs[fd]? with
    | some fl => match P.info? fl.type, P.underlying fl.type with
      | some inf, some d => match isRowB d with
        | true => f (.agg ((l.drop fl.offset).take inf.size))
        | false => match l[fl.offset]? with | some c => f (.c c) | none => False
      | _, _ => False
    | none => False
  | _, _ => False
theorem evField_sound (st : HeapOK S w0 r H w) {T : TypeId} {x : VV} {fd : Nat} {k : VV → VH K → Prop} (h : evField P T x fd fun v => k v H) {v : Value} (hx : x.is r v) (hl : x.lt H.length) :
    ∃ v', (Instr.field T v fd).run P w = .ok v' w ∧ After S w0 r H k v' w := by
  unfold evField at h
  split at h
  · rename_i l fs hu
    obtain ⟨vs, rfl, hr⟩ := hx
    split at h
    · rename_i fl hf
      split at h
      · rename_i inf d hi hd
        split at h
        · rename_i hrow
          have hagg : (isAgg fl.type).run P w = .ok true w := by
            unfold isAgg; rw [Sem.run_bind, run_underlying hd w]; cases d <;> simp_all [isRowB]
          refine ⟨.agg ((vs.drop fl.offset).take inf.size).toArray, ?_, After.pure st h ⟨_, rfl, (hr.drop _).take _⟩ (fun c hc => hl c (List.mem_of_mem_drop (List.mem_of_mem_take hc)))⟩
          simp [Instr.field, run_underlying hu, hf, asAgg, part, hagg, sizeOf, typeInfo, hi, List.drop_take]
        · rename_i hrow
          have hagg : (isAgg fl.type).run P w = .ok false w := by
            unfold isAgg; rw [Sem.run_bind, run_underlying hd w]; cases d <;> simp_all [isRowB]
          split at h
          · rename_i c hc
            obtain ⟨u, hu', hcu⟩ := hr.get _ c hc
            exact ⟨u, by simp [Instr.field, run_underlying hu, hf, asAgg, part, hagg, hu'], After.pure st h hcu (hl c (List.mem_of_getElem? hc))⟩
          · exact h.elim
      · exact h.elim
    · exact h.elim
  · exact h.elim
/-! ### builtins that only look -/
def evLen (P : Program) (T : TypeId) (x : VV) (f : VV → Prop) : Prop :=
  match P.underlying T, x with
  | some .string, .one (.c (.str s)) => f (.c (.int .i64 (s.size : Int)))
  | some (.array n _), _ => f (.c (.int .i64 (n : Int)))
  | some (.slice _), .one (.c (.slc _ _ n _)) => f (.c (.int .i64 (n : Int)))
  | some (.slice _), .one (.c .nils) => f (.c (.int .i64 0))
  | some (.slice _), .one (.c (.rs _ _ x)) => f (.c (.int .i64 (x.len : Int)))
  | _, _ => False
theorem evLen_sound (st : HeapOK S w0 r H w) {T ty : TypeId} {x : VV} {k : VV → VH K → Prop} (h : evLen P T x fun v => k v H) {v : Value} (hx : x.is r v) :
    ∃ v', (Builtin.len_ #[T] ty #[v]).run P w = .ok v' w ∧ After S w0 r H k v' w := by
  unfold evLen at h
  split at h
  · rename_i s hu
    simp only [VV.is, V1.is, C.is, C.plain] at hx
    subst hx
    refine done st (c := .int _ _) rfl h (by simp [C.plain, Builtin.len_, run_underlying hu, goInt])
  · rename_i n e hu
    refine done st (c := .int _ _) rfl h (by simp [C.plain, Builtin.len_, run_underlying hu, goInt])
  · rename_i e n lo m cap hu
    obtain ⟨a, rfl, _⟩ := hx
    refine done st (c := .int _ _) rfl h (by simp [C.plain, Builtin.len_, run_underlying hu, goInt])
  · rename_i e hu
    simp only [VV.is, V1.is, C.is, C.plain] at hx
    subst hx
    refine done st (c := .int _ _) rfl h (by simp [C.plain, Builtin.len_, run_underlying hu, goInt])
  · rename_i e e' sz x hu
    simp only [VV.is, V1.is, C.is, C.plain] at hx
    subst hx
    refine done st (c := .int _ _) rfl h (by cases x <;> simp [RS.val, RS.len, C.plain, Builtin.len_, run_underlying hu, goInt])
  · exact h.elim
def evMM (mx : Bool) (x y : VV) (f : VV → Prop) : Prop :=
  match x, y with
  | .one (.c (.int k a)), .one (.c (.int _ b)) => match mx with | true => f (.c (.int k (max a b))) | false => f (.c (.int k (min a b)))
  | _, _ => False
theorem evMax_sound (st : HeapOK S w0 r H w) {ts : Array TypeId} {ty : TypeId} {x y : VV} {k : VV → VH K → Prop} (h : evMM true x y fun v => k v H) {v u : Value} (hx : x.is r v) (hy : y.is r u) :
    ∃ v', (Builtin.max_ ts ty #[v, u]).run P w = .ok v' w ∧ After S w0 r H k v' w := by
  unfold evMM at h
  split at h
  · rename_i kk a kk' b
    simp only [VV.is, V1.is, C.is, C.plain] at hx hy
    subst hx hy
    refine ⟨.int kk (max a b), ?_, After.pure st h rfl (lt_of_nm rfl)⟩
    simp [Builtin.max_, Builtin.max2]
    split <;> omega
  · exact h.elim
theorem evMin_sound (st : HeapOK S w0 r H w) {ts : Array TypeId} {ty : TypeId} {x y : VV} {k : VV → VH K → Prop} (h : evMM false x y fun v => k v H) {v u : Value} (hx : x.is r v) (hy : y.is r u) :
    ∃ v', (Builtin.min_ ts ty #[v, u]).run P w = .ok v' w ∧ After S w0 r H k v' w := by
  unfold evMM at h
  split at h
  · rename_i kk a kk' b
    simp only [VV.is, V1.is, C.is, C.plain] at hx hy
    subst hx hy
    refine ⟨.int kk (min a b), ?_, After.pure st h rfl (lt_of_nm rfl)⟩
    simp [Builtin.min_, Builtin.min2]
    split <;> omega
  · exact h.elim
end Go.Proofs.YtndlpbheifalhaaGreatDoor.E
