/-
  The rule for a region whose order is open once more, over a relation of worlds of one's own: an operation may turn cells that no other one reads.
-/
import Derived.Test.YtpgkhhdobolfbaaIRange
namespace Go.Proofs.Ytpgkhhdobolfbaa.RT
set_option linter.unusedVariables false
set_option linter.unusedSimpArgs false
open Go Go.RowKit

/-- A relation between a world and a later one; what holds of the world as long as operation e0 has not come up. -/
class Rel (T : World → World → Prop) where
  refl : ∀ A, T A A
  trans : ∀ A B C, T A B → T B C → T A C
  drawn : ∀ A : World, T A { A with drawn := A.drawn + 1 }
  e0 : Nat
  N : World → Prop
  ndrawn : ∀ A : World, N A → N { A with drawn := A.drawn + 1 }

section
variable {P : Program} {ops : Array Oper} {w0 : World} {eff : Nat → Bool} {f : Nat → Gh → Value} {V : Nat → Gh → World → Prop}

/-- The value that an operation gives in w0, if it gives one. -/
def pureVal (P : Program) (w0 : World) (o : Oper) (a : Act) : Value :=
  match (execOp a.eval o).run P w0 with
  | .ok (.value v) _ => v
  | _ => undef

def wantedAt (ops : Array Oper) (o : Oper) (a : Act) : Bool := Region.wanted o (yielded ops a.tmps)

/-- The value that operation number k leaves, carried out in the order of the text, the new memory's words being ξ. -/
def valOf (P : Program) (ops : Array Oper) (w0 : World) (eff : Nat → Bool) (f : Nat → Gh → Value) (ξ : Nat → Gh) (k : Nat) (o : Oper) (a : Act) : Value :=
  if wantedAt ops o a then (if eff k then f k (ξ k) else pureVal P w0 o a) else undef

/-- The state ahead of operation number k. -/
def preAct (P : Program) (ops : Array Oper) (w0 : World) (eff : Nat → Bool) (f : Nat → Gh → Value) (a0 : Act) (ξ : Nat → Gh) : Nat → Act
  | 0 => a0
  | k + 1 =>
    let a := preAct P ops w0 eff f a0 ξ k
    match ops[k]? with
    | some o => a.put o.dst (valOf P ops w0 eff f ξ k o a)
    | none => a

/-- Its value. -/
def valAt (P : Program) (ops : Array Oper) (w0 : World) (eff : Nat → Bool) (f : Nat → Gh → Value) (a0 : Act) (ξ : Nat → Gh) (k : Nat) : Value :=
  match ops[k]? with
  | some o => valOf P ops w0 eff f ξ k o (preAct P ops w0 eff f a0 ξ k)
  | none => undef

/-- Slot t behind the chosen ones of the first k operations, in the order of the text. -/
def slotAt (ops : Array Oper) (a0 : Act) (sel : Nat → Bool) (vs : Nat → Value) (t : Tmp) : Nat → Option Value
  | 0 => a0.tmps[t]?
  | k + 1 =>
    if sel k && ((ops[k]?).bind (·.dst)) == some t then (if t < a0.tmps.size then some (vs k) else none) else slotAt ops a0 sel vs t k

theorem put_size (a : Act) (d : Option Tmp) (v : Value) : (a.put d v).tmps.size = a.tmps.size := by cases d <;> simp [Act.put]
theorem put_defers' (a : Act) (d : Option Tmp) (v : Value) : (a.put d v).defers = a.defers := by cases d <;> rfl
theorem put_at (a : Act) (d : Option Tmp) (v : Value) (t : Tmp) : (a.put d v).tmps[t]? = if d = some t then (if t < a.tmps.size then some v else none) else a.tmps[t]? := by
  cases d with
  | none => simp [Act.put]
  | some d =>
    simp only [Act.put, Array.getElem?_setIfInBounds, Option.some.injEq]
    by_cases h : d = t
    · subst h; rfl
    · simp [h]

theorem preAct_size (a0 : Act) (ξ : Nat → Gh) : ∀ k, (preAct P ops w0 eff f a0 ξ k).tmps.size = a0.tmps.size
  | 0 => rfl
  | k + 1 => by
    simp only [preAct]
    cases ops[k]? with
    | none => exact preAct_size a0 ξ k
    | some o => simp only [put_size]; exact preAct_size a0 ξ k
theorem preAct_defers (a0 : Act) (ξ : Nat → Gh) : ∀ k, (preAct P ops w0 eff f a0 ξ k).defers = a0.defers
  | 0 => rfl
  | k + 1 => by
    simp only [preAct]
    cases ops[k]? with
    | none => exact preAct_defers a0 ξ k
    | some o => simp only [put_defers']; exact preAct_defers a0 ξ k

theorem preAct_slot (a0 : Act) (ξ : Nat → Gh) (t : Tmp) : ∀ k, (preAct P ops w0 eff f a0 ξ k).tmps[t]? = slotAt ops a0 (fun _ => true) (valAt P ops w0 eff f a0 ξ) t k
  | 0 => rfl
  | k + 1 => by
    have ih := preAct_slot a0 ξ t k
    have hv : valAt P ops w0 eff f a0 ξ k = (match ops[k]? with | some o => valOf P ops w0 eff f ξ k o (preAct P ops w0 eff f a0 ξ k) | none => undef) := rfl
    simp only [preAct, slotAt]
    cases ho : ops[k]? with
    | none => simp [ih]
    | some o =>
      simp only [ho] at hv
      simp only [put_at, preAct_size, Option.bind_some, Bool.true_and, beq_iff_eq]
      split
      · rw [hv]
      · exact ih

/-- Two lists of choices that agree where slot t is written. -/
theorem slotAt_congr (a0 : Act) {sel sel' : Nat → Bool} {vs vs' : Nat → Value} (t : Tmp) : ∀ k, (∀ i, i < k → ((ops[i]?).bind (·.dst)) = some t → sel i = sel' i ∧ (sel i = true → vs i = vs' i)) → slotAt ops a0 sel vs t k = slotAt ops a0 sel' vs' t k
  | 0, _ => rfl
  | k + 1, h => by
    have ih := slotAt_congr a0 (sel := sel) (sel' := sel') (vs := vs) (vs' := vs') t k (fun i hi => h i (by omega))
    simp only [slotAt]
    by_cases hd : ((ops[k]?).bind (·.dst)) = some t
    · obtain ⟨h1, h2⟩ := h k (by omega) hd
      by_cases hs : sel k = true
      · simp [hd, hs, ← h1, h2 hs]
      · simp only [Bool.not_eq_true] at hs
        simp [hs, ← h1, ih]
    · simp [hd, ih]

/-- Nobody chosen from j on writes slot t. -/
theorem slotAt_upto (a0 : Act) {sel : Nat → Bool} {vs : Nat → Value} (t : Tmp) (j : Nat) : ∀ k, j ≤ k → (∀ i, j ≤ i → i < k → ((ops[i]?).bind (·.dst)) = some t → sel i = false) → slotAt ops a0 sel vs t k = slotAt ops a0 sel vs t j
  | 0, hj, _ => by have : j = 0 := by omega
                   subst this; rfl
  | k + 1, hj, h => by
    by_cases hjk : j = k + 1
    · subst hjk; rfl
    · have ih := slotAt_upto a0 (sel := sel) (vs := vs) t j k (by omega) (fun i hi hik => h i hi (by omega))
      simp only [slotAt]
      by_cases hd : ((ops[k]?).bind (·.dst)) = some t
      · simp [h k (by omega) (by omega) hd, ih]
      · simp [hd, ih]

/-! ### The region's own shape, asked of the kernel -/

/-- Who comes ahead of whom, as a number's bits. -/
def isAnc (ops : Array Oper) (i j : Nat) : Bool := ((Region.before ops).getD j 0).testBit i

/-- Do two operations touch one temporary? -/
def touch (ops : Array Oper) (x y : Oper) : Bool :=
  (match x.dst with | some d => (y.looksAt ops).contains d || y.dst == some d | none => false) ||
  (match y.dst with | some d => (x.looksAt ops).contains d | none => false)

/-- Whoever is waited for stands earlier; whoever touch one temporary wait for one another; the relation is closed; none selects; the last ones, from m on, wait for all. -/
def shapeOk (ops : Array Oper) (m : Nat) : Bool :=
  (List.range ops.size).all fun j =>
    match ops[j]? with
    | none => true
    | some oj =>
      (oj.after.all fun e => !Region.binds .any e || (decide (e.on < j) && isAnc ops e.on j && (List.range e.on).all fun i => !isAnc ops i e.on || isAnc ops i j)) &&
      (List.range ops.size).all (fun i => !isAnc ops i j || decide (i < j) && oj.after.any (fun e => Region.binds .any e && (e.on == i || isAnc ops i e.on))) &&
      (List.range j).all (fun i => match ops[i]? with | none => true | some oi => !touch ops oi oj || isAnc ops i j) &&
      (decide (j < m) || (List.range j).all (fun i => isAnc ops i j)) &&
      (match oj.op with | .select .. => false | _ => true)


theorem shape_at {m : Nat} (h : shapeOk ops m = true) {j : Nat} {oj : Oper} (hj : ops[j]? = some oj) :
    (∀ e ∈ oj.after, Region.binds .any e = true → e.on < j ∧ isAnc ops e.on j = true ∧ ∀ i, i < e.on → isAnc ops i e.on = true → isAnc ops i j = true) ∧
    (∀ i, i < ops.size → isAnc ops i j = true → i < j ∧ ∃ e ∈ oj.after, Region.binds .any e = true ∧ (e.on = i ∨ isAnc ops i e.on = true)) ∧
    (∀ i oi, i < j → ops[i]? = some oi → touch ops oi oj = true → isAnc ops i j = true) ∧
    (m ≤ j → ∀ i, i < j → isAnc ops i j = true) ∧
    (∀ cs b, oj.op ≠ .select cs b) := by
  have hlt : j < ops.size := (Array.getElem?_eq_some_iff.1 hj).1
  have h1 := List.all_eq_true.1 h j (List.mem_range.2 hlt)
  simp only [hj, Bool.and_eq_true] at h1
  obtain ⟨⟨⟨⟨ha, hb⟩, hc⟩, hd⟩, he⟩ := h1
  refine ⟨fun e hem hbd => ?_, fun i hi hia => ?_, fun i oi hi hoi ht => ?_, fun hmj i hi => ?_, fun cs b heq => ?_⟩
  · have := (Array.all_eq_true_iff_forall_mem.1 ha) e hem
    simp only [hbd, Bool.not_true, Bool.false_or, Bool.and_eq_true, decide_eq_true_eq] at this
    refine ⟨this.1.1, this.1.2, fun i hi hia => ?_⟩
    have h2 := List.all_eq_true.1 this.2 i (List.mem_range.2 hi)
    simpa [hia] using h2
  · have h2 := List.all_eq_true.1 hb i (List.mem_range.2 hi)
    simp only [hia, Bool.not_true, Bool.false_or, Bool.and_eq_true, decide_eq_true_eq] at h2
    obtain ⟨e, hem, hx⟩ := Array.any_eq_true'.1 h2.2
    simp only [Bool.and_eq_true, Bool.or_eq_true, beq_iff_eq] at hx
    exact ⟨h2.1, e, hem, hx.1, hx.2⟩
  · have h2 := List.all_eq_true.1 hc i (List.mem_range.2 hi)
    simpa [hoi, ht] using h2
  · rcases Nat.lt_or_ge j m with h3 | h3
    · omega
    · have h4 : decide (j < m) = false := by simp; omega
      rw [h4, Bool.false_or] at hd
      exact List.all_eq_true.1 hd i (List.mem_range.2 hi)
  · rw [heq] at he; cases he

theorem anc_trans {m : Nat} (h : shapeOk ops m = true) : ∀ (c a b : Nat), c < ops.size → a < ops.size → b < ops.size → isAnc ops a b = true → isAnc ops b c = true → isAnc ops a c = true := by
  intro c
  induction c using Nat.strongRecOn with
  | ind c ih =>
    intro a b hc ha hb hab hbc
    obtain ⟨oc, hoc⟩ : ∃ o, ops[c]? = some o := ⟨ops[c], by simp [hc]⟩
    obtain ⟨s1, s2, _⟩ := shape_at h hoc
    obtain ⟨hbc', e, hem, hbd, hx⟩ := s2 b hb hbc
    obtain ⟨hec, hea, hcl⟩ := s1 e hem hbd
    obtain ⟨ob, hob⟩ : ∃ o, ops[b]? = some o := ⟨ops[b], by simp [hb]⟩
    have hab' : a < b := (shape_at h hob |>.2.1 a ha hab).1
    rcases hx with hx | hx
    · subst hx; exact hcl a hab' hab
    · have heL : e.on < ops.size := by omega
      obtain ⟨oe, hoe⟩ : ∃ o, ops[e.on]? = some o := ⟨ops[e.on], by simp [heL]⟩
      have hbe : b < e.on := (shape_at h hoe |>.2.1 b hb hx).1
      have := ih e.on hec a b heL ha hb hab hx
      exact hcl a (by omega) this

/-- Two states that hold the same in what an operation looks at. -/
theorem exec_same {o : Oper} {a a' : Act} (hs : ∀ cs b, o.op ≠ .select cs b) (h : ∀ t ∈ o.looksAt ops, a.tmps[t]? = a'.tmps[t]?) :
    execOp a.eval o = execOp a'.eval o ∧ wantedAt ops o a = wantedAt ops o a' := by
  constructor
  · refine execOp_congr o hs fun x hx => ?_
    cases x with
    | tmp t =>
      have : t ∈ o.looksAt ops := List.mem_append_left _ (List.mem_filterMap.2 ⟨.tmp t, by simpa using hx, rfl⟩)
      simp only [Act.eval, Array.getD_eq_getD_getElem?, h t this]
    | const v => rfl
    | global g => rfl
    | func f => rfl
  · unfold wantedAt Region.wanted
    cases hg : o.guard with
    | none => rfl
    | some gw =>
      obtain ⟨g, want⟩ := gw
      have : yielded ops a.tmps g = yielded ops a'.tmps g := by
        unfold yielded
        cases ht : (ops[g]?).bind (·.dst) with
        | none => rfl
        | some t => simp only [Option.bind_some, h t (by simp [Oper.looksAt, hg, ht])]
      simp only [this]

theorem touch_of_looks {x y : Oper} {t : Tmp} (hd : x.dst = some t) (hl : t ∈ y.looksAt ops) : touch ops x y = true := by
  simp [touch, hd, hl]
theorem touch_of_looks' {x y : Oper} {t : Tmp} (hd : y.dst = some t) (hl : t ∈ x.looksAt ops) : touch ops x y = true := by
  simp [touch, hd, hl]
theorem touch_of_dst {x y : Oper} {t : Tmp} (hd : x.dst = some t) (hl : y.dst = some t) : touch ops x y = true := by
  simp [touch, hd, hl]

/-- What an operation comes to hangs on its own words and on those of who comes ahead of it, and on nothing else. -/
theorem val_local {m : Nat} (h : shapeOk ops m = true) (a0 : Act) {ξ ξ' : Nat → Gh} : ∀ (i : Nat) (o : Oper), ops[i]? = some o → (∀ e, e < ops.size → e = i ∨ isAnc ops e i = true → ξ e = ξ' e) →
    (∀ t ∈ o.looksAt ops, (preAct P ops w0 eff f a0 ξ i).tmps[t]? = (preAct P ops w0 eff f a0 ξ' i).tmps[t]?) ∧ valAt P ops w0 eff f a0 ξ i = valAt P ops w0 eff f a0 ξ' i := by
  intro i
  induction i using Nat.strongRecOn with
  | ind i ih =>
    intro o ho hag
    have hi : i < ops.size := (Array.getElem?_eq_some_iff.1 ho).1
    obtain ⟨s1, s2, s3, _, s5⟩ := shape_at h ho
    have hslots : ∀ t ∈ o.looksAt ops, (preAct P ops w0 eff f a0 ξ i).tmps[t]? = (preAct P ops w0 eff f a0 ξ' i).tmps[t]? := by
      intro t ht
      rw [preAct_slot, preAct_slot]
      refine slotAt_congr a0 t i fun k hk hd => ⟨rfl, fun _ => ?_⟩
      cases hok : ops[k]? with
      | none => simp [hok] at hd
      | some ok =>
        have hd' : ok.dst = some t := by simpa [hok] using hd
        have hanc := s3 k ok hk hok (touch_of_looks hd' ht)
        refine (ih k hk ok hok fun e he hx => hag e he (.inr ?_)).2
        rcases hx with rfl | hx
        · exact hanc
        · exact anc_trans h i e k hi he (by omega) hx hanc
    refine ⟨hslots, ?_⟩
    obtain ⟨hx, hw⟩ := exec_same s5 hslots
    simp only [valAt, ho, valOf, pureVal, hx, hw]
    have := hag i hi (.inl rfl)
    simp only [this]

/-- Operation o, carried out in state a and world W, gives a value v and a world W' with R v W'. -/
def Gives (P : Program) (o : Oper) (a : Act) (W : World) (R : Value → World → Prop) : Prop :=
  match (execOp a.eval o).run P W with
  | .ok (.value v) w' => R v w'
  | .ok .skip w' => R undef w'
  | .ok (.enter g args) w' => Calls P g args w' fun e w'' => ∃ v, e = .returned v ∧ R v w''
  | _ => False

theorem Gives.wp {o : Oper} {a : Act} {W : World} {R : Value → World → Prop} {K : Act → World → Prop} {Q : Exit → Act → World → Prop} (h : Gives P o a W R) (hK : ∀ v w', R v w' → K (a.put o.dst v) w') : o.wp P a W K Q := by
  unfold Gives at h
  unfold Oper.wp
  generalize (execOp a.eval o).run P W = r at *
  cases r with
  | halt x w' => exact h.elim
  | ok n w' =>
    cases n <;> simp only [Oper.upon] at h ⊢ <;> first | exact hK _ _ h | exact h.elim | skip
    exact Calls.mono h fun e w'' he => by obtain ⟨v, rfl, hR⟩ := he; exact hK _ _ hR

theorem Gives.mono {o : Oper} {a : Act} {W : World} {R R' : Value → World → Prop} (h : Gives P o a W R) (hR : ∀ v w', R v w' → R' v w') : Gives P o a W R' := by
  unfold Gives at *
  generalize (execOp a.eval o).run P W = r at *
  cases r with
  | halt x w' => exact h
  | ok n w' =>
    cases n <;> first | exact hR _ _ h | exact h.elim | skip
    exact Calls.mono h fun e w'' he => by obtain ⟨v, rfl, hv⟩ := he; exact ⟨v, rfl, hR _ _ hv⟩

/-- THE WALK IN THE ORDER OF THE TEXT. F: what is known of the memory that was made so far, by the operation's number. -/
def SeqR (T : World → World → Prop) [Rel T] (P : Program) (ops : Array Oper) (w0 : World) (eff : Nat → Bool) (f : Nat → Gh → Value) (V : Nat → Gh → World → Prop) (fin : List (Nat × (World → Prop)) → Act → Prop) :
    List Oper → Nat → List (Nat × (World → Prop)) → Act → Prop
  | [], _, F, a => fin F a
  | o :: rest, k, F, a =>
    (wantedAt ops o a = false ∧ SeqR T P ops w0 eff f V fin rest (k + 1) F (a.put o.dst undef)) ∨
    (wantedAt ops o a = true ∧ eff k = false ∧ ∃ v, (∀ W, T w0 W → (isAnc ops k (Rel.e0 T) = true → Rel.N T W) → (execOp a.eval o).run P W = .ok (.value v) W) ∧ SeqR T P ops w0 eff f V fin rest (k + 1) F (a.put o.dst v)) ∨
    (wantedAt ops o a = true ∧ eff k = true ∧
      (∀ W, T w0 W → (k = Rel.e0 T ∨ isAnc ops k (Rel.e0 T) = true → Rel.N T W) → (∀ e φ, (e, φ) ∈ F → isAnc ops e k = true → φ W) → Gives P o a W fun v W' => ∃ x, v = f k x ∧ T W W' ∧ V k x W' ∧ (k ≠ Rel.e0 T → Rel.N T W → Rel.N T W')) ∧
      ∀ x, SeqR T P ops w0 eff f V fin rest (k + 1) ((k, V k x) :: F) (a.put o.dst (f k x)))

/-- What an operation owes. -/
structure Owes (T : World → World → Prop) [Rel T] (P : Program) (ops : Array Oper) (w0 : World) (eff : Nat → Bool) (f : Nat → Gh → Value) (V : Nat → Gh → World → Prop) (a0 : Act) (ξ : Nat → Gh) (k : Nat) (o : Oper) : Prop where
  pure : wantedAt ops o (preAct P ops w0 eff f a0 ξ k) = true → eff k = false → ∀ W, T w0 W → (isAnc ops k (Rel.e0 T) = true → Rel.N T W) → (execOp (preAct P ops w0 eff f a0 ξ k).eval o).run P W = .ok (.value (pureVal P w0 o (preAct P ops w0 eff f a0 ξ k))) W
  made : wantedAt ops o (preAct P ops w0 eff f a0 ξ k) = true → eff k = true → ∀ W, T w0 W → (k = Rel.e0 T ∨ isAnc ops k (Rel.e0 T) = true → Rel.N T W) →
    (∀ e oe, ops[e]? = some oe → e < k → isAnc ops e k = true → wantedAt ops oe (preAct P ops w0 eff f a0 ξ e) = true → eff e = true → V e (ξ e) W) →
    Gives P o (preAct P ops w0 eff f a0 ξ k) W fun v W' => ∃ x, v = f k x ∧ T W W' ∧ V k x W' ∧ (k ≠ Rel.e0 T → Rel.N T W → Rel.N T W')

/-- What is known is what the memory's words say. -/
def Known (P : Program) (ops : Array Oper) (w0 : World) (eff : Nat → Bool) (f : Nat → Gh → Value) (V : Nat → Gh → World → Prop) (a0 : Act) (ξ : Nat → Gh) (k : Nat) (F : List (Nat × (World → Prop))) : Prop :=
  ∀ e φ, (e, φ) ∈ F → e < k ∧ φ = V e (ξ e) ∧ eff e = true ∧ ∃ oe, ops[e]? = some oe ∧ wantedAt ops oe (preAct P ops w0 eff f a0 ξ e) = true

variable {T : World → World → Prop} [Rel T]

theorem seqR_step (hN : Rel.N T w0) {fin : List (Nat × (World → Prop)) → Act → Prop} {a0 : Act} {ξ : Nat → Gh} {k : Nat} {o : Oper} {rest : List Oper} {F : List (Nat × (World → Prop))} (ho : ops[k]? = some o)
    (hF : Known P ops w0 eff f V a0 ξ k F) (h : SeqR T P ops w0 eff f V fin (o :: rest) k F (preAct P ops w0 eff f a0 ξ k)) :
    Owes T P ops w0 eff f V a0 ξ k o ∧ ∃ F', Known P ops w0 eff f V a0 ξ (k + 1) F' ∧ SeqR T P ops w0 eff f V fin rest (k + 1) F' (preAct P ops w0 eff f a0 ξ (k + 1)) := by
  have hpre : preAct P ops w0 eff f a0 ξ (k + 1) = (preAct P ops w0 eff f a0 ξ k).put o.dst (valOf P ops w0 eff f ξ k o (preAct P ops w0 eff f a0 ξ k)) := by simp only [preAct, ho]
  have hF1 : Known P ops w0 eff f V a0 ξ (k + 1) F := fun e φ he => by obtain ⟨h1, h2⟩ := hF e φ he; exact ⟨by omega, h2⟩
  simp only [SeqR] at h
  rcases h with ⟨hw, h⟩ | ⟨hw, he, v, hv, h⟩ | ⟨hw, he, hg, h⟩
  · refine ⟨⟨fun h1 => absurd h1 (by simp [hw]), fun h1 => absurd h1 (by simp [hw])⟩, F, hF1, ?_⟩
    rw [hpre]; simpa [valOf, hw] using h
  · have hp : pureVal P w0 o (preAct P ops w0 eff f a0 ξ k) = v := by simp only [pureVal, hv w0 (Rel.refl _) (fun _ => hN)]
    refine ⟨⟨fun _ _ W hW hn => by rw [hp]; exact hv W hW hn, fun _ h2 => absurd h2 (by simp [he])⟩, F, hF1, ?_⟩
    rw [hpre]; simpa [valOf, hw, he, hp] using h
  · refine ⟨⟨fun _ h2 => absurd h2 (by simp [he]), fun _ _ W hW hn hK => hg W hW hn fun e φ hef hanc => ?_⟩, (k, V k (ξ k)) :: F, ?_, ?_⟩
    · obtain ⟨h1, rfl, h3, oe, hoe, h4⟩ := hF e φ hef
      exact hK e oe hoe h1 hanc h4 h3
    · intro e φ hef
      rcases List.mem_cons.1 hef with heq | hef
      · cases heq
        exact ⟨by omega, rfl, he, o, ho, hw⟩
      · exact hF1 e φ hef
    · rw [hpre]
      have := h (ξ k)
      simpa [valOf, hw, he] using this

theorem seqR_reach (hN : Rel.N T w0) {fin : List (Nat × (World → Prop)) → Act → Prop} {a0 : Act} {m : Nat} (hm : m ≤ ops.size) (h : SeqR T P ops w0 eff f V fin (ops.toList.take m) 0 [] a0) (ξ : Nat → Gh) :
    ∀ k, k ≤ m → (∀ i o, i < k → ops[i]? = some o → Owes T P ops w0 eff f V a0 ξ i o) ∧ ∃ F, Known P ops w0 eff f V a0 ξ k F ∧ SeqR T P ops w0 eff f V fin ((ops.toList.take m).drop k) k F (preAct P ops w0 eff f a0 ξ k)
  | 0, _ => ⟨fun i o hi => by omega, [], fun e φ he => by simp at he, by simpa [preAct] using h⟩
  | k + 1, hk => by
    obtain ⟨h1, F, hF, h2⟩ := seqR_reach hN hm h ξ k (by omega)
    obtain ⟨o, ho⟩ : ∃ o, ops[k]? = some o := ⟨ops[k]'(by omega), by simp⟩
    have hl : (ops.toList.take m).drop k = o :: (ops.toList.take m).drop (k + 1) := by
      rw [List.drop_eq_getElem_cons (by simp; omega)]
      congr 1
      have := (Array.getElem?_eq_some_iff.1 ho).2
      simpa using this
    rw [hl] at h2
    obtain ⟨h3, F', hF', h4⟩ := seqR_step hN ho hF h2
    refine ⟨fun i oi hi hoi => ?_, F', hF', h4⟩
    rcases Nat.lt_or_ge i k with h5 | h5
    · exact h1 i oi h5 hoi
    · have : i = k := by omega
      subst this
      rw [ho] at hoi; cases hoi; exact h3

/-- Where the run stands: 'listed' have come up; the words of the memory made so far are ξ's. -/
structure Stands (T : World → World → Prop) [Rel T] (P : Program) (ops : Array Oper) (w0 : World) (eff : Nat → Bool) (f : Nat → Gh → Value) (V : Nat → Gh → World → Prop) (a0 : Act) (listed : Array Bool) (ξ : Nat → Gh) (a : Act) (W : World) : Prop where
  size : listed.size = ops.size
  below : T w0 W
  nyet : listed.getD (Rel.e0 T) false = false → Rel.N T W
  facts : ∀ k o, ops[k]? = some o → listed.getD k false = true → wantedAt ops o (preAct P ops w0 eff f a0 ξ k) = true → eff k = true → V k (ξ k) W
  shut : ∀ k o, ops[k]? = some o → listed.getD k false = true → ∀ i, i < ops.size → isAnc ops i k = true → listed.getD i false = true
  defers : a.defers = a0.defers
  tsize : a.tmps.size = a0.tmps.size
  slots : ∀ t, a.tmps[t]? = slotAt ops a0 (fun k => listed.getD k false) (valAt P ops w0 eff f a0 ξ) t ops.size

/-- Those that touch and come behind are not listed where j is not. -/
theorem Stands.looks {m : Nat} (h : shapeOk ops m = true) {a0 : Act} {listed : Array Bool} {ξ : Nat → Gh} {a : Act} {W : World} (st : Stands T P ops w0 eff f V a0 listed ξ a W)
    {j : Nat} {o : Oper} (ho : ops[j]? = some o) (hj : listed.getD j false = false) (hall : ∀ i, i < ops.size → isAnc ops i j = true → listed.getD i false = true) :
    ∀ t ∈ o.looksAt ops, a.tmps[t]? = (preAct P ops w0 eff f a0 ξ j).tmps[t]? := by
  intro t ht
  have hlt : j < ops.size := (Array.getElem?_eq_some_iff.1 ho).1
  rw [st.slots t, preAct_slot, slotAt_upto a0 t j ops.size (by omega)]
  · refine slotAt_congr a0 t j fun i hi hd => ?_
    cases hoi : ops[i]? with
    | none => simp [hoi] at hd
    | some oi =>
      have hd' : oi.dst = some t := by simpa [hoi] using hd
      exact ⟨hall i (by omega) ((shape_at h ho).2.2.1 i oi hi hoi (touch_of_looks hd' ht)), fun _ => rfl⟩
  · intro i hji hi hd
    by_cases hij : i = j
    · subst hij; exact hj
    cases hoi : ops[i]? with
    | none => simp [hoi] at hd
    | some oi =>
      have hd' : oi.dst = some t := by simpa [hoi] using hd
      have hanc := (shape_at h hoi).2.2.1 j o (by omega) ho (touch_of_looks' hd' ht)
      cases hl : listed.getD i false with
      | false => rfl
      | true => have := st.shut i oi hoi hl j hlt hanc; rw [hj] at this; cases this

theorem getD_set (l : Array Bool) (j k : Nat) (hj : j < l.size) : (l.setIfInBounds j true).getD k false = (if k = j then true else l.getD k false) := by
  by_cases h : k = j
  · subst h; simp [hj]
  · simp only [Array.getD_eq_getD_getElem?, h, if_false]
    rw [Array.getElem?_setIfInBounds_ne (Ne.symm h)]

/-- One step: operation j has come up. -/
theorem Stands.step {m : Nat} (h : shapeOk ops m = true) {a0 : Act} {listed : Array Bool} {ξ : Nat → Gh} {a : Act} {W W' : World} (st : Stands T P ops w0 eff f V a0 listed ξ a W)
    (stab : ∀ k x (A B : World), T A B → V k x A → V k x B)
    {j : Nat} {o : Oper} (ho : ops[j]? = some o) (hj : listed.getD j false = false) (hall : ∀ i, i < ops.size → isAnc ops i j = true → listed.getD i false = true)
    (hb : T W W') (hn : j ≠ Rel.e0 T → Rel.N T W → Rel.N T W') (x : Gh) (v : Value)
    (hv : v = valAt P ops w0 eff f a0 (fun k => if k = j then x else ξ k) j)
    (hx : wantedAt ops o (preAct P ops w0 eff f a0 ξ j) = true → eff j = true → V j x W') :
    Stands T P ops w0 eff f V a0 (listed.setIfInBounds j true) (fun k => if k = j then x else ξ k) (a.put o.dst v) W' := by
  have hlt : j < ops.size := (Array.getElem?_eq_some_iff.1 ho).1
  have hjl : j < listed.size := by rw [st.size]; exact hlt
  -- who has come up does not hang on j
  have keep : ∀ k ok, ops[k]? = some ok → listed.getD k false = true → (∀ t ∈ ok.looksAt ops, (preAct P ops w0 eff f a0 ξ k).tmps[t]? = (preAct P ops w0 eff f a0 (fun k => if k = j then x else ξ k) k).tmps[t]?) ∧
      valAt P ops w0 eff f a0 ξ k = valAt P ops w0 eff f a0 (fun k => if k = j then x else ξ k) k := by
    intro k ok hok hk
    refine val_local h a0 k ok hok fun e he hey => ?_
    have hne : e ≠ j := by
      intro hej
      rw [hej] at hey
      rcases hey with hey | hey
      · rw [hey] at hj; rw [hj] at hk; cases hk
      · have := st.shut k ok hok hk j hlt hey; rw [hj] at this; cases this
    simp [hne]
  have self : ∀ t ∈ o.looksAt ops, (preAct P ops w0 eff f a0 ξ j).tmps[t]? = (preAct P ops w0 eff f a0 (fun k => if k = j then x else ξ k) j).tmps[t]? := by
    intro t ht
    rw [preAct_slot, preAct_slot]
    refine slotAt_congr a0 t j fun i hi hd => ⟨rfl, fun _ => ?_⟩
    cases hoi : ops[i]? with
    | none => simp [hoi] at hd
    | some oi =>
      have hd' : oi.dst = some t := by simpa [hoi] using hd
      have hanc := (shape_at h ho).2.2.1 i oi hi hoi (touch_of_looks hd' ht)
      exact (keep i oi hoi (hall i (by omega) hanc)).2
  refine ⟨by simp [st.size], Rel.trans _ _ _ st.below hb, fun hl => ?_, ?_, ?_, by rw [put_defers']; exact st.defers, by rw [put_size]; exact st.tsize, ?_⟩
  · rw [getD_set _ _ _ hjl] at hl
    by_cases h1 : Rel.e0 T = j
    · rw [if_pos h1] at hl; cases hl
    · rw [if_neg h1] at hl; exact hn (fun e => h1 e.symm) (st.nyet hl)
  · intro k ok hok hk hw he
    by_cases hkj : k = j
    · subst hkj
      rw [ho] at hok; cases hok
      have hw' := (exec_same (shape_at h ho).2.2.2.2 self).2
      simp only [if_true]
      exact hx (by rw [hw']; exact hw) he
    · rw [getD_set _ _ _ hjl, if_neg hkj] at hk
      have hs := (keep k ok hok hk).1
      have hw' := (exec_same (shape_at h hok).2.2.2.2 hs).2
      simp only [hkj, if_false]
      exact stab k _ _ _ hb (st.facts k ok hok hk (by rw [hw']; exact hw) he)
  · intro k ok hok hk i hi hanc
    rw [getD_set _ _ _ hjl] at hk ⊢
    by_cases hkj : k = j
    · subst hkj
      split
      · rfl
      · exact hall i hi hanc
    · rw [if_neg hkj] at hk
      split
      · rfl
      · exact st.shut k ok hok hk i hi hanc
  · intro t
    rw [put_at, st.tsize]
    by_cases hd : o.dst = some t
    · rw [if_pos hd, slotAt_upto a0 t (j + 1) ops.size (by omega)]
      · simp [slotAt, ho, hd, hjl, hv]
      · intro i hi1 hi2 hdi
        rw [getD_set _ _ _ hjl, if_neg (by omega)]
        cases hoi : ops[i]? with
        | none => simp [hoi] at hdi
        | some oi =>
          have hd' : oi.dst = some t := by simpa [hoi] using hdi
          have hanc := (shape_at h hoi).2.2.1 j o (by omega) ho (touch_of_dst hd hd')
          cases hl : listed.getD i false with
          | false => rfl
          | true => have := st.shut i oi hoi hl j hlt hanc; rw [hj] at this; cases this
    · rw [if_neg hd, st.slots t]
      refine slotAt_congr a0 t ops.size fun i hi hdi => ?_
      have hij : i ≠ j := by
        rintro rfl
        rw [ho] at hdi
        exact hd (by simpa using hdi)
      rw [getD_set _ _ _ hjl, if_neg hij]
      refine ⟨rfl, fun hl => ?_⟩
      cases hoi : ops[i]? with
      | none => simp [hoi] at hdi
      | some oi => exact (keep i oi hoi hl).2

/-- How many have not come up. -/
def left (n : Nat) (listed : Array Bool) : Nat := ((List.range n).filter fun k => !listed.getD k false).length

theorem filter_lt {p q : Nat → Bool} : ∀ (l : List Nat), (∀ x ∈ l, q x = true → p x = true) → (∃ x ∈ l, p x = true ∧ q x = false) → (l.filter q).length < (l.filter p).length
  | [], _, h => by obtain ⟨x, hx, _⟩ := h; simp at hx
  | y :: l, hpq, h => by
    have hle : ∀ l : List Nat, (∀ x ∈ l, q x = true → p x = true) → (l.filter q).length ≤ (l.filter p).length := by
      intro l
      induction l with
      | nil => intro _; simp
      | cons z l ih =>
        intro hl
        have h1 := ih (fun x hx => hl x (List.mem_cons_of_mem _ hx))
        have h2 := hl z (List.mem_cons_self ..)
        cases hq : q z <;> cases hp : p z <;> simp_all <;> omega
    have h1 := hle l (fun x hx => hpq x (List.mem_cons_of_mem _ hx))
    have hy := hpq y (List.mem_cons_self ..)
    obtain ⟨x, hx, hp, hq⟩ := h
    rcases List.mem_cons.1 hx with rfl | hx
    · simp only [List.filter_cons, hp, hq, if_true]
      simp
      omega
    · have h2 := filter_lt l (fun x hx => hpq x (List.mem_cons_of_mem _ hx)) ⟨x, hx, hp, hq⟩
      cases hq : q y <;> cases hp : p y <;> simp_all <;> omega

theorem left_set {n : Nat} {listed : Array Bool} {j : Nat} (hj : j < n) (hs : listed.size = n) (h0 : listed.getD j false = false) : left n (listed.setIfInBounds j true) < left n listed := by
  refine filter_lt _ (fun x _ hx => ?_) ⟨j, List.mem_range.2 hj, by simp [h0], by rw [getD_set _ _ _ (by omega)]; simp⟩
  rw [getD_set _ _ _ (by omega)] at hx
  by_cases hxj : x = j
  · rw [if_pos hxj] at hx; simp at hx
  · rw [if_neg hxj] at hx; exact hx

theorem left_pos {n : Nat} {listed : Array Bool} {j : Nat} (hj : j < n) (h0 : listed.getD j false = false) : 0 < left n listed := by
  unfold left
  exact List.length_pos_of_mem (List.mem_filter.2 ⟨List.mem_range.2 hj, by simp [h0]⟩)

/-- Who may come up now. -/
theorem ready_iff {m : Nat} (h : shapeOk ops m = true) {listed : Array Bool} (hs : listed.size = ops.size) {j : Nat} (hj : j ∈ Region.ready .any ops listed) :
    ∃ o, ops[j]? = some o ∧ listed.getD j false = false ∧ ∀ (_ : ∀ k ok, ops[k]? = some ok → listed.getD k false = true → ∀ i, i < ops.size → isAnc ops i k = true → listed.getD i false = true) i, i < ops.size → isAnc ops i j = true → listed.getD i false = true := by
  obtain ⟨h0, o, ho, hall⟩ := mem_ready.1 hj
  have hlt : j < ops.size := (Array.getElem?_eq_some_iff.1 ho).1
  refine ⟨o, ho, ?_, fun hshut i hi hanc => ?_⟩
  · simp only [Array.getD_eq_getD_getElem?] at h0 ⊢
    have : j < listed.size := by omega
    simp [this] at h0 ⊢
    exact h0
  · obtain ⟨_, e, hem, hbd, hx⟩ := (shape_at h ho).2.1 i hi hanc
    have h1 := hall e hem hbd
    rcases hx with hx | hx
    · rw [← hx]; exact h1
    · have hel := ((shape_at h ho).1 e hem hbd).1
      obtain ⟨oe, hoe⟩ : ∃ oe, ops[e.on]? = some oe := ⟨ops[e.on]'(by omega), by simp⟩
      exact hshut e.on oe hoe h1 i hi hx

/-- Where something is left, something may come up. -/
theorem ready_some {m : Nat} (h : shapeOk ops m = true) {listed : Array Bool} (hs : listed.size = ops.size) : ∀ j, j < ops.size → listed.getD j false = false → (∀ i, i < j → listed.getD i false = true) → j ∈ Region.ready .any ops listed := by
  intro j hj h0 hall
  obtain ⟨o, ho⟩ : ∃ o, ops[j]? = some o := ⟨ops[j], by simp [hj]⟩
  refine mem_ready.2 ⟨?_, o, ho, fun e hem hbd => hall e.on ((shape_at h ho).1 e hem hbd).1⟩
  simp only [Array.getD_eq_getD_getElem?] at h0 ⊢
  have : j < listed.size := by omega
  simp [this] at h0 ⊢
  exact h0

theorem least_left {n : Nat} {listed : Array Bool} : ∀ k, k ≤ n → (∀ i, i < k → listed.getD i false = true) ∨ ∃ j, j < k ∧ listed.getD j false = false ∧ ∀ i, i < j → listed.getD i false = true
  | 0, _ => .inl fun i hi => by omega
  | k + 1, hk => by
    rcases least_left (n := n) (listed := listed) k (by omega) with h | ⟨j, hj, h⟩
    · cases hl : listed.getD k false with
      | true =>
        refine .inl fun i hi => ?_
        by_cases hik : i = k
        · rw [hik]; exact hl
        · exact h i (by omega)
      | false => exact .inr ⟨k, by omega, hl, h⟩
    · exact .inr ⟨j, by omega, h⟩

/-- The tail: from p on each waits for all ahead of it: it goes in the order of the text. -/
theorem tail_any {m : Nat} (h : shapeOk ops m = true) {Q : Exit → Act → World → Prop} : ∀ (fuel p : Nat) (listed : Array Bool) (a : Act) (W : World), m ≤ p → p ≤ ops.size → listed.size = ops.size → ops.size - p ≤ fuel →
    (∀ i, i < ops.size → listed.getD i false = decide (i < p)) → wpOps P ops Q (List.range' p (ops.size - p)) a W → wpAny P .any ops Q fuel listed a W := by
  have hready : ∀ (p : Nat) (listed : Array Bool), m ≤ p → p ≤ ops.size → listed.size = ops.size → (∀ i, i < ops.size → listed.getD i false = decide (i < p)) → ∀ j ∈ Region.ready .any ops listed, j = p ∧ p < ops.size := by
    intro p listed hmp hp hs hl j hj
    obtain ⟨h0, o, ho, hall⟩ := mem_ready.1 hj
    have hlt : j < ops.size := (Array.getElem?_eq_some_iff.1 ho).1
    have hjp : p ≤ j := by
      have h1 := hl j hlt
      have : listed.getD j false = false := by
        simp only [Array.getD_eq_getD_getElem?] at h0 ⊢
        have : j < listed.size := by omega
        simp [this] at h0 ⊢
        exact h0
      rw [this] at h1
      have := of_decide_eq_false h1.symm
      omega
    refine ⟨?_, by omega⟩
    rcases Nat.lt_or_ge p j with hpj | hpj
    · have hanc := (shape_at h ho).2.2.2.1 (by omega) p hpj
      obtain ⟨_, e, hem, hbd, hx⟩ := (shape_at h ho).2.1 p (by omega) hanc
      have h1 := hall e hem hbd
      have hel := ((shape_at h ho).1 e hem hbd).1
      rw [hl e.on (by omega)] at h1
      have h2 := of_decide_eq_true h1
      rcases hx with hx | hx
      · omega
      · obtain ⟨oe, hoe⟩ : ∃ oe, ops[e.on]? = some oe := ⟨ops[e.on]'(by omega), by simp⟩
        have := ((shape_at h hoe).2.1 p (by omega) hx).1
        omega
    · omega
  intro fuel
  induction fuel with
  | zero =>
    intro p listed a W hmp hp hs hf hl hw
    have hpn : p = ops.size := by omega
    refine ⟨?_, ?_⟩
    · cases hr : Region.ready .any ops listed with
      | nil => rfl
      | cons x xs => have := hready p listed hmp hp hs hl x (by rw [hr]; exact List.mem_cons_self ..); omega
    · rw [hpn, Nat.sub_self] at hw; exact hw
  | succ fuel ih =>
    intro p listed a W hmp hp hs hf hl hw
    refine ⟨fun hr => ?_, fun j hj => ?_⟩
    · rcases Nat.lt_or_ge p ops.size with hlt | hge
      · have := ready_some h hs p hlt (by rw [hl p hlt]; simp) (fun i hi => by rw [hl i (by omega)]; simp [hi])
        rw [hr] at this; cases this
      · have hpn : p = ops.size := by omega
        rw [hpn, Nat.sub_self] at hw; exact hw
    · obtain ⟨rfl, hlt⟩ := hready p listed hmp hp hs hl j hj
      obtain ⟨n, hn⟩ : ∃ n, ops.size - j = n + 1 := ⟨ops.size - j - 1, by omega⟩
      rw [hn, List.range'_succ, wpOps_cons] at hw
      refine wpOp_mono (fun a' w' h' => ih (j + 1) _ a' w' (by omega) (by omega) (by simp [hs]) (by omega) (fun i hi => ?_) ?_) hw
      · rw [getD_set _ _ _ (by omega)]
        by_cases hij : i = j
        · simp [hij]
        · rw [if_neg hij, hl i hi]
          have : (i < j) ↔ (i < j + 1) := by omega
          simp [this]
      · have : ops.size - (j + 1) = n := by omega
        rw [this]; exact h'

/-- THE WHOLE: whatever order is drawn. -/
theorem seq_any (hN : Rel.N T w0) {m : Nat} (h : shapeOk ops m = true) (hm : m ≤ ops.size) {Q : Exit → Act → World → Prop} {a0 : Act}
    (stab : ∀ k x (A B : World), T A B → V k x A → V k x B)
    (hseq : SeqR T P ops w0 eff f V (fun F a => ∀ W, T w0 W → (∀ e φ, (e, φ) ∈ F → φ W) → wpList P ops Q (ops.toList.drop m) a W) (ops.toList.take m) 0 [] a0) :
    ∀ (fuel : Nat) (listed : Array Bool) (ξ : Nat → Gh) (a : Act) (W : World), left ops.size listed ≤ fuel → (∀ i, m ≤ i → i < ops.size → listed.getD i false = false) → Stands T P ops w0 eff f V a0 listed ξ a W → wpAny P .any ops Q fuel listed a W := by
  -- where all below m have come up, and nobody else
  have finish : ∀ (fuel : Nat) (listed : Array Bool) (ξ : Nat → Gh) (a : Act) (W : World), left ops.size listed ≤ fuel → Stands T P ops w0 eff f V a0 listed ξ a W → (∀ i, i < m → listed.getD i false = true) →
      (∀ i, m ≤ i → i < ops.size → listed.getD i false = false) → wpAny P .any ops Q fuel listed a W := by
    intro fuel listed ξ a W hf st hall hnone
    obtain ⟨_, F, hF, hfin⟩ := seqR_reach hN hm hseq ξ m (Nat.le_refl _)
    have hl : ∀ i, i < ops.size → listed.getD i false = decide (i < m) := fun i hi => by
      by_cases him : i < m
      · simp [him, hall i him]
      · simp [him, hnone i (by omega) hi]
    have hfuel : ops.size - m ≤ fuel := by
      have : (List.range' m (ops.size - m)).length ≤ ((List.range ops.size).filter fun k => !listed.getD k false).length := by
        have hsub : List.range' m (ops.size - m) = (List.range ops.size).filter fun k => !listed.getD k false := by
          have h1 : (List.range ops.size).filter (fun k => !listed.getD k false) = (List.range ops.size).filter fun k => decide (m ≤ k) := by
            refine List.filter_congr fun k hk => ?_
            rw [hl k (List.mem_range.1 hk)]
            by_cases hkm : k < m
            · have : ¬ m ≤ k := by omega
              simp [hkm, this]
            · have : m ≤ k := by omega
              simp [hkm, this]
          rw [h1]
          have h2 : List.range ops.size = List.range m ++ List.range' m (ops.size - m) := by
            rw [List.range_eq_range', List.range_eq_range']
            have := @List.range'_append 0 m (ops.size - m) 1
            simp only [Nat.one_mul, Nat.zero_add] at this
            rw [this, Nat.add_sub_cancel' hm]
          rw [h2, List.filter_append]
          have h3 : (List.range m).filter (fun k => decide (m ≤ k)) = [] := by
            rw [List.filter_eq_nil_iff]; intro k hk; have := List.mem_range.1 hk; simp; omega
          have h4 : (List.range' m (ops.size - m)).filter (fun k => decide (m ≤ k)) = List.range' m (ops.size - m) := by
            rw [List.filter_eq_self]; intro k hk; have := List.mem_range'_1.1 hk; simp; omega
          rw [h3, h4, List.nil_append]
        rw [hsub]; exact Nat.le_refl _
      rw [List.length_range'] at this
      exact Nat.le_trans this hf
    refine tail_any h fuel m listed a W (Nat.le_refl _) hm st.size hfuel hl ?_
    have hw : ∀ (j : Nat), (ops.toList.drop m)[j]? = ops[m + j]? := fun j => by rw [List.getElem?_drop]; simp
    have := wpOps_eq_wpList (P := P) (Q := Q) (ops := ops) (ops.toList.drop m) m hw
    simp only [List.length_drop, Array.length_toList] at this
    rw [this]
    -- the state is that of the text
    have ha : a = preAct P ops w0 eff f a0 ξ m := by
      have h1 : ∀ t, a.tmps[t]? = (preAct P ops w0 eff f a0 ξ m).tmps[t]? := fun t => by
        rw [st.slots t, preAct_slot, slotAt_upto a0 t m ops.size hm (fun i hi1 hi2 _ => hnone i hi1 hi2)]
        exact slotAt_congr a0 t m fun i hi _ => ⟨hall i hi, fun _ => rfl⟩
      have h2 : a.tmps = (preAct P ops w0 eff f a0 ξ m).tmps := Array.ext_getElem? h1
      have h3 := st.defers
      have h4 := preAct_defers (P := P) (ops := ops) (w0 := w0) (eff := eff) (f := f) a0 ξ m
      cases a with
      | mk at_ ad =>
        cases hp : preAct P ops w0 eff f a0 ξ m with
        | mk pt pd => rw [hp] at h2 h4; simp only at h2 h3 h4; rw [h2, h3, h4]
    rw [ha]
    have hfin' : SeqR T P ops w0 eff f V (fun F a => ∀ W, T w0 W → (∀ e φ, (e, φ) ∈ F → φ W) → wpList P ops Q (ops.toList.drop m) a W) [] m F (preAct P ops w0 eff f a0 ξ m) := by
      have hnil : List.drop m (List.take m ops.toList) = [] := List.drop_of_length_le (List.length_take_le _ _)
      rw [hnil] at hfin
      exact hfin
    refine hfin' W st.below fun e φ hef => ?_
    obtain ⟨h1, rfl, h3, oe, hoe, h4⟩ := hF e φ hef
    exact st.facts e oe hoe (hall e h1) h4 h3
  intro fuel
  induction fuel with
  | zero =>
    intro listed ξ a W hf hnone st
    refine finish 0 listed ξ a W hf st (fun i hi => ?_) hnone
    cases hl : listed.getD i false with
    | true => rfl
    | false => have := left_pos (n := ops.size) (by omega : i < ops.size) hl; omega
  | succ fuel ih =>
    intro listed ξ a W hf hnone st
    rcases least_left (n := ops.size) (listed := listed) m hm with hall | ⟨j0, hj0, h0, hbefore⟩
    · exact finish (fuel + 1) listed ξ a W hf st hall hnone
    · refine ⟨fun hr => ?_, fun j hj => ?_⟩
      · have := ready_some h st.size j0 (by omega) h0 hbefore
        rw [hr] at this; cases this
      · obtain ⟨o, ho, hjl, hanc⟩ := ready_iff h st.size hj
        have hall := hanc st.shut
        have hlt : j < ops.size := (Array.getElem?_eq_some_iff.1 ho).1
        have hjm : j < m := by
          rcases Nat.lt_or_ge j m with h1 | h1
          · exact h1
          · have := hall j0 (by omega) ((shape_at h ho).2.2.2.1 h1 j0 (by omega))
            rw [h0] at this; cases this
        have howes := (seqR_reach hN hm hseq ξ m (Nat.le_refl _)).1 j o hjm ho
        have hnj : j = Rel.e0 T ∨ isAnc ops j (Rel.e0 T) = true → Rel.N T W := fun hor => by
          refine st.nyet ?_
          rcases hor with hor | hor
          · rw [← hor]; exact hjl
          · cases hl : listed.getD (Rel.e0 T) false with
            | false => rfl
            | true =>
              have hsz : Rel.e0 T < ops.size := by
                rcases Nat.lt_or_ge (Rel.e0 T) listed.size with h1 | h1
                · rw [st.size] at h1; exact h1
                · rw [Array.getD_eq_getD_getElem?, Array.getElem?_eq_none h1] at hl; cases hl
              have := st.shut _ _ (Array.getElem?_eq_getElem hsz) hl j hlt hor
              rw [hjl] at this; cases this
        have hlooks := st.looks h ho hjl hall
        obtain ⟨hx, hw⟩ := exec_same (shape_at h ho).2.2.2.2 hlooks
        have hfuel : ∀ x : Gh, left ops.size (listed.setIfInBounds j true) ≤ fuel := fun _ => by have := left_set hlt st.size hjl; omega
        have hnone' : ∀ i, m ≤ i → i < ops.size → (listed.setIfInBounds j true).getD i false = false := fun i h1 h2 => by
          rw [getD_set _ _ _ (by rw [st.size]; exact hlt), if_neg (by omega)]; exact hnone i h1 h2
        have hself : (fun k => if k = j then ξ j else ξ k) = ξ := by funext k; by_cases hkj : k = j <;> simp [hkj]
        unfold wpOp
        simp only [ho]
        by_cases hwt : wantedAt ops o (preAct P ops w0 eff f a0 ξ j) = true
        · have hwt' : Region.wanted o (yielded ops a.tmps) = true := hw.trans hwt
          rw [if_pos hwt']
          refine .inl ?_
          cases he : eff j with
          | false =>
            have hp := howes.pure hwt he W st.below (fun h1 => hnj (.inr h1))
            unfold Oper.wp
            rw [hx, hp]
            refine ih _ ξ _ W (hfuel default) hnone' ?_
            have := st.step h stab ho hjl hall (Rel.refl _) (fun _ h1 => h1) (ξ j) (pureVal P w0 o (preAct P ops w0 eff f a0 ξ j)) (by rw [hself]; simp [valAt, ho, valOf, hwt, he]) (fun _ h2 => by rw [he] at h2; cases h2)
            rw [hself] at this
            exact this
          | true =>
            have hg := howes.made hwt he W st.below hnj (fun e oe hoe _ h2 h3 h4 => st.facts e oe hoe (hall e (Array.getElem?_eq_some_iff.1 hoe).1 h2) h3 h4)
            have hg' : Gives P o a W fun v W' => ∃ x, v = f j x ∧ T W W' ∧ V j x W' ∧ (j ≠ Rel.e0 T → Rel.N T W → Rel.N T W') := by unfold Gives at hg ⊢; rw [hx]; exact hg
            refine hg'.wp fun v W' => ?_
            rintro ⟨x, rfl, hb, hV, hn⟩
            refine ih _ (fun k => if k = j then x else ξ k) _ W' (hfuel default) hnone' ?_
            refine st.step h stab ho hjl hall hb hn x (f j x) ?_ (fun _ _ => hV)
            have hloc : ∀ t ∈ o.looksAt ops, (preAct P ops w0 eff f a0 ξ j).tmps[t]? = (preAct P ops w0 eff f a0 (fun k => if k = j then x else ξ k) j).tmps[t]? := by
              intro t ht
              rw [preAct_slot, preAct_slot]
              refine slotAt_congr a0 t j fun i hi hd => ⟨rfl, fun _ => ?_⟩
              cases hoi : ops[i]? with
              | none => simp [hoi] at hd
              | some oi =>
                have hd' : oi.dst = some t := by simpa [hoi] using hd
                have hia := (shape_at h ho).2.2.1 i oi hi hoi (touch_of_looks hd' ht)
                refine (val_local h a0 i oi hoi fun e he2 hey => ?_).2
                have hne : e ≠ j := by
                  intro hej
                  rw [hej] at hey
                  rcases hey with hey | hey
                  · omega
                  · have := ((shape_at h hoi).2.1 j hlt hey).1; omega
                simp [hne]
            have hw2 := (exec_same (shape_at h ho).2.2.2.2 hloc).2
            simp [valAt, ho, valOf, ← hw2, hwt, he]
        · have hwt' : Region.wanted o (yielded ops a.tmps) = false := by rw [Bool.not_eq_true] at hwt; exact hw.trans hwt
          rw [hwt', if_neg (by simp)]
          refine ih _ ξ _ W (hfuel default) hnone' ?_
          rw [Bool.not_eq_true] at hwt
          have := st.step h stab ho hjl hall (Rel.refl _) (fun _ h1 => h1) (ξ j) undef (by rw [hself]; simp [valAt, ho, valOf, hwt]) (fun h2 => by rw [hwt] at h2; cases h2)
          rw [hself] at this
          exact this

/-- Whatever order is drawn, from the beginning on. -/
theorem region_any (m : Nat) (eff : Nat → Bool) (f : Nat → Gh → Value) (V : Nat → Gh → World → Prop) {Q : Exit → Act → World → Prop} {a : Act} {w : World} (hN : Rel.N T w) (h : shapeOk ops m = true) (hm : m ≤ ops.size)
    (stab : ∀ k x (A B : World), T A B → V k x A → V k x B)
    (hseq : SeqR T P ops w eff f V (fun F a => ∀ W, T w W → (∀ e φ, (e, φ) ∈ F → φ W) → wpList P ops Q (ops.toList.drop m) a W) (ops.toList.take m) 0 [] a) :
    wpAny P .any ops Q ops.size (Array.replicate ops.size false) a { w with drawn := w.drawn + 1 } := by
  refine seq_any (w0 := w) hN h hm stab hseq ops.size _ (fun _ => default) a _ ?_ ?_ ?_
  · unfold left
    exact Nat.le_trans (List.length_filter_le _ _) (by simp)
  · intro i _ _
    simp only [Array.getD_eq_getD_getElem?]
    rw [Array.getElem?_replicate]
    split <;> rfl
  · have hnone : ∀ k, (Array.replicate ops.size false).getD k false = false := fun k => by
      simp only [Array.getD_eq_getD_getElem?]
      rw [Array.getElem?_replicate]
      split <;> rfl
    refine ⟨by simp, Rel.drawn _, fun _ => Rel.ndrawn _ hN, fun k o _ hk => ?_, fun k o _ hk => ?_, rfl, rfl, fun t => ?_⟩
    · rw [hnone] at hk; cases hk
    · rw [hnone] at hk; cases hk
    · rw [slotAt_upto a t 0 ops.size (by omega) (fun i _ _ _ => hnone i)]; rfl

/-- **A REGION THAT DRAWS ITS ORDER, BY ONE WALK IN THE ORDER OF ITS TEXT.** -/
theorem wp_region_seq (m : Nat) (eff : Nat → Bool) (f : Nat → Gh → Value) (V : Nat → Gh → World → Prop) {id : Nat} {Q : Exit → Act → World → Prop} {a : Act} {w : World} (hN : Rel.N T w) (hmx : P.follows .mixedOrders = true) (h : shapeOk ops m = true) (hm : m ≤ ops.size)
    (stab : ∀ k x (A B : World), T A B → V k x A → V k x B)
    (hseq : SeqR T P ops w eff f V (fun F a => ∀ W, T w W → (∀ e φ, (e, φ) ∈ F → φ W) → wpList P ops Q (ops.toList.drop m) a W) (ops.toList.take m) 0 [] a) :
    (Code.region id ops true).wp P Q a w := wp_region_any hmx (region_any m eff f V hN h hm stab hseq)

/-! ### The moves -/
section
variable {fin : List (Nat × (World → Prop)) → Act → Prop} {o : Oper} {rest : List Oper} {k : Nat} {F : List (Nat × (World → Prop))} {a : Act}

theorem seq_nil (h : fin F a) : SeqR T P ops w0 eff f V fin [] k F a := h

theorem seq_skip (hw : wantedAt ops o a = false) (h : SeqR T P ops w0 eff f V fin rest (k + 1) F (a.put o.dst undef)) : SeqR T P ops w0 eff f V fin (o :: rest) k F a := .inl ⟨hw, h⟩

theorem seq_pure {v : Value} (hw : wantedAt ops o a = true) (he : eff k = false)
    (hy : ∀ W, T w0 W → (isAnc ops k (Rel.e0 T) = true → Rel.N T W) → (execOp a.eval o).run P W = .ok (.value v) W)
    (h : SeqR T P ops w0 eff f V fin rest (k + 1) F (a.put o.dst v)) : SeqR T P ops w0 eff f V fin (o :: rest) k F a :=
  .inr (.inl ⟨hw, he, v, hy, h⟩)

theorem seq_made (hw : wantedAt ops o a = true) (he : eff k = true)
    (hy : ∀ W, T w0 W → (k = Rel.e0 T ∨ isAnc ops k (Rel.e0 T) = true → Rel.N T W) → (∀ e φ, (e, φ) ∈ F → isAnc ops e k = true → φ W) →
      ∀ R : Value → World → Prop, (∀ x W', T W W' → V k x W' → (k ≠ Rel.e0 T → Rel.N T W → Rel.N T W') → R (f k x) W') → Gives P o a W R)
    (h : ∀ x, SeqR T P ops w0 eff f V fin rest (k + 1) ((k, V k x) :: F) (a.put o.dst (f k x))) : SeqR T P ops w0 eff f V fin (o :: rest) k F a :=
  .inr (.inr ⟨hw, he, fun W hW hn hF => hy W hW hn hF _ (fun x _ hb hv hk => ⟨x, rfl, hb, hv, hk⟩), h⟩)
end

/-- The same for a region that is written out, whole. -/
theorem wp_seq_all (eff : Nat → Bool) (f : Nat → Gh → Value) (V : Nat → Gh → World → Prop) {id : Nat} {l : List Oper} {Q : Exit → Act → World → Prop} {a : Act} {w : World} (hN : Rel.N T w) (hmx : P.follows .mixedOrders = true) (h : shapeOk l.toArray l.length = true)
    (stab : ∀ k x (A B : World), T A B → V k x A → V k x B)
    (hseq : SeqR T P l.toArray w eff f V (fun F a => ∀ W, T w W → (∀ e φ, (e, φ) ∈ F → φ W) → Q .normal a W) l 0 [] a) :
    (Code.region id l.toArray true).wp P Q a w := by
  refine wp_region_seq l.length eff f V hN hmx h (by simp) stab ?_
  simpa [wpList] using hseq

/-- .. and one whose last operations, from number m on, wait for all ahead of them. -/
theorem wp_seq_tail (m : Nat) (eff : Nat → Bool) (f : Nat → Gh → Value) (V : Nat → Gh → World → Prop) {id : Nat} {l : List Oper} {Q : Exit → Act → World → Prop} {a : Act} {w : World} (hN : Rel.N T w) (hmx : P.follows .mixedOrders = true) (h : shapeOk l.toArray m = true) (hm : m ≤ l.length)
    (stab : ∀ k x (A B : World), T A B → V k x A → V k x B)
    (hseq : SeqR T P l.toArray w eff f V (fun F a => ∀ W, T w W → (∀ e φ, (e, φ) ∈ F → φ W) → wpList P l.toArray Q (l.drop m) a W) (l.take m) 0 [] a) :
    (Code.region id l.toArray true).wp P Q a w :=
  wp_region_seq m eff f V hN hmx h (by simpa using hm) stab (by simpa using hseq)
end

/-- Within a round. -/
theorem wpIn_seq_tail {T : World → World → Prop} [Rel T] (m : Nat) (eff : Nat → Bool) (f : Nat → Gh → Value) (V : Nat → Gh → World → Prop) {P : Program} {r n id : Nat} {l : List Oper} {Q : Exit → Act → World → Prop} {a : Act} {w : World} (hN : Rel.N T w) (hmx : P.follows .mixedOrders = true) (h : shapeOk l.toArray m = true) (hc : calmOps l.toArray = true) (hm : m ≤ l.length)
    (hlet : ¬ LetsOut Q) (stab : ∀ k x (A B : World), T A B → V k x A → V k x B)
    (hseq : SeqR T P l.toArray w eff f V (fun F a => ∀ W, T w W → (∀ e φ, (e, φ) ∈ F → φ W) → wpList P l.toArray Q (l.drop m) a W) (l.take m) 0 [] a) :
    (Code.region id l.toArray true).wpIn (Fence.wide.inRound r) n P Q a w :=
  wpIn_region_any hmx (anyIn_of_any hlet (calmOps_spec hc) _ _ _ _ (region_any m eff f V hN h (by simpa using hm) stab (by simpa using hseq)))

/-- Outside of block g B is as A was; block g is, or it is X. -/
structure OneT (g : Nat) (X : Obj) (A B : World) : Prop where
  os : B.os = A.os
  tape : B.tape = A.tape
  output : B.output = A.output
  size : A.heap.size ≤ B.heap.size
  block : ∀ b, b < A.heap.size → b ≠ g → B.heap[b]? = A.heap[b]?
  one : B.heap[g]? = A.heap[g]? ∨ B.heap[g]? = some X

instance relOne (g : Nat) (X : Obj) : Rel (OneT g X) where
  e0 := 0
  N _ := True
  ndrawn _ _ := trivial
  refl _ := ⟨rfl, rfl, rfl, Nat.le_refl _, fun _ _ _ => rfl, .inl rfl⟩
  trans _ _ _ h k := ⟨k.os.trans h.os, k.tape.trans h.tape, k.output.trans h.output, Nat.le_trans h.size k.size, fun b hb hg => (k.block b (Nat.lt_of_lt_of_le hb h.size) hg).trans (h.block b hb hg), by
    rcases k.one with k1 | k1
    · rw [k1]; exact h.one
    · exact .inr k1⟩
  drawn _ := ⟨rfl, rfl, rfl, Nat.le_refl _, fun _ _ _ => rfl, .inl rfl⟩

/-- The same, and block g is C as long as operation e0 has not come up. -/
def OneN (_e0 g : Nat) (_C X : Obj) : World → World → Prop := OneT g X
instance relOneN (e0 g : Nat) (C X : Obj) : Rel (OneN e0 g C X) where
  refl := (relOne g X).refl
  trans := (relOne g X).trans
  drawn := (relOne g X).drawn
  e0 := e0
  N W := W.heap[g]? = some C
  ndrawn _ h := h

theorem OneT.cell {g : Nat} {X : Obj} {A B : World} (h : OneT g X A B) : ∀ p : Addr, p.block ≠ g → (A.cell? p).isSome = true → B.cell? p = A.cell? p := by
  intro p hp hs
  obtain ⟨u, hu⟩ := Option.isSome_iff_exists.1 hs
  exact World.cell?_of_block (h.block _ (block_lt hu) hp)
theorem here {g : Nat} {C : Obj} {A B : World} (hA : A.heap[g]? = some C) (hB : B.heap[g]? = some C) : ∀ i, B.cell? ⟨g, i, none⟩ = A.cell? ⟨g, i, none⟩ := fun _ => World.cell?_of_block (hB.trans hA.symm)
theorem OneT.blk {g : Nat} {X : Obj} {A B : World} (h : OneT g X A B) {b : Nat} {cs : List Value} {t : TypeId} (hb : Blk A b cs t) (hg : b ≠ g) : Blk B b cs t := by
  have hlt := hb.lt
  unfold Blk at *
  rw [h.block b hlt hg]; exact hb
theorem OneT.offZ {g : Nat} {X : Obj} {A B : World} (h : OneT g X A B) : OffZ g (g + 1) A B := ⟨h.os, h.tape, h.output, h.size, fun b hb hz => h.block b hb (by omega)⟩
theorem OneT.keepZ {g : Nat} {X : Obj} {A B : World} (h : OneT g X A B) {z0 z1 : Nat} (h1 : z1 ≤ g) (h2 : z1 ≤ A.heap.size) : KeepZ z0 z1 A B := ⟨h.size, fun b _ hb => h.block b (by omega) (by omega)⟩
theorem OneT.own {g : Nat} {X : Obj} {A B : World} (h : OneT g X A B) {base : Nat} {v : Value} {xs : List Int} (ho : Own A base v xs) (hv : ∀ k, v.ownBlock = some k → k ≠ g) : Own B base v xs := by
  obtain ⟨h1, h2⟩ := ho
  refine ⟨h1, ?_⟩
  rcases h2 with h2 | ⟨k, cap, cur, rfl, hg, hh, r⟩
  · exact .inl h2
  · exact .inr ⟨k, cap, cur, rfl, hg, by rw [h.block k (Array.getElem?_eq_some_iff.1 hh).1 (hv k rfl)]; exact hh, r⟩
theorem OneT.below {g : Nat} {X : Obj} {w A B : World} (h : OneT g X A B) (hb : Below w.heap.size w A) (hg : w.heap.size ≤ g) : Below w.heap.size w B :=
  ⟨h.os.trans hb.os, h.tape.trans hb.tape, h.output.trans hb.output, Nat.le_trans hb.size h.size, fun k hk => (h.block k (by have := hb.size; omega) (by omega)).trans (hb.block k hk)⟩
/-- A store into block g. -/
theorem OneT.store {g : Nat} {A : World} (p : Addr) (hp : p.block = g) (v : Value) {X : Obj} (hX : (A.setCell p v).heap[g]? = some X) : OneT g X A (A.setCell p v) :=
  ⟨rfl, rfl, rfl, by simp [World.setCell], fun b _ hb => Below.heap_setCell _ _ _ _ (by omega), .inr hX⟩
end Go.Proofs.Ytpgkhhdobolfbaa.RT
