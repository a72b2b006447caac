/-
  Plain facts on indices: the digits of a number over some sizes, the next index, the last one.
-/
import Derived.Test.YtkkohelbidmkdaaGPlain
namespace Go.Proofs.Ytkkohelbidmkdaa
set_option linter.unusedVariables false
set_option linter.unusedSimpArgs false

/-- The product of some sizes. -/
def pr : List Nat → Nat
  | [] => 1
  | m :: s => m * pr s

/-- The digits of a number, the last one running fastest. -/
def dg : List Nat → Nat → List Nat
  | [], _ => []
  | _ :: s, n => n / pr s :: dg s (n % pr s)

theorem pr_pos {s : List Nat} (h : ∀ x ∈ s, 0 < x) : 0 < pr s := by
  induction s with
  | nil => simp [pr]
  | cons m s ih => exact Nat.mul_pos (h m (List.mem_cons_self ..)) (ih fun x hx => h x (List.mem_cons_of_mem _ hx))

@[simp] theorem dg_length (s : List Nat) (n : Nat) : (dg s n).length = s.length := by
  induction s generalizing n with
  | nil => rfl
  | cons m s ih => simp [dg, ih]

/-- Each digit is less than its size. -/
theorem dg_lt {s : List Nat} (h : ∀ x ∈ s, 0 < x) : ∀ {n : Nat}, n < pr s → ∀ (i : Nat) x m, (dg s n)[i]? = some x → s[i]? = some m → x < m := by
  induction s with
  | nil => intro n _ i x m hx; simp [dg] at hx
  | cons a s ih =>
    intro n hn i x m hx hm
    have hp : 0 < pr s := pr_pos fun x hx => h x (List.mem_cons_of_mem _ hx)
    cases i with
    | zero =>
      simp [dg] at hx hm
      subst hx hm
      exact Nat.div_lt_of_lt_mul (by rw [Nat.mul_comm]; exact hn)
    | succ i =>
      simp [dg] at hx hm
      exact ih (fun x hx => h x (List.mem_cons_of_mem _ hx)) (Nat.mod_lt _ hp) i x m hx hm

theorem dg_zero (s : List Nat) : ∀ (i : Nat) x, (dg s 0)[i]? = some x → x = 0 := by
  induction s with
  | nil => intro i x hx; simp [dg] at hx
  | cons a s ih =>
    intro i x hx
    cases i with
    | zero => simp [dg] at hx; exact hx.symm
    | succ i => simp [dg] at hx; exact ih i x hx

/-- The index whose digits are all the greatest is that of the last number. -/
theorem dg_last {s : List Nat} (h : ∀ x ∈ s, 0 < x) : ∀ {n : Nat}, n < pr s → ((∀ (i : Nat) x m, (dg s n)[i]? = some x → s[i]? = some m → x + 1 = m) ↔ n + 1 = pr s) := by
  induction s with
  | nil => intro n hn; simp [pr] at hn ⊢; simp [hn]
  | cons a s ih =>
    intro n hn
    have hs : ∀ x ∈ s, 0 < x := fun x hx => h x (List.mem_cons_of_mem _ hx)
    have hp : 0 < pr s := pr_pos hs
    have ih' := ih hs (Nat.mod_lt n hp)
    have hdm := Nat.div_add_mod n (pr s)
    have hq : n / pr s < a := Nat.div_lt_of_lt_mul (by rw [Nat.mul_comm]; exact hn)
    have hr := Nat.mod_lt n hp
    constructor
    · intro hall
      have h0 := hall 0 (n / pr s) a (by simp [dg]) rfl
      have h1 : n % pr s + 1 = pr s := ih'.1 fun i x m hx hm => hall (i + 1) x m (by simpa [dg] using hx) (by simpa using hm)
      show n + 1 = a * pr s
      rw [← h0, Nat.add_mul, Nat.one_mul, Nat.mul_comm]
      omega
    · intro hn1
      have hn2 : n + 1 = a * pr s := hn1
      have hq1 : n / pr s + 1 = a := by
        rcases Nat.lt_or_ge (n / pr s + 1) a with h1 | h1
        · exfalso
          have h2 : (n / pr s + 2) * pr s ≤ a * pr s := Nat.mul_le_mul_right _ h1
          rw [Nat.add_mul, Nat.mul_comm (n / pr s)] at h2
          omega
        · omega
      have hr1 : n % pr s + 1 = pr s := by
        rw [← hq1, Nat.add_mul, Nat.one_mul, Nat.mul_comm] at hn2
        omega
      intro i x m hx hm
      cases i with
      | zero => simp [dg] at hx hm; omega
      | succ i => exact ih'.2 hr1 i x m (by simpa [dg] using hx) (by simpa using hm)

/-- THE NEXT INDEX: the last digit j that is not the greatest goes up by one, those behind it go to 0. -/
theorem dg_next {s : List Nat} (h : ∀ x ∈ s, 0 < x) : ∀ {n : Nat} (_ : n < pr s) (j : Nat) (xj mj : Nat), (dg s n)[j]? = some xj → s[j]? = some mj → xj + 1 < mj →
    (∀ (i : Nat) x m, j < i → (dg s n)[i]? = some x → s[i]? = some m → x + 1 = m) →
    n + 1 < pr s ∧ ∀ i, i < s.length → (dg s (n + 1))[i]? = if j < i then some 0 else if i = j then some (xj + 1) else (dg s n)[i]? := by
  induction s with
  | nil => intro n _ j xj mj hx; simp [dg] at hx
  | cons a s ih =>
    intro n hn j xj mj hx hm hlt hall
    have hs : ∀ x ∈ s, 0 < x := fun x hx => h x (List.mem_cons_of_mem _ hx)
    have hp : 0 < pr s := pr_pos hs
    have hdm := Nat.div_add_mod n (pr s)
    have hr := Nat.mod_lt n hp
    cases j with
    | zero =>
      simp [dg] at hx hm
      subst hx hm
      have hr1 : n % pr s + 1 = pr s := (dg_last hs (Nat.mod_lt n hp)).1 fun i x m hx hm => hall (i + 1) x m (by omega) (by simpa [dg] using hx) (by simpa using hm)
      have e1 : n + 1 = pr s * (n / pr s + 1) := by rw [Nat.mul_add, Nat.mul_one]; omega
      have e2 : (n + 1) / pr s = n / pr s + 1 := by rw [e1]; exact Nat.mul_div_cancel_left _ hp
      have e3 : (n + 1) % pr s = 0 := by rw [e1]; exact Nat.mul_mod_right _ _
      refine ⟨?_, fun i hi => ?_⟩
      · show n + 1 < a * pr s
        rw [e1, Nat.mul_comm a]
        exact Nat.mul_lt_mul_of_pos_left hlt hp
      · cases i with
        | zero => simp [dg, e2]
        | succ i =>
          simp only [dg, List.getElem?_cons_succ, e3, Nat.zero_lt_succ, if_true]
          have hi' : i < (dg s 0).length := by simp at hi ⊢; omega
          rw [List.getElem?_eq_getElem hi']
          exact congrArg some (dg_zero s i _ (List.getElem?_eq_getElem hi'))
    | succ j =>
      simp [dg] at hx hm
      obtain ⟨i1, i2⟩ := ih hs (Nat.mod_lt n hp) j xj mj hx hm hlt fun i x m hji hx hm => hall (i + 1) x m (by omega) (by simpa [dg] using hx) (by simpa using hm)
      have e1 : n + 1 = pr s * (n / pr s) + (n % pr s + 1) := by omega
      have e2 : (n + 1) / pr s = n / pr s := by
        rw [e1, Nat.mul_add_div hp, Nat.div_eq_of_lt i1]; rfl
      have e3 : (n + 1) % pr s = n % pr s + 1 := by
        rw [e1, Nat.mul_add_mod, Nat.mod_eq_of_lt i1]
      refine ⟨?_, fun i hi => ?_⟩
      · have hq : n / pr s < a := Nat.div_lt_of_lt_mul (by rw [Nat.mul_comm]; exact hn)
        show n + 1 < a * pr s
        have h2 : (n / pr s + 1) * pr s ≤ a * pr s := Nat.mul_le_mul_right _ hq
        rw [Nat.add_mul, Nat.mul_comm (n / pr s)] at h2
        omega
      · cases i with
        | zero => simp [dg, e2]
        | succ i =>
          simp only [dg, List.getElem?_cons_succ, e3]
          rw [i2 i (by simpa using hi)]
          simp [Nat.succ_lt_succ_iff]

/-- What the digits come to. -/
theorem dg_fold (s : List Nat) (h : ∀ x ∈ s, 0 < x) : ∀ (n A : Nat), n < pr s → (s.zip (dg s n)).foldl (fun a mp => a * mp.1 + mp.2) A = A * pr s + n := by
  induction s with
  | nil => intro n A hn; simp [pr] at hn; simp [dg, pr, hn]
  | cons a s ih =>
    intro n A hn
    have hs : ∀ x ∈ s, 0 < x := fun x hx => h x (List.mem_cons_of_mem _ hx)
    have hp : 0 < pr s := pr_pos hs
    simp only [dg, List.zip_cons_cons, List.foldl_cons]
    rw [ih hs _ _ (Nat.mod_lt n hp), Nat.add_mul, pr, Nat.mul_assoc]
    have := Nat.div_add_mod n (pr s)
    rw [Nat.mul_comm (n / pr s)]
    omega

/-- An index is the digits of what it comes to. -/
theorem dg_of {s : List Nat} (h : ∀ x ∈ s, 0 < x) : ∀ (ix : List Nat) (A : Nat), ix.length = s.length → (∀ (i : Nat) x m, ix[i]? = some x → s[i]? = some m → x < m) →
    ∃ n, n < pr s ∧ (s.zip ix).foldl (fun a mp => a * mp.1 + mp.2) A = A * pr s + n ∧ dg s n = ix := by
  induction s with
  | nil => intro ix A hl _; cases ix with
    | nil => exact ⟨0, by simp [pr], by simp [pr], rfl⟩
    | cons x xs => simp at hl
  | cons a s ih =>
    intro ix A hl hlt
    have hs : ∀ x ∈ s, 0 < x := fun x hx => h x (List.mem_cons_of_mem _ hx)
    have hp : 0 < pr s := pr_pos hs
    cases ix with
    | nil => simp at hl
    | cons x xs =>
      obtain ⟨n, h1, h2, h3⟩ := ih hs xs (A * a + x) (by simpa using hl) fun i y m hy hm => hlt (i + 1) y m (by simpa using hy) (by simpa using hm)
      have hxa : x < a := hlt 0 x a rfl rfl
      refine ⟨x * pr s + n, ?_, ?_, ?_⟩
      · show x * pr s + n < a * pr s
        have : (x + 1) * pr s ≤ a * pr s := Nat.mul_le_mul_right _ hxa
        rw [Nat.add_mul] at this; omega
      · simp only [List.zip_cons_cons, List.foldl_cons]
        rw [h2, pr, Nat.add_mul, Nat.mul_assoc]; omega
      · have e1 : (x * pr s + n) / pr s = x := by rw [Nat.mul_comm, Nat.mul_add_div hp, Nat.div_eq_of_lt h1]; rfl
        have e2 : (x * pr s + n) % pr s = n := by rw [Nat.mul_comm, Nat.mul_add_mod, Nat.mod_eq_of_lt h1]
        simp only [dg, e1, e2, h3]
end Go.Proofs.Ytkkohelbidmkdaa
