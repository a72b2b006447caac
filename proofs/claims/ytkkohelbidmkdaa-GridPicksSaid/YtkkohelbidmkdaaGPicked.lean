/-
  Picked grids, plain, and what Pick answers on a valid grid in memory.
-/
import Derived.Test.YtkkohelbidmkdaaGGrd
namespace Go.Proofs.Ytkkohelbidmkdaa
set_option linter.unusedVariables false
set_option linter.unusedSimpArgs false
open Go Go.RowKit

/-- The picked values of a row. -/
def pickRow (cN : List Nat) (row : List Int) : List Int := cN.map fun c => row.getD c 0
/-- The picked grid's values. -/
def pickV (sN : List Nat) (d : List Int) (on : Nat) (cN : List Nat) : List Int := gathered (fun k => pickRow cN (rowAt d on k)) (pr sN)

theorem pickRow_length (cN : List Nat) (row : List Int) : (pickRow cN row).length = cN.length := by simp [pickRow]
theorem pickRow_at {cN : List Nat} (row : List Int) {k c : Nat} (h : cN[k]? = some c) : (pickRow cN row)[k]? = some (row[c]?.getD 0) := by
  unfold pickRow
  rw [List.getElem?_map, h]
  simp
theorem pickV_length (sN : List Nat) (d : List Int) (on : Nat) (cN : List Nat) : (pickV sN d on cN).length = pr sN * cN.length := gathered_length fun _ _ => pickRow_length _ _
theorem pickV_row {sN : List Nat} (d : List Int) (on : Nat) (cN : List Nat) {k : Nat} (hk : k < pr sN) : rowAt (pickV sN d on cN) cN.length k = pickRow cN (rowAt d on k) :=
  gathered_take (f := fun k => pickRow cN (rowAt d on k)) (fun _ _ => pickRow_length _ _) k hk

theorem pickD_ints (d : List Int) (on : Nat) (cN : List Nat) (k : Nat) : pickD d on (ints cN) k = pickRow cN (rowAt d on k) := by
  unfold pickD pickRow ints
  rw [List.map_map]
  exact List.map_congr_left fun c _ => by simp

theorem pickRow_all {row : List Int} {n : Nat} (h : row.length = n) : pickRow (List.range n) row = row := by
  refine List.ext_getElem? fun i => ?_
  by_cases hi : i < n
  · rw [pickRow_at row (c := i) (by simp [hi])]
    rw [List.getElem?_eq_getElem (by omega)]; rfl
  · rw [List.getElem?_eq_none (by rw [pickRow_length]; simpa using hi), List.getElem?_eq_none (by omega)]

theorem pickV_all {sN : List Nat} {d : List Int} {on : Nat} (hd : d.length = pr sN * on) : pickV sN d on (List.range on) = d := by
  have e : pickV sN d on (List.range on) = gathered (rowAt d on) (pr sN) := gathered_congr fun j hj => pickRow_all (rowAt_length hj hd)
  rw [e, gathered_rows, List.take_of_length_le (by omega)]

theorem pickRow_pick {f s : List Nat} (row : List Int) (hs : ∀ x ∈ s, x < f.length) : pickRow s (pickRow f row) = pickRow (s.map fun x => f.getD x 0) row := by
  refine List.ext_getElem? fun i => ?_
  by_cases hi : i < s.length
  · have h1 : s[i]? = some s[i] := by simp [hi]
    have hx := hs s[i] (List.getElem_mem hi)
    have h2 : f[s[i]]? = some f[s[i]] := by simp [hx]
    have h3 : (s.map fun x => f.getD x 0)[i]? = some f[s[i]] := by simp [hi, hx]
    rw [pickRow_at _ h1, pickRow_at _ h3, pickRow_at _ h2]
    rfl
  · rw [List.getElem?_eq_none (by rw [pickRow_length]; omega), List.getElem?_eq_none (by rw [pickRow_length, List.length_map]; omega)]

theorem pickV_pick {sN : List Nat} {d : List Int} {on : Nat} {f s : List Nat} (hs : ∀ x ∈ s, x < f.length) : pickV sN (pickV sN d on f) f.length s = pickV sN d on (s.map fun x => f.getD x 0) :=
  gathered_congr fun j hj => by rw [pickV_row d on f hj, pickRow_pick _ hs]

theorem ValidG.picked {sN : List Nat} {on : Nat} {d : List Int} (hv : ValidG (ints sN) on d) {cN : List Nat} (h1 : 1 ≤ cN.length) (h4 : cN.length ≤ 4) (hc : ∀ c ∈ cN, c < on) (hm : pr sN * cN.length ≤ 4096) : ValidG (ints sN) (cN.length : Nat) (pickV sN d on cN) := by
  have hd := data_nat hv
  refine ⟨hv.len1, hv.len4, hv.sizes, by omega, by omega, by rw [prodI_ints, pickV_length, Int.natCast_mul], by rw [pickV_length]; exact hm, ?_⟩
  intro x hx
  obtain ⟨j, hj, hx⟩ := gathered_mem hx
  obtain ⟨c, hcm, rfl⟩ := List.mem_map.1 hx
  have hl := rowAt_length hj hd
  have hcl : c < (rowAt d on j).length := by rw [hl]; exact hc c hcm
  refine hv.full _ (rowAt_mem (o := on) (k := j) ?_)
  rw [List.getD_eq_getElem?_getD, List.getElem?_eq_getElem hcl]
  exact List.getElem_mem hcl

theorem pickR_ok {sN : List Nat} {on : Nat} {d : List Int} (hv : ValidG (ints sN) on d) {cN : List Nat} (h1 : 1 ≤ cN.length) (h4 : cN.length ≤ 4) (hc : ∀ c ∈ cN, c < on) (hm : pr sN * cN.length ≤ 4096) :
    pickR (ints sN) on d (ints cN) = (ints sN, (cN.length : Int), pickV sN d on cN, 0) := by
  have hcb : colsB on (ints cN) = true := by
    unfold colsB
    rw [List.all_eq_true]
    intro c hcm
    obtain ⟨m, hm, rfl⟩ := List.mem_map.1 hcm
    have := hc m hm
    simp only [Bool.and_eq_true, decide_eq_true_eq]
    omega
  unfold pickR
  rw [if_neg (by rw [(checkN_iff _ _ _).2 hv]; simp), if_neg (by rw [ints_length]; omega), if_neg (by rw [hcb]; simp), prodI_ints, ints_length, if_neg (by rw [← Int.natCast_mul]; omega)]
  simp only [Int.toNat_natCast, Prod.mk.injEq, true_and, and_true]
  exact gathered_congr fun j _ => pickD_ints d on cN j

theorem pick_grd {base : Nat} {A : Option Addr} {c : Nat} {sN : List Nat} {on : Nat} {B : Option Addr} {e : Nat} {d : List Int} {w : World} (h : Grd base A c sN on B e d w) {I : Option Addr} {ci m : Nat} {cN : List Nat} (hi : Cs w .i64 I (ints cN)) (hm : cN.length = m)
    (h1 : 1 ≤ m) (h4 : m ≤ 4) (hc : ∀ c ∈ cN, c < on) (hp : pr sN * m ≤ 4096) :
    Calls Try.prog 21 #[.agg #[.slice A sN.length c, .int .i64 on, .slice B d.length e], .slice I m ci] w fun r w' => ∃ A1 k1 B1 k2,
      r = .returned (.tuple #[.agg #[.slice A1 sN.length k1, .int .i64 m, .slice B1 (pickV sN d on cN).length k2], .int .i64 0]) ∧ Grd w.heap.size A1 k1 sN m B1 k2 (pickV sN d on cN) w' ∧ Below w.heap.size w w' := by
  subst hm
  have hl4 := h.len4
  have hm := h.most
  have hcl := pick_calls A B I c e ci (ints sN) d (ints cN) on w h.size.length.2.2.2.2 h.own.length.2.2.2.2 hi (by rw [ints_length]; omega) h.size.length.2.2.2.1 h.own.length.2.1 h.own.length.2.2.1 (by rw [ints_length]; omega)
  rw [ints_length, ints_length, pickR_ok h.valid h1 h4 hc hp] at hcl
  refine hcl.mono ?_
  rintro r w' ⟨v1, v2, rfl, g1, g2, hb'⟩
  obtain ⟨A1, k1, rfl, _⟩ := g1.cs
  obtain ⟨B1, k2, rfl, _⟩ := g2.cs
  refine ⟨A1, k1, B1, k2, ?_, ⟨by simpa [ints_length] using g1, g2, h.valid.picked h1 h4 hc hp⟩, hb'⟩
  simp only [ints_length]

/-- The range of a picked output. -/
theorem picked_low {sN : List Nat} {on : Nat} {d : List Int} (hv : ValidG (ints sN) on d) {cN : List Nat} {k c : Nat} (hk : cN[k]? = some c) (hc : c < on) :
    (joined min (pickV sN d on cN) cN.length (pr sN))[k]? = (joined min d on (pr sN))[c]? ∧ (joined max (pickV sN d on cN) cN.length (pr sN))[k]? = (joined max d on (pr sN))[c]? := by
  have hd := data_nat hv
  have hp := pr_pos hv.pos
  have hkl : k < cN.length := (List.getElem?_eq_some_iff.1 hk).1
  have e : ∀ j : Nat, j < pr sN → (rowAt (pickV sN d on cN) cN.length j)[k]?.getD 0 = (rowAt d on j)[c]?.getD 0 := fun j hj => by
    rw [pickV_row d on cN hj, pickRow_at _ hk]; rfl
  have q1 : ∀ j, j < pr sN → ∃ i, i < pr sN ∧ (rowAt (pickV sN d on cN) cN.length j)[k]?.getD 0 = (rowAt d on i)[c]?.getD 0 := fun j hj => ⟨j, hj, e j hj⟩
  have q2 : ∀ j, j < pr sN → ∃ i, i < pr sN ∧ (rowAt d on j)[c]?.getD 0 = (rowAt (pickV sN d on cN) cN.length i)[k]?.getD 0 := fun j hj => ⟨j, hj, (e j hj).symm⟩
  obtain ⟨x1, e1, l1⟩ := joined_min (pickV_length sN d on cN) hp hkl
  obtain ⟨x2, e2, l2⟩ := joined_min hd hp hc
  obtain ⟨x3, e3, l3⟩ := joined_max (pickV_length sN d on cN) hp hkl
  obtain ⟨x4, e4, l4⟩ := joined_max hd hp hc
  rw [e1, e2, e3, e4, l1.unique (fun _ _ _ _ => by omega) l2 q1 q2, l3.unique (fun _ _ _ _ => by omega) l4 q1 q2]
  exact ⟨rfl, rfl⟩

/-- A point's value lies within its output's range. -/
theorem within_range {sN : List Nat} {on : Nat} {d : List Int} (hv : ValidG (ints sN) on d) {n c : Nat} (hn : n < pr sN) (hc : c < on) :
    ∃ x l h, (rowAt d on n)[c]? = some x ∧ (joined min d on (pr sN))[c]? = some l ∧ (joined max d on (pr sN))[c]? = some h ∧ l ≤ x ∧ x ≤ h := by
  have hd := data_nat hv
  have hp := pr_pos hv.pos
  obtain ⟨l, e2, l2⟩ := joined_min hd hp hc
  obtain ⟨h, e4, l4⟩ := joined_max hd hp hc
  have hl := rowAt_length hn hd
  have hx : (rowAt d on n)[c]? = some ((rowAt d on n)[c]'(by omega)) := by simp [hl, hc]
  have h1 := l2.1 n hn
  have h2 := l4.1 n hn
  rw [hx] at h1 h2
  exact ⟨_, l, h, hx, e2, e4, h1, h2⟩

/-- append(s, x), x a number that was boxed just ahead. -/
theorem push_one {ops : Array Oper} {rest : List Oper} {o : Oper} {a : Act} {w0 wr : World} {Q : Exit → Act → World → Prop} (hgd : o.guard = none) (s x : Operand)
    (ho : o.op = .call { callee := .builtin .append, args := #[s, x], argTypes := #[22, 22] }) (A : Option Addr) (j ka : Nat) (xs : List Int) (z : Int) (hs : a.eval s = .slice A j ka) (hx : a.eval x = .slice (some ⟨wr.heap.size, 0, none⟩) 1 1)
    (hown : Own wr w0.heap.size (.slice A j ka) xs ∧ Below w0.heap.size w0 wr) (hj : j ≤ 4096)
    (h : ∀ A' ka' w', Own w' w0.heap.size (.slice A' (j + 1) ka') (xs ++ [z]) → Below w0.heap.size w0 w' → wpList Try.prog ops Q rest (a.put o.dst (.slice A' (j + 1) ka')) w') : wpList Try.prog ops Q (o :: rest) a (wr.alloc (.cells #[.int .i64 z] 3)) := by
  have hl := hown.1.length.1
  refine append_ints hgd s x ho w0.heap.size (.slice A j ka) xs hs (hown.1.kept (below_alloc _)) (some ⟨wr.heap.size, 0, none⟩) 1 [z] (by rw [hx]; rfl) (one_cs wr z) (fun e => by cases e) (by rw [hl]; simp only [List.length_singleton]; omega) (by have := hown.2.size; simp only [World.size_alloc]; omega) ?_
  intro v' w5 ho' hg
  obtain ⟨A', ka', hv', _, _, _, _⟩ := ho'.cs
  rw [List.length_append, hl, List.length_singleton] at hv'
  subst hv'
  exact h A' ka' w5 ho' ((hown.1.kept (below_alloc _)).below hg (Nat.le_refl _) (below_trans hown.2 (below_alloc _)))
end Go.Proofs.Ytkkohelbidmkdaa
