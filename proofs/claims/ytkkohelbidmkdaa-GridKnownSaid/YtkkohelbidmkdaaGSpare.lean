/-
  A drawn region that clones a row and appends to the clone: what is known of the rows from block n on is that their heads hold ints; an append into the clone's spare cells keeps that.
-/
import Derived.Test.YtkkohelbidmkdaaGPlacesW
import Derived.Test.YtkkohelbidmkdaaGRefSwap
import Derived.Test.YtkkohelbidmkdaaGRefPick
namespace Go.Proofs.Ytkkohelbidmkdaa
set_option linter.unusedVariables false
set_option linter.unusedSimpArgs false
open Go Go.RowKit

/-- Block b has s cells; the first m hold ints. -/
def IntP (W : World) (b s m : Nat) : Prop := ∃ cur : Array Value, W.heap[b]? = some (.cells cur 3 (0, 0)) ∧ cur.size = s ∧ m ≤ s ∧ ∀ j, j < m → ∃ z, cur[j]? = some (.int .i64 z)

/-- The blocks below n are as they were; those from n on keep the ints at their heads. -/
structure Spare (n : Nat) (A B : World) : Prop where
  os : B.os = A.os
  tape : B.tape = A.tape
  output : B.output = A.output
  size : A.heap.size ≤ B.heap.size
  block : ∀ b, b < n → b < A.heap.size → B.heap[b]? = A.heap[b]?
  ints : ∀ b s m, IntP A b s m → IntP B b s m

instance relSpare (n : Nat) : RT.Rel (Spare n) where
  e0 := 0
  N _ := True
  ndrawn _ _ := trivial
  refl _ := ⟨rfl, rfl, rfl, Nat.le_refl _, fun _ _ _ => rfl, fun _ _ _ h => h⟩
  trans _ _ _ h k := ⟨k.os.trans h.os, k.tape.trans h.tape, k.output.trans h.output, Nat.le_trans h.size k.size, fun b hb hs => (k.block b hb (Nat.lt_of_lt_of_le hs h.size)).trans (h.block b hb hs), fun b s m hi => k.ints b s m (h.ints b s m hi)⟩
  drawn _ := ⟨rfl, rfl, rfl, Nat.le_refl _, fun _ _ _ => rfl, fun _ _ _ h => h⟩

theorem IntP.heap {A B : World} {b s m : Nat} (h : IntP A b s m) (e : B.heap[b]? = A.heap[b]?) : IntP B b s m := by
  obtain ⟨cur, h1, h2, h3, h4⟩ := h
  exact ⟨cur, e.trans h1, h2, h3, h4⟩
theorem IntP.lt {A : World} {b s m : Nat} (h : IntP A b s m) : b < A.heap.size := by
  obtain ⟨cur, h1, _⟩ := h
  exact (Array.getElem?_eq_some_iff.1 h1).1
theorem Spare.of_below {n : Nat} {A B : World} (h : Below A.heap.size A B) : Spare n A B :=
  ⟨h.os, h.tape, h.output, h.size, fun b _ hs => h.block b hs, fun b s m hi => hi.heap (h.block b hi.lt)⟩
theorem Spare.below {A B : World} (h : Spare A.heap.size A B) : Below A.heap.size A B := ⟨h.os, h.tape, h.output, h.size, fun b hb => h.block b hb hb⟩
theorem Spare.cell {n : Nat} {A B : World} (h : Spare n A B) : ∀ p : Addr, p.block < n → (A.cell? p).isSome = true → B.cell? p = A.cell? p := by
  intro p hp hs
  obtain ⟨u, hu⟩ := Option.isSome_iff_exists.1 hs
  exact World.cell?_of_block (h.block _ hp (block_lt hu))
theorem Spare.cell0 {A B : World} (h : Spare A.heap.size A B) : ∀ p : Addr, (A.cell? p).isSome = true → B.cell? p = A.cell? p := by
  intro p hs
  obtain ⟨u, hu⟩ := Option.isSome_iff_exists.1 hs
  exact World.cell?_of_block (h.block _ (block_lt hu) (block_lt hu))

/-- A row of which only that much is known is some row. -/
theorem IntP.own {W : World} {b s m base : Nat} (h : IntP W b s m) (hs : s ≤ maxLen) (hb : base ≤ b) : ∃ xs : List Int, xs.length = m ∧ Own W base (.slice (some ⟨b, 0, none⟩) m s) xs := by
  obtain ⟨cur, h1, h2, h3, h4⟩ := h
  have hall : ∀ k, k ≤ m → ∃ xs : List Int, xs.length = k ∧ cur.toList.take k = xs.map (Value.int .i64) := by
    intro k
    induction k with
    | zero => intro _; exact ⟨[], rfl, by simp⟩
    | succ k ih =>
      intro hk
      obtain ⟨xs, hl, he⟩ := ih (by omega)
      obtain ⟨z, hz⟩ := h4 k (by omega)
      refine ⟨xs ++ [z], by simp [hl], ?_⟩
      have hz' : cur.toList[k]? = some (.int .i64 z) := by simpa using hz
      rw [take_at hz', he]
      simp
  obtain ⟨xs, hl, he⟩ := hall m (Nat.le_refl _)
  refine ⟨xs, hl, by simp, .inr ⟨b, s, cur, by rw [hl], hb, h1, by omega, hs, by omega, ?_⟩⟩
  rw [hl, Nat.mul_one]; exact he

theorem Own.intP {W : World} {base b n k : Nat} {xs : List Int} (h : Own W base (.slice (some ⟨b, 0, none⟩) n k) xs) : IntP W b k n ∧ k ≤ maxLen ∧ base ≤ b := by
  have hn := h.length.1
  obtain ⟨h1, h2⟩ := h
  rcases h2 with ⟨h2, _⟩ | ⟨g, cap, cur, hv, hg, hh, r1, r2, r3, r4⟩
  · cases h2
  · injection hv with e1 e2 e3
    injection e1 with e1
    injection e1 with e1
    subst e1 e3
    refine ⟨⟨cur, hh, by omega, by omega, fun j hj => ?_⟩, r2, hg⟩
    have hx : (cur.toList.take (xs.length * 1))[j]? = (xs.map (Value.int .i64))[j]? := by rw [r4]
    rw [List.getElem?_take, if_pos (by omega), List.getElem?_map, List.getElem?_eq_getElem (by omega : j < xs.length)] at hx
    exact ⟨xs[j], by simpa using hx⟩

theorem Cs.spare {A B : World} {q : IntKind} {ad : Option Addr} {xs : List Int} (hc : Cs A q ad xs) (h : Spare A.heap.size A B) : Cs B q ad xs := fun i x hx => by
  obtain ⟨b, o, e, hcell⟩ := hc i x hx
  exact ⟨b, o, e, (h.cell0 _ (by rw [hcell]; rfl)).trans hcell⟩
theorem Blk.spare {A B : World} {b : Nat} {cs : List Value} {t : TypeId} (hc : Blk A b cs t) (h : Spare A.heap.size A B) : Blk B b cs t := by
  have hlt := hc.lt
  unfold Blk at *
  rw [h.block b hlt hlt]; exact hc
theorem intP_four (W : World) (a b c d : Int) : IntP (W.alloc (.cells #[.int .i64 a, .int .i64 b, .int .i64 c, .int .i64 d] 3)) W.heap.size 4 4 :=
  ⟨_, World.alloc_heap_new W _, rfl, Nat.le_refl _, fun j hj => by
    have hcase : j = 0 ∨ j = 1 ∨ j = 2 ∨ j = 3 := by omega
    rcases hcase with rfl | rfl | rfl | rfl <;> exact ⟨_, rfl⟩⟩
theorem two_cs {W : World} {g : Nat} {a b : Int} (h : Blk W g [.int .i64 a, .int .i64 b] 3) : Cs W .i64 (some ⟨g, 0, none⟩) [a, b] := by
  intro i x hx
  rcases i with _ | _ | i
  · simp at hx; subst hx; exact ⟨g, 0, rfl, h.cell rfl⟩
  · simp at hx; subst hx; exact ⟨g, 0, rfl, h.cell rfl⟩
  · simp at hx

/-- append(s, x): where there is room, in place. -/
theorem gives_append_spare {n : Nat} {o : Oper} {a : Act} {W : World} {R : Value → World → Prop} (s x : Operand)
    (ho : o.op = .call { callee := .builtin .append, args := #[s, x], argTypes := #[22, 22] }) {g k : Nat} (hs : a.eval s = .slice (some ⟨g, 0, none⟩) 2 k) (hg : IntP W g k 2) (hk : k ≤ maxLen) (hn : n ≤ g)
    {A : Option Addr} {c : Nat} {ys : List Int} (hx : a.eval x = .slice A ys.length c) (hy : Cs W .i64 A ys) (hA : A = none → c = 0) (hlen : ys.length ≤ 16)
    (h : ∀ i k' W', Spare n W W' → IntP W' i k' (2 + ys.length) → k' ≤ maxLen → n ≤ i → R (.slice (some ⟨i, 0, none⟩) (2 + ys.length) k') W') : RT.Gives Try.prog o a W R := by
  obtain ⟨i0, hi, hz0, hz1, hz2⟩ := info_parts info_int
  obtain ⟨xs, hxl, how⟩ := hg.own (base := n) hk hn
  cases A with
  | none =>
    have hys : ys = [] := by
      cases ys with
      | nil => rfl
      | cons y ys => obtain ⟨b, o, e, _⟩ := hy 0 y rfl; cases e
    subst hys
    obtain rfl := hA rfl
    have hr := run_append_owned_none (P := Try.prog) (w := W) n 22 o.type 3 i0 1 Try.underlying22 hi _ _ _ how
    simp only [List.length_nil] at hx
    unfold RT.Gives execOp
    simp only [ho, resolve, invoke, builtin, Sem.run_bind, Sem.run_pure, Result.andThen_ok, List.map_toArray, List.map_cons, List.map_nil, hs, hx, hr]
    exact h g k W ((relSpare n).refl W) hg hk hn
  | some ad =>
    have hnews : ∀ j u, (ys.map (Value.int .i64))[j]? = some u → W.cell? (ad.add j) = some u := by
      intro j u hu
      rw [List.getElem?_map] at hu
      obtain ⟨y, hy1, rfl⟩ := Option.map_eq_some_iff.1 hu
      obtain ⟨b, o, e, hc⟩ := hy j y hy1
      cases e
      unfold Addr.add
      split
      · rename_i hj; subst hj; exact hc
      · exact hc
    obtain ⟨cur, hh, hsz, h2, h4⟩ := hg
    by_cases hroom : 2 + ys.length ≤ k
    · have hr := run_append_room (P := Try.prog) W 22 o.type 3 i0 Try.underlying22 hi g 2 k cur hh ad ys.length c (ys.map (Value.int .i64)) (by simp [hz1]) hnews (fun u hu => by obtain ⟨y, _, rfl⟩ := List.mem_map.1 hu; rfl) hroom (by simp [hz1]; omega)
      unfold RT.Gives execOp
      simp only [ho, resolve, invoke, builtin, Sem.run_bind, Sem.run_pure, Result.andThen_ok, List.map_toArray, List.map_cons, List.map_nil, hs, hx, hr]
      rw [hz1, Nat.mul_one]
      have hnew : ∀ m j, (∀ j, j < m → ∃ z, cur[j]? = some (.int .i64 z)) → j < max m (2 + ys.length) → ∃ z, (cur.toList.take 2 ++ ys.map (Value.int .i64) ++ cur.toList.drop (2 + (ys.map (Value.int .i64)).length))[j]? = some (.int .i64 z) := by
        intro m j hm hj
        have hl2 : (cur.toList.take 2).length = 2 := by rw [List.length_take, Array.length_toList]; omega
        by_cases hj2 : j < 2
        · obtain ⟨z, hz⟩ := h4 j hj2
          refine ⟨z, ?_⟩
          rw [List.append_assoc, List.getElem?_append_left (by omega), List.getElem?_take, if_pos hj2]
          simpa using hz
        · by_cases hj3 : j < 2 + ys.length
          · refine ⟨ys[j - 2]'(by omega), ?_⟩
            rw [List.append_assoc, List.getElem?_append_right (by omega), List.getElem?_append_left (by rw [List.length_map]; omega), hl2, List.getElem?_map, List.getElem?_eq_getElem (by omega)]
            rfl
          · obtain ⟨z, hz⟩ := hm j (by omega)
            refine ⟨z, ?_⟩
            rw [List.getElem?_append_right (by rw [List.length_append, hl2, List.length_map]; omega), List.length_append, hl2, List.length_map, List.getElem?_drop]
            rw [show 2 + ys.length + (j - (2 + ys.length)) = j by omega]
            simpa using hz
      have hsize : (cur.toList.take 2 ++ ys.map (Value.int .i64) ++ cur.toList.drop (2 + (ys.map (Value.int .i64)).length)).length = k := by
        simp only [List.length_append, List.length_take, List.length_drop, List.length_map, Array.length_toList]; omega
      refine h g k _ ⟨rfl, rfl, rfl, by simp, fun b hb hbs => ?_, fun b s m hi => ?_⟩ ⟨_, setRow_heap W g cur _ 3 (0, 0) hh, by simpa using hsize, hroom, fun j hj => by simpa using hnew 0 j (fun j hj => absurd hj (Nat.not_lt_zero _)) (by omega)⟩ hk hn
      · exact setRow_other W g b _ (by omega)
      · by_cases e : b = g
        · subst e
          obtain ⟨cur', q1, q2, q3, q4⟩ := hi
          rw [hh] at q1
          obtain rfl : cur = cur' := by injection q1 with q1; injection q1
          exact ⟨_, setRow_heap W b cur _ 3 (0, 0) hh, by rw [← q2, hsz]; simpa using hsize, q3, fun j hj => by simpa using hnew m j q4 (by omega)⟩
        · exact hi.heap (setRow_other W g b _ e)
    · have hol : (xs.map (Value.int .i64)).length = 2 * i0.size := by simp [hxl, hz1]
      have hr := run_append_grow (P := Try.prog) W 22 o.type 3 i0 (.int .i64 0) Try.underlying22 hi hz0 ⟨g, 0, none⟩ 2 k (xs.map (Value.int .i64)) hol (fun j u hu => by
        rw [List.getElem?_map] at hu
        obtain ⟨y, hy1, rfl⟩ := Option.map_eq_some_iff.1 hu
        obtain ⟨b, o, e, hc⟩ := how.length.2.2.2.2 j y hy1
        cases e
        unfold Addr.add
        split
        · rename_i hj; subst hj; exact hc
        · exact hc) ad ys.length c (ys.map (Value.int .i64)) (by simp [hz1]) hnews (by omega) (by omega) (growslice_fits (by omega) (by rw [hz2]; omega))
      unfold RT.Gives execOp
      simp only [ho, resolve, invoke, builtin, Sem.run_bind, Sem.run_pure, Result.andThen_ok, List.map_toArray, List.map_cons, List.map_nil, hs, hx, hr]
      have hcap := grownCap_ge W (2 + ys.length) k 3
      have hbw : Below W.heap.size W (W.drew.alloc (.cells ((xs.map (Value.int .i64)).toArray ++ (ys.map (Value.int .i64)).toArray ++ Builtin.zeroCells (Value.cells (.int .i64 0)) (grownCap W (2 + ys.length) k 3 - (2 + ys.length))) 3)) := ⟨rfl, rfl, rfl, by simp, fun b hb => heap_alloc_old W.drew _ hb⟩
      refine h _ _ _ (Spare.of_below hbw) ⟨_, heap_alloc_new W.drew _, by
        simp [size_zeroCells, hxl]
        show 2 + ys.length + (grownCap W (2 + ys.length) k 3 - (2 + ys.length)) * 1 = _
        omega, hcap, fun j hj => ?_⟩ (grownCap_le_maxLen W (2 + ys.length) k 3 (by simp only [maxLen]; omega)) (by have := (Array.getElem?_eq_some_iff.1 hh).1; show n ≤ W.heap.size; omega)
      by_cases hj2 : j < 2
      · refine ⟨xs[j]'(by omega), ?_⟩
        rw [Array.getElem?_append_left (by simp [hxl]; omega), Array.getElem?_append_left (by simp [hxl]; omega)]
        simp [hxl, hj2]
      · refine ⟨ys[j - 2]'(by omega), ?_⟩
        rw [Array.getElem?_append_left (by simp [hxl]; omega), Array.getElem?_append_right (by simp [hxl]; omega)]
        simp [hxl, show j - 2 < ys.length by omega]
end Go.Proofs.Ytkkohelbidmkdaa
