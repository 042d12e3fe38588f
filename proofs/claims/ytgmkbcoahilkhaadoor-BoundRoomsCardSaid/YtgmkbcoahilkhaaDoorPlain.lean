/- Counting the distinct positive numbers of a list: sorted and compacted, or each held against those ahead of it: the same. Plain Lean. -/
import Derived.Lib.SlicesCompact
namespace Go.Proofs.YtgmkbcoahilkhaaDoor.Plain
open Go
def kept (l : List Int) : List Int := l.filter fun x => !decide (x ≤ 0)
def sortedL (l : List Int) : List Int := l.mergeSort fun x y => decide (x ≤ y)
def usesL (l : List Int) : Int := ((Lib.compact (sortedL (kept l))).length : Nat)
/-- How many of l are positive and not in pre, nor ahead in l. -/
def fr (pre : List Int) : List Int → Nat
  | [] => 0
  | x :: r => (if 0 < x ∧ ¬ x ∈ pre then 1 else 0) + fr (pre ++ [x]) r

theorem fr_of_nodup : ∀ (l pre ds : List Int), ds.Nodup → (∀ x, x ∈ ds ↔ x ∈ l ∧ 0 < x ∧ ¬ x ∈ pre) → ds.length = fr pre l
  | [], pre, ds, _, h => by
    cases ds with
    | nil => rfl
    | cons y r => exact absurd ((h y).1 List.mem_cons_self).1 (by simp)
  | x :: r, pre, ds, hn, h => by
    unfold fr
    by_cases c : 0 < x ∧ ¬ x ∈ pre
    · have hx : x ∈ ds := (h x).2 ⟨List.mem_cons_self, c⟩
      rw [if_pos c, ← fr_of_nodup r (pre ++ [x]) (ds.erase x) (hn.erase x) ?_, List.length_erase_of_mem hx]
      · have := List.length_pos_of_mem hx
        omega
      · intro y
        rw [hn.mem_erase_iff, h y]
        simp only [List.mem_cons, List.mem_append, not_or, List.not_mem_nil, or_false]
        constructor
        · rintro ⟨hne, (rfl | hy), h0, hp⟩
          · exact absurd rfl hne
          · exact ⟨hy, h0, hp, hne⟩
        · rintro ⟨hy, h0, hp, hne⟩
          exact ⟨hne, .inr hy, h0, hp⟩
    · rw [if_neg c, Nat.zero_add]
      refine fr_of_nodup r (pre ++ [x]) ds hn fun y => ?_
      rw [h y]
      simp only [List.mem_cons, List.mem_append, not_or, List.not_mem_nil, or_false]
      constructor
      · rintro ⟨(rfl | hy), h0, hp⟩
        · exact absurd ⟨h0, hp⟩ c
        · refine ⟨hy, h0, hp, ?_⟩
          rintro rfl
          exact c ⟨h0, hp⟩
      · rintro ⟨hy, h0, hp, _⟩
        exact ⟨.inr hy, h0, hp⟩

theorem upto_spec (d : Array Int) (hs : ∀ i j, i ≤ j → j < d.size → d[i]! ≤ d[j]!) : ∀ m, m ≤ d.size →
    (Lib.compactUpTo d m).Pairwise (· < ·) ∧ ∀ x, x ∈ Lib.compactUpTo d m ↔ ∃ j, j < m ∧ d[j]! = x
  | 0, _ => by simp [Lib.compactUpTo]
  | m + 1, hm => by
    obtain ⟨hp, hx⟩ := upto_spec d hs m (by omega)
    rw [Lib.compactUpTo_succ]
    cases hk : Lib.keeps d m with
    | true =>
      simp only [if_true]
      refine ⟨List.pairwise_append.2 ⟨hp, List.pairwise_singleton _ _, fun a ha b hb => ?_⟩, fun x => ?_⟩
      · simp only [List.mem_singleton] at hb
        subst hb
        obtain ⟨j, hj, rfl⟩ := (hx a).1 ha
        have h1 := hs j (m - 1) (by omega) (by omega)
        have h2 := hs (m - 1) m (by omega) (by omega)
        have h3 : d[m - 1]! ≠ d[m]! := by
          intro e
          have e0 : m ≠ 0 := by omega
          simp [Lib.keeps, e0, e] at hk
        omega
      · simp only [List.mem_append, List.mem_singleton, hx]
        constructor
        · rintro (⟨j, hj, rfl⟩ | rfl)
          · exact ⟨j, by omega, rfl⟩
          · exact ⟨m, by omega, rfl⟩
        · rintro ⟨j, hj, rfl⟩
          by_cases e : j = m
          · subst e
            exact .inr rfl
          · exact .inl ⟨j, by omega, rfl⟩
    | false =>
      simp only [Bool.false_eq_true, if_false, List.append_nil]
      refine ⟨hp, fun x => ?_⟩
      rw [hx]
      constructor
      · rintro ⟨j, hj, rfl⟩
        exact ⟨j, by omega, rfl⟩
      · rintro ⟨j, hj, rfl⟩
        by_cases e : j = m
        · subst e
          by_cases e0 : j = 0
          · subst e0
            simp [Lib.keeps] at hk
          · refine ⟨j - 1, by omega, ?_⟩
            simp [Lib.keeps, e0] at hk
            exact hk.symm
        · exact ⟨j, by omega, rfl⟩

theorem sortedL_pairwise (l : List Int) : (sortedL l).Pairwise (· ≤ ·) := by
  have := List.pairwise_mergeSort (le := fun (x y : Int) => decide (x ≤ y)) (fun a b c h1 h2 => by simp at *; omega) (fun a b => by simp; omega) l
  exact this.imp (fun h => by simpa using h)
theorem compact_sorted (l : List Int) : (Lib.compact (sortedL l)).Nodup ∧ ∀ x, x ∈ Lib.compact (sortedL l) ↔ x ∈ l := by
  have hp := sortedL_pairwise l
  have hs : ∀ i j, i ≤ j → j < (sortedL l).toArray.size → (sortedL l).toArray[i]! ≤ (sortedL l).toArray[j]! := by
    intro i j hij hj
    have hj' : j < (sortedL l).length := by simpa using hj
    rw [getElem!_pos (sortedL l).toArray i (by omega), getElem!_pos (sortedL l).toArray j hj]
    simp only [List.getElem_toArray]
    by_cases e : i = j
    · subst e
      exact Int.le_refl _
    · exact List.pairwise_iff_getElem.1 hp i j (by omega) hj' (by omega)
  obtain ⟨h1, h2⟩ := upto_spec (sortedL l).toArray hs (sortedL l).length (by simp)
  refine ⟨h1.imp (fun h => by omega), fun x => ?_⟩
  show x ∈ Lib.compactUpTo _ _ ↔ _
  rw [h2]
  constructor
  · rintro ⟨j, hj, rfl⟩
    rw [getElem!_pos _ _ (by simpa using hj)]
    simp only [List.getElem_toArray]
    exact (List.mergeSort_perm l _).mem_iff.1 (List.getElem_mem hj)
  · intro hx
    obtain ⟨j, hj, e⟩ := List.getElem_of_mem ((List.mergeSort_perm l (fun x y => decide (x ≤ y))).mem_iff.2 hx)
    exact ⟨j, hj, by rw [getElem!_pos _ _ (by simpa [sortedL] using hj)]; simpa [sortedL] using e⟩
theorem usesL_eq (l : List Int) : usesL l = (fr [] l : Nat) := by
  obtain ⟨h1, h2⟩ := compact_sorted (kept l)
  unfold usesL
  rw [fr_of_nodup l [] _ h1 fun x => by rw [h2]; simp [kept]]
theorem usesL_four : usesL [3, 0, 3, 1] = 2 := by
  rw [usesL_eq]
  decide
end Go.Proofs.YtgmkbcoahilkhaaDoor.Plain
