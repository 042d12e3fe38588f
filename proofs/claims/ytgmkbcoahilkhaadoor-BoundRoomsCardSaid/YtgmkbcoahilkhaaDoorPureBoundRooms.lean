/- Enough pages and blocks, and the facts that a match uses: what the program reckons is what the reference reckons. Plain Lean. -/
import Derived.Test.YtgmkbcoahilkhaaDoorPBoundRoomsx1
namespace Go.Proofs.YtgmkbcoahilkhaaDoor.Pure
open Go.RowKit Go.Proofs.YtgmkbcoahilkhaaDoor.PBoundRooms Go.Proofs.YtgmkbcoahilkhaaDoorW.PrintWords Go.Proofs.YtgmkbcoahilkhaaDoorW.PrintLast Go.Proofs.YtgmkbcoahilkhaaDoor.Plain

theorem wrap_ok {n : Int} (h0 : -9223372036854775808 ≤ n) (h1 : n < 9223372036854775808) : wrap64 n = n := by unfold wrap64; omega
theorem rd_nat (l : List Int) (n : Nat) (h : n < l.length) : rd l (n : Int) = l[n] := by simp [rd, List.getD_eq_getElem?_getD, h]
/-- Is x apart from the places j .. i - 1 of l? -/
def apart (l : List Int) (x : Int) : Nat → Nat → Bool
  | _, 0 => true
  | j, d + 1 => decide (l.getD j 0 ≠ x) && apart l x (j + 1) d

theorem inner (l : List Int) (hl : l.length ≤ 20) (n : Int) (i : Nat) (hi : i < l.length) (k : Nat) : ∀ (d j : Nat) (b : Bool), j + d = i →
    intarsiaref32_Uses.l1 (k + d + 1) l n (i : Int) b (j : Int) = if (b && apart l l[i] j d) = true then intarsiaref32_Uses.l0 k l (wrap64 (n + 1)) ((i : Int) + 1) else intarsiaref32_Uses.l0 k l n ((i : Int) + 1)
  | 0, j, b, h => by
    rw [intarsiaref32_Uses.l1, if_neg (by omega), wrap_ok (n := (i : Int) + 1) (by omega) (by omega)]
    simp [apart]
  | d + 1, j, b, h => by
    rw [show k + (d + 1) + 1 = (k + d + 1) + 1 by omega, intarsiaref32_Uses.l1, if_pos (by omega), wrap_ok (n := (j : Int) + 1) (by omega) (by omega)]
    have ih := fun b => inner l hl n i hi k d (j + 1) b (by omega)
    cases b with
    | true =>
      rw [if_pos rfl, if_pos (by omega), if_pos (by omega), if_pos (by omega), if_pos (by omega), rd_nat l j (by omega), rd_nat l i hi]
      rw [show ((j : Int) + 1) = ((j + 1 : Nat) : Int) by omega, ih]
      have e : l.getD j 0 = l[j]'(by omega) := by simp [List.getD_eq_getElem?_getD, show j < l.length by omega]
      have e2 : (l[j]'(by omega) != l[i]) = decide (¬ l[j]'(by omega) = l[i]) := by
        by_cases c : l[j]'(by omega) = l[i] <;> simp [c]
      rw [show apart l l[i] j (d + 1) = (decide (l.getD j 0 ≠ l[i]) && apart l l[i] (j + 1) d) from rfl, e, e2]
      simp
    | false =>
      rw [if_neg (by simp), show ((j : Int) + 1) = ((j + 1 : Nat) : Int) by omega, ih]
      simp

theorem apart_take (l : List Int) (i : Nat) (hi : i < l.length) (x : Int) : ∀ (d j : Nat), j + d = i → (apart l x j d = true ↔ ∀ m, j ≤ m → m < i → l.getD m 0 ≠ x)
  | 0, j, h => by simp only [apart, true_iff]; intro m h1 h2; omega
  | d + 1, j, h => by
    simp only [apart, Bool.and_eq_true, decide_eq_true_eq]
    rw [apart_take l i hi x d (j + 1) (by omega)]
    constructor
    · rintro ⟨h1, h2⟩ m h3 h4
      by_cases e : m = j
      · subst e
        exact h1
      · exact h2 m (by omega) h4
    · intro h1
      exact ⟨h1 j (Nat.le_refl _) (by omega), fun m h3 h4 => h1 m (by omega) h4⟩
theorem apart_mem (l : List Int) (i : Nat) (hi : i < l.length) : apart l l[i] 0 i = true ↔ ¬ l[i] ∈ l.take i := by
  rw [apart_take l i hi l[i] i 0 (by omega)]
  constructor
  · intro h hm
    obtain ⟨m, hm1, hm2⟩ := List.getElem_of_mem hm
    have hml : m < i := by simp at hm1; omega
    refine h m (by omega) hml ?_
    rw [List.getElem_take] at hm2
    simp [List.getD_eq_getElem?_getD, show m < l.length by omega, hm2]
  · intro h m _ hm e
    refine h ?_
    rw [← e]
    have : l.getD m 0 = (l.take i)[m]'(by simp; omega) := by simp [List.getD_eq_getElem?_getD, show m < l.length by omega]
    rw [this]
    exact List.getElem_mem _

theorem outer (l : List Int) (hl : l.length ≤ 20) : ∀ (d i n : Nat), i + d = l.length → n ≤ i → ∃ k, intarsiaref32_Uses.l0 k l (n : Int) (i : Int) = some ((n + fr (l.take i) (l.drop i) : Nat) : Int)
  | 0, i, n, h, hn => ⟨1, by
    rw [intarsiaref32_Uses.l0, if_neg (by omega)]
    have : l.drop i = [] := List.drop_eq_nil_of_le (by omega)
    rw [this]
    simp [fr]⟩
  | d + 1, i, n, h, hn => by
    have hi : i < l.length := by omega
    have e1 : l.drop i = l[i] :: l.drop (i + 1) := List.drop_eq_getElem_cons hi
    have e2 : l.take (i + 1) = l.take i ++ [l[i]] := (List.take_append_getElem hi).symm
    have hone : ∃ m : Nat, m ≤ 1 ∧ fr (l.take i) (l.drop i) = m + fr (l.take (i + 1)) (l.drop (i + 1)) ∧ (m = 1 ↔ (decide (rd l (i : Int) > 0) && apart l l[i] 0 i) = true) := by
      refine ⟨if 0 < l[i] ∧ ¬ l[i] ∈ l.take i then 1 else 0, by split <;> omega, by rw [e1, e2]; rfl, ?_⟩
      rw [rd_nat l i hi, Bool.and_eq_true, decide_eq_true_eq, apart_mem l i hi]
      split
      · simp_all
      · simp_all
    obtain ⟨m, hm, ef, hiff⟩ := hone
    obtain ⟨k, hk⟩ := outer l hl d (i + 1) (n + m) (by omega) (by omega)
    refine ⟨k + i + 1 + 1, ?_⟩
    rw [intarsiaref32_Uses.l0, if_pos (by omega), if_pos (by omega)]
    rw [show (0 : Int) = ((0 : Nat) : Int) from rfl, inner l hl n i hi k i 0 _ (by omega)]
    rw [wrap_ok (n := (n : Int) + 1) (by omega) (by omega)]
    rw [ef]
    by_cases c : m = 1
    · rw [if_pos (by simpa using hiff.1 c)]
      subst c
      rw [show ((n : Int) + 1) = ((n + 1 : Nat) : Int) by omega, show ((i : Int) + 1) = ((i + 1 : Nat) : Int) by omega, hk]
      congr 2
      omega
    · rw [if_neg (by intro h; exact c (hiff.2 (by simpa using h)))]
      have : m = 0 := by omega
      subst this
      rw [show ((i : Int) + 1) = ((i + 1 : Nat) : Int) by omega]
      simpa using hk

theorem BoundRooms : intarsialaw32_BoundRooms.Pure := by
  intro a0 l1 _ _ _ _
  unfold intarsialaw32_BoundRooms.f
  by_cases c : (l1.length : Int) > 20
  · exact ⟨0, by rw [if_pos c]; rfl⟩
  · obtain ⟨k, hk⟩ := outer l1 (by omega) l1.length 0 0 (by omega) (by omega)
    refine ⟨k, ?_⟩
    rw [if_neg c]
    have e5 : bound_Pages.f a0 = intarsiaref32_Pages.f a0 := rfl
    have e7 : bound_Blocks.f a0 = intarsiaref32_Blocks.f a0 := rfl
    obtain ⟨p, hp⟩ : ∃ p, intarsiaref32_Pages.f a0 = some p := ⟨_, rfl⟩
    obtain ⟨b, hb⟩ : ∃ b, intarsiaref32_Blocks.f a0 = some b := ⟨_, rfl⟩
    rw [e5, e7, hp, hb]
    simp only [Option.bind_some, if_true]
    have e9 : bound_Uses.f l1 = some (usesL l1) := by unfold bound_Uses.f; rw [if_pos (by omega)]
    rw [e9]
    have e10 : intarsiaref32_Uses.f k l1 = some (usesL l1) := by
      unfold intarsiaref32_Uses.f
      rw [usesL_eq]
      simpa using hk
    rw [e10]
    simp only [Option.bind_some, if_true]
    rfl
end Go.Proofs.YtgmkbcoahilkhaaDoor.Pure
