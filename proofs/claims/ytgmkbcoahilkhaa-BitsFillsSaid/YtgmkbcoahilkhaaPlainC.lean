/- Plain facts on how many numbers are in two sets. -/
import Derived.Test.YtgmkbcoahilkhaaPlain
namespace Go.Proofs.Ytgmkbcoahilkhaa.Plain
theorem count_range (l : List Int) (M : Nat) (h : 8 * l.length ≤ M) : countL l = ((List.range M).filter (hasN l)).length := by
  obtain ⟨d, rfl⟩ : ∃ d, M = 8 * l.length + d := ⟨M - 8 * l.length, by omega⟩
  rw [← listN_length, range_add, List.filter_append, List.length_append]
  have e : ((List.range d).map (8 * l.length + ·)).filter (hasN l) = [] := by
    rw [List.filter_eq_nil_iff]
    intro x hx
    obtain ⟨y, _, rfl⟩ := List.mem_map.1 hx
    rw [hasN_out (by omega)]
    simp
  rw [e]
  rfl
theorem filter_or (p q r : Nat → Bool) (L : List Nat) (h : ∀ x ∈ L, r x = (p x || q x)) (hd : ∀ x ∈ L, p x = true → q x = false) : (L.filter r).length = (L.filter p).length + (L.filter q).length := by
  induction L with
  | nil => rfl
  | cons x L ih =>
    have ih := ih (fun y hy => h y (List.mem_cons_of_mem _ hy)) (fun y hy => hd y (List.mem_cons_of_mem _ hy))
    have hx := h x List.mem_cons_self
    have hdx := hd x List.mem_cons_self
    simp only [List.filter_cons, hx]
    cases hp : p x <;> cases hq : q x
    · simp [ih]
    · simp [ih]; omega
    · simp [ih]; omega
    · rw [hdx hp] at hq; cases hq
theorem count_split {J L B : List Int} (N : Nat) (hJ : J.length ≤ N) (hL : L.length ≤ N) (hB : B.length ≤ N) (h : ∀ n, hasN J n = (hasN L n || hasN B n)) (hd : ∀ n, hasN L n = true → hasN B n = false) : countL J = countL L + countL B := by
  rw [count_range J (8 * N) (by omega), count_range L (8 * N) (by omega), count_range B (8 * N) (by omega)]
  exact filter_or _ _ _ _ (fun x _ => h x) (fun x _ => hd x)
end Go.Proofs.Ytgmkbcoahilkhaa.Plain
