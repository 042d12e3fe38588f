/- The printed functions of layer 4 are the plain ones. -/
import Derived.Test.YtgmkbcoahilkhaaPlain
import Derived.Test.YtgmkbcoahilkhaaWNEv
namespace Go.Proofs.Ytgmkbcoahilkhaa.Plain
open Go.RowKit Go.Proofs.Ytgmkbcoahilkhaa.PAll Go.Proofs.YtgmkbcoahilkhaaW.PrintWords Go.Proofs.YtgmkbcoahilkhaaW.PrintLast Go.Proofs.YtgmkbcoahilkhaaW.PrintMore

theorem wrap_ok {n : Int} (h0 : -9223372036854775808 ≤ n) (h1 : n < 9223372036854775808) : wrap64 n = n := by unfold wrap64; omega
theorem tdiv8 {i : Int} (h : 0 ≤ i) : Int.tdiv i 8 = ((i.toNat / 8 : Nat) : Int) := by rw [Int.tdiv_eq_ediv_of_nonneg h]; omega
theorem tmod8 {i : Int} (h : 0 ≤ i) : Int.tmod i 8 = ((i.toNat % 8 : Nat) : Int) := by rw [Int.tmod_eq_emod_of_nonneg h]; omega
theorem rd_at (l : List Int) (n : Nat) : rd l ((n : Nat) : Int) = at_ l n := by simp [rd, at_]
def Small (l : List Int) : Prop := l.length ≤ 1048576

theorem mask_eq {i : Int} (h : 0 ≤ i) : bits_mask.f i = some (maskB (i.toNat % 8)) := by
  unfold bits_mask.f
  rw [tmod8 h, if_pos (by omega)]
  rfl
theorem in_eq {l : List Int} (hl : Small l) (i : Int) : bits_in.f l i = some (decide (0 ≤ i ∧ i < 8 * (l.length : Int))) := by
  unfold Small at hl
  unfold bits_in.f
  rw [wrap_ok (by omega) (by omega)]
  by_cases h : 0 ≤ i
  · rw [if_pos h]; simp [h]
  · rw [if_neg h]; simp [h]
theorem has_eq {l : List Int} (hl : Small l) (hb : Bytes l) (i : Int) : bits_Has.f l i = some (hasL l i) := by
  unfold bits_Has.f
  rw [in_eq hl]
  unfold Small at hl
  simp only [Option.bind_some]
  by_cases h : 0 ≤ i ∧ i < 8 * (l.length : Int)
  · rw [if_pos (by simpa using h), tdiv8 h.1, wrap_ok (by omega) (by omega), if_pos (by omega), if_pos (by omega), mask_eq h.1]
    simp only [Option.bind_some]
    rw [rd_at, and_mask (at_byte hb _) (Nat.mod_lt _ (by decide))]
    simp [hasL, hasN, h.1]
  · rw [if_neg (by simpa using h)]
    congr 1
    symm
    unfold hasL
    by_cases h0 : 0 ≤ i
    · rw [hasN_out (by omega)]; simp
    · simp [h0]
theorem with_eq {l : List Int} (hl : Small l) (i : Int) (on : Bool) : bits_With.f l i on = some (withL l i on) := by
  unfold bits_With.f
  have hc : bytes_Clone.f l = some l := by unfold bytes_Clone.f; rw [if_pos (by unfold Small at hl; omega)]
  rw [hc]
  simp only [Option.bind_some]
  rw [in_eq hl]
  unfold Small at hl
  simp only [Option.bind_some]
  unfold withL
  by_cases h : 0 ≤ i ∧ i < 8 * (l.length : Int)
  · rw [if_pos (by simpa using h), if_pos h, tdiv8 h.1, wrap_ok (by omega) (by omega), mask_eq h.1]
    unfold withN setB
    cases on
    · rw [if_neg (by simp), if_pos (by omega), if_pos (by omega)]
      simp only [Option.bind_some, Int.toNat_natCast]
      rw [rd_at]
      simp
    · rw [if_pos rfl, if_pos (by omega), if_pos (by omega)]
      simp only [Option.bind_some, Int.toNat_natCast]
      rw [rd_at]
      simp
  · rw [if_neg (by simpa using h), if_neg h]
/-- The lowest number that is not in a set, d numbers on. -/
def firstN (l : List Int) : Nat → Nat → Int × Bool
  | 0, _ => (0, false)
  | d + 1, n => if hasN l n then firstN l d (n + 1) else ((n : Int), true)
def firstL (l : List Int) (from_ : Int) : Int × Bool := firstN l (8 * l.length - from_.toNat) from_.toNat
theorem first_l0 {l : List Int} (hl : Small l) (hb : Bytes l) (d : Nat) : ∀ (n k : Nat), 8 * l.length - n = d → d < k → n ≤ 9223372036854775807 → bits_First.l0 k l (n : Int) = some (firstN l d n) := by
  induction d with
  | zero =>
    intro n k h hk _
    obtain ⟨k, rfl⟩ : ∃ m, k = m + 1 := ⟨k - 1, by omega⟩
    simp only [bits_First.l0]
    rw [wrap_ok (by omega) (by unfold Small at hl; omega), if_neg (by omega)]
    rfl
  | succ d ih =>
    intro n k h hk hn
    obtain ⟨k, rfl⟩ : ∃ m, k = m + 1 := ⟨k - 1, by omega⟩
    have hs := hl
    unfold Small at hs
    simp only [bits_First.l0]
    rw [wrap_ok (by omega) (by omega), if_pos (by omega), has_eq hl hb]
    simp only [Option.bind_some, hasL_nat, firstN]
    cases hasN l n
    · simp
    · simp only [if_true]
      rw [wrap_ok (by omega) (by omega)]
      exact ih (n + 1) k (by omega) (by omega) (by omega)
theorem first_eq {l : List Int} (hl : Small l) (hb : Bytes l) (i : Int) (h1 : i ≤ 9223372036854775807) {k : Nat} (hk : 8 * l.length < k) : bits_First.f k l i = some (firstL l i) := by
  unfold bits_First.f firstL
  have e : mx i 0 = (i.toNat : Int) := by unfold mx; split <;> omega
  rw [e]
  exact first_l0 hl hb _ _ _ rfl (by omega) (by omega)
theorem count_l1 {l : List Int} (hl : Small l) (n : Nat) (hn : n < l.length) (r : Int) : ∀ (p : Nat) (x c : Int), IsByte x → popB x = p → 0 ≤ c → c + (p : Int) ≤ 16777216 → Ev (fun k => bits_Count.l0 k (c + p) l (l.length : Int) ((n : Int) + 1)) r → Ev (fun k => bits_Count.l1 k c x l (l.length : Int) (n : Int)) r := by
  intro p
  induction p with
  | zero =>
    intro x c hx hp hc hc1 h
    refine Ev.step (f := fun k => bits_Count.l0 k c l (l.length : Int) ((n : Int) + 1)) (fun k => ?_) (by simpa using h)
    have hz : x = 0 := by
      by_cases h0 : x = 0
      · exact h0
      · have := (popB_step hx h0).2; omega
    simp only [bits_Count.l1]
    rw [if_pos hz, wrap_ok (by omega) (by unfold Small at hl; omega)]
  | succ p ih =>
    intro x c hx hp hc hc1 h
    have hz : x ≠ 0 := by rintro rfl; rw [popB_zero] at hp; omega
    obtain ⟨h1, h2⟩ := popB_step hx hz
    refine Ev.step (f := fun k => bits_Count.l1 k (c + 1) (Go.bits .and .u8 x ((x - 1) % 256)) l (l.length : Int) (n : Int)) (fun k => ?_) ?_
    · simp only [bits_Count.l1]
      rw [if_neg hz, wrap_ok (by omega) (by omega)]
    · refine ih _ (c + 1) h1 (by omega) (by omega) (by omega) ?_
      have e : c + 1 + (p : Int) = c + ((p + 1 : Nat) : Int) := by omega
      rw [e]; exact h
theorem countL_take {l : List Int} {n : Nat} (hn : n < l.length) : countL (l.take (n + 1)) = countL (l.take n) + popB (at_ l n) := by
  rw [List.take_succ_eq_append_getElem hn]
  unfold countL at_
  rw [List.map_append, List.sum_append, getD_lt hn]
  simp
theorem countL_small {l : List Int} (hl : Small l) (n : Nat) : countL (l.take n) ≤ 8388608 := by
  have := countL_le (l.take n)
  have h : (l.take n).length ≤ l.length := by simp; omega
  unfold Small at hl; omega
theorem count_l0 {l : List Int} (hl : Small l) (hb : Bytes l) (d : Nat) : ∀ n : Nat, n ≤ l.length → l.length - n = d → Ev (fun k => bits_Count.l0 k ((countL (l.take n) : Nat) : Int) l (l.length : Int) (n : Int)) ((countL l : Nat) : Int) := by
  induction d with
  | zero =>
    intro n hn h
    refine Ev.step (f := fun _ => some ((countL l : Nat) : Int)) (fun k => ?_) (Ev.now _)
    simp only [bits_Count.l0]
    rw [if_neg (by omega), List.take_of_length_le (by omega)]
  | succ d ih =>
    intro n hn h
    refine Ev.step (f := fun k => bits_Count.l1 k ((countL (l.take n) : Nat) : Int) (at_ l n) l (l.length : Int) (n : Int)) (fun k => ?_) ?_
    · simp only [bits_Count.l0]
      rw [if_pos (by omega), if_pos (by omega), if_pos (by omega), rd_at]
    · have hs := countL_small hl n
      have hp := popB_le (at_ l n)
      refine count_l1 hl n (by omega) _ _ _ _ (at_byte hb n) rfl (by omega) (by omega) ?_
      have := ih (n + 1) (by omega) (by omega)
      rw [countL_take (by omega)] at this
      have e : (((countL (l.take n) + popB (at_ l n) : Nat)) : Int) = ((countL (l.take n) : Nat) : Int) + ((popB (at_ l n) : Nat) : Int) := by omega
      rw [e] at this
      exact this
theorem count_eq {l : List Int} (hl : Small l) (hb : Bytes l) : Ev (fun k => bits_Count.f k l) ((countL l : Nat) : Int) := by
  have := count_l0 hl hb l.length 0 (Nat.zero_le _) rfl
  simpa [bits_Count.f, countL] using this
/-! ### the reference -/
theorem power_l0 {i : Int} (hi : 0 ≤ i) (d : Nat) : ∀ c : Nat, i.toNat % 8 - c = d → c ≤ i.toNat % 8 → Ev (fun k => intarsiaref04_power.l0 k i (maskB c) (c : Int)) (maskB (i.toNat % 8)) := by
  induction d with
  | zero =>
    intro c h hc
    have e : c = i.toNat % 8 := by omega
    refine Ev.step (f := fun _ => some (maskB (i.toNat % 8))) (fun k => ?_) (Ev.now _)
    simp only [intarsiaref04_power.l0]
    rw [tmod8 hi, if_neg (by omega), e]
  | succ d ih =>
    intro c h hc
    refine Ev.step (f := fun k => intarsiaref04_power.l0 k i (maskB (c + 1)) ((c + 1 : Nat) : Int)) (fun k => ?_) (ih (c + 1) (by omega) (by omega))
    simp only [intarsiaref04_power.l0]
    rw [tmod8 hi, if_pos (by omega), mask_half (by omega), wrap_ok (by omega) (by omega)]
    rfl
theorem power_eq {i : Int} (hi : 0 ≤ i) : Ev (fun k => intarsiaref04_power.f k i) (maskB (i.toNat % 8)) := by
  have e : (128 : Int) = maskB 0 := by decide +kernel
  have := power_l0 hi (i.toNat % 8) 0 rfl (Nat.zero_le _)
  rw [← e] at this
  exact this
theorem ref_has_eq {l : List Int} (hl : Small l) (hb : Bytes l) (i : Int) (hi : i ≤ 9223372036854775807) : Ev (fun k => intarsiaref04_Has.f k l i) (hasL l i) := by
  have hs := hl
  unfold Small at hs
  by_cases h0 : 0 ≤ i
  · by_cases h : i < 8 * (l.length : Int)
    · refine Ev.congr (f := fun k => (intarsiaref04_power.f k i).bind fun t136 => (if t136 = 0 then (none) else (some ((((Int.tdiv (at_ l (i.toNat / 8)) t136) % 256) % 2) == 1)))) (fun k => ?_) (Ev.bind (power_eq h0) ?_)
      · unfold intarsiaref04_Has.f
        rw [if_pos h0, tdiv8 h0, wrap_ok (by omega) (by omega), if_pos (by omega), if_pos (by omega), rd_at]
      · rw [if_neg (mask_byte (Nat.mod_lt _ (by decide))), ref_bit (at_byte hb _) (Nat.mod_lt _ (by decide))]
        have e : hasL l i = bitB (at_ l (i.toNat / 8)) (i.toNat % 8) := by simp [hasL, hasN, h0]
        rw [← e]
        exact Ev.now _
    · refine Ev.congr (f := fun _ => some (hasL l i)) (fun k => ?_) (Ev.now _)
      unfold intarsiaref04_Has.f
      rw [if_pos h0, tdiv8 h0, wrap_ok (by omega) (by omega), if_neg (by omega)]
      unfold hasL
      rw [hasN_out (by omega)]; simp
  · refine Ev.congr (f := fun _ => some (hasL l i)) (fun k => ?_) (Ev.now _)
    unfold intarsiaref04_Has.f
    rw [if_neg h0]
    simp [hasL, h0]
end Go.Proofs.Ytgmkbcoahilkhaa.Plain
