/- The reference's With, Join and Less are the plain ones. -/
import Derived.Test.YtgmkbcoahilkhaaPlainB
namespace Go.Proofs.Ytgmkbcoahilkhaa.Plain
open Go.RowKit Go.Proofs.Ytgmkbcoahilkhaa.PAll Go.Proofs.YtgmkbcoahilkhaaW.PrintWords Go.Proofs.YtgmkbcoahilkhaaW.PrintLast Go.Proofs.YtgmkbcoahilkhaaW.PrintMore

theorem set_self {l : List Int} {n : Nat} (h : n < l.length) : l.set n (at_ l n) = l := by
  apply List.ext_getElem (by simp)
  intro i h1 h2
  rw [List.getElem_set]
  by_cases e : n = i
  · subst e; rw [if_pos rfl]; unfold at_; rw [getD_lt h]
  · rw [if_neg e]
theorem ref_with_eq {l : List Int} (hl : Small l) (hb : Bytes l) (i : Int) (hi : i ≤ 9223372036854775807) (on : Bool) : Ev (fun k => intarsiaref04_With.f k l i on) (withL l i on) := by
  have hs := hl
  unfold Small at hs
  have keep : Ev (fun k => intarsiaref04_With.j0 k i on l true) l := by
    refine Ev.step (f := fun _ => some l) (fun k => ?_) (Ev.now _)
    simp only [intarsiaref04_With.j0]
    rw [if_pos trivial]
  by_cases h : 0 ≤ i ∧ i < 8 * (l.length : Int)
  · refine Ev.congr (f := fun k => (intarsiaref04_Has.f k l i).bind fun t => intarsiaref04_With.j0 k i on l (t == on)) (fun k => ?_) (Ev.bind (ref_has_eq hl hb i hi) ?_)
    · unfold intarsiaref04_With.f
      simp only [Option.bind_some, List.length_nil, Nat.zero_add, List.nil_append]
      rw [if_pos (by omega), if_neg (by omega), tdiv8 h.1, wrap_ok (by omega) (by omega), if_neg (by omega)]
    · have hh : hasL l i = hasN l i.toNat := by simp [hasL, h.1]
      rw [hh]
      unfold withL
      rw [if_pos h]
      have hd : i.toNat / 8 < l.length := by omega
      have hx := at_byte hb (i.toNat / 8)
      have hm : i.toNat % 8 < 8 := Nat.mod_lt _ (by decide)
      obtain ⟨r1, r2, r3, r4⟩ := setB_ref hx hm
      by_cases e : hasN l i.toNat = on
      · have ew : withN l i.toNat on = l := by
          unfold withN
          unfold hasN at e
          cases on
          · rw [r4 e, set_self hd]
          · rw [r3 e, set_self hd]
        rw [e, ew]
        simpa using keep
      · have ef : (hasN l i.toNat == on) = false := by simpa using e
        rw [ef]
        cases on
        · refine Ev.step (f := fun k => (intarsiaref04_power.f k i).bind fun t => some (l.set (i.toNat / 8) ((at_ l (i.toNat / 8) - t) % 256))) (fun k => ?_) ?_
          · simp only [intarsiaref04_With.j0]
            rw [if_neg (by simp), if_neg (by simp), tdiv8 h.1, wrap_ok (by omega) (by omega), if_pos (by omega), if_pos (by omega), rd_at, Int.toNat_natCast]
          · refine Ev.bind (power_eq h.1) ?_
            have e2 : bitB (at_ l (i.toNat / 8)) (i.toNat % 8) = true := by unfold hasN at e; simpa using e
            rw [r2 e2]
            exact Ev.now _
        · refine Ev.step (f := fun k => (intarsiaref04_power.f k i).bind fun t => some (l.set (i.toNat / 8) ((at_ l (i.toNat / 8) + t) % 256))) (fun k => ?_) ?_
          · simp only [intarsiaref04_With.j0]
            rw [if_neg (by simp), if_pos trivial, tdiv8 h.1, wrap_ok (by omega) (by omega), if_pos (by omega), if_pos (by omega), rd_at, Int.toNat_natCast]
          · refine Ev.bind (power_eq h.1) ?_
            have e2 : bitB (at_ l (i.toNat / 8)) (i.toNat % 8) = false := by unfold hasN at e; simpa using e
            rw [r1 e2]
            exact Ev.now _
  · refine Ev.congr (f := fun k => intarsiaref04_With.j0 k i on l true) (fun k => ?_) ?_
    · unfold intarsiaref04_With.f
      simp only [Option.bind_some, List.length_nil, Nat.zero_add, List.nil_append]
      rw [if_pos (by omega)]
      by_cases h0 : i < 0
      · rw [if_pos h0]
      · rw [if_neg h0, tdiv8 (by omega), wrap_ok (by omega) (by omega), if_pos (by omega)]
    · unfold withL
      rw [if_neg h]
      exact keep
/-- A set of N bytes with the first n numbers of which p holds. -/
def accP (p : Nat → Bool) (N : Nat) : Nat → List Int
  | 0 => List.replicate N 0
  | n + 1 => if p n then withN (accP p N n) n true else accP p N n
theorem accP_length (p : Nat → Bool) (N n : Nat) : (accP p N n).length = N := by
  induction n with
  | zero => simp [accP]
  | succ n ih => simp only [accP]; split <;> simp [withN_length, ih]
theorem zeros_bytes (N : Nat) : Bytes (List.replicate N 0) := by
  intro x hx
  rw [(List.mem_replicate.1 hx).2]
  exact zero_byte
theorem accP_bytes (p : Nat → Bool) (N n : Nat) : Bytes (accP p N n) := by
  induction n with
  | zero => exact zeros_bytes N
  | succ n ih =>
    simp only [accP]
    split
    · exact withN_bytes ih _ _
    · exact ih
theorem hasN_zeros (N m : Nat) : hasN (List.replicate N 0) m = false := by
  unfold hasN at_
  have e : (List.replicate N (0 : Int)).getD (m / 8) 0 = 0 := by
    by_cases h : m / 8 < N
    · rw [getD_lt (by simpa using h)]; simp
    · rw [getD_ge (by simpa using h)]
  rw [e]
  exact zero_bit _
theorem accP_has (p : Nat → Bool) (N n : Nat) (h : n ≤ 8 * N) (m : Nat) : hasN (accP p N n) m = (decide (m < n) && p m) := by
  induction n with
  | zero => simp only [accP]; rw [hasN_zeros]; simp
  | succ n ih =>
    have ih := ih (by omega)
    simp only [accP]
    by_cases hp : p n = true
    · rw [if_pos hp, hasN_withN (accP_bytes p N n) n true (by rw [accP_length]; omega), ih]
      by_cases e : m = n
      · subst e; simp [hp]
      · rw [if_neg e]
        have : decide (m < n + 1) = decide (m < n) := by simp; omega
        rw [this]
    · rw [if_neg hp, ih]
      by_cases e : m = n
      · subst e; simp [hp]
      · have : decide (m < n + 1) = decide (m < n) := by simp; omega
        rw [this]
theorem accP_join {a b : List Int} (ha : Bytes a) (hb : Bytes b) : accP (fun m => hasN a m || hasN b m) (max a.length b.length) (8 * max a.length b.length) = Given.joinL Given.orB a b := by
  refine list_ext (accP_bytes _ _ _) (joinL_bytes (fun _ _ => or_byte) ha hb) (by rw [accP_length, Given.joinL_length]) (fun m hm => ?_)
  rw [accP_length] at hm
  rw [accP_has _ _ _ (Nat.le_refl _), hasN_join ha hb]
  simp [hm]
theorem accP_less {a b : List Int} (ha : Bytes a) (hb : Bytes b) : accP (fun m => hasN a m && !hasN b m) (max a.length b.length) (8 * max a.length b.length) = Given.joinL Given.andNotB a b := by
  refine list_ext (accP_bytes _ _ _) (joinL_bytes (fun _ _ => andNot_byte) ha hb) (by rw [accP_length, Given.joinL_length]) (fun m hm => ?_)
  rw [accP_length] at hm
  rw [accP_has _ _ _ (Nat.le_refl _), hasN_less ha hb]
  simp [hm]
theorem mx_len (a b : List Int) : mx (a.length : Int) (b.length : Int) = ((max a.length b.length : Nat) : Int) := by unfold mx; split <;> omega
theorem ref_join_eq {a b : List Int} (ha : Small a) (hb : Small b) (ba : Bytes a) (bb : Bytes b) : Ev (fun k => intarsiaref04_Join.f k a b) (Given.joinL Given.orB a b) := by
  have hs := ha
  have hs2 := hb
  unfold Small at hs hs2
  obtain ⟨N, hN⟩ : ∃ N, N = max a.length b.length := ⟨_, rfl⟩
  have key : ∀ d n : Nat, n ≤ 8 * N → 8 * N - n = d → Ev (fun k => intarsiaref04_Join.l0 k a b (accP (fun m => hasN a m || hasN b m) N n) (n : Int)) (Given.joinL Given.orB a b) := by
    intro d
    induction d with
    | zero =>
      intro n hn h
      have e : n = 8 * N := by omega
      refine Ev.step (f := fun _ => some (Given.joinL Given.orB a b)) (fun k => ?_) (Ev.now _)
      simp only [intarsiaref04_Join.l0]
      rw [accP_length, wrap_ok (by omega) (by omega), if_neg (by omega), e, hN, accP_join ba bb]
    | succ d ih =>
      intro n hn h
      have ih := ih (n + 1) (by omega) (by omega)
      have ew : wrap64 ((n : Int) + 1) = ((n + 1 : Nat) : Int) := by rw [wrap_ok (by omega) (by omega)]; rfl
      have sA : Small (accP (fun m => hasN a m || hasN b m) N n) := by unfold Small; rw [accP_length]; omega
      have hw := ref_with_eq sA (accP_bytes (fun m => hasN a m || hasN b m) N n) (n : Int) (by omega) true
      have ewl : withL (accP (fun m => hasN a m || hasN b m) N n) (n : Int) true = withN (accP (fun m => hasN a m || hasN b m) N n) n true := by
        unfold withL
        rw [if_pos (by rw [accP_length]; omega), Int.toNat_natCast]
      rw [ewl] at hw
      refine Ev.step (f := fun k => (intarsiaref04_Has.f k a (n : Int)).bind fun t192 => (if t192 = true then ((intarsiaref04_With.f k (accP (fun m => hasN a m || hasN b m) N n) (n : Int) true).bind fun t193 => (intarsiaref04_Join.l0 k a b t193 ((n + 1 : Nat) : Int))) else ((intarsiaref04_Has.f k b (n : Int)).bind fun t196 => (if t196 = true then ((intarsiaref04_With.f k (accP (fun m => hasN a m || hasN b m) N n) (n : Int) true).bind fun t197 => (intarsiaref04_Join.l0 k a b t197 ((n + 1 : Nat) : Int))) else (intarsiaref04_Join.l0 k a b (accP (fun m => hasN a m || hasN b m) N n) ((n + 1 : Nat) : Int)))))) (fun k => ?_) ?_
      · simp only [intarsiaref04_Join.l0]
        rw [accP_length, wrap_ok (n := 8 * (N : Int)) (by omega) (by omega), if_pos (by omega), ew]
      · refine Ev.bind (ref_has_eq ha ba _ (by omega)) ?_
        rw [hasL_nat]
        simp only [accP] at ih
        cases h1 : hasN a n
        · refine Ev.congr (f := fun k => (intarsiaref04_Has.f k b (n : Int)).bind fun t196 => (if t196 = true then ((intarsiaref04_With.f k (accP (fun m => hasN a m || hasN b m) N n) (n : Int) true).bind fun t197 => (intarsiaref04_Join.l0 k a b t197 ((n + 1 : Nat) : Int))) else (intarsiaref04_Join.l0 k a b (accP (fun m => hasN a m || hasN b m) N n) ((n + 1 : Nat) : Int)))) (fun k => if_neg (by simp)) ?_
          refine Ev.bind (ref_has_eq hb bb _ (by omega)) ?_
          rw [hasL_nat]
          cases h2 : hasN b n
          · rw [if_neg (by simp [h1, h2])] at ih
            exact Ev.congr (fun k => if_neg (by simp)) ih
          · rw [if_pos (by simp [h1, h2])] at ih
            exact Ev.congr (fun k => if_pos rfl) (Ev.bind hw ih)
        · rw [if_pos (by simp [h1])] at ih
          exact Ev.congr (fun k => if_pos rfl) (Ev.bind hw ih)
  have k0 := key _ 0 (Nat.zero_le _) rfl
  refine Ev.congr (fun k => ?_) k0
  unfold intarsiaref04_Join.f
  rw [mx_len, ← hN, if_pos (by omega), if_pos (by omega), Int.toNat_natCast]
  rfl
theorem ref_less_eq {a b : List Int} (ha : Small a) (hb : Small b) (ba : Bytes a) (bb : Bytes b) : Ev (fun k => intarsiaref04_Less.f k a b) (Given.joinL Given.andNotB a b) := by
  have hs := ha
  have hs2 := hb
  unfold Small at hs hs2
  obtain ⟨N, hN⟩ : ∃ N, N = max a.length b.length := ⟨_, rfl⟩
  have key : ∀ d n : Nat, n ≤ 8 * N → 8 * N - n = d → Ev (fun k => intarsiaref04_Less.l0 k a b (accP (fun m => hasN a m && !hasN b m) N n) (n : Int)) (Given.joinL Given.andNotB a b) := by
    intro d
    induction d with
    | zero =>
      intro n hn h
      have e : n = 8 * N := by omega
      refine Ev.step (f := fun _ => some (Given.joinL Given.andNotB a b)) (fun k => ?_) (Ev.now _)
      simp only [intarsiaref04_Less.l0]
      rw [accP_length, wrap_ok (by omega) (by omega), if_neg (by omega), e, hN, accP_less ba bb]
    | succ d ih =>
      intro n hn h
      have ih := ih (n + 1) (by omega) (by omega)
      have ew : wrap64 ((n : Int) + 1) = ((n + 1 : Nat) : Int) := by rw [wrap_ok (by omega) (by omega)]; rfl
      have sA : Small (accP (fun m => hasN a m && !hasN b m) N n) := by unfold Small; rw [accP_length]; omega
      have hw := ref_with_eq sA (accP_bytes (fun m => hasN a m && !hasN b m) N n) (n : Int) (by omega) true
      have ewl : withL (accP (fun m => hasN a m && !hasN b m) N n) (n : Int) true = withN (accP (fun m => hasN a m && !hasN b m) N n) n true := by
        unfold withL
        rw [if_pos (by rw [accP_length]; omega), Int.toNat_natCast]
      rw [ewl] at hw
      refine Ev.step (f := fun k => (intarsiaref04_Has.f k a (n : Int)).bind fun t203 => (if t203 = true then ((intarsiaref04_Has.f k b (n : Int)).bind fun t204 => (if t204 = true then (intarsiaref04_Less.l0 k a b (accP (fun m => hasN a m && !hasN b m) N n) ((n + 1 : Nat) : Int)) else ((intarsiaref04_With.f k (accP (fun m => hasN a m && !hasN b m) N n) (n : Int) true).bind fun t205 => (intarsiaref04_Less.l0 k a b t205 ((n + 1 : Nat) : Int))))) else (intarsiaref04_Less.l0 k a b (accP (fun m => hasN a m && !hasN b m) N n) ((n + 1 : Nat) : Int)))) (fun k => ?_) ?_
      · simp only [intarsiaref04_Less.l0]
        rw [accP_length, wrap_ok (n := 8 * (N : Int)) (by omega) (by omega), if_pos (by omega), ew]
      · refine Ev.bind (ref_has_eq ha ba _ (by omega)) ?_
        rw [hasL_nat]
        simp only [accP] at ih
        cases h1 : hasN a n
        · rw [if_neg (by simp [h1])] at ih
          exact Ev.congr (fun k => if_neg (by simp)) ih
        · refine Ev.congr (f := fun k => (intarsiaref04_Has.f k b (n : Int)).bind fun t204 => (if t204 = true then (intarsiaref04_Less.l0 k a b (accP (fun m => hasN a m && !hasN b m) N n) ((n + 1 : Nat) : Int)) else ((intarsiaref04_With.f k (accP (fun m => hasN a m && !hasN b m) N n) (n : Int) true).bind fun t205 => (intarsiaref04_Less.l0 k a b t205 ((n + 1 : Nat) : Int))))) (fun k => if_pos rfl) ?_
          refine Ev.bind (ref_has_eq hb bb _ (by omega)) ?_
          rw [hasL_nat]
          cases h2 : hasN b n
          · rw [if_pos (by simp [h1, h2])] at ih
            exact Ev.congr (fun k => if_neg (by simp)) (Ev.bind hw ih)
          · rw [if_neg (by simp [h1, h2])] at ih
            exact Ev.congr (fun k => if_pos rfl) ih
  have k0 := key _ 0 (Nat.zero_le _) rfl
  refine Ev.congr (fun k => ?_) k0
  unfold intarsiaref04_Less.f
  rw [mx_len, ← hN, if_pos (by omega), if_pos (by omega), Int.toNat_natCast]
  rfl
end Go.Proofs.Ytgmkbcoahilkhaa.Plain
