/- The lists, and the reference's functions of layer 4, are the plain ones. -/
import Derived.Test.YtgmkbcoahilkhaaPlainB
namespace Go.Proofs.Ytgmkbcoahilkhaa.Plain
open Go.RowKit Go.Proofs.Ytgmkbcoahilkhaa.PAll Go.Proofs.YtgmkbcoahilkhaaW.PrintWords Go.Proofs.YtgmkbcoahilkhaaW.PrintLast Go.Proofs.YtgmkbcoahilkhaaW.PrintMore

def listZ (l : List Int) : List Int := (listN l).map fun (n : Nat) => (n : Int)
theorem listZ_length (l : List Int) : (listZ l).length = countL l := by simp [listZ, listN_length]
def upto (l : List Int) (n : Nat) : List Int := ((List.range n).filter (hasN l)).map fun (n : Nat) => (n : Int)
theorem upto_length (l : List Int) (n : Nat) : (upto l n).length ≤ n := by
  unfold upto; rw [List.length_map]; exact Nat.le_trans (List.length_filter_le _ _) (by simp)
theorem upto_succ (l : List Int) (n : Nat) : upto l (n + 1) = if hasN l n then upto l n ++ [(n : Int)] else upto l n := by
  unfold upto
  rw [List.range_succ, List.filter_append, List.map_append]
  cases h : hasN l n <;> simp [h]
theorem list_l0 {l : List Int} (hl : Small l) (hb : Bytes l) (d : Nat) : ∀ n : Nat, n ≤ 8 * l.length → 8 * l.length - n = d → Ev (fun k => bits_List.l0 k l (upto l n) (8 * (l.length : Int)) (n : Int)) (listZ l) := by
  have hs := hl
  unfold Small at hs
  induction d with
  | zero =>
    intro n hn h
    have e : n = 8 * l.length := by omega
    refine Ev.step (f := fun _ => some (listZ l)) (fun k => ?_) (Ev.now _)
    simp only [bits_List.l0]
    rw [if_neg (by omega), e]
    rfl
  | succ d ih =>
    intro n hn h
    refine Ev.step (f := fun k => bits_List.l0 k l (upto l (n + 1)) (8 * (l.length : Int)) ((n + 1 : Nat) : Int)) (fun k => ?_) (ih (n + 1) (by omega) (by omega))
    simp only [bits_List.l0]
    have hu := upto_length l n
    rw [if_pos (by omega), has_eq hl hb, hasL_nat, upto_succ, wrap_ok (by omega) (by omega)]
    simp only [Option.bind_some]
    cases hasN l n
    · rfl
    · simp only [if_true]; rw [if_pos (by omega)]; rfl
theorem list_eq {l : List Int} (hl : Small l) (hb : Bytes l) : Ev (fun k => bits_List.f k l) (listZ l) := by
  have hs := hl
  unfold Small at hs
  refine Ev.congr (f := fun k => bits_List.l0 k l (upto l 0) (8 * (l.length : Int)) ((0 : Nat) : Int)) (fun k => ?_) (list_l0 hl hb _ 0 (Nat.zero_le _) rfl)
  unfold bits_List.f
  rw [wrap_ok (by omega) (by omega)]
  rfl
theorem ref_list_l0 {l : List Int} (hl : Small l) (hb : Bytes l) (d : Nat) : ∀ n : Nat, n ≤ 8 * l.length → 8 * l.length - n = d → Ev (fun k => intarsiaref04_List.l0 k l (upto l n) (n : Int)) (listZ l) := by
  have hs := hl
  unfold Small at hs
  induction d with
  | zero =>
    intro n hn h
    have e : n = 8 * l.length := by omega
    refine Ev.step (f := fun _ => some (listZ l)) (fun k => ?_) (Ev.now _)
    simp only [intarsiaref04_List.l0]
    rw [wrap_ok (by omega) (by omega), if_neg (by omega), e]
    rfl
  | succ d ih =>
    intro n hn h
    have hu := upto_length l n
    refine Ev.step (f := fun k => (intarsiaref04_Has.f k l (n : Int)).bind fun t144 => (if t144 = true then (if (upto l n).length < 17592186044416 then (intarsiaref04_List.l0 k l (upto l n ++ [(n : Int)]) (wrap64 ((n : Int) + 1))) else (none)) else (intarsiaref04_List.l0 k l (upto l n) (wrap64 ((n : Int) + 1))))) (fun k => ?_) ?_
    · simp only [intarsiaref04_List.l0]
      rw [wrap_ok (by omega) (by omega), if_pos (by omega)]
    · refine Ev.bind (ref_has_eq hl hb _ (by omega)) ?_
      rw [hasL_nat]
      have := ih (n + 1) (by omega) (by omega)
      rw [upto_succ] at this
      have e : wrap64 ((n : Int) + 1) = ((n + 1 : Nat) : Int) := by rw [wrap_ok (by omega) (by omega)]; rfl
      rw [e]
      cases hh : hasN l n
      · rw [hh] at this; simpa using this
      · rw [hh] at this; simp only [if_true] at this ⊢; exact Ev.congr (fun k => if_pos (by omega)) this
theorem ref_list_eq {l : List Int} (hl : Small l) (hb : Bytes l) : Ev (fun k => intarsiaref04_List.f k l) (listZ l) := ref_list_l0 hl hb _ 0 (Nat.zero_le _) rfl
theorem ref_first_l0 {l : List Int} (hl : Small l) (hb : Bytes l) (d : Nat) : ∀ n : Nat, 8 * l.length - n = d → n ≤ 9223372036854775807 → Ev (fun k => intarsiaref04_First.l0 k l (n : Int)) (firstN l d n) := by
  have hs := hl
  unfold Small at hs
  induction d with
  | zero =>
    intro n h hn
    refine Ev.step (f := fun _ => some (firstN l 0 n)) (fun k => ?_) (Ev.now _)
    simp only [intarsiaref04_First.l0]
    rw [wrap_ok (by omega) (by omega), if_neg (by omega)]
    rfl
  | succ d ih =>
    intro n h hn
    refine Ev.step (f := fun k => (intarsiaref04_Has.f k l (n : Int)).bind fun t137 => (if t137 = true then (intarsiaref04_First.l0 k l (wrap64 ((n : Int) + 1))) else (some ((n : Int), true)))) (fun k => ?_) ?_
    · simp only [intarsiaref04_First.l0]
      rw [wrap_ok (by omega) (by omega), if_pos (by omega)]
    · refine Ev.bind (ref_has_eq hl hb _ (by omega)) ?_
      rw [hasL_nat]
      have e : wrap64 ((n : Int) + 1) = ((n + 1 : Nat) : Int) := by rw [wrap_ok (by omega) (by omega)]; rfl
      rw [e]
      simp only [firstN]
      cases hasN l n
      · exact Ev.now _
      · simpa using ih (n + 1) (by omega) (by omega)
theorem ref_first_eq {l : List Int} (hl : Small l) (hb : Bytes l) (i : Int) (h1 : i ≤ 9223372036854775807) : Ev (fun k => intarsiaref04_First.f k l i) (firstL l i) := by
  refine Ev.congr (f := fun k => intarsiaref04_First.l0 k l ((i.toNat : Nat) : Int)) (fun k => ?_) (ref_first_l0 hl hb _ _ rfl (by omega))
  unfold intarsiaref04_First.f
  have e : mx 0 i = (i.toNat : Int) := by unfold mx; split <;> omega
  rw [e]
theorem ref_make_eq (n : Int) : intarsiaref04_Make.f n = some (List.replicate (Given.clampN n) 0) := by
  unfold intarsiaref04_Make.f
  have e : (((mx 0 (mn n 4096)) + 7) / 8 : Int) = ((Given.clampN n : Nat) : Int) := by
    unfold mx mn Given.clampN; repeat' split
    all_goals omega
  have b : Given.clampN n ≤ 1000 := by unfold Given.clampN; repeat' split <;> omega
  rw [e, if_pos (by omega), if_pos (by omega), Int.toNat_natCast]
theorem same_l0 {l : List Int} (hl : l.length ≤ 9223372036854775807) (d : Nat) : ∀ n : Nat, n ≤ l.length → l.length - n = d → Ev (fun k => intarsialaw04_sameInts.l0 k l l (n : Int)) true := by
  induction d with
  | zero =>
    intro n hn h
    refine Ev.step (f := fun _ => some true) (fun k => ?_) (Ev.now _)
    simp only [intarsialaw04_sameInts.l0]
    rw [if_neg (by omega)]
  | succ d ih =>
    intro n hn h
    refine Ev.step (f := fun k => intarsialaw04_sameInts.l0 k l l ((n + 1 : Nat) : Int)) (fun k => ?_) (ih (n + 1) (by omega) (by omega))
    simp only [intarsialaw04_sameInts.l0]
    rw [if_pos (by omega), if_pos (by omega), if_pos (by omega), if_pos trivial, wrap_ok (by omega) (by omega)]
    rfl
theorem same_eq {l : List Int} (hl : l.length ≤ 9223372036854775807) : Ev (fun k => intarsialaw04_sameInts.f k l l) true := by
  refine Ev.congr (f := fun k => intarsialaw04_sameInts.l0 k l l ((0 : Nat) : Int)) (fun k => ?_) (same_l0 hl _ 0 (Nat.zero_le _) rfl)
  unfold intarsialaw04_sameInts.f
  rw [if_pos rfl]
  rfl
end Go.Proofs.Ytgmkbcoahilkhaa.Plain
