/- A number that is put into a set of bits is in, and one that is taken away is not; no other one changes: for every input. -/
import Derived.Test.YtgmkbcoahilkhaaPlainB
namespace Go.Proofs.Ytgmkbcoahilkhaa.Pure
open Go.RowKit Go.Proofs.Ytgmkbcoahilkhaa.PAll Go.Proofs.YtgmkbcoahilkhaaW.PrintWords Go.Proofs.YtgmkbcoahilkhaaW.PrintLast
open Go.Proofs.Ytgmkbcoahilkhaa.Plain

theorem awake40 : intarsialaw04_awake.f 40 = some true := by decide +kernel
theorem awake_ev : Ev (fun k => intarsialaw04_awake.f k) true := Ev.of intarsialaw04_awake.mono awake40
theorem wf_byte {x : Int} (h : (Lit.int .u8 x).wf = true) : IsByte x := by
  simp only [Lit.wf, IntKind.min, IntKind.max, IntKind.signed, IntKind.bits, Bool.and_eq_true] at h
  obtain ⟨h0, h1⟩ := h
  exact ⟨by simpa using h0, by simp at h1; omega⟩
theorem wf_u16 {x : Int} (h : (Lit.int .u16 x).wf = true) : 0 ≤ x ∧ x ≤ 65535 := by
  simp only [Lit.wf, IntKind.min, IntKind.max, IntKind.signed, IntKind.bits, Bool.and_eq_true] at h
  obtain ⟨h0, h1⟩ := h
  exact ⟨by simpa using h0, by simp at h1; omega⟩
theorem loop {l : List Int} (hl : Small l) (hb : Bytes l) (on : Bool) (m : Nat) (hm : m < 8 * l.length) (d : Nat) : ∀ n : Nat, n ≤ 8 * l.length → 8 * l.length - n = d → Ev (fun k => intarsialaw04_BitsWith.l0 k l on (m : Int) (withN l m on) (n : Int)) true := by
  have hs := hl
  unfold Small at hs
  have hl2 : Small (withN l m on) := by unfold Small; rw [withN_length]; exact hl
  have hb2 := withN_bytes hb m on
  induction d with
  | zero =>
    intro n hn h
    refine Ev.step (f := fun k => (intarsialaw04_awake.f k).bind fun t => some t) (fun k => ?_) (Ev.bind awake_ev (Ev.now _))
    simp only [intarsialaw04_BitsWith.l0]
    rw [wrap_ok (by omega) (by omega), if_neg (by omega), if_pos (by rw [withN_length])]
  | succ d ih =>
    intro n hn h
    refine Ev.step (f := fun k => intarsialaw04_BitsWith.l0 k l on (m : Int) (withN l m on) ((n + 1 : Nat) : Int)) (fun k => ?_) (ih (n + 1) (by omega) (by omega))
    simp only [intarsialaw04_BitsWith.l0]
    rw [wrap_ok (by omega) (by omega), if_pos (by omega)]
    by_cases e : n = m
    · subst e
      rw [if_pos rfl, has_eq hl2 hb2, hasL_nat, hasN_withN hb n on hm, if_pos rfl]
      simp only [Option.bind_some, bne_self_eq_false, Bool.false_eq_true, if_false]
      rw [wrap_ok (by omega) (by omega)]
      rfl
    · rw [if_neg (by omega), has_eq hl2 hb2, has_eq hl hb, hasL_nat, hasL_nat, hasN_withN hb m on hm, if_neg e]
      simp only [Option.bind_some, bne_self_eq_false, Bool.false_eq_true, if_false]
      rw [wrap_ok (by omega) (by omega)]
      rfl
theorem BitsWith : intarsialaw04_BitsWith.Pure := by
  intro l a1 a2 _ _ hb0 ha
  have hb : Bytes l := fun x hx => wf_byte (hb0 x hx)
  obtain ⟨h0, h1⟩ := wf_u16 ha
  have aw : Ev (fun k => intarsialaw04_BitsWith.j0 k l a1 a2 true) true := by
    refine Ev.step (f := fun k => (intarsialaw04_awake.f k).bind fun t => some t) (fun k => ?_) (Ev.bind awake_ev (Ev.now _))
    simp only [intarsialaw04_BitsWith.j0]
    rw [if_pos trivial]
  refine Ev.rounds (g := fun k => intarsialaw04_BitsWith.f k l a1 a2) ?_
  by_cases h40 : (l.length : Int) > 40
  · refine Ev.congr (f := fun k => intarsialaw04_BitsWith.j0 k l a1 a2 true) (fun k => ?_) aw
    unfold intarsialaw04_BitsWith.f
    rw [if_pos h40]
  · have hl : Small l := by unfold Small; omega
    by_cases hz : l.length = 0
    · refine Ev.congr (f := fun k => intarsialaw04_BitsWith.j0 k l a1 a2 true) (fun k => ?_) aw
      unfold intarsialaw04_BitsWith.f
      rw [if_neg h40, hz]
      rfl
    · have hw : wrap64 (8 * (l.length : Int)) = 8 * (l.length : Int) := wrap_ok (by omega) (by omega)
      obtain ⟨m, hm⟩ : ∃ m : Nat, Int.tmod a1 (8 * (l.length : Int)) = (m : Int) := ⟨(Int.tmod a1 (8 * (l.length : Int))).toNat, by
        rw [Int.tmod_eq_emod_of_nonneg h0]
        have := Int.emod_nonneg a1 (show 8 * (l.length : Int) ≠ 0 by omega)
        omega⟩
      have hlt : m < 8 * l.length := by
        rw [Int.tmod_eq_emod_of_nonneg h0] at hm
        have := Int.emod_lt_of_pos a1 (show 0 < 8 * (l.length : Int) by omega)
        omega
      refine Ev.congr (f := fun k => intarsialaw04_BitsWith.j0 k l a1 a2 false) (fun k => ?_) ?_
      · unfold intarsialaw04_BitsWith.f
        rw [if_neg h40]
        congr 1
        simpa using hz
      · refine Ev.step (f := fun k => intarsialaw04_BitsWith.l0 k l a2 (m : Int) (withN l m a2) ((0 : Nat) : Int)) (fun k => ?_) (loop hl hb a2 m hlt _ 0 (Nat.zero_le _) rfl)
        simp only [intarsialaw04_BitsWith.j0]
        rw [if_neg (by simp), hw, if_neg (by omega), wrap_ok (n := a1) (by omega) (by omega), hm, with_eq hl]
        simp only [Option.bind_some]
        unfold withL
        rw [if_pos (by omega), Int.toNat_natCast]
        rfl
end Go.Proofs.Ytgmkbcoahilkhaa.Pure
