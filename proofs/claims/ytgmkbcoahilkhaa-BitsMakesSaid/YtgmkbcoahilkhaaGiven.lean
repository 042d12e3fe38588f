/- Contracts by hand, for the functions of layer 4 that the kit's print doesn't tell: bytes.Clone, bits.Join, bits.Less (through bits.both and its closures). -/
import Derived.Test.YtgmkbcoahilkhaaProg
import Derived.WalkKit
import Derived.WalkSpells
import Derived.Test.YtgmkbcoahilkhaaWWords
import Derived.Test.YtgmkbcoahilkhaaWLast
import Derived.Test.YtgmkbcoahilkhaaWMore
import Derived.Deep.QuietTactic
import Derived.BigQuiet
import Derived.Laws.BitsLemmas
namespace Go.Proofs.Ytgmkbcoahilkhaa.Given
open Go.RowKit Go.Proofs.YtgmkbcoahilkhaaW.PrintWords Go.Proofs.YtgmkbcoahilkhaaW.PrintLast Go.Proofs.YtgmkbcoahilkhaaW.PrintMore

theorem info5 : (Try.prog.info? 5).map (fun i => (i.zero, i.size, i.bytes)) = some (some (.int .u8 0), 1, 1) := by kernel_rfl

theorem eql_nil (w : World) (a : Option Addr) (n c n' c' : Nat) : (binOp .eql 22 (.slice a n c) (.slice none n' c')).run Try.prog w = .ok (.bool a.isNone) w :=
  Lib.run_eql_slice_nil w _ _ a n c n' c' Try.underlying22

set_option maxHeartbeats 2000000 in
set_option maxRecDepth 100000 in
theorem clone_any (A0 : Option Addr) (c0 : Nat) (l0 : List Int) (w : World) (hr0 : Kd.C (Kd.int .u8) w A0 l0.length l0) (hc0 : l0.length ≤ c0) (hl : l0.length < 140737488355328) :
    Calls Try.prog 25 #[.slice A0 l0.length c0] w fun e w' => ∃ v0_ : Value, e = .returned (v0_) ∧ Kd.R (Kd.int .u8) 5 w' w.heap.size (fun _ => True) v0_ l0 ∧ Below w.heap.size w w' := by
  have HR0 := Aside0.mk hr0
  have HC0 := Aside0.mk hc0
  clear hr0 hc0
  have HB := Aside0.mk (Below.refl w.heap.size w)
  cases A0 with
  | none =>
    have q22 := eql_nil
    have hz : l0 = [] := by
      cases l0 with
      | nil => rfl
      | cons x xs =>
        obtain ⟨ad, h, _⟩ := Kd.at_int HR0.out 0 (by omega) (by simp only [List.length_cons]; omega)
        cases h
    subst hz
    go_enter Try.func25, Try.ntmps25
    go_wp2
    go_ret
    exact ⟨_, rfl, Kd.R_nil _ _ _ _ _, Below.refl _ _⟩
  | some a =>
    have q22 := eql_nil
    have LM := Aside0.mk hl
    clear hl
    obtain ⟨y114, hy114⟩ : ∃ y_ : List Int, y_ = (([] : List Int)) := ⟨_, rfl⟩
    have Ny114 := Aside0.mk hy114
    clear hy114
    have LM2 : Aside0 (y114.length + l0.length < 140737488355328) := ⟨by rw [Ny114.out]; simpa using LM.out⟩
    obtain ⟨y117, hy117⟩ : ∃ y_ : List Int, y_ = (y114 ++ l0) := ⟨_, rfl⟩
    have Ny117 := Aside0.mk hy117
    clear hy117
    go_enter Try.func25, Try.ntmps25
    go_wp2_with (first | ((with_reducible refine gate_dst (N := 5) rfl ?_); refine Kd.R_lit (Kd.int .u8) _ 5 ?hg (N := 5) ?hd (xs := ([] : List Int)) (inner := []) (ok := fun _ => True) (okp := fun _ => True) ?hr ?hp (fun _ hk => hk) trivial (Below.refl _ _) (Nat.le_refl _) (by simp) ?_; (case hd => rfl); (case hg => rfl); (case hr => first | (go_simp; done) | (go_simp; rfl)); (case hp => exact (Reps.none _ _)); intro v115 w6 ho7 hb hg_ hnew_; clear hg_ hnew_; rw [← Ny114.out] at ho7; have HO116 := Aside0.mk ho7; clear HB; have HB := Aside0.mk hb; clear hb ho7) | ((with_reducible refine gate_builtin (b := .append) (xs := #[.tmp 5, .tmp 6]) rfl ?_); at_builtin; refine Kd.R_append_rows (Kd.int .u8) (w0 := w) w.heap.size rfl (.tmp 5) (.tmp 6) 22 5 (.int .u8 0) 1 rfl Try.underlying22 info5 rfl (by decide) (by omega) v115 y114 l0 _ _ _ (fun _ => True) (fun _ => False) rfl rfl ?aO ?aR (fun _ _ h => h) (fun _ h => h.elim) ?aF ?aB ?aS ?aL ?_; (case aR => exact (Kd.C_below HR0.out HB.out)); (case aB => exact HB.out); (case aF => exact (fun _ _ => trivial)); (case aO => exact HO116.out); (case aS => exact (below_size HB.out)); (case aL => have := LM2.out; omega); intro v118 w8 ho hb hg hat; rw [← Ny117.out] at ho; clear HB; clear HO116; have HB := Aside0.mk hb; have HO119 := Aside0.mk ho; clear ho hb hg hat))
    go_ret
    refine ⟨_, rfl, ?_, HB.out⟩
    have e := Ny117.out
    rw [Ny114.out, List.nil_append] at e
    rw [← e]
    exact HO119.out

/-- Two sets, byte by byte, made one. -/
def joinL (g : Int → Int → Int) (a b : List Int) : List Int := (List.range (max a.length b.length)).map fun i => g (a.getD i 0) (b.getD i 0)
theorem joinL_length (g : Int → Int → Int) (a b : List Int) : (joinL g a b).length = max a.length b.length := by simp [joinL]
/-- After j rounds: the first j bytes are made, the others are 0. -/
def preL (g : Int → Int → Int) (a b : List Int) (j : Nat) : List Int := (joinL g a b).take j ++ List.replicate (max a.length b.length - j) 0
theorem preL_length (g : Int → Int → Int) (a b : List Int) (j : Nat) (h : j ≤ max a.length b.length) : (preL g a b j).length = max a.length b.length := by
  simp only [preL, List.length_append, List.length_take, List.length_replicate, joinL_length]; omega
theorem preL_zero (g : Int → Int → Int) (a b : List Int) : preL g a b 0 = List.replicate (max a.length b.length) 0 := by simp [preL]
theorem preL_end (g : Int → Int → Int) (a b : List Int) : preL g a b (max a.length b.length) = joinL g a b := by
  simp [preL, List.take_of_length_le, joinL_length]
theorem preL_set (g : Int → Int → Int) (a b : List Int) (j : Nat) (h : j < max a.length b.length) : (preL g a b j).set j (g (a.getD j 0) (b.getD j 0)) = preL g a b (j + 1) := by
  have hl := joinL_length g a b
  apply List.ext_getElem?
  intro i
  by_cases hi : i = j
  · subst hi
    rw [List.getElem?_set_self (by rw [preL_length g a b i (by omega)]; exact h)]
    rw [preL, List.getElem?_append_left (by simp [hl]; omega), List.getElem?_take_of_lt (by omega)]
    simp [joinL, h]
  · rw [List.getElem?_set_ne (fun e => hi e.symm)]
    unfold preL
    by_cases hlt : i < j
    · rw [List.getElem?_append_left (by simp [hl]; omega), List.getElem?_append_left (by simp [hl]; omega), List.getElem?_take_of_lt (by omega), List.getElem?_take_of_lt (by omega)]
    · rw [List.getElem?_append_right (by simp [hl]; omega), List.getElem?_append_right (by simp [hl]; omega)]
      simp only [List.length_take, hl, List.getElem?_replicate]
      have e1 : min j (max a.length b.length) = j := by omega
      have e2 : min (j + 1) (max a.length b.length) = j + 1 := by omega
      rw [e1, e2]
      have e3 : (i - j < max a.length b.length - j) ↔ (i - (j + 1) < max a.length b.length - (j + 1)) := by omega
      by_cases hq : i - j < max a.length b.length - j
      · rw [if_pos hq, if_pos (e3.1 hq)]
      · rw [if_neg hq, if_neg (fun h => hq (e3.2 h))]

def orB (x y : Int) : Int := Go.bits .or .u8 x y
def andNotB (x y : Int) : Int := Go.bits .andNot .u8 x y
set_option maxHeartbeats 400000 in
theorem one_or (x y : Int) (w : World) : Calls Try.prog 30 #[.int .u8 x, .int .u8 y] w fun e w' => e = .returned (.int .u8 (orB x y)) ∧ w = w' := by
  go_enter Try.func30, Try.ntmps30
  go_wp2
  go_ret
  exact ⟨rfl, rfl⟩
set_option maxHeartbeats 400000 in
theorem one_andNot (x y : Int) (w : World) : Calls Try.prog 31 #[.int .u8 x, .int .u8 y] w fun e w' => e = .returned (.int .u8 (andNotB x y)) ∧ w = w' := by
  go_enter Try.func31, Try.ntmps31
  go_wp2
  go_ret
  exact ⟨rfl, rfl⟩
attribute [local go_sem] max2_int max_two
set_option maxHeartbeats 4000000 in
set_option maxRecDepth 100000 in
theorem both_or (A0 : Option Addr) (c0 : Nat) (l0 : List Int) (A1 : Option Addr) (c1 : Nat) (l1 : List Int) (w : World) (hr0 : Kd.C (Kd.int .u8) w A0 l0.length l0) (hr1 : Kd.C (Kd.int .u8) w A1 l1.length l1) (hl0 : l0.length < 140737488355328) (hl1 : l1.length < 140737488355328) :
    Calls Try.prog 29 #[.slice A0 l0.length c0, .slice A1 l1.length c1, .func (.func 30) #[] #[]] w fun e w' => ∃ v0_ : Value, e = .returned (v0_) ∧ Kd.R (Kd.int .u8) 5 w' w.heap.size (fun _ => True) v0_ (joinL orB l0 l1) ∧ Below w.heap.size w w' := by
  have HR0 := Aside0.mk hr0
  have HR1 := Aside0.mk hr1
  clear hr0 hr1
  have HB := Aside0.mk (Below.refl w.heap.size w)
  obtain ⟨N, hN⟩ : ∃ N : Nat, N = max l0.length l1.length := ⟨_, rfl⟩
  have LN : Aside0 (N < 140737488355328) := ⟨by omega⟩
  have hmx : (if (l0.length : Int) < (l1.length : Int) then (l1.length : Int) else (l0.length : Int)) = (N : Int) := by split <;> omega
  have hmy : (if l0.length < l1.length then (l1.length : Int) else (l0.length : Int)) = (N : Int) := by split <;> omega
  have NN := Aside0.mk hN
  have b0 : (0 : Int) ≤ (N : Int) := by omega
  have b1 : (N : Int) ≤ 140737488355328 := by have := LN.out; omega
  clear hN hl0 hl1
  go_enter Try.func29, Try.ntmps29
  go_wp2_with ((with_reducible refine gate_dst (N := 16) rfl ?_); refine Kd.R_make (Kd.int .u8) _ 5 rfl (N := 16) rfl 22 _ _ rfl (N : Int) rfl rfl Try.underlying22 (.int .u8 0) 1 info5 rfl (by decide) (by omega) 0 (ok := fun _ => True) (okp := fun _ => True) rfl (fun _ hk => hk) trivial (by omega) (by have := LN.out; simp only [Int.toNat_natCast]; omega) (Below.refl _ _) (Nat.le_refl _) ?_; intro v107 w7 ho8 hb hg_ hnew_; clear hg_ hnew_; simp only [Int.toNat_natCast] at ho8; clear HB; have HB := Aside0.mk hb; have HO := Aside0.mk ho8; clear ho8 hb; obtain ⟨Av, cv, rfl⟩ := Kd.R_slice HO.out; have hlen : (List.replicate N (0 : Int)).length = N := List.length_replicate; rw [hlen] at HO; rw [hlen]; clear hlen)
  clear hmx hmy
  go_loopw [19] (fun v19 wr => ∃ j : Nat, v19 = .int .i64 (j : Int) ∧ Aside0 (j ≤ N) ∧ Aside0 (Kd.R (Kd.int .u8) 5 wr w.heap.size (fun _ => True) (.slice Av N cv) (preL orB l0 l1 j)) ∧ Aside0 (Below w.heap.size w wr)) (fun v19 _ => N - (intOf v19).toNat)
  case atStart => exact ⟨0, by first | rfl | simp, ⟨Nat.zero_le _⟩, ⟨by have e := preL_zero orB l0 l1; rw [← NN.out] at e; rw [e]; exact HO.out⟩, HB⟩
  case round =>
    obtain ⟨j, rfl, hj, hO, hB⟩ := hrel
    clear HB HO
    by_cases hjN : j < N
    · have hlen : (preL orB l0 l1 j).length = N := by have e := preL_length orB l0 l1 j; rw [← NN.out] at e; exact e hj.out
      obtain ⟨g, cap, he, hg⟩ := Kd.R_form hO.out (by omega)
      rw [hlen] at he
      simp only [Value.slice.injEq, true_and] at he
      obtain ⟨rfl, rfl⟩ := he
      have hO2 := hO.out
      rw [← hlen] at hO2
      obtain ⟨hcell, hfr⟩ := Kd.R_cell (0 : Int) hO2 (j : Int) (by omega) (by omega)
      simp only [Int.toNat_natCast] at hcell hfr
      have hput := Aside0.mk (Kd.R_put hO2 (j : Int) (orB (l0.getD j 0) (l1.getD j 0)))
      clear hO2
      clear hg
      have HL := Aside0.mk hlen
      clear hlen
      have q0 : Aside0 (∀ h : j < l0.length, ∃ ad, A0 = some ad ∧ wr.cell? (ad.add j) = some (.int .u8 (l0.getD j 0))) := ⟨fun h => by
        obtain ⟨ad, ha, hc⟩ := Kd.at_int (Kd.C_below HR0.out hB.out) (j : Int) (by omega) (by omega)
        exact ⟨ad, ha, by simpa [rd] using hc⟩⟩
      have q1 : Aside0 (∀ h : j < l1.length, ∃ ad, A1 = some ad ∧ wr.cell? (ad.add j) = some (.int .u8 (l1.getD j 0))) := ⟨fun h => by
        obtain ⟨ad, ha, hc⟩ := Kd.at_int (Kd.C_below HR1.out hB.out) (j : Int) (by omega) (by omega)
        exact ⟨ad, ha, by simpa [rd] using hc⟩⟩
      obtain ⟨x, hx⟩ : ∃ x, x = l0.getD j 0 := ⟨_, rfl⟩
      obtain ⟨y, hy⟩ : ∃ y, y = l1.getD j 0 := ⟨_, rfl⟩
      rw [← hx] at q0 hput
      rw [← hy] at q1 hput
      have fin : Aside0 (∀ wz, wz = wr.setCell ⟨g, j, none⟩ (.int .u8 (orB x y)) → Kd.R (Kd.int .u8) 5 wz w.heap.size (fun _ => True) (.slice (some ⟨g, 0, none⟩) N cv) (preL orB l0 l1 (j + 1)) ∧ Below w.heap.size w wz) := ⟨by
        rintro wz rfl
        obtain ⟨h1, h2⟩ := hput.out
        have e := preL_set orB l0 l1 j (by have := NN.out; omega)
        rw [← hx, ← hy] at e
        simp only [Int.toNat_natCast] at h1 h2
        rw [HL.out, e] at h1
        refine ⟨h1, hB.out.grown h2 hB.out.size ?_⟩
        intro k hk
        have := Kd.R_base hO.out k (by simpa [Value.ownBlock] using hk)
        exact this⟩
      have hx' : Aside0 (¬ j < l0.length → x = 0) := ⟨fun h => by rw [hx]; simp [List.getD, List.getElem?_eq_none (show l0.length ≤ j by omega)]⟩
      have hy' : Aside0 (¬ j < l1.length → y = 0) := ⟨fun h => by rw [hy]; simp [List.getD, List.getElem?_eq_none (show l1.length ≤ j by omega)]⟩
      clear hx hy hput HL hcell
      obtain ⟨cv', hcell⟩ : ∃ v, wr.cell? ⟨g, j, none⟩ = some v := ⟨_, (Kd.R_cell (0 : Int) (by have e := preL_length orB l0 l1 j; rw [← NN.out] at e; have h := hO.out; rw [← e hj.out] at h; exact h) (j : Int) (by omega) (by have e := preL_length orB l0 l1 j; rw [← NN.out] at e; rw [e hj.out]; omega)).1⟩
      have b2 : (j : Int) < (N : Int) := by omega
      clear hjN
      by_cases h0 : j < l0.length
      all_goals by_cases h1 : j < l1.length
      · obtain ⟨a0, rfl, hc0⟩ := q0.out h0
        obtain ⟨a1, rfl, hc1⟩ := q1.out h1
        have t0 : (j : Int) < (l0.length : Int) := by omega
        have t1 : (j : Int) < (l1.length : Int) := by omega
        clear h0 h1
        go_wp2_with (go_at_call 30; refine (one_or _ _ _).mono ?_; rintro e w' ⟨rfl, rfl⟩)
        go_roundw
        case rel => obtain ⟨f1, f2⟩ := fin.out _ rfl; exact ⟨j + 1, by go_num, ⟨by omega⟩, ⟨f1⟩, ⟨f2⟩⟩
        case measure => simp [intOf]; omega
      · obtain ⟨a0, rfl, hc0⟩ := q0.out h0
        obtain rfl := hy'.out h1
        have t0 : (j : Int) < (l0.length : Int) := by omega
        have t1 : ¬ (j : Int) < (l1.length : Int) := by omega
        clear h0 h1
        go_wp2_with (go_at_call 30; refine (one_or _ _ _).mono ?_; rintro e w' ⟨rfl, rfl⟩)
        go_roundw
        case rel => obtain ⟨f1, f2⟩ := fin.out _ rfl; exact ⟨j + 1, by go_num, ⟨by omega⟩, ⟨f1⟩, ⟨f2⟩⟩
        case measure => simp [intOf]; omega
      · obtain ⟨a1, rfl, hc1⟩ := q1.out h1
        obtain rfl := hx'.out h0
        have t0 : ¬ (j : Int) < (l0.length : Int) := by omega
        have t1 : (j : Int) < (l1.length : Int) := by omega
        clear h0 h1
        go_wp2_with (go_at_call 30; refine (one_or _ _ _).mono ?_; rintro e w' ⟨rfl, rfl⟩)
        go_roundw
        case rel => obtain ⟨f1, f2⟩ := fin.out _ rfl; exact ⟨j + 1, by go_num, ⟨by omega⟩, ⟨f1⟩, ⟨f2⟩⟩
        case measure => simp [intOf]; omega
      · have := NN.out
        omega
    · have e : j = N := by have := hj.out; omega
      have b2 : ¬ (j : Int) < (N : Int) := by omega
      have E := Aside0.mk e
      clear e hjN
      go_wp2
      go_ret
      refine ⟨_, rfl, ?_, hB.out⟩
      have e := preL_end orB l0 l1
      rw [← NN.out] at e
      have h := hO.out
      rw [E.out, e] at h
      exact h
set_option maxHeartbeats 4000000 in
set_option maxRecDepth 100000 in
theorem both_andNot (A0 : Option Addr) (c0 : Nat) (l0 : List Int) (A1 : Option Addr) (c1 : Nat) (l1 : List Int) (w : World) (hr0 : Kd.C (Kd.int .u8) w A0 l0.length l0) (hr1 : Kd.C (Kd.int .u8) w A1 l1.length l1) (hl0 : l0.length < 140737488355328) (hl1 : l1.length < 140737488355328) :
    Calls Try.prog 29 #[.slice A0 l0.length c0, .slice A1 l1.length c1, .func (.func 31) #[] #[]] w fun e w' => ∃ v0_ : Value, e = .returned (v0_) ∧ Kd.R (Kd.int .u8) 5 w' w.heap.size (fun _ => True) v0_ (joinL andNotB l0 l1) ∧ Below w.heap.size w w' := by
  have HR0 := Aside0.mk hr0
  have HR1 := Aside0.mk hr1
  clear hr0 hr1
  have HB := Aside0.mk (Below.refl w.heap.size w)
  obtain ⟨N, hN⟩ : ∃ N : Nat, N = max l0.length l1.length := ⟨_, rfl⟩
  have LN : Aside0 (N < 140737488355328) := ⟨by omega⟩
  have hmx : (if (l0.length : Int) < (l1.length : Int) then (l1.length : Int) else (l0.length : Int)) = (N : Int) := by split <;> omega
  have hmy : (if l0.length < l1.length then (l1.length : Int) else (l0.length : Int)) = (N : Int) := by split <;> omega
  have NN := Aside0.mk hN
  have b0 : (0 : Int) ≤ (N : Int) := by omega
  have b1 : (N : Int) ≤ 140737488355328 := by have := LN.out; omega
  clear hN hl0 hl1
  go_enter Try.func29, Try.ntmps29
  go_wp2_with ((with_reducible refine gate_dst (N := 16) rfl ?_); refine Kd.R_make (Kd.int .u8) _ 5 rfl (N := 16) rfl 22 _ _ rfl (N : Int) rfl rfl Try.underlying22 (.int .u8 0) 1 info5 rfl (by decide) (by omega) 0 (ok := fun _ => True) (okp := fun _ => True) rfl (fun _ hk => hk) trivial (by omega) (by have := LN.out; simp only [Int.toNat_natCast]; omega) (Below.refl _ _) (Nat.le_refl _) ?_; intro v107 w7 ho8 hb hg_ hnew_; clear hg_ hnew_; simp only [Int.toNat_natCast] at ho8; clear HB; have HB := Aside0.mk hb; have HO := Aside0.mk ho8; clear ho8 hb; obtain ⟨Av, cv, rfl⟩ := Kd.R_slice HO.out; have hlen : (List.replicate N (0 : Int)).length = N := List.length_replicate; rw [hlen] at HO; rw [hlen]; clear hlen)
  clear hmx hmy
  go_loopw [19] (fun v19 wr => ∃ j : Nat, v19 = .int .i64 (j : Int) ∧ Aside0 (j ≤ N) ∧ Aside0 (Kd.R (Kd.int .u8) 5 wr w.heap.size (fun _ => True) (.slice Av N cv) (preL andNotB l0 l1 j)) ∧ Aside0 (Below w.heap.size w wr)) (fun v19 _ => N - (intOf v19).toNat)
  case atStart => exact ⟨0, by first | rfl | simp, ⟨Nat.zero_le _⟩, ⟨by have e := preL_zero andNotB l0 l1; rw [← NN.out] at e; rw [e]; exact HO.out⟩, HB⟩
  case round =>
    obtain ⟨j, rfl, hj, hO, hB⟩ := hrel
    clear HB HO
    by_cases hjN : j < N
    · have hlen : (preL andNotB l0 l1 j).length = N := by have e := preL_length andNotB l0 l1 j; rw [← NN.out] at e; exact e hj.out
      obtain ⟨g, cap, he, hg⟩ := Kd.R_form hO.out (by omega)
      rw [hlen] at he
      simp only [Value.slice.injEq, true_and] at he
      obtain ⟨rfl, rfl⟩ := he
      have hO2 := hO.out
      rw [← hlen] at hO2
      obtain ⟨hcell, hfr⟩ := Kd.R_cell (0 : Int) hO2 (j : Int) (by omega) (by omega)
      simp only [Int.toNat_natCast] at hcell hfr
      have hput := Aside0.mk (Kd.R_put hO2 (j : Int) (andNotB (l0.getD j 0) (l1.getD j 0)))
      clear hO2
      clear hg
      have HL := Aside0.mk hlen
      clear hlen
      have q0 : Aside0 (∀ h : j < l0.length, ∃ ad, A0 = some ad ∧ wr.cell? (ad.add j) = some (.int .u8 (l0.getD j 0))) := ⟨fun h => by
        obtain ⟨ad, ha, hc⟩ := Kd.at_int (Kd.C_below HR0.out hB.out) (j : Int) (by omega) (by omega)
        exact ⟨ad, ha, by simpa [rd] using hc⟩⟩
      have q1 : Aside0 (∀ h : j < l1.length, ∃ ad, A1 = some ad ∧ wr.cell? (ad.add j) = some (.int .u8 (l1.getD j 0))) := ⟨fun h => by
        obtain ⟨ad, ha, hc⟩ := Kd.at_int (Kd.C_below HR1.out hB.out) (j : Int) (by omega) (by omega)
        exact ⟨ad, ha, by simpa [rd] using hc⟩⟩
      obtain ⟨x, hx⟩ : ∃ x, x = l0.getD j 0 := ⟨_, rfl⟩
      obtain ⟨y, hy⟩ : ∃ y, y = l1.getD j 0 := ⟨_, rfl⟩
      rw [← hx] at q0 hput
      rw [← hy] at q1 hput
      have fin : Aside0 (∀ wz, wz = wr.setCell ⟨g, j, none⟩ (.int .u8 (andNotB x y)) → Kd.R (Kd.int .u8) 5 wz w.heap.size (fun _ => True) (.slice (some ⟨g, 0, none⟩) N cv) (preL andNotB l0 l1 (j + 1)) ∧ Below w.heap.size w wz) := ⟨by
        rintro wz rfl
        obtain ⟨h1, h2⟩ := hput.out
        have e := preL_set andNotB l0 l1 j (by have := NN.out; omega)
        rw [← hx, ← hy] at e
        simp only [Int.toNat_natCast] at h1 h2
        rw [HL.out, e] at h1
        refine ⟨h1, hB.out.grown h2 hB.out.size ?_⟩
        intro k hk
        have := Kd.R_base hO.out k (by simpa [Value.ownBlock] using hk)
        exact this⟩
      have hx' : Aside0 (¬ j < l0.length → x = 0) := ⟨fun h => by rw [hx]; simp [List.getD, List.getElem?_eq_none (show l0.length ≤ j by omega)]⟩
      have hy' : Aside0 (¬ j < l1.length → y = 0) := ⟨fun h => by rw [hy]; simp [List.getD, List.getElem?_eq_none (show l1.length ≤ j by omega)]⟩
      clear hx hy hput HL hcell
      obtain ⟨cv', hcell⟩ : ∃ v, wr.cell? ⟨g, j, none⟩ = some v := ⟨_, (Kd.R_cell (0 : Int) (by have e := preL_length andNotB l0 l1 j; rw [← NN.out] at e; have h := hO.out; rw [← e hj.out] at h; exact h) (j : Int) (by omega) (by have e := preL_length andNotB l0 l1 j; rw [← NN.out] at e; rw [e hj.out]; omega)).1⟩
      have b2 : (j : Int) < (N : Int) := by omega
      clear hjN
      by_cases h0 : j < l0.length
      all_goals by_cases h1 : j < l1.length
      · obtain ⟨a0, rfl, hc0⟩ := q0.out h0
        obtain ⟨a1, rfl, hc1⟩ := q1.out h1
        have t0 : (j : Int) < (l0.length : Int) := by omega
        have t1 : (j : Int) < (l1.length : Int) := by omega
        clear h0 h1
        go_wp2_with (go_at_call 31; refine (one_andNot _ _ _).mono ?_; rintro e w' ⟨rfl, rfl⟩)
        go_roundw
        case rel => obtain ⟨f1, f2⟩ := fin.out _ rfl; exact ⟨j + 1, by go_num, ⟨by omega⟩, ⟨f1⟩, ⟨f2⟩⟩
        case measure => simp [intOf]; omega
      · obtain ⟨a0, rfl, hc0⟩ := q0.out h0
        obtain rfl := hy'.out h1
        have t0 : (j : Int) < (l0.length : Int) := by omega
        have t1 : ¬ (j : Int) < (l1.length : Int) := by omega
        clear h0 h1
        go_wp2_with (go_at_call 31; refine (one_andNot _ _ _).mono ?_; rintro e w' ⟨rfl, rfl⟩)
        go_roundw
        case rel => obtain ⟨f1, f2⟩ := fin.out _ rfl; exact ⟨j + 1, by go_num, ⟨by omega⟩, ⟨f1⟩, ⟨f2⟩⟩
        case measure => simp [intOf]; omega
      · obtain ⟨a1, rfl, hc1⟩ := q1.out h1
        obtain rfl := hx'.out h0
        have t0 : ¬ (j : Int) < (l0.length : Int) := by omega
        have t1 : (j : Int) < (l1.length : Int) := by omega
        clear h0 h1
        go_wp2_with (go_at_call 31; refine (one_andNot _ _ _).mono ?_; rintro e w' ⟨rfl, rfl⟩)
        go_roundw
        case rel => obtain ⟨f1, f2⟩ := fin.out _ rfl; exact ⟨j + 1, by go_num, ⟨by omega⟩, ⟨f1⟩, ⟨f2⟩⟩
        case measure => simp [intOf]; omega
      · have := NN.out
        omega
    · have e : j = N := by have := hj.out; omega
      have b2 : ¬ (j : Int) < (N : Int) := by omega
      have E := Aside0.mk e
      clear e hjN
      go_wp2
      go_ret
      refine ⟨_, rfl, ?_, hB.out⟩
      have e := preL_end andNotB l0 l1
      rw [← NN.out] at e
      have h := hO.out
      rw [E.out, e] at h
      exact h
set_option maxHeartbeats 1000000 in
theorem join_any (A0 : Option Addr) (c0 : Nat) (l0 : List Int) (A1 : Option Addr) (c1 : Nat) (l1 : List Int) (w : World) (hr0 : Kd.C (Kd.int .u8) w A0 l0.length l0) (hr1 : Kd.C (Kd.int .u8) w A1 l1.length l1) (hl0 : l0.length < 140737488355328) (hl1 : l1.length < 140737488355328) :
    Calls Try.prog 20 #[.slice A0 l0.length c0, .slice A1 l1.length c1] w fun e w' => ∃ v0_ : Value, e = .returned (v0_) ∧ Kd.R (Kd.int .u8) 5 w' w.heap.size (fun _ => True) v0_ (joinL orB l0 l1) ∧ Below w.heap.size w w' := by
  have C := Aside0.mk (both_or A0 c0 l0 A1 c1 l1 w hr0 hr1 hl0 hl1)
  clear hr0 hr1 hl0 hl1
  go_enter Try.func20, Try.ntmps20
  go_wp2_with (go_at_call 29; refine C.out.mono ?_; rintro e w' ⟨v0_, rfl, h1, h2⟩; have H1 := Aside0.mk h1; have H2 := Aside0.mk h2; clear h1 h2)
  go_ret
  exact ⟨_, rfl, H1.out, H2.out⟩
set_option maxHeartbeats 1000000 in
theorem less_any (A0 : Option Addr) (c0 : Nat) (l0 : List Int) (A1 : Option Addr) (c1 : Nat) (l1 : List Int) (w : World) (hr0 : Kd.C (Kd.int .u8) w A0 l0.length l0) (hr1 : Kd.C (Kd.int .u8) w A1 l1.length l1) (hl0 : l0.length < 140737488355328) (hl1 : l1.length < 140737488355328) :
    Calls Try.prog 21 #[.slice A0 l0.length c0, .slice A1 l1.length c1] w fun e w' => ∃ v0_ : Value, e = .returned (v0_) ∧ Kd.R (Kd.int .u8) 5 w' w.heap.size (fun _ => True) v0_ (joinL andNotB l0 l1) ∧ Below w.heap.size w w' := by
  have C := Aside0.mk (both_andNot A0 c0 l0 A1 c1 l1 w hr0 hr1 hl0 hl1)
  clear hr0 hr1 hl0 hl1
  go_enter Try.func21, Try.ntmps21
  go_wp2_with (go_at_call 29; refine C.out.mono ?_; rintro e w' ⟨v0_, rfl, h1, h2⟩; have H1 := Aside0.mk h1; have H2 := Aside0.mk h2; clear h1 h2)
  go_ret
  exact ⟨_, rfl, H1.out, H2.out⟩

def clampN (a0 : Int) : Nat := ((if 0 < (if 4096 < a0 then 4096 else a0) then (if 4096 < a0 then 4096 else a0) else 0 : Int) + 8 - 1).toNat / 8
attribute [local go_sem] min2_int min_two
set_option maxHeartbeats 2000000 in
theorem make_any (a0 : Int) (w : World) :
    Calls Try.prog 18 #[.int .i64 a0] w fun e w' => ∃ v0_ : Value, e = .returned (v0_) ∧ Kd.R (Kd.int .u8) 5 w' w.heap.size (fun _ => True) v0_ (List.replicate (clampN a0) 0) ∧ Below w.heap.size w w' := by
  have HB := Aside0.mk (Below.refl w.heap.size w)
  obtain ⟨m, hm⟩ : ∃ m : Int, (if 4096 < a0 then 4096 else a0) = m := ⟨_, rfl⟩
  obtain ⟨M, hM⟩ : ∃ M : Int, (if 0 < m then m else 0) = M := ⟨_, rfl⟩
  have b0 : 0 ≤ M := by rw [← hM]; split <;> omega
  have b1 : M ≤ 4096 := by rw [← hM, ← hm]; repeat' split <;> omega
  obtain ⟨N, hN⟩ : ∃ N : Int, (M + 8 - 1) / 8 = N := ⟨_, rfl⟩
  have c0 : 0 ≤ N := by omega
  have c1 : N ≤ 512 := by omega
  have E : Aside0 (clampN a0 = N.toNat) := ⟨by rw [← hN]; unfold clampN; rw [hm, hM]; omega⟩
  go_enter Try.func18, Try.ntmps18
  go_wp2_with ((with_reducible refine gate_dst (N := 10) rfl ?_); refine Kd.R_make (Kd.int .u8) _ 5 rfl (N := 10) rfl 22 _ _ rfl N ?hx ?hy Try.underlying22 (.int .u8 0) 1 info5 rfl (by decide) (by omega) 0 (ok := fun _ => True) (okp := fun _ => True) rfl (fun _ hk => hk) trivial (by omega) (by omega) (Below.refl _ _) (Nat.le_refl _) ?_; (case hx => first | rfl | exact congrArg (Value.int .i64) hN); (case hy => first | rfl | exact congrArg (Value.int .i64) hN); intro v1 w1 ho hb hg_ hnew_; clear hg_ hnew_; have HO := Aside0.mk ho; have HB2 := Aside0.mk hb; clear ho hb)
  go_ret
  exact ⟨_, rfl, by rw [E.out]; exact HO.out, HB2.out⟩
end Go.Proofs.Ytgmkbcoahilkhaa.Given
