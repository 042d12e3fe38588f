/- The law BitsFills, walked. -/
import Derived.Test.YtgmkbcoahilkhaaTotal
import Derived.Test.YtgmkbcoahilkhaaPlainC
import Derived.Test.YtgmkbcoahilkhaaPureBitsWith
namespace Go.Proofs.Ytgmkbcoahilkhaa.Fills
set_option linter.unusedSimpArgs false
set_option linter.unusedVariables false
open Go.RowKit Go.Proofs.Ytgmkbcoahilkhaa.PAll Go.Proofs.YtgmkbcoahilkhaaW.PrintWords Go.Proofs.YtgmkbcoahilkhaaW.PrintLast Go.Proofs.YtgmkbcoahilkhaaW.PrintMore Go.Proofs.Ytgmkbcoahilkhaa.Plain Go.Proofs.Ytgmkbcoahilkhaa.Total
attribute [local go_sem] max2_int min2_int max_two min_two

theorem conv {A : Option Addr} {c : Nat} {l : List Int} {w : World} (h : InB w A l c) : (convert 22 9 (.slice A l.length c)).run Try.prog w = .ok (.string (strOfNums l)) w :=
  Kd.C_string Try.underlying22 Try.underlying5 Try.underlying9 h.reads
theorem count_is {A : Option Addr} {c : Nat} {l : List Int} {w : World} (h : InB w A l c) (hl : Small l) (hb : Bytes l) (n : Nat) (hn : countL l = n) : Calls Try.prog 17 #[.slice A l.length c] w fun e w' => e = .returned (.int .i64 (n : Int)) ∧ Drawn0 w w' := by
  rw [← hn]; exact count_any h hl hb
theorem has_is {A : Option Addr} {c : Nat} {l : List Int} {w : World} (h : InB w A l c) (hl : Small l) (hb : Bytes l) (n : Nat) (x : Bool) (hx : hasN l n = x) : Calls Try.prog 10 #[.slice A l.length c, .int .i64 (n : Int)] w fun e w' => e = .returned (.bool x) ∧ Drawn0 w w' := by
  rw [← hx, ← hasL_nat]; exact has_any h hl hb _
theorem first_is {A : Option Addr} {c : Nat} {l : List Int} {w : World} (h : InB w A l c) (hl : Small l) (hb : Bytes l) (x : Int) (y : Bool) (hx : firstL l 0 = (x, y)) : Calls Try.prog 11 #[.slice A l.length c, .int .i64 0] w fun e w' => e = .returned (.tuple #[.int .i64 x, .bool y]) ∧ Below w.heap.size w w' := by
  have := first_any h hl hb 0 (by omega)
  rw [hx] at this; exact this
theorem with_is {A : Option Addr} {c : Nat} {l : List Int} {w : World} (h : InB w A l c) (hl : Small l) (n : Nat) (y : List Int) (hn : n < 8 * l.length) (hy : withN l n true = y) : Calls Try.prog 9 #[.slice A l.length c, .int .i64 (n : Int), .bool true] w fun e w' => ∃ (A1 : Option Addr) (c1 : Nat), e = .returned (.slice A1 y.length c1) ∧ InB w' A1 y c1 ∧ Below w.heap.size w w' := by
  refine (with_any h hl _ true).mono ?_
  rintro e w' ⟨v, rfl, hr, hB⟩
  have e2 : withL l (n : Int) true = y := by unfold withL; rw [if_pos (by omega), Int.toNat_natCast, hy]
  rw [e2] at hr
  obtain ⟨A1, c1, rfl, hi⟩ := hr.slice
  exact ⟨A1, c1, rfl, hi, hB⟩
theorem join_is {A : Option Addr} {c : Nat} {l : List Int} {w : World} {A1 : Option Addr} {c1 : Nat} {l1 : List Int} (h : InB w A l c) (h1 : InB w A1 l1 c1) (hl : Small l) (hl1 : Small l1) (J : List Int) (hJ : Given.joinL Given.orB l l1 = J) : Calls Try.prog 20 #[.slice A l.length c, .slice A1 l1.length c1] w fun e w' => ∃ (A1 : Option Addr) (c1 : Nat), e = .returned (.slice A1 J.length c1) ∧ InB w' A1 J c1 ∧ Below w.heap.size w w' := by
  rw [← hJ]
  refine (join_any h h1 hl hl1).mono ?_
  rintro e w' ⟨v, rfl, hr, hB⟩
  obtain ⟨A1, c1, rfl, hi⟩ := hr.slice
  exact ⟨A1, c1, rfl, hi, hB⟩
theorem less_is {A : Option Addr} {c : Nat} {l : List Int} {w : World} (h : InB w A l c) (hl : Small l) (J : List Int) (hJ : Given.joinL Given.andNotB l l = J) : Calls Try.prog 21 #[.slice A l.length c, .slice A l.length c] w fun e w' => ∃ (A1 : Option Addr) (c1 : Nat), e = .returned (.slice A1 J.length c1) ∧ InB w' A1 J c1 ∧ Below w.heap.size w w' := by
  rw [← hJ]
  refine (less_any h h hl hl).mono ?_
  rintro e w' ⟨v, rfl, hr, hB⟩
  obtain ⟨A1, c1, rfl, hi⟩ := hr.slice
  exact ⟨A1, c1, rfl, hi, hB⟩

/-! ### what is taken next -/
theorem firstN_spec (l : List Int) (M : Nat) (d : Nat) : ∀ n, n + d = M → (firstN l d n = (0, false) ∧ ∀ j, n ≤ j → j < M → hasN l j = true) ∨ (∃ i : Nat, n ≤ i ∧ i < M ∧ firstN l d n = ((i : Int), true) ∧ hasN l i = false ∧ ∀ j, n ≤ j → j < i → hasN l j = true) := by
  induction d with
  | zero => intro n h; exact .inl ⟨rfl, fun j h1 h2 => by omega⟩
  | succ d ih =>
    intro n h
    simp only [firstN]
    cases hh : hasN l n
    · exact .inr ⟨n, Nat.le_refl _, by omega, rfl, hh, fun j h1 h2 => by omega⟩
    · simp only [if_true]
      rcases ih (n + 1) (by omega) with ⟨h1, h2⟩ | ⟨i, h1, h2, h3, h4, h5⟩
      · refine .inl ⟨h1, fun j h3 h4 => ?_⟩
        by_cases e : j = n
        · rw [e]; exact hh
        · exact h2 j (by omega) h4
      · refine .inr ⟨i, by omega, h2, h3, h4, fun j h6 h7 => ?_⟩
        by_cases e : j = n
        · rw [e]; exact hh
        · exact h5 j (by omega) h7
/-- What holds of the set x behind some rounds, of the set l at first. -/
structure Inv (l x : List Int) (last : Int) (t n : Nat) : Prop where
  len : x.length = l.length
  bytes : Bytes x
  lo : -1 ≤ last
  hi : last < 8 * (l.length : Int)
  has : ∀ m : Nat, m < 8 * l.length → hasN x m = (hasN l m || decide ((m : Int) ≤ last))
  cnt : countL x = n
  turn : t + countL l = n
theorem Inv.start {l : List Int} (hb : Bytes l) : Inv l l (-1) 0 (countL l) :=
  ⟨rfl, hb, by omega, by omega, fun m _ => by simp; omega, rfl, by omega⟩
theorem Inv.le {l x : List Int} {last : Int} {t n : Nat} (h : Inv l x last t n) : n ≤ 8 * l.length := by
  rw [← h.cnt, ← h.len]; exact countL_le x
theorem filter_one (i M : Nat) : ((List.range M).filter (fun m => decide (m = i))).length = if i < M then 1 else 0 := by
  induction M with
  | zero => rfl
  | succ M ih =>
    rw [List.range_succ, List.filter_append, List.length_append, ih]
    by_cases e : M = i
    · subst e; simp
    · have h1 : ([M].filter (fun m => decide (m = i))).length = 0 := by simp [e]
      rw [h1]
      by_cases lt : i < M
      · rw [if_pos lt, if_pos (by omega)]
      · rw [if_neg lt, if_neg (by omega)]
theorem countL_with {x : List Int} (hb : Bytes x) {i : Nat} (hi : i < 8 * x.length) (h0 : hasN x i = false) : countL (withN x i true) = countL x + 1 := by
  have hs := filter_or (hasN x) (fun m => decide (m = i)) (hasN (withN x i true)) (List.range (8 * x.length)) (fun m _ => by
    rw [hasN_withN hb i true hi]
    by_cases e : m = i <;> simp [e]) (fun m _ hm => by
    by_cases e : m = i
    · rw [e, h0] at hm; cases hm
    · simp [e])
  rw [count_range (withN x i true) (8 * x.length) (by rw [withN_length]; omega), hs, count_range x (8 * x.length) (Nat.le_refl _)]
  rw [filter_one, if_pos hi]
theorem Inv.step {l x : List Int} {last : Int} {t n : Nat} (h : Inv l x last t n) {i : Nat} (hi : i < 8 * l.length) (h0 : hasN x i = false) (hbelow : ∀ j, j < i → hasN x j = true) :
    Inv l (withN x i true) (i : Int) (t + 1) (n + 1) ∧ last < (i : Int) ∧ hasN l i = false := by
  have hx := h.has i hi
  rw [h0] at hx
  have hx' : hasN l i = false ∧ ¬ (i : Int) ≤ last := by simpa using hx.symm
  refine ⟨⟨by rw [withN_length, h.len], withN_bytes h.bytes _ _, by omega, by omega, fun m hm => ?_, ?_, by have := h.turn; omega⟩, by omega, hx'.1⟩
  · rw [hasN_withN h.bytes i true (by rw [h.len]; exact hi)]
    by_cases e : m = i
    · subst e; simp
    · rw [if_neg e, h.has m hm]
      by_cases lt : m < i
      · have := hbelow m lt
        rw [h.has m hm] at this
        rw [this]; simp; omega
      · have e1 : decide ((m : Int) ≤ last) = false := by simp; omega
        have e2 : decide ((m : Int) ≤ (i : Int)) = false := by simp; omega
        rw [e1, e2]
  · rw [countL_with h.bytes (by rw [h.len]; exact hi) h0, h.cnt]
/-- Where all are in. -/
theorem Inv.full {l x : List Int} {last : Int} {t n : Nat} (hb : Bytes l) (h : Inv l x last t n) (hall : ∀ j, j < 8 * l.length → hasN x j = true) : n = 8 * l.length ∧ Given.joinL Given.orB x l = x ∧ countL (Given.joinL Given.andNotB x x) = 0 := by
  refine ⟨?_, ?_, ?_⟩
  · rw [← h.cnt, count_range x (8 * l.length) (by rw [h.len]; omega), List.filter_eq_self.2 (fun a ha => hall a (List.mem_range.1 ha)), List.length_range]
  · refine list_ext (joinL_bytes (fun _ _ => or_byte) h.bytes hb) h.bytes (by rw [Given.joinL_length, h.len]; omega) (fun m hm => ?_)
    rw [hasN_join h.bytes hb]
    rw [Given.joinL_length, h.len] at hm
    rw [hall m (by omega)]
    rfl
  · rw [count_range _ (8 * x.length) (by rw [Given.joinL_length]; omega), List.filter_eq_nil_iff.2]
    · rfl
    · intro m _
      rw [hasN_less h.bytes h.bytes]
      cases hasN x m <;> simp
theorem swapS {P : Program} {ops : Array Oper} {Q : Exit → Act → World → Prop} {md : Region.Mode} {S S' : World → Prop} (hS : ∀ w, S' w → S w) : ∀ (fuel : Nat) (listed : Array Bool) (a : Act) (w : World), S' w → wpAnyLast P md ops Q S' [] fuel listed a w → wpAnyLast P md ops Q S [] fuel listed a w
  | 0, _, _, _, _, h => h
  | fuel + 1, _, _, w, hw, h => ⟨h.1, fun i hi => wpOp_mono (fun a' w' h' => ⟨fun _ _ => hS _ (h'.1 (by simp) hw), swapS hS fuel _ a' w' (h'.1 (by simp) hw) h'.2⟩) (h.2 i hi)⟩

def T6_15 : Bool × List (List Nat × List Nat) := (true, [([], []), ([], []), ([1], [1]), ([2], [2]), ([0, 3], [0, 3]), ([4], [4]), ([5], [5]), ([6, 5, 5], [5, 6]), ([5], [5]), ([7, 8, 5], [5, 7, 8]), ([5, 9], [5, 9]), ([10, 7], [10]), ([11], [11]), ([11], [11]), ([12, 13, 11, 11], [11, 12, 13]), ([14, 14, 11], [11, 14]), ([15, 11], [11, 15]), ([11, 16], [11, 16]), ([17, 15], [17]), ([18], [18]), ([18], [18]), ([19, 20, 18, 18], [18, 19, 20]), ([21, 18], [18, 21]), ([18], [18]), ([23, 18], [18, 23]), ([22, 24, 18], [18, 22, 24]), ([18, 25], [18, 25]), ([26, 21], [26]), ([27, 27], [27]), ([27, 28], [27, 28]), ([29, 28, 0, 1, 2, 3, 4, 5, 6, 7, 8, 9, 10, 11, 12, 13, 14, 15, 16, 17, 18, 19, 20, 21, 22, 23, 24, 25, 26, 27, 28, 29], [29])])
def B6_15 : List Nat := [0, 0, 2, 6, 15, 31, 63, 127, 63, 511, 1023, 2047, 4095, 4095, 16383, 32767, 65535, 131071, 262143, 524287, 524287, 2097151, 4194303, 524287, 8912895, 33554431, 67108863, 134217727, 268435455, 536870911, 1073741823]
theorem tab6_15 : rtab .any (opsOf Try.f6 15) = T6_15 := by kernel_rfl
theorem bits6_15 : waitsOk T6_15.2 B6_15 = true := by kernel_rfl

set_option maxHeartbeats 8000000 in
set_option maxRecDepth 100000 in
theorem fills_calls (A0 : Option Addr) (c0 : Nat) (l0 : List Int) (w : World) (h0 : InB w A0 l0 c0) (hb0 : Bytes l0) (g0 : l0.length ≤ 20) :
    Calls Try.prog 6 #[.slice A0 l0.length c0] w fun e w' => e = .returned (.bool true) ∧ Below w.heap.size w w' := by
  have H0 := Aside0.mk h0
  have B0 := Aside0.mk hb0
  have G0 := Aside0.mk g0
  have s0 : Aside0 (Small l0) := ⟨by unfold Small; omega⟩
  have t0 : ¬ (20 : Int) < (l0.length : Int) := by omega
  obtain ⟨n0, hn0⟩ : ∃ n, countL l0 = n := ⟨_, rfl⟩
  have CN := Aside0.mk hn0
  clear h0 hb0 g0 hn0
  go_enter Try.func6, Try.ntmps6
  go_wp2_with (go_at_call 17; refine (count_is H0.out s0.out B0.out n0 CN.out).mono ?_; rintro e w' ⟨rfl, ⟨nd, rfl⟩⟩)
  go_loopw [3, 4, 5, 6] (fun v3 v4 v5 v6 wr => ∃ (x : List Int) (Ax : Option Addr) (cx : Nat) (last : Int) (t n : Nat), v3 = .int .i64 (n : Int) ∧ v4 = .slice Ax x.length cx ∧ v5 = .int .i64 last ∧ v6 = .int .i64 (t : Int) ∧ Aside0 (Inv l0 x last t n) ∧ Aside0 (InB wr Ax x cx) ∧ Aside0 (Below w.heap.size w wr)) (fun _ _ _ v6 _ => 200 - (intOf v6).toNat)
  case atStart => exact ⟨l0, A0, c0, -1, 0, n0, rfl, rfl, rfl, rfl, ⟨by have := Inv.start B0.out; rw [CN.out] at this; exact this⟩, ⟨InB.drew H0.out _⟩, ⟨pw_below_drewN (Below.refl _ _) _⟩⟩
  case round =>
    obtain ⟨x, Ax, cx, last, t, n, rfl, rfl, rfl, rfl, hI, hX, hB⟩ := hrel
    have sx : Aside0 (Small x) := ⟨by unfold Small; rw [hI.out.len]; have := G0.out; omega⟩
    have b1 : (t : Int) < 200 := by have := hI.out.turn; have := hI.out.le; have := G0.out; omega
    have b2 : (n : Int) ≤ 160 := by have := hI.out.le; have := G0.out; omega
    have b3 : (0 : Int) ≤ (n : Int) := by omega
    have b4 : (0 : Int) ≤ (t : Int) := by omega
    rcases firstN_spec x (8 * x.length) (8 * x.length) 0 (by omega) with ⟨hf, hall⟩ | ⟨i, _, hi, hf, hno, hbel⟩
    · have HF : Aside0 (firstL x 0 = (0, false)) := ⟨by simpa [firstL] using hf⟩
      obtain ⟨e1, e2, e3⟩ := hI.out.full B0.out (fun j hj => hall j (by omega) (by rw [hI.out.len]; exact hj))
      have E2 := Aside0.mk e2
      obtain ⟨Z, hZ⟩ : ∃ Z, Given.joinL Given.andNotB x x = Z := ⟨_, rfl⟩
      have EZ := Aside0.mk hZ
      rw [hZ] at e3
      have E3 := Aside0.mk e3
      have bZ : Aside0 (Bytes Z) := ⟨by rw [← hZ]; exact joinL_bytes (fun _ _ => andNot_byte) hI.out.bytes hI.out.bytes⟩
      have sZ : Aside0 (Small Z) := ⟨by unfold Small; rw [← hZ, Given.joinL_length, hI.out.len]; have := G0.out; omega⟩
      have CX : Aside0 (countL x = n) := ⟨hI.out.cnt⟩
      have BX : Aside0 (Bytes x) := ⟨hI.out.bytes⟩
      have e1' : (n : Int) = 8 * (l0.length : Int) := by omega
      have E1 := Aside0.mk e1
      clear hf hall hI e1 e2 e3 hZ e1'
      have w1 : wrap64 (8 * (l0.length : Int)) = 8 * (l0.length : Int) := wrap_ok (by omega) (by omega)
      have w2 : IntKind.i64.wrap (8 * (l0.length : Int)) = 8 * (l0.length : Int) := by rw [i64_w]; exact w1
      have q1 : ((n : Int) == 8 * (l0.length : Int)) = true := by have := E1.out; simp; omega
      go_wp2_with (go_at_call 11; refine (first_is hX.out sx.out BX.out 0 false HF.out).mono ?_; rintro e w1 ⟨rfl, hb⟩; have K1' := Aside0.mk (below_step hB.out hb); have K2' := Aside0.mk (InB.below hX.out hb); clear hb)
      have K0 := (H0.out.below K1'.out).drew1
      have K1 := below_drew K1'.out
      have K2 := K2'.out.drew1
      clear H0 K1' K2' hX hB
      refine start_ (n := 31) (S := fun w' => InB w' Ax x cx) (ds := []) #[false, false, false, false, false, false, false, false, false, false, false, false, false, false, false, false, false, false, false, false, false, false, false, false, false, false, false, false, false, false, false] (by kernel_rfl) rfl rfl K2 (fun hHeld => ?_); refine with_tabW tab6_15 bits6_15 (fun HT_ HW_ => ?_)
      refine pure_ (i := 0) (N := some 41) (v := ?_) (a' := ?_) #[true, false, false, false, false, false, false, false, false, false, false, false, false, false, false, false, false, false, false, false, false, false, false, false, false, false, false, false, false, false, false] rfl rfl (any_of HT_.out (by kernel_rfl)) (fun _ _ _ h => h) (Or.inl ⟨by rfl, ?_⟩) ?_ ?_
      rotate_left
      · intro w'
        go_simp
        with_reducible rfl
      rotate_left
      · simp only [Act.put, List.setIfInBounds_toArray, List.set_cons_zero, List.set_cons_succ, i64_w, i32_w]
        rfl
      refine pure_ (i := 1) (N := some 42) (v := ?_) (a' := ?_) #[true, true, false, false, false, false, false, false, false, false, false, false, false, false, false, false, false, false, false, false, false, false, false, false, false, false, false, false, false, false, false] rfl rfl (any_of HT_.out (by kernel_rfl)) (fun _ _ _ h => h) (Or.inl ⟨by rfl, ?_⟩) ?_ ?_
      rotate_left
      · intro w'
        go_simp
        with_reducible rfl
      rotate_left
      · simp only [Act.put, List.setIfInBounds_toArray, List.set_cons_zero, List.set_cons_succ, i64_w, i32_w]
        rfl
      refine pure_ (i := 2) (N := some 43) (v := ?_) (a' := ?_) #[true, true, true, false, false, false, false, false, false, false, false, false, false, false, false, false, false, false, false, false, false, false, false, false, false, false, false, false, false, false, false] rfl rfl (any_of HT_.out (by kernel_rfl)) (fun _ _ _ h => h) (Or.inl ⟨by rfl, ?_⟩) ?_ ?_
      rotate_left
      · intro w'
        go_simp
        with_reducible rfl
      rotate_left
      · simp only [Act.put, List.setIfInBounds_toArray, List.set_cons_zero, List.set_cons_succ, i64_w, i32_w]
        rfl
      refine pure_ (i := 3) (N := some 44) (v := ?_) (a' := ?_) #[true, true, true, true, false, false, false, false, false, false, false, false, false, false, false, false, false, false, false, false, false, false, false, false, false, false, false, false, false, false, false] rfl rfl (any_of HT_.out (by kernel_rfl)) (fun _ _ _ h => h) (Or.inl ⟨by rfl, ?_⟩) ?_ ?_
      rotate_left
      · intro w'
        go_simp
        with_reducible rfl
      rotate_left
      · simp only [Act.put, List.setIfInBounds_toArray, List.set_cons_zero, List.set_cons_succ, i64_w, i32_w]
        rfl
      refine pure_ (i := 4) (N := some 45) (v := ?_) (a' := ?_) #[true, true, true, true, true, false, false, false, false, false, false, false, false, false, false, false, false, false, false, false, false, false, false, false, false, false, false, false, false, false, false] rfl rfl (any_of HT_.out (by kernel_rfl)) (fun _ _ _ h => h) (Or.inl ⟨by rfl, ?_⟩) ?_ ?_
      rotate_left
      · intro w'
        go_simp
        with_reducible rfl
      rotate_left
      · simp only [Act.put, List.setIfInBounds_toArray, List.set_cons_zero, List.set_cons_succ, i64_w, i32_w]
        rfl
      refine pure_ (i := 5) (N := some 46) (v := ?_) (a' := ?_) #[true, true, true, true, true, true, false, false, false, false, false, false, false, false, false, false, false, false, false, false, false, false, false, false, false, false, false, false, false, false, false] rfl rfl (any_of HT_.out (by kernel_rfl)) (fun _ _ _ h => h) (Or.inl ⟨by rfl, ?_⟩) ?_ ?_
      rotate_left
      · intro w'
        go_simp
        with_reducible rfl
      rotate_left
      · simp only [Act.put, List.setIfInBounds_toArray, List.set_cons_zero, List.set_cons_succ, i64_w, i32_w]
        rfl
      refine pure_ (i := 6) (N := some 47) (v := ?_) (a' := ?_) #[true, true, true, true, true, true, true, false, false, false, false, false, false, false, false, false, false, false, false, false, false, false, false, false, false, false, false, false, false, false, false] rfl rfl (any_of HT_.out (by kernel_rfl)) (fun _ _ _ h => h) (Or.inl ⟨by rfl, ?_⟩) ?_ ?_
      rotate_left
      · intro w'
        go_simp
        with_reducible rfl
      rotate_left
      · simp only [Act.put, List.setIfInBounds_toArray, List.set_cons_zero, List.set_cons_succ, i64_w, i32_w]
        rfl
      refine pure_ (i := 8) (N := some 49) (v := ?_) (a' := ?_) #[true, true, true, true, true, true, true, false, true, false, false, false, false, false, false, false, false, false, false, false, false, false, false, false, false, false, false, false, false, false, false] rfl rfl (any_of HT_.out (by kernel_rfl)) (fun _ _ _ h => h) (Or.inl ⟨by rfl, ?_⟩) ?_ ?_
      rotate_left
      · intro w'
        go_simp
        with_reducible rfl
      rotate_left
      · simp only [Act.put, List.setIfInBounds_toArray, List.set_cons_zero, List.set_cons_succ, i64_w, i32_w]
        rfl
      refine one_ (i := 7) (N := some 48) #[true, true, true, true, true, true, true, true, true, false, false, false, false, false, false, false, false, false, false, false, false, false, false, false, false, false, false, false, false, false, false] rfl rfl (one_of HT_.out (by kernel_rfl)) (by decide) (fun K hK => ?_)
      refine goes_ Try.func17 (by kernel_rfl) rfl #[.slice Ax x.length cx] (by rfl) rfl rfl (by (try simp only [List.map_toArray, List.map_cons, List.map_nil]); first | done | rfl) ?_
      with_reducible refine (count_is K2 sx.out BX.out n CX.out).mono ?_
      rintro e w' ⟨rfl, ⟨nd, rfl⟩⟩
      refine ⟨_, rfl, ?_⟩
      replace K0 := InB.drew K0 nd
      replace K1 := pw_below_drewN K1 nd
      replace K2 := InB.drew K2 nd
      refine hK.out _ _ K2 (fun hHeld => ?_)
      clear hK K
      refine norm_ (a' := ?_) ?_ ?_
      rotate_left
      · show Act.put _ (some 48) _ = _
        simp only [Act.put, List.setIfInBounds_toArray, List.set_cons_zero, List.set_cons_succ, i64_w, i32_w]
        rfl
      refine pure_ (i := 9) (N := some 50) (v := ?_) (a' := ?_) #[true, true, true, true, true, true, true, true, true, true, false, false, false, false, false, false, false, false, false, false, false, false, false, false, false, false, false, false, false, false, false] rfl rfl (any_of HT_.out (by kernel_rfl)) (fun _ _ _ h => h) (Or.inl ⟨by rfl, ?_⟩) ?_ ?_
      rotate_left
      · intro w'
        go_simp
        with_reducible rfl
      rotate_left
      · simp only [Act.put, List.setIfInBounds_toArray, List.set_cons_zero, List.set_cons_succ, i64_w, i32_w]
        rfl
      refine pure_ (i := 10) (N := some 51) (v := ?_) (a' := ?_) #[true, true, true, true, true, true, true, true, true, true, true, false, false, false, false, false, false, false, false, false, false, false, false, false, false, false, false, false, false, false, false] rfl rfl (any_of HT_.out (by kernel_rfl)) (fun _ _ _ h => h) (Or.inl ⟨by rfl, ?_⟩) ?_ ?_
      rotate_left
      · intro w'
        go_simp
        with_reducible rfl
      rotate_left
      · simp only [Act.put, List.setIfInBounds_toArray, List.set_cons_zero, List.set_cons_succ, i64_w, i32_w]
        rfl
      refine pure_ (i := 11) (N := some 52) (v := ?_) (a' := ?_) #[true, true, true, true, true, true, true, true, true, true, true, true, false, false, false, false, false, false, false, false, false, false, false, false, false, false, false, false, false, false, false] rfl rfl (any_of HT_.out (by kernel_rfl)) (fun _ _ _ h => h) (Or.inl ⟨by rfl, ?_⟩) ?_ ?_
      rotate_left
      · intro w'
        go_simp
        with_reducible rfl
      rotate_left
      · simp only [Act.put, List.setIfInBounds_toArray, List.set_cons_zero, List.set_cons_succ, i64_w, i32_w]
        rfl
      refine pure_ (i := 12) (N := some 53) (v := ?_) (a' := ?_) #[true, true, true, true, true, true, true, true, true, true, true, true, true, false, false, false, false, false, false, false, false, false, false, false, false, false, false, false, false, false, false] rfl rfl (any_of HT_.out (by kernel_rfl)) (fun _ _ _ h => h) (Or.inl ⟨by rfl, ?_⟩) ?_ ?_
      rotate_left
      · intro w'
        go_simp
        with_reducible rfl
      rotate_left
      · simp only [Act.put, List.setIfInBounds_toArray, List.set_cons_zero, List.set_cons_succ, i64_w, i32_w]
        rfl
      refine pure_ (i := 13) (N := some 54) (v := ?_) (a' := ?_) #[true, true, true, true, true, true, true, true, true, true, true, true, true, true, false, false, false, false, false, false, false, false, false, false, false, false, false, false, false, false, false] rfl rfl (any_of HT_.out (by kernel_rfl)) (fun _ _ _ h => h) (Or.inl ⟨by rfl, ?_⟩) ?_ ?_
      rotate_left
      · intro w'
        go_simp
        with_reducible rfl
      rotate_left
      · simp only [Act.put, List.setIfInBounds_toArray, List.set_cons_zero, List.set_cons_succ, i64_w, i32_w]
        rfl
      refine one_ (i := 14) (N := some 55) #[true, true, true, true, true, true, true, true, true, true, true, true, true, true, true, false, false, false, false, false, false, false, false, false, false, false, false, false, false, false, false] rfl rfl (one_of HT_.out (by kernel_rfl)) (by decide) (fun K hK => ?_)
      refine goes_ Try.func21 (by kernel_rfl) rfl #[.slice Ax x.length cx, .slice Ax x.length cx] (by rfl) rfl rfl (by (try simp only [List.map_toArray, List.map_cons, List.map_nil]); first | done | rfl) ?_
      with_reducible refine (less_is K2 sx.out Z EZ.out).mono ?_
      rintro e w5 ⟨A5, c5, rfl, i5, hb⟩
      refine ⟨_, rfl, ?_⟩
      replace K0 := InB.below K0 hb
      replace K1 := below_step K1 hb
      replace K2 := InB.below K2 hb
      clear hb
      refine hK.out _ _ K2 (fun hHeld => ?_)
      clear hK K
      refine norm_ (a' := ?_) ?_ ?_
      rotate_left
      · show Act.put _ (some 55) _ = _
        simp only [Act.put, List.setIfInBounds_toArray, List.set_cons_zero, List.set_cons_succ, i64_w, i32_w]
        rfl
      refine one_ (i := 15) (N := some 56) #[true, true, true, true, true, true, true, true, true, true, true, true, true, true, true, true, false, false, false, false, false, false, false, false, false, false, false, false, false, false, false] rfl rfl (one_of HT_.out (by kernel_rfl)) (by decide) (fun K hK => ?_)
      refine goes_ Try.func17 (by kernel_rfl) rfl #[.slice A5 Z.length c5] (by rfl) rfl rfl (by (try simp only [List.map_toArray, List.map_cons, List.map_nil]); first | done | rfl) ?_
      with_reducible refine (count_is i5 sZ.out bZ.out 0 E3.out).mono ?_
      rintro e w' ⟨rfl, ⟨nd, rfl⟩⟩
      refine ⟨_, rfl, ?_⟩
      replace K0 := InB.drew K0 nd
      replace K1 := pw_below_drewN K1 nd
      replace K2 := InB.drew K2 nd
      refine hK.out _ _ K2 (fun hHeld => ?_)
      clear hK K
      refine norm_ (a' := ?_) ?_ ?_
      rotate_left
      · show Act.put _ (some 56) _ = _
        simp only [Act.put, List.setIfInBounds_toArray, List.set_cons_zero, List.set_cons_succ, i64_w, i32_w]
        rfl
      refine pure_ (i := 16) (N := some 57) (v := ?_) (a' := ?_) #[true, true, true, true, true, true, true, true, true, true, true, true, true, true, true, true, true, false, false, false, false, false, false, false, false, false, false, false, false, false, false] rfl rfl (any_of HT_.out (by kernel_rfl)) (fun _ _ _ h => h) (Or.inl ⟨by rfl, ?_⟩) ?_ ?_
      rotate_left
      · intro w'
        go_simp
        with_reducible rfl
      rotate_left
      · simp only [Act.put, List.setIfInBounds_toArray, List.set_cons_zero, List.set_cons_succ, i64_w, i32_w]
        rfl
      refine pure_ (i := 17) (N := some 58) (v := ?_) (a' := ?_) #[true, true, true, true, true, true, true, true, true, true, true, true, true, true, true, true, true, true, false, false, false, false, false, false, false, false, false, false, false, false, false] rfl rfl (any_of HT_.out (by kernel_rfl)) (fun _ _ _ h => h) (Or.inl ⟨by rfl, ?_⟩) ?_ ?_
      rotate_left
      · intro w'
        go_simp
        with_reducible rfl
      rotate_left
      · simp only [Act.put, List.setIfInBounds_toArray, List.set_cons_zero, List.set_cons_succ, i64_w, i32_w]
        rfl
      refine pure_ (i := 18) (N := some 59) (v := ?_) (a' := ?_) #[true, true, true, true, true, true, true, true, true, true, true, true, true, true, true, true, true, true, true, false, false, false, false, false, false, false, false, false, false, false, false] rfl rfl (any_of HT_.out (by kernel_rfl)) (fun _ _ _ h => h) (Or.inl ⟨by rfl, ?_⟩) ?_ ?_
      rotate_left
      · intro w'
        go_simp
        with_reducible rfl
      rotate_left
      · simp only [Act.put, List.setIfInBounds_toArray, List.set_cons_zero, List.set_cons_succ, i64_w, i32_w]
        rfl
      refine pure_ (i := 19) (N := some 60) (v := ?_) (a' := ?_) #[true, true, true, true, true, true, true, true, true, true, true, true, true, true, true, true, true, true, true, true, false, false, false, false, false, false, false, false, false, false, false] rfl rfl (any_of HT_.out (by kernel_rfl)) (fun _ _ _ h => h) (Or.inl ⟨by rfl, ?_⟩) ?_ ?_
      rotate_left
      · intro w'
        go_simp
        with_reducible rfl
      rotate_left
      · simp only [Act.put, List.setIfInBounds_toArray, List.set_cons_zero, List.set_cons_succ, i64_w, i32_w]
        rfl
      refine pure_ (i := 20) (N := some 61) (v := ?_) (a' := ?_) #[true, true, true, true, true, true, true, true, true, true, true, true, true, true, true, true, true, true, true, true, true, false, false, false, false, false, false, false, false, false, false] rfl rfl (any_of HT_.out (by kernel_rfl)) (fun _ _ _ h => h) (Or.inl ⟨by rfl, ?_⟩) ?_ ?_
      rotate_left
      · intro w'
        go_simp
        with_reducible rfl
      rotate_left
      · simp only [Act.put, List.setIfInBounds_toArray, List.set_cons_zero, List.set_cons_succ, i64_w, i32_w]
        rfl
      refine pure_ (i := 23) (N := some 64) (v := ?_) (a' := ?_) #[true, true, true, true, true, true, true, true, true, true, true, true, true, true, true, true, true, true, true, true, true, false, false, true, false, false, false, false, false, false, false] rfl rfl (any_of HT_.out (by kernel_rfl)) (fun _ _ _ h => h) (Or.inl ⟨by rfl, ?_⟩) ?_ ?_
      rotate_left
      · intro w'
        go_simp
        with_reducible rfl
      rotate_left
      · simp only [Act.put, List.setIfInBounds_toArray, List.set_cons_zero, List.set_cons_succ, i64_w, i32_w]
        rfl
      refine take_ (i := 24) (N := some 65) (v := ?_) (a' := ?_) #[true, true, true, true, true, true, true, true, true, true, true, true, true, true, true, true, true, true, true, true, true, false, false, true, true, false, false, false, false, false, false] rfl rfl (take_ofW HT_.out HW_.out (by kernel_rfl)) (fun _ _ _ h => h) (Or.inl ⟨by rfl, ?_⟩) hHeld ?_ ?_
      rotate_left
      · intro w' hS'
        go_simp
        rw [conv hS']
        rfl
      rotate_left
      · simp only [Act.put, List.setIfInBounds_toArray, List.set_cons_zero, List.set_cons_succ, i64_w, i32_w]
        rfl
      refine one_ (i := 21) (N := some 62) #[true, true, true, true, true, true, true, true, true, true, true, true, true, true, true, true, true, true, true, true, true, true, false, true, true, false, false, false, false, false, false] rfl rfl (one_of HT_.out (by kernel_rfl)) (by decide) (fun K hK => ?_)
      refine goes_ Try.func20 (by kernel_rfl) rfl #[.slice Ax x.length cx, .slice A0 l0.length c0] (by rfl) rfl rfl (by (try simp only [List.map_toArray, List.map_cons, List.map_nil]); first | done | rfl) ?_
      with_reducible refine (join_is K2 K0 sx.out s0.out x E2.out).mono ?_
      rintro e w6 ⟨A6, c6, rfl, i6, hb⟩
      refine ⟨_, rfl, ?_⟩
      replace K0 := InB.below K0 hb
      replace K1 := below_step K1 hb
      replace K2 := InB.below K2 hb
      clear hb
      refine hK.out _ _ K2 (fun hHeld => ?_)
      clear hK K
      refine norm_ (a' := ?_) ?_ ?_
      rotate_left
      · show Act.put _ (some 62) _ = _
        simp only [Act.put, List.setIfInBounds_toArray, List.set_cons_zero, List.set_cons_succ, i64_w, i32_w]
        rfl
      have hHeld2 : (fun w' => InB w' Ax x cx ∧ InB w' A6 x c6) _ := ⟨K2, i6⟩
      refine swapS (S' := fun w' => InB w' Ax x cx ∧ InB w' A6 x c6) (fun _ h => h.1) _ _ _ _ hHeld2 ?_
      clear hHeld
      have hHeld := hHeld2
      clear hHeld2
      refine take_ (i := 22) (N := some 63) (v := ?_) (a' := ?_) #[true, true, true, true, true, true, true, true, true, true, true, true, true, true, true, true, true, true, true, true, true, true, true, true, true, false, false, false, false, false, false] rfl rfl (take_ofW HT_.out HW_.out (by kernel_rfl)) (fun _ _ _ h => h) (Or.inl ⟨by rfl, ?_⟩) hHeld ?_ ?_
      rotate_left
      · intro w' hS'
        go_simp
        rw [conv hS'.2]
        rfl
      rotate_left
      · simp only [Act.put, List.setIfInBounds_toArray, List.set_cons_zero, List.set_cons_succ, i64_w, i32_w]
        rfl
      refine pure_ (i := 25) (N := some 66) (v := ?_) (a' := ?_) #[true, true, true, true, true, true, true, true, true, true, true, true, true, true, true, true, true, true, true, true, true, true, true, true, true, true, false, false, false, false, false] rfl rfl (any_of HT_.out (by kernel_rfl)) (fun _ _ _ h => h) (Or.inl ⟨by rfl, ?_⟩) ?_ ?_
      rotate_left
      · intro w'
        go_simp
        with_reducible rfl
      rotate_left
      · simp only [Act.put, List.setIfInBounds_toArray, List.set_cons_zero, List.set_cons_succ, i64_w, i32_w]
        rfl
      refine pure_ (i := 26) (N := some 67) (v := ?_) (a' := ?_) #[true, true, true, true, true, true, true, true, true, true, true, true, true, true, true, true, true, true, true, true, true, true, true, true, true, true, true, false, false, false, false] rfl rfl (any_of HT_.out (by kernel_rfl)) (fun _ _ _ h => h) (Or.inl ⟨by rfl, ?_⟩) ?_ ?_
      rotate_left
      · intro w'
        go_simp
        with_reducible rfl
      rotate_left
      · simp only [Act.put, List.setIfInBounds_toArray, List.set_cons_zero, List.set_cons_succ, i64_w, i32_w]
        rfl
      refine pure_ (i := 27) (N := some 68) (v := ?_) (a' := ?_) #[true, true, true, true, true, true, true, true, true, true, true, true, true, true, true, true, true, true, true, true, true, true, true, true, true, true, true, true, false, false, false] rfl rfl (any_of HT_.out (by kernel_rfl)) (fun _ _ _ h => h) (Or.inl ⟨by rfl, ?_⟩) ?_ ?_
      rotate_left
      · intro w'
        go_simp
        with_reducible rfl
      rotate_left
      · simp only [Act.put, List.setIfInBounds_toArray, List.set_cons_zero, List.set_cons_succ, i64_w, i32_w]
        rfl
      refine one_ (i := 28) (N := some 69) #[true, true, true, true, true, true, true, true, true, true, true, true, true, true, true, true, true, true, true, true, true, true, true, true, true, true, true, true, true, false, false] rfl rfl (one_of HT_.out (by kernel_rfl)) (by decide) (fun K hK => ?_)
      refine goes_ Try.func8 (by kernel_rfl) rfl #[] (by rfl) rfl rfl (by (try simp only [List.map_toArray, List.map_cons, List.map_nil]); first | done | rfl) ?_
      with_reducible refine (awake_any _).mono ?_
      rintro e w10 ⟨rfl, hb⟩
      refine ⟨_, rfl, ?_⟩
      replace K0 := InB.below K0 hb
      replace K1 := below_step K1 hb
      replace K2 := InB.below K2 hb
      replace i6 := InB.below i6 hb
      clear hb
      refine hK.out _ _ ⟨K2, i6⟩ (fun hHeld => ?_)
      clear hK K
      refine norm_ (a' := ?_) ?_ ?_
      rotate_left
      · show Act.put _ (some 69) _ = _
        simp only [Act.put, List.setIfInBounds_toArray, List.set_cons_zero, List.set_cons_succ, i64_w, i32_w]
        rfl
      refine pure_ (i := 29) (N := some 70) (v := ?_) (a' := ?_) #[true, true, true, true, true, true, true, true, true, true, true, true, true, true, true, true, true, true, true, true, true, true, true, true, true, true, true, true, true, true, false] rfl rfl (any_of HT_.out (by kernel_rfl)) (fun _ _ _ h => h) (Or.inl ⟨by rfl, ?_⟩) ?_ ?_
      rotate_left
      · intro w'
        go_simp
        with_reducible rfl
      rotate_left
      · simp only [Act.put, List.setIfInBounds_toArray, List.set_cons_zero, List.set_cons_succ, i64_w, i32_w]
        rfl
      refine pure_ (i := 30) (N := some 2) (v := ?_) (a' := ?_) #[true, true, true, true, true, true, true, true, true, true, true, true, true, true, true, true, true, true, true, true, true, true, true, true, true, true, true, true, true, true, true] rfl rfl (any_of HT_.out (by kernel_rfl)) (fun _ _ _ h => h) (Or.inl ⟨by rfl, ?_⟩) ?_ ?_
      rotate_left
      · intro w'
        go_simp
        with_reducible rfl
      rotate_left
      · simp only [Act.put, List.setIfInBounds_toArray, List.set_cons_zero, List.set_cons_succ, i64_w, i32_w]
        rfl
      refine done_ (done_of HT_.out (by kernel_rfl)) ?_
      go_wp2
      go_ret
      exact ⟨by first | rfl | simp [Act.put], K1⟩
    · have HF : Aside0 (firstL x 0 = ((i : Int), true)) := ⟨by simpa [firstL] using hf⟩
      rw [hI.out.len] at hi
      obtain ⟨h1, h2, h3⟩ := hI.out.step hi hno (fun j hj => hbel j (by omega) hj)
      obtain ⟨y, hy⟩ : ∃ y, withN x i true = y := ⟨_, rfl⟩
      have EY := Aside0.mk hy
      rw [hy] at h1
      have HI := Aside0.mk h1
      have HL := Aside0.mk h3
      have LT := Aside0.mk hi
      have BX : Aside0 (Bytes x) := ⟨hI.out.bytes⟩
      have LX : Aside0 (i < 8 * x.length) := ⟨by rw [hI.out.len]; exact hi⟩
      have q2 : ¬ (i : Int) ≤ last := by omega
      clear hf hno hbel hI h1 h2 h3 hy hi
      go_wp2_with (first | (go_at_call 11; refine (first_is hX.out sx.out BX.out (i : Int) true HF.out).mono ?_; rintro e w1 ⟨rfl, hb⟩; have K1' := Aside0.mk (below_step hB.out hb); have K2' := Aside0.mk (InB.below hX.out hb); clear hb) | (go_at_call 10; refine (has_is (InB.below H0.out K1'.out) s0.out B0.out i false HL.out).mono ?_; rintro e w' ⟨rfl, ⟨nd, rfl⟩⟩) | (go_at_call 9; refine (with_is (InB.drew K2'.out _) sx.out i y LX.out EY.out).mono ?_; rintro e w3 ⟨A3, c3, rfl, hi3, hb⟩; have HB3 := Aside0.mk (below_step (pw_below_drewN K1'.out _) hb); have HI3 := Aside0.mk hi3; clear hb hi3))
      go_roundw
      case rel => exact ⟨y, A3, c3, (i : Int), t + 1, n + 1, by go_num, rfl, rfl, by go_num, HI, HI3, HB3⟩
      case measure => simp [intOf]; omega

set_option maxHeartbeats 1000000 in
/-- More than 20 bytes: the closed case alone. -/
theorem fills_far (A0 : Option Addr) (c0 n0 : Nat) (w : World) (g : 20 < n0) :
    Calls Try.prog 6 #[.slice A0 n0 c0] w fun e w' => e = .returned (.bool true) ∧ Below w.heap.size w w' := by
  have t0 : (20 : Int) < (n0 : Int) := by omega
  clear g
  go_enter Try.func6, Try.ntmps6
  go_wp2_with (go_at_call 8; refine (awake_any _).mono ?_; rintro e w4 ⟨rfl, hb4⟩; have HB := Aside0.mk hb4; clear hb4)
  go_ret
  exact ⟨rfl, HB.out⟩
end Go.Proofs.Ytgmkbcoahilkhaa.Fills
