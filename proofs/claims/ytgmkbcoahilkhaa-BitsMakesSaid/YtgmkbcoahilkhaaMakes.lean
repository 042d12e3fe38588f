/- The law BitsMakes, walked. -/
import Derived.Test.YtgmkbcoahilkhaaTotal
import Derived.Test.YtgmkbcoahilkhaaPlainE
import Derived.Test.YtgmkbcoahilkhaaPureBitsWith
import Derived.Lib.ConvBytes
namespace Go.Proofs.Ytgmkbcoahilkhaa.Makes
set_option linter.unusedSimpArgs false
set_option linter.unusedVariables false
open Go.RowKit Go.Proofs.Ytgmkbcoahilkhaa.PAll Go.Proofs.YtgmkbcoahilkhaaW.PrintWords Go.Proofs.YtgmkbcoahilkhaaW.PrintLast Go.Proofs.YtgmkbcoahilkhaaW.PrintMore Go.Proofs.Ytgmkbcoahilkhaa.Plain Go.Proofs.Ytgmkbcoahilkhaa.Total
attribute [local go_sem] max2_int min2_int max_two min_two

theorem conv {A : Option Addr} {c : Nat} {l : List Int} {w : World} (h : InB w A l c) : (convert 22 9 (.slice A l.length c)).run Try.prog w = .ok (.string (strOfNums l)) w :=
  Kd.C_string Try.underlying22 Try.underlying5 Try.underlying9 h.reads
/-- Cells that may be read and written, in memory of the call's own. -/
def Wr (w : World) (base : Nat) (A : Option Addr) (n : Nat) : Prop := ∀ i, i < n → ∃ g : Nat, A = some ⟨g, 0, none⟩ ∧ base ≤ g ∧ (∃ x : Int, w.cell? ⟨g, i, none⟩ = some (.int .u8 x)) ∧ w.frozen? ⟨g, i, none⟩ = false
theorem Wr.below {w w1 : World} {base : Nat} {A : Option Addr} {n : Nat} (h : Wr w base A n) (hb : Below w.heap.size w w1) : Wr w1 base A n := fun i hi => by
  obtain ⟨g, h1, h2, ⟨x, h3⟩, h4⟩ := h i hi
  have hlt := World.block_lt_of_cell? w _ h3
  exact ⟨g, h1, h2, ⟨x, (hb.cell hlt).trans h3⟩, (hb.frozen hlt).trans h4⟩
theorem Wr.drew1 {w : World} {base : Nat} {A : Option Addr} {n : Nat} (h : Wr w base A n) : Wr w.drew base A n := h.below (below_drew (Below.refl _ _))
theorem Wr.drew {w : World} {base : Nat} {A : Option Addr} {n : Nat} (h : Wr w base A n) (k : Nat) : Wr (w.drewN k) base A n := h.below (pw_below_drewN (Below.refl _ _) k)
theorem Wr.set_ {w : World} {base : Nat} {A : Option Addr} {n : Nat} (h : Wr w base A n) (p : Addr) (v : Int) : Wr (w.setCell p (.int .u8 v)) base A n := fun i hi => by
  obtain ⟨g, h1, h2, ⟨x, h3⟩, h4⟩ := h i hi
  refine ⟨g, h1, h2, ?_, ?_⟩
  · by_cases e : p = ⟨g, i, none⟩
    · subst e
      exact ⟨v, World.cell?_setCell_same _ _ _ h3⟩
    · exact ⟨x, by rw [World.cell?_setCell_other _ _ _ _ e]; exact h3⟩
  · rw [World.frozen?_setCell]; exact h4
theorem OwnB.wr {w : World} {base : Nat} {v : Value} {l : List Int} (h : OwnB w base v l) : ∃ A c, v = .slice A l.length c ∧ InB w A l c ∧ Wr w base A l.length := by
  obtain ⟨A, c, rfl, hi⟩ := h.slice
  refine ⟨A, c, rfl, hi, fun i hlt => ?_⟩
  obtain ⟨g, cap, he, hg, _⟩ := Kd.R_form h (by omega)
  simp only [Value.slice.injEq, true_and] at he
  obtain ⟨rfl, rfl⟩ := he
  obtain ⟨h1, h2⟩ := Kd.R_cell (0 : Int) h (i : Int) (by omega) (by omega)
  simp only [Int.toNat_natCast] at h1 h2
  exact ⟨g, rfl, hg, ⟨_, h1⟩, h2⟩
section
variable {A : Option Addr} {c : Nat} {l : List Int} {w : World}
theorem with_is (h : InB w A l c) (hl : Small l) (i : Int) (on : Bool) (y : List Int) (hy : withL l i on = y) : Calls Try.prog 9 #[.slice A l.length c, .int .i64 i, .bool on] w fun e w' => ∃ (A1 : Option Addr) (c1 : Nat), e = .returned (.slice A1 y.length c1) ∧ InB w' A1 y c1 ∧ Wr w' w.heap.size A1 y.length ∧ Below w.heap.size w w' := by
  refine (with_any h hl _ on).mono ?_
  rintro e w' ⟨v, rfl, hr, hB⟩
  rw [hy] at hr
  obtain ⟨A1, c1, rfl, hi, hw⟩ := OwnB.wr hr
  exact ⟨A1, c1, rfl, hi, hw, hB⟩
theorem rwith_is (h : InB w A l c) (hl : Small l) (hb : Bytes l) (i : Int) (hi : i ≤ 9223372036854775807) (on : Bool) (y : List Int) (hy : withL l i on = y) : Calls Try.prog 22 #[.slice A l.length c, .int .i64 i, .bool on] w fun e w' => ∃ (A1 : Option Addr) (c1 : Nat), e = .returned (.slice A1 y.length c1) ∧ InB w' A1 y c1 ∧ Below w.heap.size w w' := by
  obtain ⟨k, hk⟩ := (ref_with_eq hl hb i hi on).rounds
  rw [hy] at hk
  refine (intarsiaref04_With.calls k A c l i on y w h.reads h.room hk).mono ?_
  rintro e w' ⟨v, rfl, hr, hB⟩
  obtain ⟨A1, c1, rfl, hi⟩ := OwnB.slice hr
  exact ⟨A1, c1, rfl, hi, hB⟩
variable {A1 : Option Addr} {c1 : Nat} {l1 : List Int}
theorem join_is (h : InB w A l c) (h1 : InB w A1 l1 c1) (hl : Small l) (hl1 : Small l1) (J : List Int) (hJ : Given.joinL Given.orB l l1 = J) : Calls Try.prog 20 #[.slice A l.length c, .slice A1 l1.length c1] w fun e w' => ∃ (A1 : Option Addr) (c1 : Nat), e = .returned (.slice A1 J.length c1) ∧ InB w' A1 J c1 ∧ Wr w' w.heap.size A1 J.length ∧ Below w.heap.size w w' := by
  rw [← hJ]
  refine (join_any h h1 hl hl1).mono ?_
  rintro e w' ⟨v, rfl, hr, hB⟩
  obtain ⟨A1, c1, rfl, hi, hw⟩ := OwnB.wr hr
  exact ⟨A1, c1, rfl, hi, hw, hB⟩
theorem less_is (h : InB w A l c) (h1 : InB w A1 l1 c1) (hl : Small l) (hl1 : Small l1) (J : List Int) (hJ : Given.joinL Given.andNotB l l1 = J) : Calls Try.prog 21 #[.slice A l.length c, .slice A1 l1.length c1] w fun e w' => ∃ (A1 : Option Addr) (c1 : Nat), e = .returned (.slice A1 J.length c1) ∧ InB w' A1 J c1 ∧ Wr w' w.heap.size A1 J.length ∧ Below w.heap.size w w' := by
  rw [← hJ]
  refine (less_any h h1 hl hl1).mono ?_
  rintro e w' ⟨v, rfl, hr, hB⟩
  obtain ⟨A1, c1, rfl, hi, hw⟩ := OwnB.wr hr
  exact ⟨A1, c1, rfl, hi, hw, hB⟩
theorem rjoin_is (h : InB w A l c) (h1 : InB w A1 l1 c1) (hl : Small l) (hl1 : Small l1) (hb : Bytes l) (hb1 : Bytes l1) (J : List Int) (hJ : Given.joinL Given.orB l l1 = J) : Calls Try.prog 23 #[.slice A l.length c, .slice A1 l1.length c1] w fun e w' => ∃ (A1 : Option Addr) (c1 : Nat), e = .returned (.slice A1 J.length c1) ∧ InB w' A1 J c1 ∧ Below w.heap.size w w' := by
  obtain ⟨k, hk⟩ := (ref_join_eq hl hl1 hb hb1).rounds
  rw [hJ] at hk
  refine (intarsiaref04_Join.calls k A c l A1 c1 l1 J w h.reads h.room h1.reads h1.room hk).mono ?_
  rintro e w' ⟨v, rfl, hr, hB⟩
  obtain ⟨A1, c1, rfl, hi⟩ := OwnB.slice hr
  exact ⟨A1, c1, rfl, hi, hB⟩
theorem rless_is (h : InB w A l c) (h1 : InB w A1 l1 c1) (hl : Small l) (hl1 : Small l1) (hb : Bytes l) (hb1 : Bytes l1) (J : List Int) (hJ : Given.joinL Given.andNotB l l1 = J) : Calls Try.prog 24 #[.slice A l.length c, .slice A1 l1.length c1] w fun e w' => ∃ (A1 : Option Addr) (c1 : Nat), e = .returned (.slice A1 J.length c1) ∧ InB w' A1 J c1 ∧ Below w.heap.size w w' := by
  obtain ⟨k, hk⟩ := (ref_less_eq hl hl1 hb hb1).rounds
  rw [hJ] at hk
  refine (intarsiaref04_Less.calls k A c l A1 c1 l1 J w h.reads h.room h1.reads h1.room hk).mono ?_
  rintro e w' ⟨v, rfl, hr, hB⟩
  obtain ⟨A1, c1, rfl, hi⟩ := OwnB.slice hr
  exact ⟨A1, c1, rfl, hi, hB⟩
end
theorem Wr.lower {w : World} {base base' : Nat} {A : Option Addr} {n : Nat} (h : Wr w base A n) (hb : base' ≤ base) : Wr w base' A n := fun i hi => by
  obtain ⟨g, h1, h2, h3⟩ := h i hi
  exact ⟨g, h1, by omega, h3⟩
theorem in_set {w w1 : World} {A : Option Addr} {l : List Int} {c g k : Nat} {v : Value} (h : InB w1 A l c) (hb : Below w.heap.size w w1) (h0 : InB w A l c) (hg : w.heap.size ≤ g) : InB (w1.setCell ⟨g, k, none⟩ v) A l c := h0.below (hb.setCell hg v)
theorem swapS {P : Program} {ops : Array Oper} {Q : Exit → Act → World → Prop} {md : Region.Mode} {S S' : World → Prop} (hS : ∀ w, S' w → S w) : ∀ (fuel : Nat) (listed : Array Bool) (a : Act) (w : World), S' w → wpAnyLast P md ops Q S' [] fuel listed a w → wpAnyLast P md ops Q S [] fuel listed a w
  | 0, _, _, _, _, h => h
  | fuel + 1, _, _, w, hw, h => ⟨h.1, fun i hi => wpOp_mono (fun a' w' h' => ⟨fun _ _ => hS _ (h'.1 (by simp) hw), swapS hS fuel _ a' w' (h'.1 (by simp) hw) h'.2⟩) (h.2 i hi)⟩

def T5_5 : Bool × List (List Nat × List Nat) := (true, [([], []), ([0], [0]), ([], []), ([], []), ([2, 3], [2, 3]), ([4], [4]), ([1, 5], [1, 5]), ([6, 4], [6]), ([7], [7]), ([7], [7]), ([8, 9, 7, 7], [7, 8, 9]), ([10, 7], [7, 10]), ([7], [7]), ([7], [7]), ([12, 13, 10, 7], [7, 12, 13]), ([14, 7], [7, 14]), ([11, 15, 7], [7, 11, 15]), ([7, 16], [7, 16]), ([17, 14], [17]), ([18], [18]), ([19, 18], [18, 19]), ([18], [18]), ([18], [18]), ([21, 22, 18, 18], [18, 21, 22]), ([23, 18], [18, 23]), ([20, 24, 18], [18, 20, 24]), ([18, 25], [18, 25]), ([26, 23], [26]), ([27], [27]), ([28, 27], [27, 28]), ([27], [27]), ([27], [27]), ([30, 31, 27, 27], [27, 30, 31]), ([32, 27], [27, 32]), ([29, 33, 27], [27, 29, 33]), ([27, 34], [27, 34]), ([35, 32, 0, 1, 2, 3, 4, 5, 6, 7, 8, 9, 10, 11, 12, 13, 14, 15, 16, 17, 18, 19, 20, 21, 22, 23, 24, 25, 26, 27, 28, 29, 30, 31, 32, 33, 34, 35], [35])])
def B5_5 : List Nat := [0, 1, 0, 0, 12, 28, 63, 127, 255, 255, 1023, 2047, 255, 255, 14335, 30719, 65535, 131071, 262143, 524287, 1048575, 524287, 524287, 6815743, 15204351, 33554431, 67108863, 134217727, 268435455, 536870911, 268435455, 268435455, 3489660927, 7784628223, 17179869183, 34359738367, 68719476735]
theorem tab5_5 : rtab .any (opsOf Try.f5 5) = T5_5 := by kernel_rfl
theorem bits5_5 : waitsOk T5_5.2 B5_5 = true := by kernel_rfl

set_option maxHeartbeats 16000000 in
set_option maxRecDepth 100000 in
theorem makes_calls (A0 : Option Addr) (c0 : Nat) (l0 : List Int) (A1 : Option Addr) (c1 : Nat) (l1 : List Int) (i : Int) (w : World) (h0 : InB w A0 l0 c0) (h1 : InB w A1 l1 c1) (hb0 : Bytes l0) (hb1 : Bytes l1) (g0 : l0.length ≤ 60) (g1 : l1.length ≤ 60) (hi : i ≤ 9223372036854775807) :
    Calls Try.prog 5 #[.slice A0 l0.length c0, .slice A1 l1.length c1, .int .i64 i] w fun e w' => e = .returned (.bool true) ∧ Below w.heap.size w w' := by
  have H0 := Aside0.mk h0
  have H1 := Aside0.mk h1
  have B0 := Aside0.mk hb0
  have B1 := Aside0.mk hb1
  have HI := Aside0.mk hi
  have s0 : Aside0 (Small l0) := ⟨by unfold Small; omega⟩
  have s1 : Aside0 (Small l1) := ⟨by unfold Small; omega⟩
  have t0 : ¬ (60 : Int) < (l0.length : Int) := by omega
  have t1 : ¬ (60 : Int) < (l1.length : Int) := by omega
  obtain ⟨X, hX⟩ : ∃ X, withL l0 i true = X := ⟨_, rfl⟩
  obtain ⟨X', hX'⟩ : ∃ X, withL l0 i false = X := ⟨_, rfl⟩
  obtain ⟨Y, hY⟩ : ∃ Y, Given.joinL Given.orB l0 l1 = Y := ⟨_, rfl⟩
  obtain ⟨Z, hZ⟩ : ∃ Z, Given.joinL Given.andNotB l0 l1 = Z := ⟨_, rfl⟩
  have EX := Aside0.mk hX
  have EX' := Aside0.mk hX'
  have EY := Aside0.mk hY
  have EZ := Aside0.mk hZ
  have LX : Aside0 (X.length ≤ 60) := ⟨by rw [← hX]; unfold withL; split <;> (try rw [withN_length]) <;> omega⟩
  have LY : Aside0 (Y.length ≤ 60) := ⟨by rw [← hY, Given.joinL_length]; omega⟩
  have LZ : Aside0 (Z.length ≤ 60) := ⟨by rw [← hZ, Given.joinL_length]; omega⟩
  have z0 : (strOfNums l0).size ≤ 60 := by rw [strOfNums_size]; exact g0
  have z1 : (strOfNums l1).size ≤ 60 := by rw [strOfNums_size]; exact g1
  have hc0 := conv h0
  have hc1 := conv h1
  clear h0 h1 hb0 hb1 g0 g1 hi hX hX' hY hZ
  go_enter Try.func5, Try.ntmps5
  go_wp2_with (first
    | (go_at_call 9; refine (with_is H0.out s0.out i true X EX.out).mono ?_; rintro e w1 ⟨Ax, cx, rfl, ix, wx, hb⟩; have IX := Aside0.mk ix; have WX := Aside0.mk wx; have HB1 := Aside0.mk hb; clear ix wx hb)
    | (go_at_call 20; refine (join_is (H0.out.below HB1.out) (H1.out.below HB1.out) s0.out s1.out Y EY.out).mono ?_; rintro e w2 ⟨Ay, cy, rfl, iy, wy, hb⟩; have IX2 := Aside0.mk (IX.out.below hb); have WX2 := Aside0.mk (WX.out.below hb); have IY := Aside0.mk iy; have WY := Aside0.mk (wy.lower HB1.out.size); have HB2 := Aside0.mk (below_step HB1.out hb); clear iy wy hb)
    | (go_at_call 21; refine (less_is (H0.out.below HB2.out) (H1.out.below HB2.out) s0.out s1.out Z EZ.out).mono ?_; rintro e w3 ⟨Az, cz, rfl, iz, wz, hb⟩; have IX3 := Aside0.mk (IX2.out.below hb); have WX3 := Aside0.mk (WX2.out.below hb); have IY3 := Aside0.mk (IY.out.below hb); have WY3 := Aside0.mk (WY.out.below hb); have IZ3 := Aside0.mk iz; have WZ3 := Aside0.mk (wz.lower HB2.out.size); have HB3 := Aside0.mk (below_step HB2.out hb); clear iz wz hb))
  have K0 := (H0.out.below HB3.out).drew1
  have K3 := (H1.out.below HB3.out).drew1
  have K1 := below_drew HB3.out
  have KX := IX3.out.drew1
  have KY := IY3.out.drew1
  have KZ := IZ3.out.drew1
  have WX' := WX3.out.drew1
  have WY' := WY3.out.drew1
  have WZ' := WZ3.out.drew1
  clear HB1 HB2 HB3 IX IX2 IX3 IY IY3 IZ3 WX WX2 WX3 WY WY3 WZ3 hc0 hc1
  have WX := WX'
  have WY := WY'
  have WZ := WZ'
  clear WX' WY' WZ'
  refine start_ (n := 37) (S := fun w' => InB w' Ax X cx ∧ InB w' Ay Y cy ∧ InB w' Az Z cz) (ds := []) #[false, false, false, false, false, false, false, false, false, false, false, false, false, false, false, false, false, false, false, false, false, false, false, false, false, false, false, false, false, false, false, false, false, false, false, false, false] (by kernel_rfl) rfl rfl ⟨KX, KY, KZ⟩ (fun hHeld => ?_); refine with_tabW tab5_5 bits5_5 (fun HT_ HW_ => ?_)
  refine pure_ (i := 0) (N := some 37) (v := ?_) (a' := ?_) #[true, false, false, false, false, false, false, false, false, false, false, false, false, false, false, false, false, false, false, false, false, false, false, false, false, false, false, false, false, false, false, false, false, false, false, false, false] rfl rfl (any_of HT_.out (by kernel_rfl)) (fun _ _ _ h => h) (Or.inl ⟨by rfl, ?_⟩) ?_ ?_
  rotate_left
  · intro w'
    go_simp
    with_reducible rfl
  rotate_left
  · simp only [Act.put, List.setIfInBounds_toArray, List.set_cons_zero, List.set_cons_succ, i64_w, i32_w]
    rfl
  refine take_ (i := 1) (N := some 38) (v := ?_) (a' := ?_) #[true, true, false, false, false, false, false, false, false, false, false, false, false, false, false, false, false, false, false, false, false, false, false, false, false, false, false, false, false, false, false, false, false, false, false, false, false] rfl rfl (take_ofW HT_.out HW_.out (by kernel_rfl)) (fun _ _ _ h => h) (Or.inl ⟨by rfl, ?_⟩) hHeld ?_ ?_
  rotate_left
  · intro w' hS'
    go_simp
    rw [conv hS'.1]
    rfl
  rotate_left
  · simp only [Act.put, List.setIfInBounds_toArray, List.set_cons_zero, List.set_cons_succ, i64_w, i32_w]
    rfl
  refine pure_ (i := 2) (N := some 39) (v := ?_) (a' := ?_) #[true, true, true, false, false, false, false, false, false, false, false, false, false, false, false, false, false, false, false, false, false, false, false, false, false, false, false, false, false, false, false, false, false, false, false, false, false] rfl rfl (any_of HT_.out (by kernel_rfl)) (fun _ _ _ h => h) (Or.inl ⟨by rfl, ?_⟩) ?_ ?_
  rotate_left
  · intro w'
    go_simp
    with_reducible rfl
  rotate_left
  · simp only [Act.put, List.setIfInBounds_toArray, List.set_cons_zero, List.set_cons_succ, i64_w, i32_w]
    rfl
  refine pure_ (i := 3) (N := some 40) (v := ?_) (a' := ?_) #[true, true, true, true, false, false, false, false, false, false, false, false, false, false, false, false, false, false, false, false, false, false, false, false, false, false, false, false, false, false, false, false, false, false, false, false, false] rfl rfl (any_of HT_.out (by kernel_rfl)) (fun _ _ _ h => h) (Or.inl ⟨by rfl, ?_⟩) ?_ ?_
  rotate_left
  · intro w'
    go_simp
    with_reducible rfl
  rotate_left
  · simp only [Act.put, List.setIfInBounds_toArray, List.set_cons_zero, List.set_cons_succ, i64_w, i32_w]
    rfl
  refine one_ (i := 4) (N := some 41) #[true, true, true, true, true, false, false, false, false, false, false, false, false, false, false, false, false, false, false, false, false, false, false, false, false, false, false, false, false, false, false, false, false, false, false, false, false] rfl rfl (one_of HT_.out (by kernel_rfl)) (by decide) (fun K hK => ?_)
  refine goes_ Try.func22 (by kernel_rfl) rfl #[.slice A0 l0.length c0, .int .i64 i, .bool true] (by rfl) rfl rfl (by (try simp only [List.map_toArray, List.map_cons, List.map_nil]); first | done | rfl) ?_
  with_reducible refine (rwith_is K0 s0.out B0.out i HI.out true X EX.out).mono ?_
  rintro e w5 ⟨D1, d1, rfl, i1, hb⟩
  refine ⟨_, rfl, ?_⟩
  replace K0 := InB.below K0 hb
  replace K3 := InB.below K3 hb
  replace K1 := below_step K1 hb
  replace KX := InB.below KX hb
  replace KY := InB.below KY hb
  replace KZ := InB.below KZ hb
  replace WX := Wr.below WX hb
  replace WY := Wr.below WY hb
  replace WZ := Wr.below WZ hb
  clear hb
  refine hK.out _ _ ⟨KX, KY, KZ⟩ (fun hHeld => ?_)
  clear hK K
  refine norm_ (a' := ?_) ?_ ?_
  rotate_left
  · show Act.put _ (some 41) _ = _
    simp only [Act.put, List.setIfInBounds_toArray, List.set_cons_zero, List.set_cons_succ, i64_w, i32_w]
    rfl
  have hHeld2 : (fun w' => (InB w' Ax X cx ∧ InB w' Ay Y cy ∧ InB w' Az Z cz) ∧ InB w' D1 X d1) _ := ⟨⟨KX, KY, KZ⟩, i1⟩
  refine swapS (S' := fun w' => (InB w' Ax X cx ∧ InB w' Ay Y cy ∧ InB w' Az Z cz) ∧ InB w' D1 X d1) (fun _ h => h.1) _ _ _ _ hHeld2 ?_
  clear hHeld
  have hHeld := hHeld2
  clear hHeld2
  refine take_ (i := 5) (N := some 42) (v := ?_) (a' := ?_) #[true, true, true, true, true, true, false, false, false, false, false, false, false, false, false, false, false, false, false, false, false, false, false, false, false, false, false, false, false, false, false, false, false, false, false, false, false] rfl rfl (take_ofW HT_.out HW_.out (by kernel_rfl)) (fun _ _ _ h => h) (Or.inl ⟨by rfl, ?_⟩) hHeld ?_ ?_
  rotate_left
  · intro w' hS'
    go_simp
    rw [conv hS'.2]
    rfl
  rotate_left
  · simp only [Act.put, List.setIfInBounds_toArray, List.set_cons_zero, List.set_cons_succ, i64_w, i32_w]
    rfl
  refine pure_ (i := 6) (N := some 43) (v := ?_) (a' := ?_) #[true, true, true, true, true, true, true, false, false, false, false, false, false, false, false, false, false, false, false, false, false, false, false, false, false, false, false, false, false, false, false, false, false, false, false, false, false] rfl rfl (any_of HT_.out (by kernel_rfl)) (fun _ _ _ h => h) (Or.inl ⟨by rfl, ?_⟩) ?_ ?_
  rotate_left
  · intro w'
    go_simp
    with_reducible rfl
  rotate_left
  · simp only [Act.put, List.setIfInBounds_toArray, List.set_cons_zero, List.set_cons_succ, i64_w, i32_w]
    rfl
  refine pure_ (i := 7) (N := some 44) (v := ?_) (a' := ?_) #[true, true, true, true, true, true, true, true, false, false, false, false, false, false, false, false, false, false, false, false, false, false, false, false, false, false, false, false, false, false, false, false, false, false, false, false, false] rfl rfl (any_of HT_.out (by kernel_rfl)) (fun _ _ _ h => h) (Or.inl ⟨by rfl, ?_⟩) ?_ ?_
  rotate_left
  · intro w'
    go_simp
    with_reducible rfl
  rotate_left
  · simp only [Act.put, List.setIfInBounds_toArray, List.set_cons_zero, List.set_cons_succ, i64_w, i32_w]
    rfl
  refine pure_ (i := 8) (N := some 45) (v := ?_) (a' := ?_) #[true, true, true, true, true, true, true, true, true, false, false, false, false, false, false, false, false, false, false, false, false, false, false, false, false, false, false, false, false, false, false, false, false, false, false, false, false] rfl rfl (any_of HT_.out (by kernel_rfl)) (fun _ _ _ h => h) (Or.inl ⟨by rfl, ?_⟩) ?_ ?_
  rotate_left
  · intro w'
    go_simp
    with_reducible rfl
  rotate_left
  · simp only [Act.put, List.setIfInBounds_toArray, List.set_cons_zero, List.set_cons_succ, i64_w, i32_w]
    rfl
  refine pure_ (i := 9) (N := some 46) (v := ?_) (a' := ?_) #[true, true, true, true, true, true, true, true, true, true, false, false, false, false, false, false, false, false, false, false, false, false, false, false, false, false, false, false, false, false, false, false, false, false, false, false, false] rfl rfl (any_of HT_.out (by kernel_rfl)) (fun _ _ _ h => h) (Or.inl ⟨by rfl, ?_⟩) ?_ ?_
  rotate_left
  · intro w'
    go_simp
    with_reducible rfl
  rotate_left
  · simp only [Act.put, List.setIfInBounds_toArray, List.set_cons_zero, List.set_cons_succ, i64_w, i32_w]
    rfl
  refine pure_ (i := 12) (N := some 49) (v := ?_) (a' := ?_) #[true, true, true, true, true, true, true, true, true, true, false, false, true, false, false, false, false, false, false, false, false, false, false, false, false, false, false, false, false, false, false, false, false, false, false, false, false] rfl rfl (any_of HT_.out (by kernel_rfl)) (fun _ _ _ h => h) (Or.inl ⟨by rfl, ?_⟩) ?_ ?_
  rotate_left
  · intro w'
    go_simp
    with_reducible rfl
  rotate_left
  · simp only [Act.put, List.setIfInBounds_toArray, List.set_cons_zero, List.set_cons_succ, i64_w, i32_w]
    rfl
  refine pure_ (i := 13) (N := some 50) (v := ?_) (a' := ?_) #[true, true, true, true, true, true, true, true, true, true, false, false, true, true, false, false, false, false, false, false, false, false, false, false, false, false, false, false, false, false, false, false, false, false, false, false, false] rfl rfl (any_of HT_.out (by kernel_rfl)) (fun _ _ _ h => h) (Or.inl ⟨by rfl, ?_⟩) ?_ ?_
  rotate_left
  · intro w'
    go_simp
    with_reducible rfl
  rotate_left
  · simp only [Act.put, List.setIfInBounds_toArray, List.set_cons_zero, List.set_cons_succ, i64_w, i32_w]
    rfl
  refine one_ (i := 10) (N := some 47) #[true, true, true, true, true, true, true, true, true, true, true, false, true, true, false, false, false, false, false, false, false, false, false, false, false, false, false, false, false, false, false, false, false, false, false, false, false] rfl rfl (one_of HT_.out (by kernel_rfl)) (by decide) (fun K hK => ?_)
  refine goes_ Try.func9 (by kernel_rfl) rfl #[.slice A0 l0.length c0, .int .i64 i, .bool false] (by rfl) rfl rfl (by (try simp only [List.map_toArray, List.map_cons, List.map_nil]); first | done | rfl) ?_
  with_reducible refine (with_is K0 s0.out i false X' EX'.out).mono ?_
  rintro e w6 ⟨D2, d2, rfl, i2, _, hb⟩
  refine ⟨_, rfl, ?_⟩
  replace K0 := InB.below K0 hb
  replace K3 := InB.below K3 hb
  replace K1 := below_step K1 hb
  replace KX := InB.below KX hb
  replace KY := InB.below KY hb
  replace KZ := InB.below KZ hb
  replace WX := Wr.below WX hb
  replace WY := Wr.below WY hb
  replace WZ := Wr.below WZ hb
  replace i1 := InB.below i1 hb
  clear hb
  refine hK.out _ _ ⟨⟨KX, KY, KZ⟩, i1⟩ (fun hHeld => ?_)
  clear hK K
  refine norm_ (a' := ?_) ?_ ?_
  rotate_left
  · show Act.put _ (some 47) _ = _
    simp only [Act.put, List.setIfInBounds_toArray, List.set_cons_zero, List.set_cons_succ, i64_w, i32_w]
    rfl
  have hHeld2 : (fun w' => ((InB w' Ax X cx ∧ InB w' Ay Y cy ∧ InB w' Az Z cz) ∧ InB w' D1 X d1) ∧ InB w' D2 X' d2) _ := ⟨⟨⟨KX, KY, KZ⟩, i1⟩, i2⟩
  refine swapS (S' := fun w' => ((InB w' Ax X cx ∧ InB w' Ay Y cy ∧ InB w' Az Z cz) ∧ InB w' D1 X d1) ∧ InB w' D2 X' d2) (fun _ h => h.1) _ _ _ _ hHeld2 ?_
  clear hHeld
  have hHeld := hHeld2
  clear hHeld2
  refine take_ (i := 11) (N := some 48) (v := ?_) (a' := ?_) #[true, true, true, true, true, true, true, true, true, true, true, true, true, true, false, false, false, false, false, false, false, false, false, false, false, false, false, false, false, false, false, false, false, false, false, false, false] rfl rfl (take_ofW HT_.out HW_.out (by kernel_rfl)) (fun _ _ _ h => h) (Or.inl ⟨by rfl, ?_⟩) hHeld ?_ ?_
  rotate_left
  · intro w' hS'
    go_simp
    rw [conv hS'.2]
    rfl
  rotate_left
  · simp only [Act.put, List.setIfInBounds_toArray, List.set_cons_zero, List.set_cons_succ, i64_w, i32_w]
    rfl
  refine one_ (i := 14) (N := some 51) #[true, true, true, true, true, true, true, true, true, true, true, true, true, true, true, false, false, false, false, false, false, false, false, false, false, false, false, false, false, false, false, false, false, false, false, false, false] rfl rfl (one_of HT_.out (by kernel_rfl)) (by decide) (fun K hK => ?_)
  refine goes_ Try.func22 (by kernel_rfl) rfl #[.slice A0 l0.length c0, .int .i64 i, .bool false] (by rfl) rfl rfl (by (try simp only [List.map_toArray, List.map_cons, List.map_nil]); first | done | rfl) ?_
  with_reducible refine (rwith_is K0 s0.out B0.out i HI.out false X' EX'.out).mono ?_
  rintro e w7 ⟨D3, d3, rfl, i3, hb⟩
  refine ⟨_, rfl, ?_⟩
  replace K0 := InB.below K0 hb
  replace K3 := InB.below K3 hb
  replace K1 := below_step K1 hb
  replace KX := InB.below KX hb
  replace KY := InB.below KY hb
  replace KZ := InB.below KZ hb
  replace WX := Wr.below WX hb
  replace WY := Wr.below WY hb
  replace WZ := Wr.below WZ hb
  replace i1 := InB.below i1 hb
  replace i2 := InB.below i2 hb
  clear hb
  refine hK.out _ _ ⟨⟨⟨KX, KY, KZ⟩, i1⟩, i2⟩ (fun hHeld => ?_)
  clear hK K
  refine norm_ (a' := ?_) ?_ ?_
  rotate_left
  · show Act.put _ (some 51) _ = _
    simp only [Act.put, List.setIfInBounds_toArray, List.set_cons_zero, List.set_cons_succ, i64_w, i32_w]
    rfl
  have hHeld2 : (fun w' => (((InB w' Ax X cx ∧ InB w' Ay Y cy ∧ InB w' Az Z cz) ∧ InB w' D1 X d1) ∧ InB w' D2 X' d2) ∧ InB w' D3 X' d3) _ := ⟨⟨⟨⟨KX, KY, KZ⟩, i1⟩, i2⟩, i3⟩
  refine swapS (S' := fun w' => (((InB w' Ax X cx ∧ InB w' Ay Y cy ∧ InB w' Az Z cz) ∧ InB w' D1 X d1) ∧ InB w' D2 X' d2) ∧ InB w' D3 X' d3) (fun _ h => h.1) _ _ _ _ hHeld2 ?_
  clear hHeld
  have hHeld := hHeld2
  clear hHeld2
  refine take_ (i := 15) (N := some 52) (v := ?_) (a' := ?_) #[true, true, true, true, true, true, true, true, true, true, true, true, true, true, true, true, false, false, false, false, false, false, false, false, false, false, false, false, false, false, false, false, false, false, false, false, false] rfl rfl (take_ofW HT_.out HW_.out (by kernel_rfl)) (fun _ _ _ h => h) (Or.inl ⟨by rfl, ?_⟩) hHeld ?_ ?_
  rotate_left
  · intro w' hS'
    go_simp
    rw [conv hS'.2]
    rfl
  rotate_left
  · simp only [Act.put, List.setIfInBounds_toArray, List.set_cons_zero, List.set_cons_succ, i64_w, i32_w]
    rfl
  refine pure_ (i := 16) (N := some 53) (v := ?_) (a' := ?_) #[true, true, true, true, true, true, true, true, true, true, true, true, true, true, true, true, true, false, false, false, false, false, false, false, false, false, false, false, false, false, false, false, false, false, false, false, false] rfl rfl (any_of HT_.out (by kernel_rfl)) (fun _ _ _ h => h) (Or.inl ⟨by rfl, ?_⟩) ?_ ?_
  rotate_left
  · intro w'
    go_simp
    with_reducible rfl
  rotate_left
  · simp only [Act.put, List.setIfInBounds_toArray, List.set_cons_zero, List.set_cons_succ, i64_w, i32_w]
    rfl
  refine pure_ (i := 17) (N := some 54) (v := ?_) (a' := ?_) #[true, true, true, true, true, true, true, true, true, true, true, true, true, true, true, true, true, true, false, false, false, false, false, false, false, false, false, false, false, false, false, false, false, false, false, false, false] rfl rfl (any_of HT_.out (by kernel_rfl)) (fun _ _ _ h => h) (Or.inl ⟨by rfl, ?_⟩) ?_ ?_
  rotate_left
  · intro w'
    go_simp
    with_reducible rfl
  rotate_left
  · simp only [Act.put, List.setIfInBounds_toArray, List.set_cons_zero, List.set_cons_succ, i64_w, i32_w]
    rfl
  refine pure_ (i := 18) (N := some 55) (v := ?_) (a' := ?_) #[true, true, true, true, true, true, true, true, true, true, true, true, true, true, true, true, true, true, true, false, false, false, false, false, false, false, false, false, false, false, false, false, false, false, false, false, false] rfl rfl (any_of HT_.out (by kernel_rfl)) (fun _ _ _ h => h) (Or.inl ⟨by rfl, ?_⟩) ?_ ?_
  rotate_left
  · intro w'
    go_simp
    with_reducible rfl
  rotate_left
  · simp only [Act.put, List.setIfInBounds_toArray, List.set_cons_zero, List.set_cons_succ, i64_w, i32_w]
    rfl
  refine pure_ (i := 19) (N := some 56) (v := ?_) (a' := ?_) #[true, true, true, true, true, true, true, true, true, true, true, true, true, true, true, true, true, true, true, true, false, false, false, false, false, false, false, false, false, false, false, false, false, false, false, false, false] rfl rfl (any_of HT_.out (by kernel_rfl)) (fun _ _ _ h => h) (Or.inl ⟨by rfl, ?_⟩) ?_ ?_
  rotate_left
  · intro w'
    go_simp
    with_reducible rfl
  rotate_left
  · simp only [Act.put, List.setIfInBounds_toArray, List.set_cons_zero, List.set_cons_succ, i64_w, i32_w]
    rfl
  refine take_ (i := 20) (N := some 57) (v := ?_) (a' := ?_) #[true, true, true, true, true, true, true, true, true, true, true, true, true, true, true, true, true, true, true, true, true, false, false, false, false, false, false, false, false, false, false, false, false, false, false, false, false] rfl rfl (take_ofW HT_.out HW_.out (by kernel_rfl)) (fun _ _ _ h => h) (Or.inl ⟨by rfl, ?_⟩) hHeld ?_ ?_
  rotate_left
  · intro w' hS'
    go_simp
    rw [conv hS'.1.1.1.2.1]
    rfl
  rotate_left
  · simp only [Act.put, List.setIfInBounds_toArray, List.set_cons_zero, List.set_cons_succ, i64_w, i32_w]
    rfl
  refine pure_ (i := 21) (N := some 58) (v := ?_) (a' := ?_) #[true, true, true, true, true, true, true, true, true, true, true, true, true, true, true, true, true, true, true, true, true, true, false, false, false, false, false, false, false, false, false, false, false, false, false, false, false] rfl rfl (any_of HT_.out (by kernel_rfl)) (fun _ _ _ h => h) (Or.inl ⟨by rfl, ?_⟩) ?_ ?_
  rotate_left
  · intro w'
    go_simp
    with_reducible rfl
  rotate_left
  · simp only [Act.put, List.setIfInBounds_toArray, List.set_cons_zero, List.set_cons_succ, i64_w, i32_w]
    rfl
  refine pure_ (i := 22) (N := some 59) (v := ?_) (a' := ?_) #[true, true, true, true, true, true, true, true, true, true, true, true, true, true, true, true, true, true, true, true, true, true, true, false, false, false, false, false, false, false, false, false, false, false, false, false, false] rfl rfl (any_of HT_.out (by kernel_rfl)) (fun _ _ _ h => h) (Or.inl ⟨by rfl, ?_⟩) ?_ ?_
  rotate_left
  · intro w'
    go_simp
    with_reducible rfl
  rotate_left
  · simp only [Act.put, List.setIfInBounds_toArray, List.set_cons_zero, List.set_cons_succ, i64_w, i32_w]
    rfl
  refine one_ (i := 23) (N := some 60) #[true, true, true, true, true, true, true, true, true, true, true, true, true, true, true, true, true, true, true, true, true, true, true, true, false, false, false, false, false, false, false, false, false, false, false, false, false] rfl rfl (one_of HT_.out (by kernel_rfl)) (by decide) (fun K hK => ?_)
  refine goes_ Try.func23 (by kernel_rfl) rfl #[.slice A0 l0.length c0, .slice A1 l1.length c1] (by rfl) rfl rfl (by (try simp only [List.map_toArray, List.map_cons, List.map_nil]); first | done | rfl) ?_
  with_reducible refine (rjoin_is K0 K3 s0.out s1.out B0.out B1.out Y EY.out).mono ?_
  rintro e w8 ⟨D4, d4, rfl, i4, hb⟩
  refine ⟨_, rfl, ?_⟩
  replace K0 := InB.below K0 hb
  replace K3 := InB.below K3 hb
  replace K1 := below_step K1 hb
  replace KX := InB.below KX hb
  replace KY := InB.below KY hb
  replace KZ := InB.below KZ hb
  replace WX := Wr.below WX hb
  replace WY := Wr.below WY hb
  replace WZ := Wr.below WZ hb
  replace i1 := InB.below i1 hb
  replace i2 := InB.below i2 hb
  replace i3 := InB.below i3 hb
  clear hb
  refine hK.out _ _ ⟨⟨⟨⟨KX, KY, KZ⟩, i1⟩, i2⟩, i3⟩ (fun hHeld => ?_)
  clear hK K
  refine norm_ (a' := ?_) ?_ ?_
  rotate_left
  · show Act.put _ (some 60) _ = _
    simp only [Act.put, List.setIfInBounds_toArray, List.set_cons_zero, List.set_cons_succ, i64_w, i32_w]
    rfl
  have hHeld2 : (fun w' => ((((InB w' Ax X cx ∧ InB w' Ay Y cy ∧ InB w' Az Z cz) ∧ InB w' D1 X d1) ∧ InB w' D2 X' d2) ∧ InB w' D3 X' d3) ∧ InB w' D4 Y d4) _ := ⟨⟨⟨⟨⟨KX, KY, KZ⟩, i1⟩, i2⟩, i3⟩, i4⟩
  refine swapS (S' := fun w' => ((((InB w' Ax X cx ∧ InB w' Ay Y cy ∧ InB w' Az Z cz) ∧ InB w' D1 X d1) ∧ InB w' D2 X' d2) ∧ InB w' D3 X' d3) ∧ InB w' D4 Y d4) (fun _ h => h.1) _ _ _ _ hHeld2 ?_
  clear hHeld
  have hHeld := hHeld2
  clear hHeld2
  refine take_ (i := 24) (N := some 61) (v := ?_) (a' := ?_) #[true, true, true, true, true, true, true, true, true, true, true, true, true, true, true, true, true, true, true, true, true, true, true, true, true, false, false, false, false, false, false, false, false, false, false, false, false] rfl rfl (take_ofW HT_.out HW_.out (by kernel_rfl)) (fun _ _ _ h => h) (Or.inl ⟨by rfl, ?_⟩) hHeld ?_ ?_
  rotate_left
  · intro w' hS'
    go_simp
    rw [conv hS'.2]
    rfl
  rotate_left
  · simp only [Act.put, List.setIfInBounds_toArray, List.set_cons_zero, List.set_cons_succ, i64_w, i32_w]
    rfl
  refine pure_ (i := 25) (N := some 62) (v := ?_) (a' := ?_) #[true, true, true, true, true, true, true, true, true, true, true, true, true, true, true, true, true, true, true, true, true, true, true, true, true, true, false, false, false, false, false, false, false, false, false, false, false] rfl rfl (any_of HT_.out (by kernel_rfl)) (fun _ _ _ h => h) (Or.inl ⟨by rfl, ?_⟩) ?_ ?_
  rotate_left
  · intro w'
    go_simp
    with_reducible rfl
  rotate_left
  · simp only [Act.put, List.setIfInBounds_toArray, List.set_cons_zero, List.set_cons_succ, i64_w, i32_w]
    rfl
  refine pure_ (i := 26) (N := some 63) (v := ?_) (a' := ?_) #[true, true, true, true, true, true, true, true, true, true, true, true, true, true, true, true, true, true, true, true, true, true, true, true, true, true, true, false, false, false, false, false, false, false, false, false, false] rfl rfl (any_of HT_.out (by kernel_rfl)) (fun _ _ _ h => h) (Or.inl ⟨by rfl, ?_⟩) ?_ ?_
  rotate_left
  · intro w'
    go_simp
    with_reducible rfl
  rotate_left
  · simp only [Act.put, List.setIfInBounds_toArray, List.set_cons_zero, List.set_cons_succ, i64_w, i32_w]
    rfl
  refine pure_ (i := 27) (N := some 64) (v := ?_) (a' := ?_) #[true, true, true, true, true, true, true, true, true, true, true, true, true, true, true, true, true, true, true, true, true, true, true, true, true, true, true, true, false, false, false, false, false, false, false, false, false] rfl rfl (any_of HT_.out (by kernel_rfl)) (fun _ _ _ h => h) (Or.inl ⟨by rfl, ?_⟩) ?_ ?_
  rotate_left
  · intro w'
    go_simp
    with_reducible rfl
  rotate_left
  · simp only [Act.put, List.setIfInBounds_toArray, List.set_cons_zero, List.set_cons_succ, i64_w, i32_w]
    rfl
  refine pure_ (i := 28) (N := some 65) (v := ?_) (a' := ?_) #[true, true, true, true, true, true, true, true, true, true, true, true, true, true, true, true, true, true, true, true, true, true, true, true, true, true, true, true, true, false, false, false, false, false, false, false, false] rfl rfl (any_of HT_.out (by kernel_rfl)) (fun _ _ _ h => h) (Or.inl ⟨by rfl, ?_⟩) ?_ ?_
  rotate_left
  · intro w'
    go_simp
    with_reducible rfl
  rotate_left
  · simp only [Act.put, List.setIfInBounds_toArray, List.set_cons_zero, List.set_cons_succ, i64_w, i32_w]
    rfl
  refine take_ (i := 29) (N := some 66) (v := ?_) (a' := ?_) #[true, true, true, true, true, true, true, true, true, true, true, true, true, true, true, true, true, true, true, true, true, true, true, true, true, true, true, true, true, true, false, false, false, false, false, false, false] rfl rfl (take_ofW HT_.out HW_.out (by kernel_rfl)) (fun _ _ _ h => h) (Or.inl ⟨by rfl, ?_⟩) hHeld ?_ ?_
  rotate_left
  · intro w' hS'
    go_simp
    rw [conv hS'.1.1.1.1.2.2]
    rfl
  rotate_left
  · simp only [Act.put, List.setIfInBounds_toArray, List.set_cons_zero, List.set_cons_succ, i64_w, i32_w]
    rfl
  refine pure_ (i := 30) (N := some 67) (v := ?_) (a' := ?_) #[true, true, true, true, true, true, true, true, true, true, true, true, true, true, true, true, true, true, true, true, true, true, true, true, true, true, true, true, true, true, true, false, false, false, false, false, false] rfl rfl (any_of HT_.out (by kernel_rfl)) (fun _ _ _ h => h) (Or.inl ⟨by rfl, ?_⟩) ?_ ?_
  rotate_left
  · intro w'
    go_simp
    with_reducible rfl
  rotate_left
  · simp only [Act.put, List.setIfInBounds_toArray, List.set_cons_zero, List.set_cons_succ, i64_w, i32_w]
    rfl
  refine pure_ (i := 31) (N := some 68) (v := ?_) (a' := ?_) #[true, true, true, true, true, true, true, true, true, true, true, true, true, true, true, true, true, true, true, true, true, true, true, true, true, true, true, true, true, true, true, true, false, false, false, false, false] rfl rfl (any_of HT_.out (by kernel_rfl)) (fun _ _ _ h => h) (Or.inl ⟨by rfl, ?_⟩) ?_ ?_
  rotate_left
  · intro w'
    go_simp
    with_reducible rfl
  rotate_left
  · simp only [Act.put, List.setIfInBounds_toArray, List.set_cons_zero, List.set_cons_succ, i64_w, i32_w]
    rfl
  refine one_ (i := 32) (N := some 69) #[true, true, true, true, true, true, true, true, true, true, true, true, true, true, true, true, true, true, true, true, true, true, true, true, true, true, true, true, true, true, true, true, true, false, false, false, false] rfl rfl (one_of HT_.out (by kernel_rfl)) (by decide) (fun K hK => ?_)
  refine goes_ Try.func24 (by kernel_rfl) rfl #[.slice A0 l0.length c0, .slice A1 l1.length c1] (by rfl) rfl rfl (by (try simp only [List.map_toArray, List.map_cons, List.map_nil]); first | done | rfl) ?_
  with_reducible refine (rless_is K0 K3 s0.out s1.out B0.out B1.out Z EZ.out).mono ?_
  rintro e w9 ⟨D5, d5, rfl, i5, hb⟩
  refine ⟨_, rfl, ?_⟩
  replace K0 := InB.below K0 hb
  replace K3 := InB.below K3 hb
  replace K1 := below_step K1 hb
  replace KX := InB.below KX hb
  replace KY := InB.below KY hb
  replace KZ := InB.below KZ hb
  replace WX := Wr.below WX hb
  replace WY := Wr.below WY hb
  replace WZ := Wr.below WZ hb
  replace i1 := InB.below i1 hb
  replace i2 := InB.below i2 hb
  replace i3 := InB.below i3 hb
  replace i4 := InB.below i4 hb
  clear hb
  refine hK.out _ _ ⟨⟨⟨⟨⟨KX, KY, KZ⟩, i1⟩, i2⟩, i3⟩, i4⟩ (fun hHeld => ?_)
  clear hK K
  refine norm_ (a' := ?_) ?_ ?_
  rotate_left
  · show Act.put _ (some 69) _ = _
    simp only [Act.put, List.setIfInBounds_toArray, List.set_cons_zero, List.set_cons_succ, i64_w, i32_w]
    rfl
  have hHeld2 : (fun w' => (((((InB w' Ax X cx ∧ InB w' Ay Y cy ∧ InB w' Az Z cz) ∧ InB w' D1 X d1) ∧ InB w' D2 X' d2) ∧ InB w' D3 X' d3) ∧ InB w' D4 Y d4) ∧ InB w' D5 Z d5) _ := ⟨⟨⟨⟨⟨⟨KX, KY, KZ⟩, i1⟩, i2⟩, i3⟩, i4⟩, i5⟩
  refine swapS (S' := fun w' => (((((InB w' Ax X cx ∧ InB w' Ay Y cy ∧ InB w' Az Z cz) ∧ InB w' D1 X d1) ∧ InB w' D2 X' d2) ∧ InB w' D3 X' d3) ∧ InB w' D4 Y d4) ∧ InB w' D5 Z d5) (fun _ h => h.1) _ _ _ _ hHeld2 ?_
  clear hHeld
  have hHeld := hHeld2
  clear hHeld2
  refine take_ (i := 33) (N := some 70) (v := ?_) (a' := ?_) #[true, true, true, true, true, true, true, true, true, true, true, true, true, true, true, true, true, true, true, true, true, true, true, true, true, true, true, true, true, true, true, true, true, true, false, false, false] rfl rfl (take_ofW HT_.out HW_.out (by kernel_rfl)) (fun _ _ _ h => h) (Or.inl ⟨by rfl, ?_⟩) hHeld ?_ ?_
  rotate_left
  · intro w' hS'
    go_simp
    rw [conv hS'.2]
    rfl
  rotate_left
  · simp only [Act.put, List.setIfInBounds_toArray, List.set_cons_zero, List.set_cons_succ, i64_w, i32_w]
    rfl
  refine pure_ (i := 34) (N := some 71) (v := ?_) (a' := ?_) #[true, true, true, true, true, true, true, true, true, true, true, true, true, true, true, true, true, true, true, true, true, true, true, true, true, true, true, true, true, true, true, true, true, true, true, false, false] rfl rfl (any_of HT_.out (by kernel_rfl)) (fun _ _ _ h => h) (Or.inl ⟨by rfl, ?_⟩) ?_ ?_
  rotate_left
  · intro w'
    go_simp
    with_reducible rfl
  rotate_left
  · simp only [Act.put, List.setIfInBounds_toArray, List.set_cons_zero, List.set_cons_succ, i64_w, i32_w]
    rfl
  refine pure_ (i := 35) (N := some 72) (v := ?_) (a' := ?_) #[true, true, true, true, true, true, true, true, true, true, true, true, true, true, true, true, true, true, true, true, true, true, true, true, true, true, true, true, true, true, true, true, true, true, true, true, false] rfl rfl (any_of HT_.out (by kernel_rfl)) (fun _ _ _ h => h) (Or.inl ⟨by rfl, ?_⟩) ?_ ?_
  rotate_left
  · intro w'
    go_simp
    with_reducible rfl
  rotate_left
  · simp only [Act.put, List.setIfInBounds_toArray, List.set_cons_zero, List.set_cons_succ, i64_w, i32_w]
    rfl
  refine pure_ (i := 36) (N := some 11) (v := ?_) (a' := ?_) #[true, true, true, true, true, true, true, true, true, true, true, true, true, true, true, true, true, true, true, true, true, true, true, true, true, true, true, true, true, true, true, true, true, true, true, true, true] rfl rfl (any_of HT_.out (by kernel_rfl)) (fun _ _ _ h => h) (Or.inl ⟨by rfl, ?_⟩) ?_ ?_
  rotate_left
  · intro w'
    go_simp
    with_reducible rfl
  rotate_left
  · simp only [Act.put, List.setIfInBounds_toArray, List.set_cons_zero, List.set_cons_succ, i64_w, i32_w]
    rfl
  refine done_ (done_of HT_.out (by kernel_rfl)) ?_
  have HK0 := Aside0.mk K0
  have HK3 := Aside0.mk K3
  have HK1 := Aside0.mk K1
  have HWX := Aside0.mk WX
  have HWY := Aside0.mk WY
  have HWZ := Aside0.mk WZ
  clear K0 K3 K1 KX KY KZ WX WY WZ i1 i2 i3 i4 i5 hHeld
  have lx0 : (0 : Int) ≤ (X.length : Int) := by omega
  have lx1 : (X.length : Int) ≤ 60 := by have := LX.out; omega
  have ly1 : (Y.length : Int) ≤ 60 := by have := LY.out; omega
  have lz1 : (Z.length : Int) ≤ 60 := by have := LZ.out; omega
  go_wp2
  go_loopw [12] (fun v12 wr => ∃ k : Nat, v12 = .int .i64 (k : Int) ∧ Aside0 (k ≤ X.length) ∧ Aside0 (InB wr A0 l0 c0) ∧ Aside0 (InB wr A1 l1 c1) ∧ Aside0 (Below w.heap.size w wr) ∧ Aside0 (Wr wr w.heap.size Ax X.length) ∧ Aside0 (Wr wr w.heap.size Ay Y.length) ∧ Aside0 (Wr wr w.heap.size Az Z.length)) (fun v12 _ => X.length - (intOf v12).toNat)
  case atStart => exact ⟨0, rfl, ⟨Nat.zero_le _⟩, HK0, HK3, HK1, HWX, HWY, HWZ⟩
  case round =>
    clear HK0 HK3 HK1 HWX HWY HWZ
    obtain ⟨k, rfl, hk, HK0, HK3, HK1, HWX, HWY, HWZ⟩ := hrel
    by_cases hlt : k < X.length
    · obtain ⟨g, rfl, hg, ⟨x, hcell⟩, hfr⟩ := HWX.out k hlt
      have q0 : (k : Int) < (X.length : Int) := by omega
      have G := Aside0.mk hg
      have LT := Aside0.mk hlt
      clear hg hlt
      go_wp2
      go_roundw
      case rel => exact ⟨k + 1, by go_num, ⟨by have := LT.out; omega⟩, ⟨in_set HK0.out HK1.out H0.out G.out⟩, ⟨in_set HK3.out HK1.out H1.out G.out⟩, ⟨HK1.out.setCell G.out _⟩, ⟨HWX.out.set_ _ _⟩, ⟨HWY.out.set_ _ _⟩, ⟨HWZ.out.set_ _ _⟩⟩
      case measure => have := LT.out; simp [intOf]; omega
    · have q0 : ¬ (k : Int) < (X.length : Int) := by omega
      clear hlt
      go_wp2
      go_loopw [13] (fun v13 wr => ∃ k : Nat, v13 = .int .i64 (k : Int) ∧ Aside0 (k ≤ Y.length) ∧ Aside0 (InB wr A0 l0 c0) ∧ Aside0 (InB wr A1 l1 c1) ∧ Aside0 (Below w.heap.size w wr) ∧ Aside0 (Wr wr w.heap.size Ay Y.length) ∧ Aside0 (Wr wr w.heap.size Az Z.length)) (fun v13 _ => Y.length - (intOf v13).toNat)
      case atStart => exact ⟨0, rfl, ⟨Nat.zero_le _⟩, HK0, HK3, HK1, HWY, HWZ⟩
      case round =>
        clear HK0 HK3 HK1 HWX HWY HWZ
        obtain ⟨k, rfl, hk, HK0, HK3, HK1, HWY, HWZ⟩ := hrel
        by_cases hly : k < Y.length
        · have q0 : (k : Int) < (Y.length : Int) := by omega
          by_cases hlz : k < Z.length
          · have q1 : (k : Int) < (Z.length : Int) := by omega
            obtain ⟨gy, rfl, hgy, ⟨xy, hcy⟩, hfy⟩ := HWY.out k hly
            obtain ⟨gz, rfl, hgz, ⟨xz, hcz⟩, hfz⟩ := HWZ.out k hlz
            have GY := Aside0.mk hgy
            have GZ := Aside0.mk hgz
            have LT := Aside0.mk hly
            clear hgy hgz hly hlz
            by_cases e : gy = gz
            · subst e
              go_wp2
              go_roundw
              case rel => exact ⟨k + 1, by go_num, ⟨by have := LT.out; omega⟩, ⟨in_set (in_set HK0.out HK1.out H0.out GY.out) (HK1.out.setCell GY.out _) H0.out GY.out⟩, ⟨in_set (in_set HK3.out HK1.out H1.out GY.out) (HK1.out.setCell GY.out _) H1.out GY.out⟩, ⟨(HK1.out.setCell GY.out _).setCell GY.out _⟩, ⟨(HWY.out.set_ _ _).set_ _ _⟩, ⟨(HWZ.out.set_ _ _).set_ _ _⟩⟩
              case measure => have := LT.out; simp [intOf]; omega
            · go_wp2
              go_roundw
              case rel => exact ⟨k + 1, by go_num, ⟨by have := LT.out; omega⟩, ⟨in_set (in_set HK0.out HK1.out H0.out GY.out) (HK1.out.setCell GY.out _) H0.out GZ.out⟩, ⟨in_set (in_set HK3.out HK1.out H1.out GY.out) (HK1.out.setCell GY.out _) H1.out GZ.out⟩, ⟨(HK1.out.setCell GY.out _).setCell GZ.out _⟩, ⟨(HWY.out.set_ _ _).set_ _ _⟩, ⟨(HWZ.out.set_ _ _).set_ _ _⟩⟩
              case measure => have := LT.out; simp [intOf]; omega
          · have q1 : ¬ (k : Int) < (Z.length : Int) := by omega
            have hc0 := conv HK0.out
            have hc1 := conv HK3.out
            clear hly hlz
            go_wp2_with (go_at_call 8; refine (awake_any _).mono ?_; rintro e w4 ⟨rfl, hb4⟩; have HB := Aside0.mk (below_step HK1.out hb4); clear hb4)
            go_ret
            exact ⟨rfl, HB.out⟩
        · have q0 : ¬ (k : Int) < (Y.length : Int) := by omega
          have hc0 := conv HK0.out
          have hc1 := conv HK3.out
          clear hly
          go_wp2_with (go_at_call 8; refine (awake_any _).mono ?_; rintro e w4 ⟨rfl, hb4⟩; have HB := Aside0.mk (below_step HK1.out hb4); clear hb4)
          go_ret
          exact ⟨rfl, HB.out⟩

set_option maxHeartbeats 1000000 in
/-- More than 60 bytes: the closed case alone. -/
theorem makes_far (A0 : Option Addr) (c0 n0 : Nat) (A1 : Option Addr) (c1 n1 : Nat) (i : Int) (w : World) (g : 60 < n0 ∨ 60 < n1) :
    Calls Try.prog 5 #[.slice A0 n0 c0, .slice A1 n1 c1, .int .i64 i] w fun e w' => e = .returned (.bool true) ∧ Below w.heap.size w w' := by
  by_cases h0 : 60 < n0
  · have t0 : (60 : Int) < (n0 : Int) := by omega
    clear g h0
    go_enter Try.func5, Try.ntmps5
    go_wp2_with (go_at_call 8; refine (awake_any _).mono ?_; rintro e w4 ⟨rfl, hb4⟩; have HB := Aside0.mk hb4; clear hb4)
    go_ret
    exact ⟨rfl, HB.out⟩
  · have t0 : ¬ (60 : Int) < (n0 : Int) := by omega
    have t1 : (60 : Int) < (n1 : Int) := by omega
    clear g h0
    go_enter Try.func5, Try.ntmps5
    go_wp2_with (go_at_call 8; refine (awake_any _).mono ?_; rintro e w4 ⟨rfl, hb4⟩; have HB := Aside0.mk hb4; clear hb4)
    go_ret
    exact ⟨rfl, HB.out⟩
end Go.Proofs.Ytgmkbcoahilkhaa.Makes
