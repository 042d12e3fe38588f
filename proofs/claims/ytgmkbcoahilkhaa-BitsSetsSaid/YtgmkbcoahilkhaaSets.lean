/- The law BitsSets, walked. -/
import Derived.Test.YtgmkbcoahilkhaaTotal
import Derived.Test.YtgmkbcoahilkhaaPureBitsWith
import Derived.Test.YtgmkbcoahilkhaaPlainC
import Derived.Deep.RegionWith
namespace Go.Proofs.Ytgmkbcoahilkhaa.Sets
open Go.RowKit Go.Proofs.Ytgmkbcoahilkhaa.PAll Go.Proofs.YtgmkbcoahilkhaaW.PrintWords Go.Proofs.YtgmkbcoahilkhaaW.PrintLast Go.Proofs.YtgmkbcoahilkhaaW.PrintMore Go.Proofs.Ytgmkbcoahilkhaa.Plain Go.Proofs.Ytgmkbcoahilkhaa.Total
attribute [local go_sem] max2_int min2_int max_two min_two

theorem has_is {A : Option Addr} {c : Nat} {l : List Int} {w : World} (h : InB w A l c) (hl : Small l) (hb : Bytes l) (n : Nat) (x : Bool) (hx : hasN l n = x) : Calls Try.prog 10 #[.slice A l.length c, .int .i64 (n : Int)] w fun e w' => e = .returned (.bool x) ∧ Drawn0 w w' := by
  rw [← hx, ← hasL_nat]; exact has_any h hl hb _

theorem conv {A : Option Addr} {c : Nat} {l : List Int} {w : World} (h : InB w A l c) : (convert 22 9 (.slice A l.length c)).run Try.prog w = .ok (.string (strOfNums l)) w :=
  Kd.C_string Try.underlying22 Try.underlying5 Try.underlying9 h.reads
theorem count_is {A : Option Addr} {c : Nat} {l : List Int} {w : World} (h : InB w A l c) (hl : Small l) (hb : Bytes l) (n : Nat) (hn : countL l = n) : Calls Try.prog 17 #[.slice A l.length c] w fun e w' => e = .returned (.int .i64 (n : Int)) ∧ Drawn0 w w' := by
  rw [← hn]; exact count_any h hl hb
theorem join_is {A : Option Addr} {c : Nat} {l : List Int} {w : World} {A1 : Option Addr} {c1 : Nat} {l1 : List Int} (h : InB w A l c) (h1 : InB w A1 l1 c1) (hl : Small l) (hl1 : Small l1) (J : List Int) (hJ : Given.joinL Given.orB l l1 = J) : Calls Try.prog 20 #[.slice A l.length c, .slice A1 l1.length c1] w fun e w' => ∃ v : Value, e = .returned v ∧ OwnB w' w.heap.size v J ∧ Below w.heap.size w w' := by
  rw [← hJ]; exact join_any h h1 hl hl1

set_option maxHeartbeats 4000000 in
set_option maxRecDepth 100000 in
theorem sets_calls (A0 : Option Addr) (c0 : Nat) (l0 : List Int) (A1 : Option Addr) (c1 : Nat) (l1 : List Int) (w : World) (h0 : InB w A0 l0 c0) (h1 : InB w A1 l1 c1) (hb0 : Bytes l0) (hb1 : Bytes l1) (g0 : l0.length ≤ 40) (g1 : l1.length ≤ 40) :
    Calls Try.prog 7 #[.slice A0 l0.length c0, .slice A1 l1.length c1] w fun e w' => e = .returned (.bool true) ∧ Below w.heap.size w w' := by
  have H0 := Aside0.mk h0
  have H1 := Aside0.mk h1
  have B0 := Aside0.mk hb0
  have B1 := Aside0.mk hb1
  have s0 : Aside0 (Small l0) := ⟨by unfold Small; omega⟩
  have s1 : Aside0 (Small l1) := ⟨by unfold Small; omega⟩
  have t0 : ¬ (40 : Int) < (l0.length : Int) := by omega
  have t1 : ¬ (40 : Int) < (l1.length : Int) := by omega
  obtain ⟨N, hN⟩ : ∃ N : Nat, N = max l0.length l1.length := ⟨_, rfl⟩
  have NN := Aside0.mk hN
  have hmx : (if (l0.length : Int) < (l1.length : Int) then (l1.length : Int) else (l0.length : Int)) = (N : Int) := by split <;> omega
  have hmy : (if l0.length < l1.length then (l1.length : Int) else (l0.length : Int)) = (N : Int) := by split <;> omega
  have n0 : (0 : Int) ≤ (N : Int) := by omega
  have n1 : (N : Int) ≤ 40 := by omega
  obtain ⟨J, hJ⟩ : ∃ J, J = Given.joinL Given.orB l0 l1 := ⟨_, rfl⟩
  obtain ⟨L, hL⟩ : ∃ L, L = Given.joinL Given.andNotB l0 l1 := ⟨_, rfl⟩
  have EJ := Aside0.mk hJ
  have EL := Aside0.mk hL
  have bJ : Aside0 (Bytes J) := ⟨by rw [hJ]; exact joinL_bytes (fun _ _ => or_byte) hb0 hb1⟩
  have bL : Aside0 (Bytes L) := ⟨by rw [hL]; exact joinL_bytes (fun _ _ => andNot_byte) hb0 hb1⟩
  have lJ : Aside0 (J.length = N) := ⟨by rw [hJ, Given.joinL_length, hN]⟩
  have lL : Aside0 (L.length = N) := ⟨by rw [hL, Given.joinL_length, hN]⟩
  have sJ : Aside0 (Small J) := ⟨by unfold Small; rw [lJ.out]; omega⟩
  have sL : Aside0 (Small L) := ⟨by unfold Small; rw [lL.out]; omega⟩
  have ejoin : Aside0 (Given.joinL Given.orB L l1 = J) := ⟨by
    refine list_ext (joinL_bytes (fun _ _ => or_byte) bL.out hb1) bJ.out (by rw [Given.joinL_length, lL.out, lJ.out]; omega) (fun n _ => ?_)
    rw [hasN_join bL.out hb1, hL, hJ, hasN_less hb0 hb1, hasN_join hb0 hb1]
    cases hasN l0 n <;> cases hasN l1 n <;> rfl⟩
  have ecount : Aside0 (countL J = countL L + countL l1) := ⟨by
    refine count_split N (by rw [lJ.out]; omega) (by rw [lL.out]; omega) (by omega) (fun n => ?_) (fun n => ?_)
    · rw [hJ, hL, hasN_join hb0 hb1, hasN_less hb0 hb1]
      cases hasN l0 n <;> cases hasN l1 n <;> rfl
    · rw [hL, hasN_less hb0 hb1]
      cases hasN l0 n <;> cases hasN l1 n <;> simp⟩
  clear h0 h1 hb0 hb1 hN hJ hL g0 g1
  go_enter Try.func7, Try.ntmps7
  go_wp2_with (first | (go_at_call 20; refine (join_any H0.out H1.out s0.out s1.out).mono ?_; rintro e w1 ⟨v1, rfl, o1, hb⟩; rw [← EJ.out] at o1; obtain ⟨AJ, cJ, rfl, i1⟩ := o1.slice; clear o1; have HB1 := Aside0.mk hb; have IJ := Aside0.mk i1; clear hb i1) | (go_at_call 21; refine (less_any (H0.out.below HB1.out) (H1.out.below HB1.out) s0.out s1.out).mono ?_; rintro e w2 ⟨v2, rfl, o2, hb⟩; rw [← EL.out] at o2; obtain ⟨AL, cL, rfl, i2⟩ := o2.slice; clear o2; have IJ2 := Aside0.mk (IJ.out.below hb); have IL2 := Aside0.mk i2; have HB2 := Aside0.mk (below_then HB1.out HB1.out.size hb); clear hb i2 HB1 IJ))
  go_loopw [7] (fun v7 wr => ∃ n : Nat, v7 = .int .i64 (n : Int) ∧ Aside0 (n ≤ 8 * N) ∧ Aside0 (Below w.heap.size w wr) ∧ Aside0 (InB wr AJ J cJ) ∧ Aside0 (InB wr AL L cL)) (fun v7 _ => 8 * N - (intOf v7).toNat)
  case atStart => exact ⟨0, rfl, ⟨Nat.zero_le _⟩, HB2, IJ2, IL2⟩
  case round =>
    clear HB2 IJ2 IL2
    obtain ⟨n, rfl, hn, HB, IJ, IL⟩ := hrel
    by_cases hlt : n < 8 * N
    · have q0 : (n : Int) < 8 * (N : Int) := by omega
      obtain ⟨x, hx⟩ : ∃ x, hasN l0 n = x := ⟨_, rfl⟩
      obtain ⟨y, hy⟩ : ∃ y, hasN l1 n = y := ⟨_, rfl⟩
      have ej : Aside0 (hasN J n = (x || y)) := ⟨by rw [EJ.out, hasN_join B0.out B1.out, hx, hy]⟩
      have el : Aside0 (hasN L n = (x && !y)) := ⟨by rw [EL.out, hasN_less B0.out B1.out, hx, hy]⟩
      have X := Aside0.mk hx
      have Y := Aside0.mk hy
      clear hx hy hlt
      cases x <;> cases y
      · go_wp2_with (first | ((with_reducible refine (has_is (l := l0) (A := A0) (c := c0) ?side s0.out B0.out n false X.out).mono ?_); (case side => repeat (first | exact (H0.out.below HB.out) | (with_reducible refine InB.drew ?_ _) | (with_reducible refine InB.alloc ?_ _))); rintro e w' ⟨rfl, ⟨nd, rfl⟩⟩) | ((with_reducible refine (has_is (l := l1) (A := A1) (c := c1) ?side s1.out B1.out n false Y.out).mono ?_); (case side => repeat (first | exact (H1.out.below HB.out) | (with_reducible refine InB.drew ?_ _) | (with_reducible refine InB.alloc ?_ _))); rintro e w' ⟨rfl, ⟨nd, rfl⟩⟩) | ((with_reducible refine (has_is (l := J) (A := AJ) (c := cJ) ?side sJ.out bJ.out n false (by simpa using ej.out)).mono ?_); (case side => repeat (first | exact IJ.out | (with_reducible refine InB.drew ?_ _) | (with_reducible refine InB.alloc ?_ _))); rintro e w' ⟨rfl, ⟨nd, rfl⟩⟩) | ((with_reducible refine (has_is (l := L) (A := AL) (c := cL) ?side sL.out bL.out n false (by simpa using el.out)).mono ?_); (case side => repeat (first | exact IL.out | (with_reducible refine InB.drew ?_ _) | (with_reducible refine InB.alloc ?_ _))); rintro e w' ⟨rfl, ⟨nd, rfl⟩⟩))
        go_roundw
        case rel => exact ⟨n + 1, by go_num, ⟨by omega⟩, ⟨by repeat (first | exact HB.out | apply pw_below_drewN)⟩, ⟨by repeat (first | exact IJ.out | apply InB.drew)⟩, ⟨by repeat (first | exact IL.out | apply InB.drew)⟩⟩
        case measure => simp [intOf]; omega
      · go_wp2_with (first | ((with_reducible refine (has_is (l := l0) (A := A0) (c := c0) ?side s0.out B0.out n false X.out).mono ?_); (case side => repeat (first | exact (H0.out.below HB.out) | (with_reducible refine InB.drew ?_ _) | (with_reducible refine InB.alloc ?_ _))); rintro e w' ⟨rfl, ⟨nd, rfl⟩⟩) | ((with_reducible refine (has_is (l := l1) (A := A1) (c := c1) ?side s1.out B1.out n true Y.out).mono ?_); (case side => repeat (first | exact (H1.out.below HB.out) | (with_reducible refine InB.drew ?_ _) | (with_reducible refine InB.alloc ?_ _))); rintro e w' ⟨rfl, ⟨nd, rfl⟩⟩) | ((with_reducible refine (has_is (l := J) (A := AJ) (c := cJ) ?side sJ.out bJ.out n true (by simpa using ej.out)).mono ?_); (case side => repeat (first | exact IJ.out | (with_reducible refine InB.drew ?_ _) | (with_reducible refine InB.alloc ?_ _))); rintro e w' ⟨rfl, ⟨nd, rfl⟩⟩) | ((with_reducible refine (has_is (l := L) (A := AL) (c := cL) ?side sL.out bL.out n false (by simpa using el.out)).mono ?_); (case side => repeat (first | exact IL.out | (with_reducible refine InB.drew ?_ _) | (with_reducible refine InB.alloc ?_ _))); rintro e w' ⟨rfl, ⟨nd, rfl⟩⟩))
        go_roundw
        case rel => exact ⟨n + 1, by go_num, ⟨by omega⟩, ⟨by repeat (first | exact HB.out | apply pw_below_drewN)⟩, ⟨by repeat (first | exact IJ.out | apply InB.drew)⟩, ⟨by repeat (first | exact IL.out | apply InB.drew)⟩⟩
        case measure => simp [intOf]; omega
      · go_wp2_with (first | ((with_reducible refine (has_is (l := l0) (A := A0) (c := c0) ?side s0.out B0.out n true X.out).mono ?_); (case side => repeat (first | exact (H0.out.below HB.out) | (with_reducible refine InB.drew ?_ _) | (with_reducible refine InB.alloc ?_ _))); rintro e w' ⟨rfl, ⟨nd, rfl⟩⟩) | ((with_reducible refine (has_is (l := l1) (A := A1) (c := c1) ?side s1.out B1.out n false Y.out).mono ?_); (case side => repeat (first | exact (H1.out.below HB.out) | (with_reducible refine InB.drew ?_ _) | (with_reducible refine InB.alloc ?_ _))); rintro e w' ⟨rfl, ⟨nd, rfl⟩⟩) | ((with_reducible refine (has_is (l := J) (A := AJ) (c := cJ) ?side sJ.out bJ.out n true (by simpa using ej.out)).mono ?_); (case side => repeat (first | exact IJ.out | (with_reducible refine InB.drew ?_ _) | (with_reducible refine InB.alloc ?_ _))); rintro e w' ⟨rfl, ⟨nd, rfl⟩⟩) | ((with_reducible refine (has_is (l := L) (A := AL) (c := cL) ?side sL.out bL.out n true (by simpa using el.out)).mono ?_); (case side => repeat (first | exact IL.out | (with_reducible refine InB.drew ?_ _) | (with_reducible refine InB.alloc ?_ _))); rintro e w' ⟨rfl, ⟨nd, rfl⟩⟩))
        go_roundw
        case rel => exact ⟨n + 1, by go_num, ⟨by omega⟩, ⟨by repeat (first | exact HB.out | apply pw_below_drewN)⟩, ⟨by repeat (first | exact IJ.out | apply InB.drew)⟩, ⟨by repeat (first | exact IL.out | apply InB.drew)⟩⟩
        case measure => simp [intOf]; omega
      · go_wp2_with (first | ((with_reducible refine (has_is (l := l0) (A := A0) (c := c0) ?side s0.out B0.out n true X.out).mono ?_); (case side => repeat (first | exact (H0.out.below HB.out) | (with_reducible refine InB.drew ?_ _) | (with_reducible refine InB.alloc ?_ _))); rintro e w' ⟨rfl, ⟨nd, rfl⟩⟩) | ((with_reducible refine (has_is (l := l1) (A := A1) (c := c1) ?side s1.out B1.out n true Y.out).mono ?_); (case side => repeat (first | exact (H1.out.below HB.out) | (with_reducible refine InB.drew ?_ _) | (with_reducible refine InB.alloc ?_ _))); rintro e w' ⟨rfl, ⟨nd, rfl⟩⟩) | ((with_reducible refine (has_is (l := J) (A := AJ) (c := cJ) ?side sJ.out bJ.out n true (by simpa using ej.out)).mono ?_); (case side => repeat (first | exact IJ.out | (with_reducible refine InB.drew ?_ _) | (with_reducible refine InB.alloc ?_ _))); rintro e w' ⟨rfl, ⟨nd, rfl⟩⟩) | ((with_reducible refine (has_is (l := L) (A := AL) (c := cL) ?side sL.out bL.out n false (by simpa using el.out)).mono ?_); (case side => repeat (first | exact IL.out | (with_reducible refine InB.drew ?_ _) | (with_reducible refine InB.alloc ?_ _))); rintro e w' ⟨rfl, ⟨nd, rfl⟩⟩))
        go_roundw
        case rel => exact ⟨n + 1, by go_num, ⟨by omega⟩, ⟨by repeat (first | exact HB.out | apply pw_below_drewN)⟩, ⟨by repeat (first | exact IJ.out | apply InB.drew)⟩, ⟨by repeat (first | exact IL.out | apply InB.drew)⟩⟩
        case measure => simp [intOf]; omega
    · have q0 : ¬ (n : Int) < 8 * (N : Int) := by omega
      clear hlt
      obtain ⟨cj, hcj⟩ : ∃ c, countL J = c := ⟨_, rfl⟩
      obtain ⟨cl, hcl⟩ : ∃ c, countL L = c := ⟨_, rfl⟩
      obtain ⟨ck, hck⟩ : ∃ c, countL l1 = c := ⟨_, rfl⟩
      have CJ := Aside0.mk hcj
      have CL := Aside0.mk hcl
      have CK := Aside0.mk hck
      have e3 : cj = cl + ck := by have := ecount.out; omega
      have e4 : (cl : Int) ≤ 400 := by have := countL_le L; have := lL.out; omega
      have e5 : (ck : Int) ≤ 400 := by have := countL_le l1; have := NN.out; omega
      have e6 : (0 : Int) ≤ (cl : Int) := by omega
      have e7 : (0 : Int) ≤ (ck : Int) := by omega
      subst e3
      clear hcj hcl hck
      have hcv : ∀ w', InB w' AJ J cJ → (convert 22 9 (.slice AJ J.length cJ)).run Try.prog w' = .ok (.string (strOfNums J)) w' := fun w' h => conv h
      have hsum : IntKind.i64.wrap ((cl : Int) + (ck : Int)) = (cl : Int) + (ck : Int) := by rw [i64_w]; exact wrap_ok (by omega) (by omega)
      go_wp2_with fail
      have HS := And.intro IJ.out (And.intro IL.out (And.intro (H1.out.below HB.out) HB.out))
      have hs1 := InB.drew1 HS.1
      go_region_with (first | (go_at_call 20; refine (join_is (InB.drew1 HS.2.1) (InB.drew1 HS.2.2.1) sL.out s1.out J ejoin.out).mono ?_; rintro e w3 ⟨v3, rfl, o3, hb3⟩; obtain ⟨A3, c3, rfl, i3⟩ := o3.slice; have hcv3 := conv i3; have k1 := (InB.drew1 HS.1).below hb3; have k2 := (InB.drew1 HS.2.1).below hb3; have k3 := (InB.drew1 HS.2.2.1).below hb3; have k4 := below_then (below_drew HS.2.2.2) HS.2.2.2.size hb3; clear o3 hb3) | (go_at_call 17; (with_reducible refine (count_is (l := J) (A := AJ) (c := cJ) ?side sJ.out bJ.out _ CJ.out).mono ?_); (case side => (repeat (first | assumption | exact InB.drew1 HS.1 | exact InB.drew1 HS.2.1 | exact InB.drew1 HS.2.2.1 | exact below_drew HS.2.2.2 | (with_reducible refine InB.drew ?_ _) | (with_reducible refine pw_below_drewN ?_ _)))); rintro e w' ⟨rfl, ⟨nd, rfl⟩⟩) | (go_at_call 17; (with_reducible refine (count_is (l := L) (A := AL) (c := cL) ?side sL.out bL.out _ CL.out).mono ?_); (case side => (repeat (first | assumption | exact InB.drew1 HS.1 | exact InB.drew1 HS.2.1 | exact InB.drew1 HS.2.2.1 | exact below_drew HS.2.2.2 | (with_reducible refine InB.drew ?_ _) | (with_reducible refine pw_below_drewN ?_ _)))); rintro e w' ⟨rfl, ⟨nd, rfl⟩⟩) | (go_at_call 17; (with_reducible refine (count_is (l := l1) (A := A1) (c := c1) ?side s1.out B1.out _ CK.out).mono ?_); (case side => (repeat (first | assumption | exact InB.drew1 HS.1 | exact InB.drew1 HS.2.1 | exact InB.drew1 HS.2.2.1 | exact below_drew HS.2.2.2 | (with_reducible refine InB.drew ?_ _) | (with_reducible refine pw_below_drewN ?_ _)))); rintro e w' ⟨rfl, ⟨nd, rfl⟩⟩) | (go_at_call 8; refine (awake_any _).mono ?_; rintro e w4 ⟨rfl, hb4⟩; have m4 : Below w.heap.size w w4 := below_then (pw_below_drewN k4 _) (pw_below_drewN k4 _).size hb4))
      all_goals go_wp2
      all_goals go_ret
      all_goals exact ⟨by first | rfl | simp [Act.put], m4⟩

set_option maxHeartbeats 1000000 in
/-- More than 40 bytes: the closed case alone. -/
theorem sets_far (A0 : Option Addr) (c0 n0 : Nat) (A1 : Option Addr) (c1 n1 : Nat) (w : World) (g : 40 < n0 ∨ 40 < n1) :
    Calls Try.prog 7 #[.slice A0 n0 c0, .slice A1 n1 c1] w fun e w' => e = .returned (.bool true) ∧ Below w.heap.size w w' := by
  by_cases h0 : 40 < n0
  · have t0 : (40 : Int) < (n0 : Int) := by omega
    clear g h0
    go_enter Try.func7, Try.ntmps7
    go_wp2_with (go_at_call 8; refine (awake_any _).mono ?_; rintro e w4 ⟨rfl, hb4⟩; have HB := Aside0.mk hb4; clear hb4)
    go_ret
    exact ⟨rfl, HB.out⟩
  · have t0 : ¬ (40 : Int) < (n0 : Int) := by omega
    have t1 : (40 : Int) < (n1 : Int) := by omega
    clear g h0
    go_enter Try.func7, Try.ntmps7
    go_wp2_with (go_at_call 8; refine (awake_any _).mono ?_; rintro e w4 ⟨rfl, hb4⟩; have HB := Aside0.mk hb4; clear hb4)
    go_ret
    exact ⟨rfl, HB.out⟩
end Go.Proofs.Ytgmkbcoahilkhaa.Sets
