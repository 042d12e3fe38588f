/- The words, and the contracts of the functions that are reached, one behind the other. -/
import Derived.Laws.MakeOwn
import Derived.Test.YtplkndmkchpcdaaGreatPSA
set_option linter.unusedVariables false
set_option linter.unusedSimpArgs false
section
namespace Go.Proofs.YtplkndmkchpcdaaGreat.PShadowPlays
open Go.RowKit YtplkndmkchpcdaaGreatW.PrintWords YtplkndmkchpcdaaGreatW.PrintLast YtplkndmkchpcdaaGreatW.PrintMore
attribute [local go_sem] max2_int min2_int max_two min_two max_three min_three max_four min_four
def bytes_Clone.f (l0 : List Int) : Option (List Int) := if l0.length < 140737488355328 then some l0 else none
theorem bytes_Clone.calls (A0 : Option Addr) (c0 : Nat) (l0 : List Int) (r : List Int) (w : World) (hr0 : Kd.C (Kd.int .u8) w A0 l0.length l0) (hc0 : l0.length ≤ c0) (h : bytes_Clone.f l0 = some r) :
    Calls Tryz.prog 54 #[.slice A0 l0.length c0] w fun e w' => ∃ v0_ : Value, e = .returned (v0_) ∧ Kd.R (Kd.int .u8) 5 w' w.heap.size (fun _ => True) v0_ r ∧ Below w.heap.size w w' := by
  unfold bytes_Clone.f at h
  split at h
  · obtain rfl := Option.some.inj h
    exact Given.clone_any A0 c0 l0 w hr0 hc0 (by omega)
  · cases h
def bits_Make.f (a0 : Int) : Option (List Int) := some (List.replicate (Given.clampN a0) 0)
def sum_More.f (a0 : Int) (l1 : List Int) : Option Int := if 0 ≤ a0 then (if a0 < 4294967296 then (if l1.all (fun x => decide (0 ≤ x) && decide (x < 256)) = true then some ((Sum.moreN a0.toNat l1 : Nat) : Int) else none) else none) else none
theorem sum_More.calls (a0 : Int) (A1 : Option Addr) (c1 : Nat) (l1 : List Int) (r : Int) (w : World) (hr1 : Kd.C (Kd.int .u8) w A1 l1.length l1) (hc1 : l1.length ≤ c1) (h : sum_More.f a0 l1 = some r) :
    Calls Tryz.prog 164 #[.int .u32 a0, .slice A1 l1.length c1] w fun e w' => e = .returned (.int .u32 r) ∧ Below w.heap.size w w' := by
  unfold sum_More.f at h
  split at h
  · split at h
    · split at h
      · rename_i h0 h1 h2
        obtain rfl := Option.some.inj h
        have hb : Sum.Bytes l1 := by
          intro x hx
          have := List.all_eq_true.1 h2 x hx
          simpa using this
        have := Sum.more_any a0.toNat (by omega) A1 c1 l1 hb w hr1
        rwa [Int.toNat_of_nonneg h0] at this
      · cases h
    · cases h
  · cases h
def sum_Of.l0 : Nat → Int → List (List Int) → Int → Int → Option (Int)
  | 0, _, _, _, _ => none
  | k + 1, x3, x6, x7, x8 => if x8 < x7 then (if 0 ≤ x8 then (if x8 < (x6.length : Int) then ((sum_More.f x3 (rd_L1 x6 x8)).bind fun t105 => (sum_Of.l0 k t105 x6 x7 (wrap64 (x8 + 1)))) else (none)) else (none)) else (some x3)
def sum_Of.f (k : Nat) (l0 : List (List Int)) : Option (Int) := sum_Of.l0 k 0 l0 (l0.length : Int) 0
set_option maxHeartbeats 8000000 in
set_option maxRecDepth 100000 in
theorem sum_Of.calls (k : Nat) (A0 : Option Addr) (c0 : Nat) (l0 : List (List Int)) (r : Int) (w : World) (hr0 : Kd.C (Kd.slice 5 (Kd.int .u8)) w A0 l0.length l0) (hc0 : l0.length ≤ c0) (h : sum_Of.f k l0 = some r) :
    Calls Tryz.prog 157 #[.slice A0 l0.length c0] w fun e w' => e = .returned (.int .u32 r) ∧ Below w.heap.size w w' := by
  have HR0 := Aside0.mk hr0
  have HC0 := Aside0.mk hc0
  clear hr0 hc0
  have HB := Aside0.mk (Below.refl w.heap.size w)
  have H : (sum_Of.l0 k 0 l0 (l0.length : Int) 0) = some r := h
  clear h
  have H' := Aside0.mk H
  clear H
  go_enter Tryz.func157, Tryz.ntmps157
  go_wp2
  go_loopg [3, 8] k (fun kq v3 v8 w' => ∃ (x3_1 : Int) (x8_1 : Int), v3 = .int .u32 x3_1 ∧ v8 = .int .i64 x8_1 ∧ Aside0 (sum_Of.l0 kq x3_1 l0 (l0.length : Int) x8_1 = some r) ∧ Aside0 (kq ≤ k) ∧ Aside0 (Below w.heap.size w w'))
  case atStart => exact ⟨(0), (0), (by first | rfl | (simp; done) | (simp [*]; done)), (by first | rfl | (simp; done) | (simp [*]; done)), H', ⟨Nat.le_refl _⟩, ⟨by repeat (first | (with_reducible first | exact HB.out | apply below_alloc | apply pw_below_drewN | apply below_drew1) | exact HB.out)⟩⟩
  case round =>
    clear H'
    obtain ⟨x3_1, x8_1, rfl, rfl, HA, HK1, HB⟩ := hrel
    cases gk with
    | zero => exact absurd HA.out (by simp [sum_Of.l0])
    | succ k1 =>
      have H := HA.out
      clear HA
      simp only [sum_Of.l0] at H
      by_cases c2 : x8_1 < (l0.length : Int)
      · rw [if_pos c2] at H
        have c2b0 : decide (x8_1 < (l0.length : Int)) = true := decide_eq_true c2
        clear c2
        by_cases c3 : 0 ≤ x8_1
        · rw [if_pos c3] at H
          have c3b0 : decide (0 ≤ x8_1) = true := decide_eq_true c3
          clear c3
          by_cases c4 : x8_1 < (l0.length : Int)
          · rw [if_pos c4] at H
            have c4b0 : decide (x8_1 < (l0.length : Int)) = true := decide_eq_true c4
            clear c4
            replace H := Option.bind_eq_some_iff.mp H
            obtain ⟨t105, A50, H⟩ := H
            replace H : (sum_Of.l0 k1 t105 l0 (l0.length : Int) (wrap64 (x8_1 + 1))) = some r := H
            have A5 := Aside0.mk A50
            clear A50
            have H' := Aside0.mk H
            clear H
            have p104 : 0 ≤ (x8_1 : Int) := of_decide_eq_true (by first | (with_reducible assumption) | assumption)
            have q104 : x8_1 < (l0.length : Int) := of_decide_eq_true (by first | (with_reducible assumption) | assumption)
            obtain ⟨ad104, A104_0, c104_0, e104, hx104_0, hl104_0, hi104_0⟩ := at_L1 HR0.out x8_1 p104 q104
            cases e104
            replace hx104_0 := (HB.out.cell (World.block_lt_of_cell? w _ hx104_0)).trans hx104_0
            have HR104_0 := Aside0.mk hi104_0
            have HC104_0 := Aside0.mk hl104_0
            clear hi104_0 hl104_0
            replace p104 := eq_true p104
            replace q104 := eq_true q104
            go_wp2_with (first | ((with_reducible refine gate_callee (f := 164) rfl ?_); refine goesL_ (some 14) rfl rfl Tryz.func164 (by kernel_rfl) rfl #[.int .u32 x3_1, .slice A104_0 (rd_L1 l0 x8_1).length c104_0] rfl (by (try simp only [List.map_toArray, List.map_cons, List.map_nil]); first | done | rfl | (simp only [List.length_drop, List.length_take]; rfl)) ?_; (with_reducible refine (sum_More.calls x3_1 _ _ (rd_L1 l0 x8_1) t105 _ ?side1 ?side2 A5.out).mono ?_); (case side1 => repeat (first | exact (Kd.C_below HR104_0.out HB.out) | (with_reducible refine Kd.C_alloc ?_ _) | (with_reducible refine Kd.C_drewN ?_ _) | (with_reducible refine Kd.C_drew ?_))); (case side2 => exact HC104_0.out); rintro e w6 ⟨rfl, hb⟩; refine ⟨_, rfl, ?_⟩; have n0_ := Aside0.mk (below_step (by repeat (first | (with_reducible first | exact HB.out | apply below_alloc | apply pw_below_drewN | apply below_drew1) | exact HB.out)) hb); clear HB; have HB := n0_; clear n0_; (try clear hb); (try clear hb2); (try clear hk); (try clear hi)))
            go_roundg k1
            case measure => have := HK1.out; omega
            case rel => exact ⟨(t105), (wrap64 (x8_1 + 1)), (by first | rfl | (simp; done) | (simp [*]; done)), (by first | rfl | (simp; done) | (simp [*]; done)), H', ⟨by have := HK1.out; omega⟩, ⟨by repeat (first | (with_reducible first | exact HB.out | apply below_alloc | apply pw_below_drewN | apply below_drew1) | exact HB.out)⟩⟩
          · rw [if_neg c4] at H
            exact absurd H (by simp)
        · rw [if_neg c3] at H
          exact absurd H (by simp)
      · rw [if_neg c2] at H
        have c2b0 : decide (x8_1 < (l0.length : Int)) = false := decide_eq_false c2
        clear c2
        obtain rfl := Option.some.inj H
        go_wp2
        go_ret
        exact ⟨by first | rfl | (simp [errW_none, errW_some] <;> rfl) | (simp [*, errW_none, errW_some] <;> rfl), by repeat (first | (with_reducible first | exact HB.out | apply below_alloc | apply pw_below_drewN | apply below_drew1) | exact HB.out)⟩
def sum_tail.f (k : Nat) (l0 : List Int) : Option (List Int) := (sum_Of.f k (([l0] : List (List Int)))).bind fun t109 => (some (([(t109 / 16777216) % 256, (t109 / 65536) % 256, (t109 / 256) % 256, (t109) % 256] : List Int)))
set_option maxHeartbeats 8000000 in
set_option maxRecDepth 100000 in
theorem sum_tail.calls (k : Nat) (P0_ : Nat → Prop) (A0 : Option Addr) (c0 : Nat) (l0 : List Int) (r : List Int) (w : World) (hs0 : Kd.V (Kd.int .u8) 5 w w.heap.size (fun k_ => P0_ k_) (.slice A0 l0.length c0) l0) (h : sum_tail.f k l0 = some r) :
    Calls Tryz.prog 134 #[.slice A0 l0.length c0] w fun e w' => ∃ v0_ : Value, e = .returned (v0_) ∧ Kd.R (Kd.int .u8) 5 w' w.heap.size (fun k_ => (w.heap.size ≤ k_)) v0_ r ∧ Below w.heap.size w w' := by
  have HO0 := Aside0.mk (show Kd.V (Kd.int .u8) 5 w w.heap.size (fun k_ => (P0_ k_ ∨ w.heap.size ≤ k_)) (.slice A0 l0.length c0) l0 from Kd.V_mono hs0 (fun k_ hk => .inl hk))
  have HB := Aside0.mk (Below.refl w.heap.size w)
  have H : ((sum_Of.f k (([l0] : List (List Int)))).bind fun t109 => (some (([(t109 / 16777216) % 256, (t109 / 65536) % 256, (t109 / 256) % 256, (t109) % 256] : List Int)))) = some r := h
  clear h
  obtain ⟨y106, hy106⟩ : ∃ y_ : List (List Int), y_ = (([l0] : List (List Int))) := ⟨_, rfl⟩
  replace H : ((sum_Of.f k y106).bind fun t109 => (some (([(t109 / 16777216) % 256, (t109 / 65536) % 256, (t109 / 256) % 256, (t109) % 256] : List Int)))) = some r := by first | (rw [hy106]; with_reducible exact H) | (have H2_ := (Option.bind_some _ _).symm.trans H; rw [hy106]; with_reducible exact H2_) | (have H2_ := (Option.bind_some _ _).symm.trans H; with_reducible exact H2_) | with_reducible exact H | (rw [hy106]; exact H) | exact H
  have Ny106 := Aside0.mk hy106
  clear hy106
  replace H := Option.bind_eq_some_iff.mp H
  obtain ⟨t109, A20, H⟩ := H
  replace H : (some (([(t109 / 16777216) % 256, (t109 / 65536) % 256, (t109 / 256) % 256, (t109) % 256] : List Int))) = some r := H
  have A2 := Aside0.mk A20
  clear A20
  obtain ⟨y110, hy110⟩ : ∃ y_ : List Int, y_ = (([(t109 / 16777216) % 256, (t109 / 65536) % 256, (t109 / 256) % 256, (t109) % 256] : List Int)) := ⟨_, rfl⟩
  replace H : (some y110) = some r := by first | (rw [hy110]; with_reducible exact H) | (have H2_ := (Option.bind_some _ _).symm.trans H; rw [hy110]; with_reducible exact H2_) | (have H2_ := (Option.bind_some _ _).symm.trans H; with_reducible exact H2_) | with_reducible exact H | (rw [hy110]; exact H) | exact H
  have Ny110 := Aside0.mk hy110
  clear hy110
  obtain rfl := Option.some.inj H
  go_enter Tryz.func134, Tryz.ntmps134
  go_wp2_with (first | ((with_reducible refine gate_dst (N := 5) rfl ?_); refine Kd.N_lit (Kd.slice 5 (Kd.int .u8)) _ 22 ?hg (N' := 5) ?hd (xs := ([l0] : List (List Int))) (inner := [.slice A0 l0.length c0]) (ok := (fun k_ => (P0_ k_ ∨ w.heap.size ≤ k_))) (okp := (fun k_ => (P0_ k_ ∨ w.heap.size ≤ k_))) ?hr ?hp (fun _ hk => hk) ((show ∀ k_, w.heap.size ≤ k_ → (fun k_ => (P0_ k_ ∨ w.heap.size ≤ k_)) k_ from fun k_ hk => (.inr (Nat.le_trans (below_size (by repeat (first | (with_reducible first | exact HB.out | apply below_alloc | apply pw_below_drewN | apply below_drew1) | exact HB.out))) hk))) _ (Nat.le_refl _)) (Below.refl _ _) (Nat.le_refl _) (by simp) ?_; (case hd => rfl); (case hg => rfl); (case hr => first | (go_simp; done) | (go_simp; rfl)); (case hp => exact (Reps.one (show Kd.FK (Kd.slice 5 (Kd.int .u8)) _ _ l0 [.slice A0 l0.length c0] from (Kd.FK_slice_mk (Kd.V_reads' (Kd.V_mono (ok' := (fun k_ => (P0_ k_ ∨ w.heap.size ≤ k_))) (HO0.out) (fun k_ hk => hk))).2.1 (Kd.V_F (Kd.V_mono (ok' := (fun k_ => (P0_ k_ ∨ w.heap.size ≤ k_))) (HO0.out) (fun k_ hk => hk))))) (Reps.none _ _))); intro v107 w3 ho4 hb hg_ hnew_; clear hg_ hnew_; (first | rw [← Ny106.out] at ho4 | (simp only [Int.reduceToNat] at ho4; rw [← Ny106.out] at ho4)); have n0_ := Aside0.mk (Kd.V_elder' (by (with_reducible repeat (first | apply Kd.V_alloc | apply Kd.V_drewN | apply Kd.V_drew)); exact HO0.out) (Kd.N_base ho4) hb); have n1_ := Aside0.mk (Kd.N_lower ho4 (below_size (by repeat (first | (with_reducible first | exact HB.out | apply below_alloc | apply pw_below_drewN | apply below_drew1) | exact HB.out)))); have n2_ := Aside0.mk (below_step (by repeat (first | (with_reducible first | exact HB.out | apply below_alloc | apply pw_below_drewN | apply below_drew1) | exact HB.out)) hb); clear HO0; clear HB; have HO0 := n0_; have HO108 := n1_; have HB := n2_; clear n0_ n1_ n2_; clear hb ho4; obtain ⟨Ao5, co5, eo5⟩ := Kd.N_slice HO108.out; subst eo5) | ((with_reducible refine gate_callee (f := 157) rfl ?_); refine goesL_ (some 6) rfl rfl Tryz.func157 (by kernel_rfl) rfl #[.slice Ao5 y106.length co5] rfl (by (try simp only [List.map_toArray, List.map_cons, List.map_nil]); first | done | rfl | (simp only [List.length_drop, List.length_take]; rfl)) ?_; (with_reducible refine (sum_Of.calls k _ _ y106 t109 _ ?side1 ?side2 A2.out).mono ?_); (case side1 => repeat (first | exact (Kd.N_reads' HO108.out).2.2 | (with_reducible refine Kd.C_alloc ?_ _) | (with_reducible refine Kd.C_drewN ?_ _) | (with_reducible refine Kd.C_drew ?_))); (case side2 => exact (Kd.N_reads' HO108.out).2.1); rintro e w6 ⟨rfl, hb⟩; refine ⟨_, rfl, ?_⟩; have n0_ := Aside0.mk (Kd.V_below (by (with_reducible repeat (first | apply Kd.V_alloc | apply Kd.V_drewN | apply Kd.V_drew)); exact HO0.out) hb); have n1_ := Aside0.mk (Kd.N_below (by (with_reducible repeat (first | apply Kd.N_alloc | apply Kd.N_drewN | apply Kd.N_drew)); exact HO108.out) hb); have n2_ := Aside0.mk (below_step (by repeat (first | (with_reducible first | exact HB.out | apply below_alloc | apply pw_below_drewN | apply below_drew1) | exact HB.out)) hb); clear HO0; clear HO108; clear HB; have HO0 := n0_; have HO108 := n1_; have HB := n2_; clear n0_ n1_ n2_; (try clear hb); (try clear hb2); (try clear hk); (try clear hi)) | ((with_reducible refine gate_dst (N := 18) rfl ?_); refine Kd.R_lit (Kd.int .u8) _ 5 ?hg (N := 18) ?hd (xs := ([(t109 / 16777216) % 256, (t109 / 65536) % 256, (t109 / 256) % 256, (t109) % 256] : List Int)) (inner := [.int .u8 ((t109 / 16777216) % 256), .int .u8 ((t109 / 65536) % 256), .int .u8 ((t109 / 256) % 256), .int .u8 ((t109) % 256)]) (ok := fun _ => True) (okp := fun _ => True) ?hr ?hp (fun _ hk => hk) trivial (Below.refl _ _) (Nat.le_refl _) (by simp) ?_; (case hd => rfl); (case hg => rfl); (case hr => first | (go_simp; done) | (go_simp; rfl)); (case hp => exact (Reps.one (show Kd.M (Kd.int .u8) _ _ _ ((t109 / 16777216) % 256) [.int .u8 ((t109 / 16777216) % 256)] from rfl) (Reps.one (show Kd.M (Kd.int .u8) _ _ _ ((t109 / 65536) % 256) [.int .u8 ((t109 / 65536) % 256)] from rfl) (Reps.one (show Kd.M (Kd.int .u8) _ _ _ ((t109 / 256) % 256) [.int .u8 ((t109 / 256) % 256)] from rfl) (Reps.one (show Kd.M (Kd.int .u8) _ _ _ ((t109) % 256) [.int .u8 ((t109) % 256)] from rfl) (Reps.none _ _)))))); intro v111 w7 ho8 hb hg_ hnew_; clear hg_ hnew_; (first | rw [← Ny110.out] at ho8 | (simp only [Int.reduceToNat] at ho8; rw [← Ny110.out] at ho8)); have n0_ := Aside0.mk (Kd.V_elder' (by (with_reducible repeat (first | apply Kd.V_alloc | apply Kd.V_drewN | apply Kd.V_drew)); exact HO0.out) (Kd.R_base ho8) hb); have n1_ := Aside0.mk (Kd.N_elder' (by (with_reducible repeat (first | apply Kd.N_alloc | apply Kd.N_drewN | apply Kd.N_drew)); exact HO108.out) (Kd.R_base ho8) hb); have n2_ := Aside0.mk (Kd.R_lower (Kd.R_newM (M := fun k_ => (w.heap.size ≤ k_)) ho8 (below_size (by repeat (first | (with_reducible first | exact HB.out | apply below_alloc | apply pw_below_drewN | apply below_drew1) | exact HB.out))) (fun k_ h_ => h_)) (below_size (by repeat (first | (with_reducible first | exact HB.out | apply below_alloc | apply pw_below_drewN | apply below_drew1) | exact HB.out)))); have n3_ := Aside0.mk (below_step (by repeat (first | (with_reducible first | exact HB.out | apply below_alloc | apply pw_below_drewN | apply below_drew1) | exact HB.out)) hb); clear HO0; clear HO108; clear HB; have HO0 := n0_; have HO108 := n1_; have HO112 := n2_; have HB := n3_; clear n0_ n1_ n2_ n3_; clear hb ho8))
  go_ret
  exact ⟨_, by first | rfl | (simp [errW_none, errW_some] <;> rfl) | (simp [*, errW_none, errW_some] <;> rfl), by (with_reducible repeat (first | apply Kd.R_alloc | apply Kd.R_drewN | apply Kd.R_drew)); exact Kd.R_mono HO112.out (fun _ hk => hk.1), by repeat (first | (with_reducible first | exact HB.out | apply below_alloc | apply pw_below_drewN | apply below_drew1) | exact HB.out)⟩
def sum_Seal.f (k : Nat) (l0 : List Int) : Option (List Int) := (bytes_Clone.f l0).bind fun t113 => ((sum_tail.f k l0).bind fun t116 => (if t113.length + t116.length < 140737488355328 then (some (t113 ++ t116)) else (none)))
set_option maxHeartbeats 8000000 in
set_option maxRecDepth 100000 in
theorem sum_Seal.calls (k : Nat) (A0 : Option Addr) (c0 : Nat) (l0 : List Int) (r : List Int) (w : World) (hr0 : Kd.C (Kd.int .u8) w A0 l0.length l0) (hc0 : l0.length ≤ c0) (h : sum_Seal.f k l0 = some r) :
    Calls Tryz.prog 100 #[.slice A0 l0.length c0] w fun e w' => ∃ v0_ : Value, e = .returned (v0_) ∧ Kd.R (Kd.int .u8) 5 w' w.heap.size (fun _ => True) v0_ r ∧ Below w.heap.size w w' := by
  have HR0 := Aside0.mk hr0
  have HC0 := Aside0.mk hc0
  clear hr0 hc0
  have HB := Aside0.mk (Below.refl w.heap.size w)
  have H : ((bytes_Clone.f l0).bind fun t113 => ((sum_tail.f k l0).bind fun t116 => (if t113.length + t116.length < 140737488355328 then (some (t113 ++ t116)) else (none)))) = some r := h
  clear h
  replace H := Option.bind_eq_some_iff.mp H
  obtain ⟨t113, A20, H⟩ := H
  replace H : ((sum_tail.f k l0).bind fun t116 => (if t113.length + t116.length < 140737488355328 then (some (t113 ++ t116)) else (none))) = some r := H
  have A2 := Aside0.mk A20
  clear A20
  replace H := Option.bind_eq_some_iff.mp H
  obtain ⟨t116, A30, H⟩ := H
  replace H : (if t113.length + t116.length < 140737488355328 then (some (t113 ++ t116)) else (none)) = some r := H
  have A3 := Aside0.mk A30
  clear A30
  by_cases c4 : t113.length + t116.length < 140737488355328
  · rw [if_pos c4] at H
    have LMc4 := Aside0.mk c4
    clear c4
    obtain ⟨y119, hy119⟩ : ∃ y_ : List Int, y_ = (t113 ++ t116) := ⟨_, rfl⟩
    replace H : (some y119) = some r := by first | (rw [hy119]; with_reducible exact H) | (have H2_ := (Option.bind_some _ _).symm.trans H; rw [hy119]; with_reducible exact H2_) | (have H2_ := (Option.bind_some _ _).symm.trans H; with_reducible exact H2_) | with_reducible exact H | (rw [hy119]; exact H) | exact H
    have Ny119 := Aside0.mk hy119
    clear hy119
    obtain rfl := Option.some.inj H
    go_enter Tryz.func100, Tryz.ntmps100
    go_wp2_with (first | ((with_reducible refine gate_callee (f := 54) rfl ?_); refine goesL_ (some 4) rfl rfl Tryz.func54 (by kernel_rfl) rfl #[.slice A0 l0.length c0] rfl (by (try simp only [List.map_toArray, List.map_cons, List.map_nil]); first | done | rfl | (simp only [List.length_drop, List.length_take]; rfl)) ?_; (with_reducible refine (bytes_Clone.calls _ _ l0 t113 _ ?side1 ?side2 A2.out).mono ?_); (case side1 => repeat (first | exact HR0.out | (with_reducible refine Kd.C_alloc ?_ _) | (with_reducible refine Kd.C_drewN ?_ _) | (with_reducible refine Kd.C_drew ?_))); (case side2 => exact HC0.out); rintro e w5 ⟨v114, rfl, ho0, hb⟩; refine ⟨_, rfl, ?_⟩; have n0_ := Aside0.mk (Kd.R_lower ho0 (below_size (by repeat (first | (with_reducible first | exact HB.out | apply below_alloc | apply pw_below_drewN | apply below_drew1) | exact HB.out)))); have n1_ := Aside0.mk (below_step (by repeat (first | (with_reducible first | exact HB.out | apply below_alloc | apply pw_below_drewN | apply below_drew1) | exact HB.out)) hb); clear HB; have HO115 := n0_; have HB := n1_; clear n0_ n1_; (try clear hb); (try clear hb2); (try clear hk); (try clear hi); (try clear ho0)) | ((with_reducible refine gate_callee (f := 134) rfl ?_); refine goesL_ (some 6) rfl rfl Tryz.func134 (by kernel_rfl) rfl #[.slice A0 l0.length c0] rfl (by (try simp only [List.map_toArray, List.map_cons, List.map_nil]); first | done | rfl | (simp only [List.length_drop, List.length_take]; rfl)) ?_; (with_reducible refine (sum_tail.calls k (fun k_ => k_ < w.heap.size) _ _ l0 t116 _ ?side1 A3.out).mono ?_); (case side1 => exact Kd.V_mk HC0.out (Kd.F_below (Kd.C_F (Kd.heap_int .u8) HR0.out) (by repeat (first | (with_reducible first | exact HB.out | apply below_alloc | apply pw_below_drewN | apply below_drew1) | exact HB.out)))); rintro e w6 ⟨v117, rfl, ho0, hb⟩; refine ⟨_, rfl, ?_⟩; have n0_ := Aside0.mk (Kd.R_elder' (by (with_reducible repeat (first | apply Kd.R_alloc | apply Kd.R_drewN | apply Kd.R_drew)); exact HO115.out) (Kd.R_base ho0) hb); have n1_ := Aside0.mk (Kd.R_lower (Kd.R_new' (Kd.R_mono (ok' := fun k_ => True) ho0 (fun _ hk_ => trivial)) (Kd.R_lt (by (with_reducible repeat (first | apply Kd.R_alloc | apply Kd.R_drewN | apply Kd.R_drew)); exact HO115.out))) (below_size (by repeat (first | (with_reducible first | exact HB.out | apply below_alloc | apply pw_below_drewN | apply below_drew1) | exact HB.out)))); have n2_ := Aside0.mk (below_step (by repeat (first | (with_reducible first | exact HB.out | apply below_alloc | apply pw_below_drewN | apply below_drew1) | exact HB.out)) hb); clear HO115; clear HB; have HO115 := n0_; have HO118 := n1_; have HB := n2_; clear n0_ n1_ n2_; (try clear hb); (try clear hb2); (try clear hk); (try clear hi); (try clear ho0); obtain ⟨Ao8, co8, eo8⟩ := Kd.R_slice HO118.out; subst eo8) | ((with_reducible refine gate_builtin (b := .append) (xs := #[.tmp 4, .tmp 6]) rfl ?_); at_builtin; refine Kd.R_append_rows (Kd.int .u8) (w0 := w) w.heap.size rfl (.tmp 4) (.tmp 6) 22 5 (.int .u8 0) 1 rfl Tryz.underlying22 info5 rfl (by decide) (by omega) v114 t113 t116 _ _ _ (fun k_ => some k_ ≠ (.slice Ao8 t116.length co8 : Value).ownBlock) (fun _ => False) rfl rfl ?aO ?aR (fun _ _ h => h) (fun _ h => h.elim) ?aF ?aB ?aS ?aL ?_; (case aR => repeat (first | exact (Kd.R_reads' HO118.out).2.2 | (with_reducible refine Kd.C_alloc ?_ _) | (with_reducible refine Kd.C_drewN ?_ _) | (with_reducible refine Kd.C_drew ?_))); (case aB => exact (by repeat (first | (with_reducible first | exact HB.out | apply below_alloc | apply pw_below_drewN | apply below_drew1) | exact HB.out))); (case aF => exact (fun k_ hk => Kd.fresh' (Kd.R_lt (by (with_reducible repeat (first | apply Kd.R_alloc | apply Kd.R_drewN | apply Kd.R_drew)); exact HO118.out)) k_ hk)); (case aO => exact (by (with_reducible repeat (first | apply Kd.R_alloc | apply Kd.R_drewN | apply Kd.R_drew)); exact Kd.R_mono HO115.out (fun _ hk => hk.2))); (case aS => exact (below_size (by repeat (first | (with_reducible first | exact HB.out | apply below_alloc | apply pw_below_drewN | apply below_drew1) | exact HB.out)))); (case aL => have := LMc4.out; omega); intro v120 w7 ho hb hg hat; rw [← Ny119.out] at ho; have n0_ := Aside0.mk (Kd.R_after (ok := (fun _ => True)) (by (with_reducible repeat (first | apply Kd.R_alloc | apply Kd.R_drewN | apply Kd.R_drew)); exact HO118.out) hg hat); have n1_ := Aside0.mk (hb); have n2_ := Aside0.mk (ho); clear HO118; clear HB; clear HO115; have HO118 := n0_; have HB := n1_; have HO121 := n2_; clear n0_ n1_ n2_; clear ho hb hg hat))
    go_ret
    exact ⟨_, by first | rfl | (simp [errW_none, errW_some] <;> rfl) | (simp [*, errW_none, errW_some] <;> rfl), by (with_reducible repeat (first | apply Kd.R_alloc | apply Kd.R_drewN | apply Kd.R_drew)); exact Kd.R_mono HO121.out (fun _ hk => trivial), by repeat (first | (with_reducible first | exact HB.out | apply below_alloc | apply pw_below_drewN | apply below_drew1) | exact HB.out)⟩
  · rw [if_neg c4] at H
    exact absurd H (by simp)
def bits_in.f (l0 : List Int) (a1 : Int) : Option (Bool) := if a1 ≥ 0 then (some (decide (a1 < (wrap64 (8 * (l0.length : Int)))))) else (some false)
set_option maxHeartbeats 8000000 in
set_option maxRecDepth 100000 in
theorem bits_in.calls (A0 : Option Addr) (c0 : Nat) (l0 : List Int) (a1 : Int) (r : Bool) (w : World) (hr0 : Kd.C (Kd.int .u8) w A0 l0.length l0) (hc0 : l0.length ≤ c0) (h : bits_in.f l0 a1 = some r) :
    Calls Tryz.prog 102 #[.slice A0 l0.length c0, .int .i64 a1] w fun e w' => e = .returned (.bool r) ∧ Drawn0 w w' := by
  have HR0 := Aside0.mk hr0
  have HC0 := Aside0.mk hc0
  clear hr0 hc0
  have H : (if a1 ≥ 0 then (some (decide (a1 < (wrap64 (8 * (l0.length : Int)))))) else (some false)) = some r := h
  clear h
  by_cases c3 : a1 ≥ 0
  · rw [if_pos c3] at H
    have c3b0 : decide (0 ≤ a1) = true := decide_eq_true c3
    clear c3
    obtain rfl := Option.some.inj H
    go_enter Tryz.func102, Tryz.ntmps102
    go_wp2
    go_ret
    exact ⟨by first | rfl | (simp; done) | (simp [*]; done), by repeat (first | exact Drawn0.refl _ | apply Drawn0.step)⟩
  · rw [if_neg c3] at H
    have c3b0 : decide (0 ≤ a1) = false := decide_eq_false c3
    clear c3
    obtain rfl := Option.some.inj H
    go_enter Tryz.func102, Tryz.ntmps102
    go_wp2
    go_ret
    exact ⟨by first | rfl | (simp; done) | (simp [*]; done), by repeat (first | exact Drawn0.refl _ | apply Drawn0.step)⟩
def bits_mask.f (a0 : Int) : Option (Int) := if 0 ≤ (Int.tmod a0 8) then (some (shr .u8 128 (Int.tmod a0 8))) else (none)
set_option maxHeartbeats 8000000 in
set_option maxRecDepth 100000 in
theorem bits_mask.calls (a0 : Int) (r : Int) (w : World) (h : bits_mask.f a0 = some r) :
    Calls Tryz.prog 103 #[.int .i64 a0] w fun e w' => e = .returned (.int .u8 r) ∧ Drawn0 w w' := by
  have H : (if 0 ≤ (Int.tmod a0 8) then (some (shr .u8 128 (Int.tmod a0 8))) else (none)) = some r := h
  clear h
  obtain ⟨ji2, hji2⟩ : ∃ j_ : Int, (Int.tmod a0 8) = j_ := ⟨_, rfl⟩
  replace H : (if 0 ≤ (ji2) then (some (shr .u8 128 (ji2))) else (none)) = some r := by first | (rw [hji2] at H; exact H) | (simp only [hji2] at H ⊢; exact H)
  by_cases c3 : 0 ≤ (ji2)
  · rw [if_pos c3] at H
    have c3b0 := eq_true c3
    have c3b1 : decide (0 ≤ (ji2)) = true := decide_eq_true c3
    clear c3
    obtain ⟨ji4, hji4⟩ : ∃ j_ : Int, (shr .u8 128 (ji2)) = j_ := ⟨_, rfl⟩
    replace H : (some ji4) = some r := by first | (rw [hji4] at H; exact H) | (simp only [hji4] at H ⊢; exact H)
    have hji4_ : (128 / 2 ^ min (ji2).toNat 8) = ji4 := hji4
    have hji4z : (ji2) ≤ 8 → (128 / 2 ^ (ji2).toNat) = ji4 := shr_small hji4
    obtain rfl := Option.some.inj H
    go_enter Tryz.func103, Tryz.ntmps103
    go_wp2
    go_ret
    exact ⟨by first | rfl | (simp; done) | (simp only [← hji2, ← hji4] <;> (first | rfl | simp)) | (simp [*]; done), by repeat (first | exact Drawn0.refl _ | apply Drawn0.step)⟩
  · rw [if_neg c3] at H
    exact absurd H (by simp)
def bits_With.f (l0 : List Int) (a1 : Int) (a2 : Bool) : Option (List Int) := (bytes_Clone.f l0).bind fun t122 => ((bits_in.f l0 a1).bind fun t125 => (if t125 = true then (if a2 = true then (if 0 ≤ (wrap64 (Int.tdiv a1 8)) then (if (wrap64 (Int.tdiv a1 8)) < (t122.length : Int) then ((bits_mask.f a1).bind fun t127 => (some (t122.set ((wrap64 (Int.tdiv a1 8)) : Int).toNat (Go.bits .or .u8 (rd t122 (wrap64 (Int.tdiv a1 8))) t127)))) else (none)) else (none)) else (if 0 ≤ (wrap64 (Int.tdiv a1 8)) then (if (wrap64 (Int.tdiv a1 8)) < (t122.length : Int) then ((bits_mask.f a1).bind fun t130 => (some (t122.set ((wrap64 (Int.tdiv a1 8)) : Int).toNat (Go.bits .andNot .u8 (rd t122 (wrap64 (Int.tdiv a1 8))) t130)))) else (none)) else (none))) else (some t122)))
def bits_With.T5 : Bool × List (List Nat × List Nat) := (true, [([], []), ([], []), ([1], [1]), ([0, 2], [0, 2]), ([3], [3]), ([], []), ([5], [5]), ([4, 6], [4, 6]), ([0, 2, 0, 1, 2, 3, 4, 5, 6, 7], [0, 2]), ([8, 7, 6, 0, 1, 2, 3, 4, 5, 6, 7], [7, 8])])
def bits_With.B5 : List Nat := [0, 0, 2, 7, 15, 0, 32, 127, 255, 511]
theorem bits_With.tab5 : rtab .any (opsOf Tryz.f70 5) = bits_With.T5 := by kernel_rfl
theorem bits_With.bits5 : waitsOk bits_With.T5.2 bits_With.B5 = true := by kernel_rfl
def bits_With.T6 : Bool × List (List Nat × List Nat) := (true, [([], []), ([], []), ([1], [1]), ([0, 2], [0, 2]), ([3], [3]), ([], []), ([5], [5]), ([4, 6], [4, 6]), ([0, 2, 0, 1, 2, 3, 4, 5, 6, 7], [0, 2]), ([8, 7, 6, 0, 1, 2, 3, 4, 5, 6, 7], [7, 8])])
def bits_With.B6 : List Nat := [0, 0, 2, 7, 15, 0, 32, 127, 255, 511]
theorem bits_With.tab6 : rtab .any (opsOf Tryz.f70 6) = bits_With.T6 := by kernel_rfl
theorem bits_With.bits6 : waitsOk bits_With.T6.2 bits_With.B6 = true := by kernel_rfl
set_option maxHeartbeats 8000000 in
set_option maxRecDepth 100000 in
theorem bits_With.calls (A0 : Option Addr) (c0 : Nat) (l0 : List Int) (a1 : Int) (a2 : Bool) (r : List Int) (w : World) (hr0 : Kd.C (Kd.int .u8) w A0 l0.length l0) (hc0 : l0.length ≤ c0) (h : bits_With.f l0 a1 a2 = some r) :
    Calls Tryz.prog 70 #[.slice A0 l0.length c0, .int .i64 a1, .bool a2] w fun e w' => ∃ v0_ : Value, e = .returned (v0_) ∧ Kd.R (Kd.int .u8) 5 w' w.heap.size (fun _ => True) v0_ r ∧ Below w.heap.size w w' := by
  have HR0 := Aside0.mk hr0
  have HC0 := Aside0.mk hc0
  clear hr0 hc0
  have HB := Aside0.mk (Below.refl w.heap.size w)
  have H : ((bytes_Clone.f l0).bind fun t122 => ((bits_in.f l0 a1).bind fun t125 => (if t125 = true then (if a2 = true then (if 0 ≤ (wrap64 (Int.tdiv a1 8)) then (if (wrap64 (Int.tdiv a1 8)) < (t122.length : Int) then ((bits_mask.f a1).bind fun t127 => (some (t122.set ((wrap64 (Int.tdiv a1 8)) : Int).toNat (Go.bits .or .u8 (rd t122 (wrap64 (Int.tdiv a1 8))) t127)))) else (none)) else (none)) else (if 0 ≤ (wrap64 (Int.tdiv a1 8)) then (if (wrap64 (Int.tdiv a1 8)) < (t122.length : Int) then ((bits_mask.f a1).bind fun t130 => (some (t122.set ((wrap64 (Int.tdiv a1 8)) : Int).toNat (Go.bits .andNot .u8 (rd t122 (wrap64 (Int.tdiv a1 8))) t130)))) else (none)) else (none))) else (some t122)))) = some r := h
  clear h
  replace H := Option.bind_eq_some_iff.mp H
  obtain ⟨t122, A40, H⟩ := H
  replace H : ((bits_in.f l0 a1).bind fun t125 => (if t125 = true then (if a2 = true then (if 0 ≤ (wrap64 (Int.tdiv a1 8)) then (if (wrap64 (Int.tdiv a1 8)) < (t122.length : Int) then ((bits_mask.f a1).bind fun t127 => (some (t122.set ((wrap64 (Int.tdiv a1 8)) : Int).toNat (Go.bits .or .u8 (rd t122 (wrap64 (Int.tdiv a1 8))) t127)))) else (none)) else (none)) else (if 0 ≤ (wrap64 (Int.tdiv a1 8)) then (if (wrap64 (Int.tdiv a1 8)) < (t122.length : Int) then ((bits_mask.f a1).bind fun t130 => (some (t122.set ((wrap64 (Int.tdiv a1 8)) : Int).toNat (Go.bits .andNot .u8 (rd t122 (wrap64 (Int.tdiv a1 8))) t130)))) else (none)) else (none))) else (some t122))) = some r := H
  have A4 := Aside0.mk A40
  clear A40
  replace H := Option.bind_eq_some_iff.mp H
  obtain ⟨t125, A50, H⟩ := H
  replace H : (if t125 = true then (if a2 = true then (if 0 ≤ (wrap64 (Int.tdiv a1 8)) then (if (wrap64 (Int.tdiv a1 8)) < (t122.length : Int) then ((bits_mask.f a1).bind fun t127 => (some (t122.set ((wrap64 (Int.tdiv a1 8)) : Int).toNat (Go.bits .or .u8 (rd t122 (wrap64 (Int.tdiv a1 8))) t127)))) else (none)) else (none)) else (if 0 ≤ (wrap64 (Int.tdiv a1 8)) then (if (wrap64 (Int.tdiv a1 8)) < (t122.length : Int) then ((bits_mask.f a1).bind fun t130 => (some (t122.set ((wrap64 (Int.tdiv a1 8)) : Int).toNat (Go.bits .andNot .u8 (rd t122 (wrap64 (Int.tdiv a1 8))) t130)))) else (none)) else (none))) else (some t122)) = some r := H
  have A5 := Aside0.mk A50
  clear A50
  by_cases c6 : t125 = true
  · subst c6
    have H1 : (if a2 = true then (if 0 ≤ (wrap64 (Int.tdiv a1 8)) then (if (wrap64 (Int.tdiv a1 8)) < (t122.length : Int) then ((bits_mask.f a1).bind fun t127 => (some (t122.set ((wrap64 (Int.tdiv a1 8)) : Int).toNat (Go.bits .or .u8 (rd t122 (wrap64 (Int.tdiv a1 8))) t127)))) else (none)) else (none)) else (if 0 ≤ (wrap64 (Int.tdiv a1 8)) then (if (wrap64 (Int.tdiv a1 8)) < (t122.length : Int) then ((bits_mask.f a1).bind fun t130 => (some (t122.set ((wrap64 (Int.tdiv a1 8)) : Int).toNat (Go.bits .andNot .u8 (rd t122 (wrap64 (Int.tdiv a1 8))) t130)))) else (none)) else (none))) = some r := by rw [if_pos rfl] at H; exact H
    clear H
    have H := H1
    clear H1
    by_cases c7 : a2 = true
    · subst c7
      have H1 : (if 0 ≤ (wrap64 (Int.tdiv a1 8)) then (if (wrap64 (Int.tdiv a1 8)) < (t122.length : Int) then ((bits_mask.f a1).bind fun t127 => (some (t122.set ((wrap64 (Int.tdiv a1 8)) : Int).toNat (Go.bits .or .u8 (rd t122 (wrap64 (Int.tdiv a1 8))) t127)))) else (none)) else (none)) = some r := by rw [if_pos rfl] at H; exact H
      clear H
      have H := H1
      clear H1
      obtain ⟨ji8, hji8⟩ : ∃ j_ : Int, (wrap64 (Int.tdiv a1 8)) = j_ := ⟨_, rfl⟩
      replace H : (if 0 ≤ (ji8) then (if (ji8) < (t122.length : Int) then ((bits_mask.f a1).bind fun t127 => (some (t122.set ((ji8) : Int).toNat (Go.bits .or .u8 (rd t122 (ji8)) t127)))) else (none)) else (none)) = some r := by first | (rw [hji8] at H; exact H) | (simp only [hji8] at H ⊢; exact H)
      (try rw [hji8] at A4)
      (try rw [hji8] at A5)
      have hji8w : (IntKind.i64.wrap (Int.tdiv a1 8)) = ji8 := (i64_w _).trans hji8
      by_cases c9 : 0 ≤ (ji8)
      · rw [if_pos c9] at H
        have c9b0 : decide (0 ≤ (ji8)) = true := decide_eq_true c9
        clear c9
        by_cases c10 : (ji8) < (t122.length : Int)
        · rw [if_pos c10] at H
          have c10b0 : decide ((ji8) < (t122.length : Int)) = true := decide_eq_true c10
          clear c10
          replace H := Option.bind_eq_some_iff.mp H
          obtain ⟨t127, A110, H⟩ := H
          replace H : (some (t122.set ((ji8) : Int).toNat (Go.bits .or .u8 (rd t122 (ji8)) t127))) = some r := H
          have A11 := Aside0.mk A110
          clear A110
          obtain ⟨y128, hy128⟩ : ∃ y_ : List Int, y_ = (t122.set ((ji8) : Int).toNat (Go.bits .or .u8 (rd t122 (ji8)) t127)) := ⟨_, rfl⟩
          replace H : (some y128) = some r := by first | (rw [hy128]; with_reducible exact H) | (have H2_ := (Option.bind_some _ _).symm.trans H; rw [hy128]; with_reducible exact H2_) | (have H2_ := (Option.bind_some _ _).symm.trans H; with_reducible exact H2_) | with_reducible exact H | (rw [hy128]; exact H) | exact H
          have Ny128 := Aside0.mk hy128
          clear hy128
          obtain rfl := Option.some.inj H
          go_enter Tryz.func70, Tryz.ntmps70
          try go_wp2_with (first | ((with_reducible refine gate_callee (f := 54) rfl ?_); refine goesL_ (some 9) rfl rfl Tryz.func54 (by kernel_rfl) rfl #[.slice A0 l0.length c0] rfl (by (try simp only [List.map_toArray, List.map_cons, List.map_nil]); first | done | rfl | (simp only [List.length_drop, List.length_take]; rfl)) ?_; (with_reducible refine (bytes_Clone.calls _ _ l0 t122 _ ?side1 ?side2 A4.out).mono ?_); (case side1 => repeat (first | exact HR0.out | (with_reducible refine Kd.C_alloc ?_ _) | (with_reducible refine Kd.C_drewN ?_ _) | (with_reducible refine Kd.C_drew ?_))); (case side2 => exact HC0.out); rintro e w13 ⟨v123, rfl, ho0, hb⟩; refine ⟨_, rfl, ?_⟩; have n0_ := Aside0.mk (Kd.R_lower ho0 (below_size (by repeat (first | (with_reducible first | exact HB.out | apply below_alloc | apply pw_below_drewN | apply below_drew1) | exact HB.out)))); have n1_ := Aside0.mk (below_step (by repeat (first | (with_reducible first | exact HB.out | apply below_alloc | apply pw_below_drewN | apply below_drew1) | exact HB.out)) hb); clear HB; have HO124 := n0_; have HB := n1_; clear n0_ n1_; (try clear hb); (try clear hb2); (try clear hk); (try clear hi); (try clear ho0)) | ((with_reducible refine gate_callee (f := 102) rfl ?_); refine goesL_ (some 12) rfl rfl Tryz.func102 (by kernel_rfl) rfl #[.slice A0 l0.length c0, .int .i64 a1] rfl (by (try simp only [List.map_toArray, List.map_cons, List.map_nil]); first | done | rfl | (simp only [List.length_drop, List.length_take]; rfl)) ?_; (with_reducible refine (bits_in.calls _ _ l0 a1 true _ ?side1 ?side2 A5.out).mono ?_); (case side1 => repeat (first | exact (Kd.C_below HR0.out HB.out) | (with_reducible refine Kd.C_alloc ?_ _) | (with_reducible refine Kd.C_drewN ?_ _) | (with_reducible refine Kd.C_drew ?_))); (case side2 => exact HC0.out); rintro e w' ⟨rfl, ⟨nd, rfl⟩⟩; refine ⟨_, rfl, ?_⟩; (try (rw [drewN_self w13]; generalize hq_ : World.drewN w13 _ = w13; have n0_ : Aside0 (Kd.R (Kd.int .u8) 5 w13 w.heap.size (fun _ => True) v123 t122) := ⟨by rw [← hq_]; exact (by (with_reducible repeat (first | apply Kd.R_alloc | apply Kd.R_drewN | apply Kd.R_drew)); exact HO124.out)⟩; have n1_ : Aside0 (Below w.heap.size w w13) := ⟨by rw [← hq_]; exact (by repeat (first | (with_reducible first | exact HB.out | apply below_alloc | apply pw_below_drewN | apply below_drew1) | exact HB.out))⟩; clear HO124 HB hq_; have HO124 := n0_; have HB := n1_; clear n0_ n1_))))
          have n0_ := Aside0.mk (Kd.R_drew HO124.out)
          have n1_ := Aside0.mk (below_drew1 HB.out)
          clear HO124
          clear HB
          have HO124 := n0_
          have HB := n1_
          clear n0_ n1_
          obtain ⟨Ao15, co15, eo15⟩ := Kd.R_slice HO124.out
          (first | subst eo15 | (injection eo15 with f1_ f2_ f3_; have f4_ := f1_.symm; have f5_ := f3_.symm; clear f1_ f2_ f3_; subst f4_; subst f5_))
          have p126 : 0 ≤ ((ji8) : Int) := of_decide_eq_true (by first | (with_reducible assumption) | assumption)
          have q126 : (ji8) < (t122.length : Int) := of_decide_eq_true (by first | (with_reducible assumption) | assumption)
          obtain ⟨ad126, e126, hx126_0⟩ := Kd.at_int (Kd.R_reads' HO124.out).2.2 (ji8) p126 q126
          cases e126
          replace p126 := eq_true p126
          replace q126 := eq_true q126
          refine start_ (n := 10) (S := fun w' => w'.cell? (ad126.add ((ji8)).toNat) = some (.int .u8 (rd t122 (ji8)))) (ds := [9]) #[false, false, false, false, false, false, false, false, false, false] (by kernel_rfl) rfl rfl (hx126_0) (fun hHeld => ?_); refine with_tabW bits_With.tab5 bits_With.bits5 (fun HT_ HW_ => ?_)
          generalize w13.drew = w14 at HO124 HB hx126_0 hHeld ⊢
          refine pure_ (i := 0) (N := some 16) (v := ?_) (a' := ?_) #[true, false, false, false, false, false, false, false, false, false] rfl rfl (any_of HT_.out (by kernel_rfl)) (fun _ _ _ h => h) (Or.inl ⟨by rfl, ?_⟩) ?_ ?_
          rotate_left
          · intro w'
            go_simp
            with_reducible rfl
          rotate_left
          · simp only [Act.put, List.setIfInBounds_toArray, List.set_cons_zero, List.set_cons_succ, i64_w, i32_w]
            rfl
          refine pure_ (i := 1) (N := some 17) (v := ?_) (a' := ?_) #[true, true, false, false, false, false, false, false, false, false] rfl rfl (any_of HT_.out (by kernel_rfl)) (fun _ _ _ h => h) (Or.inl ⟨by rfl, ?_⟩) ?_ ?_
          rotate_left
          · intro w'
            go_simp
            with_reducible rfl
          rotate_left
          · simp only [Act.put, List.setIfInBounds_toArray, List.set_cons_zero, List.set_cons_succ, i64_w, i32_w]
            rfl
          refine pure_ (i := 2) (N := some 18) (v := ?_) (a' := ?_) #[true, true, true, false, false, false, false, false, false, false] rfl rfl (any_of HT_.out (by kernel_rfl)) (fun _ _ _ h => h) (Or.inl ⟨by rfl, ?_⟩) ?_ ?_
          rotate_left
          · intro w'
            go_simp
            with_reducible rfl
          rotate_left
          · simp only [Act.put, List.setIfInBounds_toArray, List.set_cons_zero, List.set_cons_succ, i64_w, i32_w]
            rfl
          refine pure_ (i := 3) (N := some 19) (v := ?_) (a' := ?_) #[true, true, true, true, false, false, false, false, false, false] rfl rfl (any_of HT_.out (by kernel_rfl)) (fun _ _ _ h => h) (Or.inl ⟨by rfl, ?_⟩) ?_ ?_
          rotate_left
          · intro w'
            go_simp
            with_reducible rfl
          rotate_left
          · simp only [Act.put, List.setIfInBounds_toArray, List.set_cons_zero, List.set_cons_succ, i64_w, i32_w]
            rfl
          refine pure_ (i := 5) (N := some 21) (v := ?_) (a' := ?_) #[true, true, true, true, false, true, false, false, false, false] rfl rfl (any_of HT_.out (by kernel_rfl)) (fun _ _ _ h => h) (Or.inl ⟨by rfl, ?_⟩) ?_ ?_
          rotate_left
          · intro w'
            go_simp
            with_reducible rfl
          rotate_left
          · simp only [Act.put, List.setIfInBounds_toArray, List.set_cons_zero, List.set_cons_succ, i64_w, i32_w]
            rfl
          refine take_ (i := 4) (N := some 20) (v := ?_) (a' := ?_) #[true, true, true, true, true, true, false, false, false, false] rfl rfl (take_ofW HT_.out HW_.out (by kernel_rfl)) (fun _ _ _ h => h) (Or.inl ⟨by rfl, ?_⟩) hHeld ?_ ?_
          rotate_left
          · intro w' s0
            go_simp
            with_reducible rfl
          rotate_left
          · simp only [Act.put, List.setIfInBounds_toArray, List.set_cons_zero, List.set_cons_succ, i64_w, i32_w]
            rfl
          refine one_ (i := 6) (N := some 22) #[true, true, true, true, true, true, true, false, false, false] rfl rfl (one_of HT_.out (by kernel_rfl)) (by decide) (fun K hK => ?_)
          refine goes_ Tryz.func103 (by kernel_rfl) rfl #[.int .i64 a1] (by rfl) rfl rfl (by (try simp only [List.map_toArray, List.map_cons, List.map_nil]); first | done | rfl | (simp only [List.length_drop, List.length_take]; rfl)) ?_
          with_reducible refine (bits_mask.calls a1 t127 _ A11.out).mono ?_
          rintro e w' ⟨rfl, ⟨nd, rfl⟩⟩
          refine ⟨_, rfl, ?_⟩
          have p12 : 0 ≤ ((ji8) : Int) := of_decide_eq_true (by first | (with_reducible assumption) | assumption)
          have q12 : ((ji8) : Int) < ((t122.length : Int) : Int) := of_decide_eq_true (by first | (with_reducible assumption) | assumption)
          obtain ⟨go12, co12, eo12, gb12, gl12, cl12, HG12⟩ := Kd.R_form HO124.out (by omega)
          (first | cases eo12 | (injection eo12 with ea_ en_ ec_; (first | subst ea_ | (injection ea_ with ea_; subst ea_)); subst ec_; clear en_))
          have GB12 := Aside0.mk gb12
          have GG12 := Aside0.mk HG12
          clear gb12 gl12 HG12
          (first | simp only [add_plain] at hx126_0 | skip)
          obtain ⟨hx12_0, hf12_0⟩ := Kd.R_celln 0 HO124.out ((ji8) : Int) p12 q12
          replace p12 := eq_true p12
          replace q12 := eq_true q12
          have HP16 := Kd.R_putn HO124.out ((ji8) : Int) (Go.bits .or .u8 (rd t122 (ji8)) t127)
          rw [← Ny128.out] at HP16
          have HQ16 := Aside0.mk HP16
          clear HP16
          refine hK.out _ _ (hHeld) (fun hHeld => ?_)
          clear hK K
          refine norm_ (a' := ?_) ?_ ?_
          rotate_left
          · show Act.put _ (some 22) _ = _
            simp only [Act.put, List.setIfInBounds_toArray, List.set_cons_zero, List.set_cons_succ, i64_w, i32_w]
            rfl
          refine pure_ (i := 7) (N := some 23) (v := ?_) (a' := ?_) #[true, true, true, true, true, true, true, true, false, false] rfl rfl (any_of HT_.out (by kernel_rfl)) (fun _ _ _ h => h) (Or.inl ⟨by rfl, ?_⟩) ?_ ?_
          rotate_left
          · intro w'
            go_simp
            with_reducible rfl
          rotate_left
          · simp only [Act.put, List.setIfInBounds_toArray, List.set_cons_zero, List.set_cons_succ, i64_w, i32_w]
            rfl
          refine pure_ (i := 8) (N := some 24) (v := ?_) (a' := ?_) #[true, true, true, true, true, true, true, true, true, false] rfl rfl (any_of HT_.out (by kernel_rfl)) (fun _ _ _ h => h) (Or.inl ⟨by rfl, ?_⟩) ?_ ?_
          rotate_left
          · intro w'
            go_simp
            with_reducible rfl
          rotate_left
          · simp only [Act.put, List.setIfInBounds_toArray, List.set_cons_zero, List.set_cons_succ, i64_w, i32_w]
            rfl
          refine last_ (i := 9) (N := none) #[true, true, true, true, true, true, true, true, true, true] rfl rfl (one_of HT_.out (by kernel_rfl)) (by decide) (fun K hK => ?_)
          refine skip_ (w1 := ?_) (by rfl) rfl ?_ ?_
          rotate_left
          · go_simp
            rfl
          refine hK.out _ _ ?_
          clear hK K
          refine done_ (done_of HT_.out (by kernel_rfl)) ?_
          try go_wp2
          go_ret
          exact ⟨_, by first | rfl | (simp [errW_none, errW_some] <;> rfl) | (simp only [← hji8]; first | rfl | (simp [errW_none, errW_some] <;> rfl)) | (simp [*, errW_none, errW_some] <;> rfl), by (with_reducible repeat (first | apply Kd.R_alloc | apply Kd.R_drewN | apply Kd.R_drew)); exact HQ16.out, by repeat (first | (with_reducible first | exact HB.out | apply below_alloc | apply pw_below_drewN | apply below_drew1 | refine below_set ?_ GB12.out) | exact HB.out)⟩
        · rw [if_neg c10] at H
          exact absurd H (by simp)
      · rw [if_neg c9] at H
        exact absurd H (by simp)
    · replace c7 := Bool.eq_false_iff.mpr c7
      subst c7
      have H1 : (if 0 ≤ (wrap64 (Int.tdiv a1 8)) then (if (wrap64 (Int.tdiv a1 8)) < (t122.length : Int) then ((bits_mask.f a1).bind fun t130 => (some (t122.set ((wrap64 (Int.tdiv a1 8)) : Int).toNat (Go.bits .andNot .u8 (rd t122 (wrap64 (Int.tdiv a1 8))) t130)))) else (none)) else (none)) = some r := by rw [if_neg (show ¬ (false = true) by decide)] at H; exact H
      clear H
      have H := H1
      clear H1
      obtain ⟨ji17, hji17⟩ : ∃ j_ : Int, (wrap64 (Int.tdiv a1 8)) = j_ := ⟨_, rfl⟩
      replace H : (if 0 ≤ (ji17) then (if (ji17) < (t122.length : Int) then ((bits_mask.f a1).bind fun t130 => (some (t122.set ((ji17) : Int).toNat (Go.bits .andNot .u8 (rd t122 (ji17)) t130)))) else (none)) else (none)) = some r := by first | (rw [hji17] at H; exact H) | (simp only [hji17] at H ⊢; exact H)
      (try rw [hji17] at A4)
      (try rw [hji17] at A5)
      have hji17w : (IntKind.i64.wrap (Int.tdiv a1 8)) = ji17 := (i64_w _).trans hji17
      by_cases c18 : 0 ≤ (ji17)
      · rw [if_pos c18] at H
        have c18b0 : decide (0 ≤ (ji17)) = true := decide_eq_true c18
        clear c18
        by_cases c19 : (ji17) < (t122.length : Int)
        · rw [if_pos c19] at H
          have c19b0 : decide ((ji17) < (t122.length : Int)) = true := decide_eq_true c19
          clear c19
          replace H := Option.bind_eq_some_iff.mp H
          obtain ⟨t130, A200, H⟩ := H
          replace H : (some (t122.set ((ji17) : Int).toNat (Go.bits .andNot .u8 (rd t122 (ji17)) t130))) = some r := H
          have A20 := Aside0.mk A200
          clear A200
          obtain ⟨y131, hy131⟩ : ∃ y_ : List Int, y_ = (t122.set ((ji17) : Int).toNat (Go.bits .andNot .u8 (rd t122 (ji17)) t130)) := ⟨_, rfl⟩
          replace H : (some y131) = some r := by first | (rw [hy131]; with_reducible exact H) | (have H2_ := (Option.bind_some _ _).symm.trans H; rw [hy131]; with_reducible exact H2_) | (have H2_ := (Option.bind_some _ _).symm.trans H; with_reducible exact H2_) | with_reducible exact H | (rw [hy131]; exact H) | exact H
          have Ny131 := Aside0.mk hy131
          clear hy131
          obtain rfl := Option.some.inj H
          go_enter Tryz.func70, Tryz.ntmps70
          try go_wp2_with (first | ((with_reducible refine gate_callee (f := 54) rfl ?_); refine goesL_ (some 9) rfl rfl Tryz.func54 (by kernel_rfl) rfl #[.slice A0 l0.length c0] rfl (by (try simp only [List.map_toArray, List.map_cons, List.map_nil]); first | done | rfl | (simp only [List.length_drop, List.length_take]; rfl)) ?_; (with_reducible refine (bytes_Clone.calls _ _ l0 t122 _ ?side1 ?side2 A4.out).mono ?_); (case side1 => repeat (first | exact HR0.out | (with_reducible refine Kd.C_alloc ?_ _) | (with_reducible refine Kd.C_drewN ?_ _) | (with_reducible refine Kd.C_drew ?_))); (case side2 => exact HC0.out); rintro e w22 ⟨v123, rfl, ho0, hb⟩; refine ⟨_, rfl, ?_⟩; have n0_ := Aside0.mk (Kd.R_lower ho0 (below_size (by repeat (first | (with_reducible first | exact HB.out | apply below_alloc | apply pw_below_drewN | apply below_drew1) | exact HB.out)))); have n1_ := Aside0.mk (below_step (by repeat (first | (with_reducible first | exact HB.out | apply below_alloc | apply pw_below_drewN | apply below_drew1) | exact HB.out)) hb); clear HB; have HO124 := n0_; have HB := n1_; clear n0_ n1_; (try clear hb); (try clear hb2); (try clear hk); (try clear hi); (try clear ho0)) | ((with_reducible refine gate_callee (f := 102) rfl ?_); refine goesL_ (some 12) rfl rfl Tryz.func102 (by kernel_rfl) rfl #[.slice A0 l0.length c0, .int .i64 a1] rfl (by (try simp only [List.map_toArray, List.map_cons, List.map_nil]); first | done | rfl | (simp only [List.length_drop, List.length_take]; rfl)) ?_; (with_reducible refine (bits_in.calls _ _ l0 a1 true _ ?side1 ?side2 A5.out).mono ?_); (case side1 => repeat (first | exact (Kd.C_below HR0.out HB.out) | (with_reducible refine Kd.C_alloc ?_ _) | (with_reducible refine Kd.C_drewN ?_ _) | (with_reducible refine Kd.C_drew ?_))); (case side2 => exact HC0.out); rintro e w' ⟨rfl, ⟨nd, rfl⟩⟩; refine ⟨_, rfl, ?_⟩; (try (rw [drewN_self w22]; generalize hq_ : World.drewN w22 _ = w22; have n0_ : Aside0 (Kd.R (Kd.int .u8) 5 w22 w.heap.size (fun _ => True) v123 t122) := ⟨by rw [← hq_]; exact (by (with_reducible repeat (first | apply Kd.R_alloc | apply Kd.R_drewN | apply Kd.R_drew)); exact HO124.out)⟩; have n1_ : Aside0 (Below w.heap.size w w22) := ⟨by rw [← hq_]; exact (by repeat (first | (with_reducible first | exact HB.out | apply below_alloc | apply pw_below_drewN | apply below_drew1) | exact HB.out))⟩; clear HO124 HB hq_; have HO124 := n0_; have HB := n1_; clear n0_ n1_))))
          have n0_ := Aside0.mk (Kd.R_drew HO124.out)
          have n1_ := Aside0.mk (below_drew1 HB.out)
          clear HO124
          clear HB
          have HO124 := n0_
          have HB := n1_
          clear n0_ n1_
          obtain ⟨Ao24, co24, eo24⟩ := Kd.R_slice HO124.out
          (first | subst eo24 | (injection eo24 with f1_ f2_ f3_; have f4_ := f1_.symm; have f5_ := f3_.symm; clear f1_ f2_ f3_; subst f4_; subst f5_))
          have p129 : 0 ≤ ((ji17) : Int) := of_decide_eq_true (by first | (with_reducible assumption) | assumption)
          have q129 : (ji17) < (t122.length : Int) := of_decide_eq_true (by first | (with_reducible assumption) | assumption)
          obtain ⟨ad129, e129, hx129_0⟩ := Kd.at_int (Kd.R_reads' HO124.out).2.2 (ji17) p129 q129
          cases e129
          replace p129 := eq_true p129
          replace q129 := eq_true q129
          refine start_ (n := 10) (S := fun w' => w'.cell? (ad129.add ((ji17)).toNat) = some (.int .u8 (rd t122 (ji17)))) (ds := [9]) #[false, false, false, false, false, false, false, false, false, false] (by kernel_rfl) rfl rfl (hx129_0) (fun hHeld => ?_); refine with_tabW bits_With.tab6 bits_With.bits6 (fun HT_ HW_ => ?_)
          generalize w22.drew = w23 at HO124 HB hx129_0 hHeld ⊢
          refine pure_ (i := 0) (N := some 25) (v := ?_) (a' := ?_) #[true, false, false, false, false, false, false, false, false, false] rfl rfl (any_of HT_.out (by kernel_rfl)) (fun _ _ _ h => h) (Or.inl ⟨by rfl, ?_⟩) ?_ ?_
          rotate_left
          · intro w'
            go_simp
            with_reducible rfl
          rotate_left
          · simp only [Act.put, List.setIfInBounds_toArray, List.set_cons_zero, List.set_cons_succ, i64_w, i32_w]
            rfl
          refine pure_ (i := 1) (N := some 26) (v := ?_) (a' := ?_) #[true, true, false, false, false, false, false, false, false, false] rfl rfl (any_of HT_.out (by kernel_rfl)) (fun _ _ _ h => h) (Or.inl ⟨by rfl, ?_⟩) ?_ ?_
          rotate_left
          · intro w'
            go_simp
            with_reducible rfl
          rotate_left
          · simp only [Act.put, List.setIfInBounds_toArray, List.set_cons_zero, List.set_cons_succ, i64_w, i32_w]
            rfl
          refine pure_ (i := 2) (N := some 27) (v := ?_) (a' := ?_) #[true, true, true, false, false, false, false, false, false, false] rfl rfl (any_of HT_.out (by kernel_rfl)) (fun _ _ _ h => h) (Or.inl ⟨by rfl, ?_⟩) ?_ ?_
          rotate_left
          · intro w'
            go_simp
            with_reducible rfl
          rotate_left
          · simp only [Act.put, List.setIfInBounds_toArray, List.set_cons_zero, List.set_cons_succ, i64_w, i32_w]
            rfl
          refine pure_ (i := 3) (N := some 28) (v := ?_) (a' := ?_) #[true, true, true, true, false, false, false, false, false, false] rfl rfl (any_of HT_.out (by kernel_rfl)) (fun _ _ _ h => h) (Or.inl ⟨by rfl, ?_⟩) ?_ ?_
          rotate_left
          · intro w'
            go_simp
            with_reducible rfl
          rotate_left
          · simp only [Act.put, List.setIfInBounds_toArray, List.set_cons_zero, List.set_cons_succ, i64_w, i32_w]
            rfl
          refine pure_ (i := 5) (N := some 30) (v := ?_) (a' := ?_) #[true, true, true, true, false, true, false, false, false, false] rfl rfl (any_of HT_.out (by kernel_rfl)) (fun _ _ _ h => h) (Or.inl ⟨by rfl, ?_⟩) ?_ ?_
          rotate_left
          · intro w'
            go_simp
            with_reducible rfl
          rotate_left
          · simp only [Act.put, List.setIfInBounds_toArray, List.set_cons_zero, List.set_cons_succ, i64_w, i32_w]
            rfl
          refine take_ (i := 4) (N := some 29) (v := ?_) (a' := ?_) #[true, true, true, true, true, true, false, false, false, false] rfl rfl (take_ofW HT_.out HW_.out (by kernel_rfl)) (fun _ _ _ h => h) (Or.inl ⟨by rfl, ?_⟩) hHeld ?_ ?_
          rotate_left
          · intro w' s0
            go_simp
            with_reducible rfl
          rotate_left
          · simp only [Act.put, List.setIfInBounds_toArray, List.set_cons_zero, List.set_cons_succ, i64_w, i32_w]
            rfl
          refine one_ (i := 6) (N := some 31) #[true, true, true, true, true, true, true, false, false, false] rfl rfl (one_of HT_.out (by kernel_rfl)) (by decide) (fun K hK => ?_)
          refine goes_ Tryz.func103 (by kernel_rfl) rfl #[.int .i64 a1] (by rfl) rfl rfl (by (try simp only [List.map_toArray, List.map_cons, List.map_nil]); first | done | rfl | (simp only [List.length_drop, List.length_take]; rfl)) ?_
          with_reducible refine (bits_mask.calls a1 t130 _ A20.out).mono ?_
          rintro e w' ⟨rfl, ⟨nd, rfl⟩⟩
          refine ⟨_, rfl, ?_⟩
          have p21 : 0 ≤ ((ji17) : Int) := of_decide_eq_true (by first | (with_reducible assumption) | assumption)
          have q21 : ((ji17) : Int) < ((t122.length : Int) : Int) := of_decide_eq_true (by first | (with_reducible assumption) | assumption)
          obtain ⟨go21, co21, eo21, gb21, gl21, cl21, HG21⟩ := Kd.R_form HO124.out (by omega)
          (first | cases eo21 | (injection eo21 with ea_ en_ ec_; (first | subst ea_ | (injection ea_ with ea_; subst ea_)); subst ec_; clear en_))
          have GB21 := Aside0.mk gb21
          have GG21 := Aside0.mk HG21
          clear gb21 gl21 HG21
          (first | simp only [add_plain] at hx129_0 | skip)
          obtain ⟨hx21_0, hf21_0⟩ := Kd.R_celln 0 HO124.out ((ji17) : Int) p21 q21
          replace p21 := eq_true p21
          replace q21 := eq_true q21
          have HP25 := Kd.R_putn HO124.out ((ji17) : Int) (Go.bits .andNot .u8 (rd t122 (ji17)) t130)
          rw [← Ny131.out] at HP25
          have HQ25 := Aside0.mk HP25
          clear HP25
          refine hK.out _ _ (hHeld) (fun hHeld => ?_)
          clear hK K
          refine norm_ (a' := ?_) ?_ ?_
          rotate_left
          · show Act.put _ (some 31) _ = _
            simp only [Act.put, List.setIfInBounds_toArray, List.set_cons_zero, List.set_cons_succ, i64_w, i32_w]
            rfl
          refine pure_ (i := 7) (N := some 32) (v := ?_) (a' := ?_) #[true, true, true, true, true, true, true, true, false, false] rfl rfl (any_of HT_.out (by kernel_rfl)) (fun _ _ _ h => h) (Or.inl ⟨by rfl, ?_⟩) ?_ ?_
          rotate_left
          · intro w'
            go_simp
            with_reducible rfl
          rotate_left
          · simp only [Act.put, List.setIfInBounds_toArray, List.set_cons_zero, List.set_cons_succ, i64_w, i32_w]
            rfl
          refine pure_ (i := 8) (N := some 33) (v := ?_) (a' := ?_) #[true, true, true, true, true, true, true, true, true, false] rfl rfl (any_of HT_.out (by kernel_rfl)) (fun _ _ _ h => h) (Or.inl ⟨by rfl, ?_⟩) ?_ ?_
          rotate_left
          · intro w'
            go_simp
            with_reducible rfl
          rotate_left
          · simp only [Act.put, List.setIfInBounds_toArray, List.set_cons_zero, List.set_cons_succ, i64_w, i32_w]
            rfl
          refine last_ (i := 9) (N := none) #[true, true, true, true, true, true, true, true, true, true] rfl rfl (one_of HT_.out (by kernel_rfl)) (by decide) (fun K hK => ?_)
          refine skip_ (w1 := ?_) (by rfl) rfl ?_ ?_
          rotate_left
          · go_simp
            rfl
          refine hK.out _ _ ?_
          clear hK K
          refine done_ (done_of HT_.out (by kernel_rfl)) ?_
          try go_wp2
          go_ret
          exact ⟨_, by first | rfl | (simp [errW_none, errW_some] <;> rfl) | (simp only [← hji17]; first | rfl | (simp [errW_none, errW_some] <;> rfl)) | (simp [*, errW_none, errW_some] <;> rfl), by (with_reducible repeat (first | apply Kd.R_alloc | apply Kd.R_drewN | apply Kd.R_drew)); exact HQ25.out, by repeat (first | (with_reducible first | exact HB.out | apply below_alloc | apply pw_below_drewN | apply below_drew1 | refine below_set ?_ GB21.out) | exact HB.out)⟩
        · rw [if_neg c19] at H
          exact absurd H (by simp)
      · rw [if_neg c18] at H
        exact absurd H (by simp)
  · replace c6 := Bool.eq_false_iff.mpr c6
    subst c6
    have H1 : (some t122) = some r := by rw [if_neg (show ¬ (false = true) by decide)] at H; exact H
    clear H
    have H := H1
    clear H1
    obtain rfl := Option.some.inj H
    go_enter Tryz.func70, Tryz.ntmps70
    go_wp2_with (first | ((with_reducible refine gate_callee (f := 54) rfl ?_); refine goesL_ (some 9) rfl rfl Tryz.func54 (by kernel_rfl) rfl #[.slice A0 l0.length c0] rfl (by (try simp only [List.map_toArray, List.map_cons, List.map_nil]); first | done | rfl | (simp only [List.length_drop, List.length_take]; rfl)) ?_; (with_reducible refine (bytes_Clone.calls _ _ l0 t122 _ ?side1 ?side2 A4.out).mono ?_); (case side1 => repeat (first | exact HR0.out | (with_reducible refine Kd.C_alloc ?_ _) | (with_reducible refine Kd.C_drewN ?_ _) | (with_reducible refine Kd.C_drew ?_))); (case side2 => exact HC0.out); rintro e w26 ⟨v123, rfl, ho0, hb⟩; refine ⟨_, rfl, ?_⟩; have n0_ := Aside0.mk (Kd.R_lower ho0 (below_size (by repeat (first | (with_reducible first | exact HB.out | apply below_alloc | apply pw_below_drewN | apply below_drew1) | exact HB.out)))); have n1_ := Aside0.mk (below_step (by repeat (first | (with_reducible first | exact HB.out | apply below_alloc | apply pw_below_drewN | apply below_drew1) | exact HB.out)) hb); clear HB; have HO124 := n0_; have HB := n1_; clear n0_ n1_; (try clear hb); (try clear hb2); (try clear hk); (try clear hi); (try clear ho0)) | ((with_reducible refine gate_callee (f := 102) rfl ?_); refine goesL_ (some 12) rfl rfl Tryz.func102 (by kernel_rfl) rfl #[.slice A0 l0.length c0, .int .i64 a1] rfl (by (try simp only [List.map_toArray, List.map_cons, List.map_nil]); first | done | rfl | (simp only [List.length_drop, List.length_take]; rfl)) ?_; (with_reducible refine (bits_in.calls _ _ l0 a1 false _ ?side1 ?side2 A5.out).mono ?_); (case side1 => repeat (first | exact (Kd.C_below HR0.out HB.out) | (with_reducible refine Kd.C_alloc ?_ _) | (with_reducible refine Kd.C_drewN ?_ _) | (with_reducible refine Kd.C_drew ?_))); (case side2 => exact HC0.out); rintro e w' ⟨rfl, ⟨nd, rfl⟩⟩; refine ⟨_, rfl, ?_⟩))
    go_ret
    exact ⟨_, by first | rfl | (simp [errW_none, errW_some] <;> rfl) | (simp [*, errW_none, errW_some] <;> rfl), by (with_reducible repeat (first | apply Kd.R_alloc | apply Kd.R_drewN | apply Kd.R_drew)); exact HO124.out, by repeat (first | (with_reducible first | exact HB.out | apply below_alloc | apply pw_below_drewN | apply below_drew1) | exact HB.out)⟩
def root_within.f (a0 : Int) (a1 : Int) (a2 : Int) : Option (Bool) := if a0 ≥ a1 then (some (decide (a0 ≤ a2))) else (some false)
set_option maxHeartbeats 8000000 in
set_option maxRecDepth 100000 in
theorem root_within.calls (a0 : Int) (a1 : Int) (a2 : Int) (r : Bool) (w : World) (h : root_within.f a0 a1 a2 = some r) :
    Calls Tryz.prog 146 #[.int .i64 a0, .int .i64 a1, .int .i64 a2] w fun e w' => e = .returned (.bool r) ∧ Drawn0 w w' := by
  have H : (if a0 ≥ a1 then (some (decide (a0 ≤ a2))) else (some false)) = some r := h
  clear h
  by_cases c4 : a0 ≥ a1
  · rw [if_pos c4] at H
    have c4b0 : decide (a1 ≤ a0) = true := decide_eq_true c4
    clear c4
    obtain rfl := Option.some.inj H
    go_enter Tryz.func146, Tryz.ntmps146
    go_wp2
    go_ret
    exact ⟨by first | rfl | (simp; done) | (simp [*]; done), by repeat (first | exact Drawn0.refl _ | apply Drawn0.step)⟩
  · rw [if_neg c4] at H
    have c4b0 : decide (a1 ≤ a0) = false := decide_eq_false c4
    clear c4
    obtain rfl := Option.some.inj H
    go_enter Tryz.func146, Tryz.ntmps146
    go_wp2
    go_ret
    exact ⟨by first | rfl | (simp; done) | (simp [*]; done), by repeat (first | exact Drawn0.refl _ | apply Drawn0.step)⟩
def bits_Join.f (l0 l1 : List Int) : Option (List Int) := if l0.length < 140737488355328 then (if l1.length < 140737488355328 then some (Given.joinL Given.orB l0 l1) else none) else none
def bits_Has.f (l0 : List Int) (a1 : Int) : Option (Bool) := (bits_in.f l0 a1).bind fun t132 => (if t132 = true then (if 0 ≤ (wrap64 (Int.tdiv a1 8)) then (if (wrap64 (Int.tdiv a1 8)) < (l0.length : Int) then ((bits_mask.f a1).bind fun t134 => (some ((Go.bits .and .u8 (rd l0 (wrap64 (Int.tdiv a1 8))) t134) != 0))) else (none)) else (none)) else (some false))
set_option maxHeartbeats 8000000 in
set_option maxRecDepth 100000 in
theorem bits_Has.calls (A0 : Option Addr) (c0 : Nat) (l0 : List Int) (a1 : Int) (r : Bool) (w : World) (hr0 : Kd.C (Kd.int .u8) w A0 l0.length l0) (hc0 : l0.length ≤ c0) (h : bits_Has.f l0 a1 = some r) :
    Calls Tryz.prog 75 #[.slice A0 l0.length c0, .int .i64 a1] w fun e w' => e = .returned (.bool r) ∧ Drawn0 w w' := by
  have HR0 := Aside0.mk hr0
  have HC0 := Aside0.mk hc0
  clear hr0 hc0
  have H : ((bits_in.f l0 a1).bind fun t132 => (if t132 = true then (if 0 ≤ (wrap64 (Int.tdiv a1 8)) then (if (wrap64 (Int.tdiv a1 8)) < (l0.length : Int) then ((bits_mask.f a1).bind fun t134 => (some ((Go.bits .and .u8 (rd l0 (wrap64 (Int.tdiv a1 8))) t134) != 0))) else (none)) else (none)) else (some false))) = some r := h
  clear h
  replace H := Option.bind_eq_some_iff.mp H
  obtain ⟨t132, A30, H⟩ := H
  replace H : (if t132 = true then (if 0 ≤ (wrap64 (Int.tdiv a1 8)) then (if (wrap64 (Int.tdiv a1 8)) < (l0.length : Int) then ((bits_mask.f a1).bind fun t134 => (some ((Go.bits .and .u8 (rd l0 (wrap64 (Int.tdiv a1 8))) t134) != 0))) else (none)) else (none)) else (some false)) = some r := H
  have A3 := Aside0.mk A30
  clear A30
  by_cases c4 : t132 = true
  · subst c4
    have H1 : (if 0 ≤ (wrap64 (Int.tdiv a1 8)) then (if (wrap64 (Int.tdiv a1 8)) < (l0.length : Int) then ((bits_mask.f a1).bind fun t134 => (some ((Go.bits .and .u8 (rd l0 (wrap64 (Int.tdiv a1 8))) t134) != 0))) else (none)) else (none)) = some r := by rw [if_pos rfl] at H; exact H
    clear H
    have H := H1
    clear H1
    obtain ⟨ji5, hji5⟩ : ∃ j_ : Int, (wrap64 (Int.tdiv a1 8)) = j_ := ⟨_, rfl⟩
    replace H : (if 0 ≤ (ji5) then (if (ji5) < (l0.length : Int) then ((bits_mask.f a1).bind fun t134 => (some ((Go.bits .and .u8 (rd l0 (ji5)) t134) != 0))) else (none)) else (none)) = some r := by first | (rw [hji5] at H; exact H) | (simp only [hji5] at H ⊢; exact H)
    (try rw [hji5] at A3)
    have hji5w : (IntKind.i64.wrap (Int.tdiv a1 8)) = ji5 := (i64_w _).trans hji5
    by_cases c6 : 0 ≤ (ji5)
    · rw [if_pos c6] at H
      have c6b0 : decide (0 ≤ (ji5)) = true := decide_eq_true c6
      clear c6
      by_cases c7 : (ji5) < (l0.length : Int)
      · rw [if_pos c7] at H
        have c7b0 : decide ((ji5) < (l0.length : Int)) = true := decide_eq_true c7
        clear c7
        replace H := Option.bind_eq_some_iff.mp H
        obtain ⟨t134, A80, H⟩ := H
        replace H : (some ((Go.bits .and .u8 (rd l0 (ji5)) t134) != 0)) = some r := H
        have A8 := Aside0.mk A80
        clear A80
        obtain rfl := Option.some.inj H
        go_enter Tryz.func75, Tryz.ntmps75
        go_wp2_with (first | (go_at_call 102; (with_reducible refine (bits_in.calls _ _ l0 a1 true _ ?side1 ?side2 A3.out).mono ?_); (case side1 => repeat (first | exact HR0.out | (with_reducible refine Kd.C_alloc ?_ _) | (with_reducible refine Kd.C_drewN ?_ _) | (with_reducible refine Kd.C_drew ?_))); (case side2 => exact HC0.out); rintro e w' ⟨rfl, ⟨nd, rfl⟩⟩; (try first | exact ⟨rfl, _, World.drewN_drewN _ _ _⟩ | exact ⟨rfl, _, Eq.trans (World.drewN_drewN _ _ _) (congrArg (World.drewN _) (Nat.add_assoc _ _ _))⟩); have p133 : 0 ≤ ((ji5) : Int) := of_decide_eq_true (by first | (with_reducible assumption) | assumption); have q133 : (ji5) < (l0.length : Int) := of_decide_eq_true (by first | (with_reducible assumption) | assumption); obtain ⟨ad133, e133, hx133_0⟩ := Kd.at_int HR0.out (ji5) p133 q133; cases e133; replace p133 := eq_true p133; replace q133 := eq_true q133) | (go_at_call 103; (with_reducible refine (bits_mask.calls a1 t134 _ A8.out).mono ?_); rintro e w' ⟨rfl, ⟨nd, rfl⟩⟩; (try first | exact ⟨rfl, _, World.drewN_drewN _ _ _⟩ | exact ⟨rfl, _, Eq.trans (World.drewN_drewN _ _ _) (congrArg (World.drewN _) (Nat.add_assoc _ _ _))⟩)))
        repeat (go_quiet (first | (go_at_call 102; (with_reducible refine (bits_in.calls _ _ l0 a1 true _ ?side1 ?side2 A3.out).mono ?_); (case side1 => repeat (first | exact HR0.out | (with_reducible refine Kd.C_alloc ?_ _) | (with_reducible refine Kd.C_drewN ?_ _) | (with_reducible refine Kd.C_drew ?_))); (case side2 => exact HC0.out); rintro e w' ⟨rfl, ⟨nd, rfl⟩⟩; (try first | exact ⟨rfl, _, World.drewN_drewN _ _ _⟩ | exact ⟨rfl, _, Eq.trans (World.drewN_drewN _ _ _) (congrArg (World.drewN _) (Nat.add_assoc _ _ _))⟩); have p133 : 0 ≤ ((ji5) : Int) := of_decide_eq_true (by first | (with_reducible assumption) | assumption); have q133 : (ji5) < (l0.length : Int) := of_decide_eq_true (by first | (with_reducible assumption) | assumption); obtain ⟨ad133, e133, hx133_0⟩ := Kd.at_int HR0.out (ji5) p133 q133; cases e133; replace p133 := eq_true p133; replace q133 := eq_true q133) | (go_at_call 103; (with_reducible refine (bits_mask.calls a1 t134 _ A8.out).mono ?_); rintro e w' ⟨rfl, ⟨nd, rfl⟩⟩; (try first | exact ⟨rfl, _, World.drewN_drewN _ _ _⟩ | exact ⟨rfl, _, Eq.trans (World.drewN_drewN _ _ _) (congrArg (World.drewN _) (Nat.add_assoc _ _ _))⟩))); try go_wp2_with (first | (go_at_call 102; (with_reducible refine (bits_in.calls _ _ l0 a1 true _ ?side1 ?side2 A3.out).mono ?_); (case side1 => repeat (first | exact HR0.out | (with_reducible refine Kd.C_alloc ?_ _) | (with_reducible refine Kd.C_drewN ?_ _) | (with_reducible refine Kd.C_drew ?_))); (case side2 => exact HC0.out); rintro e w' ⟨rfl, ⟨nd, rfl⟩⟩; (try first | exact ⟨rfl, _, World.drewN_drewN _ _ _⟩ | exact ⟨rfl, _, Eq.trans (World.drewN_drewN _ _ _) (congrArg (World.drewN _) (Nat.add_assoc _ _ _))⟩); have p133 : 0 ≤ ((ji5) : Int) := of_decide_eq_true (by first | (with_reducible assumption) | assumption); have q133 : (ji5) < (l0.length : Int) := of_decide_eq_true (by first | (with_reducible assumption) | assumption); obtain ⟨ad133, e133, hx133_0⟩ := Kd.at_int HR0.out (ji5) p133 q133; cases e133; replace p133 := eq_true p133; replace q133 := eq_true q133) | (go_at_call 103; (with_reducible refine (bits_mask.calls a1 t134 _ A8.out).mono ?_); rintro e w' ⟨rfl, ⟨nd, rfl⟩⟩; (try first | exact ⟨rfl, _, World.drewN_drewN _ _ _⟩ | exact ⟨rfl, _, Eq.trans (World.drewN_drewN _ _ _) (congrArg (World.drewN _) (Nat.add_assoc _ _ _))⟩))))
        go_ret
        exact ⟨by first | rfl | (simp; done) | (simp only [← hji5] <;> (first | rfl | simp)) | (simp [*]; done), by repeat (first | exact Drawn0.refl _ | apply Drawn0.step)⟩
      · rw [if_neg c7] at H
        exact absurd H (by simp)
    · rw [if_neg c6] at H
      exact absurd H (by simp)
  · replace c4 := Bool.eq_false_iff.mpr c4
    subst c4
    have H1 : (some false) = some r := by rw [if_neg (show ¬ (false = true) by decide)] at H; exact H
    clear H
    have H := H1
    clear H1
    obtain rfl := Option.some.inj H
    go_enter Tryz.func75, Tryz.ntmps75
    go_wp2_with (first | (go_at_call 102; (with_reducible refine (bits_in.calls _ _ l0 a1 false _ ?side1 ?side2 A3.out).mono ?_); (case side1 => repeat (first | exact HR0.out | (with_reducible refine Kd.C_alloc ?_ _) | (with_reducible refine Kd.C_drewN ?_ _) | (with_reducible refine Kd.C_drew ?_))); (case side2 => exact HC0.out); rintro e w' ⟨rfl, ⟨nd, rfl⟩⟩; (try first | exact ⟨rfl, _, World.drewN_drewN _ _ _⟩ | exact ⟨rfl, _, Eq.trans (World.drewN_drewN _ _ _) (congrArg (World.drewN _) (Nat.add_assoc _ _ _))⟩)))
    repeat (go_quiet (first | (go_at_call 102; (with_reducible refine (bits_in.calls _ _ l0 a1 false _ ?side1 ?side2 A3.out).mono ?_); (case side1 => repeat (first | exact HR0.out | (with_reducible refine Kd.C_alloc ?_ _) | (with_reducible refine Kd.C_drewN ?_ _) | (with_reducible refine Kd.C_drew ?_))); (case side2 => exact HC0.out); rintro e w' ⟨rfl, ⟨nd, rfl⟩⟩; (try first | exact ⟨rfl, _, World.drewN_drewN _ _ _⟩ | exact ⟨rfl, _, Eq.trans (World.drewN_drewN _ _ _) (congrArg (World.drewN _) (Nat.add_assoc _ _ _))⟩))); try go_wp2_with (first | (go_at_call 102; (with_reducible refine (bits_in.calls _ _ l0 a1 false _ ?side1 ?side2 A3.out).mono ?_); (case side1 => repeat (first | exact HR0.out | (with_reducible refine Kd.C_alloc ?_ _) | (with_reducible refine Kd.C_drewN ?_ _) | (with_reducible refine Kd.C_drew ?_))); (case side2 => exact HC0.out); rintro e w' ⟨rfl, ⟨nd, rfl⟩⟩; (try first | exact ⟨rfl, _, World.drewN_drewN _ _ _⟩ | exact ⟨rfl, _, Eq.trans (World.drewN_drewN _ _ _) (congrArg (World.drewN _) (Nat.add_assoc _ _ _))⟩))))
    go_ret
    exact ⟨by first | rfl | (simp; done) | (simp [*]; done), by repeat (first | exact Drawn0.refl _ | apply Drawn0.step)⟩
def bits_First.l0 : Nat → List Int → Int → Option (Int × Bool)
  | 0, _, _ => none
  | k + 1, x0, x6 => if x6 < (wrap64 (8 * (x0.length : Int))) then ((bits_Has.f x0 x6).bind fun t135 => (if t135 = true then (bits_First.l0 k x0 (wrap64 (x6 + 1))) else (some (x6, true)))) else (some (0, false))
def bits_First.f (k : Nat) (l0 : List Int) (a1 : Int) : Option (Int × Bool) := bits_First.l0 k l0 (mx a1 0)
set_option maxHeartbeats 8000000 in
set_option maxRecDepth 100000 in
theorem bits_First.calls (k : Nat) (A0 : Option Addr) (c0 : Nat) (l0 : List Int) (a1 : Int) (r1 : Int) (r2 : Bool) (w : World) (hr0 : Kd.C (Kd.int .u8) w A0 l0.length l0) (hc0 : l0.length ≤ c0) (h : bits_First.f k l0 a1 = some (r1, r2)) :
    Calls Tryz.prog 101 #[.slice A0 l0.length c0, .int .i64 a1] w fun e w' => e = .returned (.tuple #[.int .i64 r1, .bool r2]) ∧ Below w.heap.size w w' := by
  have HR0 := Aside0.mk hr0
  have HC0 := Aside0.mk hc0
  clear hr0 hc0
  have HB := Aside0.mk (Below.refl w.heap.size w)
  have H : (bits_First.l0 k l0 (mx a1 0)) = some (r1, r2) := h
  clear h
  obtain ⟨ji3, hji3⟩ : ∃ j_ : Int, (mx a1 0) = j_ := ⟨_, rfl⟩
  replace H : (bits_First.l0 k l0 ji3) = some (r1, r2) := by first | (rw [hji3] at H; exact H) | (simp only [hji3] at H ⊢; exact H)
  (try (have hji3l : 0 ≤ ji3 := by (rw [← hji3]; unfold mx; (repeat' split) <;> omega)))
  (try (have hji3m : 0 ≤ ji3 := by omega))
  have hji3_ : (if a1 < 0 then 0 else a1) = ji3 := hji3
  have H' := Aside0.mk H
  clear H
  go_enter Tryz.func101, Tryz.ntmps101
  go_wp2
  go_loopg [6] k (fun kq v6 w' => ∃ (x6_1 : Int), v6 = .int .i64 x6_1 ∧ Aside0 (bits_First.l0 kq l0 x6_1 = some (r1, r2)) ∧ Aside0 (kq ≤ k) ∧ Aside0 (Below w.heap.size w w'))
  case atStart => exact ⟨(ji3), (by first | rfl | (simp; done) | (simp only [← hji3] <;> (first | rfl | simp)) | (simp [*]; done)), H', ⟨Nat.le_refl _⟩, ⟨by repeat (first | (with_reducible first | exact HB.out | apply below_alloc | apply pw_below_drewN | apply below_drew1) | exact HB.out)⟩⟩
  case round =>
    clear H'
    try clear c1
    try clear p2
    obtain ⟨x6_1, rfl, HA, HK1, HB⟩ := hrel
    cases gk with
    | zero => exact absurd HA.out (by simp [bits_First.l0])
    | succ k1 =>
      have H := HA.out
      clear HA
      simp only [bits_First.l0] at H
      by_cases c4 : x6_1 < (wrap64 (8 * (l0.length : Int)))
      · rw [if_pos c4] at H
        have c4b0 : decide (x6_1 < (wrap64 (8 * (l0.length : Int)))) = true := decide_eq_true c4
        clear c4
        replace H := Option.bind_eq_some_iff.mp H
        obtain ⟨t135, A50, H⟩ := H
        replace H : (if t135 = true then (bits_First.l0 k1 l0 (wrap64 (x6_1 + 1))) else (some (x6_1, true))) = some (r1, r2) := H
        have A5 := Aside0.mk A50
        clear A50
        by_cases c6 : t135 = true
        · subst c6
          have H1 : (bits_First.l0 k1 l0 (wrap64 (x6_1 + 1))) = some (r1, r2) := by rw [if_pos rfl] at H; exact H
          clear H
          have H := H1
          clear H1
          have H' := Aside0.mk H
          clear H
          go_wp2_with (first | ((with_reducible refine gate_callee (f := 75) rfl ?_); refine goesL_ (some 18) rfl rfl Tryz.func75 (by kernel_rfl) rfl #[.slice A0 l0.length c0, .int .i64 x6_1] rfl (by (try simp only [List.map_toArray, List.map_cons, List.map_nil]); first | done | rfl | (simp only [List.length_drop, List.length_take]; rfl)) ?_; (with_reducible refine (bits_Has.calls _ _ l0 x6_1 true _ ?side1 ?side2 A5.out).mono ?_); (case side1 => repeat (first | exact (Kd.C_below HR0.out HB.out) | (with_reducible refine Kd.C_alloc ?_ _) | (with_reducible refine Kd.C_drewN ?_ _) | (with_reducible refine Kd.C_drew ?_))); (case side2 => exact HC0.out); rintro e w' ⟨rfl, ⟨nd, rfl⟩⟩; refine ⟨_, rfl, ?_⟩))
          go_roundg k1
          case measure => have := HK1.out; omega
          case rel => exact ⟨(wrap64 (x6_1 + 1)), (by first | rfl | (simp; done) | (simp [*]; done)), H', ⟨by have := HK1.out; omega⟩, ⟨by repeat (first | (with_reducible first | exact HB.out | apply below_alloc | apply pw_below_drewN | apply below_drew1) | exact HB.out)⟩⟩
        · replace c6 := Bool.eq_false_iff.mpr c6
          subst c6
          have H1 : (some (x6_1, true)) = some (r1, r2) := by rw [if_neg (show ¬ (false = true) by decide)] at H; exact H
          clear H
          have H := H1
          clear H1
          simp only [Option.some.injEq, Prod.mk.injEq] at H
          obtain ⟨rfl, rfl⟩ := H
          go_wp2_with (first | ((with_reducible refine gate_callee (f := 75) rfl ?_); refine goesL_ (some 18) rfl rfl Tryz.func75 (by kernel_rfl) rfl #[.slice A0 l0.length c0, .int .i64 x6_1] rfl (by (try simp only [List.map_toArray, List.map_cons, List.map_nil]); first | done | rfl | (simp only [List.length_drop, List.length_take]; rfl)) ?_; (with_reducible refine (bits_Has.calls _ _ l0 x6_1 false _ ?side1 ?side2 A5.out).mono ?_); (case side1 => repeat (first | exact (Kd.C_below HR0.out HB.out) | (with_reducible refine Kd.C_alloc ?_ _) | (with_reducible refine Kd.C_drewN ?_ _) | (with_reducible refine Kd.C_drew ?_))); (case side2 => exact HC0.out); rintro e w' ⟨rfl, ⟨nd, rfl⟩⟩; refine ⟨_, rfl, ?_⟩))
          go_ret2
          exact ⟨by first | rfl | (simp [errW_none, errW_some] <;> rfl) | (simp only [← hji3]; first | rfl | (simp [errW_none, errW_some] <;> rfl)) | (simp [*, errW_none, errW_some] <;> rfl), by repeat (first | (with_reducible first | exact HB.out | apply below_alloc | apply pw_below_drewN | apply below_drew1) | exact HB.out)⟩
      · rw [if_neg c4] at H
        have c4b0 : decide (x6_1 < (wrap64 (8 * (l0.length : Int)))) = false := decide_eq_false c4
        clear c4
        simp only [Option.some.injEq, Prod.mk.injEq] at H
        obtain ⟨rfl, rfl⟩ := H
        go_wp2
        go_ret2
        exact ⟨by first | rfl | (simp [errW_none, errW_some] <;> rfl) | (simp only [← hji3]; first | rfl | (simp [errW_none, errW_some] <;> rfl)) | (simp [*, errW_none, errW_some] <;> rfl), by repeat (first | (with_reducible first | exact HB.out | apply below_alloc | apply pw_below_drewN | apply below_drew1) | exact HB.out)⟩
end Go.Proofs.YtplkndmkchpcdaaGreat.PShadowPlays
end
section
namespace Go.Proofs.YtplkndmkchpcdaaGreat.PShadowPlays
open Go.RowKit YtplkndmkchpcdaaGreatW.PrintWords YtplkndmkchpcdaaGreatW.PrintLast YtplkndmkchpcdaaGreatW.PrintMore
attribute [local go_sem] max2_int min2_int max_two min_two max_three min_three max_four min_four
def page_Words.l0 : Nat → List Int → List Int → Int → Int → Option (List Int × Int)
  | 0, _, _, _, _ => none
  | k + 1, x4, x7, x8, x9 => if x9 < x8 then (if 0 ≤ x9 then (if x9 < (x7.length : Int) then (if (rd x7 x9) < 0 then (some (([] : List Int), 12)) else (if (rd x7 x9) > 65535 then (some (([] : List Int), 12)) else ((some (([((rd x7 x9) / 256) % 256, (rd x7 x9) % 256] : List Int) : List Int)).bind fun y137 => (if x4.length + y137.length < 140737488355328 then (page_Words.l0 k (x4 ++ y137) x7 x8 (wrap64 (x9 + 1))) else (none))))) else (none)) else (none)) else (some (x4, 0))
def page_Words.f (k : Nat) (l0 : List Int) : Option (List Int × Int) := page_Words.l0 k ([] : List Int) l0 (l0.length : Int) 0
set_option maxHeartbeats 8000000 in
set_option maxRecDepth 100000 in
theorem page_Words.calls (k : Nat) (A0 : Option Addr) (c0 : Nat) (l0 : List Int) (r1 : List Int) (r2 : Int) (w : World) (hr0 : Kd.C (Kd.int .i64) w A0 l0.length l0) (hc0 : l0.length ≤ c0) (h : page_Words.f k l0 = some (r1, r2)) :
    Calls Tryz.prog 67 #[.slice A0 l0.length c0] w fun e w' => ∃ v0_ : Value, e = .returned (.tuple #[v0_, .int .i64 r2]) ∧ Kd.R (Kd.int .u8) 5 w' w.heap.size (fun _ => True) v0_ r1 ∧ Below w.heap.size w w' := by
  have HR0 := Aside0.mk hr0
  have HC0 := Aside0.mk hc0
  clear hr0 hc0
  have HB := Aside0.mk (Below.refl w.heap.size w)
  have H : (page_Words.l0 k ([] : List Int) l0 (l0.length : Int) 0) = some (r1, r2) := h
  clear h
  have H' := Aside0.mk H
  clear H
  go_enter Tryz.func67, Tryz.ntmps67
  go_wp2
  go_loopg [4, 9] k (fun kq v4 v9 w' => ∃ (x4_1 : List Int) (x9_1 : Int), v9 = .int .i64 x9_1 ∧ Aside0 (page_Words.l0 kq x4_1 l0 (l0.length : Int) x9_1 = some (r1, r2)) ∧ Aside0 (kq ≤ k) ∧ Aside0 (Kd.R (Kd.int .u8) 5 w' w.heap.size (fun _ => True) v4 x4_1) ∧ Aside0 (Below w.heap.size w w'))
  case atStart => exact ⟨(([] : List Int)), (0), (by first | rfl | (simp; done) | (simp [*]; done)), H', ⟨Nat.le_refl _⟩, ⟨by first | exact Kd.R_nil _ _ _ _ _ | exact Kd.N_nil _ _ _ _ _ | exact Kd.V_nil _ _ _ _ _ | exact Kd.Q_nil _ _ _ _ _ | exact Kd.S_nil _ _ _ _ _⟩, ⟨by repeat (first | (with_reducible first | exact HB.out | apply below_alloc | apply pw_below_drewN | apply below_drew1) | exact HB.out)⟩⟩
  case round =>
    clear H'
    obtain ⟨x4_1, x9_1, rfl, HA, HK1, HO_4, HB⟩ := hrel
    cases gk with
    | zero => exact absurd HA.out (by simp [page_Words.l0])
    | succ k1 =>
      have H := HA.out
      clear HA
      simp only [page_Words.l0] at H
      by_cases c2 : x9_1 < (l0.length : Int)
      · rw [if_pos c2] at H
        have c2b0 : decide (x9_1 < (l0.length : Int)) = true := decide_eq_true c2
        clear c2
        by_cases c3 : 0 ≤ x9_1
        · rw [if_pos c3] at H
          have c3b0 : decide (0 ≤ x9_1) = true := decide_eq_true c3
          clear c3
          by_cases c4 : x9_1 < (l0.length : Int)
          · rw [if_pos c4] at H
            have c4b0 : decide (x9_1 < (l0.length : Int)) = true := decide_eq_true c4
            clear c4
            by_cases c5 : (rd l0 x9_1) < 0
            · rw [if_pos c5] at H
              have c5b0 : decide ((rd l0 x9_1) < 0) = true := decide_eq_true c5
              clear c5
              simp only [Option.some.injEq, Prod.mk.injEq] at H
              obtain ⟨rfl, rfl⟩ := H
              have p136 : 0 ≤ (x9_1 : Int) := of_decide_eq_true (by first | (with_reducible assumption) | assumption)
              have q136 : x9_1 < (l0.length : Int) := of_decide_eq_true (by first | (with_reducible assumption) | assumption)
              obtain ⟨ad136, e136, hx136_0⟩ := Kd.at_int HR0.out x9_1 p136 q136
              cases e136
              replace hx136_0 := (HB.out.cell (World.block_lt_of_cell? w _ hx136_0)).trans hx136_0
              replace p136 := eq_true p136
              replace q136 := eq_true q136
              go_wp2
              go_ret2
              exact ⟨_, by first | rfl | (simp [errW_none, errW_some] <;> rfl) | (simp [*, errW_none, errW_some] <;> rfl), by first | exact Kd.R_nil _ _ _ _ _ | exact Kd.N_nil _ _ _ _ _ | exact Kd.V_nil _ _ _ _ _ | exact Kd.Q_nil _ _ _ _ _ | exact Kd.S_nil _ _ _ _ _, by repeat (first | (with_reducible first | exact HB.out | apply below_alloc | apply pw_below_drewN | apply below_drew1) | exact HB.out)⟩
            · rw [if_neg c5] at H
              have c5b0 : decide ((rd l0 x9_1) < 0) = false := decide_eq_false c5
              clear c5
              by_cases c6 : (rd l0 x9_1) > 65535
              · rw [if_pos c6] at H
                have c6b0 : decide (65535 < (rd l0 x9_1)) = true := decide_eq_true c6
                clear c6
                simp only [Option.some.injEq, Prod.mk.injEq] at H
                obtain ⟨rfl, rfl⟩ := H
                have p136 : 0 ≤ (x9_1 : Int) := of_decide_eq_true (by first | (with_reducible assumption) | assumption)
                have q136 : x9_1 < (l0.length : Int) := of_decide_eq_true (by first | (with_reducible assumption) | assumption)
                obtain ⟨ad136, e136, hx136_0⟩ := Kd.at_int HR0.out x9_1 p136 q136
                cases e136
                replace hx136_0 := (HB.out.cell (World.block_lt_of_cell? w _ hx136_0)).trans hx136_0
                replace p136 := eq_true p136
                replace q136 := eq_true q136
                go_wp2
                go_ret2
                exact ⟨_, by first | rfl | (simp [errW_none, errW_some] <;> rfl) | (simp [*, errW_none, errW_some] <;> rfl), by first | exact Kd.R_nil _ _ _ _ _ | exact Kd.N_nil _ _ _ _ _ | exact Kd.V_nil _ _ _ _ _ | exact Kd.Q_nil _ _ _ _ _ | exact Kd.S_nil _ _ _ _ _, by repeat (first | (with_reducible first | exact HB.out | apply below_alloc | apply pw_below_drewN | apply below_drew1) | exact HB.out)⟩
              · rw [if_neg c6] at H
                have c6b0 : decide (65535 < (rd l0 x9_1)) = false := decide_eq_false c6
                clear c6
                obtain ⟨y137, hy137⟩ : ∃ y_ : List Int, y_ = (([((rd l0 x9_1) / 256) % 256, (rd l0 x9_1) % 256] : List Int)) := ⟨_, rfl⟩
                replace H : (if x4_1.length + y137.length < 140737488355328 then (page_Words.l0 k1 (x4_1 ++ y137) l0 (l0.length : Int) (wrap64 (x9_1 + 1))) else (none)) = some (r1, r2) := by first | (rw [hy137]; with_reducible exact H) | (have H2_ := (Option.bind_some _ _).symm.trans H; rw [hy137]; with_reducible exact H2_) | (have H2_ := (Option.bind_some _ _).symm.trans H; with_reducible exact H2_) | with_reducible exact H | (rw [hy137]; exact H) | exact H
                have Ny137 := Aside0.mk hy137
                clear hy137
                by_cases c7 : x4_1.length + y137.length < 140737488355328
                · rw [if_pos c7] at H
                  have LMc7 := Aside0.mk c7
                  clear c7
                  obtain ⟨y140, hy140⟩ : ∃ y_ : List Int, y_ = (x4_1 ++ y137) := ⟨_, rfl⟩
                  replace H : (page_Words.l0 k1 y140 l0 (l0.length : Int) (wrap64 (x9_1 + 1))) = some (r1, r2) := by first | (rw [hy140]; with_reducible exact H) | (have H2_ := (Option.bind_some _ _).symm.trans H; rw [hy140]; with_reducible exact H2_) | (have H2_ := (Option.bind_some _ _).symm.trans H; with_reducible exact H2_) | with_reducible exact H | (rw [hy140]; exact H) | exact H
                  have Ny140 := Aside0.mk hy140
                  clear hy140
                  have H' := Aside0.mk H
                  clear H
                  have p136 : 0 ≤ (x9_1 : Int) := of_decide_eq_true (by first | (with_reducible assumption) | assumption)
                  have q136 : x9_1 < (l0.length : Int) := of_decide_eq_true (by first | (with_reducible assumption) | assumption)
                  obtain ⟨ad136, e136, hx136_0⟩ := Kd.at_int HR0.out x9_1 p136 q136
                  cases e136
                  replace hx136_0 := (HB.out.cell (World.block_lt_of_cell? w _ hx136_0)).trans hx136_0
                  replace p136 := eq_true p136
                  replace q136 := eq_true q136
                  go_wp2_with (first | ((with_reducible refine gate_dst (N := 25) rfl ?_); refine Kd.R_lit (Kd.int .u8) _ 5 ?hg (N := 25) ?hd (xs := ([((rd l0 x9_1) / 256) % 256, (rd l0 x9_1) % 256] : List Int)) (inner := [.int .u8 (((rd l0 x9_1) / 256) % 256), .int .u8 ((rd l0 x9_1) % 256)]) (ok := fun _ => True) (okp := fun _ => True) ?hr ?hp (fun _ hk => hk) trivial (Below.refl _ _) (Nat.le_refl _) (by simp) ?_; (case hd => rfl); (case hg => rfl); (case hr => first | (go_simp; done) | (go_simp; rfl)); (case hp => exact (Reps.one (show Kd.M (Kd.int .u8) _ _ _ (((rd l0 x9_1) / 256) % 256) [.int .u8 (((rd l0 x9_1) / 256) % 256)] from rfl) (Reps.one (show Kd.M (Kd.int .u8) _ _ _ ((rd l0 x9_1) % 256) [.int .u8 ((rd l0 x9_1) % 256)] from rfl) (Reps.none _ _)))); intro v138 w8 ho9 hb hg_ hnew_; clear hg_ hnew_; (first | rw [← Ny137.out] at ho9 | (simp only [Int.reduceToNat] at ho9; rw [← Ny137.out] at ho9)); have n0_ := Aside0.mk (Kd.R_elder' (by (with_reducible repeat (first | apply Kd.R_alloc | apply Kd.R_drewN | apply Kd.R_drew)); exact HO_4.out) (Kd.R_base ho9) hb); have n1_ := Aside0.mk (Kd.R_lower (Kd.R_new' ho9 (Kd.R_lt (by (with_reducible repeat (first | apply Kd.R_alloc | apply Kd.R_drewN | apply Kd.R_drew)); exact HO_4.out))) (below_size (by repeat (first | (with_reducible first | exact HB.out | apply below_alloc | apply pw_below_drewN | apply below_drew1) | exact HB.out)))); have n2_ := Aside0.mk (below_step (by repeat (first | (with_reducible first | exact HB.out | apply below_alloc | apply pw_below_drewN | apply below_drew1) | exact HB.out)) hb); clear HO_4; clear HB; have HO_4 := n0_; have HO139 := n1_; have HB := n2_; clear n0_ n1_ n2_; clear hb ho9; obtain ⟨Ao11, co11, eo11⟩ := Kd.R_slice HO139.out; subst eo11) | ((with_reducible refine gate_builtin (b := .append) (xs := #[.tmp 19, .tmp 25]) rfl ?_); at_builtin; refine Kd.R_append_rows (Kd.int .u8) (w0 := w) w.heap.size rfl (.tmp 19) (.tmp 25) 22 5 (.int .u8 0) 1 rfl Tryz.underlying22 info5 rfl (by decide) (by omega) u4 x4_1 y137 _ _ _ (fun k_ => some k_ ≠ (.slice Ao11 y137.length co11 : Value).ownBlock) (fun _ => False) rfl rfl ?aO ?aR (fun _ _ h => h) (fun _ h => h.elim) ?aF ?aB ?aS ?aL ?_; (case aR => repeat (first | exact (Kd.R_reads' HO139.out).2.2 | (with_reducible refine Kd.C_alloc ?_ _) | (with_reducible refine Kd.C_drewN ?_ _) | (with_reducible refine Kd.C_drew ?_))); (case aB => exact (by repeat (first | (with_reducible first | exact HB.out | apply below_alloc | apply pw_below_drewN | apply below_drew1) | exact HB.out))); (case aF => exact (fun k_ hk => Kd.fresh' (Kd.R_lt (by (with_reducible repeat (first | apply Kd.R_alloc | apply Kd.R_drewN | apply Kd.R_drew)); exact HO139.out)) k_ hk)); (case aO => exact (by (with_reducible repeat (first | apply Kd.R_alloc | apply Kd.R_drewN | apply Kd.R_drew)); exact Kd.R_mono HO_4.out (fun _ hk => hk.2))); (case aS => exact (below_size (by repeat (first | (with_reducible first | exact HB.out | apply below_alloc | apply pw_below_drewN | apply below_drew1) | exact HB.out)))); (case aL => have := LMc7.out; omega); intro v141 w10 ho hb hg hat; rw [← Ny140.out] at ho; have n0_ := Aside0.mk (Kd.R_after (ok := (fun _ => True)) (by (with_reducible repeat (first | apply Kd.R_alloc | apply Kd.R_drewN | apply Kd.R_drew)); exact HO139.out) hg hat); have n1_ := Aside0.mk (hb); have n2_ := Aside0.mk (ho); clear HO139; clear HB; clear HO_4; have HO139 := n0_; have HB := n1_; have HO142 := n2_; clear n0_ n1_ n2_; clear ho hb hg hat))
                  go_roundg k1
                  case measure => have := HK1.out; omega
                  case rel => exact ⟨(y140), (wrap64 (x9_1 + 1)), (by first | rfl | (simp; done) | (simp [*]; done)), H', ⟨by have := HK1.out; omega⟩, ⟨by (with_reducible repeat (first | apply Kd.R_alloc | apply Kd.R_drewN | apply Kd.R_drew)); exact Kd.R_mono HO142.out (fun _ hk => trivial)⟩, ⟨by repeat (first | (with_reducible first | exact HB.out | apply below_alloc | apply pw_below_drewN | apply below_drew1) | exact HB.out)⟩⟩
                · rw [if_neg c7] at H
                  exact absurd H (by simp)
          · rw [if_neg c4] at H
            exact absurd H (by simp)
        · rw [if_neg c3] at H
          exact absurd H (by simp)
      · rw [if_neg c2] at H
        have c2b0 : decide (x9_1 < (l0.length : Int)) = false := decide_eq_false c2
        clear c2
        simp only [Option.some.injEq, Prod.mk.injEq] at H
        obtain ⟨rfl, rfl⟩ := H
        go_wp2
        go_ret2
        exact ⟨_, by first | rfl | (simp [errW_none, errW_some] <;> rfl) | (simp [*, errW_none, errW_some] <;> rfl), by (with_reducible repeat (first | apply Kd.R_alloc | apply Kd.R_drewN | apply Kd.R_drew)); exact HO_4.out, by repeat (first | (with_reducible first | exact HB.out | apply below_alloc | apply pw_below_drewN | apply below_drew1) | exact HB.out)⟩
mutual
def bits_Count.l0 : Nat → Int → List Int → Int → Int → Option (Int)
  | 0, _, _, _, _ => none
  | k + 1, x3, x6, x7, x8 => if x8 < x7 then (if 0 ≤ x8 then (if x8 < (x6.length : Int) then (bits_Count.l1 k x3 (rd x6 x8) x6 x7 x8) else (none)) else (none)) else (some x3)
def bits_Count.l1 : Nat → Int → Int → List Int → Int → Int → Option (Int)
  | 0, _, _, _, _, _ => none
  | k + 1, x3, x5, x6, x7, x8 => if x5 = 0 then (bits_Count.l0 k x3 x6 x7 (wrap64 (x8 + 1))) else (bits_Count.l1 k (wrap64 (x3 + 1)) (Go.bits .and .u8 x5 ((x5 - 1) % 256)) x6 x7 x8)
end
def bits_Count.f (k : Nat) (l0 : List Int) : Option (Int) := bits_Count.l0 k 0 l0 (l0.length : Int) 0
def bytes_Equal.f (l0 : List Int) (l1 : List Int) : Option (Bool) := some ((strOfNums l0).toList == (strOfNums l1).toList)
set_option maxHeartbeats 8000000 in
set_option maxRecDepth 100000 in
theorem bytes_Equal.calls (A0 : Option Addr) (c0 : Nat) (l0 : List Int) (A1 : Option Addr) (c1 : Nat) (l1 : List Int) (r : Bool) (w : World) (hr0 : Kd.C (Kd.int .u8) w A0 l0.length l0) (hc0 : l0.length ≤ c0) (hr1 : Kd.C (Kd.int .u8) w A1 l1.length l1) (hc1 : l1.length ≤ c1) (h : bytes_Equal.f l0 l1 = some r) :
    Calls Tryz.prog 107 #[.slice A0 l0.length c0, .slice A1 l1.length c1] w fun e w' => e = .returned (.bool r) ∧ Drawn0 w w' := by
  have HR0 := Aside0.mk hr0
  have HC0 := Aside0.mk hc0
  clear hr0 hc0
  have HR1 := Aside0.mk hr1
  have HC1 := Aside0.mk hc1
  clear hr1 hc1
  have H : (some ((strOfNums l0).toList == (strOfNums l1).toList)) = some r := h
  clear h
  obtain rfl := Option.some.inj H
  have hcv3 := Kd.C_string (P := Tryz.prog) (A := A0) (c := c0) Tryz.underlying22 Tryz.underlying5 Tryz.underlying9 HR0.out
  have hcv4 := Kd.C_string (P := Tryz.prog) (A := A1) (c := c1) Tryz.underlying22 Tryz.underlying5 Tryz.underlying9 HR1.out
  go_enter Tryz.func107, Tryz.ntmps107
  go_wp2
  go_ret
  exact ⟨by first | rfl | (simp; done) | (simp [*]; done), by repeat (first | exact Drawn0.refl _ | apply Drawn0.step)⟩
def sum_Open.f (k : Nat) (l0 : List Int) : Option (List Int × Int) := if (wrap64 ((l0.length : Int) - 4)) < 0 then (some (([] : List Int), 3)) else (if 0 ≤ (wrap64 ((l0.length : Int) - 4)) then (if (wrap64 ((l0.length : Int) - 4)) ≤ (l0.length : Int) then ((sum_tail.f k (l0.take ((wrap64 ((l0.length : Int) - 4)) : Int).toNat)).bind fun t145 => ((bytes_Equal.f t145 (l0.drop ((wrap64 ((l0.length : Int) - 4)) : Int).toNat)).bind fun t149 => (if t149 = true then ((bytes_Clone.f (l0.take ((wrap64 ((l0.length : Int) - 4)) : Int).toNat)).bind fun t151 => (some (t151, 0))) else (some (([] : List Int), 13))))) else (none)) else (none))
def sum_Open.T4 : Bool × List (List Nat × List Nat) := (true, [([], []), ([], []), ([0, 1], [0, 1]), ([2], [2]), ([], []), ([], []), ([4, 5], [4, 5]), ([3, 6, 3], [3, 6]), ([7], [7])])
def sum_Open.B4 : List Nat := [0, 0, 3, 7, 0, 0, 48, 127, 255]
theorem sum_Open.tab4 : rtab .any (opsOf Tryz.f131 4) = sum_Open.T4 := by kernel_rfl
theorem sum_Open.bits4 : waitsOk sum_Open.T4.2 sum_Open.B4 = true := by kernel_rfl
set_option maxHeartbeats 8000000 in
set_option maxRecDepth 100000 in
theorem sum_Open.calls (k : Nat) (A0 : Option Addr) (c0 : Nat) (l0 : List Int) (r1 : List Int) (r2 : Int) (w : World) (hr0 : Kd.C (Kd.int .u8) w A0 l0.length l0) (hc0 : l0.length ≤ c0) (h : sum_Open.f k l0 = some (r1, r2)) :
    Calls Tryz.prog 131 #[.slice A0 l0.length c0] w fun e w' => ∃ v0_ : Value, e = .returned (.tuple #[v0_, .int .i64 r2]) ∧ Kd.R (Kd.int .u8) 5 w' w.heap.size (fun _ => True) v0_ r1 ∧ Below w.heap.size w w' := by
  have HR0 := Aside0.mk hr0
  have HC0 := Aside0.mk hc0
  clear hr0 hc0
  have HB := Aside0.mk (Below.refl w.heap.size w)
  have H : (if (wrap64 ((l0.length : Int) - 4)) < 0 then (some (([] : List Int), 3)) else (if 0 ≤ (wrap64 ((l0.length : Int) - 4)) then (if (wrap64 ((l0.length : Int) - 4)) ≤ (l0.length : Int) then ((sum_tail.f k (l0.take ((wrap64 ((l0.length : Int) - 4)) : Int).toNat)).bind fun t145 => ((bytes_Equal.f t145 (l0.drop ((wrap64 ((l0.length : Int) - 4)) : Int).toNat)).bind fun t149 => (if t149 = true then ((bytes_Clone.f (l0.take ((wrap64 ((l0.length : Int) - 4)) : Int).toNat)).bind fun t151 => (some (t151, 0))) else (some (([] : List Int), 13))))) else (none)) else (none))) = some (r1, r2) := h
  clear h
  by_cases c2 : (wrap64 ((l0.length : Int) - 4)) < 0
  · rw [if_pos c2] at H
    have c2b0 : decide ((wrap64 ((l0.length : Int) - 4)) < 0) = true := decide_eq_true c2
    clear c2
    simp only [Option.some.injEq, Prod.mk.injEq] at H
    obtain ⟨rfl, rfl⟩ := H
    go_enter Tryz.func131, Tryz.ntmps131
    go_wp2
    go_ret2
    exact ⟨_, by first | rfl | (simp [errW_none, errW_some] <;> rfl) | (simp [*, errW_none, errW_some] <;> rfl), by first | exact Kd.R_nil _ _ _ _ _ | exact Kd.N_nil _ _ _ _ _ | exact Kd.V_nil _ _ _ _ _ | exact Kd.Q_nil _ _ _ _ _ | exact Kd.S_nil _ _ _ _ _, by repeat (first | (with_reducible first | exact HB.out | apply below_alloc | apply pw_below_drewN | apply below_drew1) | exact HB.out)⟩
  · rw [if_neg c2] at H
    have c2b0 : decide ((wrap64 ((l0.length : Int) - 4)) < 0) = false := decide_eq_false c2
    clear c2
    obtain ⟨ji3, hji3⟩ : ∃ j_ : Int, (wrap64 ((l0.length : Int) - 4)) = j_ := ⟨_, rfl⟩
    replace H : (if 0 ≤ (ji3) then (if (ji3) ≤ (l0.length : Int) then ((sum_tail.f k (l0.take ((ji3) : Int).toNat)).bind fun t145 => ((bytes_Equal.f t145 (l0.drop ((ji3) : Int).toNat)).bind fun t149 => (if t149 = true then ((bytes_Clone.f (l0.take ((ji3) : Int).toNat)).bind fun t151 => (some (t151, 0))) else (some (([] : List Int), 13))))) else (none)) else (none)) = some (r1, r2) := by first | (rw [hji3] at H; exact H) | (simp only [hji3] at H ⊢; exact H)
    (try rw [hji3] at c2b0)
    have hji3w : (IntKind.i64.wrap ((l0.length : Int) - 4)) = ji3 := (i64_w _).trans hji3
    by_cases c4 : 0 ≤ (ji3)
    · rw [if_pos c4] at H
      have c4b0 := eq_true c4
      have c4b1 : decide (0 ≤ (ji3)) = true := decide_eq_true c4
      clear c4
      by_cases c5 : (ji3) ≤ (l0.length : Int)
      · rw [if_pos c5] at H
        have c5b0 := eq_true c5
        have c5b1 : decide ((ji3) ≤ (l0.length : Int)) = true := decide_eq_true c5
        clear c5
        replace H := Option.bind_eq_some_iff.mp H
        obtain ⟨t145, A60, H⟩ := H
        replace H : ((bytes_Equal.f t145 (l0.drop ((ji3) : Int).toNat)).bind fun t149 => (if t149 = true then ((bytes_Clone.f (l0.take ((ji3) : Int).toNat)).bind fun t151 => (some (t151, 0))) else (some (([] : List Int), 13)))) = some (r1, r2) := H
        have A6 := Aside0.mk A60
        clear A60
        have c7b0 := eq_true (of_decide_eq_true (by first | (with_reducible assumption) | assumption) : 0 ≤ (ji3))
        have c8b0 := eq_true (of_decide_eq_true (by first | (with_reducible assumption) | assumption) : (ji3) ≤ (l0.length : Int))
        replace H := Option.bind_eq_some_iff.mp H
        obtain ⟨t149, A90, H⟩ := H
        replace H : (if t149 = true then ((bytes_Clone.f (l0.take ((ji3) : Int).toNat)).bind fun t151 => (some (t151, 0))) else (some (([] : List Int), 13))) = some (r1, r2) := H
        have A9 := Aside0.mk A90
        clear A90
        by_cases c10 : t149 = true
        · subst c10
          have H1 : ((bytes_Clone.f (l0.take ((ji3) : Int).toNat)).bind fun t151 => (some (t151, 0))) = some (r1, r2) := by rw [if_pos rfl] at H; exact H
          clear H
          have H := H1
          clear H1
          have c11b0 := eq_true (of_decide_eq_true (by first | (with_reducible assumption) | assumption) : 0 ≤ (ji3))
          have c12b0 := eq_true (of_decide_eq_true (by first | (with_reducible assumption) | assumption) : (ji3) ≤ (l0.length : Int))
          replace H := Option.bind_eq_some_iff.mp H
          obtain ⟨t151, A130, H⟩ := H
          replace H : (some (t151, 0)) = some (r1, r2) := H
          have A13 := Aside0.mk A130
          clear A130
          simp only [Option.some.injEq, Prod.mk.injEq] at H
          obtain ⟨rfl, rfl⟩ := H
          go_enter Tryz.func131, Tryz.ntmps131
          try go_wp2
          have n0_ := Aside0.mk (below_drew1 HB.out)
          clear HB
          have HB := n0_
          clear n0_
          obtain ⟨i015, hi015, _, hsz15, _⟩ := info_parts info5
          obtain ⟨hcut15, hA15, hC15⟩ := print_take_of (P := Tryz.prog) (Value.int .u8) 0 22 5 .i64 Tryz.underlying22 hi015 hsz15 A0 c0 l0 (ji3) (of_decide_eq_true (by first | (with_reducible assumption) | assumption)) (of_decide_eq_true (by first | (with_reducible assumption) | assumption)) HC0.out
          have HR144 := Aside0.mk (Kd.C_of_reads (h1 := fun _ => rfl) (hA15 _ (Kd.reads_of_C HR0.out)))
          have HC144 := Aside0.mk hC15
          clear hA15 hC15 hi015 hsz15
          obtain ⟨i016, hi016, _, hsz16, _⟩ := info_parts info5
          obtain ⟨A16, hcut16, hA16, hC16⟩ := print_drop_of (P := Tryz.prog) (Value.int .u8) 0 22 5 .i64 Tryz.underlying22 hi016 hsz16 A0 c0 l0 (ji3) (of_decide_eq_true (by first | (with_reducible assumption) | assumption)) (of_decide_eq_true (by first | (with_reducible assumption) | assumption)) HC0.out
          have HR148 := Aside0.mk (Kd.C_of_reads (h1 := fun _ => rfl) (hA16 _ (Kd.reads_of_C HR0.out)))
          have HC148 := Aside0.mk hC16
          clear hA16 hC16 hi016 hsz16
          refine start_ (n := 9) (S := fun w' => True) (ds := []) #[false, false, false, false, false, false, false, false, false] (by kernel_rfl) rfl rfl trivial (fun hHeld => ?_); refine with_tabW sum_Open.tab4 sum_Open.bits4 (fun HT_ HW_ => ?_)
          generalize w.drew = w14 at HB HR144 HR148 hHeld ⊢
          refine pure_ (i := 0) (N := some 10) (v := ?_) (a' := ?_) #[true, false, false, false, false, false, false, false, false] rfl rfl (any_of HT_.out (by kernel_rfl)) (fun _ _ _ h => h) (Or.inl ⟨by rfl, ?_⟩) ?_ ?_
          rotate_left
          · intro w'
            go_simp
            with_reducible rfl
          rotate_left
          · simp only [Act.put, List.setIfInBounds_toArray, List.set_cons_zero, List.set_cons_succ, i64_w, i32_w]
            rfl
          refine pure_ (i := 1) (N := some 11) (v := ?_) (a' := ?_) #[true, true, false, false, false, false, false, false, false] rfl rfl (any_of HT_.out (by kernel_rfl)) (fun _ _ _ h => h) (Or.inl ⟨by rfl, ?_⟩) ?_ ?_
          rotate_left
          · intro w'
            go_simp
            with_reducible rfl
          rotate_left
          · simp only [Act.put, List.setIfInBounds_toArray, List.set_cons_zero, List.set_cons_succ, i64_w, i32_w]
            rfl
          refine pure_ (i := 2) (N := some 12) (v := ?_) (a' := ?_) #[true, true, true, false, false, false, false, false, false] rfl rfl (any_of HT_.out (by kernel_rfl)) (fun _ _ _ h => h) (Or.inl ⟨by rfl, ?_⟩) ?_ ?_
          rotate_left
          · intro w'
            go_simp
            with_reducible rfl
          rotate_left
          · simp only [Act.put, List.setIfInBounds_toArray, List.set_cons_zero, List.set_cons_succ, i64_w, i32_w]
            rfl
          refine pure_ (i := 4) (N := some 14) (v := ?_) (a' := ?_) #[true, true, true, false, true, false, false, false, false] rfl rfl (any_of HT_.out (by kernel_rfl)) (fun _ _ _ h => h) (Or.inl ⟨by rfl, ?_⟩) ?_ ?_
          rotate_left
          · intro w'
            go_simp
            with_reducible rfl
          rotate_left
          · simp only [Act.put, List.setIfInBounds_toArray, List.set_cons_zero, List.set_cons_succ, i64_w, i32_w]
            rfl
          refine pure_ (i := 5) (N := some 15) (v := ?_) (a' := ?_) #[true, true, true, false, true, true, false, false, false] rfl rfl (any_of HT_.out (by kernel_rfl)) (fun _ _ _ h => h) (Or.inl ⟨by rfl, ?_⟩) ?_ ?_
          rotate_left
          · intro w'
            go_simp
            with_reducible rfl
          rotate_left
          · simp only [Act.put, List.setIfInBounds_toArray, List.set_cons_zero, List.set_cons_succ, i64_w, i32_w]
            rfl
          refine pure_ (i := 6) (N := some 16) (v := ?_) (a' := ?_) #[true, true, true, false, true, true, true, false, false] rfl rfl (any_of HT_.out (by kernel_rfl)) (fun _ _ _ h => h) (Or.inl ⟨by rfl, ?_⟩) ?_ ?_
          rotate_left
          · intro w'
            go_simp
            with_reducible rfl
          rotate_left
          · simp only [Act.put, List.setIfInBounds_toArray, List.set_cons_zero, List.set_cons_succ, i64_w, i32_w]
            rfl
          refine one_ (i := 3) (N := some 13) #[true, true, true, true, true, true, true, false, false] rfl rfl (one_of HT_.out (by kernel_rfl)) (by decide) (fun K hK => ?_)
          refine goes_ Tryz.func134 (by kernel_rfl) rfl #[.slice A0 (l0.take ((ji3) : Int).toNat).length c0] (by rfl) rfl rfl (by (try simp only [List.map_toArray, List.map_cons, List.map_nil]); first | done | (rw [show (l0.take ((ji3) : Int).toNat).length = (ji3).toNat from (by rw [List.length_take]; have h_ : ((ji3) : Int) ≤ (l0.length : Int) := of_decide_eq_true (by first | (with_reducible assumption) | assumption); omega)] <;> rfl) | (simp only [hji3]; rfl) | rfl | (simp only [List.length_drop, List.length_take]; rfl)) ?_
          with_reducible refine (sum_tail.calls k (fun k_ => k_ < w.heap.size) _ _ (l0.take ((ji3) : Int).toNat) t145 _ ?side1 A6.out).mono ?_
          (case side1 => exact Kd.V_mk HC144.out (Kd.F_below (Kd.C_F (Kd.heap_int .u8) HR144.out) (by repeat (first | (with_reducible first | exact HB.out | apply below_alloc | apply pw_below_drewN | apply below_drew1) | exact HB.out))))
          rintro e w17 ⟨v146, rfl, ho0, hb⟩
          refine ⟨_, rfl, ?_⟩
          have n0_ := Aside0.mk (Kd.R_lower (Kd.R_mono (ok' := fun k_ => True) ho0 (fun _ hk_ => trivial)) (below_size (by repeat (first | (with_reducible first | exact HB.out | apply below_alloc | apply pw_below_drewN | apply below_drew1) | exact HB.out))))
          have n1_ := Aside0.mk (below_step (by repeat (first | (with_reducible first | exact HB.out | apply below_alloc | apply pw_below_drewN | apply below_drew1) | exact HB.out)) hb)
          clear HB
          have HO147 := n0_
          have HB := n1_
          clear n0_ n1_
          (try clear hb)
          (try clear hb2)
          (try clear hk)
          (try clear hi)
          (try clear ho0)
          obtain ⟨Ao18, co18, eo18⟩ := Kd.R_slice HO147.out
          (first | subst eo18 | (injection eo18 with f1_ f2_ f3_; have f4_ := f1_.symm; have f5_ := f3_.symm; clear f1_ f2_ f3_; subst f4_; subst f5_))
          refine hK.out _ _ trivial (fun hHeld => ?_)
          clear hK K
          refine norm_ (a' := ?_) ?_ ?_
          rotate_left
          · show Act.put _ (some 13) _ = _
            simp only [Act.put, List.setIfInBounds_toArray, List.set_cons_zero, List.set_cons_succ, i64_w, i32_w]
            rfl
          refine one_ (i := 7) (N := some 17) #[true, true, true, true, true, true, true, true, false] rfl rfl (one_of HT_.out (by kernel_rfl)) (by decide) (fun K hK => ?_)
          refine goes_ Tryz.func107 (by kernel_rfl) rfl #[.slice Ao18 t145.length co18, .slice A16 (l0.drop ((ji3) : Int).toNat).length (c0 - (ji3).toNat)] (by rfl) rfl rfl (by (try simp only [List.map_toArray, List.map_cons, List.map_nil]); first | done | (rw [show (l0.drop ((ji3) : Int).toNat).length = (l0.length - (ji3).toNat) from List.length_drop] <;> rfl) | (simp only [hji3]; rfl) | rfl | (simp only [List.length_drop, List.length_take]; rfl)) ?_
          with_reducible refine (bytes_Equal.calls _ _ t145 _ _ (l0.drop ((ji3) : Int).toNat) true _ ?side1 ?side2 ?side3 ?side4 A9.out).mono ?_
          (case side1 => repeat (first | exact (Kd.R_reads' HO147.out).2.2 | (with_reducible refine Kd.C_alloc ?_ _) | (with_reducible refine Kd.C_drewN ?_ _) | (with_reducible refine Kd.C_drew ?_)))
          (case side2 => exact (Kd.R_reads' HO147.out).2.1)
          (case side3 => repeat (first | exact (Kd.C_below HR148.out HB.out) | (with_reducible refine Kd.C_alloc ?_ _) | (with_reducible refine Kd.C_drewN ?_ _) | (with_reducible refine Kd.C_drew ?_)))
          (case side4 => exact HC148.out)
          rintro e w' ⟨rfl, ⟨nd, rfl⟩⟩
          refine ⟨_, rfl, ?_⟩
          refine hK.out _ _ trivial (fun hHeld => ?_)
          clear hK K
          refine norm_ (a' := ?_) ?_ ?_
          rotate_left
          · show Act.put _ (some 17) _ = _
            simp only [Act.put, List.setIfInBounds_toArray, List.set_cons_zero, List.set_cons_succ, i64_w, i32_w]
            rfl
          refine pure_ (i := 8) (N := some 18) (v := ?_) (a' := ?_) #[true, true, true, true, true, true, true, true, true] rfl rfl (any_of HT_.out (by kernel_rfl)) (fun _ _ _ h => h) (Or.inl ⟨by rfl, ?_⟩) ?_ ?_
          rotate_left
          · intro w'
            go_simp
            with_reducible rfl
          rotate_left
          · simp only [Act.put, List.setIfInBounds_toArray, List.set_cons_zero, List.set_cons_succ, i64_w, i32_w]
            rfl
          refine done_ (done_of HT_.out (by kernel_rfl)) ?_
          obtain ⟨i019, hi019, _, hsz19, _⟩ := info_parts info5
          obtain ⟨hcut19, hA19, hC19⟩ := print_take_of (P := Tryz.prog) (Value.int .u8) 0 22 5 .i64 Tryz.underlying22 hi019 hsz19 A0 c0 l0 (ji3) (of_decide_eq_true (by first | (with_reducible assumption) | assumption)) (of_decide_eq_true (by first | (with_reducible assumption) | assumption)) HC0.out
          have HR150 := Aside0.mk (Kd.C_of_reads (h1 := fun _ => rfl) (hA19 _ (Kd.reads_of_C HR0.out)))
          have HC150 := Aside0.mk hC19
          clear hA19 hC19 hi019 hsz19
          try go_wp2_with (first | ((with_reducible refine gate_callee (f := 54) rfl ?_); refine goesL_ (some 22) rfl rfl Tryz.func54 (by kernel_rfl) rfl #[.slice A0 (l0.take ((ji3) : Int).toNat).length c0] rfl (by (try simp only [List.map_toArray, List.map_cons, List.map_nil]); first | done | (rw [show (l0.take ((ji3) : Int).toNat).length = (ji3).toNat from (by rw [List.length_take]; have h_ : ((ji3) : Int) ≤ (l0.length : Int) := of_decide_eq_true (by first | (with_reducible assumption) | assumption); omega)] <;> rfl) | (simp only [hji3]; rfl) | rfl | (simp only [List.length_drop, List.length_take]; rfl)) ?_; (with_reducible refine (bytes_Clone.calls _ _ (l0.take ((ji3) : Int).toNat) t151 _ ?side1 ?side2 A13.out).mono ?_); (case side1 => repeat (first | exact (Kd.C_below HR150.out (by repeat (first | (with_reducible first | exact HB.out | apply below_alloc | apply pw_below_drewN | apply below_drew1) | exact HB.out))) | (with_reducible refine Kd.C_alloc ?_ _) | (with_reducible refine Kd.C_drewN ?_ _) | (with_reducible refine Kd.C_drew ?_))); (case side2 => exact HC150.out); rintro e w20 ⟨v152, rfl, ho0, hb⟩; refine ⟨_, rfl, ?_⟩; have n0_ := Aside0.mk (Kd.R_elder' (by (with_reducible repeat (first | apply Kd.R_alloc | apply Kd.R_drewN | apply Kd.R_drew)); exact HO147.out) (Kd.R_base ho0) hb); have n1_ := Aside0.mk (Kd.R_lower (Kd.R_new' ho0 (Kd.R_lt (by (with_reducible repeat (first | apply Kd.R_alloc | apply Kd.R_drewN | apply Kd.R_drew)); exact HO147.out))) (below_size (by repeat (first | (with_reducible first | exact HB.out | apply below_alloc | apply pw_below_drewN | apply below_drew1) | exact HB.out)))); have n2_ := Aside0.mk (below_step (by repeat (first | (with_reducible first | exact HB.out | apply below_alloc | apply pw_below_drewN | apply below_drew1) | exact HB.out)) hb); clear HO147; clear HB; have HO147 := n0_; have HO153 := n1_; have HB := n2_; clear n0_ n1_ n2_; (try clear hb); (try clear hb2); (try clear hk); (try clear hi); (try clear ho0)))
          go_ret2
          exact ⟨_, by first | rfl | (simp [errW_none, errW_some] <;> rfl) | (simp only [← hji3]; first | rfl | (simp [errW_none, errW_some] <;> rfl)) | (simp [*, errW_none, errW_some] <;> rfl), by (with_reducible repeat (first | apply Kd.R_alloc | apply Kd.R_drewN | apply Kd.R_drew)); exact Kd.R_mono HO153.out (fun _ hk => trivial), by repeat (first | (with_reducible first | exact HB.out | apply below_alloc | apply pw_below_drewN | apply below_drew1) | exact HB.out)⟩
        · replace c10 := Bool.eq_false_iff.mpr c10
          subst c10
          have H1 : (some (([] : List Int), 13)) = some (r1, r2) := by rw [if_neg (show ¬ (false = true) by decide)] at H; exact H
          clear H
          have H := H1
          clear H1
          simp only [Option.some.injEq, Prod.mk.injEq] at H
          obtain ⟨rfl, rfl⟩ := H
          go_enter Tryz.func131, Tryz.ntmps131
          try go_wp2
          have n0_ := Aside0.mk (below_drew1 HB.out)
          clear HB
          have HB := n0_
          clear n0_
          obtain ⟨i022, hi022, _, hsz22, _⟩ := info_parts info5
          obtain ⟨hcut22, hA22, hC22⟩ := print_take_of (P := Tryz.prog) (Value.int .u8) 0 22 5 .i64 Tryz.underlying22 hi022 hsz22 A0 c0 l0 (ji3) (of_decide_eq_true (by first | (with_reducible assumption) | assumption)) (of_decide_eq_true (by first | (with_reducible assumption) | assumption)) HC0.out
          have HR144 := Aside0.mk (Kd.C_of_reads (h1 := fun _ => rfl) (hA22 _ (Kd.reads_of_C HR0.out)))
          have HC144 := Aside0.mk hC22
          clear hA22 hC22 hi022 hsz22
          obtain ⟨i023, hi023, _, hsz23, _⟩ := info_parts info5
          obtain ⟨A23, hcut23, hA23, hC23⟩ := print_drop_of (P := Tryz.prog) (Value.int .u8) 0 22 5 .i64 Tryz.underlying22 hi023 hsz23 A0 c0 l0 (ji3) (of_decide_eq_true (by first | (with_reducible assumption) | assumption)) (of_decide_eq_true (by first | (with_reducible assumption) | assumption)) HC0.out
          have HR148 := Aside0.mk (Kd.C_of_reads (h1 := fun _ => rfl) (hA23 _ (Kd.reads_of_C HR0.out)))
          have HC148 := Aside0.mk hC23
          clear hA23 hC23 hi023 hsz23
          refine start_ (n := 9) (S := fun w' => True) (ds := []) #[false, false, false, false, false, false, false, false, false] (by kernel_rfl) rfl rfl trivial (fun hHeld => ?_); refine with_tabW sum_Open.tab4 sum_Open.bits4 (fun HT_ HW_ => ?_)
          generalize w.drew = w21 at HB HR144 HR148 hHeld ⊢
          refine pure_ (i := 0) (N := some 10) (v := ?_) (a' := ?_) #[true, false, false, false, false, false, false, false, false] rfl rfl (any_of HT_.out (by kernel_rfl)) (fun _ _ _ h => h) (Or.inl ⟨by rfl, ?_⟩) ?_ ?_
          rotate_left
          · intro w'
            go_simp
            with_reducible rfl
          rotate_left
          · simp only [Act.put, List.setIfInBounds_toArray, List.set_cons_zero, List.set_cons_succ, i64_w, i32_w]
            rfl
          refine pure_ (i := 1) (N := some 11) (v := ?_) (a' := ?_) #[true, true, false, false, false, false, false, false, false] rfl rfl (any_of HT_.out (by kernel_rfl)) (fun _ _ _ h => h) (Or.inl ⟨by rfl, ?_⟩) ?_ ?_
          rotate_left
          · intro w'
            go_simp
            with_reducible rfl
          rotate_left
          · simp only [Act.put, List.setIfInBounds_toArray, List.set_cons_zero, List.set_cons_succ, i64_w, i32_w]
            rfl
          refine pure_ (i := 2) (N := some 12) (v := ?_) (a' := ?_) #[true, true, true, false, false, false, false, false, false] rfl rfl (any_of HT_.out (by kernel_rfl)) (fun _ _ _ h => h) (Or.inl ⟨by rfl, ?_⟩) ?_ ?_
          rotate_left
          · intro w'
            go_simp
            with_reducible rfl
          rotate_left
          · simp only [Act.put, List.setIfInBounds_toArray, List.set_cons_zero, List.set_cons_succ, i64_w, i32_w]
            rfl
          refine pure_ (i := 4) (N := some 14) (v := ?_) (a' := ?_) #[true, true, true, false, true, false, false, false, false] rfl rfl (any_of HT_.out (by kernel_rfl)) (fun _ _ _ h => h) (Or.inl ⟨by rfl, ?_⟩) ?_ ?_
          rotate_left
          · intro w'
            go_simp
            with_reducible rfl
          rotate_left
          · simp only [Act.put, List.setIfInBounds_toArray, List.set_cons_zero, List.set_cons_succ, i64_w, i32_w]
            rfl
          refine pure_ (i := 5) (N := some 15) (v := ?_) (a' := ?_) #[true, true, true, false, true, true, false, false, false] rfl rfl (any_of HT_.out (by kernel_rfl)) (fun _ _ _ h => h) (Or.inl ⟨by rfl, ?_⟩) ?_ ?_
          rotate_left
          · intro w'
            go_simp
            with_reducible rfl
          rotate_left
          · simp only [Act.put, List.setIfInBounds_toArray, List.set_cons_zero, List.set_cons_succ, i64_w, i32_w]
            rfl
          refine pure_ (i := 6) (N := some 16) (v := ?_) (a' := ?_) #[true, true, true, false, true, true, true, false, false] rfl rfl (any_of HT_.out (by kernel_rfl)) (fun _ _ _ h => h) (Or.inl ⟨by rfl, ?_⟩) ?_ ?_
          rotate_left
          · intro w'
            go_simp
            with_reducible rfl
          rotate_left
          · simp only [Act.put, List.setIfInBounds_toArray, List.set_cons_zero, List.set_cons_succ, i64_w, i32_w]
            rfl
          refine one_ (i := 3) (N := some 13) #[true, true, true, true, true, true, true, false, false] rfl rfl (one_of HT_.out (by kernel_rfl)) (by decide) (fun K hK => ?_)
          refine goes_ Tryz.func134 (by kernel_rfl) rfl #[.slice A0 (l0.take ((ji3) : Int).toNat).length c0] (by rfl) rfl rfl (by (try simp only [List.map_toArray, List.map_cons, List.map_nil]); first | done | (rw [show (l0.take ((ji3) : Int).toNat).length = (ji3).toNat from (by rw [List.length_take]; have h_ : ((ji3) : Int) ≤ (l0.length : Int) := of_decide_eq_true (by first | (with_reducible assumption) | assumption); omega)] <;> rfl) | (simp only [hji3]; rfl) | rfl | (simp only [List.length_drop, List.length_take]; rfl)) ?_
          with_reducible refine (sum_tail.calls k (fun k_ => k_ < w.heap.size) _ _ (l0.take ((ji3) : Int).toNat) t145 _ ?side1 A6.out).mono ?_
          (case side1 => exact Kd.V_mk HC144.out (Kd.F_below (Kd.C_F (Kd.heap_int .u8) HR144.out) (by repeat (first | (with_reducible first | exact HB.out | apply below_alloc | apply pw_below_drewN | apply below_drew1) | exact HB.out))))
          rintro e w24 ⟨v146, rfl, ho0, hb⟩
          refine ⟨_, rfl, ?_⟩
          have n0_ := Aside0.mk (Kd.R_lower (Kd.R_mono (ok' := fun k_ => True) ho0 (fun _ hk_ => trivial)) (below_size (by repeat (first | (with_reducible first | exact HB.out | apply below_alloc | apply pw_below_drewN | apply below_drew1) | exact HB.out))))
          have n1_ := Aside0.mk (below_step (by repeat (first | (with_reducible first | exact HB.out | apply below_alloc | apply pw_below_drewN | apply below_drew1) | exact HB.out)) hb)
          clear HB
          have HO147 := n0_
          have HB := n1_
          clear n0_ n1_
          (try clear hb)
          (try clear hb2)
          (try clear hk)
          (try clear hi)
          (try clear ho0)
          obtain ⟨Ao25, co25, eo25⟩ := Kd.R_slice HO147.out
          (first | subst eo25 | (injection eo25 with f1_ f2_ f3_; have f4_ := f1_.symm; have f5_ := f3_.symm; clear f1_ f2_ f3_; subst f4_; subst f5_))
          refine hK.out _ _ trivial (fun hHeld => ?_)
          clear hK K
          refine norm_ (a' := ?_) ?_ ?_
          rotate_left
          · show Act.put _ (some 13) _ = _
            simp only [Act.put, List.setIfInBounds_toArray, List.set_cons_zero, List.set_cons_succ, i64_w, i32_w]
            rfl
          refine one_ (i := 7) (N := some 17) #[true, true, true, true, true, true, true, true, false] rfl rfl (one_of HT_.out (by kernel_rfl)) (by decide) (fun K hK => ?_)
          refine goes_ Tryz.func107 (by kernel_rfl) rfl #[.slice Ao25 t145.length co25, .slice A23 (l0.drop ((ji3) : Int).toNat).length (c0 - (ji3).toNat)] (by rfl) rfl rfl (by (try simp only [List.map_toArray, List.map_cons, List.map_nil]); first | done | (rw [show (l0.drop ((ji3) : Int).toNat).length = (l0.length - (ji3).toNat) from List.length_drop] <;> rfl) | (simp only [hji3]; rfl) | rfl | (simp only [List.length_drop, List.length_take]; rfl)) ?_
          with_reducible refine (bytes_Equal.calls _ _ t145 _ _ (l0.drop ((ji3) : Int).toNat) false _ ?side1 ?side2 ?side3 ?side4 A9.out).mono ?_
          (case side1 => repeat (first | exact (Kd.R_reads' HO147.out).2.2 | (with_reducible refine Kd.C_alloc ?_ _) | (with_reducible refine Kd.C_drewN ?_ _) | (with_reducible refine Kd.C_drew ?_)))
          (case side2 => exact (Kd.R_reads' HO147.out).2.1)
          (case side3 => repeat (first | exact (Kd.C_below HR148.out HB.out) | (with_reducible refine Kd.C_alloc ?_ _) | (with_reducible refine Kd.C_drewN ?_ _) | (with_reducible refine Kd.C_drew ?_)))
          (case side4 => exact HC148.out)
          rintro e w' ⟨rfl, ⟨nd, rfl⟩⟩
          refine ⟨_, rfl, ?_⟩
          refine hK.out _ _ trivial (fun hHeld => ?_)
          clear hK K
          refine norm_ (a' := ?_) ?_ ?_
          rotate_left
          · show Act.put _ (some 17) _ = _
            simp only [Act.put, List.setIfInBounds_toArray, List.set_cons_zero, List.set_cons_succ, i64_w, i32_w]
            rfl
          refine pure_ (i := 8) (N := some 18) (v := ?_) (a' := ?_) #[true, true, true, true, true, true, true, true, true] rfl rfl (any_of HT_.out (by kernel_rfl)) (fun _ _ _ h => h) (Or.inl ⟨by rfl, ?_⟩) ?_ ?_
          rotate_left
          · intro w'
            go_simp
            with_reducible rfl
          rotate_left
          · simp only [Act.put, List.setIfInBounds_toArray, List.set_cons_zero, List.set_cons_succ, i64_w, i32_w]
            rfl
          refine done_ (done_of HT_.out (by kernel_rfl)) ?_
          try go_wp2
          go_ret2
          exact ⟨_, by first | rfl | (simp [errW_none, errW_some] <;> rfl) | (simp only [← hji3]; first | rfl | (simp [errW_none, errW_some] <;> rfl)) | (simp [*, errW_none, errW_some] <;> rfl), by first | exact Kd.R_nil _ _ _ _ _ | exact Kd.N_nil _ _ _ _ _ | exact Kd.V_nil _ _ _ _ _ | exact Kd.Q_nil _ _ _ _ _ | exact Kd.S_nil _ _ _ _ _, by repeat (first | (with_reducible first | exact HB.out | apply below_alloc | apply pw_below_drewN | apply below_drew1) | exact HB.out)⟩
      · rw [if_neg c5] at H
        exact absurd H (by simp)
    · rw [if_neg c4] at H
      exact absurd H (by simp)
def num_may.f (a0 : Int) : Option (Bool) := if a0 ≥ 1 then (some (decide (a0 ≤ 6))) else (some false)
set_option maxHeartbeats 8000000 in
set_option maxRecDepth 100000 in
theorem num_may.calls (a0 : Int) (r : Bool) (w : World) (h : num_may.f a0 = some r) :
    Calls Tryz.prog 147 #[.int .i64 a0] w fun e w' => e = .returned (.bool r) ∧ Drawn0 w w' := by
  have H : (if a0 ≥ 1 then (some (decide (a0 ≤ 6))) else (some false)) = some r := h
  clear h
  by_cases c2 : a0 ≥ 1
  · rw [if_pos c2] at H
    have c2b0 : decide (1 ≤ a0) = true := decide_eq_true c2
    clear c2
    obtain rfl := Option.some.inj H
    go_enter Tryz.func147, Tryz.ntmps147
    go_wp2
    go_ret
    exact ⟨by first | rfl | (simp; done) | (simp [*]; done), by repeat (first | exact Drawn0.refl _ | apply Drawn0.step)⟩
  · rw [if_neg c2] at H
    have c2b0 : decide (1 ≤ a0) = false := decide_eq_false c2
    clear c2
    obtain rfl := Option.some.inj H
    go_enter Tryz.func147, Tryz.ntmps147
    go_wp2
    go_ret
    exact ⟨by first | rfl | (simp; done) | (simp [*]; done), by repeat (first | exact Drawn0.refl _ | apply Drawn0.step)⟩
def num_Get.l0 : Nat → List Int → Int → Int → Int → Option (Int × Int)
  | 0, _, _, _, _ => none
  | k + 1, x0, x6, x17, x18 => if x18 < x17 then (if 0 ≤ x18 then (if x18 < (x0.length : Int) then (num_Get.l0 k x0 (Go.bits .or .i64 (wrap64 (x6 * 256)) (wrap64 (rd x0 x18))) x17 (wrap64 (x18 + 1))) else (none)) else (none)) else (some (x6, 0))
def num_Get.f (k : Nat) (l0 : List Int) (a1 : Int) : Option (Int × Int) := (num_may.f a1).bind fun t154 => (if t154 = true then (if (l0.length : Int) < a1 then (some (0, 3)) else (num_Get.l0 k l0 0 a1 0)) else (some (0, 2)))
set_option maxHeartbeats 8000000 in
set_option maxRecDepth 100000 in
theorem num_Get.calls (k : Nat) (A0 : Option Addr) (c0 : Nat) (l0 : List Int) (a1 : Int) (r1 : Int) (r2 : Int) (w : World) (hr0 : Kd.C (Kd.int .u8) w A0 l0.length l0) (hc0 : l0.length ≤ c0) (h : num_Get.f k l0 a1 = some (r1, r2)) :
    Calls Tryz.prog 155 #[.slice A0 l0.length c0, .int .i64 a1] w fun e w' => e = .returned (.tuple #[.int .i64 r1, .int .i64 r2]) ∧ Drawn0 w w' := by
  have HR0 := Aside0.mk hr0
  have HC0 := Aside0.mk hc0
  clear hr0 hc0
  have H : ((num_may.f a1).bind fun t154 => (if t154 = true then (if (l0.length : Int) < a1 then (some (0, 3)) else (num_Get.l0 k l0 0 a1 0)) else (some (0, 2)))) = some (r1, r2) := h
  clear h
  replace H := Option.bind_eq_some_iff.mp H
  obtain ⟨t154, A30, H⟩ := H
  replace H : (if t154 = true then (if (l0.length : Int) < a1 then (some (0, 3)) else (num_Get.l0 k l0 0 a1 0)) else (some (0, 2))) = some (r1, r2) := H
  have A3 := Aside0.mk A30
  clear A30
  by_cases c4 : t154 = true
  · subst c4
    have H1 : (if (l0.length : Int) < a1 then (some (0, 3)) else (num_Get.l0 k l0 0 a1 0)) = some (r1, r2) := by rw [if_pos rfl] at H; exact H
    clear H
    have H := H1
    clear H1
    by_cases c5 : (l0.length : Int) < a1
    · rw [if_pos c5] at H
      have c5b0 : decide ((l0.length : Int) < a1) = true := decide_eq_true c5
      clear c5
      simp only [Option.some.injEq, Prod.mk.injEq] at H
      obtain ⟨rfl, rfl⟩ := H
      go_enter Tryz.func155, Tryz.ntmps155
      go_wp2_with (first | ((with_reducible refine gate_callee (f := 147) rfl ?_); refine goesL_ (some 10) rfl rfl Tryz.func147 (by kernel_rfl) rfl #[.int .i64 a1] rfl (by (try simp only [List.map_toArray, List.map_cons, List.map_nil]); first | done | rfl | (simp only [List.length_drop, List.length_take]; rfl)) ?_; (with_reducible refine (num_may.calls a1 true _ A3.out).mono ?_); rintro e w' ⟨rfl, ⟨nd, rfl⟩⟩; refine ⟨_, rfl, ?_⟩))
      go_ret2
      exact ⟨by first | rfl | (simp; done) | (simp [*]; done), by repeat (first | exact Drawn0.refl _ | apply Drawn0.step)⟩
    · rw [if_neg c5] at H
      have c5b0 : decide ((l0.length : Int) < a1) = false := decide_eq_false c5
      clear c5
      have H' := Aside0.mk H
      clear H
      go_enter Tryz.func155, Tryz.ntmps155
      go_wp2_with (first | ((with_reducible refine gate_callee (f := 147) rfl ?_); refine goesL_ (some 10) rfl rfl Tryz.func147 (by kernel_rfl) rfl #[.int .i64 a1] rfl (by (try simp only [List.map_toArray, List.map_cons, List.map_nil]); first | done | rfl | (simp only [List.length_drop, List.length_take]; rfl)) ?_; (with_reducible refine (num_may.calls a1 true _ A3.out).mono ?_); rintro e w' ⟨rfl, ⟨nd, rfl⟩⟩; refine ⟨_, rfl, ?_⟩))
      go_loopg [6, 18] k (fun kq v6 v18 w' => ∃ (x6_1 : Int) (x18_1 : Int), v6 = .int .i64 x6_1 ∧ v18 = .int .i64 x18_1 ∧ Aside0 (num_Get.l0 kq l0 x6_1 a1 x18_1 = some (r1, r2)) ∧ Aside0 (kq ≤ k) ∧ Drawn0 w w')
      case atStart => exact ⟨(0), (0), (by first | rfl | (simp; done) | (simp [*]; done)), (by first | rfl | (simp; done) | (simp [*]; done)), H', ⟨Nat.le_refl _⟩, by repeat (first | exact Drawn0.refl _ | apply Drawn0.step)⟩
      case round =>
        clear H'
        try clear c1
        try clear p2
        try clear c4
        try clear c5
        try clear c5b0
        obtain ⟨x6_1, x18_1, rfl, rfl, HA, HK1, ⟨m1, rfl⟩⟩ := hrel
        cases gk with
        | zero => exact absurd HA.out (by simp [num_Get.l0])
        | succ k1 =>
          have H := HA.out
          clear HA
          simp only [num_Get.l0] at H
          by_cases c6 : x18_1 < a1
          · rw [if_pos c6] at H
            have c6b0 : decide (x18_1 < a1) = true := decide_eq_true c6
            clear c6
            by_cases c7 : 0 ≤ x18_1
            · rw [if_pos c7] at H
              have c7b0 : decide (0 ≤ x18_1) = true := decide_eq_true c7
              clear c7
              by_cases c8 : x18_1 < (l0.length : Int)
              · rw [if_pos c8] at H
                have c8b0 : decide (x18_1 < (l0.length : Int)) = true := decide_eq_true c8
                clear c8
                have H' := Aside0.mk H
                clear H
                have p155 : 0 ≤ (x18_1 : Int) := of_decide_eq_true (by first | (with_reducible assumption) | assumption)
                have q155 : x18_1 < (l0.length : Int) := of_decide_eq_true (by first | (with_reducible assumption) | assumption)
                obtain ⟨ad155, e155, hx155_0⟩ := Kd.at_int HR0.out x18_1 p155 q155
                cases e155
                replace p155 := eq_true p155
                replace q155 := eq_true q155
                go_wp2
                go_roundg k1
                case measure => have := HK1.out; omega
                case rel => exact ⟨(Go.bits .or .i64 (wrap64 (x6_1 * 256)) (wrap64 (rd l0 x18_1))), (wrap64 (x18_1 + 1)), (by first | rfl | (simp; done) | (simp [*]; done)), (by first | rfl | (simp; done) | (simp [*]; done)), H', ⟨by have := HK1.out; omega⟩, by repeat (first | exact Drawn0.refl _ | apply Drawn0.step)⟩
              · rw [if_neg c8] at H
                exact absurd H (by simp)
            · rw [if_neg c7] at H
              exact absurd H (by simp)
          · rw [if_neg c6] at H
            have c6b0 : decide (x18_1 < a1) = false := decide_eq_false c6
            clear c6
            simp only [Option.some.injEq, Prod.mk.injEq] at H
            obtain ⟨rfl, rfl⟩ := H
            go_wp2
            go_ret2
            exact ⟨by first | rfl | (simp; done) | (simp [*]; done), by repeat (first | exact Drawn0.refl _ | apply Drawn0.step)⟩
  · replace c4 := Bool.eq_false_iff.mpr c4
    subst c4
    have H1 : (some (0, 2)) = some (r1, r2) := by rw [if_neg (show ¬ (false = true) by decide)] at H; exact H
    clear H
    have H := H1
    clear H1
    simp only [Option.some.injEq, Prod.mk.injEq] at H
    obtain ⟨rfl, rfl⟩ := H
    go_enter Tryz.func155, Tryz.ntmps155
    go_wp2_with (first | ((with_reducible refine gate_callee (f := 147) rfl ?_); refine goesL_ (some 10) rfl rfl Tryz.func147 (by kernel_rfl) rfl #[.int .i64 a1] rfl (by (try simp only [List.map_toArray, List.map_cons, List.map_nil]); first | done | rfl | (simp only [List.length_drop, List.length_take]; rfl)) ?_; (with_reducible refine (num_may.calls a1 false _ A3.out).mono ?_); rintro e w' ⟨rfl, ⟨nd, rfl⟩⟩; refine ⟨_, rfl, ?_⟩))
    go_ret2
    exact ⟨by first | rfl | (simp; done) | (simp [*]; done), by repeat (first | exact Drawn0.refl _ | apply Drawn0.step)⟩
end Go.Proofs.YtplkndmkchpcdaaGreat.PShadowPlays
end
section
namespace Go.Proofs.YtplkndmkchpcdaaGreat.PShadowPlays
open Go.RowKit YtplkndmkchpcdaaGreatW.PrintWords YtplkndmkchpcdaaGreatW.PrintLast YtplkndmkchpcdaaGreatW.PrintMore
attribute [local go_sem] max2_int min2_int max_two min_two max_three min_three max_four min_four
def page_Unwords.l0 : Nat → List Int → List Int → Int → Option (List Int × Int)
  | 0, _, _, _ => none
  | k + 1, x0, x4, x5 => if x5 < (x0.length : Int) then (if 0 ≤ x5 then (if 0 ≤ (wrap64 (x5 + 1)) then (if (wrap64 (x5 + 1)) < (x0.length : Int) then (if x4.length < 17592186044416 then (page_Unwords.l0 k x0 (x4 ++ [Go.bits .or .i64 (wrap64 ((wrap64 (rd x0 x5)) * 256)) (wrap64 (rd x0 (wrap64 (x5 + 1))))]) (wrap64 (x5 + 2))) else (none)) else (none)) else (none)) else (none)) else (some (x4, 0))
def page_Unwords.f (k : Nat) (l0 : List Int) : Option (List Int × Int) := if ((l0.length : Int) % 2) = 0 then (page_Unwords.l0 k l0 ([] : List Int) 0) else (some (([] : List Int), 4))
def page_Unwords.T7 : Bool × List (List Nat × List Nat) := (true, [([], []), ([], []), ([], []), ([1, 2], [1, 2]), ([3], [3]), ([4], [4]), ([5], [5]), ([], []), ([], []), ([8], [8]), ([7, 9], [7, 9]), ([10], [10]), ([11], [11]), ([6, 12], [6, 12]), ([13], [13]), ([0, 14], [0, 14]), ([15, 15, 0, 1, 2, 3, 4, 5, 6, 7, 8, 9, 10, 11, 12, 13, 14, 15], [0, 15])])
def page_Unwords.B7 : List Nat := [0, 0, 0, 6, 14, 30, 62, 0, 0, 256, 896, 1920, 3968, 8190, 16382, 32767, 65535]
end Go.Proofs.YtplkndmkchpcdaaGreat.PShadowPlays
end
section
namespace Go.Proofs.YtplkndmkchpcdaaGreat.Page
open Go.RowKit Go.Maps MapFn Disk YtplkndmkchpcdaaGreatW.PrintWords PShadowPlays
set_option maxHeartbeats 4000000
set_option maxRecDepth 100000
def z252 : List Int := List.replicate 252 0
theorem info5 : (Tryz.prog.info? 5).map (fun i => (i.zero, i.size, i.bytes)) = some (some (.int .u8 0), 1, 1) := by kernel_rfl
theorem make252 (W : World) : (Instr.makeSlice 22 (.int .i64 252) (.int .i64 252)).run Tryz.prog W = .ok (.slice (some ⟨W.heap.size, 0, none⟩) 252 252) (W.alloc (.cells (encB z252) 5)) := by
  obtain ⟨i0, hi, hzz⟩ := Option.map_eq_some_iff.1 info5
  simp only [Prod.mk.injEq] at hzz
  obtain ⟨h1, h2, h3⟩ := hzz
  have := run_make (P := Tryz.prog) (w := W) 22 5 i0 (.int .u8 0) Tryz.underlying22 hi h1 .i64 .i64 252 252 (by omega) (by omega) (by rw [h3]; decide) (by decide)
  rw [h2, show Int.toNat 252 = 252 from rfl, show madeCells (Value.int IntKind.u8 0).cells (252 * 1) = encB z252 by kernel_rfl] at this
  exact this
theorem z252_at (i : Nat) (hi : i < 252) : z252[i]? = some 0 := by
  unfold z252
  rw [List.getElem?_replicate, if_pos hi]
theorem zero_cell {w : World} {g : Nat} (h : w.heap[g]? = some (.cells (encB z252) 5 (0, 0))) (i : Nat) (hi : i < 252) : w.cell? ⟨g, i, none⟩ = some (.int .u8 0) := by
  rw [cell_of h]
  show (z252.map (Value.int .u8)).toArray[i]? = _
  rw [List.getElem?_toArray, List.getElem?_map, z252_at i hi]
  rfl
def headL (kind id : Int) (n : Nat) : List Int := [kind, id / 65536, id / 256, id % 256, (n : Int) / 256, (n : Int)]
def bodyL (kind id : Int) (l : List Int) : List Int := [kind, id / 65536, id / 256, id % 256, (l.length : Int) / 256, (l.length : Int)] ++ l ++ List.replicate (246 - l.length) 0
noncomputable def chain (kind id : Int) (n : Nat) : Array Value := ((((((encB z252).setIfInBounds 0 (.int .u8 kind)).setIfInBounds 1 (.int .u8 (id / 65536))).setIfInBounds 2 (.int .u8 (id / 256))).setIfInBounds 3 (.int .u8 (id % 256))).setIfInBounds 4 (.int .u8 ((n : Int) / 256))).setIfInBounds 5 (.int .u8 (n : Int))
theorem chain_eq (kind id : Int) (n : Nat) : (chain kind id n).toList = (headL kind id n ++ List.replicate 246 0).map (Value.int .u8) := by
  have e : z252 = 0 :: 0 :: 0 :: 0 :: 0 :: 0 :: List.replicate 246 0 := rfl
  unfold chain encB
  rw [e]
  generalize List.replicate 246 (0 : Int) = R
  simp [headL]
theorem C_of_row {w : World} {g : Nat} {l : List Int} {t : TypeId} (h : w.heap[g]? = some (.cells (encB l) t (0, 0))) (hl : l.length ≤ 9223372036854775807) : Kd.C (Kd.int .u8) w (some ⟨g, 0, none⟩) l.length l := by
  refine Kd.C_of_reads (enc := Value.int .u8) (d := (0 : Int)) (h1 := fun _ => rfl) ⟨rfl, hl, fun _ => ⟨_, rfl, fun j hj => ?_⟩⟩
  rw [Go.WideShapes.add_plain, Nat.zero_add, cell_of h]
  show (l.map (Value.int .u8)).toArray[j]? = _
  rw [List.getElem?_toArray, List.getElem?_map]
  simp [List.getD_eq_getElem?_getD, hj]
theorem copy_body {w W : World} {g : Nat} (kind id : Int) (A : Option Addr) (c : Nat) (l : List Int) (hr : Kd.C (Kd.int .u8) W A l.length l) (h5 : l.length ≤ 246) (hW : W = w.alloc (.cells (chain kind id l.length) 5)) (hg : g = w.heap.size) :
    (Builtin.copy_ #[22, 22] 3 #[.slice (some ⟨g, 6, none⟩) 246 246, .slice A l.length c]).run Tryz.prog W = .ok (goInt l.length) (w.alloc (.cells (encB (bodyL kind id l)) 5)) := by
  subst hW hg
  have hcl := chain_eq kind id l.length
  have hml : (l.map (Value.int .u8)).length = l.length := by simp
  have hsz : (chain kind id l.length).size = 252 := by
    rw [← Array.length_toList, hcl]
    simp [headL]
  by_cases h0 : l.length = 0
  · have hl : l = [] := List.length_eq_zero_iff.1 h0
    subst hl
    have := run_copy_none (P := Tryz.prog) (w.alloc (.cells (chain kind id 0) 5)) 22 22 3 5 (some ⟨w.heap.size, 6, none⟩) A 246 246 0 c Tryz.underlying22 (by kernel_rfl) rfl
    have e : chain kind id 0 = encB (bodyL kind id []) := by
      apply Array.ext'
      exact (show (chain kind id 0).toList = _ from hcl).trans rfl
    rw [show ([] : List Int).length = 0 from rfl] at *
    rw [this, e]
    rfl
  · obtain ⟨ad, rfl, _⟩ := Kd.at_int hr 0 (by omega) (by omega)
    have hsrc : ∀ j v, (l.map (Value.int .u8))[j]? = some v → (w.alloc (.cells (chain kind id l.length) 5)).cell? (ad.add j) = some v := by
      intro j v hv
      rw [List.getElem?_map] at hv
      obtain ⟨y, hy, rfl⟩ := Option.map_eq_some_iff.1 hv
      have hj := (List.getElem?_eq_some_iff.1 hy).1
      obtain ⟨ad', e, hc⟩ := Kd.at_int hr (j : Int) (by omega) (by omega)
      cases e
      rw [Int.toNat_natCast] at hc
      rw [hc]
      simp [rd, List.getD_eq_getElem?_getD, hy]
    have := run_copy_row Tryz.prog (w.alloc (.cells (chain kind id l.length) 5)) 22 22 3 5 w.heap.size 6 246 246 ad l.length c (chain kind id l.length) 5 (l.map (Value.int .u8)) Tryz.underlying22 (by kernel_rfl) (heap_last _ _) (by rw [hml]; exact (Nat.min_eq_left h5).symm) hsrc (by rw [hml, hsz]; omega) (by
      intro v hv
      obtain ⟨x, _, rfl⟩ := List.mem_map.1 hv
      rfl)
    rw [this, hml, World.setRow_alloc_new, hcl]
    congr 2
    congr 1
    unfold bodyL encB
    rw [← List.map_take, ← List.map_drop, ← List.map_append, ← List.map_append]
    congr 2
    rw [List.take_left' (by rfl)]
    have : (headL kind id l.length ++ List.replicate 246 0).drop (6 + l.length) = List.replicate (246 - l.length) 0 := by
      rw [List.drop_append, List.drop_eq_nil_of_le (by simp [headL]), List.nil_append, show (headL kind id l.length).length = 6 from rfl, show 6 + l.length - 6 = l.length by omega, List.drop_replicate]
    rw [this]
    rfl
def tailL (l : List Int) : List Int := [((Sum.moreN 0 l : Nat) : Int) / 16777216 % 256, ((Sum.moreN 0 l : Nat) : Int) / 65536 % 256, ((Sum.moreN 0 l : Nat) : Int) / 256 % 256, ((Sum.moreN 0 l : Nat) : Int) % 256]
theorem more_eq {l : List Int} (hb : Sum.Bytes l) : sum_More.f 0 l = some ((Sum.moreN 0 l : Nat) : Int) := by
  unfold sum_More.f
  rw [if_pos (by omega), if_pos (by omega), if_pos (List.all_eq_true.2 fun x hx => by have := hb x hx; simp; omega)]
  rfl
theorem tail_eq {l : List Int} (hb : Sum.Bytes l) : sum_tail.f 2 l = some (tailL l) := by
  unfold sum_tail.f sum_Of.f
  rw [sum_Of.l0, if_pos (by simp), if_pos (by omega), if_pos (by simp)]
  rw [show rd_L1 [l] 0 = l from rfl, more_eq hb]
  simp only [Option.bind_some]
  rw [show wrap64 (0 + 1) = 1 by unfold wrap64; omega, sum_Of.l0, if_neg (by simp)]
  rfl
theorem sumseal_eq {l : List Int} (hb : Sum.Bytes l) (hl : l.length ≤ 1000000) : sum_Seal.f 2 l = some (l ++ tailL l) := by
  unfold sum_Seal.f bytes_Clone.f
  rw [if_pos (by omega)]
  simp only [Option.bind_some]
  rw [tail_eq hb]
  simp only [Option.bind_some]
  rw [if_pos (by simp [tailL]; omega)]
def sealL (kind id : Int) (l : List Int) : List Int := bodyL kind id l ++ tailL (bodyL kind id l)
def sealE (kind id : Int) (n : Nat) : Int := if kind < 1 ∨ 5 < kind then 9 else if id < 0 ∨ 3000 < id then 12 else if 246 < n then 5 else 0
theorem bodyL_length (kind id : Int) (l : List Int) (h : l.length ≤ 246) : (bodyL kind id l).length = 252 := by
  simp [bodyL]
  omega
theorem bodyL_bytes {kind id : Int} {l : List Int} (hb : Sum.Bytes l) (h1 : 1 ≤ kind) (h2 : kind ≤ 5) (h3 : 0 ≤ id) (h4 : id ≤ 3000) (h5 : l.length ≤ 246) : Sum.Bytes (bodyL kind id l) := by
  intro x hx
  simp only [bodyL, List.mem_append, List.mem_cons, List.not_mem_nil, or_false, List.mem_replicate] at hx
  rcases hx with ((rfl | rfl | rfl | rfl | rfl | rfl) | hx) | ⟨_, rfl⟩
  · omega
  · omega
  · omega
  · omega
  · omega
  · omega
  · exact hb x hx
  · omega
theorem seal_ok (kind id : Int) (A : Option Addr) (c : Nat) (l : List Int) (w : World) (hr : Kd.C (Kd.int .u8) w A l.length l) (hbl : Sum.Bytes l) (he : sealE kind id l.length = 0) :
    Calls Tryz.prog 64 #[.int .i64 kind, .int .i64 id, .slice A l.length c] w fun e w' => ∃ v, e = .returned (.tuple #[v, .int .i64 0]) ∧ Kd.R (Kd.int .u8) 5 w' w.heap.size (fun _ => True) v (sealL kind id l) ∧ Below w.heap.size w w' := by
  have hh : 1 ≤ kind ∧ kind ≤ 5 ∧ 0 ≤ id ∧ id ≤ 3000 ∧ l.length ≤ 246 := by
    unfold sealE at he
    split at he
    · cases he
    · split at he
      · cases he
      · split at he
        · cases he
        · omega
  obtain ⟨h1, h2, h3, h4, h5⟩ := hh
  have hmk := make252
  have L1 := heap_last w (.cells (encB z252) 5)
  have f0 := free_of (i := 0) L1
  have f1 := free_of (i := 1) L1
  have f2 := free_of (i := 2) L1
  have f3 := free_of (i := 3) L1
  have f4 := free_of (i := 4) L1
  have f5 := free_of (i := 5) L1
  have c0 := zero_cell L1 0 (by omega)
  have c1 := zero_cell L1 1 (by omega)
  have c2 := zero_cell L1 2 (by omega)
  have c3 := zero_cell L1 3 (by omega)
  have c4 := zero_cell L1 4 (by omega)
  have c5 := zero_cell L1 5 (by omega)
  have hcp := copy_body (w := w) kind id A c l (Kd.C_below hr ((Below.refl w.heap.size w).alloc (Nat.le_refl _) (.cells (chain kind id l.length) 5))) h5 rfl rfl
  unfold chain at hcp
  have hrow := heap_last w (.cells (encB (bodyL kind id l)) 5)
  have hlen := bodyL_length kind id l h5
  have hC := C_of_row hrow (by rw [hlen]; omega)
  have hS := sum_Seal.calls 2 (some ⟨w.heap.size, 0, none⟩) 252 (bodyL kind id l) _ _ hC (by rw [hlen]; omega) (sumseal_eq (bodyL_bytes hbl h1 h2 h3 h4 h5) (by rw [hlen]; omega))
  rw [hlen] at hS
  have HS := Hide.mk hS
  clear L1 hr hrow hC hS hlen hbl he
  go_enter Tryz.func64, Tryz.ntmps64
  go_wp2_with (go_at_call 100; refine HS.out.mono ?_; rintro e w2 ⟨v2, rfl, ho, hb⟩; have O2 := Hide.mk ho; have B2 := Hide.mk hb; clear ho hb)
  go_ret2
  exact ⟨v2, rfl, Kd.R_lower O2.out (by simp), ((Below.refl w.heap.size w).alloc (Nat.le_refl _) _).trans (B2.out.mono (by simp))⟩
theorem seal_bad (kind id : Int) (A : Option Addr) (c : Nat) (n : Nat) (w : World) (he : sealE kind id n ≠ 0) :
    Calls Tryz.prog 64 #[.int .i64 kind, .int .i64 id, .slice A n c] w fun e w' => e = .returned (.tuple #[.slice none 0 0, .int .i64 (sealE kind id n)]) ∧ Below w.heap.size w w' := by
  unfold sealE at he ⊢
  by_cases q1 : kind < 1 ∨ 5 < kind
  · rw [if_pos q1]
    clear he
    rcases q1 with q1 | q1
    · go_enter Tryz.func64, Tryz.ntmps64
      go_wp2
      go_ret2
      exact ⟨rfl, Below.refl _ _⟩
    · go_enter Tryz.func64, Tryz.ntmps64
      go_wp2
      go_ret2
      exact ⟨rfl, Below.refl _ _⟩
  · rw [if_neg q1] at he ⊢
    have a1 : ¬ kind < 1 := fun h => q1 (.inl h)
    have a2 : ¬ 5 < kind := fun h => q1 (.inr h)
    clear q1
    by_cases q2 : id < 0 ∨ 3000 < id
    · rw [if_pos q2]
      clear he
      rcases q2 with q2 | q2
      · go_enter Tryz.func64, Tryz.ntmps64
        go_wp2
        go_ret2
        exact ⟨rfl, Below.refl _ _⟩
      · go_enter Tryz.func64, Tryz.ntmps64
        go_wp2
        go_ret2
        exact ⟨rfl, Below.refl _ _⟩
    · rw [if_neg q2] at he ⊢
      have b1 : ¬ id < 0 := fun h => q2 (.inl h)
      have b2 : ¬ 3000 < id := fun h => q2 (.inr h)
      clear q2
      by_cases q3 : 246 < n
      · rw [if_pos q3]
        have q4 : (246 : Int) < (n : Int) := by omega
        clear he q3
        go_enter Tryz.func64, Tryz.ntmps64
        go_wp2
        go_ret2
        exact ⟨rfl, Below.refl _ _⟩
      · rw [if_neg q3] at he
        exact absurd rfl he
end Go.Proofs.YtplkndmkchpcdaaGreat.Page
end
section
namespace Go.Proofs.YtplkndmkchpcdaaGreat.Num
open Go.RowKit YtplkndmkchpcdaaGreatW.PrintWords PShadowPlays YtplkndmkchpcdaaGreat.Sum
def beN (c : Int) (l : List Int) : Int := l.foldl (fun n b => n * 256 + b) c
theorem wrap_ok {n : Int} (h0 : -9223372036854775808 ≤ n) (h1 : n < 9223372036854775808) : wrap64 n = n := by unfold wrap64; omega
theorem or_add (n b : Int) (hn : 0 ≤ n) (hn1 : n < 2 ^ 48) (hb : 0 ≤ b ∧ b < 256) : Go.bits .or .i64 (n * 256) b = n * 256 + b := by
  have := bits_join .i64 62 (by decide) (fun m h0 h1 => by rw [IntKind.wrap_i64]; omega) 8
  exact this (n * 256) b (by omega) (by omega) (by omega) hb.1 (by omega) (by omega)
theorem get_run (l : List Int) (hb : Bytes l) (width : Nat) (hw : width ≤ l.length) (h6 : width ≤ 6) : ∀ (d i : Nat) (n : Int), i + d = width → 0 ≤ n → n < 256 ^ i → num_Get.l0 (d + 1) l n (width : Int) (i : Int) = some (beN n ((l.take width).drop i), 0)
  | 0, i, n, hi, h0, h1 => by
    rw [num_Get.l0, if_neg (by omega), List.drop_eq_nil_of_le (by simp; omega)]
    rfl
  | d + 1, i, n, hi, h0, h1 => by
    have hil : i < l.length := by omega
    have hx := hb l[i] (List.getElem_mem hil)
    have e1 : rd l (i : Int) = l[i] := by simp [rd, List.getD_eq_getElem?_getD, hil]
    have hn : n < 2 ^ 40 := by
      have : (256 : Int) ^ i ≤ 256 ^ 5 := by
        have : i = 0 ∨ i = 1 ∨ i = 2 ∨ i = 3 ∨ i = 4 ∨ i = 5 := by omega
        rcases this with rfl | rfl | rfl | rfl | rfl | rfl <;> decide
      omega
    rw [num_Get.l0, if_pos (by omega), if_pos (by omega), if_pos (by omega), e1, wrap_ok (n := n * 256) (by omega) (by omega), wrap_ok (n := l[i]) (by omega) (by omega), or_add n l[i] h0 (by omega) hx, wrap_ok (n := (i : Int) + 1) (by omega) (by omega)]
    rw [show ((i : Int) + 1) = ((i + 1 : Nat) : Int) by omega, get_run l hb width hw h6 d (i + 1) (n * 256 + l[i]) (by omega) (by omega) (by rw [Int.pow_succ]; omega)]
    have e2 : (l.take width).drop i = l[i] :: (l.take width).drop (i + 1) := by
      rw [List.drop_eq_getElem_cons (by simp; omega)]
      simp
    rw [e2]
    rfl
theorem get_eq (l : List Int) (hb : Bytes l) (width : Nat) (hw : width ≤ l.length) (h1 : 1 ≤ width) (h6 : width ≤ 6) : num_Get.f (width + 1) l (width : Int) = some (beN 0 (l.take width), 0) := by
  unfold num_Get.f num_may.f
  rw [if_pos (by omega)]
  simp only [Option.bind_some]
  rw [if_pos (by simp; omega), if_neg (by omega)]
  have := get_run l hb width hw h6 width 0 0 (by omega) (by omega) (by decide)
  simpa using this
end Go.Proofs.YtplkndmkchpcdaaGreat.Num
end
section
namespace Go.Proofs.YtplkndmkchpcdaaGreat.Num
open Go.RowKit YtplkndmkchpcdaaGreatW.PrintWords PShadowPlays YtplkndmkchpcdaaGreat.Sum Disk MapFn
set_option maxHeartbeats 4000000
set_option maxRecDepth 100000
structure ReaderAt (w : World) (p g off c : Nat) (l : List Int) : Prop where
  row : w.heap[p]? = some (.cells #[.slice (some ⟨g, off, none⟩) l.length c, .int .i64 0] 179 (0, 0))
  reads : Kd.C (Kd.int .u8) w (some ⟨g, off, none⟩) l.length l
  room : l.length ≤ c
  ne : g ≠ p
  bytes : Bytes l
theorem C_drop {w : World} {g off k : Nat} {l : List Int} (h : Kd.C (Kd.int .u8) w (some ⟨g, off, none⟩) l.length l) (hk : k ≤ l.length) : Kd.C (Kd.int .u8) w (some ⟨g, off + k, none⟩) (l.drop k).length (l.drop k) := by
  refine Kd.C_of_reads (enc := Value.int .u8) (d := (0 : Int)) (h1 := fun _ => rfl) ⟨rfl, by have := h.2.1; simp; omega, fun _ => ⟨_, rfl, fun j hj => ?_⟩⟩
  have hj' : j < l.length - k := by simpa using hj
  obtain ⟨ad, e, hc⟩ := Kd.at_int h ((k + j : Nat) : Int) (by omega) (by omega)
  cases e
  rw [Int.toNat_natCast, Go.WideShapes.add_plain] at hc
  rw [Go.WideShapes.add_plain, Nat.add_assoc, hc]
  have e2 : ((k : Int) + (j : Int)).toNat = k + j := by omega
  simp [rd, List.getD_eq_getElem?_getD, e2]
theorem C_moves {w w' : World} {g off n : Nat} {l : List Int} {s : List Nat} (h : Kd.C (Kd.int .u8) w (some ⟨g, off, none⟩) n l) (hm : Moves s w w') (hg : ¬ g ∈ s) : Kd.C (Kd.int .u8) w' (some ⟨g, off, none⟩) n l := by
  have hl := h.1
  subst hl
  refine Kd.C_of_reads (enc := Value.int .u8) (d := (0 : Int)) (h1 := fun _ => rfl) ⟨rfl, h.2.1, fun _ => ⟨_, rfl, fun j hj => ?_⟩⟩
  obtain ⟨ad, e, hc⟩ := Kd.at_int h (j : Int) (by omega) (by omega)
  cases e
  rw [Int.toNat_natCast] at hc
  have hb := block_lt_of_cell hc
  have e0 : ((⟨g, off, none⟩ : Addr).add j).block = g := by unfold Addr.add; split <;> rfl
  rw [World.cell?_of_block (hm.block _ hb (by rw [e0]; exact hg)), hc]
  simp [rd, List.getD_eq_getElem?_getD]
section
variable {w : World} {p g off c : Nat} {l : List Int}
theorem ReaderAt.below {w' : World} (h : ReaderAt w p g off c l) (hb : Below w.heap.size w w') : ReaderAt w' p g off c l :=
  ⟨(hb.block p (lt_of_row h.row)).trans h.row, Kd.C_below h.reads hb, h.room, h.ne, h.bytes⟩
theorem err_any (h : ReaderAt w p g off c l) : Calls Tryz.prog 154 #[.pointer (some ⟨p, 0, none⟩)] w fun e w' => e = .returned (.int .i64 0) ∧ w' = w := by
  have c1 : w.cell? ⟨p, 1, none⟩ = some (.int .i64 0) := cell_of h.row
  clear h
  go_enter Tryz.func154, Tryz.ntmps154
  go_wp2
  go_ret
  exact ⟨rfl, rfl⟩
theorem took_any (n : Int) (k : Nat) (h : ReaderAt w p g off c l) (hk : k < l.length) : Calls Tryz.prog 156 #[.pointer (some ⟨p, 0, none⟩), .int .i64 n, .int .i64 (k : Int), .int .i64 0] w fun e w' => e = .returned (.int .i64 n) ∧ ReaderAt w' p g (off + k) (c - k) (l.drop k) ∧ Moves [p] w w' := by
  have c0 : w.cell? ⟨p, 0, none⟩ = some (.slice (some ⟨g, off, none⟩) l.length c) := cell_of h.row
  have f0 := free_of (i := 0) h.row
  have H := Hide.mk h
  have hroom := h.room
  have hmax := h.reads.2.1
  clear h
  go_enter Tryz.func156, Tryz.ntmps156
  go_wp2
  go_ret
  have hm := set_moves (w := w) (p := p) (i := 0) (.slice (some ⟨g, off + k, none⟩) (l.length - k) (c - k))
  have hr := set_row (i := 0) H.out.row (.slice (some ⟨g, off + k, none⟩) (l.length - k) (c - k))
  have hg : g < w.heap.size := by
    obtain ⟨ad, e, hc⟩ := Kd.at_int H.out.reads 0 (by omega) (by omega)
    cases e
    have := block_lt_of_cell hc
    have e0 : ((⟨g, off, none⟩ : Addr).add (Int.toNat 0)).block = g := by unfold Addr.add; split <;> rfl
    rwa [e0] at this
  refine ⟨rfl, ⟨?_, ?_, by simp; omega, H.out.ne, fun x hx => H.out.bytes x (List.mem_of_mem_drop hx)⟩, hm⟩
  · rw [List.length_drop]
    simp at hr
    exact hr
  · have h1 := C_drop H.out.reads (Nat.le_of_lt hk)
    exact C_moves h1 hm (by simpa using H.out.ne)
theorem num_any (k : Nat) (h : ReaderAt w p g off c l) (h1 : 1 ≤ k) (h6 : k ≤ 6) (hk : k < l.length) : Calls Tryz.prog 133 #[.pointer (some ⟨p, 0, none⟩), .int .i64 (k : Int)] w fun e w' => e = .returned (.int .i64 (beN 0 (l.take k))) ∧ ReaderAt w' p g (off + k) (c - k) (l.drop k) ∧ Moves [p] w w' := by
  have c0 : w.cell? ⟨p, 0, none⟩ = some (.slice (some ⟨g, off, none⟩) l.length c) := cell_of h.row
  have HE := Hide.mk (err_any h)
  have HG := Hide.mk (num_Get.calls (k + 1) (some ⟨g, off, none⟩) c l (k : Int) _ _ w h.reads h.room (get_eq l h.bytes k (Nat.le_of_lt hk) h1 h6))
  have H := Hide.mk h
  have HK := Hide.mk hk
  clear h h1 h6 hk
  go_enter Tryz.func133, Tryz.ntmps133
  go_wp2_with (first
    | (go_at_call 154; refine HE.out.mono ?_; rintro e w1 ⟨rfl, rfl⟩)
    | (go_at_call 155; refine HG.out.mono ?_; rintro e w2 ⟨rfl, ⟨nd, rfl⟩⟩
       have HT := Hide.mk (took_any (beN 0 (l.take k)) k (H.out.below (pw_below_drewN (Below.refl _ _) nd)) HK.out))
    | (go_at_call 156; refine HT.out.mono ?_; rintro e w3 ⟨rfl, hr3, hm3⟩; have R3 := Hide.mk hr3; have M3 := Hide.mk hm3; clear hr3 hm3))
  go_ret
  exact ⟨rfl, R3.out, (Moves.of_below (pw_below_drewN (Below.refl _ _) _) _).trans M3.out⟩
end
end Go.Proofs.YtplkndmkchpcdaaGreat.Num
end
section
namespace Go.Proofs.YtplkndmkchpcdaaGreat.Num
open Go.RowKit YtplkndmkchpcdaaGreatW.PrintWords PShadowPlays YtplkndmkchpcdaaGreat.Sum Disk MapFn
set_option maxHeartbeats 4000000
set_option maxRecDepth 100000
theorem own_at {w w' : World} {e : TypeId} {v : Value} {l : List Int} (h : Kd.R (Kd.int .u8) e w' w.heap.size (fun _ => True) v l) (h0 : 0 < l.length) : ∃ g off c, v = .slice (some ⟨g, off, none⟩) l.length c ∧ l.length ≤ c ∧ Kd.C (Kd.int .u8) w' (some ⟨g, off, none⟩) l.length l ∧ w.heap.size ≤ g ∧ g < w'.heap.size := by
  have hb := Kd.R_base h
  obtain ⟨A, c, rfl, hc, hr⟩ := Kd.R_reads h
  obtain ⟨ad, rfl, hcell⟩ := Kd.at_int hr 0 (by omega) (by omega)
  obtain ⟨g, off, spot⟩ := ad
  have hspot : spot = none := by simpa [Addr.add] using World.cell?_spot hcell
  subst hspot
  refine ⟨g, off, c, rfl, hc, hr, ?_, ?_⟩
  · exact hb g rfl
  · have := block_lt_of_cell hcell
    have e0 : ((⟨g, off, none⟩ : Addr).add (Int.toNat 0)).block = g := by unfold Addr.add; split <;> rfl
    rwa [e0] at this
theorem new_any (A : Option Addr) (c : Nat) (l : List Int) (w : World) (hr : Kd.C (Kd.int .u8) w A l.length l) (hc : l.length ≤ c) (hb : Bytes l) (h0 : 0 < l.length) (hl : l.length < 140737488355328) :
    Calls Tryz.prog 132 #[.slice A l.length c] w fun e w' => ∃ p g off c', e = .returned (.pointer (some ⟨p, 0, none⟩)) ∧ ReaderAt w' p g off c' l ∧ Below w.heap.size w w' ∧ w.heap.size ≤ p := by
  have HC := Hide.mk (Given.clone_any A c l w hr hc hl)
  have HB := Hide.mk hb
  have H0 := Hide.mk h0
  clear hr hc hb h0 hl
  go_enter Tryz.func132, Tryz.ntmps132
  go_wp2_with (go_at_call 54; refine HC.out.mono ?_; rintro e w1 ⟨v1, rfl, ho, hb1⟩
               obtain ⟨g, off, c1, rfl, hc1, hr1, hg1, hg2⟩ := own_at ho H0.out
               have R1 := Hide.mk hr1
               have B1 := Hide.mk hb1
               have G1 := Hide.mk (show l.length ≤ c1 ∧ w.heap.size ≤ g ∧ g < w1.heap.size from ⟨hc1, hg1, hg2⟩)
               clear ho hb1 hc1 hr1 hg1 hg2)
  go_ret
  refine ⟨w1.heap.size, g, off, c1, rfl, ⟨heap_last w1 _, Kd.C_below R1.out ((Below.refl _ _).alloc (Nat.le_refl _) _), G1.out.1, by have := G1.out.2.2; omega, HB.out⟩, B1.out.alloc B1.out.size _, B1.out.size⟩
end Go.Proofs.YtplkndmkchpcdaaGreat.Num
end
section
namespace Go.Proofs.YtplkndmkchpcdaaGreat.Page
open Go.RowKit YtplkndmkchpcdaaGreatW.PrintWords PShadowPlays YtplkndmkchpcdaaGreat.Sum Num
theorem equal_eq {a b : List Int} (ha : Bytes a) (hb : Bytes b) : bytes_Equal.f a b = some (decide (a = b)) := by
  unfold bytes_Equal.f
  congr 1
  by_cases h : a = b
  · subst h
    simp
  · rw [decide_eq_false h]
    refine beq_eq_false_iff_ne.2 fun e => h ?_
    have e1 : ∀ l : List Int, (strOfNums l).toList = l.map fun x => UInt8.ofNat x.toNat := by
      intro l
      simp [strOfNums]
    rw [e1, e1] at e
    clear e1 h
    induction a generalizing b with
    | nil =>
      cases b with
      | nil => rfl
      | cons y s => cases e
    | cons x r ih =>
      cases b with
      | nil => cases e
      | cons y s =>
        simp only [List.map_cons, List.cons.injEq] at e
        have hx := ha x List.mem_cons_self
        have hy := hb y List.mem_cons_self
        have e2 : x.toNat = y.toNat := by
          have := congrArg UInt8.toNat e.1
          simp only [UInt8.toNat_ofNat'] at this
          omega
        rw [show x = y by omega, ih (fun z hz => ha z (List.mem_cons_of_mem _ hz)) (fun z hz => hb z (List.mem_cons_of_mem _ hz)) e.2]
theorem sumopen_eq {l : List Int} (hb : Bytes l) (hl : l.length = 256) : sum_Open.f 2 l = some (if tailL (l.take 252) = l.drop 252 then (l.take 252, 0) else ([], 13)) := by
  have hb1 : Bytes (l.take 252) := fun x hx => hb x (List.mem_of_mem_take hx)
  have hb2 : Bytes (l.drop 252) := fun x hx => hb x (List.mem_of_mem_drop hx)
  have hb3 : Bytes (tailL (l.take 252)) := by
    intro x hx
    simp only [tailL, List.mem_cons, List.not_mem_nil, or_false] at hx
    rcases hx with rfl | rfl | rfl | rfl <;> omega
  unfold sum_Open.f
  rw [hl, show wrap64 (((256 : Nat) : Int) - 4) = 252 by unfold wrap64; omega, if_neg (by omega), if_pos (by omega), if_pos (by omega)]
  rw [show (252 : Int).toNat = 252 from rfl, tail_eq hb1]
  simp only [Option.bind_some]
  rw [equal_eq hb3 hb2]
  simp only [Option.bind_some]
  by_cases h : tailL (l.take 252) = l.drop 252
  · rw [if_pos (by simpa using h), if_pos h]
    unfold bytes_Clone.f
    rw [if_pos (by simp; omega)]
    rfl
  · rw [if_neg (by simpa using h), if_neg h]
def openL (b : List Int) : Int × Int × List Int × Int :=
  if b.length ≠ 256 then (0, 0, [], 2)
  else if tailL (b.take 252) ≠ b.drop 252 then (0, 0, [], 13)
  else if 246 < beN 0 ((b.drop 4).take 2) then (0, 0, [], 4)
  else if sealE (beN 0 (b.take 1)) (beN 0 ((b.drop 1).take 3)) (beN 0 ((b.drop 4).take 2)).toNat ≠ 0 then (0, 0, [], 4)
  else if sealL (beN 0 (b.take 1)) (beN 0 ((b.drop 1).take 3)) ((b.drop 6).take (beN 0 ((b.drop 4).take 2)).toNat) ≠ b then (0, 0, [], 4)
  else (beN 0 (b.take 1), beN 0 ((b.drop 1).take 3), (b.drop 6).take (beN 0 ((b.drop 4).take 2)).toNat, 0)
theorem open_seal (kind id : Int) (l : List Int) (hb : Bytes l) (he : sealE kind id l.length = 0) : openL (sealL kind id l) = (kind, id, l, 0) := by
  have hh : 1 ≤ kind ∧ kind ≤ 5 ∧ 0 ≤ id ∧ id ≤ 3000 ∧ l.length ≤ 246 := by
    unfold sealE at he
    split at he
    · cases he
    · split at he
      · cases he
      · split at he
        · cases he
        · omega
  obtain ⟨h1, h2, h3, h4, h5⟩ := hh
  have hbl := bodyL_length kind id l h5
  have htl : (tailL (bodyL kind id l)).length = 4 := rfl
  have hlen : (sealL kind id l).length = 256 := by unfold sealL; rw [List.length_append, hbl, htl]
  have e1 : (sealL kind id l).take 252 = bodyL kind id l := by unfold sealL; rw [List.take_left' hbl]
  have e2 : (sealL kind id l).drop 252 = tailL (bodyL kind id l) := by unfold sealL; rw [List.drop_left' hbl]
  have es : sealL kind id l = kind :: (id / 65536) :: (id / 256) :: (id % 256) :: ((l.length : Int) / 256) :: (l.length : Int) :: (l ++ (List.replicate (246 - l.length) 0 ++ tailL (bodyL kind id l))) := by
    simp [sealL, bodyL]
  have k1 : beN 0 ((sealL kind id l).take 1) = kind := by rw [es]; simp [beN]
  have k2 : beN 0 (((sealL kind id l).drop 1).take 3) = id := by rw [es]; simp [beN]; omega
  have k3 : beN 0 (((sealL kind id l).drop 4).take 2) = (l.length : Int) := by rw [es]; simp [beN]; omega
  have k4 : ((sealL kind id l).drop 6).take l.length = l := by rw [es]; simp
  unfold openL
  rw [if_neg (by rw [hlen]; simp), if_neg (by rw [e1, e2]; simp), k1, k2, k3, Int.toNat_natCast, k4, if_neg (by omega), if_neg (by rw [he]; simp), if_neg (by simp)]
end Go.Proofs.YtplkndmkchpcdaaGreat.Page
end
section
namespace Go.Proofs.YtplkndmkchpcdaaGreat.Page
open Go.RowKit YtplkndmkchpcdaaGreatW.PrintWords PShadowPlays YtplkndmkchpcdaaGreat.Sum Num Disk MapFn
set_option maxHeartbeats 4000000
set_option maxRecDepth 100000
theorem moves_below {w w2 w5 : World} {p : Nat} (h : Below w.heap.size w w2) (hp : w.heap.size ≤ p) (hm : Moves [p] w2 w5) : Below w.heap.size w w5 :=
  h.trans ⟨hm.os, hm.tape, hm.output, hm.size, fun k hk => hm.block k (Nat.lt_of_lt_of_le hk h.size) (by simp; omega)⟩
theorem C_at {w : World} {A : Option Addr} {l : List Int} (h : Kd.C (Kd.int .u8) w A l.length l) (h0 : 0 < l.length) : ∃ g off, A = some ⟨g, off, none⟩ := by
  obtain ⟨ad, rfl, hcell⟩ := Kd.at_int h 0 (by omega) (by omega)
  obtain ⟨g, off, spot⟩ := ad
  have hspot : spot = none := by simpa [Addr.add] using World.cell?_spot hcell
  subst hspot
  exact ⟨g, off, rfl⟩
theorem results_tmp4 {fn : Func} {t u v x : Tmp} (h : fn.results = #[.tmp t, .tmp u, .tmp v, .tmp x]) (tmps : Array Value) (P : Program) (w : World) :
    (results fn tmps).run P w = .ok (.tuple #[tmps.getD t undef, tmps.getD u undef, tmps.getD v undef, tmps.getD x undef]) w := by
  simp [results, h]
section
variable {w : World}
theorem open_len (A : Option Addr) (c : Nat) (b : List Int) (hl : b.length ≠ 256) : Calls Tryz.prog 99 #[.slice A b.length c] w fun e w' => e = .returned (.tuple #[.int .i64 0, .int .i64 0, .slice none 0 0, .int .i64 2]) ∧ Below w.heap.size w w' := by
  have q : ((b.length : Int) != 256) = true := by simp; omega
  clear hl
  go_enter Tryz.func99, Tryz.ntmps99
  go_wp2
  (try simp only [Exit.inBlock, Exit.then])
  refine bodyPost_ret (results_tmp4 rfl _ _ _) rfl ?_
  exact ⟨rfl, Below.refl _ _⟩
theorem open_big (g off c : Nat) (b : List Int) (hr : Kd.C (Kd.int .u8) w (some ⟨g, off, none⟩) b.length b) (hc : b.length ≤ c) (hb : Bytes b) (hl : b.length = 256) (hs : tailL (b.take 252) = b.drop 252) (hn : 246 < beN 0 ((b.drop 4).take 2)) :
    Calls Tryz.prog 99 #[.slice (some ⟨g, off, none⟩) 256 c] w fun e w' => e = .returned (.tuple #[.int .i64 0, .int .i64 0, .slice none 0 0, .int .i64 4]) ∧ Below w.heap.size w w' := by
  have HSO := Hide.mk (sum_Open.calls 2 (some ⟨g, off, none⟩) c b _ _ w hr hc (sumopen_eq hb hl |>.trans (by rw [if_pos hs])))
  rw [hl] at HSO
  have HR := Hide.mk hr
  have HC := Hide.mk hc
  have HB := Hide.mk hb
  have HLN := Hide.mk hl
  clear hr hc hb hl hs
  go_enter Tryz.func99, Tryz.ntmps99
  go_wp2_with (first
    | (go_at_call 131; refine HSO.out.mono ?_; rintro e w1 ⟨v1, rfl, _, hb1⟩; have B1 := Hide.mk hb1; clear hb1
       have HNW := Hide.mk (Num.new_any (some ⟨g, off, none⟩) c b w1 (Kd.C_below HR.out B1.out) HC.out HB.out (by have := HLN.out; omega) (by have := HLN.out; omega)))
    | (go_at_call 132; rw [← HLN.out]; refine HNW.out.mono ?_; rintro e w2 ⟨p, g2, o2, c2, rfl, hr2, hb2, hp2⟩; have R2 := Hide.mk hr2; have B2 := Hide.mk (B1.out.trans (hb2.mono B1.out.size)); have P2 := Hide.mk (show w.heap.size ≤ p from Nat.le_trans B1.out.size hp2); clear hr2 hb2 hp2
       have HN1 := Hide.mk (Num.num_any 1 R2.out (by omega) (by omega) (by have := HLN.out; omega)))
    | (go_at_call 133; have _t := HN1.out; refine HN1.out.mono ?_; rintro e w3 ⟨rfl, hr3, hm3⟩; have R3 := Hide.mk hr3; have M3 := Hide.mk hm3; clear hr3 hm3 HN1 _t
       have HN2 := Hide.mk (Num.num_any 3 R3.out (by omega) (by omega) (by have := HLN.out; simp; omega)))
    | (go_at_call 133; have _t := HN2.out; refine HN2.out.mono ?_; rintro e w4 ⟨rfl, hr4, hm4⟩; have R4 := Hide.mk hr4; have M4 := Hide.mk hm4; clear hr4 hm4 HN2 _t
       have HN3 := Hide.mk (Num.num_any 2 R4.out (by omega) (by omega) (by have := HLN.out; simp; omega)))
    | (go_at_call 133; have _t := HN3.out; refine HN3.out.mono ?_; rintro e w5 ⟨rfl, hr5, hm5⟩; have M5 := Hide.mk hm5; clear hr5 hm5 HN3 _t
       have B5 := Hide.mk (moves_below B2.out P2.out (M3.out.trans (M4.out.trans M5.out)))))
  (try simp only [Exit.inBlock, Exit.then])
  refine bodyPost_ret (results_tmp4 rfl _ _ _) rfl ?_
  exact ⟨rfl, B5.out⟩
theorem num_is {p g2 off2 c2 : Nat} {l : List Int} (k : Nat) (x : Int) (h : ReaderAt w p g2 off2 c2 l) (h1 : 1 ≤ k) (h6 : k ≤ 6) (hk : k < l.length) (hx : beN 0 (l.take k) = x) : Calls Tryz.prog 133 #[.pointer (some ⟨p, 0, none⟩), .int .i64 (k : Int)] w fun e w' => e = .returned (.int .i64 x) ∧ ReaderAt w' p g2 (off2 + k) (c2 - k) (l.drop k) ∧ Moves [p] w w' := by
  rw [← hx]; exact num_any k h h1 h6 hk
theorem C_take {g2 off2 n : Nat} {l : List Int} (h : Kd.C (Kd.int .u8) w (some ⟨g2, off2, none⟩) l.length l) (hn : n ≤ l.length) : Kd.C (Kd.int .u8) w (some ⟨g2, off2, none⟩) (l.take n).length (l.take n) := by
  refine Kd.C_of_reads (enc := Value.int .u8) (d := (0 : Int)) (h1 := fun _ => rfl) ⟨rfl, by have := h.2.1; simp; omega, fun _ => ⟨_, rfl, fun j hj => ?_⟩⟩
  have hj' : j < n := by simp at hj; omega
  obtain ⟨ad, e, hc⟩ := Kd.at_int h (j : Int) (by omega) (by omega)
  cases e
  rw [Int.toNat_natCast] at hc
  rw [hc]
  simp [rd, List.getD_eq_getElem?_getD, List.getElem?_take_of_lt hj']
theorem open_sum (A : Option Addr) (c : Nat) (b : List Int) (hr : Kd.C (Kd.int .u8) w A b.length b) (hc : b.length ≤ c) (hb : Bytes b) (hl : b.length = 256) (hs : ¬ tailL (b.take 252) = b.drop 252) :
    Calls Tryz.prog 99 #[.slice A 256 c] w fun e w' => e = .returned (.tuple #[.int .i64 0, .int .i64 0, .slice none 0 0, .int .i64 13]) ∧ Below w.heap.size w w' := by
  have HSO := Hide.mk (sum_Open.calls 2 A c b _ _ w hr hc (sumopen_eq hb hl |>.trans (by rw [if_neg hs])))
  rw [hl] at HSO
  clear hr hc hb hl hs
  go_enter Tryz.func99, Tryz.ntmps99
  go_wp2_with (go_at_call 131; refine HSO.out.mono ?_; rintro e w1 ⟨v1, rfl, _, hb1⟩; have B1 := Hide.mk hb1; clear hb1)
  (try simp only [Exit.inBlock, Exit.then])
  refine bodyPost_ret (results_tmp4 rfl _ _ _) rfl ?_
  exact ⟨rfl, B1.out⟩
theorem open_bad (g off c : Nat) (b : List Int) (hr : Kd.C (Kd.int .u8) w (some ⟨g, off, none⟩) b.length b) (hc : b.length ≤ c) (hb : Bytes b) (hl : b.length = 256) (hs : tailL (b.take 252) = b.drop 252) (kd id : Int) (N : Nat) (body : List Int)
    (e1 : beN 0 (b.take 1) = kd) (e2 : beN 0 ((b.drop 1).take 3) = id) (e3 : beN 0 (((b.drop 1).drop 3).take 2) = (N : Int)) (hN : N ≤ 246) (e4 : (b.drop 6).take N = body) (he : sealE kd id N ≠ 0) :
    Calls Tryz.prog 99 #[.slice (some ⟨g, off, none⟩) 256 c] w fun e w' => e = .returned (.tuple #[.int .i64 0, .int .i64 0, .slice none 0 0, .int .i64 4]) ∧ Below w.heap.size w w' := by
  have HSO := Hide.mk (sum_Open.calls 2 (some ⟨g, off, none⟩) c b _ _ w hr hc (sumopen_eq hb hl |>.trans (by rw [if_pos hs])))
  rw [hl] at HSO
  have hbl : body.length = N := by rw [← e4]; simp; omega
  have hbody := C_take (n := N) (C_drop (k := 6) hr (by omega)) (by simp; omega)
  rw [e4] at hbody
  have HBODY := Hide.mk hbody
  have HBL := Hide.mk hbl
  have HBB : Hide (Bytes body) := ⟨fun x hx => hb x (List.mem_of_mem_drop (List.mem_of_mem_take (by rw [← e4] at hx; exact hx)))⟩
  have HR := Hide.mk hr
  have HC := Hide.mk hc
  have HB := Hide.mk hb
  have HLN := Hide.mk hl
  have E1 := Hide.mk e1
  have E2 := Hide.mk e2
  have E3 := Hide.mk e3
  have hc2 : 256 ≤ c := by omega
  have HE := Hide.mk he
  have q : (sealE kd id N != 0) = true := by simp [he]
  clear he
  clear hr hc hb hl hs e1 e2 e3 e4 hbody hbl
  go_enter Tryz.func99, Tryz.ntmps99
  go_wp2_with (first
    | (go_at_call 131; refine HSO.out.mono ?_; rintro e w1 ⟨v1, rfl, _, hb1⟩; have B1 := Hide.mk hb1; clear hb1
       have HNW := Hide.mk (Num.new_any (some ⟨g, off, none⟩) c b w1 (Kd.C_below HR.out B1.out) HC.out HB.out (by have := HLN.out; omega) (by have := HLN.out; omega)))
    | (go_at_call 132; rw [← HLN.out]; refine HNW.out.mono ?_; rintro e w2 ⟨p, g2, o2, c2, rfl, hr2, hb2, hp2⟩; have R2 := Hide.mk hr2; have B2 := Hide.mk (B1.out.trans (hb2.mono B1.out.size)); have P2 := Hide.mk (show w.heap.size ≤ p from Nat.le_trans B1.out.size hp2); clear hr2 hb2 hp2
       have HN1 := Hide.mk (num_is 1 kd R2.out (by omega) (by omega) (by have := HLN.out; omega) E1.out))
    | (go_at_call 133; have _t := HN1.out; refine HN1.out.mono ?_; rintro e w3 ⟨rfl, hr3, hm3⟩; have R3 := Hide.mk hr3; have M3 := Hide.mk hm3; clear hr3 hm3 HN1 _t
       have HN2 := Hide.mk (num_is 3 id R3.out (by omega) (by omega) (by have := HLN.out; simp; omega) E2.out))
    | (go_at_call 133; have _t := HN2.out; refine HN2.out.mono ?_; rintro e w4 ⟨rfl, hr4, hm4⟩; have R4 := Hide.mk hr4; have M4 := Hide.mk hm4; clear hr4 hm4 HN2 _t
       have HN3 := Hide.mk (num_is 2 (N : Int) R4.out (by omega) (by omega) (by have := HLN.out; simp; omega) E3.out))
    | (go_at_call 133; have _t := HN3.out; refine HN3.out.mono ?_; rintro e w5 ⟨rfl, hr5, hm5⟩; have M5 := Hide.mk hm5; clear hr5 hm5 HN3 _t
       have B5 := Hide.mk (moves_below B2.out P2.out (M3.out.trans (M4.out.trans M5.out))))
    | (go_at_call 54; rw [← HBL.out]; refine (Given.clone_any (some ⟨g, off + 6, none⟩) (c - 6) body w5 (Kd.C_below HBODY.out B5.out) (by have := HBL.out; omega) (by have := HBL.out; omega)).mono ?_; rintro e w6 ⟨v6, rfl, ho6, hb6⟩
       obtain ⟨A6, c6, rfl, hc6, hr6⟩ := Kd.R_reads ho6
       have O6 := Hide.mk (Kd.R_lower ho6 B5.out.size)
       have R6 := Hide.mk hr6
       have B6 := Hide.mk (B5.out.trans (hb6.mono B5.out.size))
       rw [HBL.out] at O6 ⊢
       clear ho6 hb6 hc6 hr6)
    | (go_at_call 64; refine (seal_bad kd id A6 c6 N w6 HE.out).mono ?_; rintro e w7 ⟨rfl, hb7⟩; have B7 := Hide.mk (B6.out.trans (hb7.mono B6.out.size)); clear hb7))
  (try simp only [Exit.inBlock, Exit.then])
  refine bodyPost_ret (results_tmp4 rfl _ _ _) rfl ?_
  exact ⟨rfl, B7.out⟩
theorem seal_bytes {kd id : Int} {l : List Int} (hb : Bytes l) (he : sealE kd id l.length = 0) : Bytes (sealL kd id l) := by
  have hh : 1 ≤ kd ∧ kd ≤ 5 ∧ 0 ≤ id ∧ id ≤ 3000 ∧ l.length ≤ 246 := by
    unfold sealE at he
    split at he
    · cases he
    · split at he
      · cases he
      · split at he
        · cases he
        · omega
  obtain ⟨h1, h2, h3, h4, h5⟩ := hh
  intro x hx
  rcases List.mem_append.1 hx with h | h
  · exact bodyL_bytes hb h1 h2 h3 h4 h5 x h
  · simp only [tailL, List.mem_cons, List.not_mem_nil, or_false] at h
    rcases h with rfl | rfl | rfl | rfl <;> omega
theorem open_other (g off c : Nat) (b : List Int) (hr : Kd.C (Kd.int .u8) w (some ⟨g, off, none⟩) b.length b) (hc : b.length ≤ c) (hb : Bytes b) (hl : b.length = 256) (hs : tailL (b.take 252) = b.drop 252) (kd id : Int) (N : Nat) (body : List Int)
    (e1 : beN 0 (b.take 1) = kd) (e2 : beN 0 ((b.drop 1).take 3) = id) (e3 : beN 0 (((b.drop 1).drop 3).take 2) = (N : Int)) (hN : N ≤ 246) (e4 : (b.drop 6).take N = body) (he : sealE kd id N = 0) (hq : ¬ b = sealL kd id body) :
    Calls Tryz.prog 99 #[.slice (some ⟨g, off, none⟩) 256 c] w fun e w' => e = .returned (.tuple #[.int .i64 0, .int .i64 0, .slice none 0 0, .int .i64 4]) ∧ Below w.heap.size w w' := by
  have HSO := Hide.mk (sum_Open.calls 2 (some ⟨g, off, none⟩) c b _ _ w hr hc (sumopen_eq hb hl |>.trans (by rw [if_pos hs])))
  rw [hl] at HSO
  have hbl : body.length = N := by rw [← e4]; simp; omega
  have hbody := C_take (n := N) (C_drop (k := 6) hr (by omega)) (by simp; omega)
  rw [e4] at hbody
  have HBODY := Hide.mk hbody
  have HBL := Hide.mk hbl
  have HBB : Hide (Bytes body) := ⟨fun x hx => hb x (List.mem_of_mem_drop (List.mem_of_mem_take (by rw [← e4] at hx; exact hx)))⟩
  have HR := Hide.mk hr
  have HC := Hide.mk hc
  have HB := Hide.mk hb
  have HLN := Hide.mk hl
  have E1 := Hide.mk e1
  have E2 := Hide.mk e2
  have E3 := Hide.mk e3
  have hc2 : 256 ≤ c := by omega
  have HE := Hide.mk he
  have HSK := fun (W : World) (A6 : Option Addr) (c6 : Nat) (hC : Kd.C (Kd.int .u8) W A6 body.length body) => seal_ok kd id A6 c6 body W hC HBB.out (by rw [HBL.out]; exact HE.out)
  rw [HBL.out] at HSK
  have HQ : Hide (bytes_Equal.f b (sealL kd id body) = some false) := ⟨by rw [equal_eq HB.out (seal_bytes HBB.out (by rw [HBL.out]; exact HE.out))]; simp [hq]⟩
  clear he hq
  clear hr hc hb hl hs e1 e2 e3 e4 hbody hbl
  go_enter Tryz.func99, Tryz.ntmps99
  go_wp2_with (first
    | (go_at_call 131; refine HSO.out.mono ?_; rintro e w1 ⟨v1, rfl, _, hb1⟩; have B1 := Hide.mk hb1; clear hb1
       have HNW := Hide.mk (Num.new_any (some ⟨g, off, none⟩) c b w1 (Kd.C_below HR.out B1.out) HC.out HB.out (by have := HLN.out; omega) (by have := HLN.out; omega)))
    | (go_at_call 132; rw [← HLN.out]; refine HNW.out.mono ?_; rintro e w2 ⟨p, g2, o2, c2, rfl, hr2, hb2, hp2⟩; have R2 := Hide.mk hr2; have B2 := Hide.mk (B1.out.trans (hb2.mono B1.out.size)); have P2 := Hide.mk (show w.heap.size ≤ p from Nat.le_trans B1.out.size hp2); clear hr2 hb2 hp2
       have HN1 := Hide.mk (num_is 1 kd R2.out (by omega) (by omega) (by have := HLN.out; omega) E1.out))
    | (go_at_call 133; have _t := HN1.out; refine HN1.out.mono ?_; rintro e w3 ⟨rfl, hr3, hm3⟩; have R3 := Hide.mk hr3; have M3 := Hide.mk hm3; clear hr3 hm3 HN1 _t
       have HN2 := Hide.mk (num_is 3 id R3.out (by omega) (by omega) (by have := HLN.out; simp; omega) E2.out))
    | (go_at_call 133; have _t := HN2.out; refine HN2.out.mono ?_; rintro e w4 ⟨rfl, hr4, hm4⟩; have R4 := Hide.mk hr4; have M4 := Hide.mk hm4; clear hr4 hm4 HN2 _t
       have HN3 := Hide.mk (num_is 2 (N : Int) R4.out (by omega) (by omega) (by have := HLN.out; simp; omega) E3.out))
    | (go_at_call 133; have _t := HN3.out; refine HN3.out.mono ?_; rintro e w5 ⟨rfl, hr5, hm5⟩; have M5 := Hide.mk hm5; clear hr5 hm5 HN3 _t
       have B5 := Hide.mk (moves_below B2.out P2.out (M3.out.trans (M4.out.trans M5.out))))
    | (go_at_call 54; rw [← HBL.out]; refine (Given.clone_any (some ⟨g, off + 6, none⟩) (c - 6) body w5 (Kd.C_below HBODY.out B5.out) (by have := HBL.out; omega) (by have := HBL.out; omega)).mono ?_; rintro e w6 ⟨v6, rfl, ho6, hb6⟩
       obtain ⟨A6, c6, rfl, hc6, hr6⟩ := Kd.R_reads ho6
       have O6 := Hide.mk (Kd.R_lower ho6 B5.out.size)
       have R6 := Hide.mk hr6
       have B6 := Hide.mk (B5.out.trans (hb6.mono B5.out.size))
       rw [HBL.out] at O6 ⊢
       clear ho6 hb6 hc6 hr6)
    | (go_at_call 64; refine (HSK w6 A6 c6 (by have hR := R6.out; rwa [HBL.out] at hR)).mono ?_; rintro e w7 ⟨v7, rfl, ho7, hb7⟩
       obtain ⟨A7, c7, rfl, hc7, hr7⟩ := Kd.R_reads ho7
       have B7 := Hide.mk (B6.out.trans (hb7.mono B6.out.size))
       have R6' := Hide.mk (Kd.C_below R6.out hb7)
       have HEQ := Hide.mk (bytes_Equal.calls (some ⟨g, off, none⟩) c b A7 c7 (sealL kd id body) _ w7 (Kd.C_below HR.out B7.out) HC.out hr7 hc7 HQ.out)
       clear ho7 hb7 hc7 hr7 HSK)
    | (go_at_call 107; refine HEQ.out.mono ?_; rintro e w8 ⟨rfl, ⟨n8, rfl⟩⟩))
  (try simp only [Exit.inBlock, Exit.then])
  refine bodyPost_ret (results_tmp4 rfl _ _ _) rfl ?_
  exact ⟨rfl, pw_below_drewN B7.out _⟩
theorem open_ok (g off c : Nat) (b : List Int) (hr : Kd.C (Kd.int .u8) w (some ⟨g, off, none⟩) b.length b) (hc : b.length ≤ c) (hb : Bytes b) (hl : b.length = 256) (hs : tailL (b.take 252) = b.drop 252) (kd id : Int) (N : Nat) (body : List Int)
    (e1 : beN 0 (b.take 1) = kd) (e2 : beN 0 ((b.drop 1).take 3) = id) (e3 : beN 0 (((b.drop 1).drop 3).take 2) = (N : Int)) (hN : N ≤ 246) (e4 : (b.drop 6).take N = body) (he : sealE kd id N = 0) (hq : b = sealL kd id body) :
    Calls Tryz.prog 99 #[.slice (some ⟨g, off, none⟩) 256 c] w fun e w' => ∃ A6 c6, e = .returned (.tuple #[.int .i64 kd, .int .i64 id, .slice A6 N c6, .int .i64 0]) ∧ Kd.R (Kd.int .u8) 5 w' w.heap.size (fun _ => True) (.slice A6 N c6) body ∧ Below w.heap.size w w' := by
  have HSO := Hide.mk (sum_Open.calls 2 (some ⟨g, off, none⟩) c b _ _ w hr hc (sumopen_eq hb hl |>.trans (by rw [if_pos hs])))
  rw [hl] at HSO
  have hbl : body.length = N := by rw [← e4]; simp; omega
  have hbody := C_take (n := N) (C_drop (k := 6) hr (by omega)) (by simp; omega)
  rw [e4] at hbody
  have HBODY := Hide.mk hbody
  have HBL := Hide.mk hbl
  have HBB : Hide (Bytes body) := ⟨fun x hx => hb x (List.mem_of_mem_drop (List.mem_of_mem_take (by rw [← e4] at hx; exact hx)))⟩
  have HR := Hide.mk hr
  have HC := Hide.mk hc
  have HB := Hide.mk hb
  have HLN := Hide.mk hl
  have E1 := Hide.mk e1
  have E2 := Hide.mk e2
  have E3 := Hide.mk e3
  have hc2 : 256 ≤ c := by omega
  have HE := Hide.mk he
  have HSK := fun (W : World) (A6 : Option Addr) (c6 : Nat) (hC : Kd.C (Kd.int .u8) W A6 body.length body) => seal_ok kd id A6 c6 body W hC HBB.out (by rw [HBL.out]; exact HE.out)
  rw [HBL.out] at HSK
  have HQ : Hide (bytes_Equal.f b (sealL kd id body) = some true) := ⟨by rw [equal_eq HB.out (seal_bytes HBB.out (by rw [HBL.out]; exact HE.out))]; rw [decide_eq_true hq]⟩
  clear he hq
  clear hr hc hb hl hs e1 e2 e3 e4 hbody hbl
  go_enter Tryz.func99, Tryz.ntmps99
  go_wp2_with (first
    | (go_at_call 131; refine HSO.out.mono ?_; rintro e w1 ⟨v1, rfl, _, hb1⟩; have B1 := Hide.mk hb1; clear hb1
       have HNW := Hide.mk (Num.new_any (some ⟨g, off, none⟩) c b w1 (Kd.C_below HR.out B1.out) HC.out HB.out (by have := HLN.out; omega) (by have := HLN.out; omega)))
    | (go_at_call 132; rw [← HLN.out]; refine HNW.out.mono ?_; rintro e w2 ⟨p, g2, o2, c2, rfl, hr2, hb2, hp2⟩; have R2 := Hide.mk hr2; have B2 := Hide.mk (B1.out.trans (hb2.mono B1.out.size)); have P2 := Hide.mk (show w.heap.size ≤ p from Nat.le_trans B1.out.size hp2); clear hr2 hb2 hp2
       have HN1 := Hide.mk (num_is 1 kd R2.out (by omega) (by omega) (by have := HLN.out; omega) E1.out))
    | (go_at_call 133; have _t := HN1.out; refine HN1.out.mono ?_; rintro e w3 ⟨rfl, hr3, hm3⟩; have R3 := Hide.mk hr3; have M3 := Hide.mk hm3; clear hr3 hm3 HN1 _t
       have HN2 := Hide.mk (num_is 3 id R3.out (by omega) (by omega) (by have := HLN.out; simp; omega) E2.out))
    | (go_at_call 133; have _t := HN2.out; refine HN2.out.mono ?_; rintro e w4 ⟨rfl, hr4, hm4⟩; have R4 := Hide.mk hr4; have M4 := Hide.mk hm4; clear hr4 hm4 HN2 _t
       have HN3 := Hide.mk (num_is 2 (N : Int) R4.out (by omega) (by omega) (by have := HLN.out; simp; omega) E3.out))
    | (go_at_call 133; have _t := HN3.out; refine HN3.out.mono ?_; rintro e w5 ⟨rfl, hr5, hm5⟩; have M5 := Hide.mk hm5; clear hr5 hm5 HN3 _t
       have B5 := Hide.mk (moves_below B2.out P2.out (M3.out.trans (M4.out.trans M5.out))))
    | (go_at_call 54; rw [← HBL.out]; refine (Given.clone_any (some ⟨g, off + 6, none⟩) (c - 6) body w5 (Kd.C_below HBODY.out B5.out) (by have := HBL.out; omega) (by have := HBL.out; omega)).mono ?_; rintro e w6 ⟨v6, rfl, ho6, hb6⟩
       obtain ⟨A6, c6, rfl, hc6, hr6⟩ := Kd.R_reads ho6
       have O6 := Hide.mk (Kd.R_lower ho6 B5.out.size)
       have R6 := Hide.mk hr6
       have B6 := Hide.mk (B5.out.trans (hb6.mono B5.out.size))
       rw [HBL.out] at O6 ⊢
       clear ho6 hb6 hc6 hr6)
    | (go_at_call 64; refine (HSK w6 A6 c6 (by have hR := R6.out; rwa [HBL.out] at hR)).mono ?_; rintro e w7 ⟨v7, rfl, ho7, hb7⟩
       obtain ⟨A7, c7, rfl, hc7, hr7⟩ := Kd.R_reads ho7
       have B7 := Hide.mk (B6.out.trans (hb7.mono B6.out.size))
       have B76 := Hide.mk hb7
       have R6' := Hide.mk (Kd.C_below R6.out hb7)
       have HEQ := Hide.mk (bytes_Equal.calls (some ⟨g, off, none⟩) c b A7 c7 (sealL kd id body) _ w7 (Kd.C_below HR.out B7.out) HC.out hr7 hc7 HQ.out)
       clear ho7 hb7 hc7 hr7 HSK)
    | (go_at_call 107; refine HEQ.out.mono ?_; rintro e w8 ⟨rfl, ⟨n8, rfl⟩⟩))
  (try simp only [Exit.inBlock, Exit.then])
  refine bodyPost_ret (results_tmp4 rfl _ _ _) rfl ?_
  exact ⟨A6, c6, rfl, Kd.R_below (Kd.R_below O6.out B76.out) (pw_below_drewN (Below.refl _ _) _), pw_below_drewN B7.out _⟩
end
end Go.Proofs.YtplkndmkchpcdaaGreat.Page
end
section
namespace Go.Proofs.YtplkndmkchpcdaaGreat.Page
open Go.RowKit YtplkndmkchpcdaaGreatW.PrintWords PShadowPlays YtplkndmkchpcdaaGreat.Sum Num
theorem be_two (l : List Int) (hb : Bytes l) : ∃ N : Nat, beN 0 (l.take 2) = (N : Int) := by
  match l, hb with
  | [], _ => exact ⟨0, rfl⟩
  | [x], hb =>
    have := hb x (by simp)
    exact ⟨x.toNat, by simp [beN]; omega⟩
  | x :: y :: r, hb =>
    have h1 := hb x (by simp)
    have h2 := hb y (by simp)
    exact ⟨(x * 256 + y).toNat, by simp [beN]; omega⟩
theorem open_any (A : Option Addr) (c : Nat) (b : List Int) (w : World) (hr : Kd.C (Kd.int .u8) w A b.length b) (hc : b.length ≤ c) (hb : Bytes b) :
    Calls Tryz.prog 99 #[.slice A b.length c] w fun e w' => ∃ v, e = .returned (.tuple #[.int .i64 (openL b).1, .int .i64 (openL b).2.1, v, .int .i64 (openL b).2.2.2]) ∧ Kd.R (Kd.int .u8) 5 w' w.heap.size (fun _ => True) v (openL b).2.2.1 ∧ Below w.heap.size w w' := by
  have nil : ∀ (k : Int), ∀ e w', (e = Ending.returned (.tuple #[.int .i64 0, .int .i64 0, .slice none 0 0, .int .i64 k]) ∧ Below w.heap.size w w') → ∃ v, e = .returned (.tuple #[.int .i64 0, .int .i64 0, v, .int .i64 k]) ∧ Kd.R (Kd.int .u8) 5 w' w.heap.size (fun _ => True) v [] ∧ Below w.heap.size w w' :=
    fun k e w' h => ⟨_, h.1, Kd.R_nil _ _ _ _ _, h.2⟩
  unfold openL
  by_cases hl : b.length = 256
  · rw [if_neg (by simpa using hl), hl]
    by_cases hs : tailL (b.take 252) = b.drop 252
    · rw [if_neg (by simpa using hs)]
      obtain ⟨g, off, rfl⟩ := C_at hr (by omega)
      obtain ⟨N, hN⟩ := be_two (b.drop 4) (fun x hx => hb x (List.mem_of_mem_drop hx))
      rw [hN]
      by_cases hn : 246 < (N : Int)
      · rw [if_pos hn]
        exact (open_big g off c b hr hc hb hl hs (by rw [hN]; exact hn)).mono (nil 4)
      · rw [if_neg hn, Int.toNat_natCast]
        have e3 : beN 0 (((b.drop 1).drop 3).take 2) = (N : Int) := by rw [List.drop_drop]; exact hN
        by_cases he : sealE (beN 0 (b.take 1)) (beN 0 ((b.drop 1).take 3)) N = 0
        · rw [if_neg (by simpa using he)]
          by_cases hq : sealL (beN 0 (b.take 1)) (beN 0 ((b.drop 1).take 3)) ((b.drop 6).take N) = b
          · rw [if_neg (by simpa using hq)]
            refine (open_ok g off c b hr hc hb hl hs _ _ N _ rfl rfl e3 (by omega) rfl he hq.symm).mono ?_
            rintro e w' ⟨A6, c6, he, ho, hB⟩
            exact ⟨_, he, ho, hB⟩
          · rw [if_pos hq]
            exact (open_other g off c b hr hc hb hl hs _ _ N _ rfl rfl e3 (by omega) rfl he (fun h => hq h.symm)).mono (nil 4)
        · rw [if_pos he]
          exact (open_bad g off c b hr hc hb hl hs _ _ N _ rfl rfl e3 (by omega) rfl he).mono (nil 4)
    · rw [if_pos hs]
      exact (open_sum A c b hr hc hb hl hs).mono (nil 13)
  · rw [if_pos hl]
    exact (open_len A c b hl).mono (nil 2)
end Go.Proofs.YtplkndmkchpcdaaGreat.Page
end
section
namespace Go.Proofs.YtplkndmkchpcdaaGreat.Bitset
open Go.RowKit PShadowPlays YtplkndmkchpcdaaGreatW.PrintWords YtplkndmkchpcdaaGreatW.PrintLast YtplkndmkchpcdaaGreatW.PrintMore
theorem wrap_ok {n : Int} (h0 : -9223372036854775808 ≤ n) (h1 : n < 9223372036854775808) : wrap64 n = n := by unfold wrap64; omega
def bitB (x : Int) (j : Nat) : Bool := x.toNat.testBit (7 - j)
def maskB (j : Nat) : Int := shr .u8 128 j
def IsByte (x : Int) : Prop := 0 ≤ x ∧ x < 256
instance (x : Int) : Decidable (IsByte x) := inferInstanceAs (Decidable (_ ∧ _))
theorem byte_ex {x : Int} (h : IsByte x) : ∃ y : Fin 256, x = ((y.val : Nat) : Int) := ⟨⟨x.toNat, by have := h.1; have := h.2; omega⟩, by have := h.1; simp; omega⟩
theorem all_bytes (p : Int → Fin 8 → Bool) (h : ∀ (y : Fin 256) (j : Fin 8), p ((y.val : Nat) : Int) j = true) {x : Int} (hx : IsByte x) {j : Nat} (hj : j < 8) : p x ⟨j, hj⟩ = true := by
  obtain ⟨y, rfl⟩ := byte_ex hx
  exact h y ⟨j, hj⟩
theorem and_mask {x : Int} (hx : IsByte x) {j : Nat} (hj : j < 8) : (Go.bits .and .u8 x (maskB j) != 0) = bitB x j := by
  have := all_bytes (fun x j => (Go.bits .and .u8 x (maskB j.val) != 0) == bitB x j.val) (by decide +kernel) hx hj
  simpa using this
def setB (x : Int) (j : Nat) (on : Bool) : Int := if on then Go.bits .or .u8 x (maskB j) else Go.bits .andNot .u8 x (maskB j)
theorem setB_byte {x : Int} (hx : IsByte x) {j : Nat} (hj : j < 8) (on : Bool) : IsByte (setB x j on) := by
  have := all_bytes (fun x j => decide (IsByte (setB x j.val true)) && decide (IsByte (setB x j.val false))) (by decide +kernel) hx hj
  simp only [Bool.and_eq_true, decide_eq_true_eq] at this
  cases on
  · exact this.2
  · exact this.1
theorem setB_bit {x : Int} (hx : IsByte x) {j : Nat} (hj : j < 8) (on : Bool) {i : Nat} (hi : i < 8) : bitB (setB x j on) i = if i = j then on else bitB x i := by
  have := all_bytes (fun x j => decide (∀ i : Fin 8, bitB (setB x j.val true) i.val = if i.val = j.val then true else bitB x i.val) && decide (∀ i : Fin 8, bitB (setB x j.val false) i.val = if i.val = j.val then false else bitB x i.val)) (by decide +kernel) hx hj
  simp only [Bool.and_eq_true, decide_eq_true_eq] at this
  cases on
  · exact this.2 ⟨i, hi⟩
  · exact this.1 ⟨i, hi⟩
def popB (x : Int) : Nat := ((List.range 8).filter (bitB x)).length
theorem or_nat {x y : Int} (hx : IsByte x) (hy : IsByte y) : Given.orB x y = ((x.toNat ||| y.toNat : Nat) : Int) := by
  have := (bits_nat .u8 8 (by decide) wraps_u8 x.toNat y.toNat (by have := hx.2; have := hx.1; omega) (by have := hy.2; have := hy.1; omega)).2
  rw [Int.toNat_of_nonneg hx.1, Int.toNat_of_nonneg hy.1] at this
  exact this
theorem or_byte {x y : Int} (hx : IsByte x) (hy : IsByte y) : IsByte (Given.orB x y) := by
  rw [or_nat hx hy]
  have := Nat.or_lt_two_pow (n := 8) (show x.toNat < 2 ^ 8 by have := hx.2; have := hx.1; omega) (show y.toNat < 2 ^ 8 by have := hy.2; have := hy.1; omega)
  exact ⟨by omega, by omega⟩
theorem or_bit {x y : Int} (hx : IsByte x) (hy : IsByte y) (j : Nat) : bitB (Given.orB x y) j = (bitB x j || bitB y j) := by
  rw [or_nat hx hy]; unfold bitB; rw [Int.toNat_natCast, Nat.testBit_or]
theorem zero_bit (j : Nat) : bitB 0 j = false := by unfold bitB; simp
theorem zero_byte : IsByte 0 := by decide
theorem getD_lt {l : List Int} {i : Nat} (h : i < l.length) (d : Int) : l.getD i d = l[i] := by simp [List.getD_eq_getElem?_getD, h]
theorem getD_ge {l : List Int} {i : Nat} (h : l.length ≤ i) (d : Int) : l.getD i d = d := by simp [List.getD_eq_getElem?_getD, List.getElem?_eq_none h]
def Bytes (l : List Int) : Prop := ∀ x ∈ l, IsByte x
def at_ (l : List Int) (i : Nat) : Int := l.getD i 0
theorem at_byte {l : List Int} (h : Bytes l) (i : Nat) : IsByte (at_ l i) := by
  unfold at_
  by_cases hi : i < l.length
  · rw [getD_lt hi]; exact h _ (List.getElem_mem hi)
  · rw [getD_ge (by omega)]; exact zero_byte
def hasN (l : List Int) (n : Nat) : Bool := bitB (at_ l (n / 8)) (n % 8)
theorem hasN_out {l : List Int} {n : Nat} (h : 8 * l.length ≤ n) : hasN l n = false := by
  unfold hasN at_
  rw [getD_ge (by omega)]
  exact zero_bit _
def hasL (l : List Int) (i : Int) : Bool := decide (0 ≤ i) && hasN l i.toNat
theorem hasL_nat (l : List Int) (n : Nat) : hasL l (n : Int) = hasN l n := by simp [hasL]
def withN (l : List Int) (n : Nat) (on : Bool) : List Int := l.set (n / 8) (setB (at_ l (n / 8)) (n % 8) on)
theorem withN_length (l : List Int) (n : Nat) (on : Bool) : (withN l n on).length = l.length := by simp [withN]
theorem withN_bytes {l : List Int} (h : Bytes l) (n : Nat) (on : Bool) : Bytes (withN l n on) := by
  intro x hx
  rcases List.mem_or_eq_of_mem_set hx with hx | rfl
  · exact h x hx
  · exact setB_byte (at_byte h _) (Nat.mod_lt _ (by decide)) on
theorem at_withN (l : List Int) (n : Nat) (on : Bool) (i : Nat) (h : n < 8 * l.length) : at_ (withN l n on) i = if i = n / 8 then setB (at_ l (n / 8)) (n % 8) on else at_ l i := by
  unfold withN at_
  rw [List.getD_eq_getElem?_getD, List.getElem?_set]
  by_cases e : n / 8 = i
  · subst e; rw [if_pos rfl, if_pos (by omega), if_pos rfl]; rfl
  · rw [if_neg e, if_neg (fun h => e h.symm), List.getD_eq_getElem?_getD]
theorem hasN_withN {l : List Int} (hl : Bytes l) (n : Nat) (on : Bool) (h : n < 8 * l.length) (m : Nat) : hasN (withN l n on) m = if m = n then on else hasN l m := by
  unfold hasN
  rw [at_withN l n on _ h]
  by_cases e : m / 8 = n / 8
  · rw [if_pos e, setB_bit (at_byte hl _) (Nat.mod_lt _ (by decide)) on (Nat.mod_lt _ (by decide))]
    by_cases f : m % 8 = n % 8
    · rw [if_pos f, if_pos (by omega)]
    · rw [if_neg f, if_neg (by intro h; subst h; exact f rfl), e]
  · rw [if_neg e, if_neg (by intro h; subst h; exact e rfl)]
def withL (l : List Int) (i : Int) (on : Bool) : List Int := if 0 ≤ i ∧ i < 8 * (l.length : Int) then withN l i.toNat on else l
theorem at_joinL (g : Int → Int → Int) (a b : List Int) (i : Nat) (hg : g 0 0 = 0) : at_ (Given.joinL g a b) i = g (at_ a i) (at_ b i) := by
  unfold at_ Given.joinL
  by_cases hi : i < max a.length b.length
  · simp [List.getD_eq_getElem?_getD, hi]
  · rw [getD_ge (by simp; omega), getD_ge (by omega), getD_ge (by omega), hg]
theorem joinL_bytes {g : Int → Int → Int} (hg : ∀ x y, IsByte x → IsByte y → IsByte (g x y)) {a b : List Int} (ha : Bytes a) (hb : Bytes b) : Bytes (Given.joinL g a b) := by
  intro x hx
  obtain ⟨i, _, rfl⟩ := List.mem_map.1 hx
  exact hg _ _ (at_byte ha i) (at_byte hb i)
theorem hasN_join {a b : List Int} (ha : Bytes a) (hb : Bytes b) (n : Nat) : hasN (Given.joinL Given.orB a b) n = (hasN a n || hasN b n) := by
  unfold hasN
  rw [at_joinL _ _ _ _ (by decide +kernel), or_bit (at_byte ha _) (at_byte hb _)]
def countL (l : List Int) : Nat := (l.map popB).sum
def listN (l : List Int) : List Nat := (List.range (8 * l.length)).filter (hasN l)
theorem tdiv8 {i : Int} (h : 0 ≤ i) : Int.tdiv i 8 = ((i.toNat / 8 : Nat) : Int) := by rw [Int.tdiv_eq_ediv_of_nonneg h]; omega
theorem tmod8 {i : Int} (h : 0 ≤ i) : Int.tmod i 8 = ((i.toNat % 8 : Nat) : Int) := by rw [Int.tmod_eq_emod_of_nonneg h]; omega
theorem rd_at (l : List Int) (n : Nat) : rd l ((n : Nat) : Int) = at_ l n := by simp [rd, at_]
def Small (l : List Int) : Prop := l.length ≤ 1048576
theorem mask_eq {i : Int} (h : 0 ≤ i) : bits_mask.f i = some (maskB (i.toNat % 8)) := by
  unfold bits_mask.f
  rw [tmod8 h, if_pos (by omega)]
  rfl
theorem in_eq {l : List Int} (hl : Small l) (i : Int) : bits_in.f l i = some (decide (0 ≤ i ∧ i < 8 * (l.length : Int))) := by
  unfold Small at hl
  unfold bits_in.f
  rw [wrap_ok (by omega) (by omega)]
  by_cases h : 0 ≤ i
  · rw [if_pos h]; simp [h]
  · rw [if_neg h]; simp [h]
theorem has_eq {l : List Int} (hl : Small l) (hb : Bytes l) (i : Int) : bits_Has.f l i = some (hasL l i) := by
  unfold bits_Has.f
  rw [in_eq hl]
  unfold Small at hl
  simp only [Option.bind_some]
  by_cases h : 0 ≤ i ∧ i < 8 * (l.length : Int)
  · rw [if_pos (by simpa using h), tdiv8 h.1, wrap_ok (by omega) (by omega), if_pos (by omega), if_pos (by omega), mask_eq h.1]
    simp only [Option.bind_some]
    rw [rd_at, and_mask (at_byte hb _) (Nat.mod_lt _ (by decide))]
    simp [hasL, hasN, h.1]
  · rw [if_neg (by simpa using h)]
    congr 1
    symm
    unfold hasL
    by_cases h0 : 0 ≤ i
    · rw [hasN_out (by omega)]; simp
    · simp [h0]
theorem with_eq {l : List Int} (hl : Small l) (i : Int) (on : Bool) : bits_With.f l i on = some (withL l i on) := by
  unfold bits_With.f
  have hc : bytes_Clone.f l = some l := by unfold bytes_Clone.f; rw [if_pos (by unfold Small at hl; omega)]
  rw [hc]
  simp only [Option.bind_some]
  rw [in_eq hl]
  unfold Small at hl
  simp only [Option.bind_some]
  unfold withL
  by_cases h : 0 ≤ i ∧ i < 8 * (l.length : Int)
  · rw [if_pos (by simpa using h), if_pos h, tdiv8 h.1, wrap_ok (by omega) (by omega), mask_eq h.1]
    unfold withN setB
    cases on
    · rw [if_neg (by simp), if_pos (by omega), if_pos (by omega)]
      simp only [Option.bind_some, Int.toNat_natCast]
      rw [rd_at]
      simp
    · rw [if_pos rfl, if_pos (by omega), if_pos (by omega)]
      simp only [Option.bind_some, Int.toNat_natCast]
      rw [rd_at]
      simp
  · rw [if_neg (by simpa using h), if_neg h]
def firstN (l : List Int) : Nat → Nat → Int × Bool
  | 0, _ => (0, false)
  | d + 1, n => if hasN l n then firstN l d (n + 1) else ((n : Int), true)
def firstL (l : List Int) (from_ : Int) : Int × Bool := firstN l (8 * l.length - from_.toNat) from_.toNat
theorem first_l0 {l : List Int} (hl : Small l) (hb : Bytes l) (d : Nat) : ∀ (n k : Nat), 8 * l.length - n = d → d < k → n ≤ 9223372036854775807 → bits_First.l0 k l (n : Int) = some (firstN l d n) := by
  induction d with
  | zero =>
    intro n k h hk _
    obtain ⟨k, rfl⟩ : ∃ m, k = m + 1 := ⟨k - 1, by omega⟩
    simp only [bits_First.l0]
    rw [wrap_ok (by omega) (by unfold Small at hl; omega), if_neg (by omega)]
    rfl
  | succ d ih =>
    intro n k h hk hn
    obtain ⟨k, rfl⟩ : ∃ m, k = m + 1 := ⟨k - 1, by omega⟩
    have hs := hl
    unfold Small at hs
    simp only [bits_First.l0]
    rw [wrap_ok (by omega) (by omega), if_pos (by omega), has_eq hl hb]
    simp only [Option.bind_some, hasL_nat, firstN]
    cases hasN l n
    · simp
    · simp only [if_true]
      rw [wrap_ok (by omega) (by omega)]
      exact ih (n + 1) k (by omega) (by omega) (by omega)
theorem first_eq {l : List Int} (hl : Small l) (hb : Bytes l) (i : Int) (h1 : i ≤ 9223372036854775807) {k : Nat} (hk : 8 * l.length < k) : bits_First.f k l i = some (firstL l i) := by
  unfold bits_First.f firstL
  have e : mx i 0 = (i.toNat : Int) := by unfold mx; split <;> omega
  rw [e]
  exact first_l0 hl hb _ _ _ rfl (by omega) (by omega)
structure InB (w : World) (A : Option Addr) (l : List Int) (c : Nat) : Prop where
  reads : Kd.C (Kd.int .u8) w A l.length l
  room : l.length ≤ c
theorem InB.below {w w1 : World} {A : Option Addr} {l : List Int} {c : Nat} (h : InB w A l c) (hb : Below w.heap.size w w1) : InB w1 A l c := ⟨Kd.C_below h.reads hb, h.room⟩
theorem InB.alloc {w : World} {A : Option Addr} {l : List Int} {c : Nat} (h : InB w A l c) (o : Obj) : InB (w.alloc o) A l c := h.below (below_alloc (Below.refl _ _) o)
theorem InB.drew {w : World} {A : Option Addr} {l : List Int} {c : Nat} (h : InB w A l c) (n : Nat) : InB (w.drewN n) A l c := h.below (pw_below_drewN (Below.refl _ _) n)
def OwnB (w : World) (base : Nat) (v : Value) (l : List Int) : Prop := Kd.R (Kd.int .u8) 5 w base (fun _ => True) v l
theorem OwnB.slice {w : World} {base : Nat} {v : Value} {l : List Int} (h : OwnB w base v l) : ∃ A c, v = .slice A l.length c ∧ InB w A l c := by
  obtain ⟨A, c, rfl, hc, hr⟩ := Kd.R_reads h
  exact ⟨A, c, rfl, hr, hc⟩
theorem OwnB.below {w w1 : World} {base : Nat} {v : Value} {l : List Int} (h : OwnB w base v l) (hb : Below w.heap.size w w1) : OwnB w1 base v l := Kd.R_below h hb
section
variable {A : Option Addr} {c : Nat} {l : List Int} {w : World}
theorem has_any (h : InB w A l c) (hl : Small l) (hb : Bytes l) (i : Int) : Calls Tryz.prog 75 #[.slice A l.length c, .int .i64 i] w fun e w' => e = .returned (.bool (hasL l i)) ∧ Drawn0 w w' :=
  bits_Has.calls A c l i _ w h.reads h.room (has_eq hl hb i)
theorem with_any (h : InB w A l c) (hl : Small l) (i : Int) (on : Bool) : Calls Tryz.prog 70 #[.slice A l.length c, .int .i64 i, .bool on] w fun e w' => ∃ v : Value, e = .returned v ∧ OwnB w' w.heap.size v (withL l i on) ∧ Below w.heap.size w w' :=
  bits_With.calls A c l i on _ w h.reads h.room (with_eq hl i on)
theorem first_any (h : InB w A l c) (hl : Small l) (hb : Bytes l) (i : Int) (hi : i ≤ 9223372036854775807) : Calls Tryz.prog 101 #[.slice A l.length c, .int .i64 i] w fun e w' => e = .returned (.tuple #[.int .i64 (firstL l i).1, .bool (firstL l i).2]) ∧ Below w.heap.size w w' :=
  bits_First.calls (8 * l.length + 1) A c l i _ _ w h.reads h.room (first_eq hl hb i hi (Nat.lt_succ_self _))
theorem join_any {A1 : Option Addr} {c1 : Nat} {l1 : List Int} (h : InB w A l c) (h1 : InB w A1 l1 c1) (hl : Small l) (hl1 : Small l1) : Calls Tryz.prog 72 #[.slice A l.length c, .slice A1 l1.length c1] w fun e w' => ∃ v : Value, e = .returned v ∧ OwnB w' w.heap.size v (Given.joinL Given.orB l l1) ∧ Below w.heap.size w w' := by
  unfold Small at hl hl1
  exact Given.join_any A c l A1 c1 l1 w h.reads h1.reads (by omega) (by omega)
end
end Go.Proofs.YtplkndmkchpcdaaGreat.Bitset
end
section
namespace Go.Proofs.YtplkndmkchpcdaaGreat.Sh
open Go.RowKit Disk Page Num Bitset
def splitF : Nat → Nat → List Int → List (List Int)
  | 0, _, _ => []
  | _ + 1, _, [] => []
  | f + 1, n, x :: r => ((x :: r).take n) :: splitF f n ((x :: r).drop n)
def splitL (n : Nat) (l : List Int) : List (List Int) := splitF l.length n l
def putN : Nat → Int → List Int
  | 0, _ => []
  | w + 1, n => (n / 256 ^ w) % 256 :: putN w n
def emptyB (blocks : Int) : List Int := List.replicate (Given.clampN blocks) 0
structure Root where
  epoch : Int
  blocks : Int
  next : Int
  start : Int
  tables : List Int
  maps : List Int
def Root.zero : Root := ⟨0, 0, 0, 0, [], []⟩
def inside (n lo hi : Int) : Bool := decide (lo ≤ n) && decide (n ≤ hi)
def Root.check (r : Root) : Int :=
  if (inside r.epoch 0 1099511627776 && inside r.blocks 2 4096 && inside r.next 0 3000 && inside r.start 0 r.next) = false then 12
  else if 26 < r.tables.length ∨ 3 < r.maps.length then 5
  else if (r.tables ++ r.maps).all (fun n => inside n 2 (r.blocks - 1)) = false then 12 else 0
def twos (l : List Int) : List Int := l.flatMap (putN 2)
def Root.head (r : Root) : List Int :=
  [114, 111, 111, 116] ++ putN 6 r.epoch ++ twos [r.blocks, r.next, r.start] ++ [(r.tables.length : Int), (r.maps.length : Int)] ++ twos r.tables ++ twos r.maps
def Root.body (r : Root) : List Int := r.head ++ List.replicate (246 - r.head.length) 0
def Root.bytes (r : Root) : List Int := r.body ++ tailL r.body ++ putN 6 r.epoch
def twosAt (b : List Int) : Nat → Nat → List Int
  | 0, _ => []
  | k + 1, off => beN 0 ((b.drop off).take 2) :: twosAt b k (off + 2)
def Root.read (b : List Int) : Root :=
  let n := beN 0 ((b.drop 16).take 1)
  let m := beN 0 ((b.drop 17).take 1)
  let n' := (if n < 26 then n else 26).toNat
  ⟨beN 0 ((b.drop 4).take 6), beN 0 ((b.drop 10).take 2), beN 0 ((b.drop 12).take 2), beN 0 ((b.drop 14).take 2), twosAt b n' 18, twosAt b (if m < 3 then m else 3).toNat (18 + 2 * n')⟩
def Root.get (b : List Int) : Root × Int :=
  if b.length ≠ 256 then (Root.zero, 2)
  else if (b.drop 4).take 6 ≠ b.drop 250 then (Root.zero, 3)
  else if tailL (b.take 246) ≠ (b.take 250).drop 246 then (Root.zero, 13)
  else if (Root.read b).check ≠ 0 then (Root.zero, 4)
  else if (Root.read b).bytes ≠ b then (Root.zero, 4)
  else (Root.read b, 0)
def Root.better (best : Root × Int) (i : Int) (x : List Int) : Root × Int :=
  if (Root.get x).2 = 0 ∧ (Root.get x).1.epoch % 2 = i ∧ best.1.epoch < (Root.get x).1.epoch then ((Root.get x).1, i) else best
def Root.choose (a b : List Int) : Root × Int × Int :=
  let best := Root.better (Root.better (⟨-1, 0, 0, 0, [], []⟩, -1) 0 a) 1 b
  if best.2 < 0 then (Root.zero, 0, 4) else (best.1, best.2, 0)
structure Sh where
  D : DiskSt
  root : Root
  was : List Int
  used : List Int
  table : List Int
  start : Int
  fresh : List Int
  dirty : Bool
  bad : Bool
def Sh.over (D : DiskSt) : Sh := ⟨D, Root.zero, [0], [], [0], 0, [], false, false⟩
def Sh.done (s : Sh) (e : Int) : Sh := { s with bad := s.bad || (e != 0) }
def usedL (r : Root) (table : List Int) : List Int :=
  withL (([1] ++ table ++ r.tables ++ r.maps).foldl (fun m n => withL m n true) (emptyB r.blocks)) 0 true
def Sh.wr (s : Sh) (n : Int) (b : List Int) : Sh × Int := (({ s with D := (s.D.write n b).1 } : Sh).done (s.D.write n b).2, (s.D.write n b).2)
def Sh.sync (s : Sh) : Sh × Int := (({ s with D := s.D.sync.1 } : Sh).done s.D.sync.2, s.D.sync.2)
def Sh.layF (kind : Int) (blocks : List Int) : List (List Int) → Nat → Sh → Sh × Int
  | [], _, s => (s, 0)
  | p :: ps, i, s =>
    if sealE kind i p.length ≠ 0 then (s, sealE kind i p.length)
    else if (s.wr (blocks.getD i 0) (sealL kind i p)).2 ≠ 0 then s.wr (blocks.getD i 0) (sealL kind i p)
    else Sh.layF kind blocks ps (i + 1) (s.wr (blocks.getD i 0) (sealL kind i p)).1
def Sh.lay (s : Sh) (kind : Int) (pieces : List (List Int)) (blocks : List Int) : Sh × Int := Sh.layF kind blocks pieces 0 s
def Sh.crown (s : Sh) (r : Root) : Sh × Int :=
  if s.sync.2 ≠ 0 then s.sync
  else if r.check ≠ 0 then (s.sync.1, r.check)
  else if (s.sync.1.wr (r.epoch % 2) r.bytes).2 ≠ 0 then s.sync.1.wr (r.epoch % 2) r.bytes
  else (s.sync.1.wr (r.epoch % 2) r.bytes).1.sync
def Sh.settle (s : Sh) (r : Root) : Sh :=
  { s with root := r, was := s.table, start := r.start, used := usedL r s.table, fresh := emptyB r.blocks, dirty := false }
def mapsOf (blocks : Int) : Nat := (splitL 246 (emptyB blocks)).length
def firstRoot (blocks : Int) : Root := ⟨0, blocks, 0, 0, [], (List.range (mapsOf blocks)).map fun i => ((2 + i : Nat) : Int)⟩
def Sh.format (D : DiskSt) : Sh × Int :=
  let s := Sh.over D
  let r := firstRoot D.blocks
  if D.blocks < 3 + (mapsOf D.blocks : Int) then (s, 10)
  else if (D.write 1 zeros).2 ≠ 0 then ({ s with D := (D.write 1 zeros).1 }, (D.write 1 zeros).2)
  else
    let a := ({ s with D := (D.write 1 zeros).1 } : Sh).lay 2 (splitL 246 (usedL r s.table)) r.maps
    if a.2 ≠ 0 then a
    else if (a.1.crown r).2 ≠ 0 then a.1.crown r
    else ((a.1.crown r).1.settle r, 0)
def Sh.gatherF (kind : Int) : List Int → Nat → DiskSt → List Int → DiskSt × List Int × Int
  | [], _, D, out => (D, out, 0)
  | n :: ns, i, D, out =>
    if D.at_ n ≠ 0 then (D, [], D.at_ n)
    else if (openL (D.get n)).2.2.2 ≠ 0 ∨ (openL (D.get n)).1 ≠ kind ∨ (openL (D.get n)).2.1 ≠ i then (D.read, [], 4)
    else Sh.gatherF kind ns (i + 1) D.read (out ++ (openL (D.get n)).2.2.1)
def gather (D : DiskSt) (kind : Int) (blocks : List Int) : DiskSt × List Int × Int := Sh.gatherF kind blocks 0 D []
def seenF (r : Root) (k : Nat) : List Int → Nat → (Int → Bool) → Bool
  | [], _, _ => true
  | n :: ns, i, seen =>
    if n = 0 ∧ k ≤ i then seenF r k ns (i + 1) seen
    else if r.blocks ≤ n ∨ seen n = true then false
    else seenF r k ns (i + 1) (fun j => decide (j = n) || seen j)
def right (r : Root) (table : List Int) (m : List Int) : Bool :=
  if (table.length : Int) ≠ r.next + 1 ∨ (0 < r.next ∧ table.getD r.next.toNat 0 = 0) ∨ (0 < r.start ∧ table.getD r.start.toNat 0 = 0) then false
  else if seenF r (r.tables.length + r.maps.length) (r.tables ++ r.maps ++ table) 0 (fun j => decide (j = 0) || decide (j = 1)) = false then false
  else decide (m = usedL r table)
def roots (D : DiskSt) : DiskSt × Root × Int :=
  if D.at_ 0 ≠ 0 then (D, Root.zero, D.at_ 0)
  else if D.read.at_ 1 ≠ 0 then (D.read, Root.zero, D.read.at_ 1)
  else
    let c := Root.choose (D.get 0) (D.read.get 1)
    (D.read.read, c.1, if c.2.2 = 0 ∧ c.1.blocks ≠ D.blocks then 4 else c.2.2)
def unwordsL : List Int → List Int
  | x :: y :: r => (x * 256 + y) :: unwordsL r
  | _ => []
def Sh.open_ (D : DiskSt) : Sh × Int :=
  let a := roots D
  let r := a.2.1
  if a.2.2 ≠ 0 then (Sh.over a.1, a.2.2)
  else
    let t := gather a.1 1 r.tables
    if t.2.2 ≠ 0 then (Sh.over t.1, t.2.2)
    else
      let m := gather t.1 2 r.maps
      if m.2.2 ≠ 0 then (Sh.over m.1, m.2.2)
      else if t.2.1.length % 2 ≠ 0 then (Sh.over m.1, 4)
      else if right r (0 :: unwordsL t.2.1) m.2.1 = false then (Sh.over m.1, 4)
      else (({ Sh.over m.1 with table := 0 :: unwordsL t.2.1 } : Sh).settle r, 0)
def Sh.alive (s : Sh) : Int := if s.bad then 15 else 0
def Sh.block (s : Sh) (id : Int) : Int × Int :=
  if s.alive ≠ 0 then (0, s.alive)
  else if id < 1 ∨ (s.table.length : Int) ≤ id ∨ s.table.getD id.toNat 0 = 0 then (0, 8)
  else (s.table.getD id.toNat 0, 0)
def trimF : Nat → List Int → List Int
  | 0, l => l
  | k + 1, l => if 1 < l.length ∧ l.getD (l.length - 1) 0 = 0 then trimF k (l.take (l.length - 1)) else l
def trimL (l : List Int) : List Int := trimF l.length l
def padL (l : List Int) (id : Nat) : List Int := l ++ List.replicate (id + 1 - l.length) 0
def Sh.put (s : Sh) (id n : Int) : Sh := { s with table := trimL ((padL s.table id.toNat).set id.toNat n), dirty := true }
def lowF (taken : List Int) (blocks : Int) : Nat → Int → Option (List Int)
  | 0, _ => some []
  | k + 1, from_ =>
    if (firstL taken from_).2 = false ∨ blocks ≤ (firstL taken from_).1 then none
    else (lowF taken blocks k ((firstL taken from_).1 + 1)).map ((firstL taken from_).1 :: ·)
def Sh.taken (s : Sh) : List Int := Given.joinL Given.orB s.used s.fresh
def Sh.lowest (s : Sh) (n : Nat) : Option (List Int) := lowF s.taken s.root.blocks n 0
def Sh.read (s : Sh) (id : Int) : Sh × Int × List Int × Int :=
  if (s.block id).2 ≠ 0 then (s, 0, [], (s.block id).2)
  else if s.D.at_ (s.block id).1 ≠ 0 then (s.done (s.D.at_ (s.block id).1), 0, [], s.D.at_ (s.block id).1)
  else
    let o := openL (s.D.get (s.block id).1)
    let s' : Sh := { s with D := s.D.read }
    if o.2.2.2 ≠ 0 ∨ o.2.1 ≠ id then (s', 0, [], 4) else (s', o.1, o.2.2.1, 0)
def Sh.place (s : Sh) (id n : Int) (b : List Int) : Sh × Int :=
  if (s.wr n b).2 ≠ 0 then s.wr n b
  else ({ (s.wr n b).1.put id n with fresh := withL (s.wr n b).1.fresh n true }, 0)
def idF (t : List Int) : Nat → Nat → Nat
  | 0, id => id
  | k + 1, id => if id < t.length ∧ t.getD id 0 ≠ 0 then idF t k (id + 1) else id
def freeId (t : List Int) : Nat := idF t t.length 1
def Sh.alloc (s : Sh) (kind : Int) (body : List Int) : Sh × Int × Int :=
  if s.alive ≠ 0 then (s, 0, s.alive)
  else if sealE kind 1 body.length ≠ 0 then (s, 0, sealE kind 1 body.length)
  else if sealE kind (freeId s.table) body.length ≠ 0 then (s, 0, sealE kind (freeId s.table) body.length)
  else match s.lowest 1 with
    | none => (s, 0, 10)
    | some l =>
      let r := s.place (freeId s.table) (l.getD 0 0) (sealL kind (freeId s.table) body)
      if r.2 ≠ 0 then (r.1, 0, r.2) else (r.1, freeId s.table, 0)
def Sh.write (s : Sh) (id kind : Int) (body : List Int) : Sh × Int :=
  if (s.block id).2 ≠ 0 then (s, (s.block id).2)
  else if sealE kind id body.length ≠ 0 then (s, sealE kind id body.length)
  else if hasL s.fresh (s.block id).1 = true then s.place id (s.block id).1 (sealL kind id body)
  else match s.lowest 1 with
    | none => (s, 10)
    | some l => s.place id (l.getD 0 0) (sealL kind id body)
def Sh.free (s : Sh) (id : Int) : Sh × Int :=
  if (s.block id).2 ≠ 0 then (s, (s.block id).2)
  else if id = s.start then (s, 2)
  else ({ s.put id 0 with fresh := withL s.fresh (s.block id).1 false }, 0)
def Sh.setStart (s : Sh) (id : Int) : Sh × Int :=
  if s.alive ≠ 0 then (s, s.alive)
  else if id ≠ 0 ∧ (s.block id).2 ≠ 0 then (s, (s.block id).2)
  else ({ s with dirty := s.dirty || (id != s.start), start := id }, 0)
def wordsL (l : List Int) : List Int := l.flatMap fun n => [n / 256 % 256, n % 256]
def Sh.next (s : Sh) (pieces : Nat) (l : List Int) : Root := ⟨s.root.epoch + 1, s.root.blocks, (s.table.length : Int) - 1, s.start, l.take pieces, l.drop pieces⟩
def Sh.commit (s : Sh) : Sh × Int :=
  if s.alive ≠ 0 then (s, s.alive)
  else if s.dirty = false then (s, 0)
  else
    let pieces := splitL 246 (wordsL (s.table.drop 1))
    match s.lowest (pieces.length + mapsOf s.root.blocks) with
    | none => (s, 10)
    | some l =>
      if 1099511627776 ≤ s.root.epoch then (s, 12)
      else
        let r := s.next pieces.length l
        let a := s.lay 1 pieces r.tables
        if a.2 ≠ 0 then a
        else
          let b := a.1.lay 2 (splitL 246 (usedL r s.table)) r.maps
          if b.2 ≠ 0 then b
          else if (b.1.crown r).2 ≠ 0 then b.1.crown r
          else ((b.1.crown r).1.settle r, 0)
def Sh.abort (s : Sh) : Sh × Int :=
  if s.alive ≠ 0 then (s, s.alive)
  else ({ s with table := s.was, start := s.root.start, fresh := emptyB s.root.blocks, dirty := false }, 0)
def idsF : List Int → Nat → List Int
  | [], _ => []
  | n :: r, i => if n ≠ 0 then (i : Int) :: idsF r (i + 1) else idsF r (i + 1)
def Sh.ids (s : Sh) : List Int := idsF s.table 0
def Sh.usedN (s : Sh) : Nat := countL s.taken
end Go.Proofs.YtplkndmkchpcdaaGreat.Sh
end
section
namespace Go.Proofs.YtplkndmkchpcdaaGreat.Sh
open Go.RowKit YtplkndmkchpcdaaGreatW.PrintWords MapFn Disk Page Num Bitset
set_option maxHeartbeats 2000000
set_option maxRecDepth 100000
theorem add_block (ad : Addr) (j : Nat) : (ad.add j).block = ad.block := by unfold Addr.add; split <;> rfl
structure In (k : IntKind) (w : World) (A : Option Addr) (l : List Int) (c : Nat) : Prop where
  reads : Kd.C (Kd.int k) w A l.length l
  room : l.length ≤ c
  lt : ∀ a, A = some a → a.block < w.heap.size
section
variable {k : IntKind} {w w' : World} {A : Option Addr} {l : List Int} {c : Nat}
theorem In.moves {s : List Nat} (h : In k w A l c) (hm : Moves s w w') (ho : ∀ a, A = some a → ¬ a.block ∈ s) : In k w' A l c := by
  refine ⟨?_, h.room, fun a ha => Nat.lt_of_lt_of_le (h.lt a ha) hm.size⟩
  cases A with
  | none =>
    cases l with
    | nil => exact Kd.C_nil _ _
    | cons x r =>
      obtain ⟨ad, e, _⟩ := Kd.at_int h.reads 0 (by omega) (by simp only [List.length_cons]; omega)
      cases e
  | some ad =>
    refine Kd.C_of_reads (enc := Value.int k) (d := (0 : Int)) (h1 := fun _ => rfl) ⟨rfl, h.reads.2.1, fun _ => ⟨_, rfl, fun j hj => ?_⟩⟩
    obtain ⟨ad', e, hc⟩ := Kd.at_int h.reads (j : Int) (by omega) (by omega)
    cases e
    rw [Int.toNat_natCast] at hc
    rw [World.cell?_of_block (hm.block _ (by rw [add_block]; exact h.lt ad rfl) (by rw [add_block]; exact ho ad rfl)), hc]
    simp [rd, List.getD_eq_getElem?_getD]
theorem In.below (h : In k w A l c) (hb : Below w.heap.size w w') : In k w' A l c := h.moves (Moves.of_below hb []) (by simp)
theorem In.nil (k : IntKind) (w : World) : In k w none [] 0 := ⟨Kd.C_nil _ _, Nat.le_refl _, fun a h => by cases h⟩
theorem In.inB (h : In .u8 w A l c) : InB w A l c := ⟨h.reads, h.room⟩
theorem In.of_own {e : TypeId} {base : Nat} {ok : Nat → Prop} {v : Value} (h : Kd.R (Kd.int k) e w base ok v l) : ∃ A c, v = .slice A l.length c ∧ In k w A l c ∧ ∀ a, A = some a → base ≤ a.block := by
  have hl := Kd.R_lt h
  have hb := Kd.R_base h
  obtain ⟨A, c, rfl, hc, hr⟩ := Kd.R_reads h
  refine ⟨A, c, rfl, ⟨hr, hc, fun a ha => ?_⟩, fun a ha => ?_⟩
  · subst ha
    exact hl a.block rfl
  · subst ha
    exact hb a.block rfl
end
structure Foot where
  p : Nat
  pd : Nat
  ms : Nat
  ml : Nat
  g : Nat
  cap : Nat
  tA : Option Addr
  tc : Nat
  mA : Option Addr
  mc : Nat
  wA : Option Addr
  wc : Nat
  uA : Option Addr
  uc : Nat
  fA : Option Addr
  fc : Nat
def Foot.own (F : Foot) : List Nat := [F.p, F.pd, F.ms, F.ml, F.g]
def Foot.slices (F : Foot) : List (Option Addr) := [F.tA, F.mA, F.wA, F.uA, F.fA]
def Foot.row (F : Foot) (s : Sh) : Array Value :=
  #[.pointer (some ⟨F.pd, 0, none⟩), .func (.func 88) #[.pointer (some ⟨F.pd, 0, none⟩)] #[], .int .i64 s.root.epoch, .int .i64 s.root.blocks, .int .i64 s.root.next, .int .i64 s.root.start,
    .slice F.tA s.root.tables.length F.tc, .slice F.mA s.root.maps.length F.mc, .slice F.wA s.was.length F.wc, .slice F.uA s.used.length F.uc, .slice (some ⟨F.g, 0, none⟩) s.table.length F.cap,
    .int .i64 s.start, .slice F.fA s.fresh.length F.fc, .bool s.dirty, .bool s.bad]
abbrev Tab (w : World) (g cap : Nat) (l : List Int) : Prop := Kd.R (Kd.int .i64) 3 w 0 (fun _ => True) (.slice (some ⟨g, 0, none⟩) l.length cap) l
structure ShAt (w : World) (F : Foot) (s : Sh) : Prop where
  row : w.heap[F.p]? = some (.cells (F.row s) 73 (0, 0))
  disk : DiskAt w F.pd F.ms F.ml s.D
  tables : In .i64 w F.tA s.root.tables F.tc
  maps : In .i64 w F.mA s.root.maps F.mc
  was : In .i64 w F.wA s.was F.wc
  used : In .u8 w F.uA s.used F.uc
  fresh : In .u8 w F.fA s.fresh F.fc
  table : Tab w F.g F.cap s.table
  ne : F.p ≠ F.pd ∧ F.p ≠ F.ms ∧ F.p ≠ F.ml ∧ F.p ≠ F.g ∧ F.pd ≠ F.g ∧ F.ms ≠ F.g ∧ F.ml ≠ F.g
  off : ∀ A ∈ F.slices, ∀ a, A = some a → ¬ a.block ∈ F.own
structure ShCells (w : World) (F : Foot) (s : Sh) : Prop where
  c0 : w.cell? ⟨F.p, 0, none⟩ = some (.pointer (some ⟨F.pd, 0, none⟩))
  c1 : w.cell? ⟨F.p, 1, none⟩ = some (.func (.func 88) #[.pointer (some ⟨F.pd, 0, none⟩)] #[])
  c2 : w.cell? ⟨F.p, 2, none⟩ = some (.int .i64 s.root.epoch)
  c3 : w.cell? ⟨F.p, 3, none⟩ = some (.int .i64 s.root.blocks)
  c4 : w.cell? ⟨F.p, 4, none⟩ = some (.int .i64 s.root.next)
  c5 : w.cell? ⟨F.p, 5, none⟩ = some (.int .i64 s.root.start)
  c6 : w.cell? ⟨F.p, 6, none⟩ = some (.slice F.tA s.root.tables.length F.tc)
  c7 : w.cell? ⟨F.p, 7, none⟩ = some (.slice F.mA s.root.maps.length F.mc)
  c8 : w.cell? ⟨F.p, 8, none⟩ = some (.slice F.wA s.was.length F.wc)
  c9 : w.cell? ⟨F.p, 9, none⟩ = some (.slice F.uA s.used.length F.uc)
  c10 : w.cell? ⟨F.p, 10, none⟩ = some (.slice (some ⟨F.g, 0, none⟩) s.table.length F.cap)
  c11 : w.cell? ⟨F.p, 11, none⟩ = some (.int .i64 s.start)
  c12 : w.cell? ⟨F.p, 12, none⟩ = some (.slice F.fA s.fresh.length F.fc)
  c13 : w.cell? ⟨F.p, 13, none⟩ = some (.bool s.dirty)
  c14 : w.cell? ⟨F.p, 14, none⟩ = some (.bool s.bad)
section
variable {w w' : World} {F F' : Foot} {s s' : Sh}
theorem ShAt.cells (h : ShAt w F s) : ShCells w F s := by
  constructor <;> (rw [cell_of h.row]; rfl)
theorem ShAt.free_ (h : ShAt w F s) (i : Nat) : w.frozen? ⟨F.p, i, none⟩ = false := free_of h.row
structure Goes0 (F F' : Foot) (w w' : World) : Prop where
  p : F'.p = F.p
  pd : F'.pd = F.pd
  ms : F'.ms = F.ms
  own : ∀ x ∈ F'.own, x ∈ F.own ∨ w.heap.size ≤ x
  moves : Moves F.own w w'
def Sl (n : Nat) (F F' : Foot) : Prop := ∀ A ∈ F'.slices, A ∈ F.slices ∨ ∀ a, A = some a → n ≤ a.block
structure Goes (F F' : Foot) (w w' : World) : Prop extends Goes0 F F' w w' where
  sl : Sl w.heap.size F F'
theorem Sl.refl (n : Nat) (F : Foot) : Sl n F F := fun _ h => .inl h
theorem Sl.trans {n : Nat} {F'' : Foot} (h : Sl n F F') (k : Sl n F' F'') : Sl n F F'' := fun A hA => by
  rcases k A hA with q | q
  · exact h A q
  · exact .inr q
theorem Sl.mono {n m : Nat} (h : Sl n F F') (hm : m ≤ n) : Sl m F F' := fun A hA => by
  rcases h A hA with q | q
  · exact .inl q
  · exact .inr fun a ha => Nat.le_trans hm (q a ha)
theorem Goes0.trans {F'' : Foot} {w'' : World} (h : Goes0 F F' w w') (k : Goes0 F' F'' w' w'') : Goes0 F F'' w w'' := by
  refine ⟨k.p.trans h.p, k.pd.trans h.pd, k.ms.trans h.ms, fun x hx => ?_, ?_⟩
  · rcases k.own x hx with h1 | h1
    · exact h.own x h1
    · exact .inr (Nat.le_trans h.moves.size h1)
  · refine ⟨k.moves.os.trans h.moves.os, k.moves.tape.trans h.moves.tape, k.moves.output.trans h.moves.output, Nat.le_trans h.moves.size k.moves.size, fun i hi hn => ?_⟩
    rw [k.moves.block i (Nat.lt_of_lt_of_le hi h.moves.size) (fun hm => by rcases h.own i hm with h1 | h1; exact hn h1; omega), h.moves.block i hi hn]
theorem Goes.refl (F : Foot) (w : World) : Goes F F w w := ⟨⟨rfl, rfl, rfl, fun x h => .inl h, Moves.refl _ _⟩, Sl.refl _ _⟩
theorem Goes.close {F'' : Foot} {w'' : World} (h : Goes F F' w w') (k : Goes0 F' F'' w' w'') (sl : Sl w.heap.size F' F'') : Goes F F'' w w'' := ⟨h.toGoes0.trans k, h.sl.trans sl⟩
theorem Goes.trans {F'' : Foot} {w'' : World} (h : Goes F F' w w') (k : Goes F' F'' w' w'') : Goes F F'' w w'' := h.close k.toGoes0 (k.sl.mono h.moves.size)
theorem Goes.below (hb : Below w.heap.size w w') : Goes F F w w' := ⟨⟨rfl, rfl, rfl, fun x h => .inl h, Moves.of_below hb _⟩, Sl.refl _ _⟩
theorem tab_lt {g cap : Nat} {l : List Int} (h : Tab w g cap l) : g < w.heap.size := Kd.R_lt h g rfl
theorem tab_moves {g cap : Nat} {l : List Int} {b : List Nat} (h : Tab w g cap l) (hm : Moves b w w') (hg : ¬ g ∈ b) : Tab w' g cap l := by
  have hlt := tab_lt h
  have ho : (Kd.int .i64).R 3 w 0 (fun k => k = g) (.slice (some ⟨g, 0, none⟩) l.length cap) l := Kd.R_of_own (enc := Value.int .i64) (h1 := fun _ => rfl) (Kd.own_of_R (enc := Value.int .i64) (h1 := fun _ => rfl) h) (fun k hk => by simpa [Value.ownBlock] using hk.symm)
  refine Kd.R_mono (Kd.R_move ho ?_) (fun _ _ => trivial)
  intro k hk
  rw [hk]
  exact hm.block g hlt hg
structure Kept (w : World) (F : Foot) (s : Sh) : Prop where
  tables : In .i64 w F.tA s.root.tables F.tc
  maps : In .i64 w F.mA s.root.maps F.mc
  was : In .i64 w F.wA s.was F.wc
  used : In .u8 w F.uA s.used F.uc
  fresh : In .u8 w F.fA s.fresh F.fc
theorem ShAt.kept {b : List Nat} (h : ShAt w F s) (hm : Moves b w w') (hb : ∀ x ∈ b, x ∈ F.own ∨ w.heap.size ≤ x) : Kept w' F s := by
  have q : ∀ A ∈ F.slices, (∀ a, A = some a → a.block < w.heap.size) → ∀ a, A = some a → ¬ a.block ∈ b := by
    intro A hA hlt a ha hm
    rcases hb _ hm with h1 | h1
    · exact h.off A hA a ha h1
    · have := hlt a ha
      omega
  exact ⟨h.tables.moves hm (q _ (by simp [Foot.slices]) h.tables.lt), h.maps.moves hm (q _ (by simp [Foot.slices]) h.maps.lt), h.was.moves hm (q _ (by simp [Foot.slices]) h.was.lt), h.used.moves hm (q _ (by simp [Foot.slices]) h.used.lt), h.fresh.moves hm (q _ (by simp [Foot.slices]) h.fresh.lt)⟩
theorem ShAt.lts (h : ShAt w F s) : ∀ x ∈ F.own, x < w.heap.size := by
  intro x hx
  simp only [Foot.own, List.mem_cons, List.not_mem_nil, or_false] at hx
  rcases hx with rfl | rfl | rfl | rfl | rfl
  · exact lt_of_row h.row
  · exact lt_of_row h.disk.row
  · exact h.disk.safe.lt
  · exact h.disk.loose.lt
  · exact tab_lt h.table
theorem ShAt.slice_lt (h : ShAt w F s) : ∀ A ∈ F.slices, ∀ a, A = some a → a.block < w.heap.size := by
  intro A hA
  simp only [Foot.slices, List.mem_cons, List.not_mem_nil, or_false] at hA
  rcases hA with rfl | rfl | rfl | rfl | rfl
  · exact h.tables.lt
  · exact h.maps.lt
  · exact h.was.lt
  · exact h.used.lt
  · exact h.fresh.lt
theorem ShAt.moves {b : List Nat} (h : ShAt w F s) (hm : Moves b w w') (hb : ∀ x ∈ b, w.heap.size ≤ x) : ShAt w' F s := by
  have k := h.kept hm (fun x hx => .inr (hb x hx))
  have q : ∀ x ∈ F.own, ¬ x ∈ b := fun x hx hn => by have := h.lts x hx; have := hb x hn; omega
  refine ⟨(hm.block F.p (h.lts _ (by simp [Foot.own])) (q _ (by simp [Foot.own]))).trans h.row, h.disk.moves hm (q _ (by simp [Foot.own])) (q _ (by simp [Foot.own])) (q _ (by simp [Foot.own])), k.tables, k.maps, k.was, k.used, k.fresh, tab_moves h.table hm (q _ (by simp [Foot.own])), h.ne, h.off⟩
theorem ShAt.below (h : ShAt w F s) (hb : Below w.heap.size w w') : ShAt w' F s := h.moves (Moves.of_below hb []) (by simp)
theorem ShAt.disk_moves {ml' : Nat} {D' : DiskSt} (h : ShAt w F s) (hd : DiskAt w' F.pd F.ms ml' D') (hl : ml' = F.ml ∨ w.heap.size ≤ ml') (hm : Moves [F.pd, F.ms, F.ml] w w') :
    ShAt w' { F with ml := ml' } { s with D := D' } ∧ Goes F { F with ml := ml' } w w' := by
  have hb : ∀ x ∈ [F.pd, F.ms, F.ml], x ∈ F.own ∨ w.heap.size ≤ x := by
    intro x hx
    simp only [List.mem_cons, List.not_mem_nil, or_false] at hx
    left
    simp only [Foot.own, List.mem_cons, List.not_mem_nil, or_false]
    rcases hx with rfl | rfl | rfl <;> simp
  have k := h.kept hm hb
  have hlt := h.lts
  obtain ⟨n1, n2, n3, n4, n5, n6, n7⟩ := h.ne
  have hp := hlt F.p (by simp [Foot.own])
  have hg := hlt F.g (by simp [Foot.own])
  refine ⟨⟨(hm.block F.p hp (by simp [n1, n2, n3])).trans h.row, hd, k.tables, k.maps, k.was, k.used, k.fresh, tab_moves h.table hm (by simp; exact ⟨Ne.symm n5, Ne.symm n6, Ne.symm n7⟩), ⟨n1, n2, ?_, n4, n5, n6, ?_⟩, ?_⟩, ⟨rfl, rfl, rfl, ?_, hm.more hb⟩, fun A hA => .inl hA⟩
  · rcases hl with rfl | hl
    · exact n3
    · show F.p ≠ ml'
      omega
  · rcases hl with rfl | hl
    · exact n7
    · show ml' ≠ F.g
      omega
  · intro A hA a ha hmem
    have h1 := h.off A hA a ha
    have h2 := h.slice_lt A hA a ha
    simp only [Foot.own, List.mem_cons, List.not_mem_nil, or_false] at hmem h1
    rcases hmem with e | e | e | e | e
    · exact h1 (.inl e)
    · exact h1 (.inr (.inl e))
    · exact h1 (.inr (.inr (.inl e)))
    · rcases hl with rfl | hl
      · exact h1 (.inr (.inr (.inr (.inl e))))
      · omega
    · exact h1 (.inr (.inr (.inr (.inr e))))
  · intro x hx
    simp only [Foot.own, List.mem_cons, List.not_mem_nil, or_false] at hx
    rcases hx with rfl | rfl | rfl | rfl | rfl
    · left; simp [Foot.own]
    · left; simp [Foot.own]
    · left; simp [Foot.own]
    · rcases hl with rfl | hl
      · left; simp [Foot.own]
      · right; exact hl
    · left; simp [Foot.own]
theorem ShAt.turn (h : ShAt w F s) (hm : Moves [F.p] w w') (hr : w'.heap[F.p]? = some (.cells (F'.row s') 73 (0, 0))) (ho : F'.own = F.own) (hc : F'.cap = F.cap) (hD : s'.D = s.D) (ht : s'.table = s.table)
    (hk : Kept w' F' s') (hoff : ∀ A ∈ F'.slices, A ∈ F.slices ∨ ∀ a, A = some a → w.heap.size ≤ a.block) : ShAt w' F' s' ∧ Goes F F' w w' := by
  have ho' := ho
  simp only [Foot.own, List.cons.injEq, and_true] at ho'
  obtain ⟨e1, e2, e3, e4, e5⟩ := ho'
  obtain ⟨n1, n2, n3, n4, n5, n6, n7⟩ := h.ne
  refine ⟨⟨by rw [e1]; exact hr, ?_, hk.tables, hk.maps, hk.was, hk.used, hk.fresh, ?_, by rw [e1, e2, e3, e4, e5]; exact h.ne, ?_⟩, ⟨e1, e2, e3, fun x hx => .inl (by rw [← ho]; exact hx), hm.more (fun x hx => by simp only [List.mem_singleton] at hx; subst hx; left; simp [Foot.own])⟩, hoff⟩
  · rw [e2, e3, e4, hD]
    exact h.disk.moves hm (by simpa using Ne.symm n1) (by simpa using Ne.symm n2) (by simpa using Ne.symm n3)
  · rw [e5, hc, ht]
    exact tab_moves h.table hm (by simpa using Ne.symm n4)
  · intro A hA a ha hmem
    rw [ho] at hmem
    rcases hoff A hA with h1 | h1
    · exact h.off A h1 a ha hmem
    · have := h1 a ha
      have := h.lts _ hmem
      omega
end
end Go.Proofs.YtplkndmkchpcdaaGreat.Sh
end
section
namespace Go.Proofs.YtplkndmkchpcdaaGreat.Sh
open Go.RowKit YtplkndmkchpcdaaGreatW.PrintWords MapFn Disk Bitset
set_option maxHeartbeats 4000000
set_option maxRecDepth 100000
theorem tab_cell {w : World} {g cap : Nat} {l : List Int} (h : Tab w g cap l) (j : Nat) (hj : j < l.length) : w.cell? ⟨g, j, none⟩ = some (.int .i64 (l.getD j 0)) ∧ w.frozen? ⟨g, j, none⟩ = false := by
  obtain ⟨h1, h2⟩ := Kd.R_cell (enc := Value.int .i64) (h1 := fun _ => rfl) (0 : Int) h (j : Int) (by omega) (by omega)
  rw [Int.toNat_natCast] at h1 h2
  refine ⟨?_, h2⟩
  rw [h1]
  simp [rdOf]
theorem tab_max {w : World} {g cap : Nat} {l : List Int} (h : Tab w g cap l) : l.length ≤ cap ∧ l.length ≤ 9223372036854775807 := ⟨(Kd.R_reads' h).2.1, Kd.C_max (Kd.R_reads' h).2.2⟩
section
variable {w : World} {F : Foot} {s s' : Sh}
theorem ShAt.set (h : ShAt w F s) (i : Nat) (v : Value) (hr : (F.row s).setIfInBounds i v = F.row s') (hD : s'.D = s.D) (ht : s'.table = s.table) (e1 : s'.root.tables = s.root.tables) (e2 : s'.root.maps = s.root.maps) (e3 : s'.was = s.was) (e4 : s'.used = s.used) (e5 : s'.fresh = s.fresh) :
    ShAt (w.setCell ⟨F.p, i, none⟩ v) F s' ∧ Goes F F w (w.setCell ⟨F.p, i, none⟩ v) := by
  have hm := set_moves (w := w) (p := F.p) (i := i) v
  have k := h.kept hm (fun x hx => by simp only [List.mem_singleton] at hx; subst hx; left; simp [Foot.own])
  have hs := set_row (i := i) h.row v
  rw [hr] at hs
  exact h.turn hm hs rfl rfl hD ht ⟨by rw [e1]; exact k.tables, by rw [e2]; exact k.maps, by rw [e3]; exact k.was, by rw [e4]; exact k.used, by rw [e5]; exact k.fresh⟩ (fun A hA => .inl hA)
theorem done_any (e : Int) (h : ShAt w F s) : Calls Tryz.prog 89 #[.pointer (some ⟨F.p, 0, none⟩), .int .i64 e] w fun en w' => en = .returned (.int .i64 e) ∧ ShAt w' F (s.done e) ∧ Goes F F w w' := by
  have c14 := h.cells.c14
  have f14 := h.free_ 14
  have HD := Hide.mk (h.set 14 (.bool (s.bad || (e != 0))) (s' := s.done e) rfl rfl rfl rfl rfl rfl rfl rfl)
  clear h
  cases hb : s.bad with
  | true =>
    rw [hb] at c14 HD
    go_enter Tryz.func89, Tryz.ntmps89
    go_wp2
    go_ret
    exact ⟨rfl, HD.out⟩
  | false =>
    rw [hb] at c14 HD
    by_cases he : e = 0
    · subst he
      go_enter Tryz.func89, Tryz.ntmps89
      go_wp2
      go_ret
      exact ⟨rfl, HD.out⟩
    · have q : (e != 0) = true := by simp [he]
      rw [q] at HD
      go_enter Tryz.func89, Tryz.ntmps89
      go_wp2
      go_ret
      exact ⟨rfl, HD.out⟩
theorem alive_any (h : ShAt w F s) : Calls Tryz.prog 63 #[.pointer (some ⟨F.p, 0, none⟩)] w fun en w' => en = .returned (.int .i64 s.alive) ∧ w' = w := by
  have c14 := h.cells.c14
  unfold Sh.alive
  clear h
  cases hb : s.bad with
  | true =>
    rw [hb] at c14
    go_enter Tryz.func63, Tryz.ntmps63
    go_wp2
    go_ret
    exact ⟨rfl, rfl⟩
  | false =>
    rw [hb] at c14
    go_enter Tryz.func63, Tryz.ntmps63
    go_wp2
    go_ret
    exact ⟨rfl, rfl⟩
theorem block_any (id : Int) (h : ShAt w F s) : Calls Tryz.prog 68 #[.pointer (some ⟨F.p, 0, none⟩), .int .i64 id] w fun en w' => en = .returned (.tuple #[.int .i64 (s.block id).1, .int .i64 (s.block id).2]) ∧ w' = w := by
  have HA := Hide.mk (alive_any h)
  have c10 := h.cells.c10
  have HT := Hide.mk h.table
  have hmx := tab_max h.table
  unfold Sh.block
  obtain ⟨a, ha⟩ : ∃ a, s.alive = a := ⟨_, rfl⟩
  rw [ha] at HA ⊢
  clear h ha
  by_cases h0 : a = 0
  · subst h0
    rw [if_neg (by simp)]
    by_cases h1 : id < 1
    · rw [if_pos (.inl h1)]
      go_enter Tryz.func68, Tryz.ntmps68
      go_wp2_with (go_at_call 63; refine HA.out.mono ?_; rintro e w1 ⟨rfl, rfl⟩)
      go_ret2
      exact ⟨rfl, rfl⟩
    · by_cases h2 : (s.table.length : Int) ≤ id
      · rw [if_pos (.inr (.inl h2))]
        go_enter Tryz.func68, Tryz.ntmps68
        go_wp2_with (go_at_call 63; refine HA.out.mono ?_; rintro e w1 ⟨rfl, rfl⟩)
        go_ret2
        exact ⟨rfl, rfl⟩
      · obtain ⟨j, rfl⟩ : ∃ j : Nat, id = (j : Int) := ⟨id.toNat, by omega⟩
        have hj : j < s.table.length := by omega
        obtain ⟨hc, _⟩ := tab_cell HT.out j hj
        rw [Int.toNat_natCast]
        obtain ⟨x, hx⟩ : ∃ x, s.table.getD j 0 = x := ⟨_, rfl⟩
        rw [hx] at hc ⊢
        have h2' : ¬ (s.table.length : Int) ≤ (j : Int) := h2
        have h3 : (j : Int) < (s.table.length : Int) := by omega
        by_cases hx0 : x = 0
        · subst hx0
          rw [if_pos (.inr (.inr rfl))]
          clear hx hj
          go_enter Tryz.func68, Tryz.ntmps68
          go_wp2_with (go_at_call 63; refine HA.out.mono ?_; rintro e w1 ⟨rfl, rfl⟩)
          go_ret2
          exact ⟨rfl, rfl⟩
        · rw [if_neg (by rintro (h | h | h); exact h1 h; exact h2 h; exact hx0 h)]
          have q : (x == 0) = false := by simp [hx0]
          clear hx hj
          go_enter Tryz.func68, Tryz.ntmps68
          go_wp2_with (go_at_call 63; refine HA.out.mono ?_; rintro e w1 ⟨rfl, rfl⟩)
          go_ret2
          exact ⟨rfl, rfl⟩
  · rw [if_pos h0]
    have q : (a != 0) = true := by simp [h0]
    clear h0
    go_enter Tryz.func68, Tryz.ntmps68
    go_wp2_with (go_at_call 63; refine HA.out.mono ?_; rintro e w1 ⟨rfl, rfl⟩)
    go_ret2
    exact ⟨rfl, rfl⟩
end
end Go.Proofs.YtplkndmkchpcdaaGreat.Sh
end
section
namespace Go.Proofs.YtplkndmkchpcdaaGreat.Sh
open Go.RowKit YtplkndmkchpcdaaGreatW.PrintWords YtplkndmkchpcdaaGreatW.PrintLast YtplkndmkchpcdaaGreatW.PrintMore MapFn Disk
theorem infoI : (Tryz.prog.info? 3).map (fun i => (i.zero, i.size, i.bytes)) = some (some (.int .i64 0), 1, 8) := by kernel_rfl
theorem eql_nilI (w : World) (a : Option Addr) (n c n' c' : Nat) : (binOp .eql 38 (.slice a n c) (.slice none n' c')).run Tryz.prog w = .ok (.bool a.isNone) w :=
  Lib.run_eql_slice_nil w _ _ a n c n' c' Tryz.underlying38
set_option maxHeartbeats 2000000 in
set_option maxRecDepth 100000 in
theorem cloneI_any (A0 : Option Addr) (c0 : Nat) (l0 : List Int) (w : World) (hr0 : Kd.C (Kd.int .i64) w A0 l0.length l0) (hc0 : l0.length ≤ c0) (hl : l0.length < 17592186044416) :
    Calls Tryz.prog 73 #[.slice A0 l0.length c0] w fun e w' => ∃ v0_ : Value, e = .returned (v0_) ∧ Kd.R (Kd.int .i64) 3 w' w.heap.size (fun _ => True) v0_ l0 ∧ Below w.heap.size w w' := by
  have HR0 := Aside0.mk hr0
  have HC0 := Aside0.mk hc0
  clear hr0 hc0
  have HB := Aside0.mk (Below.refl w.heap.size w)
  cases A0 with
  | none =>
    have q22 := eql_nilI
    have hz : l0 = [] := by
      cases l0 with
      | nil => rfl
      | cons x xs =>
        obtain ⟨ad, h, _⟩ := Kd.at_int HR0.out 0 (by omega) (by simp only [List.length_cons]; omega)
        cases h
    subst hz
    go_enter Tryz.func73, Tryz.ntmps73
    go_wp2
    go_ret
    exact ⟨_, rfl, Kd.R_nil _ _ _ _ _, Below.refl _ _⟩
  | some a =>
    have q22 := eql_nilI
    have LM := Aside0.mk hl
    clear hl
    obtain ⟨y114, hy114⟩ : ∃ y_ : List Int, y_ = (([] : List Int)) := ⟨_, rfl⟩
    have Ny114 := Aside0.mk hy114
    clear hy114
    have LM2 : Aside0 ((y114.length + l0.length) * 8 < 140737488355328) := ⟨by rw [Ny114.out]; have := LM.out; simp; omega⟩
    obtain ⟨y117, hy117⟩ : ∃ y_ : List Int, y_ = (y114 ++ l0) := ⟨_, rfl⟩
    have Ny117 := Aside0.mk hy117
    clear hy117
    go_enter Tryz.func73, Tryz.ntmps73
    go_wp2_with (first | ((with_reducible refine gate_dst (N := 5) rfl ?_); refine Kd.R_lit (Kd.int .i64) _ 3 ?hg (N := 5) ?hd (xs := ([] : List Int)) (inner := []) (ok := fun _ => True) (okp := fun _ => True) ?hr ?hp (fun _ hk => hk) trivial (Below.refl _ _) (Nat.le_refl _) (by simp) ?_; (case hd => rfl); (case hg => rfl); (case hr => first | (go_simp; done) | (go_simp; rfl)); (case hp => exact (Reps.none _ _)); intro v115 w6 ho7 hb hg_ hnew_; clear hg_ hnew_; rw [← Ny114.out] at ho7; have HO116 := Aside0.mk ho7; clear HB; have HB := Aside0.mk hb; clear hb ho7) | ((with_reducible refine gate_builtin (b := .append) (xs := #[.tmp 5, .tmp 6]) rfl ?_); at_builtin; refine Kd.R_append_rows (Kd.int .i64) (w0 := w) w.heap.size rfl (.tmp 5) (.tmp 6) 38 3 (.int .i64 0) 8 rfl Tryz.underlying38 infoI rfl (by decide) (by omega) v115 y114 l0 _ _ _ (fun _ => True) (fun _ => False) rfl rfl ?aO ?aR (fun _ _ h => h) (fun _ h => h.elim) ?aF ?aB ?aS ?aL ?_; (case aR => exact (Kd.C_below HR0.out HB.out)); (case aB => exact HB.out); (case aF => exact (fun _ _ => trivial)); (case aO => exact HO116.out); (case aS => exact (below_size HB.out)); (case aL => have := LM2.out; omega); intro v118 w8 ho hb hg hat; rw [← Ny117.out] at ho; clear HB; clear HO116; have HB := Aside0.mk hb; have HO119 := Aside0.mk ho; clear ho hb hg hat))
    go_ret
    refine ⟨_, rfl, ?_, HB.out⟩
    have e := Ny117.out
    rw [Ny114.out, List.nil_append] at e
    rw [← e]
    exact HO119.out
end Go.Proofs.YtplkndmkchpcdaaGreat.Sh
end
section
namespace Go.Proofs.YtplkndmkchpcdaaGreat.Sh
open Go.RowKit YtplkndmkchpcdaaGreatW.PrintWords YtplkndmkchpcdaaGreatW.PrintLast YtplkndmkchpcdaaGreatW.PrintMore MapFn Disk Bitset
set_option maxHeartbeats 4000000
set_option maxRecDepth 100000
theorem trim_stop {l : List Int} (h : ¬ (1 < l.length ∧ l.getD (l.length - 1) 0 = 0)) : trimL l = l := by
  unfold trimL
  cases hl : l.length with
  | zero => rfl
  | succ k =>
    unfold trimF
    rw [if_neg h]
theorem trim_step {l : List Int} (h1 : 1 < l.length) (h2 : l.getD (l.length - 1) 0 = 0) : trimL l = trimL (l.take (l.length - 1)) := by
  unfold trimL
  have e : (l.take (l.length - 1)).length = l.length - 1 := by rw [List.length_take]; omega
  rw [e]
  conv => lhs; rw [show l.length = (l.length - 1) + 1 by omega]
  unfold trimF
  rw [if_pos ⟨h1, h2⟩]
  have : l.length - 1 = (l.length - 1 - 1) + 1 := by omega
  conv => rhs; rw [this]
  conv => lhs; rw [this]
  rfl
section
variable {w w' : World} {F : Foot} {s : Sh}
theorem ShAt.new_table (h : ShAt w F s) (g1 cap1 : Nat) (l' : List Int) (d : Bool) (hm : Moves [F.p, F.g] w w') (hr : w'.heap[F.p]? = some (.cells (({ F with g := g1, cap := cap1 } : Foot).row { s with table := l', dirty := d }) 73 (0, 0)))
    (hT : Tab w' g1 cap1 l') (hg : g1 = F.g ∨ w.heap.size ≤ g1) : ShAt w' { F with g := g1, cap := cap1 } { s with table := l', dirty := d } ∧ Goes F { F with g := g1, cap := cap1 } w w' := by
  have hb : ∀ x ∈ [F.p, F.g], x ∈ F.own ∨ w.heap.size ≤ x := by
    intro x hx
    simp only [List.mem_cons, List.not_mem_nil, or_false] at hx
    left
    rcases hx with rfl | rfl <;> simp [Foot.own]
  have k := h.kept hm hb
  have hlt := h.lts
  obtain ⟨n1, n2, n3, n4, n5, n6, n7⟩ := h.ne
  have l1 := hlt F.p (by simp [Foot.own])
  have l2 := hlt F.pd (by simp [Foot.own])
  have l3 := hlt F.ms (by simp [Foot.own])
  have l4 := hlt F.ml (by simp [Foot.own])
  refine ⟨⟨hr, h.disk.moves hm (by simp; exact ⟨Ne.symm n1, n5⟩) (by simp; exact ⟨Ne.symm n2, n6⟩) (by simp; exact ⟨Ne.symm n3, n7⟩), k.tables, k.maps, k.was, k.used, k.fresh, hT, ⟨n1, n2, n3, ?_, ?_, ?_, ?_⟩, ?_⟩, ⟨rfl, rfl, rfl, ?_, hm.more hb⟩, fun A hA => .inl hA⟩
  · rcases hg with rfl | hg
    · exact n4
    · show F.p ≠ g1
      omega
  · rcases hg with rfl | hg
    · exact n5
    · show F.pd ≠ g1
      omega
  · rcases hg with rfl | hg
    · exact n6
    · show F.ms ≠ g1
      omega
  · rcases hg with rfl | hg
    · exact n7
    · show F.ml ≠ g1
      omega
  · intro A hA a ha hmem
    have h1 := h.off A hA a ha
    have h2 := h.slice_lt A hA a ha
    simp only [Foot.own, List.mem_cons, List.not_mem_nil, or_false] at hmem h1
    rcases hmem with e | e | e | e | e
    · exact h1 (.inl e)
    · exact h1 (.inr (.inl e))
    · exact h1 (.inr (.inr (.inl e)))
    · exact h1 (.inr (.inr (.inr (.inl e))))
    · rcases hg with rfl | hg
      · exact h1 (.inr (.inr (.inr (.inr e))))
      · omega
  · intro x hx
    simp only [Foot.own, List.mem_cons, List.not_mem_nil, or_false] at hx
    rcases hx with rfl | rfl | rfl | rfl | rfl
    · left; simp [Foot.own]
    · left; simp [Foot.own]
    · left; simp [Foot.own]
    · left; simp [Foot.own]
    · rcases hg with rfl | hg
      · left; simp [Foot.own]
      · right; exact hg
theorem ShAt.pushed {w1 : World} {v1 : Value} (h : ShAt w F s) (ho : Kd.R (Kd.int .i64) 3 w1 0 (fun _ => True) v1 (s.table ++ [0])) (hg : w.grownBy w1 (some F.g)) (hat : v1.ownBlock = some F.g ∨ ∃ b, v1.ownBlock = some b ∧ w.heap.size ≤ b) :
    ∃ g1 cap1, v1 = .slice (some ⟨g1, 0, none⟩) (s.table.length + 1) cap1 ∧ w1.cell? ⟨F.p, 10, none⟩ = some (.slice (some ⟨F.g, 0, none⟩) s.table.length F.cap) ∧ w1.frozen? ⟨F.p, 10, none⟩ = false ∧
      ShAt (w1.setCell ⟨F.p, 10, none⟩ (.slice (some ⟨g1, 0, none⟩) (s.table.length + 1) cap1)) { F with g := g1, cap := cap1 } { s with table := s.table ++ [0] } ∧
      Goes F { F with g := g1, cap := cap1 } w (w1.setCell ⟨F.p, 10, none⟩ (.slice (some ⟨g1, 0, none⟩) (s.table.length + 1) cap1)) := by
  obtain ⟨g1, cap1, he, _, _, _⟩ := Kd.R_form ho (by simp)
  have hn : (s.table ++ [(0 : Int)]).length = s.table.length + 1 := by simp
  rw [hn] at he
  subst he
  have hpg : F.p ≠ F.g := h.ne.2.2.2.1
  have row1 := (hg.block F.p (lt_of_row h.row) (by simpa using hpg)).trans h.row
  have hs := set_row (i := 10) row1 (.slice (some ⟨g1, 0, none⟩) (s.table.length + 1) cap1)
  have hm : Moves [F.p, F.g] w (w1.setCell ⟨F.p, 10, none⟩ (.slice (some ⟨g1, 0, none⟩) (s.table.length + 1) cap1)) := ((Moves.of_grown hg).more (by simp)).trans ((set_moves (i := 10) _).more (by simp))
  have hgg : g1 = F.g ∨ w.heap.size ≤ g1 := by
    rcases hat with e | ⟨b, e, hb⟩
    · exact .inl (Option.some.inj e)
    · cases Option.some.inj e; exact .inr hb
  have hgp : F.p ≠ g1 := by
    have := lt_of_row h.row
    rcases hgg with rfl | hgg
    · exact hpg
    · omega
  have hT : Tab (w1.setCell ⟨F.p, 10, none⟩ (.slice (some ⟨g1, 0, none⟩) (s.table.length + 1) cap1)) g1 cap1 (s.table ++ [0]) := by
    refine tab_moves (b := [F.p]) ?_ (set_moves (i := 10) _) (by simpa using Ne.symm hgp)
    show Kd.R _ _ _ _ _ (.slice _ (s.table ++ [0]).length _) _
    rw [hn]
    exact ho
  have hd : ({ s with table := s.table ++ [0], dirty := s.dirty } : Sh) = { s with table := s.table ++ [0] } := rfl
  have := h.new_table g1 cap1 (s.table ++ [0]) s.dirty hm (by
    rw [hs]
    unfold Foot.row
    simp) hT hgg
  exact ⟨g1, cap1, rfl, cell_of row1, free_of row1, this.1, this.2⟩
theorem ShAt.stored (h : ShAt w F s) (j : Nat) (hj : j < s.table.length) (n : Int) : ShAt (w.setCell ⟨F.g, j, none⟩ (.int .i64 n)) F { s with table := s.table.set j n } ∧ Goes F F w (w.setCell ⟨F.g, j, none⟩ (.int .i64 n)) := by
  obtain ⟨h1, h2⟩ := Kd.R_put (enc := Value.int .i64) (h1 := fun _ => rfl) h.table (j : Int) n
  rw [Int.toNat_natCast] at h1 h2
  have hpg : F.p ≠ F.g := h.ne.2.2.2.1
  have := h.new_table F.g F.cap (s.table.set j n) s.dirty ((Moves.of_grown h2).more (by simp)) (by
    rw [h2.block F.p (lt_of_row h.row) (by simpa using hpg), h.row]
    unfold Foot.row
    simp) (by
    show Kd.R _ _ _ _ _ (.slice _ (s.table.set j n).length _) _
    rw [List.length_set]
    exact h1) (.inl rfl)
  exact this
theorem ShAt.cut (h : ShAt w F s) (j : Nat) (hj : j ≤ s.table.length) : ShAt (w.setCell ⟨F.p, 10, none⟩ (.slice (some ⟨F.g, 0, none⟩) j F.cap)) F { s with table := s.table.take j } ∧ Goes F F w (w.setCell ⟨F.p, 10, none⟩ (.slice (some ⟨F.g, 0, none⟩) j F.cap)) := by
  have hpg : F.p ≠ F.g := h.ne.2.2.2.1
  have hs := set_row (i := 10) h.row (.slice (some ⟨F.g, 0, none⟩) j F.cap)
  have hl : (s.table.take j).length = j := by rw [List.length_take]; omega
  have := h.new_table F.g F.cap (s.table.take j) s.dirty ((set_moves (w := w) (p := F.p) (i := 10) (.slice (some ⟨F.g, 0, none⟩) j F.cap)).more (by simp)) (by
    rw [hs]
    unfold Foot.row
    simp only [hl]
    simp) (by
    have h1 := Kd.R_take h.table hj
    refine tab_moves (b := [F.p]) ?_ (set_moves (i := 10) _) (by simpa using Ne.symm hpg)
    show Kd.R _ _ _ _ _ (.slice _ (s.table.take j).length _) _
    rw [hl]
    exact h1) (.inl rfl)
  exact this
end
def tlen (w : World) (p : Nat) : Nat := match w.cell? ⟨p, 10, none⟩ with | some (.slice _ n _) => n | _ => 0
theorem tlen_eq {w : World} {F : Foot} {s : Sh} (h : ShAt w F s) : tlen w F.p = s.table.length := by unfold tlen; rw [h.cells.c10]
theorem shput_any (id : Nat) (n : Int) (w : World) (F : Foot) (s : Sh) (h : ShAt w F s) (hid : id ≤ 5000) (hl : s.table.length ≤ 5000) (h0 : 0 < s.table.length) :
    Calls Tryz.prog 69 #[.pointer (some ⟨F.p, 0, none⟩), .int .i64 (id : Int), .int .i64 n] w fun en w' => en = .returned (.tuple #[]) ∧ ∃ F', ShAt w' F' (s.put id n) ∧ Goes F F' w w' := by
  have HS := Hide.mk h
  have HI := Hide.mk (show id ≤ 5000 ∧ s.table.length ≤ 5000 ∧ 0 < s.table.length from ⟨hid, hl, h0⟩)
  clear h hid hl h0
  go_enter Tryz.func69, Tryz.ntmps69
  go_wp2
  go_loopw [7] (fun _ wr => ∃ (k : Nat) (F1 : Foot), Hide (k ≤ id + 1 - s.table.length) ∧ Hide (ShAt wr F1 { s with table := s.table ++ List.replicate k 0 }) ∧ Hide (Goes F F1 w wr)) (fun _ wr => id + 1 - tlen wr F.p)
  case atStart => exact ⟨0, F, ⟨Nat.zero_le _⟩, ⟨by simpa using HS.out⟩, ⟨Goes.refl _ _⟩⟩
  case round =>
    obtain ⟨k, F1, hk, hS1, hG1⟩ := hrel
    clear HS
    have ep := hG1.out.p
    have c10 := hS1.out.cells.c10
    rw [ep] at c10
    have hlen : (s.table ++ List.replicate k (0 : Int)).length = s.table.length + k := by simp
    obtain ⟨N, hN⟩ : ∃ N, (s.table ++ List.replicate k (0 : Int)).length = N := ⟨_, rfl⟩
    have c10' : wr.cell? ⟨F.p, 10, none⟩ = some (.slice (some ⟨F1.g, 0, none⟩) N F1.cap) := by rw [← hN]; exact c10
    clear c10
    have HN := Hide.mk hN
    have HL := Hide.mk hlen
    have hi := HI.out
    have hNb : N ≤ 10001 := by have := hk.out; omega
    by_cases hlt0 : N ≤ id
    · have hlt : (N : Int) ≤ (id : Int) := by omega
      have LT := Hide.mk hlt0
      have HO := Hide.mk hS1.out.table
      have hO2 : Hide (Kd.R (Kd.int .i64) 3 wr 0 (fun _ => True) (.slice (some ⟨F1.g, 0, none⟩) N F1.cap) (s.table ++ List.replicate k 0)) := ⟨by rw [← hN]; exact hS1.out.table⟩
      clear hN hlen hlt0
      go_wp2_with ((with_reducible refine gate_builtin (b := .append) (xs := #[.tmp 20, .tmp 21]) rfl ?_); at_builtin
                   refine Kd.R_append (Kd.int .i64) (w0 := wr) 0 rfl (.tmp 20) (.tmp 21) 38 3 (.int .i64 0) 8 rfl Tryz.underlying38 infoI rfl (by decide) (by omega) (.slice (some ⟨F1.g, 0, none⟩) N F1.cap) (s.table ++ List.replicate k 0) 0 [.int .i64 0] (fun _ => True) (fun _ => False) rfl rfl rfl (fun _ h => h.elim) (fun _ _ => trivial) hO2.out (Below.refl _ _) (Nat.zero_le _) (by rw [HN.out]; omega) ?_
                   intro v1 w1 ho hb hg hat
                   obtain ⟨g1, cap1, rfl, c1, f1, hS2, hG2⟩ := hS1.out.pushed ho hg (by simpa [Value.ownBlock] using hat)
                   have ep1 := hG1.out.p
                   rw [show ({ s with table := s.table ++ List.replicate k 0 } : Sh).table.length = N from HN.out] at hS2 hG2 c1 ⊢
                   rw [ep1] at hS2 hG2 c1 f1
                   have S2 := Hide.mk hS2
                   have G2 := Hide.mk (hG1.out.trans hG2)
                   clear ho hb hg hat hS2 hG2 ep1)
      go_roundw
      case rel =>
        refine ⟨k + 1, _, ⟨by have := LT.out; have := HN.out; have := HL.out; omega⟩, ⟨?_⟩, G2⟩
        have h := S2.out
        have e : s.table ++ List.replicate (k + 1) (0 : Int) = (s.table ++ List.replicate k 0) ++ [0] := by rw [List.replicate_succ', List.append_assoc]
        rw [e]
        exact h
      case measure =>
        have t1 := tlen_eq hS1.out
        have t2 := tlen_eq S2.out
        have q1 := hG1.out.p
        have q2 := G2.out.p
        rw [q1] at t1
        rw [q2] at t2
        rw [t1, t2]
        have := HN.out
        have := LT.out
        simp only [List.length_append, List.length_cons, List.length_nil] at *
        omega
    · have hkk : k = id + 1 - s.table.length := by have := hk.out; omega
      have hpad : s.table ++ List.replicate k (0 : Int) = padL s.table id := by unfold padL; rw [hkk]
      rw [hpad] at hS1
      have hNp : (padL s.table id).length = N := by rw [← hpad]; exact hN
      have hidN : id < (padL s.table id).length := by rw [hNp]; omega
      obtain ⟨t1, t2⟩ := tab_cell hS1.out.table id hidN
      have S3 := Hide.mk (hS1.out.stored id hidN n)
      have G3 := Hide.mk (hG1.out.trans S3.out.2)
      have c10 := S3.out.1.cells.c10
      have hNq : ((padL s.table id).set id n).length = N := by rw [List.length_set]; exact hNp
      have c10'' : (wr.setCell ⟨F1.g, id, none⟩ (.int .i64 n)).cell? ⟨F.p, 10, none⟩ = some (.slice (some ⟨F1.g, 0, none⟩) N F1.cap) := by rw [← ep, ← hNq]; exact c10
      obtain ⟨q0, hq0⟩ : ∃ q, N = q + 1 := ⟨N - 1, by have := hi.2.2; omega⟩
      subst hq0
      have hgt : (id : Int) < ((q0 + 1 : Nat) : Int) := by omega
      have b0 : ((q0 : Nat) : Int) ≤ 10001 := by omega
      obtain ⟨T0, hT0⟩ : ∃ T, (padL s.table id).set id n = T := ⟨_, rfl⟩
      have TT := Hide.mk hT0
      rw [hT0] at S3 hNq
      have HQ := Hide.mk hNq
      have hnle : ¬ ((q0 + 1 : Nat) : Int) ≤ (id : Int) := by omega
      clear hkk hpad hNp hidN hN hlen c10 hT0 hNq hlt0
      go_wp2
      have hs1 : ((q0 + 1 : Nat) : Int) - 1 = (q0 : Int) := by omega
      go_loopw [6] (fun v6 wr2 => ∃ (q : Nat) (cur : List Int), v6 = .int .i64 (q : Int) ∧ Hide (cur.length = q + 1 ∧ q ≤ 10001) ∧ Hide (trimL cur = trimL T0) ∧ Hide (ShAt wr2 F1 { s with table := cur }) ∧ Hide (Goes F F1 w wr2)) (fun v6 _ => (intOf v6).toNat)
      case atStart => exact ⟨q0, T0, by first | rfl | (simp; done) | (simp; omega), ⟨HQ.out, by omega⟩, ⟨rfl⟩, ⟨S3.out.1⟩, G3⟩
      case round =>
        clear c10'' t1 t2 c10' hgt hnle hs1 b0
        obtain ⟨q, cur, rfl, hc, htr, hS4, hG4⟩ := hrel
        have ep4 := hG4.out.p
        have c10 := hS4.out.cells.c10
        have c10' : wr.cell? ⟨F.p, 10, none⟩ = some (.slice (some ⟨F1.g, 0, none⟩) (q + 1) F1.cap) := by rw [← ep4, ← hc.out.1]; exact c10
        have f10 : wr.frozen? ⟨F.p, 10, none⟩ = false := by rw [← ep4]; exact hS4.out.free_ 10
        have f13 : wr.frozen? ⟨F.p, 13, none⟩ = false := by rw [← ep4]; exact hS4.out.free_ 13
        have c13 : wr.cell? ⟨F.p, 13, none⟩ = some (.bool s.dirty) := by rw [← ep4]; exact hS4.out.cells.c13
        obtain ⟨t1, t2⟩ := tab_cell hS4.out.table q (by show q < cur.length; rw [hc.out.1]; omega)
        have hqb := hc.out.2
        have hcap : q + 1 ≤ F1.cap := by have := (tab_max hS4.out.table).1; have := hc.out.1; simp at *; omega
        have hcm := (tab_max hS4.out.table).2
        obtain ⟨x, hx⟩ : ∃ x, cur.getD q 0 = x := ⟨_, rfl⟩
        have t1' : wr.cell? ⟨F1.g, q, none⟩ = some (.int .i64 x) := by rw [← hx]; exact t1
        have HX := Hide.mk hx
        have FIN := Hide.mk (hS4.out.set 13 (.bool true) (s' := { s with table := cur, dirty := true }) rfl rfl rfl rfl rfl rfl rfl rfl)
        rw [ep4] at FIN
        clear t1 c10 hx
        by_cases hq : 0 < q
        · have hqi : (0 : Int) < (q : Int) := by omega
          by_cases hx0 : x = 0
          · subst hx0
            have CUT := Hide.mk (hS4.out.cut q (by show q ≤ cur.length; rw [hc.out.1]; omega))
            rw [ep4] at CUT
            have HQ2 := Hide.mk hq
            clear hq
            go_wp2
            go_roundw
            case rel =>
              refine ⟨q - 1, cur.take q, by have := HQ2.out; first | (go_num; done) | (congr 1; omega) | (simp; omega), ⟨by have := HQ2.out; have := hc.out.1; rw [List.length_take]; omega⟩, ⟨?_⟩, ⟨CUT.out.1⟩, ⟨hG4.out.trans CUT.out.2⟩⟩
              rw [← htr.out, trim_step (l := cur) (by have := HQ2.out; have := hc.out.1; omega) (by rw [hc.out.1]; simpa using HX.out), hc.out.1]
              rfl
            case measure => have := HQ2.out; simp [intOf]; omega
          · have hxq : (x == 0) = false := by simp [hx0]
            have HX0 := Hide.mk hx0
            clear hx0 hq
            go_wp2
            go_end0
            refine ⟨rfl, F1, ?_, hG4.out.trans FIN.out.2⟩
            have e : trimL T0 = cur := by rw [← htr.out]; exact trim_stop (fun h => HX0.out (by rw [← HX.out]; have := h.2; rw [hc.out.1] at this; simpa using this))
            have h := FIN.out.1
            rw [← e, ← TT.out] at h
            exact h
        · have hq0 : q = 0 := by omega
          subst hq0
          clear hq
          go_wp2
          go_end0
          refine ⟨rfl, F1, ?_, hG4.out.trans FIN.out.2⟩
          have e : trimL T0 = cur := by rw [← htr.out]; exact trim_stop (fun h => by have := h.1; rw [hc.out.1] at this; omega)
          have h := FIN.out.1
          rw [← e, ← TT.out] at h
          exact h
end Go.Proofs.YtplkndmkchpcdaaGreat.Sh
end
section
namespace Go.Proofs.YtplkndmkchpcdaaGreat.Sh
open Go.RowKit YtplkndmkchpcdaaGreatW.PrintWords YtplkndmkchpcdaaGreatW.PrintLast YtplkndmkchpcdaaGreatW.PrintMore MapFn Disk Bitset
set_option maxHeartbeats 4000000
set_option maxRecDepth 100000
theorem firstN_bound (l : List Int) : ∀ (d n : Nat), (firstN l d n).2 = true → (n : Int) ≤ (firstN l d n).1 ∧ (firstN l d n).1 < ((n + d : Nat) : Int)
  | 0, n, h => by cases h
  | d + 1, n, h => by
    unfold firstN at h ⊢
    split at h
    · rename_i c
      rw [if_pos c]
      have := firstN_bound l d (n + 1) h
      omega
    · rename_i c
      rw [if_neg c]
      simp only
      omega
theorem firstL_bound (l : List Int) (i : Int) (h0 : 0 ≤ i) (h : (firstL l i).2 = true) : i ≤ (firstL l i).1 ∧ (firstL l i).1 < 8 * (l.length : Int) := by
  unfold firstL at h ⊢
  have h1 := firstN_bound l (8 * l.length - i.toNat) i.toNat h
  rcases Nat.lt_or_ge i.toNat (8 * l.length) with c | c
  · omega
  · rw [show 8 * l.length - i.toNat = 0 by omega] at h
    cases h
structure Ok (s : Sh) : Prop where
  used : s.used.length ≤ 512 ∧ Bytes s.used
  fresh : s.fresh.length ≤ 512 ∧ Bytes s.fresh
  table : 0 < s.table.length ∧ s.table.length ≤ 3001 ∧ ∀ n ∈ s.table, 0 ≤ n ∧ n < 4096
  was : 0 < s.was.length ∧ s.was.length ≤ 3001 ∧ ∀ n ∈ s.was, 0 ≤ n ∧ n < 4096
  blocks : 0 ≤ s.root.blocks ∧ s.root.blocks ≤ 4096
  epoch : 0 ≤ s.root.epoch ∧ s.root.epoch ≤ 1099511627776
  tabs : s.root.tables.length ≤ 1000 ∧ s.root.maps.length ≤ 1000
theorem Ok.taken {s : Sh} (h : Ok s) : s.taken.length ≤ 512 ∧ Bytes s.taken := by
  unfold Sh.taken
  exact ⟨by rw [Given.joinL_length]; have := h.used.1; have := h.fresh.1; omega, joinL_bytes (fun x y hx hy => or_byte hx hy) h.used.2 h.fresh.2⟩
def T65_1 : Bool × List (List Nat × List Nat) := (true, [([], []), ([0], [0]), ([1], [1]), ([2], [2]), ([], []), ([4], [4]), ([5], [5]), ([6], [6]), ([7], [7]), ([3, 8], [3, 8]), ([9, 9, 0, 1, 2, 3, 4, 5, 6, 7, 8, 9], [9])])
def B65_1 : List Nat := [0, 1, 3, 7, 0, 16, 48, 112, 240, 511, 1023]
theorem tab65_1 : rtab .any (opsOf Tryz.f65 1) = T65_1 := by kernel_rfl
theorem bits65_1 : waitsOk T65_1.2 B65_1 = true := by kernel_rfl
theorem lowest_any (n : Nat) (hn : n ≤ 1000) (F : Foot) (s : Sh) (w : World) (h : ShAt w F s) (hk : Ok s) :
    Calls Tryz.prog 65 #[.pointer (some ⟨F.p, 0, none⟩), .int .i64 (n : Int)] w fun e w' => ∃ v, e = .returned (.tuple #[v, .bool (s.lowest n).isSome]) ∧ Kd.R (Kd.int .i64) 3 w' w.heap.size (fun _ => True) v ((s.lowest n).getD []) ∧ Below w.heap.size w w' := by
  have HS := Hide.mk (h.below (below_drew (Below.refl w.heap.size w)))
  have KC := HS.out.cells
  have HU := Hide.mk HS.out.used
  have HF := Hide.mk HS.out.fresh
  have HB : Hide (Small s.used ∧ Small s.fresh ∧ True) := ⟨by have := hk.used.1; unfold Small; omega, by have := hk.fresh.1; unfold Small; omega, trivial⟩
  obtain ⟨T, hT⟩ : ∃ T, Given.joinL Given.orB s.used s.fresh = T := ⟨_, rfl⟩
  have HT := Hide.mk hT
  have HTK : Hide (T.length ≤ 512 ∧ Bytes T) := ⟨by have := hk.taken; unfold Sh.taken at this; rw [hT] at this; exact this⟩
  have HN := Hide.mk hn
  have HBL := Hide.mk hk.blocks
  have HLOW : Hide (s.lowest n = lowF T s.root.blocks n 0) := ⟨by unfold Sh.lowest Sh.taken; rw [hT]⟩
  obtain ⟨R, hR⟩ : ∃ R, s.lowest n = R := ⟨_, rfl⟩
  rw [hR] at HLOW ⊢
  clear h hk hn hT hR
  go_enter Tryz.func65, Tryz.ntmps65
  go_wp2
  refine s_ 11 (fun w' => ShCells w' F s) tab65_1 bits65_1 KC (fun hHeld HT_ HW_ => ?_)
  refine p_ 0 11 ?_
  refine p_ 1 12 ?_
  refine p_ 2 13 ?_
  refine t_ 3 14 hHeld ?_ (hy := by
      intro w' hS'
      have s1 := hS'.c9
      go_simp
      rfl)
  refine p_ 4 15 ?_
  refine p_ 5 16 ?_
  refine p_ 6 17 ?_
  refine p_ 7 18 ?_
  refine t_ 8 19 hHeld ?_ (hy := by
      intro w' hS'
      have s2 := hS'.c12
      go_simp
      rfl)
  refine n_ 9 (some 20) (fun K hK => ?_)
  refine g_ Tryz.func72 #[.slice F.uA s.used.length F.uc, .slice F.fA s.fresh.length F.fc] ?_
  with_reducible refine (join_any HU.out.inB HF.out.inB HB.out.1 HB.out.2.1).mono ?_
  rintro e w1 ⟨v1, rfl, ho, hb⟩
  rw [HT.out] at ho
  obtain ⟨A1, c1, rfl, hi1, hge1⟩ := In.of_own ho
  refine ⟨_, rfl, ?_⟩
  have I1 := Hide.mk hi1
  have B1 := Hide.mk hb
  have KC1 := (HS.out.below hb).cells
  clear ho hb hi1 hge1
  refine k_ hK KC1 (fun hHeld => ?_)
  clear hK K
  refine p_ 10 6 ?_
  refine d_ ?_
  have c3 := KC1.c3
  have hn1 := HN.out
  clear KC KC1 hHeld
  have hdr : Below w.heap.size w w.drew := below_drew (Below.refl _ _)
  have BB := Hide.mk (hdr.trans B1.out)
  clear hdr
  go_wp2
  go_loopw [7, 8] (fun v7 v8 wr => ∃ (out : List Int) (A7 : Option Addr) (c7 : Nat) (i : Int), v7 = .slice A7 out.length c7 ∧ v8 = .int .i64 i ∧ Hide (0 ≤ i ∧ i ≤ 100000) ∧ Hide (out.length ≤ n) ∧ Hide (R = (lowF T s.root.blocks (n - out.length) i).map (out ++ ·)) ∧ Hide (Kd.R (Kd.int .i64) 3 wr w1.heap.size (fun _ => True) (.slice A7 out.length c7) out) ∧ Hide (Below w1.heap.size w1 wr)) (fun v7 _ _ => n - (match v7 with | .slice _ m _ => m | _ => 0))
  case atStart => exact ⟨[], none, 0, 0, rfl, by first | rfl | simp, ⟨by omega⟩, ⟨Nat.zero_le _⟩, ⟨by rw [HLOW.out]; simp⟩, ⟨Kd.R_nil _ _ _ _ _⟩, ⟨Below.refl _ _⟩⟩
  case round =>
    obtain ⟨out, A7, c7, i, rfl, rfl, hi, hon, hR, hO, hB⟩ := hrel
    have c3w : wr.cell? ⟨F.p, 3, none⟩ = some (.int .i64 s.root.blocks) := pw_cell_below hB.out c3
    obtain ⟨m, hm⟩ : ∃ m, out.length = m := ⟨_, rfl⟩
    have HM := Hide.mk hm
    rw [hm] at hon
    have hmn := hon.out
    by_cases hlt0 : m < n
    · have hlt : (m : Int) < (n : Int) := by omega
      have LT := Hide.mk hlt0
      have HI1 := Hide.mk (I1.out.below hB.out)
      obtain ⟨f1, hf1⟩ : ∃ x, (firstL T i).1 = x := ⟨_, rfl⟩
      obtain ⟨f2, hf2⟩ : ∃ x, (firstL T i).2 = x := ⟨_, rfl⟩
      have HFC := Hide.mk (first_any HI1.out.inB (by have := HTK.out.1; unfold Small; omega) HTK.out.2 i (by have := hi.out; omega))
      rw [hf1, hf2] at HFC
      have E1 := Hide.mk hf1
      have E2 := Hide.mk hf2
      have HFB : Hide (f2 = true → i ≤ f1 ∧ f1 < 8 * (T.length : Int)) := ⟨fun h => by rw [← hf1]; exact firstL_bound T i hi.out.1 (by rw [hf2]; exact h)⟩
      rw [hm]
      have hO2 : Hide (Kd.R (Kd.int .i64) 3 wr w1.heap.size (fun _ => True) (.slice A7 m c7) out) := ⟨by rw [← hm]; exact hO.out⟩
      clear hm hf1 hf2 hlt0
      cases f2 with
      | false =>
        go_wp2_with (go_at_call 101; refine HFC.out.mono ?_; rintro e w3 ⟨rfl, hb3⟩; have B3 := Hide.mk hb3; clear hb3)
        go_ret2
        have e : R = none := by
          rw [hR.out, show n - out.length = (n - out.length - 1) + 1 by have := LT.out; have := HM.out; omega]
          unfold lowF
          rw [if_pos (.inl E2.out)]
          rfl
        rw [e]
        exact ⟨_, rfl, Kd.R_nil _ _ _ _ _, BB.out.trans ((hB.out.trans (B3.out.mono hB.out.size)).mono BB.out.size)⟩
      | true =>
        have hfb := HFB.out rfl
        have hib := hi.out
        have htl := HTK.out.1
        by_cases hge : s.root.blocks ≤ f1
        · go_wp2_with (go_at_call 101; refine HFC.out.mono ?_; rintro e w3 ⟨rfl, hb3⟩; have B3 := Hide.mk hb3; have c3v : w3.cell? ⟨F.p, 3, none⟩ = some (.int .i64 s.root.blocks) := pw_cell_below hb3 c3w; clear hb3)
          go_ret2
          have e : R = none := by
            rw [hR.out, show n - out.length = (n - out.length - 1) + 1 by have := LT.out; have := HM.out; omega]
            unfold lowF
            rw [if_pos (.inr (by rw [E1.out]; assumption))]
            rfl
          rw [e]
          exact ⟨_, rfl, Kd.R_nil _ _ _ _ _, BB.out.trans ((hB.out.trans (B3.out.mono hB.out.size)).mono BB.out.size)⟩
        · have NX : Hide (R = (lowF T s.root.blocks (n - (out ++ [f1]).length) (f1 + 1)).map ((out ++ [f1]) ++ ·)) := ⟨by
            rw [hR.out, show n - out.length = (n - (out ++ [f1]).length) + 1 by have := LT.out; have := HM.out; simp; omega]
            conv => lhs; unfold lowF
            rw [if_neg (by rw [E1.out, E2.out]; rintro (h | h); cases h; exact hge h), E1.out]
            cases lowF T s.root.blocks (n - (out ++ [f1]).length) (f1 + 1) with
            | none => rfl
            | some l => simp⟩
          have NOTS := Hide.mk hge
          go_wp2_with (first
            | (go_at_call 101; refine HFC.out.mono ?_; rintro e w3 ⟨rfl, hb3⟩; have B3 := Hide.mk hb3; have c3v : w3.cell? ⟨F.p, 3, none⟩ = some (.int .i64 s.root.blocks) := pw_cell_below hb3 c3w; have O3 := Hide.mk (Kd.R_below hO2.out hb3); clear hb3)
            | ((with_reducible refine gate_builtin (b := .append) (xs := #[.tmp 42, .tmp 44]) rfl ?_); at_builtin
               refine Kd.R_append (Kd.int .i64) (w0 := w1) w1.heap.size rfl (.tmp 42) (.tmp 44) 38 3 (.int .i64 0) 8 rfl Tryz.underlying38 infoI rfl (by decide) (by omega) (.slice A7 m c7) out f1 [.int .i64 f1] (fun _ => True) (fun _ => False) rfl rfl rfl (fun _ h => h.elim) (fun _ _ => trivial) O3.out (hB.out.trans (B3.out.mono hB.out.size)) (Nat.le_trans hB.out.size B3.out.size) (by rw [HM.out]; omega) ?_
               intro v4 w4 ho hb hg hat
               obtain ⟨A4, c4, hv4, hcc4, _⟩ := Kd.R_reads ho
               have hBB4 := hb
               subst hv4
               have O4 := Hide.mk ho
               have B4 := Hide.mk hBB4
               clear ho hb hg hat))
          go_roundw
          case rel => exact ⟨out ++ [f1], A4, c4, f1 + 1, by simp, by go_num, ⟨by omega⟩, ⟨by have := LT.out; have := HM.out; simp; omega⟩, NX, O4, B4⟩
          case measure => have := LT.out; have := HM.out; simp; omega
    · have hlt : ¬ (m : Int) < (n : Int) := by omega
      have E := Hide.mk (show m = n by omega)
      rw [hm]
      clear hm hlt0
      go_wp2
      go_ret2
      have e : R = some out := by
        rw [hR.out, HM.out, E.out, Nat.sub_self]
        simp [lowF]
      rw [e]
      refine ⟨_, rfl, ?_, BB.out.trans (hB.out.mono BB.out.size)⟩
      have h := Kd.R_lower hO.out BB.out.size
      rw [HM.out] at h
      exact h
end Go.Proofs.YtplkndmkchpcdaaGreat.Sh
end
section
namespace Go.Proofs.YtplkndmkchpcdaaGreat.Sh
open Go.RowKit YtplkndmkchpcdaaGreatW.PrintWords YtplkndmkchpcdaaGreatW.PrintLast YtplkndmkchpcdaaGreatW.PrintMore MapFn Disk Bitset
set_option maxHeartbeats 4000000
set_option maxRecDepth 100000
section
variable {w w4 : World} {F : Foot} {s : Sh}
theorem ShAt.fresh_set {A : Option Addr} {l : List Int} {c : Nat} (h : ShAt w F s) (hb : Below w.heap.size w w4) (hi : In .u8 w4 A l c) (hge : ∀ a, A = some a → w.heap.size ≤ a.block) :
    ShAt (w4.setCell ⟨F.p, 12, none⟩ (.slice A l.length c)) { F with fA := A, fc := c } { s with fresh := l } ∧ Goes F { F with fA := A, fc := c } w (w4.setCell ⟨F.p, 12, none⟩ (.slice A l.length c)) := by
  have h4 := h.below hb
  have hs := set_row (i := 12) h4.row (.slice A l.length c)
  have hm : Moves [F.p] w (w4.setCell ⟨F.p, 12, none⟩ (.slice A l.length c)) := (Moves.of_below hb [F.p]).trans (set_moves (i := 12) _)
  have hin : ∀ x ∈ [F.p], x ∈ F.own ∨ w.heap.size ≤ x := fun x hx => by simp only [List.mem_singleton] at hx; subst hx; left; simp [Foot.own]
  have k := h.kept hm hin
  have hp := h.lts F.p (by simp [Foot.own])
  refine h.turn hm (by rw [hs]; rfl) rfl rfl rfl rfl ⟨k.tables, k.maps, k.was, k.used, hi.moves (set_moves (i := 12) _) (fun a ha hn => by simp only [List.mem_singleton] at hn; have := hge a ha; omega)⟩ (fun B hB => ?_)
  simp only [Foot.slices, List.mem_cons, List.not_mem_nil, or_false] at hB
  rcases hB with rfl | rfl | rfl | rfl | rfl
  · left; simp [Foot.slices]
  · left; simp [Foot.slices]
  · left; simp [Foot.slices]
  · left; simp [Foot.slices]
  · right; exact hge
end
theorem ShAt.wrote {w w' : World} {F : Foot} {s : Sh} {D' : DiskSt} (h : ShAt w F s) (hd : DiskAt w' F.pd F.ms F.ml D') (hm : Moves [F.pd, F.ml] w w') : ShAt w' F { s with D := D' } ∧ Goes F F w w' :=
  h.disk_moves hd (.inl rfl) (hm.more (by intro x hx; simp only [List.mem_cons, List.not_mem_nil, or_false] at hx; left; rcases hx with rfl | rfl <;> simp))
theorem place_any (id : Nat) (n : Int) (A : Option Addr) (c : Nat) (b : List Int) (w : World) (F : Foot) (s : Sh) (h : ShAt w F s) (hk : Ok s) (hn : MapFn.wf n) (hr : Kd.C (Kd.int .u8) w A b.length b) (hid : id ≤ 5000) :
    Calls Tryz.prog 66 #[.pointer (some ⟨F.p, 0, none⟩), .int .i64 (id : Int), .int .i64 n, .slice A b.length c] w fun en w' => en = .returned (.int .i64 (s.place id n b).2) ∧ ∃ F', ShAt w' F' (s.place id n b).1 ∧ Goes F F' w w' := by
  have HW := Hide.mk (write_any n A c b h.disk hn hr)
  have c1 := h.cells.c1
  have HS := Hide.mk h
  have HK := Hide.mk hk
  have HI := Hide.mk hid
  unfold Sh.place Sh.wr
  obtain ⟨E, hE⟩ : ∃ E, (s.D.write n b).2 = E := ⟨_, rfl⟩
  obtain ⟨D1, hD⟩ : ∃ D1, (s.D.write n b).1 = D1 := ⟨_, rfl⟩
  rw [hE, hD] at HW ⊢
  clear h hk hn hr hid hE hD
  by_cases hE0 : E = 0
  · subst hE0
    rw [if_neg (by simp)]
    go_enter Tryz.func66, Tryz.ntmps66
    go_wp2_with (first
      | (go_at_call 88; refine HW.out.mono ?_; rintro e w1 ⟨rfl, hd, hm⟩; have S1 := Hide.mk (HS.out.wrote hd hm); have HDN := Hide.mk (done_any 0 S1.out.1); clear hd hm)
      | (go_at_call 89; refine HDN.out.mono ?_; rintro e w2 ⟨rfl, hs2, hg2⟩; have S2 := Hide.mk hs2; have G2 := Hide.mk (S1.out.2.trans hg2); have HPT := Hide.mk (shput_any id n w2 F _ hs2 HI.out (by have := HK.out.table.2.1; exact Nat.le_trans this (by omega)) HK.out.table.1); clear hs2 hg2)
      | (go_at_call 69; refine HPT.out.mono ?_; rintro e w3 ⟨rfl, F3, hs3, hg3⟩
         have ep := hg3.p
         have c12 := hs3.cells.c12
         have f12 := hs3.free_ 12
         rw [ep] at c12 f12
         have S3 := Hide.mk hs3
         have G3 := Hide.mk (G2.out.trans hg3)
         have hfr : In .u8 w3 F3.fA s.fresh F3.fc := hs3.fresh
         have HWI := Hide.mk (with_any hfr.inB (by have := HK.out.fresh.1; unfold Small; exact Nat.le_trans this (by omega)) n true)
         have EP := Hide.mk ep
         clear hs3 hg3 ep hfr)
      | (go_at_call 70; refine HWI.out.mono ?_; rintro e w4 ⟨v4, rfl, ho, hb4⟩
         obtain ⟨A4, c4, rfl, hi4, hge4⟩ := In.of_own ho
         have FIN := Hide.mk (S3.out.fresh_set hb4 hi4 hge4)
         rw [EP.out] at FIN
         have c12v := pw_cell_below hb4 c12
         have f12v : w4.frozen? ⟨F.p, 12, none⟩ = false := by rw [← EP.out]; exact (S3.out.below hb4).free_ 12
         clear ho hb4 hi4 hge4))
    go_ret
    exact ⟨rfl, _, FIN.out.1, G3.out.trans FIN.out.2⟩
  · rw [if_pos hE0]
    have q : (E != 0) = true := by simp [hE0]
    clear hE0
    go_enter Tryz.func66, Tryz.ntmps66
    go_wp2_with (first
      | (go_at_call 88; refine HW.out.mono ?_; rintro e w1 ⟨rfl, hd, hm⟩; have S1 := Hide.mk (HS.out.wrote hd hm); have HDN := Hide.mk (done_any E S1.out.1); clear hd hm)
      | (go_at_call 89; refine HDN.out.mono ?_; rintro e w2 ⟨rfl, hs2, hg2⟩; have S2 := Hide.mk hs2; have G2 := Hide.mk (S1.out.2.trans hg2); clear hs2 hg2))
    go_ret
    exact ⟨rfl, F, S2.out, G2.out⟩
end Go.Proofs.YtplkndmkchpcdaaGreat.Sh
end
section
namespace Go.Proofs.YtplkndmkchpcdaaGreat.Sh
open Go.RowKit YtplkndmkchpcdaaGreatW.PrintWords MapFn Disk
structure InW (k : IntKind) (w : World) (A : Option Addr) (l : List Int) (c : Nat) : Prop where
  reads : Kd.C (Kd.int k) w A l.length l
  room : l.length ≤ c
  lt : ∀ a, A = some a → l ≠ [] → a.block < w.heap.size
section
variable {k : IntKind} {w w' : World} {A : Option Addr} {l : List Int} {c : Nat}
theorem In.wide (h : In k w A l c) : InW k w A l c := ⟨h.reads, h.room, fun a ha _ => h.lt a ha⟩
theorem lt_of_cell {x : Addr} {v : Value} (h : w.cell? x = some v) : x.block < w.heap.size := by
  unfold World.cell? at h
  split at h
  · rename_i cs t fr hr
    exact (Array.getElem?_eq_some_iff.1 hr).1
  · cases h
theorem InW.moves {s : List Nat} (h : InW k w A l c) (hm : Moves s w w') (hs : ∀ a, A = some a → l ≠ [] → ¬ a.block ∈ s) : InW k w' A l c := by
  by_cases hl : l = []
  · subst hl
    refine ⟨?_, h.room, fun a ha hne => absurd rfl hne⟩
    exact Kd.C_of_reads (enc := Value.int k) (d := (0 : Int)) (h1 := fun _ => rfl) ⟨rfl, by simp, fun hp => absurd hp (by simp)⟩
  · have := (In.moves (k := k) ⟨h.reads, h.room, fun a ha => h.lt a ha hl⟩ hm (fun a ha => hs a ha hl))
    exact this.wide
theorem InW.below (h : InW k w A l c) (hb : Below w.heap.size w w') : InW k w' A l c := h.moves (Moves.of_below hb []) (by simp)
end
end Go.Proofs.YtplkndmkchpcdaaGreat.Sh
end
section
namespace Go.Proofs.YtplkndmkchpcdaaGreat.Sh
open Go.RowKit YtplkndmkchpcdaaGreatW.PrintWords YtplkndmkchpcdaaGreatW.PrintLast YtplkndmkchpcdaaGreatW.PrintMore MapFn Disk Bitset Page
set_option maxHeartbeats 8000000
set_option maxRecDepth 100000
theorem lowF_len (T : List Int) (B : Int) : ∀ (k : Nat) (f : Int) (l : List Int), lowF T B k f = some l → l.length = k
  | 0, _, l, h => by cases h; rfl
  | k + 1, f, l, h => by
    unfold lowF at h
    split at h
    · cases h
    · obtain ⟨m, hm, rfl⟩ := Option.map_eq_some_iff.1 h
      simp [lowF_len T B k _ m hm]
theorem lowF_each (T : List Int) (B : Int) : ∀ (k : Nat) (f : Int) (l : List Int), 0 ≤ f → lowF T B k f = some l → ∀ x ∈ l, 0 ≤ x ∧ x < 8 * (T.length : Int) ∧ x < B
  | 0, _, l, _, h => by cases h; simp
  | k + 1, f, l, hf, h => by
    unfold lowF at h
    split at h
    · cases h
    · rename_i hc
      obtain ⟨m, hm, rfl⟩ := Option.map_eq_some_iff.1 h
      have h1 : (firstL T f).2 = true := by
        cases h2 : (firstL T f).2 with
        | true => rfl
        | false => exact absurd (.inl h2) hc
      have hb := firstL_bound T f hf h1
      intro x hx
      rcases List.mem_cons.1 hx with rfl | hx
      · exact ⟨by omega, hb.2, by rcases Int.lt_or_le (firstL T f).1 B with q | q; exact q; exact absurd (.inr q) hc⟩
      · exact lowF_each T B k _ m (by omega) hm x hx
theorem lowest_facts {s : Sh} (hk : Ok s) {n : Nat} {l : List Int} (h : s.lowest n = some l) : l.length = n ∧ ∀ x ∈ l, 0 ≤ x ∧ x < 4096 := by
  unfold Sh.lowest at h
  refine ⟨lowF_len _ _ _ _ _ h, fun x hx => ?_⟩
  have h1 := lowF_each _ _ _ _ _ (Int.le_refl 0) h x hx
  have h2 := hk.taken.1
  have h3 := hk.blocks.2
  omega
theorem idF_stop {t : List Int} (k id : Nat) (h : ¬ (id < t.length ∧ t.getD id 0 ≠ 0)) : idF t k id = id := by
  cases k with
  | zero => rfl
  | succ k => unfold idF; rw [if_neg h]
theorem idF_step {t : List Int} (k id : Nat) (h : id < t.length ∧ t.getD id 0 ≠ 0) : idF t (k + 1) id = idF t k (id + 1) := by
  conv => lhs; unfold idF
  rw [if_pos h]
theorem sealE_of {kind id : Int} {n : Nat} (h : sealE kind id n = 0) : 0 ≤ id ∧ id ≤ 3000 := by
  unfold sealE at h
  split at h
  · cases h
  · split at h
    · cases h
    · omega
theorem wf_small {n : Int} (h0 : 0 ≤ n) (h1 : n < 4096) : MapFn.wf n := by
  show (decide (IntKind.i64.min ≤ n) && decide (n ≤ IntKind.i64.max)) = true
  have e1 : IntKind.i64.min = -9223372036854775808 := by decide
  have e2 : IntKind.i64.max = 9223372036854775807 := by decide
  rw [e1, e2]
  simp
  omega
theorem at_one {w : World} {A : Option Addr} {x : Int} (h : Kd.C (Kd.int .i64) w A 1 [x]) : ∃ g off, A = some ⟨g, off, none⟩ ∧ w.cell? ⟨g, off, none⟩ = some (.int .i64 x) := by
  obtain ⟨ad, rfl, hc⟩ := Kd.at_int h 0 (by omega) (by omega)
  obtain ⟨g, off, spot⟩ := ad
  have hspot : spot = none := by simpa [Addr.add] using World.cell?_spot hc
  subst hspot
  refine ⟨g, off, rfl, ?_⟩
  have : (⟨g, off, none⟩ : Addr).add (Int.toNat 0) = ⟨g, off, none⟩ := by rw [Go.WideShapes.add_plain]; rfl
  rw [this] at hc
  simpa [rd] using hc
theorem alloc_any (kind : Int) (A : Option Addr) (c : Nat) (body : List Int) (w : World) (F : Foot) (s : Sh) (h : ShAt w F s) (hk : Ok s) (hr : InW .u8 w A body c) (hb : Bytes body) :
    Calls Tryz.prog 20 #[.pointer (some ⟨F.p, 0, none⟩), .int .i64 kind, .slice A body.length c] w fun en w' => en = .returned (.tuple #[.int .i64 (s.alloc kind body).2.1, .int .i64 (s.alloc kind body).2.2]) ∧ ∃ F', ShAt w' F' (s.alloc kind body).1 ∧ Goes F F' w w' := by
  have HA := Hide.mk (alive_any h)
  have HS := Hide.mk h
  have HK := Hide.mk hk
  have HR := Hide.mk hr
  have HB := Hide.mk hb
  obtain ⟨R, hR⟩ : ∃ R, s.alloc kind body = R := ⟨_, rfl⟩
  rw [hR]
  unfold Sh.alloc at hR
  obtain ⟨a, ha⟩ : ∃ a, s.alive = a := ⟨_, rfl⟩
  rw [ha] at HA hR
  clear h hk hr hb ha
  by_cases h0 : a = 0
  · subst h0
    rw [if_neg (by simp)] at hR
    by_cases h1 : sealE kind 1 body.length = 0
    · rw [if_neg (by simpa using h1)] at hR
      have HSE1 := Hide.mk (seal_ok kind 1 A c body w HR.out.reads HB.out h1)
      have HRR := Hide.mk hR
      clear hR h1
      go_enter Tryz.func20, Tryz.ntmps20
      go_wp2_with (first
        | (go_at_call 63; refine HA.out.mono ?_; rintro e w1 ⟨rfl, rfl⟩)
        | (go_at_call 64; refine HSE1.out.mono ?_; rintro e w3 ⟨v3, rfl, ho, hb3⟩
           obtain ⟨A3, c3, hv, hi3, hge3⟩ := In.of_own ho
           obtain ⟨n3, hn3⟩ : ∃ n, (sealL kind 1 body).length = n := ⟨_, rfl⟩
           rw [hn3] at hv
           subst hv
           have S3 := Hide.mk (HS.out.below hb3)
           have B3 := Hide.mk hb3
           clear ho hb3 hi3 hge3 hn3))
      have c10 := S3.out.cells.c10
      have htl := HK.out.table
      obtain ⟨T, hT⟩ : ∃ T, s.table = T := ⟨_, rfl⟩
      have HT := Hide.mk hT
      rw [hT] at c10 htl
      have HTL := Hide.mk htl
      have hlen := htl.2.1
      clear hT htl
      go_loopw [11] (fun v11 wr => ∃ id : Nat, v11 = .int .i64 (id : Int) ∧ wr = w3 ∧ Hide (1 ≤ id ∧ id ≤ T.length ∧ freeId T = idF T (T.length + 1 - id) id)) (fun v11 _ => T.length + 1 - (intOf v11).toNat)
      case atStart => exact ⟨1, by first | rfl | simp, rfl, ⟨by omega, HTL.out.1, rfl⟩⟩
      case round =>
        obtain ⟨id, rfl, hw, hid⟩ := hrel
        obtain rfl : w3 = wr := hw.symm
        clear hw
        have hidb := hid.out.2.1
        by_cases hlt0 : id < T.length
        · have hlt : (id : Int) < (T.length : Int) := by omega
          have hcap := (tab_max S3.out.table).1
          obtain ⟨t1, t2⟩ := tab_cell S3.out.table id (by rw [HT.out]; exact hlt0)
          rw [HT.out] at t1
          obtain ⟨x, hx⟩ : ∃ x, T.getD id 0 = x := ⟨_, rfl⟩
          rw [hx] at t1
          have HX := Hide.mk hx
          clear hx
          by_cases hx0 : x = 0
          · subst hx0
            have HSTOP : ¬ (id < T.length ∧ T.getD id 0 ≠ 0) := fun h => h.2 HX.out
            have HSTOPH := Hide.mk HSTOP
            have FID := Hide.mk (show freeId T = id by rw [hid.out.2.2]; exact idF_stop _ _ HSTOP)
            have hid1 := hid.out.1
            by_cases h2 : sealE kind id body.length = 0
            · have hR2 := HRR.out
              rw [HT.out, FID.out, if_neg (by simpa using h2)] at hR2
              have HSE2 := Hide.mk (seal_ok kind id A c body w3 (HR.out.below B3.out).reads HB.out h2)
              cases hl : s.lowest 1 with
              | none =>
                rw [hl] at hR2
                have HR2 := Hide.mk hR2
                have HL := Hide.mk hl
                clear hR2 hl h2
                go_wp2_with (first
                  | (go_at_call 64; refine HSE2.out.mono ?_; rintro e w4 ⟨v4, rfl, ho, hb4⟩
                     obtain ⟨A4, c4, hv, hi4, hge4⟩ := In.of_own ho
                     obtain ⟨n4, hn4⟩ : ∃ n, (sealL kind id body).length = n := ⟨_, rfl⟩
                     rw [hn4] at hv
                     subst hv
                     have S4 := Hide.mk (S3.out.below hb4)
                     have B4 := Hide.mk hb4
                     have HLO := Hide.mk (lowest_any 1 (by omega) F s w4 S4.out HK.out)
                     clear ho hb4 hi4 hge4 hn4)
                  | (go_at_call 65; refine HLO.out.mono ?_; rintro e w5 ⟨v5, rfl, ho, hb5⟩; rw [HL.out] at ho ⊢; have B5 := Hide.mk hb5; clear ho hb5))
                go_ret2
                rw [← HR2.out]
                exact ⟨rfl, F, S4.out.below B5.out, Goes.below ((B3.out.trans (B4.out.mono B3.out.size)).trans (B5.out.mono (Nat.le_trans B3.out.size B4.out.size)))⟩
              | some l =>
                rw [hl] at hR2
                have hlf := lowest_facts HK.out hl
                obtain ⟨x0, rfl⟩ : ∃ x0, l = [x0] := List.length_eq_one_iff.1 hlf.1
                have hx0b := hlf.2 x0 (by simp)
                simp only [List.getD_cons_zero] at hR2
                obtain ⟨PL, hPL⟩ : ∃ p, s.place id x0 (sealL kind id body) = p := ⟨_, rfl⟩
                rw [hPL] at hR2
                have HPLE := Hide.mk hPL
                have HWX := Hide.mk (wf_small hx0b.1 hx0b.2)
                have HID5 : Hide (id ≤ 5000) := ⟨by have := HTL.out.2.1; omega⟩
                have HL := Hide.mk hl
                have HR2 := Hide.mk hR2
                clear hR2 hl h2 hlf hx0b hPL
                obtain ⟨s9, E⟩ := PL
                by_cases hE : E = 0
                all_goals
                  have hEE := hE
                  have HE := Hide.mk hEE
                  clear hEE
                  have qE : (E != 0) = decide (E ≠ 0) := by simp [bne, Bool.beq_eq_decide_eq]
                  first | subst hE | skip
                  go_wp2_with (first
                    | (go_at_call 64; refine HSE2.out.mono ?_; rintro e w4 ⟨v4, rfl, ho, hb4⟩
                       obtain ⟨A4, c4, hv, hi4, hge4⟩ := In.of_own ho
                       obtain ⟨n4, hn4⟩ : ∃ n, (sealL kind id body).length = n := ⟨_, rfl⟩
                       rw [hn4] at hv
                       subst hv
                       have S4 := Hide.mk (S3.out.below hb4)
                       have B4 := Hide.mk hb4
                       have I4 := Hide.mk hi4
                       have HN4 := Hide.mk hn4
                       have HLO := Hide.mk (lowest_any 1 (by omega) F s w4 S4.out HK.out)
                       clear ho hb4 hi4 hge4 hn4)
                    | (go_at_call 65; refine HLO.out.mono ?_; rintro e w5 ⟨v5, rfl, ho, hb5⟩; rw [HL.out] at ho ⊢
                       obtain ⟨A5, c5, hv5, hi5, hge5⟩ := In.of_own ho
                       have hv5' : v5 = .slice A5 1 c5 := hv5
                       subst hv5'
                       obtain ⟨g5, off5, hA5, hc5⟩ := at_one hi5.reads
                       subst hA5
                       have S5 := Hide.mk (S4.out.below hb5)
                       have B5 := Hide.mk hb5
                       have HPL0 := place_any id x0 A4 c4 (sealL kind id body) w5 F s S5.out HK.out HWX.out (I4.out.below hb5).reads HID5.out
                       rw [HPLE.out, HN4.out] at HPL0
                       have HPL := Hide.mk HPL0
                       clear ho hb5 hi5 hge5 hv5 HPL0)
                    | (go_at_call 66; refine HPL.out.mono ?_; rintro e w6 ⟨rfl, F6, hs6, hg6⟩; have S6 := Hide.mk hs6; have G6 := Hide.mk hg6; clear hs6 hg6))
                  go_ret2
                  have gg := (Goes.below (F := F) ((B3.out.trans (B4.out.mono B3.out.size)).trans (B5.out.mono (Nat.le_trans B3.out.size B4.out.size)))).trans G6.out
                  first
                    | (have e : R = (s9, (id : Int), 0) := by have h := HR2.out; simp [HT.out, FID.out] at h; exact h.symm
                       rw [e]; exact ⟨rfl, F6, S6.out, gg⟩)
                    | (have e : R = (s9, 0, E) := by have h := HR2.out; simp [HE.out] at h; exact h.symm
                       rw [e]; exact ⟨rfl, F6, S6.out, gg⟩)
            · have hR2 := HRR.out
              rw [HT.out, FID.out, if_pos h2] at hR2
              have HSE2 := Hide.mk (seal_bad kind id A c body.length w3 h2)
              obtain ⟨E, hE⟩ : ∃ E, sealE kind id body.length = E := ⟨_, rfl⟩
              rw [hE] at HSE2 hR2 h2
              have q2 : (E != 0) = true := by simp [h2]
              have HR2 := Hide.mk hR2
              clear hR2 h2 hE
              go_wp2_with (go_at_call 64; refine HSE2.out.mono ?_; rintro e w4 ⟨rfl, hb4⟩; have B4 := Hide.mk hb4; clear hb4)
              go_ret2
              rw [← HR2.out]
              exact ⟨rfl, F, S3.out.below B4.out, Goes.below (B3.out.trans (B4.out.mono B3.out.size))⟩
          · have q : (x != 0) = true := by simp [hx0]
            have HX0 := Hide.mk hx0
            have LT := Hide.mk hlt0
            clear hlt0 hx0
            go_wp2
            go_roundw
            case rel => exact ⟨id + 1, by go_num, by first | trivial | rfl, ⟨by omega, by have := LT.out; omega, by rw [hid.out.2.2, show T.length + 1 - id = (T.length + 1 - (id + 1)) + 1 by have := LT.out; omega, idF_step _ _ ⟨LT.out, by rw [HX.out]; exact HX0.out⟩]⟩⟩
            case measure => have := LT.out; simp [intOf]; omega
        · have hlt : ¬ (id : Int) < (T.length : Int) := by omega
          have HSTOP : ¬ (id < T.length ∧ T.getD id 0 ≠ 0) := fun h => hlt0 h.1
          have FID := Hide.mk (show freeId T = id by rw [hid.out.2.2]; exact idF_stop _ _ HSTOP)
          have hid1 := hid.out.1
          by_cases h2 : sealE kind id body.length = 0
          · have hR2 := HRR.out
            rw [HT.out, FID.out, if_neg (by simpa using h2)] at hR2
            have HSE2 := Hide.mk (seal_ok kind id A c body w3 (HR.out.below B3.out).reads HB.out h2)
            cases hl : s.lowest 1 with
            | none =>
              rw [hl] at hR2
              have HR2 := Hide.mk hR2
              have HL := Hide.mk hl
              clear hR2 hl h2
              go_wp2_with (first
                | (go_at_call 64; refine HSE2.out.mono ?_; rintro e w4 ⟨v4, rfl, ho, hb4⟩
                   obtain ⟨A4, c4, hv, hi4, hge4⟩ := In.of_own ho
                   obtain ⟨n4, hn4⟩ : ∃ n, (sealL kind id body).length = n := ⟨_, rfl⟩
                   rw [hn4] at hv
                   subst hv
                   have S4 := Hide.mk (S3.out.below hb4)
                   have B4 := Hide.mk hb4
                   have HLO := Hide.mk (lowest_any 1 (by omega) F s w4 S4.out HK.out)
                   clear ho hb4 hi4 hge4 hn4)
                | (go_at_call 65; refine HLO.out.mono ?_; rintro e w5 ⟨v5, rfl, ho, hb5⟩; rw [HL.out] at ho ⊢; have B5 := Hide.mk hb5; clear ho hb5))
              go_ret2
              rw [← HR2.out]
              exact ⟨rfl, F, S4.out.below B5.out, Goes.below ((B3.out.trans (B4.out.mono B3.out.size)).trans (B5.out.mono (Nat.le_trans B3.out.size B4.out.size)))⟩
            | some l =>
              rw [hl] at hR2
              have hlf := lowest_facts HK.out hl
              obtain ⟨x0, rfl⟩ : ∃ x0, l = [x0] := List.length_eq_one_iff.1 hlf.1
              have hx0b := hlf.2 x0 (by simp)
              simp only [List.getD_cons_zero] at hR2
              obtain ⟨PL, hPL⟩ : ∃ p, s.place id x0 (sealL kind id body) = p := ⟨_, rfl⟩
              rw [hPL] at hR2
              have HPLE := Hide.mk hPL
              have HWX := Hide.mk (wf_small hx0b.1 hx0b.2)
              have HID5 : Hide (id ≤ 5000) := ⟨by have := HTL.out.2.1; omega⟩
              have HL := Hide.mk hl
              have HR2 := Hide.mk hR2
              clear hR2 hl h2 hlf hx0b hPL
              obtain ⟨s9, E⟩ := PL
              by_cases hE : E = 0
              all_goals
                have hEE := hE
                have HE := Hide.mk hEE
                clear hEE
                have qE : (E != 0) = decide (E ≠ 0) := by simp [bne, Bool.beq_eq_decide_eq]
                first | subst hE | skip
                go_wp2_with (first
                  | (go_at_call 64; refine HSE2.out.mono ?_; rintro e w4 ⟨v4, rfl, ho, hb4⟩
                     obtain ⟨A4, c4, hv, hi4, hge4⟩ := In.of_own ho
                     obtain ⟨n4, hn4⟩ : ∃ n, (sealL kind id body).length = n := ⟨_, rfl⟩
                     rw [hn4] at hv
                     subst hv
                     have S4 := Hide.mk (S3.out.below hb4)
                     have B4 := Hide.mk hb4
                     have I4 := Hide.mk hi4
                     have HN4 := Hide.mk hn4
                     have HLO := Hide.mk (lowest_any 1 (by omega) F s w4 S4.out HK.out)
                     clear ho hb4 hi4 hge4 hn4)
                  | (go_at_call 65; refine HLO.out.mono ?_; rintro e w5 ⟨v5, rfl, ho, hb5⟩; rw [HL.out] at ho ⊢
                     obtain ⟨A5, c5, hv5, hi5, hge5⟩ := In.of_own ho
                     have hv5' : v5 = .slice A5 1 c5 := hv5
                     subst hv5'
                     obtain ⟨g5, off5, hA5, hc5⟩ := at_one hi5.reads
                     subst hA5
                     have S5 := Hide.mk (S4.out.below hb5)
                     have B5 := Hide.mk hb5
                     have HPL0 := place_any id x0 A4 c4 (sealL kind id body) w5 F s S5.out HK.out HWX.out (I4.out.below hb5).reads HID5.out
                     rw [HPLE.out, HN4.out] at HPL0
                     have HPL := Hide.mk HPL0
                     clear ho hb5 hi5 hge5 hv5 HPL0)
                  | (go_at_call 66; refine HPL.out.mono ?_; rintro e w6 ⟨rfl, F6, hs6, hg6⟩; have S6 := Hide.mk hs6; have G6 := Hide.mk hg6; clear hs6 hg6))
                go_ret2
                have gg := (Goes.below (F := F) ((B3.out.trans (B4.out.mono B3.out.size)).trans (B5.out.mono (Nat.le_trans B3.out.size B4.out.size)))).trans G6.out
                first
                  | (have e : R = (s9, (id : Int), 0) := by have h := HR2.out; simp [HT.out, FID.out] at h; exact h.symm
                     rw [e]; exact ⟨rfl, F6, S6.out, gg⟩)
                  | (have e : R = (s9, 0, E) := by have h := HR2.out; simp [HE.out] at h; exact h.symm
                     rw [e]; exact ⟨rfl, F6, S6.out, gg⟩)
          · have hR2 := HRR.out
            rw [HT.out, FID.out, if_pos h2] at hR2
            have HSE2 := Hide.mk (seal_bad kind id A c body.length w3 h2)
            obtain ⟨E, hE⟩ : ∃ E, sealE kind id body.length = E := ⟨_, rfl⟩
            rw [hE] at HSE2 hR2 h2
            have q2 : (E != 0) = true := by simp [h2]
            have HR2 := Hide.mk hR2
            clear hR2 h2 hE
            go_wp2_with (go_at_call 64; refine HSE2.out.mono ?_; rintro e w4 ⟨rfl, hb4⟩; have B4 := Hide.mk hb4; clear hb4)
            go_ret2
            rw [← HR2.out]
            exact ⟨rfl, F, S3.out.below B4.out, Goes.below (B3.out.trans (B4.out.mono B3.out.size))⟩
    · rw [if_pos h1] at hR
      have HSE1 := Hide.mk (seal_bad kind 1 A c body.length w h1)
      obtain ⟨E, hE⟩ : ∃ E, sealE kind 1 body.length = E := ⟨_, rfl⟩
      rw [hE] at HSE1 hR h1
      have q2 : (E != 0) = true := by simp [h1]
      have HRR := Hide.mk hR
      clear hR h1 hE
      go_enter Tryz.func20, Tryz.ntmps20
      go_wp2_with (first
        | (go_at_call 63; refine HA.out.mono ?_; rintro e w1 ⟨rfl, rfl⟩)
        | (go_at_call 64; refine HSE1.out.mono ?_; rintro e w3 ⟨rfl, hb3⟩; have B3 := Hide.mk hb3; clear hb3))
      go_ret2
      rw [← HRR.out]
      exact ⟨rfl, F, HS.out.below B3.out, Goes.below B3.out⟩
  · rw [if_pos h0] at hR
    have q : (a != 0) = true := by simp [h0]
    clear h0
    go_enter Tryz.func20, Tryz.ntmps20
    go_wp2_with (go_at_call 63; refine HA.out.mono ?_; rintro e w1 ⟨rfl, rfl⟩)
    go_ret2
    rw [← hR]
    exact ⟨rfl, F, HS.out, Goes.refl _ _⟩
end Go.Proofs.YtplkndmkchpcdaaGreat.Sh
end
section
namespace Go.Proofs.YtplkndmkchpcdaaGreat.Sh
open Go.RowKit YtplkndmkchpcdaaGreatW.PrintWords YtplkndmkchpcdaaGreatW.PrintLast YtplkndmkchpcdaaGreatW.PrintMore MapFn Disk Bitset Page
set_option maxHeartbeats 8000000
set_option maxRecDepth 100000
theorem block_ok {s : Sh} {id : Int} (h : (s.block id).2 = 0) : 1 ≤ id ∧ id < (s.table.length : Int) ∧ (s.block id).1 = s.table.getD id.toNat 0 := by
  unfold Sh.block at h ⊢
  split at h
  · rename_i c
    exact absurd h c
  · rename_i c
    rw [if_neg c]
    split at h
    · cases h
    · rename_i c2
      rw [if_neg c2]
      exact ⟨by omega, by omega, rfl⟩
theorem free_any (id : Int) (w : World) (F : Foot) (s : Sh) (h : ShAt w F s) (hk : Ok s) :
    Calls Tryz.prog 24 #[.pointer (some ⟨F.p, 0, none⟩), .int .i64 id] w fun en w' => en = .returned (.int .i64 (s.free id).2) ∧ ∃ F', ShAt w' F' (s.free id).1 ∧ Goes F F' w w' := by
  have HBL := Hide.mk (block_any id h)
  have HS := Hide.mk h
  have HK := Hide.mk hk
  obtain ⟨R, hR⟩ : ∃ R, s.free id = R := ⟨_, rfl⟩
  rw [hR]
  unfold Sh.free at hR
  obtain ⟨n, hn⟩ : ∃ n, (s.block id).1 = n := ⟨_, rfl⟩
  obtain ⟨E, hE⟩ : ∃ n, (s.block id).2 = n := ⟨_, rfl⟩
  have HBO := Hide.mk (block_ok (s := s) (id := id))
  rw [hn, hE] at HBL hR HBO
  have c11 := h.cells.c11
  clear h hk hn hE
  by_cases h0 : E = 0
  · subst h0
    rw [if_neg (by simp)] at hR
    have HID := Hide.mk (HBO.out rfl)
    by_cases h1 : id = s.start
    · rw [if_pos h1] at hR
      subst h1
      have HRR := Hide.mk hR
      clear hR
      go_enter Tryz.func24, Tryz.ntmps24
      go_wp2_with (go_at_call 68; refine HBL.out.mono ?_; rintro e w1 ⟨rfl, rfl⟩)
      go_ret
      rw [← HRR.out]
      exact ⟨rfl, F, HS.out, Goes.refl _ _⟩
    · rw [if_neg h1] at hR
      obtain ⟨j, rfl⟩ : ∃ j : Nat, id = (j : Int) := ⟨id.toNat, by have := HID.out.1; omega⟩
      have HRR := Hide.mk hR
      have q1 : ((j : Int) == s.start) = false := by simp [h1]
      have HJ : Hide (j ≤ 5000) := ⟨by have := HID.out.2.1; have := HK.out.table.2.1; omega⟩
      have HPT := Hide.mk (shput_any j 0 w F s HS.out HJ.out (by have := HK.out.table.2.1; omega) HK.out.table.1)
      clear hR
      go_enter Tryz.func24, Tryz.ntmps24
      go_wp2_with (first
        | (go_at_call 68; refine HBL.out.mono ?_; rintro e w1 ⟨rfl, rfl⟩)
        | (go_at_call 69; refine HPT.out.mono ?_; rintro e w3 ⟨rfl, F3, hs3, hg3⟩
           have ep := hg3.p
           have c12 := hs3.cells.c12
           have f12 := hs3.free_ 12
           rw [ep] at c12 f12
           have S3 := Hide.mk hs3
           have G3 := Hide.mk hg3
           have hfr : In .u8 w3 F3.fA s.fresh F3.fc := hs3.fresh
           have HWI := Hide.mk (with_any hfr.inB (by have := HK.out.fresh.1; unfold Small; exact Nat.le_trans this (by omega)) n false)
           have EP := Hide.mk ep
           clear hs3 hg3 ep hfr)
        | (go_at_call 70; refine HWI.out.mono ?_; rintro e w4 ⟨v4, rfl, ho, hb4⟩
           obtain ⟨A4, c4, rfl, hi4, hge4⟩ := In.of_own ho
           have FIN := Hide.mk (S3.out.fresh_set hb4 hi4 hge4)
           rw [EP.out] at FIN
           have c12v := pw_cell_below hb4 c12
           have f12v : w4.frozen? ⟨F.p, 12, none⟩ = false := by rw [← EP.out]; exact (S3.out.below hb4).free_ 12
           clear ho hb4 hi4 hge4))
      go_ret
      rw [← HRR.out]
      exact ⟨rfl, _, FIN.out.1, G3.out.trans FIN.out.2⟩
  · rw [if_pos h0] at hR
    have q : (E != 0) = true := by simp [h0]
    have HRR := Hide.mk hR
    clear h0 hR
    go_enter Tryz.func24, Tryz.ntmps24
    go_wp2_with (go_at_call 68; refine HBL.out.mono ?_; rintro e w1 ⟨rfl, rfl⟩)
    go_ret
    rw [← HRR.out]
    exact ⟨rfl, F, HS.out, Goes.refl _ _⟩
end Go.Proofs.YtplkndmkchpcdaaGreat.Sh
end
