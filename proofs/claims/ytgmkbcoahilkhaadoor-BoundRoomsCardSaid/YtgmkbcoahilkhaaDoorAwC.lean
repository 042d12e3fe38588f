/- The sum over two facts, and Pairs. -/
import Derived.Test.YtgmkbcoahilkhaaDoorAwB
namespace Go.Proofs.YtgmkbcoahilkhaaDoor.Awake
open Go.RowKit Go.Maps Go.Proofs.YtgmkbcoahilkhaaDoorW.PrintWords Go.Proofs.YtgmkbcoahilkhaaDoorW.PrintLast Go.Proofs.YtgmkbcoahilkhaaDoorW.PrintMore
set_option linter.unusedVariables false
set_option linter.unusedSimpArgs false
set_option maxHeartbeats 2000000
set_option maxRecDepth 100000

/-- Two facts of the tags 1 and 2. -/
structure Facts (w : World) (fb : Nat) (cl vs : Value) : Prop where
  c0 : w.cell? ⟨fb, 0, none⟩ = some (.int .i64 1)
  c1 : w.cell? ⟨fb, 1, none⟩ = some cl
  c2 : w.cell? ⟨fb, 2, none⟩ = some vs
  c3 : w.cell? ⟨fb, 3, none⟩ = some (.int .i64 2)
  c4 : w.cell? ⟨fb, 4, none⟩ = some cl
  c5 : w.cell? ⟨fb, 5, none⟩ = some vs
theorem Facts.grown {w w' : World} {fb mb : Nat} {cl vs : Value} (h : Facts w fb cl vs) (hg : w.grownBy w' (some mb)) (hne : fb ≠ mb) : Facts w' fb cl vs :=
  ⟨hg.cell h.c0 (by simpa using hne), hg.cell h.c1 (by simpa using hne), hg.cell h.c2 (by simpa using hne), hg.cell h.c3 (by simpa using hne), hg.cell h.c4 (by simpa using hne), hg.cell h.c5 (by simpa using hne)⟩
/-- What the sum's rounds need of the world. -/
structure Ready (w : World) (n sb mb nb fb : Nat) (cl vs a b d s : Value) : Prop where
  box : w.cell? ⟨sb, 0, none⟩ = some (.map (some mb))
  set : isSet w mb n
  five : Five w nb a b d s
  facts : Facts w fb cl vs
theorem Ready.grown {w w' : World} {n sb mb nb fb : Nat} {cl vs a b d s : Value} (h : Ready w n sb mb nb fb cl vs a b d s) (hg : w.grownBy w' (some mb)) (hs : isSet w' mb n) (h1 : sb ≠ mb) (h2 : nb ≠ mb) (h3 : fb ≠ mb) : Ready w' n sb mb nb fb cl vs a b d s :=
  ⟨hg.cell h.box (by simpa using h1), hs, h.five.grown hg h2, h.facts.grown hg h3⟩

abbrev cl : Value := .string ⟨#[99]⟩
abbrev vs : Value := .slice none 0 0
theorem call_one (n : Nat) (z : Int) (hz : z = (n : Int) + 1) (hn : n < 2) (a b d s : Value) (sb mb nb fb : Nat) (w : World) (hR : Ready w n sb mb nb fb cl vs a b d s) (h1 : sb ≠ mb) (h2 : nb ≠ mb) (h3 : fb ≠ mb) :
    Calls Tryd.prog 19 #[.agg #[.int .i64 z, .string ⟨#[99]⟩, .slice none 0 0], .pointer (some ⟨sb, 0, none⟩), .pointer (some ⟨nb, 0, none⟩)] (w.alloc (.cells #[.int .i64 z, .string ⟨#[99]⟩, .slice none 0 0] 41)) fun e w' => e = .returned (.int .i64 1) ∧ Ready w' (n + 1) sb mb nb fb cl vs a b d s ∧ w.grownBy w' (some mb) := by
  subst hz
  have g1 : w.grownBy (w.alloc (.cells #[.int .i64 ((n : Int) + 1), .string ⟨#[99]⟩, .slice none 0 0] 41)) (some mb) := World.grownBy_alloc _ _ _
  have A0 := hR.grown g1 (hR.set.kept (row := none) (World.grownBy_alloc _ _ _) (by simp)) h1 h2 h3
  refine (fresh_tag n hn cl vs a b d s rfl rfl sb mb nb _ A0.box A0.set h1 h2 A0.five).mono ?_
  rintro e w' ⟨he, hs, hg⟩
  exact ⟨he, ⟨(g1.trans hg).cell hR.box (by simpa using h1), hs, hR.five.grown (g1.trans hg) h2, hR.facts.grown (g1.trans hg) h3⟩, g1.trans hg⟩
theorem sum_two (a b d s : Value) (fc sb mb nb fb : Nat) (w : World) (hR : Ready w 0 sb mb nb fb cl vs a b d s) (h1 : sb ≠ mb) (h2 : nb ≠ mb) (h3 : fb ≠ mb) :
    Calls Tryd.prog 18 #[.slice (some ⟨fb, 0, none⟩) 2 fc, .func (.func 19) #[] #[.pointer (some ⟨sb, 0, none⟩), .pointer (some ⟨nb, 0, none⟩)]] w fun e w' => e = .returned (.int .i64 2) ∧ w.grownBy w' (some mb) := by
  have HR := Aside0.mk hR
  clear hR
  go_enter Tryd.func18, Tryd.ntmps18
  go_wp2
  go_loopw [5, 10] (fun v5 v10 wr => ∃ n : Nat, v5 = .int .i64 (n : Int) ∧ v10 = .int .i64 (n : Int) ∧ n ≤ 2 ∧ Aside0 (Ready wr n sb mb nb fb cl vs a b d s) ∧ Aside0 (w.grownBy wr (some mb)))
    (fun _ v10 _ => 2 - (intOf v10).toNat)
  case atStart => exact ⟨0, rfl, rfl, by omega, HR, ⟨World.grownBy.refl _ _⟩⟩
  case round =>
    obtain ⟨n, rfl, rfl, hn, hR, hG⟩ := hrel
    have hn3 : n = 0 ∨ n = 1 ∨ n = 2 := by omega
    rcases hn3 with rfl | rfl | rfl
    · have HC := Aside0.mk (call_one 0 1 rfl (by omega) a b d s sb mb nb fb wr hR.out h1 h2 h3)
      have f0 := hR.out.facts.c0
      have f1 := hR.out.facts.c1
      have f2 := hR.out.facts.c2
      go_wp2_with (go_at_call 19; refine HC.out.mono ?_; rintro e w2 ⟨rfl, hR2, hg2⟩; have R2 := Aside0.mk hR2; have G2 := Aside0.mk (hG.out.trans hg2); clear hR2 hg2)
      go_roundw
      case rel => exact ⟨1, by go_num, by go_num, by omega, R2, G2⟩
      case measure => simp [intOf]
    · have HC := Aside0.mk (call_one 1 2 rfl (by omega) a b d s sb mb nb fb wr hR.out h1 h2 h3)
      have f3 := hR.out.facts.c3
      have f4 := hR.out.facts.c4
      have f5 := hR.out.facts.c5
      go_wp2_with (go_at_call 19; refine HC.out.mono ?_; rintro e w2 ⟨rfl, hR2, hg2⟩; have R2 := Aside0.mk hR2; have G2 := Aside0.mk (hG.out.trans hg2); clear hR2 hg2)
      go_roundw
      case rel => exact ⟨2, by go_num, by go_num, by omega, R2, G2⟩
      case measure => simp [intOf]
    · go_wp2
      go_ret
      exact ⟨rfl, hG.out⟩
end Go.Proofs.YtgmkbcoahilkhaaDoor.Awake
