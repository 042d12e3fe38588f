/- Pairs at the closed case. -/
import Derived.Test.YtgmkbcoahilkhaaDoorAwC
namespace Go.Proofs.YtgmkbcoahilkhaaDoor.Awake
open Go.RowKit Go.Maps Go.Proofs.YtgmkbcoahilkhaaDoorW.PrintWords Go.Proofs.YtgmkbcoahilkhaaDoorW.PrintLast Go.Proofs.YtgmkbcoahilkhaaDoorW.PrintMore
set_option linter.unusedVariables false
set_option linter.unusedSimpArgs false
set_option maxHeartbeats 2000000
set_option maxRecDepth 100000


theorem pairs5 (a b s : Value) (na : Option Addr) (nc fc fb : Nat) (ts : ByteArray) (hts : ts.size = 200) (w : World) (hF : Facts w fb cl vs) (hfb : fb < w.heap.size) :
    Calls Tryd.prog 11 #[.agg #[a, b, .slice none 0 0, .slice na 1 nc, s], .string ts, .slice (some ⟨fb, 0, none⟩) 2 fc] w fun e w' => e = .returned (.int .i64 5) ∧ Below w.heap.size w w' := by
  have hmm := @run_makeMap Tryd.prog
  have g3 : Below w.heap.size w (((w.alloc (.cells #[a, b, .slice none 0 0, .slice na 1 nc, s] 38)).alloc (.map #[] 0)).alloc (.cells #[.map (some (w.heap.size + 1))] 50)) := below_alloc (below_alloc (below_alloc (Below.refl _ _) _) _) _
  have hmade : isSet (((w.alloc (.cells #[a, b, .slice none 0 0, .slice na 1 nc, s] 38)).alloc (.map #[] 0)).alloc (.cells #[.map (some (w.heap.size + 1))] 50)) (w.heap.size + 1) 0 := by
    have h := World.ownsMap_made (w.alloc (.cells #[a, b, .slice none 0 0, .slice na 1 nc, s] 38)) Tryd.prog 3 (plainElem (H := Unit) Tryd.prog 4)
    rw [show (w.alloc (.cells #[a, b, .slice none 0 0, .slice na 1 nc, s] 38)).heap.size = w.heap.size + 1 by simp] at h
    exact h.kept (row := none) (World.grownBy_alloc _ _ _) (by simp)
  have R0 : Ready (((w.alloc (.cells #[a, b, .slice none 0 0, .slice na 1 nc, s] 38)).alloc (.map #[] 0)).alloc (.cells #[.map (some (w.heap.size + 1))] 50)) 0 (w.heap.size + 1 + 1) (w.heap.size + 1) w.heap.size fb cl vs a b (.slice na 1 nc) s :=
    ⟨by go_simp, hmade, ⟨by go_simp, by go_simp, by go_simp, by go_simp, by go_simp⟩, hF.grown (mb := w.heap.size + 1) (grown_of_below g3 _) (by omega)⟩
  have HS := Aside0.mk (sum_two a b (.slice na 1 nc) s fc _ _ _ fb _ R0 (by omega) (by omega) (by omega))
  have G3 := Aside0.mk g3
  have F3 := Aside0.mk R0.five
  have hsz : (((w.alloc (.cells #[a, b, .slice none 0 0, .slice na 1 nc, s] 38)).alloc (.map #[] 0)).alloc (.cells #[.map (some (w.heap.size + 1))] 50)).heap.size = w.heap.size + 3 := by simp
  have HZ := Aside0.mk hsz
  clear hmade g3 R0 hF hsz
  go_enter Tryd.func11, Tryd.ntmps11
  go_wp2_with (go_at_call 18; refine HS.out.mono ?_; rintro e w2 ⟨rfl, hg⟩
               have F2 := F3.out.grown hg (by omega)
               have FF := Aside0.mk F2
               have B2 := Aside0.mk (G3.out.grown hg (by rw [HZ.out]; omega) (fun j hj => by cases hj; omega))
               have z2 := Aside0.mk (show w.heap.size < w2.heap.size by have := hg.size; rw [HZ.out] at this; omega)
               have f3 := F2.c3
               clear F2 hg)
  go_loopw [7, 9, 25] (fun v7 v9 v25 wr => ∃ n : Nat, v7 = .int .i64 5 ∧ v25 = .int .i64 (n : Int) ∧ n ≤ 1 ∧ Aside0 (Five wr w.heap.size a b (.slice na 1 nc) s) ∧ Aside0 (Below w.heap.size w wr) ∧ Aside0 (w.heap.size < wr.heap.size))
    (fun _ _ v25 _ => 1 - (intOf v25).toNat)
  case atStart => exact ⟨0, by first | rfl | simp, rfl, by omega, FF, B2, z2⟩
  case round =>
    obtain ⟨n, rfl, rfl, hn, hF, hB, hZ⟩ := hrel
    have hn3 : n = 0 ∨ n = 1 := by omega
    rcases hn3 with rfl | rfl
    · have f0 := hF.out.c0
      have f1 := hF.out.c1
      have f2 := hF.out.c2
      have f3 := hF.out.c3
      have f4 := hF.out.c4
      go_wp2_with (go_at_call 12; refine (node0 _ _ _ _ _ _ _).mono ?_; rintro e w4 ⟨rfl, hb⟩
                   have B4 := Aside0.mk (below_step hB.out hb)
                   have F4 := Aside0.mk (hF.out.grown (mb := w.heap.size + 1) (grown_of_below hb _) (by omega))
                   have z4 := Aside0.mk (show w.heap.size < w4.heap.size by have := hb.size; have := hZ.out; omega)
                   clear hb)
      go_roundw
      case rel => exact ⟨1, by go_num, by go_num, by omega, F4, B4, z4⟩
      case measure => simp [intOf]
    · go_wp2
      go_ret
      exact ⟨rfl, hB.out⟩
end Go.Proofs.YtgmkbcoahilkhaaDoor.Awake
