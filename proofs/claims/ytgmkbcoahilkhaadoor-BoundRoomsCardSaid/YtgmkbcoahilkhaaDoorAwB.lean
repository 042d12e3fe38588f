/- The closure of Pairs. -/
import Derived.Test.YtgmkbcoahilkhaaDoorAwA
namespace Go.Proofs.YtgmkbcoahilkhaaDoor.Awake
open Go.RowKit Go.Maps Go.Proofs.YtgmkbcoahilkhaaDoorW.PrintWords Go.Proofs.YtgmkbcoahilkhaaDoorW.PrintLast Go.Proofs.YtgmkbcoahilkhaaDoorW.PrintMore
set_option linter.unusedVariables false
set_option linter.unusedSimpArgs false
set_option maxHeartbeats 2000000
set_option maxRecDepth 100000
/-- The closure of Pairs at a tag that was not seen. -/
theorem fresh_tag (n : Nat) (hn : n < 2) (cl vs a b d s : Value) (hcl : cl.oneCell' = true) (hvs : vs.oneCell' = true) (sb mb nb : Nat) (w : World) (hs : w.cell? ⟨sb, 0, none⟩ = some (.map (some mb))) (hm : isSet w mb n) (hsm : sb ≠ mb) (hnm : nb ≠ mb) (hF : Five w nb a b d s) :
    Calls Tryd.prog 19 #[.agg #[.int .i64 ((n : Int) + 1), cl, vs], .pointer (some ⟨sb, 0, none⟩), .pointer (some ⟨nb, 0, none⟩)] w fun e w' => e = .returned (.int .i64 1) ∧ isSet w' mb (n + 1) ∧ w.grownBy w' (some mb) := by
  have hlt := hm.lt
  have g1 : w.grownBy (w.alloc (.cells #[.int .i64 ((n : Int) + 1), cl, vs] 41)) (some mb) := World.grownBy_alloc _ _ _
  have hm1 : isSet (w.alloc (.cells #[.int .i64 ((n : Int) + 1), cl, vs] 41)) mb n := hm.kept (row := none) (World.grownBy_alloc _ _ _) (by simp)
  have s1 := g1.cell hs (by simpa using hsm)
  have F1 := Aside0.mk (hF.grown g1 hnm)
  have k1 : (w.alloc (.cells #[.int .i64 ((n : Int) + 1), cl, vs] 41)).cell? ⟨w.heap.size, 0, none⟩ = some (.int .i64 ((n : Int) + 1)) := by simp
  have k2 : (w.alloc (.cells #[.int .i64 ((n : Int) + 1), cl, vs] 41)).cell? ⟨w.heap.size, 1, none⟩ = some cl := by simp
  have k3 : (w.alloc (.cells #[.int .i64 ((n : Int) + 1), cl, vs] 41)).cell? ⟨w.heap.size, 2, none⟩ = some vs := by simp
  have K2 := Aside0.mk k2
  have K3 := Aside0.mk k3
  have hne : w.heap.size ≠ mb := by omega
  have G1 := Aside0.mk g1
  have hkey : keyOf Tryd.prog 3 (.int .i64 ((n : Int) + 1)) = some (.int .i64 ((n : Int) + 1)) := keyOf_int_mk Tryd.underlying3 (key_wf n hn)
  have hat := Aside0.mk (not_seen n hn)
  have HM := Aside0.mk hm1
  have HN : Aside0 (n < maxLen) := ⟨by unfold maxLen; omega⟩
  clear hs hm hF g1 hm1 k2 k3
  have hrun : (Instr.lookup 50 (.map (some mb)) (.int .i64 ((n : Int) + 1)) false).run Tryd.prog (w.alloc (.cells #[.int .i64 ((n : Int) + 1), cl, vs] 41)) = .ok (.bool false) (w.alloc (.cells #[.int .i64 ((n : Int) + 1), cl, vs] 41)) := by
    obtain ⟨v, ps, hrun, hv⟩ := HM.out.lookup (t := 50) (e := 4) law3 Tryd.underlying50 (Tryd.zeroValue4 _) (plainElem_bool Tryd.underlying4 false) hkey
    rw [hat.out] at hv
    have ev : v = .bool false := by
      unfold plainElem at hv
      rw [Tryd.underlying4] at hv
      cases v <;> simp at hv
      rw [hv.1]
    subst ev
    exact hrun
  have HK := Aside0.mk hkey
  clear hkey
  go_enter Tryd.func19, Tryd.ntmps19
  go_wp2_with (first
    | (at_mapUpdate; refine wpList_mapUpdate_own _ rfl _ _ _ 50 rfl 3 4 law3 Tryd.underlying50 _ mb n _ rfl HM.out HN.out _ _ _ rfl rfl HK.out _ [] (plainElem_bool Tryd.underlying4 true) ?_; intro w2 hm2 hg2
       have HM2 := Aside0.mk hm2
       have G2 := Aside0.mk (G1.out.trans hg2)
       have F2 := F1.out.grown hg2 hnm
       have f0 := F2.c0
       have f1 := F2.c1
       have f2 := F2.c2
       have f3 := F2.c3
       have f4 := F2.c4
       have q1 := hg2.cell k1 (by simpa using hne)
       have q2 := hg2.cell K2.out (by simpa using hne)
       have q3 := hg2.cell K3.out (by simpa using hne)
       clear hm2 hg2 F2)
    | (go_at_call 20; refine (passing0 _ _ _ _ _ _ _ _).mono ?_; rintro e w3 ⟨rfl, hb⟩; have B3 := Aside0.mk hb; clear hb))
  go_ret
  exact ⟨rfl, HM2.out.kept (row := none) (grown_of_below B3.out none) (by simp), G2.out.trans (grown_of_below B3.out _)⟩
end Go.Proofs.YtgmkbcoahilkhaaDoor.Awake
