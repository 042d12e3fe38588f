/- The words, and the contracts of the functions that are reached, one behind the other. -/
import Derived.OwnWalk
import Derived.Test.YtgmkbcoahilkhaaGreatSKC
set_option linter.unusedVariables false
set_option linter.unusedSimpArgs false
section
namespace Go.Proofs.YtgmkbcoahilkhaaGreat.Sh
open Go.RowKit YtgmkbcoahilkhaaGreatW.PrintWords YtgmkbcoahilkhaaGreatW.PrintLast YtgmkbcoahilkhaaGreatW.PrintMore MapFn Disk Bitset Page
set_option maxHeartbeats 16000000
set_option maxRecDepth 100000
theorem exec_storeR {w : World} {g : Nat} {cs cs' : Array Value} {a : Act} {o : Oper} {x y : Operand} (hrow : w.heap[g]? = some (.cells cs 65 (0, 0))) (hop : o.op = Op.store 65 x y)
    (hx : a.eval x = .pointer (some ⟨g, 0, none⟩)) (hy : a.eval y = .agg cs') (hs : cs.size = 6 := by rfl) (hs' : cs'.size = 6 := by rfl) (h1 : cs'.all (·.oneCell') = true := by rfl) :
    (execOp a.eval o).run Tryz.prog w = .ok .skip (w.setRow g cs') := by
  have hrun : (Instr.storeAt 65 (.pointer (some ⟨g, 0, none⟩)) (.agg cs')).run Tryz.prog w = .ok () (w.setRow g cs') := by
    simp only [Instr.storeAt, Instr.sureAddr, Sem.run_bind, Sem.run_pure, Result.andThen]
    exact run_storeVar_row w g _ _ cs cs' hrow (by rw [infoR, hs']) (by rw [hs, hs']) h1
  simp [execOp, hop, hx, hy, hrun, Result.andThen]
theorem stage_rootrow {w : World} {cs : Array Value} : ∃ w2, (w.alloc (.cells #[.int .i64 0, .int .i64 0, .int .i64 0, .int .i64 0, .slice none 0 0, .slice none 0 0] 65)).setRow w.heap.size cs = w2 ∧ w2.heap[w.heap.size]? = some (.cells cs 65 (0, 0)) ∧ Below w.heap.size w w2 := by
  refine ⟨_, rfl, setRow_heap _ _ _ _ _ (0, 0) (heap_last w _), ?_⟩
  exact ((Below.refl _ _).alloc (Nat.le_refl _) _).grown (row := some w.heap.size) ⟨rfl, rfl, rfl, by simp, fun k _ hne => setRow_other _ _ k _ (fun e => hne (by rw [e]))⟩ (by simp) (fun k hk => by cases hk; exact Nat.le_refl _)
theorem layF_keeps (kind : Int) (bl : List Int) : ∀ (ps : List (List Int)) (i : Nat) (s : Sh), ∃ D b, (Sh.layF kind bl ps i s).1 = { s with D := D, bad := b }
  | [], i, s => ⟨s.D, s.bad, rfl⟩
  | p :: ps, i, s => by
    rw [layF_cons]
    split
    · exact ⟨s.D, s.bad, rfl⟩
    · split
      · exact ⟨_, _, rfl⟩
      · obtain ⟨D, b, e⟩ := layF_keeps kind bl ps (i + 1) (s.wr (bl.getD i 0) (sealL kind i p)).1
        exact ⟨D, b, by rw [e]; rfl⟩
theorem splitL_num (l : List Int) : (splitL 246 l).length = (l.length + 245) / 246 := by
  generalize hn : l.length = n
  induction n using Nat.strongRecOn generalizing l with
  | ind n ih =>
    rcases Nat.eq_zero_or_pos n with c | c
    · subst c
      rw [List.length_eq_zero_iff.1 hn]
      rfl
    · rw [splitL_cons 246 (by omega) l (by omega), List.length_cons, ih (n - 246) (by omega) (l.drop 246) (by rw [List.length_drop, hn])]
      omega
theorem usedL_clamp (r : Root) (t : List Int) : (usedL r t).length = Given.clampN r.blocks := by
  unfold usedL
  rw [withL_len, show List.foldl (fun m n => withL m n true) (emptyB r.blocks) ([1] ++ t ++ r.tables ++ r.maps) = fold1 (emptyB r.blocks) ([1] ++ t ++ r.tables ++ r.maps) from rfl, fold1_len, emptyB_len]
theorem crown_keeps (s : Sh) (r : Root) : ∃ D b, (s.crown r).1 = { s with D := D, bad := b } := by
  unfold Sh.crown
  split
  · exact ⟨_, _, rfl⟩
  · split
    · exact ⟨_, _, rfl⟩
    · split
      · exact ⟨_, _, rfl⟩
      · exact ⟨_, _, rfl⟩
def T20_13 : Bool × List (List Nat × List Nat) := (true, [([], []), ([0], [0]), ([1], [1]), ([2], [2]), ([3], [3]), ([4], [4]), ([], []), ([6], [6]), ([7], [7]), ([8], [8]), ([9], [9]), ([], []), ([11], [11]), ([12], [12]), ([13], [13]), ([14], [14]), ([15], [15]), ([16], [16]), ([], []), ([18], [18]), ([19], [19]), ([20], [20]), ([21], [21]), ([], []), ([], []), ([24], [24]), ([23, 25], [23, 25]), ([], []), ([], []), ([28], [28]), ([27, 29], [27, 29]), ([5, 10, 17, 22, 26, 30], [5, 10, 17, 22, 26, 30]), ([], []), ([32, 31, 0, 1, 2, 3, 4, 5, 6, 7, 8, 9, 10, 11, 12, 13, 14, 15, 16, 17, 18, 19, 20, 21, 22, 23, 24, 25, 26, 27, 28, 29, 30, 31, 32], [31, 32])])
def B20_13 : List Nat := [0, 1, 3, 7, 15, 31, 0, 64, 192, 448, 960, 0, 2048, 6144, 14336, 30720, 63488, 129024, 0, 262144, 786432, 1835008, 3932160, 0, 0, 16777216, 58720256, 0, 0, 268435456, 939524096, 2147483647, 0, 8589934591]
theorem tab20_13 : rtab .any (opsOf Tryz.f20 13) = T20_13 := by kernel_rfl
theorem bits20_13 : waitsOk T20_13.2 B20_13 = true := by kernel_rfl
def T20_17 : Bool × List (List Nat × List Nat) := (true, [([], []), ([], []), ([], []), ([2], [2]), ([3], [3]), ([4], [4]), ([5], [5]), ([1, 6], [1, 6]), ([7, 7], [7]), ([], []), ([9], [9]), ([0, 8, 10, 8], [0, 8, 10]), ([11, 11, 0, 1, 2, 3, 4, 5, 6, 7, 8, 9, 10, 11], [11])])
def B20_17 : List Nat := [0, 0, 0, 4, 12, 28, 60, 126, 254, 0, 512, 2047, 4095]
theorem tab20_17 : rtab .any (opsOf Tryz.f20 17) = T20_17 := by kernel_rfl
theorem bits20_17 : waitsOk T20_17.2 B20_17 = true := by kernel_rfl
theorem commit_ne (w : World) (F : Foot) (s : Sh) (h : ShAt w F s) (hk : Ok s) (hmp : 1 ≤ mapsOf s.root.blocks) (hcap : 1 < F.cap)
    (hnx : ∀ l, s.lowest ((splitL 246 (wordsL (s.table.drop 1))).length + mapsOf s.root.blocks) = some l → s.root.epoch < 1099511627776 → (s.next (splitL 246 (wordsL (s.table.drop 1))).length l).check = 0) :
    Calls Tryz.prog 20 #[.pointer (some ⟨F.p, 0, none⟩)] w fun e w' => e = .returned (.int .i64 s.commit.2) ∧ ∃ F', ShAt w' F' s.commit.1 ∧ Goes F F' w w' := by
  have HWI : In .i64 w (some ⟨F.g, 1, none⟩) (s.table.drop 1) (F.cap - 1) := by have := h.table.in_.fromI 1 (by have := hk.table.1; omega); simpa using this
  have HWO0 := words_any (some ⟨F.g, 1, none⟩) (F.cap - 1) (s.table.drop 1) w HWI (fun x hx => by have := hk.table.2.2 x (List.mem_of_mem_drop hx); omega) (by rw [List.length_drop]; have := hk.table.2.1; omega)
  rw [List.length_drop] at HWO0
  have HWO := Hide.mk HWO0
  have HA := Hide.mk (alive_any h)
  have HS := Hide.mk h
  have HK := Hide.mk hk
  have c13 := h.cells.c13
  have c10 := h.cells.c10
  have hmx := tab_max h.table
  obtain ⟨R, hR⟩ : ∃ R, s.commit = R := ⟨_, rfl⟩
  rw [hR]
  unfold Sh.commit at hR
  obtain ⟨a, ha⟩ : ∃ a, s.alive = a := ⟨_, rfl⟩
  obtain ⟨P, hP⟩ : ∃ P, splitL 246 (wordsL (s.table.drop 1)) = P := ⟨_, rfl⟩
  obtain ⟨M, hM⟩ : ∃ P, splitL 246 (emptyB s.root.blocks) = P := ⟨_, rfl⟩
  have hMl : M.length = mapsOf s.root.blocks := by rw [← hM]; rfl
  have HP := Hide.mk hP
  have HM := Hide.mk hM
  have hP1 : P.length ≤ 10000 := by
    have := splitL_count 246 (wordsL (s.table.drop 1))
    rw [hP, wordsL_len, List.length_drop] at this
    have := hk.table.2.1
    omega
  have hPs : P.length ≤ 400 := by
    have h2 := splitL_num (wordsL (s.table.drop 1))
    rw [hP, wordsL_len, List.length_drop] at h2
    have := hk.table.2.1
    omega
  have hM1 : M.length ≤ 512 := by rw [hMl]; exact mapsOf_le _
  have HPM : Hide (P.length ≤ 400 ∧ M.length ≤ 512 ∧ 1 ≤ M.length) := ⟨hPs, hM1, by rw [hMl]; exact hmp⟩
  have htl := hk.table.1
  have htl2 := hk.table.2.1
  simp only [ha, hP, ← hMl] at hR hnx
  rw [ha] at HA
  have HNX := Hide.mk hnx
  clear h hk ha hP hM hMl hmp hnx HWI HWO0 hPs
  by_cases h0 : a = 0
  · subst h0
    rw [if_neg (by simp)] at hR
    cases hd : s.dirty with
    | false =>
      rw [hd] at c13
      rw [if_pos hd] at hR
      clear hd
      go_enter Tryz.func20, Tryz.ntmps20
      go_wp2_with (go_at_call 59; refine HA.out.mono ?_; rintro e w0 ⟨rfl, hw0⟩; obtain rfl : w = w0 := hw0.symm)
      go_ret
      rw [← hR]
      exact ⟨rfl, F, HS.out, Goes.refl _ _⟩
    | true =>
      rw [hd] at c13
      rw [if_neg (by rw [hd]; simp)] at hR
      clear hd
      cases hl : s.lowest (P.length + M.length) with
      | none =>
        simp only [hl] at hR
        have HRR := Hide.mk hR
        have HL := Hide.mk hl
        clear hR hl
        go_enter Tryz.func20, Tryz.ntmps20
        go_wp2_with (first
      | (go_at_call 59; refine HA.out.mono ?_; rintro e w0 ⟨rfl, hw0⟩; obtain rfl : w = w0 := hw0.symm; clear hw0)
      | (go_at_call 63; refine HWO.out.mono ?_; rintro e w4 ⟨v4, rfl, ho, hb4⟩
         obtain ⟨A4, c4, hv4, hi4, hge4⟩ := In.of_own ho
         have HSP := split_any A4 c4 _ w4 hi4 (by rw [wordsL_len, List.length_drop]; have := HK.out.table.2.1; omega)
         rw [HP.out] at HSP
         obtain ⟨n4, hn4⟩ : ∃ n, (wordsL (s.table.drop 1)).length = n := ⟨_, rfl⟩
         rw [hn4] at hv4 HSP
         subst hv4
         have HSP1 := Hide.mk HSP
         have S4 := Hide.mk (HS.out.below hb4)
         have B4 := Hide.mk hb4
         clear ho hb4 hi4 hge4 hn4 HSP; (try clear hcap))
      | (go_at_call 41; with_reducible refine HSP1.out.mono ?_; rintro e w5 ⟨A5, c5, rfl, hp5, hb5⟩
         have S5 := Hide.mk (S4.out.below hb5)
         have P5 := Hide.mk (hp5 F.own S4.out.lts)
         have B5 := Hide.mk (B4.out.trans (hb5.mono B4.out.size))
         have c3 := S5.out.cells.c3
         clear hp5 hb5)
      | (go_at_call 42; refine (Given.make_any s.root.blocks _).mono ?_; rintro e w6 ⟨v6, rfl, ho, hb6⟩
         rw [show List.replicate (Given.clampN s.root.blocks) 0 = emptyB s.root.blocks from rfl] at ho
         obtain ⟨A6, c6, hv6, hi6, hge6⟩ := In.of_own ho
         have HSP := split_any A6 c6 _ w6 hi6 (by rw [emptyB_len]; have := clampN_le s.root.blocks; omega)
         rw [HM.out] at HSP
         obtain ⟨n6, hn6⟩ : ∃ n, (emptyB s.root.blocks).length = n := ⟨_, rfl⟩
         rw [hn6] at hv6 HSP
         subst hv6
         have HSP2 := Hide.mk HSP
         have S6 := Hide.mk (S5.out.below hb6)
         have B6 := Hide.mk hb6
         clear ho hb6 hi6 hge6 hn6 HSP)
      | (go_at_call 41; with_reducible refine HSP2.out.mono ?_; rintro e w7 ⟨A7, c7, rfl, hp7, hb7⟩
         have S7 := Hide.mk (S6.out.below hb7)
         have B7 := Hide.mk (B6.out.trans (hb7.mono B6.out.size))
         have HLO := lowest_any (P.length + M.length) (by have := HPM.out; omega) F s w7 S7.out HK.out
         rw [show ((P.length + M.length : Nat) : Int) = (P.length : Int) + (M.length : Int) by omega] at HLO
         have HLOW := Hide.mk HLO
         clear hp7 hb7 HLO)
      | (go_at_call 61; refine HLOW.out.mono ?_; rintro e w8 ⟨v8, rfl, ho, hb8⟩; rw [HL.out] at ho ⊢; have B8 := Hide.mk hb8; clear ho hb8))
        go_ret
        rw [← HRR.out]
        exact ⟨rfl, F, S7.out.below B8.out, Goes.below ((B5.out.trans (B7.out.mono B5.out.size)).trans (B8.out.mono (Nat.le_trans B5.out.size B7.out.size)))⟩
      | some l =>
        simp only [hl] at hR
        have HRR := Hide.mk hR
        have HL := Hide.mk hl
        have hlf := lowest_facts HK.out hl
        have HLF := Hide.mk hlf
        clear hR hl hlf
        by_cases he : 1099511627776 ≤ s.root.epoch
        · go_enter Tryz.func20, Tryz.ntmps20
          go_wp2_with (first
      | (go_at_call 59; refine HA.out.mono ?_; rintro e w0 ⟨rfl, hw0⟩; obtain rfl : w = w0 := hw0.symm; clear hw0)
      | (go_at_call 63; refine HWO.out.mono ?_; rintro e w4 ⟨v4, rfl, ho, hb4⟩
         obtain ⟨A4, c4, hv4, hi4, hge4⟩ := In.of_own ho
         have HSP := split_any A4 c4 _ w4 hi4 (by rw [wordsL_len, List.length_drop]; have := HK.out.table.2.1; omega)
         rw [HP.out] at HSP
         obtain ⟨n4, hn4⟩ : ∃ n, (wordsL (s.table.drop 1)).length = n := ⟨_, rfl⟩
         rw [hn4] at hv4 HSP
         subst hv4
         have HSP1 := Hide.mk HSP
         have S4 := Hide.mk (HS.out.below hb4)
         have B4 := Hide.mk hb4
         clear ho hb4 hi4 hge4 hn4 HSP; (try clear hcap))
      | (go_at_call 41; with_reducible refine HSP1.out.mono ?_; rintro e w5 ⟨A5, c5, rfl, hp5, hb5⟩
         have S5 := Hide.mk (S4.out.below hb5)
         have P5 := Hide.mk (hp5 F.own S4.out.lts)
         have B5 := Hide.mk (B4.out.trans (hb5.mono B4.out.size))
         have c3 := S5.out.cells.c3
         clear hp5 hb5)
      | (go_at_call 42; refine (Given.make_any s.root.blocks _).mono ?_; rintro e w6 ⟨v6, rfl, ho, hb6⟩
         rw [show List.replicate (Given.clampN s.root.blocks) 0 = emptyB s.root.blocks from rfl] at ho
         obtain ⟨A6, c6, hv6, hi6, hge6⟩ := In.of_own ho
         have HSP := split_any A6 c6 _ w6 hi6 (by rw [emptyB_len]; have := clampN_le s.root.blocks; omega)
         rw [HM.out] at HSP
         obtain ⟨n6, hn6⟩ : ∃ n, (emptyB s.root.blocks).length = n := ⟨_, rfl⟩
         rw [hn6] at hv6 HSP
         subst hv6
         have HSP2 := Hide.mk HSP
         have S6 := Hide.mk (S5.out.below hb6)
         have B6 := Hide.mk hb6
         clear ho hb6 hi6 hge6 hn6 HSP)
      | (go_at_call 41; with_reducible refine HSP2.out.mono ?_; rintro e w7 ⟨A7, c7, rfl, hp7, hb7⟩
         have S7 := Hide.mk (S6.out.below hb7)
         have B7 := Hide.mk (B6.out.trans (hb7.mono B6.out.size))
         have HLO := lowest_any (P.length + M.length) (by have := HPM.out; omega) F s w7 S7.out HK.out
         rw [show ((P.length + M.length : Nat) : Int) = (P.length : Int) + (M.length : Int) by omega] at HLO
         have HLOW := Hide.mk HLO
         clear hp7 hb7 HLO)
      | (go_at_call 61; refine HLOW.out.mono ?_; rintro e w8 ⟨v8, rfl, ho, hb8⟩; rw [HL.out] at ho ⊢
         obtain ⟨A8, c8, hv8, hi8, hge8⟩ := In.of_own ho
         have hv8' : v8 = .slice A8 l.length c8 := hv8
         subst hv8'
         have S8 := Hide.mk (S7.out.below hb8)
         have I8 := Hide.mk (show In .i64 w8 A8 l c8 from hi8)
         have GE8 := Hide.mk (show ∀ a, A8 = some a → w7.heap.size ≤ a.block from hge8)
         have B8 := Hide.mk hb8
         have c2 := S8.out.cells.c2
         clear ho hb8 hi8 hge8 hv8))
          go_ret
          have hR := HRR.out
          rw [if_pos (by assumption)] at hR
          rw [← hR]
          exact ⟨rfl, F, S8.out, Goes.below ((B5.out.trans (B7.out.mono B5.out.size)).trans (B8.out.mono (Nat.le_trans B5.out.size B7.out.size)))⟩
        · have HE := Hide.mk he
          go_enter Tryz.func20, Tryz.ntmps20
          go_wp2_with (first
      | (go_at_call 59; refine HA.out.mono ?_; rintro e w0 ⟨rfl, hw0⟩; obtain rfl : w = w0 := hw0.symm; clear hw0)
      | (go_at_call 63; refine HWO.out.mono ?_; rintro e w4 ⟨v4, rfl, ho, hb4⟩
         obtain ⟨A4, c4, hv4, hi4, hge4⟩ := In.of_own ho
         have HSP := split_any A4 c4 _ w4 hi4 (by rw [wordsL_len, List.length_drop]; have := HK.out.table.2.1; omega)
         rw [HP.out] at HSP
         obtain ⟨n4, hn4⟩ : ∃ n, (wordsL (s.table.drop 1)).length = n := ⟨_, rfl⟩
         rw [hn4] at hv4 HSP
         subst hv4
         have HSP1 := Hide.mk HSP
         have S4 := Hide.mk (HS.out.below hb4)
         have B4 := Hide.mk hb4
         clear ho hb4 hi4 hge4 hn4 HSP; (try clear hcap))
      | (go_at_call 41; with_reducible refine HSP1.out.mono ?_; rintro e w5 ⟨A5, c5, rfl, hp5, hb5⟩
         have S5 := Hide.mk (S4.out.below hb5)
         have P5 := Hide.mk (hp5 F.own S4.out.lts)
         have B5 := Hide.mk (B4.out.trans (hb5.mono B4.out.size))
         have c3 := S5.out.cells.c3
         clear hp5 hb5)
      | (go_at_call 42; refine (Given.make_any s.root.blocks _).mono ?_; rintro e w6 ⟨v6, rfl, ho, hb6⟩
         rw [show List.replicate (Given.clampN s.root.blocks) 0 = emptyB s.root.blocks from rfl] at ho
         obtain ⟨A6, c6, hv6, hi6, hge6⟩ := In.of_own ho
         have HSP := split_any A6 c6 _ w6 hi6 (by rw [emptyB_len]; have := clampN_le s.root.blocks; omega)
         rw [HM.out] at HSP
         obtain ⟨n6, hn6⟩ : ∃ n, (emptyB s.root.blocks).length = n := ⟨_, rfl⟩
         rw [hn6] at hv6 HSP
         subst hv6
         have HSP2 := Hide.mk HSP
         have S6 := Hide.mk (S5.out.below hb6)
         have B6 := Hide.mk hb6
         clear ho hb6 hi6 hge6 hn6 HSP)
      | (go_at_call 41; with_reducible refine HSP2.out.mono ?_; rintro e w7 ⟨A7, c7, rfl, hp7, hb7⟩
         have S7 := Hide.mk (S6.out.below hb7)
         have B7 := Hide.mk (B6.out.trans (hb7.mono B6.out.size))
         have HLO := lowest_any (P.length + M.length) (by have := HPM.out; omega) F s w7 S7.out HK.out
         rw [show ((P.length + M.length : Nat) : Int) = (P.length : Int) + (M.length : Int) by omega] at HLO
         have HLOW := Hide.mk HLO
         clear hp7 hb7 HLO)
      | (go_at_call 61; refine HLOW.out.mono ?_; rintro e w8 ⟨v8, rfl, ho, hb8⟩; rw [HL.out] at ho ⊢
         obtain ⟨A8, c8, hv8, hi8, hge8⟩ := In.of_own ho
         have hv8' : v8 = .slice A8 l.length c8 := hv8
         subst hv8'
         have S8 := Hide.mk (S7.out.below hb8)
         have I8 := Hide.mk (show In .i64 w8 A8 l c8 from hi8)
         have GE8 := Hide.mk (show ∀ a, A8 = some a → w7.heap.size ≤ a.block from hge8)
         have B8 := Hide.mk hb8
         have c2 := S8.out.cells.c2
         clear ho hb8 hi8 hge8 hv8))
          have hll : l.length = P.length + M.length := HLF.out.1
          obtain ⟨g8, off8, rfl⟩ := atI I8.out (by have := HPM.out; omega)
          have SD := Hide.mk (S8.out.below (below_drew (Below.refl w8.heap.size w8)))
          have KC := SD.out.cells
          have hep := HK.out.epoch
          have hep2 := HE.out
          have hc8 := I8.out.room
          have hm1 := HPM.out.2.2
          have hcap2 := hmx.1
          rw [hll] at hc8
          have hb1 : P.length ≤ c8 := by omega
          have hb2 : P.length < c8 := by omega
          have hb3 : (P.length : Int) ≤ (P.length : Int) + (M.length : Int) := by omega
          have hb4 : (P.length : Int) ≤ (c8 : Int) := by omega
          have hb5 : (P.length : Int) + (M.length : Int) ≤ (c8 : Int) := by omega
          have hb6 : (P.length : Int) + (M.length : Int) - (P.length : Int) = (M.length : Int) := by omega
          have hw1 : wrap64 (s.root.epoch + 1) = s.root.epoch + 1 := wrap_ok (by omega) (by omega)
          have hw2 : wrap64 ((s.table.length : Int) - 1) = (s.table.length : Int) - 1 := wrap_ok (by omega) (by omega)
          have hbne : ¬ c8 = P.length := by omega
          have hb7 : P.length + M.length - P.length = M.length := by omega
          obtain ⟨br, hbr⟩ : ∃ br, w8.drew.heap.size = br := ⟨_, rfl⟩
          refine start_ (n := 34) (S := fun w' => ShCells w' F s) (ds := []) #[false, false, false, false, false, false, false, false, false, false, false, false, false, false, false, false, false, false, false, false, false, false, false, false, false, false, false, false, false, false, false, false, false, false] (by kernel_rfl) rfl rfl KC (fun hHeld => ?_); refine with_tabW tab20_13 bits20_13 (fun HT_ HW_ => ?_)
          refine pu_ (i := 0) (N := some 67) (v := ?_) (a' := ?_) (bls 34 1) HT_.out rfl rfl (by kernel_rfl) (by rfl) ?_ ?_ ?_
          rotate_left
          · intro w'; go_simp; with_reducible rfl
          rotate_left
          · simp only [Act.put, qT_, q0_, q1_, i64_w, i32_w]; rfl
          refine pu_ (i := 1) (N := some 68) (v := ?_) (a' := ?_) (bls 34 3) HT_.out rfl rfl (by kernel_rfl) (by rfl) ?_ ?_ ?_
          rotate_left
          · intro w'; go_simp; with_reducible rfl
          rotate_left
          · simp only [Act.put, qT_, q0_, q1_, i64_w, i32_w]; rfl
          refine pu_ (i := 2) (N := some 69) (v := ?_) (a' := ?_) (bls 34 7) HT_.out rfl rfl (by kernel_rfl) (by rfl) ?_ ?_ ?_
          rotate_left
          · intro w'; go_simp; with_reducible rfl
          rotate_left
          · simp only [Act.put, qT_, q0_, q1_, i64_w, i32_w]; rfl
          refine pu_ (i := 3) (N := some 70) (v := ?_) (a' := ?_) (bls 34 15) HT_.out rfl rfl (by kernel_rfl) (by rfl) ?_ ?_ ?_
          rotate_left
          · intro w'; go_simp; with_reducible rfl
          rotate_left
          · simp only [Act.put, qT_, q0_, q1_, i64_w, i32_w]; rfl
          refine take_ (i := 4) (N := some 71) (v := ?_) (a' := ?_) (bls 34 31) rfl rfl (take_ofW HT_.out HW_.out (by kernel_rfl)) (fun _ _ _ h => h) (Or.inl ⟨by rfl, ?_⟩) hHeld ?_ ?_
          rotate_left
          · intro w' hS'
            have s1 := hS'.c2
            go_simp
            rfl
          rotate_left
          · simp only [Act.put, qT_, q0_, q1_, i64_w, i32_w]; rfl
          refine pu_ (i := 5) (N := some 72) (v := ?_) (a' := ?_) (bls 34 63) HT_.out rfl rfl (by kernel_rfl) (by rfl) ?_ ?_ ?_
          rotate_left
          · intro w'; go_simp; with_reducible rfl
          rotate_left
          · simp only [Act.put, qT_, q0_, q1_, i64_w, i32_w]; rfl
          refine pu_ (i := 6) (N := some 73) (v := ?_) (a' := ?_) (bls 34 127) HT_.out rfl rfl (by kernel_rfl) (by rfl) ?_ ?_ ?_
          rotate_left
          · intro w'; go_simp; with_reducible rfl
          rotate_left
          · simp only [Act.put, qT_, q0_, q1_, i64_w, i32_w]; rfl
          refine pu_ (i := 7) (N := some 74) (v := ?_) (a' := ?_) (bls 34 255) HT_.out rfl rfl (by kernel_rfl) (by rfl) ?_ ?_ ?_
          rotate_left
          · intro w'; go_simp; with_reducible rfl
          rotate_left
          · simp only [Act.put, qT_, q0_, q1_, i64_w, i32_w]; rfl
          refine pu_ (i := 8) (N := some 75) (v := ?_) (a' := ?_) (bls 34 511) HT_.out rfl rfl (by kernel_rfl) (by rfl) ?_ ?_ ?_
          rotate_left
          · intro w'; go_simp; with_reducible rfl
          rotate_left
          · simp only [Act.put, qT_, q0_, q1_, i64_w, i32_w]; rfl
          refine pu_ (i := 9) (N := some 76) (v := ?_) (a' := ?_) (bls 34 1023) HT_.out rfl rfl (by kernel_rfl) (by rfl) ?_ ?_ ?_
          rotate_left
          · intro w'; go_simp; with_reducible rfl
          rotate_left
          · simp only [Act.put, qT_, q0_, q1_, i64_w, i32_w]; rfl
          refine take_ (i := 10) (N := some 77) (v := ?_) (a' := ?_) (bls 34 2047) rfl rfl (take_ofW HT_.out HW_.out (by kernel_rfl)) (fun _ _ _ h => h) (Or.inl ⟨by rfl, ?_⟩) hHeld ?_ ?_
          rotate_left
          · intro w' hS'
            have s1 := hS'.c3
            go_simp
            rfl
          rotate_left
          · simp only [Act.put, qT_, q0_, q1_, i64_w, i32_w]; rfl
          refine pu_ (i := 11) (N := some 78) (v := ?_) (a' := ?_) (bls 34 4095) HT_.out rfl rfl (by kernel_rfl) (by rfl) ?_ ?_ ?_
          rotate_left
          · intro w'; go_simp; with_reducible rfl
          rotate_left
          · simp only [Act.put, qT_, q0_, q1_, i64_w, i32_w]; rfl
          refine pu_ (i := 12) (N := some 79) (v := ?_) (a' := ?_) (bls 34 8191) HT_.out rfl rfl (by kernel_rfl) (by rfl) ?_ ?_ ?_
          rotate_left
          · intro w'; go_simp; with_reducible rfl
          rotate_left
          · simp only [Act.put, qT_, q0_, q1_, i64_w, i32_w]; rfl
          refine pu_ (i := 13) (N := some 80) (v := ?_) (a' := ?_) (bls 34 16383) HT_.out rfl rfl (by kernel_rfl) (by rfl) ?_ ?_ ?_
          rotate_left
          · intro w'; go_simp; with_reducible rfl
          rotate_left
          · simp only [Act.put, qT_, q0_, q1_, i64_w, i32_w]; rfl
          refine pu_ (i := 14) (N := some 81) (v := ?_) (a' := ?_) (bls 34 32767) HT_.out rfl rfl (by kernel_rfl) (by rfl) ?_ ?_ ?_
          rotate_left
          · intro w'; go_simp; with_reducible rfl
          rotate_left
          · simp only [Act.put, qT_, q0_, q1_, i64_w, i32_w]; rfl
          refine take_ (i := 15) (N := some 82) (v := ?_) (a' := ?_) (bls 34 65535) rfl rfl (take_ofW HT_.out HW_.out (by kernel_rfl)) (fun _ _ _ h => h) (Or.inl ⟨by rfl, ?_⟩) hHeld ?_ ?_
          rotate_left
          · intro w' hS'
            have s1 := hS'.c10
            go_simp
            rfl
          rotate_left
          · simp only [Act.put, qT_, q0_, q1_, i64_w, i32_w]; rfl
          refine pu_ (i := 16) (N := some 83) (v := ?_) (a' := ?_) (bls 34 131071) HT_.out rfl rfl (by kernel_rfl) (by rfl) ?_ ?_ ?_
          rotate_left
          · intro w'; go_simp; with_reducible rfl
          rotate_left
          · simp only [Act.put, qT_, q0_, q1_, i64_w, i32_w]; rfl
          refine pu_ (i := 17) (N := some 84) (v := ?_) (a' := ?_) (bls 34 262143) HT_.out rfl rfl (by kernel_rfl) (by rfl) ?_ ?_ ?_
          rotate_left
          · intro w'; go_simp; with_reducible rfl
          rotate_left
          · simp only [Act.put, qT_, q0_, q1_, i64_w, i32_w]; rfl
          refine pu_ (i := 18) (N := some 85) (v := ?_) (a' := ?_) (bls 34 524287) HT_.out rfl rfl (by kernel_rfl) (by rfl) ?_ ?_ ?_
          rotate_left
          · intro w'; go_simp; with_reducible rfl
          rotate_left
          · simp only [Act.put, qT_, q0_, q1_, i64_w, i32_w]; rfl
          refine pu_ (i := 19) (N := some 86) (v := ?_) (a' := ?_) (bls 34 1048575) HT_.out rfl rfl (by kernel_rfl) (by rfl) ?_ ?_ ?_
          rotate_left
          · intro w'; go_simp; with_reducible rfl
          rotate_left
          · simp only [Act.put, qT_, q0_, q1_, i64_w, i32_w]; rfl
          refine pu_ (i := 20) (N := some 87) (v := ?_) (a' := ?_) (bls 34 2097151) HT_.out rfl rfl (by kernel_rfl) (by rfl) ?_ ?_ ?_
          rotate_left
          · intro w'; go_simp; with_reducible rfl
          rotate_left
          · simp only [Act.put, qT_, q0_, q1_, i64_w, i32_w]; rfl
          refine pu_ (i := 21) (N := some 88) (v := ?_) (a' := ?_) (bls 34 4194303) HT_.out rfl rfl (by kernel_rfl) (by rfl) ?_ ?_ ?_
          rotate_left
          · intro w'; go_simp; with_reducible rfl
          rotate_left
          · simp only [Act.put, qT_, q0_, q1_, i64_w, i32_w]; rfl
          refine take_ (i := 22) (N := some 89) (v := ?_) (a' := ?_) (bls 34 8388607) rfl rfl (take_ofW HT_.out HW_.out (by kernel_rfl)) (fun _ _ _ h => h) (Or.inl ⟨by rfl, ?_⟩) hHeld ?_ ?_
          rotate_left
          · intro w' hS'
            have s1 := hS'.c11
            go_simp
            rfl
          rotate_left
          · simp only [Act.put, qT_, q0_, q1_, i64_w, i32_w]; rfl
          refine pu_ (i := 23) (N := some 90) (v := ?_) (a' := ?_) (bls 34 16777215) HT_.out rfl rfl (by kernel_rfl) (by rfl) ?_ ?_ ?_
          rotate_left
          · intro w'; go_simp; with_reducible rfl
          rotate_left
          · simp only [Act.put, qT_, q0_, q1_, i64_w, i32_w]; rfl
          refine pu_ (i := 24) (N := some 91) (v := ?_) (a' := ?_) (bls 34 33554431) HT_.out rfl rfl (by kernel_rfl) (by rfl) ?_ ?_ ?_
          rotate_left
          · intro w'; go_simp; with_reducible rfl
          rotate_left
          · simp only [Act.put, qT_, q0_, q1_, i64_w, i32_w]; rfl
          refine pu_ (i := 25) (N := some 92) (v := ?_) (a' := ?_) (bls 34 67108863) HT_.out rfl rfl (by kernel_rfl) (by rfl) ?_ ?_ ?_
          rotate_left
          · intro w'; go_simp; with_reducible rfl
          rotate_left
          · simp only [Act.put, qT_, q0_, q1_, i64_w, i32_w]; rfl
          refine pu_ (i := 26) (N := some 93) (v := ?_) (a' := ?_) (bls 34 134217727) HT_.out rfl rfl (by kernel_rfl) (by rfl) ?_ ?_ ?_
          rotate_left
          · intro w'; go_simp; with_reducible rfl
          rotate_left
          · simp only [Act.put, qT_, q0_, q1_, i64_w, i32_w]; rfl
          refine pu_ (i := 27) (N := some 94) (v := ?_) (a' := ?_) (bls 34 268435455) HT_.out rfl rfl (by kernel_rfl) (by rfl) ?_ ?_ ?_
          rotate_left
          · intro w'; go_simp; with_reducible rfl
          rotate_left
          · simp only [Act.put, qT_, q0_, q1_, i64_w, i32_w]; rfl
          refine pu_ (i := 28) (N := some 95) (v := ?_) (a' := ?_) (bls 34 536870911) HT_.out rfl rfl (by kernel_rfl) (by rfl) ?_ ?_ ?_
          rotate_left
          · intro w'; go_simp; with_reducible rfl
          rotate_left
          · simp only [Act.put, qT_, q0_, q1_, i64_w, i32_w]; rfl
          refine pu_ (i := 29) (N := some 96) (v := ?_) (a' := ?_) (bls 34 1073741823) HT_.out rfl rfl (by kernel_rfl) (by rfl) ?_ ?_ ?_
          rotate_left
          · intro w'; go_simp; with_reducible rfl
          rotate_left
          · simp only [Act.put, qT_, q0_, q1_, i64_w, i32_w]; rfl
          refine pu_ (i := 30) (N := some 97) (v := ?_) (a' := ?_) (bls 34 2147483647) HT_.out rfl rfl (by kernel_rfl) (by rfl) ?_ ?_ ?_
          rotate_left
          · intro w'; go_simp; with_reducible rfl
          rotate_left
          · simp only [Act.put, qT_, q0_, q1_, i64_w, i32_w]; rfl
          refine pu_ (i := 31) (N := some 98) (v := ?_) (a' := ?_) (bls 34 4294967295) HT_.out rfl rfl (by kernel_rfl) (by rfl) ?_ ?_ ?_
          rotate_left
          · intro w'; go_simp; with_reducible rfl
          rotate_left
          · simp only [Act.put, qT_, q0_, q1_, i64_w, i32_w]; rfl
          refine one_ (i := 32) (N := some 9) (bls 34 8589934591) rfl rfl (one_of HT_.out (by kernel_rfl)) (by decide) (fun K hK => ?_)
          have hBa := (Below.refl w8.drew.heap.size w8.drew).alloc (Nat.le_refl _) (.cells #[.int .i64 0, .int .i64 0, .int .i64 0, .int .i64 0, .slice none 0 0, .slice none 0 0] 65)
          have KC1 := (SD.out.below hBa).cells
          refine value_ (v := .pointer (some ⟨w8.drew.heap.size, 0, none⟩)) (w1 := w8.drew.alloc (.cells #[.int .i64 0, .int .i64 0, .int .i64 0, .int .i64 0, .slice none 0 0, .slice none 0 0] 65)) (by rfl) rfl ?_ ?_
          · first | (go_simp; done) | (go_simp; rfl)
          refine hK.out _ _ KC1 (fun hHeld => ?_)
          clear hK K
          refine norm_ (a' := ?_) ?_ ?_
          rotate_left
          · show Act.put _ (some 9) _ = _; simp only [Act.put, qT_, q0_, q1_, i64_w, i32_w]; rfl
          refine one_ (i := 33) (N := none) (bls 34 17179869183) rfl rfl (one_of HT_.out (by kernel_rfl)) (by decide) (fun K hK => ?_)
          obtain ⟨wr, hwr, rowr, hBr⟩ := stage_rootrow (w := w8.drew) (cs := #[.int .i64 (s.root.epoch + 1), .int .i64 s.root.blocks, .int .i64 ((s.table.length : Int) - 1), .int .i64 s.start, .slice (some ⟨g8, off8, none⟩) P.length c8, .slice (some ⟨g8, off8 + P.length, none⟩) M.length (c8 - P.length)])
          have KC2 := (SD.out.below hBr).cells
          refine skip_ (w1 := wr) (by rfl) rfl ?_ ?_
          · rw [← hwr]; refine exec_storeR (heap_last _ _) (by rfl) (by rfl) ?_ (by rfl) (by rfl) (by simp [Value.oneCell']); (conv => lhs; whnf); (try rw [hw1, hw2, if_neg hbne])
          refine hK.out _ _ KC2 (fun hHeld => ?_)
          clear hK K
          refine norm_ (a' := ?_) ?_ ?_
          rotate_left
          · rfl
          refine done_ (done_of HT_.out (by kernel_rfl)) ?_
          clear KC KC1 KC2 hHeld hBa
          rw [hbr] at rowr ⊢
          have hoffb : ¬ br ∈ F.own := fun hx => by have := SD.out.lts _ hx; omega
          have BD := below_drew (Below.refl w8.heap.size w8)
          have m8r : Moves [] w8 wr := (Moves.of_below BD []).trans (Moves.of_below hBr [])
          have m5r : Moves [] w5 wr := (Moves.of_below B7.out []).trans ((Moves.of_below B8.out []).trans m8r)
          have m0r : Moves [] w wr := (Moves.of_below B5.out []).trans m5r
          have SR := SD.out.below hBr
          have PR := P5.out.moves m5r (by simp)
          have IR : In .i64 wr (some ⟨g8, off8, none⟩) l c8 := I8.out.moves m8r (by simp)
          have hlt : (l.take P.length).length = P.length := by rw [List.length_take]; omega
          have hld : (l.drop P.length).length = M.length := by rw [List.length_drop]; omega
          have GE8W : Hide (w.heap.size ≤ g8) := ⟨Nat.le_trans B5.out.size (Nat.le_trans B7.out.size (GE8.out ⟨g8, off8, none⟩ rfl))⟩
          have hg8 : ∀ a, (some ⟨g8, off8, none⟩ : Option Addr) = some a → ¬ a.block ∈ F.own := fun a ha hx => by have := GE8.out a ha; have := S7.out.lts _ hx; omega
          have hg9 : ∀ a, (some ⟨g8, off8 + P.length, none⟩ : Option Addr) = some a → ¬ a.block ∈ F.own := fun a ha => by cases ha; exact hg8 ⟨g8, off8, none⟩ rfl
          have IT : In .i64 wr (some ⟨g8, off8, none⟩) (l.take P.length) c8 := IR.take P.length c8 (by omega) hb1
          have IM : In .i64 wr (some ⟨g8, off8 + P.length, none⟩) (l.drop P.length) (c8 - P.length) := IR.fromI P.length (by omega)
          have hwf : ∀ n ∈ l, MapFn.wf n := fun n hn => wf_small (HLF.out.2 n hn).1 (HLF.out.2 n hn).2
          obtain ⟨r, hr⟩ : ∃ r, s.next P.length l = r := ⟨_, rfl⟩
          have hrT : r.tables = l.take P.length := by rw [← hr]; rfl
          have hrM : r.maps = l.drop P.length := by rw [← hr]; rfl
          have hrB : r.blocks = s.root.blocks := by rw [← hr]; rfl
          have hrE : r.epoch = s.root.epoch + 1 := by rw [← hr]; rfl
          have hrN : r.next = (s.table.length : Int) - 1 := by rw [← hr]; rfl
          have hrS : r.start = s.start := by rw [← hr]; rfl
          have RI : RootIn wr r (some ⟨g8, off8, none⟩) c8 (some ⟨g8, off8 + P.length, none⟩) (c8 - P.length) F.own := ⟨by rw [hrT]; exact IT, by rw [hrM]; exact IM, hg8, hg9, by rw [hrT, hrM, hlt, hld]; have := HPM.out; omega, by rw [hrB]; have := HK.out.blocks; omega⟩
          have hval : r.val (some ⟨g8, off8, none⟩) c8 (some ⟨g8, off8 + P.length, none⟩) (c8 - P.length) = .agg #[.int .i64 (s.root.epoch + 1), .int .i64 s.root.blocks, .int .i64 ((s.table.length : Int) - 1), .int .i64 s.start, .slice (some ⟨g8, off8, none⟩) P.length c8, .slice (some ⟨g8, off8 + P.length, none⟩) M.length (c8 - P.length)] := by
            unfold Root.val
            rw [hrT, hrM, hrB, hrE, hrN, hrS, hlt, hld]
          have hch : r.check = 0 := by rw [← hr]; exact HNX.out l HL.out (by have := HE.out; omega)
          have hPb : ∀ p ∈ P, Bytes p := by rw [← HP.out]; exact splitL_bytes (wordsL_bytes _)
          have L10 := lay_any 1 A5 c5 P (some ⟨g8, off8, none⟩) c8 (l.take P.length) wr F s SR PR IT hg8 (by omega) (by have := HPM.out; omega) (fun n hn => hwf n (List.mem_of_mem_take hn)) hPb
          rw [hlt] at L10
          obtain ⟨s1, e1, hL1⟩ : ∃ s1 e1, s.lay 1 P (l.take P.length) = (s1, e1) := ⟨_, _, rfl⟩
          obtain ⟨D1, b1, hk1⟩ := layF_keeps 1 (l.take P.length) P 0 s
          rw [show Sh.layF 1 (l.take P.length) P 0 s = s.lay 1 P (l.take P.length) from rfl, hL1] at hk1
          rw [hL1] at L10
          have L1 := Hide.mk L10
          obtain ⟨U, hU⟩ : ∃ U, splitL 246 (usedL r s.table) = U := ⟨_, rfl⟩
          have hUM : U.length = M.length := by rw [← hU, ← HM.out, splitL_num, splitL_num, usedL_clamp, emptyB_len, hrB]
          obtain ⟨s2, e2, hL2⟩ : ∃ s2 e2, s1.lay 2 U (l.drop P.length) = (s2, e2) := ⟨_, _, rfl⟩
          obtain ⟨D2, b2, hk2⟩ := layF_keeps 2 (l.drop P.length) U 0 s1
          rw [show Sh.layF 2 (l.drop P.length) U 0 s1 = s1.lay 2 U (l.drop P.length) from rfl, hL2] at hk2
          obtain ⟨s3, e3, hL3⟩ : ∃ s3 e3, s2.crown r = (s3, e3) := ⟨_, _, rfl⟩
          obtain ⟨D3, b3, hk3⟩ := crown_keeps s2 r
          rw [hL3] at hk3
          have ht1 : s1.table = s.table := by rw [show s1 = _ from hk1]
          have ht2 : s2.table = s.table := by rw [show s2 = _ from hk2]; exact ht1
          have ht3 : s3.table = s.table := by rw [show s3 = _ from hk3]; exact ht2
          have hR := HRR.out
          rw [if_neg (by have := HE.out; omega)] at hR
          simp only [hr, hrT, hrM, hU, hL1, hL2, hL3] at hR
          have HR1 := Hide.mk hR
          have HU := Hide.mk hU
          have HUM := Hide.mk (And.intro hUM (show M.length ≤ 512 from HPM.out.2.1))
          have HT := Hide.mk (And.intro ht1 (And.intro ht2 ht3))
          have HRI0 := Hide.mk RI
          have HOFFM := Hide.mk hg9
          have HDL := Hide.mk hld
          have HWFM : Hide (∀ n ∈ l.drop P.length, MapFn.wf n) := ⟨fun n hn => hwf n (List.mem_of_mem_drop hn)⟩
          have HUB2 : Hide (∀ p ∈ U, Bytes p) := ⟨by rw [← hU]; exact splitL_bytes (usedL_bytes _ _)⟩
          have HLL2 := Hide.mk hL2
          have HLL3 := Hide.mk hL3
          have HBRO := Hide.mk hoffb
          have HCH := Hide.mk hch
          have HVAL := Hide.mk hval
          have HG0 := Hide.mk (Goes.below (F := F) m0r.below)
          have HROW := Hide.mk rowr
          have HRM := Hide.mk hrM
          have k4 := cell_of (i := 4) rowr
          simp at k4
          have HB := Hide.mk (And.intro hb1 hb2)
          have HRS : Hide (r.tables.length + r.maps.length ≤ 1000) := ⟨by rw [hrT, hrM, hlt, hld]; have := HPM.out; omega⟩
          clear hoffb BD m8r m5r m0r SR PR IR hg8 hg9 IT IM hwf RI hval hch hPb L10 hU hUM hL1 hL2 hL3 hk1 hk2 hk3 ht1 ht2 ht3 hR rowr hBr hw1 hw2 hbne hb1 hb2 hb3 hb4 hb5 hb6 hb7 hc8 hll hrT hrM hrB hrE hrN hrS hr hlt hld hep hep2 hm1 hcap2 hwr hbr
          by_cases he1 : e1 = 0
          · subst he1
            go_wp2_with (go_at_call 44; (try with_reducible refine L1.out.mono ?_); rintro e w9 ⟨rfl, hs9, hg9⟩; have S9 := Hide.mk hs9; have G9 := Hide.mk hg9; clear hs9 hg9)
            have B9D := below_drew (Below.refl w9.heap.size w9)
            have SLD := Hide.mk (S9.out.below B9D)
            have row9 := (G9.out.moves.block br (lt_of_row HROW.out) HBRO.out).trans HROW.out
            have HRI9 := HRI0.out.moves G9.out.moves (fun x hx => .inl hx)
            have HRI := Hide.mk (HRI9.moves (Moves.of_below B9D []) (by simp))
            have TAB := SLD.out.table.in_
            rw [HT.out.1] at TAB
            have HUB0 := usedBy_any r s.table (some ⟨F.g, 0, none⟩) F.cap c8 (c8 - P.length) (some ⟨g8, off8, none⟩) (some ⟨g8, off8 + P.length, none⟩) w9.drew HRI.out.tables HRI.out.maps TAB (by have := HRS.out; omega)
            rw [HVAL.out] at HUB0
            have HUB := Hide.mk HUB0
            have H9 := Hide.mk (And.intro B9D HRI9)
            have KD : w9.drew.heap[br]? = _ ∧ w9.drew.cell? ⟨F.p, 10, none⟩ = some (.slice (some ⟨F.g, 0, none⟩) s.table.length F.cap) := And.intro (show w9.drew.heap[br]? = _ from row9) (by have := SLD.out.cells.c10; rw [HT.out.1] at this; exact this)
            clear row9 HRI9 TAB HUB0 B9D k4
            refine start_ (n := 13) (S := fun w' => w'.heap[br]? = some (.cells #[.int .i64 (s.root.epoch + 1), .int .i64 s.root.blocks, .int .i64 ((s.table.length : Int) - 1), .int .i64 s.start, .slice (some ⟨g8, off8, none⟩) P.length c8, .slice (some ⟨g8, off8 + P.length, none⟩) M.length (c8 - P.length)] 65 (0, 0)) ∧ w'.cell? ⟨F.p, 10, none⟩ = some (.slice (some ⟨F.g, 0, none⟩) s.table.length F.cap)) (ds := []) #[false, false, false, false, false, false, false, false, false, false, false, false, false] (by kernel_rfl) rfl rfl KD (fun hHeld => ?_); refine with_tabW tab20_17 bits20_17 (fun HT_ HW_ => ?_)
            refine pu_ (i := 0) (N := some 107) (v := ?_) (a' := ?_) (bls 13 1) HT_.out rfl rfl (by kernel_rfl) (by rfl) ?_ ?_ ?_
            rotate_left
            · intro w'; go_simp; with_reducible rfl
            rotate_left
            · simp only [Act.put, qT_, q0_, q1_, i64_w, i32_w]; rfl
            refine take_ (i := 1) (N := some 108) (v := ?_) (a' := ?_) (bls 13 3) rfl rfl (take_ofW HT_.out HW_.out (by kernel_rfl)) (fun _ _ _ h => h) (Or.inl ⟨by rfl, ?_⟩) hHeld ?_ ?_
            rotate_left
            · intro w' hS'
              refine exec_loadR (x := .tmp 9) ?_ ?_ hS'.1
              · rfl
              · rfl
            rotate_left
            · simp only [Act.put, qT_, q0_, q1_, i64_w, i32_w]; rfl
            refine pu_ (i := 2) (N := some 109) (v := ?_) (a' := ?_) (bls 13 7) HT_.out rfl rfl (by kernel_rfl) (by rfl) ?_ ?_ ?_
            rotate_left
            · intro w'; go_simp; with_reducible rfl
            rotate_left
            · simp only [Act.put, qT_, q0_, q1_, i64_w, i32_w]; rfl
            refine pu_ (i := 3) (N := some 110) (v := ?_) (a' := ?_) (bls 13 15) HT_.out rfl rfl (by kernel_rfl) (by rfl) ?_ ?_ ?_
            rotate_left
            · intro w'; go_simp; with_reducible rfl
            rotate_left
            · simp only [Act.put, qT_, q0_, q1_, i64_w, i32_w]; rfl
            refine pu_ (i := 4) (N := some 111) (v := ?_) (a' := ?_) (bls 13 31) HT_.out rfl rfl (by kernel_rfl) (by rfl) ?_ ?_ ?_
            rotate_left
            · intro w'; go_simp; with_reducible rfl
            rotate_left
            · simp only [Act.put, qT_, q0_, q1_, i64_w, i32_w]; rfl
            refine pu_ (i := 5) (N := some 112) (v := ?_) (a' := ?_) (bls 13 63) HT_.out rfl rfl (by kernel_rfl) (by rfl) ?_ ?_ ?_
            rotate_left
            · intro w'; go_simp; with_reducible rfl
            rotate_left
            · simp only [Act.put, qT_, q0_, q1_, i64_w, i32_w]; rfl
            refine take_ (i := 6) (N := some 113) (v := ?_) (a' := ?_) (bls 13 127) rfl rfl (take_ofW HT_.out HW_.out (by kernel_rfl)) (fun _ _ _ h => h) (Or.inl ⟨by rfl, ?_⟩) hHeld ?_ ?_
            rotate_left
            · intro w' hS'
              have s1 := hS'.2
              go_simp
              rfl
            rotate_left
            · simp only [Act.put, qT_, q0_, q1_, i64_w, i32_w]; rfl
            refine pu_ (i := 9) (N := some 116) (v := ?_) (a' := ?_) (bls 13 639) HT_.out rfl rfl (by kernel_rfl) (by rfl) ?_ ?_ ?_
            rotate_left
            · intro w'; go_simp; with_reducible rfl
            rotate_left
            · simp only [Act.put, qT_, q0_, q1_, i64_w, i32_w]; rfl
            refine take_ (i := 10) (N := some 117) (v := ?_) (a' := ?_) (bls 13 1663) rfl rfl (take_ofW HT_.out HW_.out (by kernel_rfl)) (fun _ _ _ h => h) (Or.inl ⟨by rfl, ?_⟩) hHeld ?_ ?_
            rotate_left
            · intro w' hS'
              have s1 := cell_of (i := 5) hS'.1
              simp at s1
              go_simp
              rfl
            rotate_left
            · simp only [Act.put, qT_, q0_, q1_, i64_w, i32_w]; rfl
            refine one_ (i := 7) (N := some 114) (bls 13 1791) rfl rfl (one_of HT_.out (by kernel_rfl)) (by decide) (fun K hK => ?_)
            refine goes_ Tryz.func45 (by kernel_rfl) rfl #[.agg #[.int .i64 (s.root.epoch + 1), .int .i64 s.root.blocks, .int .i64 ((s.table.length : Int) - 1), .int .i64 s.start, .slice (some ⟨g8, off8, none⟩) P.length c8, .slice (some ⟨g8, off8 + P.length, none⟩) M.length (c8 - P.length)], .slice (some ⟨F.g, 0, none⟩) s.table.length F.cap] (by rfl) rfl rfl (by (try simp only [List.map_toArray, List.map_cons, List.map_nil]); first | done | rfl) ?_
            with_reducible refine HUB.out.mono ?_
            rintro e wA ⟨vA, rfl, ho, hb⟩
            obtain ⟨AA, cA, hvA, hiA, hgeA⟩ := In.of_own ho
            have HSPA0 := split_any AA cA (usedL r s.table) wA hiA (by have := usedL_len r s.table; omega)
            rw [HU.out] at HSPA0
            obtain ⟨nA, hnA⟩ : ∃ n, (usedL r s.table).length = n := ⟨_, rfl⟩
            rw [hnA] at hvA HSPA0
            subst hvA
            have HSPA := Hide.mk HSPA0
            have SA := Hide.mk (SLD.out.below hb)
            have KDA := And.intro ((hb.block br (lt_of_row KD.1)).trans KD.1) (pw_cell_below hb KD.2)
            have BA := Hide.mk hb
            refine ⟨_, rfl, ?_⟩
            clear ho hb hiA hgeA hnA HSPA0
            refine hK.out _ _ KDA (fun hHeld => ?_)
            clear hK K
            refine norm_ (a' := ?_) ?_ ?_
            rotate_left
            · show Act.put _ (some 114) _ = _; simp only [Act.put, qT_, q0_, q1_, i64_w, i32_w]; rfl
            refine one_ (i := 8) (N := some 115) (bls 13 2047) rfl rfl (one_of HT_.out (by kernel_rfl)) (by decide) (fun K hK => ?_)
            refine goes_ Tryz.func41 (by kernel_rfl) rfl #[.slice AA nA cA, .int .i64 246] (by rfl) rfl rfl (by (try simp only [List.map_toArray, List.map_cons, List.map_nil]); first | done | rfl) ?_
            with_reducible refine HSPA.out.mono ?_
            rintro e wB ⟨AB, cB, rfl, hp, hb⟩
            have SB := Hide.mk (SA.out.below hb)
            have PB := Hide.mk (hp F.own SA.out.lts)
            have KDB := And.intro ((hb.block br (lt_of_row KDA.1)).trans KDA.1) (pw_cell_below hb KDA.2)
            have BB := Hide.mk (BA.out.trans (hb.mono BA.out.size))
            have HL20 := lay_any 2 AB cB U (some ⟨g8, off8 + P.length, none⟩) (c8 - P.length) (l.drop P.length) wB F _ SB.out PB.out (by have := (((HRI.out.moves (Moves.of_below BA.out []) (by simp)).moves (Moves.of_below hb []) (by simp)).maps); rw [HRM.out] at this; exact this) HOFFM.out (by rw [HDL.out]; have := HUM.out; omega) (by have := HUM.out; omega) HWFM.out HUB2.out
            rw [HDL.out, HLL2.out] at HL20
            have HL2 := Hide.mk HL20
            refine ⟨_, rfl, ?_⟩
            clear hp hb HL20
            refine hK.out _ _ KDB (fun hHeld => ?_)
            clear hK K
            refine norm_ (a' := ?_) ?_ ?_
            rotate_left
            · show Act.put _ (some 115) _ = _; simp only [Act.put, qT_, q0_, q1_, i64_w, i32_w]; rfl
            refine one_ (i := 11) (N := some 118) (bls 13 4095) rfl rfl (one_of HT_.out (by kernel_rfl)) (by decide) (fun K hK => ?_)
            refine goes_ Tryz.func44 (by kernel_rfl) rfl #[.pointer (some ⟨F.p, 0, none⟩), .int .i64 2, .slice AB U.length cB, .slice (some ⟨g8, off8 + P.length, none⟩) M.length (c8 - P.length)] (by rfl) rfl rfl (by (try simp only [List.map_toArray, List.map_cons, List.map_nil]); first | done | rfl) ?_
            with_reducible refine HL2.out.mono ?_
            rintro e wC ⟨rfl, hsC, hgC⟩
            have SC := Hide.mk hsC
            have GC := Hide.mk hgC
            have KDC := And.intro ((hgC.moves.block br (lt_of_row KDB.1) HBRO.out).trans KDB.1) (show wC.cell? ⟨F.p, 10, none⟩ = some (.slice (some ⟨F.g, 0, none⟩) s.table.length F.cap) from by have := hsC.cells.c10; rw [HT.out.2.1] at this; exact this)
            refine ⟨_, rfl, ?_⟩
            clear hsC hgC
            refine hK.out _ _ KDC (fun hHeld => ?_)
            clear hK K
            refine norm_ (a' := ?_) ?_ ?_
            rotate_left
            · show Act.put _ (some 118) _ = _; simp only [Act.put, qT_, q0_, q1_, i64_w, i32_w]; rfl
            refine pu_ (i := 12) (N := some 11) (v := ?_) (a' := ?_) (bls 13 8191) HT_.out rfl rfl (by kernel_rfl) (by rfl) ?_ ?_ ?_
            rotate_left
            · intro w'; go_simp; with_reducible rfl
            rotate_left
            · simp only [Act.put, qT_, q0_, q1_, i64_w, i32_w]; rfl
            refine done_ (done_of HT_.out (by kernel_rfl)) ?_
            clear KD KDA KDB hHeld
            have hgt : Goes F F w9 wC := (Goes.below (H9.out.1.trans (BB.out.mono H9.out.1.size))).trans GC.out
            have GT := Hide.mk ((HG0.out.trans G9.out).trans hgt)
            have HRC := Hide.mk (H9.out.2.moves hgt.moves (fun x hx => .inl hx))
            have k0 := cell_of (i := 0) KDC.1
            have k1 := cell_of (i := 1) KDC.1
            have k2 := cell_of (i := 2) KDC.1
            have k3 := cell_of (i := 3) KDC.1
            have k4 := cell_of (i := 4) KDC.1
            have k5 := cell_of (i := 5) KDC.1
            simp at k0 k1 k2 k3 k4 k5
            have HKC := Hide.mk KDC.1
            have HCR0 := crown_any r (some ⟨g8, off8, none⟩) c8 (some ⟨g8, off8 + P.length, none⟩) (c8 - P.length) wC F s2 SC.out HRC.out HCH.out
            rw [HVAL.out, HLL3.out] at HCR0
            have HCR := Hide.mk HCR0
            clear hgt KDC HCR0
            by_cases he2 : e2 = 0
            · subst he2
              by_cases he3 : e3 = 0
              · subst he3
                go_wp2_with (first
                  | (go_at_call 46; refine HCR.out.mono ?_; rintro e wD ⟨rfl, F3, hs, hg⟩
                     have S3 := Hide.mk hs
                     have G3 := Hide.mk hg
                     have rowD := (hg.moves.block br (lt_of_row HKC.out) HBRO.out).trans HKC.out
                     have m0 := cell_of (i := 0) rowD
                     have m1 := cell_of (i := 1) rowD
                     have m2 := cell_of (i := 2) rowD
                     have m3 := cell_of (i := 3) rowD
                     have m4 := cell_of (i := 4) rowD
                     have m5 := cell_of (i := 5) rowD
                     simp at m0 m1 m2 m3 m4 m5
                     have HSE0 := settle_any r (some ⟨g8, off8, none⟩) c8 (some ⟨g8, off8 + P.length, none⟩) (c8 - P.length) wD F3 s3 hs (HRC.out.foot hg) (by rw [HT.out.2.2]; omega) (by have := HRS.out; omega)
                     rw [HVAL.out, hg.p] at HSE0
                     have HSE := Hide.mk HSE0
                     clear hs hg rowD HSE0)
                  | (go_at_call 47; with_reducible refine HSE.out.mono ?_; rintro e wE ⟨rfl, F4, hs, hg, hsl⟩; have S4' := Hide.mk hs; have G4 := Hide.mk hg; have SL4 := Hide.mk hsl; clear hs hg hsl))
                go_ret
                have hR := HR1.out
                rw [if_neg (by simp), if_neg (by simp), if_neg (by simp)] at hR
                rw [← hR]
                exact ⟨rfl, F4, S4'.out, (GT.out.trans G3.out).close G4.out (SL4.out _ (GT.out.trans G3.out).moves.size (fun a ha => by cases ha; exact GE8W.out) (fun a ha => by cases ha; exact GE8W.out))⟩
              · have q : (e3 != 0) = true := by simp [he3]
                have HE3 := Hide.mk he3
                clear he3
                go_wp2_with (go_at_call 46; refine HCR.out.mono ?_; rintro e wD ⟨rfl, F3, hs, hg⟩; have S3 := Hide.mk hs; have G3 := Hide.mk hg; clear hs hg)
                go_ret
                have hR := HR1.out
                rw [if_neg (by simp), if_neg (by simp), if_pos HE3.out] at hR
                rw [← hR]
                exact ⟨rfl, F3, S3.out, GT.out.trans G3.out⟩
            · have q : (e2 != 0) = true := by simp [he2]
              have HE2 := Hide.mk he2
              clear he2
              go_wp2
              go_ret
              have hR := HR1.out
              rw [if_neg (by simp), if_pos HE2.out] at hR
              rw [← hR]
              exact ⟨rfl, F, SC.out, GT.out⟩
          · have q : (e1 != 0) = true := by simp [he1]
            have HE1 := Hide.mk he1
            clear he1
            go_wp2_with (go_at_call 44; (try with_reducible refine L1.out.mono ?_); rintro e w9 ⟨rfl, hs9, hg9⟩; have S9 := Hide.mk hs9; have G9 := Hide.mk hg9; clear hs9 hg9)
            go_ret
            have hR := HR1.out
            rw [if_pos HE1.out] at hR
            rw [← hR]
            exact ⟨rfl, F, S9.out, HG0.out.trans G9.out⟩
  · rw [if_pos h0] at hR
    have q : (a != 0) = true := by simp [h0]
    clear h0
    go_enter Tryz.func20, Tryz.ntmps20
    go_wp2_with (go_at_call 59; refine HA.out.mono ?_; rintro e w0 ⟨rfl, hw0⟩; obtain rfl : w = w0 := hw0.symm)
    go_ret
    rw [← hR]
    exact ⟨rfl, F, HS.out, Goes.refl _ _⟩
theorem commit_eq (w : World) (F : Foot) (s : Sh) (h : ShAt w F s) (hk : Ok s) (hmp : 1 ≤ mapsOf s.root.blocks) (hcap : F.cap = 1)
    (hnx : ∀ l, s.lowest ((splitL 246 (wordsL (s.table.drop 1))).length + mapsOf s.root.blocks) = some l → s.root.epoch < 1099511627776 → (s.next (splitL 246 (wordsL (s.table.drop 1))).length l).check = 0) :
    Calls Tryz.prog 20 #[.pointer (some ⟨F.p, 0, none⟩)] w fun e w' => e = .returned (.int .i64 s.commit.2) ∧ ∃ F', ShAt w' F' s.commit.1 ∧ Goes F F' w w' := by
  have hl1 : s.table.length = 1 := by have := (tab_max h.table).1; have := hk.table.1; omega
  have HWI : In .i64 w (some ⟨F.g, 0, none⟩) (s.table.drop 1) 0 := ⟨by rw [List.drop_eq_nil_of_le (by omega)]; exact ⟨rfl, by simp, fun h => absurd h (Nat.lt_irrefl 0)⟩, by rw [List.length_drop]; omega, fun a ha => by cases ha; exact tab_lt h.table⟩
  have HWO0 := words_any (some ⟨F.g, 0, none⟩) 0 (s.table.drop 1) w HWI (fun x hx => by have := hk.table.2.2 x (List.mem_of_mem_drop hx); omega) (by rw [List.length_drop]; omega)
  rw [List.length_drop] at HWO0
  clear hl1
  have HWO := Hide.mk HWO0
  have HA := Hide.mk (alive_any h)
  have HS := Hide.mk h
  have HK := Hide.mk hk
  have c13 := h.cells.c13
  have c10 := h.cells.c10
  have hmx := tab_max h.table
  obtain ⟨R, hR⟩ : ∃ R, s.commit = R := ⟨_, rfl⟩
  rw [hR]
  unfold Sh.commit at hR
  obtain ⟨a, ha⟩ : ∃ a, s.alive = a := ⟨_, rfl⟩
  obtain ⟨P, hP⟩ : ∃ P, splitL 246 (wordsL (s.table.drop 1)) = P := ⟨_, rfl⟩
  obtain ⟨M, hM⟩ : ∃ P, splitL 246 (emptyB s.root.blocks) = P := ⟨_, rfl⟩
  have hMl : M.length = mapsOf s.root.blocks := by rw [← hM]; rfl
  have HP := Hide.mk hP
  have HM := Hide.mk hM
  have hP1 : P.length ≤ 10000 := by
    have := splitL_count 246 (wordsL (s.table.drop 1))
    rw [hP, wordsL_len, List.length_drop] at this
    have := hk.table.2.1
    omega
  have hPs : P.length ≤ 400 := by
    have h2 := splitL_num (wordsL (s.table.drop 1))
    rw [hP, wordsL_len, List.length_drop] at h2
    have := hk.table.2.1
    omega
  have hM1 : M.length ≤ 512 := by rw [hMl]; exact mapsOf_le _
  have HPM : Hide (P.length ≤ 400 ∧ M.length ≤ 512 ∧ 1 ≤ M.length) := ⟨hPs, hM1, by rw [hMl]; exact hmp⟩
  have htl := hk.table.1
  have htl2 := hk.table.2.1
  simp only [ha, hP, ← hMl] at hR hnx
  rw [ha] at HA
  have HNX := Hide.mk hnx
  clear h hk ha hP hM hMl hmp hnx HWI HWO0 hPs
  by_cases h0 : a = 0
  · subst h0
    rw [if_neg (by simp)] at hR
    cases hd : s.dirty with
    | false =>
      rw [hd] at c13
      rw [if_pos hd] at hR
      clear hd
      go_enter Tryz.func20, Tryz.ntmps20
      go_wp2_with (go_at_call 59; refine HA.out.mono ?_; rintro e w0 ⟨rfl, hw0⟩; obtain rfl : w = w0 := hw0.symm)
      go_ret
      rw [← hR]
      exact ⟨rfl, F, HS.out, Goes.refl _ _⟩
    | true =>
      rw [hd] at c13
      rw [if_neg (by rw [hd]; simp)] at hR
      clear hd
      cases hl : s.lowest (P.length + M.length) with
      | none =>
        simp only [hl] at hR
        have HRR := Hide.mk hR
        have HL := Hide.mk hl
        clear hR hl
        go_enter Tryz.func20, Tryz.ntmps20
        go_wp2_with (first
      | (go_at_call 59; refine HA.out.mono ?_; rintro e w0 ⟨rfl, hw0⟩; obtain rfl : w = w0 := hw0.symm; clear hw0)
      | (go_at_call 63; refine HWO.out.mono ?_; rintro e w4 ⟨v4, rfl, ho, hb4⟩
         obtain ⟨A4, c4, hv4, hi4, hge4⟩ := In.of_own ho
         have HSP := split_any A4 c4 _ w4 hi4 (by rw [wordsL_len, List.length_drop]; have := HK.out.table.2.1; omega)
         rw [HP.out] at HSP
         obtain ⟨n4, hn4⟩ : ∃ n, (wordsL (s.table.drop 1)).length = n := ⟨_, rfl⟩
         rw [hn4] at hv4 HSP
         subst hv4
         have HSP1 := Hide.mk HSP
         have S4 := Hide.mk (HS.out.below hb4)
         have B4 := Hide.mk hb4
         clear ho hb4 hi4 hge4 hn4 HSP; (try clear hcap))
      | (go_at_call 41; with_reducible refine HSP1.out.mono ?_; rintro e w5 ⟨A5, c5, rfl, hp5, hb5⟩
         have S5 := Hide.mk (S4.out.below hb5)
         have P5 := Hide.mk (hp5 F.own S4.out.lts)
         have B5 := Hide.mk (B4.out.trans (hb5.mono B4.out.size))
         have c3 := S5.out.cells.c3
         clear hp5 hb5)
      | (go_at_call 42; refine (Given.make_any s.root.blocks _).mono ?_; rintro e w6 ⟨v6, rfl, ho, hb6⟩
         rw [show List.replicate (Given.clampN s.root.blocks) 0 = emptyB s.root.blocks from rfl] at ho
         obtain ⟨A6, c6, hv6, hi6, hge6⟩ := In.of_own ho
         have HSP := split_any A6 c6 _ w6 hi6 (by rw [emptyB_len]; have := clampN_le s.root.blocks; omega)
         rw [HM.out] at HSP
         obtain ⟨n6, hn6⟩ : ∃ n, (emptyB s.root.blocks).length = n := ⟨_, rfl⟩
         rw [hn6] at hv6 HSP
         subst hv6
         have HSP2 := Hide.mk HSP
         have S6 := Hide.mk (S5.out.below hb6)
         have B6 := Hide.mk hb6
         clear ho hb6 hi6 hge6 hn6 HSP)
      | (go_at_call 41; with_reducible refine HSP2.out.mono ?_; rintro e w7 ⟨A7, c7, rfl, hp7, hb7⟩
         have S7 := Hide.mk (S6.out.below hb7)
         have B7 := Hide.mk (B6.out.trans (hb7.mono B6.out.size))
         have HLO := lowest_any (P.length + M.length) (by have := HPM.out; omega) F s w7 S7.out HK.out
         rw [show ((P.length + M.length : Nat) : Int) = (P.length : Int) + (M.length : Int) by omega] at HLO
         have HLOW := Hide.mk HLO
         clear hp7 hb7 HLO)
      | (go_at_call 61; refine HLOW.out.mono ?_; rintro e w8 ⟨v8, rfl, ho, hb8⟩; rw [HL.out] at ho ⊢; have B8 := Hide.mk hb8; clear ho hb8))
        go_ret
        rw [← HRR.out]
        exact ⟨rfl, F, S7.out.below B8.out, Goes.below ((B5.out.trans (B7.out.mono B5.out.size)).trans (B8.out.mono (Nat.le_trans B5.out.size B7.out.size)))⟩
      | some l =>
        simp only [hl] at hR
        have HRR := Hide.mk hR
        have HL := Hide.mk hl
        have hlf := lowest_facts HK.out hl
        have HLF := Hide.mk hlf
        clear hR hl hlf
        by_cases he : 1099511627776 ≤ s.root.epoch
        · go_enter Tryz.func20, Tryz.ntmps20
          go_wp2_with (first
      | (go_at_call 59; refine HA.out.mono ?_; rintro e w0 ⟨rfl, hw0⟩; obtain rfl : w = w0 := hw0.symm; clear hw0)
      | (go_at_call 63; refine HWO.out.mono ?_; rintro e w4 ⟨v4, rfl, ho, hb4⟩
         obtain ⟨A4, c4, hv4, hi4, hge4⟩ := In.of_own ho
         have HSP := split_any A4 c4 _ w4 hi4 (by rw [wordsL_len, List.length_drop]; have := HK.out.table.2.1; omega)
         rw [HP.out] at HSP
         obtain ⟨n4, hn4⟩ : ∃ n, (wordsL (s.table.drop 1)).length = n := ⟨_, rfl⟩
         rw [hn4] at hv4 HSP
         subst hv4
         have HSP1 := Hide.mk HSP
         have S4 := Hide.mk (HS.out.below hb4)
         have B4 := Hide.mk hb4
         clear ho hb4 hi4 hge4 hn4 HSP; (try clear hcap))
      | (go_at_call 41; with_reducible refine HSP1.out.mono ?_; rintro e w5 ⟨A5, c5, rfl, hp5, hb5⟩
         have S5 := Hide.mk (S4.out.below hb5)
         have P5 := Hide.mk (hp5 F.own S4.out.lts)
         have B5 := Hide.mk (B4.out.trans (hb5.mono B4.out.size))
         have c3 := S5.out.cells.c3
         clear hp5 hb5)
      | (go_at_call 42; refine (Given.make_any s.root.blocks _).mono ?_; rintro e w6 ⟨v6, rfl, ho, hb6⟩
         rw [show List.replicate (Given.clampN s.root.blocks) 0 = emptyB s.root.blocks from rfl] at ho
         obtain ⟨A6, c6, hv6, hi6, hge6⟩ := In.of_own ho
         have HSP := split_any A6 c6 _ w6 hi6 (by rw [emptyB_len]; have := clampN_le s.root.blocks; omega)
         rw [HM.out] at HSP
         obtain ⟨n6, hn6⟩ : ∃ n, (emptyB s.root.blocks).length = n := ⟨_, rfl⟩
         rw [hn6] at hv6 HSP
         subst hv6
         have HSP2 := Hide.mk HSP
         have S6 := Hide.mk (S5.out.below hb6)
         have B6 := Hide.mk hb6
         clear ho hb6 hi6 hge6 hn6 HSP)
      | (go_at_call 41; with_reducible refine HSP2.out.mono ?_; rintro e w7 ⟨A7, c7, rfl, hp7, hb7⟩
         have S7 := Hide.mk (S6.out.below hb7)
         have B7 := Hide.mk (B6.out.trans (hb7.mono B6.out.size))
         have HLO := lowest_any (P.length + M.length) (by have := HPM.out; omega) F s w7 S7.out HK.out
         rw [show ((P.length + M.length : Nat) : Int) = (P.length : Int) + (M.length : Int) by omega] at HLO
         have HLOW := Hide.mk HLO
         clear hp7 hb7 HLO)
      | (go_at_call 61; refine HLOW.out.mono ?_; rintro e w8 ⟨v8, rfl, ho, hb8⟩; rw [HL.out] at ho ⊢
         obtain ⟨A8, c8, hv8, hi8, hge8⟩ := In.of_own ho
         have hv8' : v8 = .slice A8 l.length c8 := hv8
         subst hv8'
         have S8 := Hide.mk (S7.out.below hb8)
         have I8 := Hide.mk (show In .i64 w8 A8 l c8 from hi8)
         have GE8 := Hide.mk (show ∀ a, A8 = some a → w7.heap.size ≤ a.block from hge8)
         have B8 := Hide.mk hb8
         have c2 := S8.out.cells.c2
         clear ho hb8 hi8 hge8 hv8))
          go_ret
          have hR := HRR.out
          rw [if_pos (by assumption)] at hR
          rw [← hR]
          exact ⟨rfl, F, S8.out, Goes.below ((B5.out.trans (B7.out.mono B5.out.size)).trans (B8.out.mono (Nat.le_trans B5.out.size B7.out.size)))⟩
        · have HE := Hide.mk he
          go_enter Tryz.func20, Tryz.ntmps20
          go_wp2_with (first
      | (go_at_call 59; refine HA.out.mono ?_; rintro e w0 ⟨rfl, hw0⟩; obtain rfl : w = w0 := hw0.symm; clear hw0)
      | (go_at_call 63; refine HWO.out.mono ?_; rintro e w4 ⟨v4, rfl, ho, hb4⟩
         obtain ⟨A4, c4, hv4, hi4, hge4⟩ := In.of_own ho
         have HSP := split_any A4 c4 _ w4 hi4 (by rw [wordsL_len, List.length_drop]; have := HK.out.table.2.1; omega)
         rw [HP.out] at HSP
         obtain ⟨n4, hn4⟩ : ∃ n, (wordsL (s.table.drop 1)).length = n := ⟨_, rfl⟩
         rw [hn4] at hv4 HSP
         subst hv4
         have HSP1 := Hide.mk HSP
         have S4 := Hide.mk (HS.out.below hb4)
         have B4 := Hide.mk hb4
         clear ho hb4 hi4 hge4 hn4 HSP; (try clear hcap))
      | (go_at_call 41; with_reducible refine HSP1.out.mono ?_; rintro e w5 ⟨A5, c5, rfl, hp5, hb5⟩
         have S5 := Hide.mk (S4.out.below hb5)
         have P5 := Hide.mk (hp5 F.own S4.out.lts)
         have B5 := Hide.mk (B4.out.trans (hb5.mono B4.out.size))
         have c3 := S5.out.cells.c3
         clear hp5 hb5)
      | (go_at_call 42; refine (Given.make_any s.root.blocks _).mono ?_; rintro e w6 ⟨v6, rfl, ho, hb6⟩
         rw [show List.replicate (Given.clampN s.root.blocks) 0 = emptyB s.root.blocks from rfl] at ho
         obtain ⟨A6, c6, hv6, hi6, hge6⟩ := In.of_own ho
         have HSP := split_any A6 c6 _ w6 hi6 (by rw [emptyB_len]; have := clampN_le s.root.blocks; omega)
         rw [HM.out] at HSP
         obtain ⟨n6, hn6⟩ : ∃ n, (emptyB s.root.blocks).length = n := ⟨_, rfl⟩
         rw [hn6] at hv6 HSP
         subst hv6
         have HSP2 := Hide.mk HSP
         have S6 := Hide.mk (S5.out.below hb6)
         have B6 := Hide.mk hb6
         clear ho hb6 hi6 hge6 hn6 HSP)
      | (go_at_call 41; with_reducible refine HSP2.out.mono ?_; rintro e w7 ⟨A7, c7, rfl, hp7, hb7⟩
         have S7 := Hide.mk (S6.out.below hb7)
         have B7 := Hide.mk (B6.out.trans (hb7.mono B6.out.size))
         have HLO := lowest_any (P.length + M.length) (by have := HPM.out; omega) F s w7 S7.out HK.out
         rw [show ((P.length + M.length : Nat) : Int) = (P.length : Int) + (M.length : Int) by omega] at HLO
         have HLOW := Hide.mk HLO
         clear hp7 hb7 HLO)
      | (go_at_call 61; refine HLOW.out.mono ?_; rintro e w8 ⟨v8, rfl, ho, hb8⟩; rw [HL.out] at ho ⊢
         obtain ⟨A8, c8, hv8, hi8, hge8⟩ := In.of_own ho
         have hv8' : v8 = .slice A8 l.length c8 := hv8
         subst hv8'
         have S8 := Hide.mk (S7.out.below hb8)
         have I8 := Hide.mk (show In .i64 w8 A8 l c8 from hi8)
         have GE8 := Hide.mk (show ∀ a, A8 = some a → w7.heap.size ≤ a.block from hge8)
         have B8 := Hide.mk hb8
         have c2 := S8.out.cells.c2
         clear ho hb8 hi8 hge8 hv8))
          have hll : l.length = P.length + M.length := HLF.out.1
          obtain ⟨g8, off8, rfl⟩ := atI I8.out (by have := HPM.out; omega)
          have SD := Hide.mk (S8.out.below (below_drew (Below.refl w8.heap.size w8)))
          have KC := SD.out.cells
          have hep := HK.out.epoch
          have hep2 := HE.out
          have hc8 := I8.out.room
          have hm1 := HPM.out.2.2
          have hcap2 := hmx.1
          rw [hll] at hc8
          have hb1 : P.length ≤ c8 := by omega
          have hb2 : P.length < c8 := by omega
          have hb3 : (P.length : Int) ≤ (P.length : Int) + (M.length : Int) := by omega
          have hb4 : (P.length : Int) ≤ (c8 : Int) := by omega
          have hb5 : (P.length : Int) + (M.length : Int) ≤ (c8 : Int) := by omega
          have hb6 : (P.length : Int) + (M.length : Int) - (P.length : Int) = (M.length : Int) := by omega
          have hw1 : wrap64 (s.root.epoch + 1) = s.root.epoch + 1 := wrap_ok (by omega) (by omega)
          have hw2 : wrap64 ((s.table.length : Int) - 1) = (s.table.length : Int) - 1 := wrap_ok (by omega) (by omega)
          have hbne : ¬ c8 = P.length := by omega
          have hb7 : P.length + M.length - P.length = M.length := by omega
          obtain ⟨br, hbr⟩ : ∃ br, w8.drew.heap.size = br := ⟨_, rfl⟩
          refine start_ (n := 34) (S := fun w' => ShCells w' F s) (ds := []) #[false, false, false, false, false, false, false, false, false, false, false, false, false, false, false, false, false, false, false, false, false, false, false, false, false, false, false, false, false, false, false, false, false, false] (by kernel_rfl) rfl rfl KC (fun hHeld => ?_); refine with_tabW tab20_13 bits20_13 (fun HT_ HW_ => ?_)
          refine pu_ (i := 0) (N := some 67) (v := ?_) (a' := ?_) (bls 34 1) HT_.out rfl rfl (by kernel_rfl) (by rfl) ?_ ?_ ?_
          rotate_left
          · intro w'; go_simp; with_reducible rfl
          rotate_left
          · simp only [Act.put, qT_, q0_, q1_, i64_w, i32_w]; rfl
          refine pu_ (i := 1) (N := some 68) (v := ?_) (a' := ?_) (bls 34 3) HT_.out rfl rfl (by kernel_rfl) (by rfl) ?_ ?_ ?_
          rotate_left
          · intro w'; go_simp; with_reducible rfl
          rotate_left
          · simp only [Act.put, qT_, q0_, q1_, i64_w, i32_w]; rfl
          refine pu_ (i := 2) (N := some 69) (v := ?_) (a' := ?_) (bls 34 7) HT_.out rfl rfl (by kernel_rfl) (by rfl) ?_ ?_ ?_
          rotate_left
          · intro w'; go_simp; with_reducible rfl
          rotate_left
          · simp only [Act.put, qT_, q0_, q1_, i64_w, i32_w]; rfl
          refine pu_ (i := 3) (N := some 70) (v := ?_) (a' := ?_) (bls 34 15) HT_.out rfl rfl (by kernel_rfl) (by rfl) ?_ ?_ ?_
          rotate_left
          · intro w'; go_simp; with_reducible rfl
          rotate_left
          · simp only [Act.put, qT_, q0_, q1_, i64_w, i32_w]; rfl
          refine take_ (i := 4) (N := some 71) (v := ?_) (a' := ?_) (bls 34 31) rfl rfl (take_ofW HT_.out HW_.out (by kernel_rfl)) (fun _ _ _ h => h) (Or.inl ⟨by rfl, ?_⟩) hHeld ?_ ?_
          rotate_left
          · intro w' hS'
            have s1 := hS'.c2
            go_simp
            rfl
          rotate_left
          · simp only [Act.put, qT_, q0_, q1_, i64_w, i32_w]; rfl
          refine pu_ (i := 5) (N := some 72) (v := ?_) (a' := ?_) (bls 34 63) HT_.out rfl rfl (by kernel_rfl) (by rfl) ?_ ?_ ?_
          rotate_left
          · intro w'; go_simp; with_reducible rfl
          rotate_left
          · simp only [Act.put, qT_, q0_, q1_, i64_w, i32_w]; rfl
          refine pu_ (i := 6) (N := some 73) (v := ?_) (a' := ?_) (bls 34 127) HT_.out rfl rfl (by kernel_rfl) (by rfl) ?_ ?_ ?_
          rotate_left
          · intro w'; go_simp; with_reducible rfl
          rotate_left
          · simp only [Act.put, qT_, q0_, q1_, i64_w, i32_w]; rfl
          refine pu_ (i := 7) (N := some 74) (v := ?_) (a' := ?_) (bls 34 255) HT_.out rfl rfl (by kernel_rfl) (by rfl) ?_ ?_ ?_
          rotate_left
          · intro w'; go_simp; with_reducible rfl
          rotate_left
          · simp only [Act.put, qT_, q0_, q1_, i64_w, i32_w]; rfl
          refine pu_ (i := 8) (N := some 75) (v := ?_) (a' := ?_) (bls 34 511) HT_.out rfl rfl (by kernel_rfl) (by rfl) ?_ ?_ ?_
          rotate_left
          · intro w'; go_simp; with_reducible rfl
          rotate_left
          · simp only [Act.put, qT_, q0_, q1_, i64_w, i32_w]; rfl
          refine pu_ (i := 9) (N := some 76) (v := ?_) (a' := ?_) (bls 34 1023) HT_.out rfl rfl (by kernel_rfl) (by rfl) ?_ ?_ ?_
          rotate_left
          · intro w'; go_simp; with_reducible rfl
          rotate_left
          · simp only [Act.put, qT_, q0_, q1_, i64_w, i32_w]; rfl
          refine take_ (i := 10) (N := some 77) (v := ?_) (a' := ?_) (bls 34 2047) rfl rfl (take_ofW HT_.out HW_.out (by kernel_rfl)) (fun _ _ _ h => h) (Or.inl ⟨by rfl, ?_⟩) hHeld ?_ ?_
          rotate_left
          · intro w' hS'
            have s1 := hS'.c3
            go_simp
            rfl
          rotate_left
          · simp only [Act.put, qT_, q0_, q1_, i64_w, i32_w]; rfl
          refine pu_ (i := 11) (N := some 78) (v := ?_) (a' := ?_) (bls 34 4095) HT_.out rfl rfl (by kernel_rfl) (by rfl) ?_ ?_ ?_
          rotate_left
          · intro w'; go_simp; with_reducible rfl
          rotate_left
          · simp only [Act.put, qT_, q0_, q1_, i64_w, i32_w]; rfl
          refine pu_ (i := 12) (N := some 79) (v := ?_) (a' := ?_) (bls 34 8191) HT_.out rfl rfl (by kernel_rfl) (by rfl) ?_ ?_ ?_
          rotate_left
          · intro w'; go_simp; with_reducible rfl
          rotate_left
          · simp only [Act.put, qT_, q0_, q1_, i64_w, i32_w]; rfl
          refine pu_ (i := 13) (N := some 80) (v := ?_) (a' := ?_) (bls 34 16383) HT_.out rfl rfl (by kernel_rfl) (by rfl) ?_ ?_ ?_
          rotate_left
          · intro w'; go_simp; with_reducible rfl
          rotate_left
          · simp only [Act.put, qT_, q0_, q1_, i64_w, i32_w]; rfl
          refine pu_ (i := 14) (N := some 81) (v := ?_) (a' := ?_) (bls 34 32767) HT_.out rfl rfl (by kernel_rfl) (by rfl) ?_ ?_ ?_
          rotate_left
          · intro w'; go_simp; with_reducible rfl
          rotate_left
          · simp only [Act.put, qT_, q0_, q1_, i64_w, i32_w]; rfl
          refine take_ (i := 15) (N := some 82) (v := ?_) (a' := ?_) (bls 34 65535) rfl rfl (take_ofW HT_.out HW_.out (by kernel_rfl)) (fun _ _ _ h => h) (Or.inl ⟨by rfl, ?_⟩) hHeld ?_ ?_
          rotate_left
          · intro w' hS'
            have s1 := hS'.c10
            go_simp
            rfl
          rotate_left
          · simp only [Act.put, qT_, q0_, q1_, i64_w, i32_w]; rfl
          refine pu_ (i := 16) (N := some 83) (v := ?_) (a' := ?_) (bls 34 131071) HT_.out rfl rfl (by kernel_rfl) (by rfl) ?_ ?_ ?_
          rotate_left
          · intro w'; go_simp; with_reducible rfl
          rotate_left
          · simp only [Act.put, qT_, q0_, q1_, i64_w, i32_w]; rfl
          refine pu_ (i := 17) (N := some 84) (v := ?_) (a' := ?_) (bls 34 262143) HT_.out rfl rfl (by kernel_rfl) (by rfl) ?_ ?_ ?_
          rotate_left
          · intro w'; go_simp; with_reducible rfl
          rotate_left
          · simp only [Act.put, qT_, q0_, q1_, i64_w, i32_w]; rfl
          refine pu_ (i := 18) (N := some 85) (v := ?_) (a' := ?_) (bls 34 524287) HT_.out rfl rfl (by kernel_rfl) (by rfl) ?_ ?_ ?_
          rotate_left
          · intro w'; go_simp; with_reducible rfl
          rotate_left
          · simp only [Act.put, qT_, q0_, q1_, i64_w, i32_w]; rfl
          refine pu_ (i := 19) (N := some 86) (v := ?_) (a' := ?_) (bls 34 1048575) HT_.out rfl rfl (by kernel_rfl) (by rfl) ?_ ?_ ?_
          rotate_left
          · intro w'; go_simp; with_reducible rfl
          rotate_left
          · simp only [Act.put, qT_, q0_, q1_, i64_w, i32_w]; rfl
          refine pu_ (i := 20) (N := some 87) (v := ?_) (a' := ?_) (bls 34 2097151) HT_.out rfl rfl (by kernel_rfl) (by rfl) ?_ ?_ ?_
          rotate_left
          · intro w'; go_simp; with_reducible rfl
          rotate_left
          · simp only [Act.put, qT_, q0_, q1_, i64_w, i32_w]; rfl
          refine pu_ (i := 21) (N := some 88) (v := ?_) (a' := ?_) (bls 34 4194303) HT_.out rfl rfl (by kernel_rfl) (by rfl) ?_ ?_ ?_
          rotate_left
          · intro w'; go_simp; with_reducible rfl
          rotate_left
          · simp only [Act.put, qT_, q0_, q1_, i64_w, i32_w]; rfl
          refine take_ (i := 22) (N := some 89) (v := ?_) (a' := ?_) (bls 34 8388607) rfl rfl (take_ofW HT_.out HW_.out (by kernel_rfl)) (fun _ _ _ h => h) (Or.inl ⟨by rfl, ?_⟩) hHeld ?_ ?_
          rotate_left
          · intro w' hS'
            have s1 := hS'.c11
            go_simp
            rfl
          rotate_left
          · simp only [Act.put, qT_, q0_, q1_, i64_w, i32_w]; rfl
          refine pu_ (i := 23) (N := some 90) (v := ?_) (a' := ?_) (bls 34 16777215) HT_.out rfl rfl (by kernel_rfl) (by rfl) ?_ ?_ ?_
          rotate_left
          · intro w'; go_simp; with_reducible rfl
          rotate_left
          · simp only [Act.put, qT_, q0_, q1_, i64_w, i32_w]; rfl
          refine pu_ (i := 24) (N := some 91) (v := ?_) (a' := ?_) (bls 34 33554431) HT_.out rfl rfl (by kernel_rfl) (by rfl) ?_ ?_ ?_
          rotate_left
          · intro w'; go_simp; with_reducible rfl
          rotate_left
          · simp only [Act.put, qT_, q0_, q1_, i64_w, i32_w]; rfl
          refine pu_ (i := 25) (N := some 92) (v := ?_) (a' := ?_) (bls 34 67108863) HT_.out rfl rfl (by kernel_rfl) (by rfl) ?_ ?_ ?_
          rotate_left
          · intro w'; go_simp; with_reducible rfl
          rotate_left
          · simp only [Act.put, qT_, q0_, q1_, i64_w, i32_w]; rfl
          refine pu_ (i := 26) (N := some 93) (v := ?_) (a' := ?_) (bls 34 134217727) HT_.out rfl rfl (by kernel_rfl) (by rfl) ?_ ?_ ?_
          rotate_left
          · intro w'; go_simp; with_reducible rfl
          rotate_left
          · simp only [Act.put, qT_, q0_, q1_, i64_w, i32_w]; rfl
          refine pu_ (i := 27) (N := some 94) (v := ?_) (a' := ?_) (bls 34 268435455) HT_.out rfl rfl (by kernel_rfl) (by rfl) ?_ ?_ ?_
          rotate_left
          · intro w'; go_simp; with_reducible rfl
          rotate_left
          · simp only [Act.put, qT_, q0_, q1_, i64_w, i32_w]; rfl
          refine pu_ (i := 28) (N := some 95) (v := ?_) (a' := ?_) (bls 34 536870911) HT_.out rfl rfl (by kernel_rfl) (by rfl) ?_ ?_ ?_
          rotate_left
          · intro w'; go_simp; with_reducible rfl
          rotate_left
          · simp only [Act.put, qT_, q0_, q1_, i64_w, i32_w]; rfl
          refine pu_ (i := 29) (N := some 96) (v := ?_) (a' := ?_) (bls 34 1073741823) HT_.out rfl rfl (by kernel_rfl) (by rfl) ?_ ?_ ?_
          rotate_left
          · intro w'; go_simp; with_reducible rfl
          rotate_left
          · simp only [Act.put, qT_, q0_, q1_, i64_w, i32_w]; rfl
          refine pu_ (i := 30) (N := some 97) (v := ?_) (a' := ?_) (bls 34 2147483647) HT_.out rfl rfl (by kernel_rfl) (by rfl) ?_ ?_ ?_
          rotate_left
          · intro w'; go_simp; with_reducible rfl
          rotate_left
          · simp only [Act.put, qT_, q0_, q1_, i64_w, i32_w]; rfl
          refine pu_ (i := 31) (N := some 98) (v := ?_) (a' := ?_) (bls 34 4294967295) HT_.out rfl rfl (by kernel_rfl) (by rfl) ?_ ?_ ?_
          rotate_left
          · intro w'; go_simp; with_reducible rfl
          rotate_left
          · simp only [Act.put, qT_, q0_, q1_, i64_w, i32_w]; rfl
          refine one_ (i := 32) (N := some 9) (bls 34 8589934591) rfl rfl (one_of HT_.out (by kernel_rfl)) (by decide) (fun K hK => ?_)
          have hBa := (Below.refl w8.drew.heap.size w8.drew).alloc (Nat.le_refl _) (.cells #[.int .i64 0, .int .i64 0, .int .i64 0, .int .i64 0, .slice none 0 0, .slice none 0 0] 65)
          have KC1 := (SD.out.below hBa).cells
          refine value_ (v := .pointer (some ⟨w8.drew.heap.size, 0, none⟩)) (w1 := w8.drew.alloc (.cells #[.int .i64 0, .int .i64 0, .int .i64 0, .int .i64 0, .slice none 0 0, .slice none 0 0] 65)) (by rfl) rfl ?_ ?_
          · first | (go_simp; done) | (go_simp; rfl)
          refine hK.out _ _ KC1 (fun hHeld => ?_)
          clear hK K
          refine norm_ (a' := ?_) ?_ ?_
          rotate_left
          · show Act.put _ (some 9) _ = _; simp only [Act.put, qT_, q0_, q1_, i64_w, i32_w]; rfl
          refine one_ (i := 33) (N := none) (bls 34 17179869183) rfl rfl (one_of HT_.out (by kernel_rfl)) (by decide) (fun K hK => ?_)
          obtain ⟨wr, hwr, rowr, hBr⟩ := stage_rootrow (w := w8.drew) (cs := #[.int .i64 (s.root.epoch + 1), .int .i64 s.root.blocks, .int .i64 ((s.table.length : Int) - 1), .int .i64 s.start, .slice (some ⟨g8, off8, none⟩) P.length c8, .slice (some ⟨g8, off8 + P.length, none⟩) M.length (c8 - P.length)])
          have KC2 := (SD.out.below hBr).cells
          refine skip_ (w1 := wr) (by rfl) rfl ?_ ?_
          · rw [← hwr]; refine exec_storeR (heap_last _ _) (by rfl) (by rfl) ?_ (by rfl) (by rfl) (by simp [Value.oneCell']); (conv => lhs; whnf); (try rw [hw1, hw2, if_neg hbne])
          refine hK.out _ _ KC2 (fun hHeld => ?_)
          clear hK K
          refine norm_ (a' := ?_) ?_ ?_
          rotate_left
          · rfl
          refine done_ (done_of HT_.out (by kernel_rfl)) ?_
          clear KC KC1 KC2 hHeld hBa
          rw [hbr] at rowr ⊢
          have hoffb : ¬ br ∈ F.own := fun hx => by have := SD.out.lts _ hx; omega
          have BD := below_drew (Below.refl w8.heap.size w8)
          have m8r : Moves [] w8 wr := (Moves.of_below BD []).trans (Moves.of_below hBr [])
          have m5r : Moves [] w5 wr := (Moves.of_below B7.out []).trans ((Moves.of_below B8.out []).trans m8r)
          have m0r : Moves [] w wr := (Moves.of_below B5.out []).trans m5r
          have SR := SD.out.below hBr
          have PR := P5.out.moves m5r (by simp)
          have IR : In .i64 wr (some ⟨g8, off8, none⟩) l c8 := I8.out.moves m8r (by simp)
          have hlt : (l.take P.length).length = P.length := by rw [List.length_take]; omega
          have hld : (l.drop P.length).length = M.length := by rw [List.length_drop]; omega
          have GE8W : Hide (w.heap.size ≤ g8) := ⟨Nat.le_trans B5.out.size (Nat.le_trans B7.out.size (GE8.out ⟨g8, off8, none⟩ rfl))⟩
          have hg8 : ∀ a, (some ⟨g8, off8, none⟩ : Option Addr) = some a → ¬ a.block ∈ F.own := fun a ha hx => by have := GE8.out a ha; have := S7.out.lts _ hx; omega
          have hg9 : ∀ a, (some ⟨g8, off8 + P.length, none⟩ : Option Addr) = some a → ¬ a.block ∈ F.own := fun a ha => by cases ha; exact hg8 ⟨g8, off8, none⟩ rfl
          have IT : In .i64 wr (some ⟨g8, off8, none⟩) (l.take P.length) c8 := IR.take P.length c8 (by omega) hb1
          have IM : In .i64 wr (some ⟨g8, off8 + P.length, none⟩) (l.drop P.length) (c8 - P.length) := IR.fromI P.length (by omega)
          have hwf : ∀ n ∈ l, MapFn.wf n := fun n hn => wf_small (HLF.out.2 n hn).1 (HLF.out.2 n hn).2
          obtain ⟨r, hr⟩ : ∃ r, s.next P.length l = r := ⟨_, rfl⟩
          have hrT : r.tables = l.take P.length := by rw [← hr]; rfl
          have hrM : r.maps = l.drop P.length := by rw [← hr]; rfl
          have hrB : r.blocks = s.root.blocks := by rw [← hr]; rfl
          have hrE : r.epoch = s.root.epoch + 1 := by rw [← hr]; rfl
          have hrN : r.next = (s.table.length : Int) - 1 := by rw [← hr]; rfl
          have hrS : r.start = s.start := by rw [← hr]; rfl
          have RI : RootIn wr r (some ⟨g8, off8, none⟩) c8 (some ⟨g8, off8 + P.length, none⟩) (c8 - P.length) F.own := ⟨by rw [hrT]; exact IT, by rw [hrM]; exact IM, hg8, hg9, by rw [hrT, hrM, hlt, hld]; have := HPM.out; omega, by rw [hrB]; have := HK.out.blocks; omega⟩
          have hval : r.val (some ⟨g8, off8, none⟩) c8 (some ⟨g8, off8 + P.length, none⟩) (c8 - P.length) = .agg #[.int .i64 (s.root.epoch + 1), .int .i64 s.root.blocks, .int .i64 ((s.table.length : Int) - 1), .int .i64 s.start, .slice (some ⟨g8, off8, none⟩) P.length c8, .slice (some ⟨g8, off8 + P.length, none⟩) M.length (c8 - P.length)] := by
            unfold Root.val
            rw [hrT, hrM, hrB, hrE, hrN, hrS, hlt, hld]
          have hch : r.check = 0 := by rw [← hr]; exact HNX.out l HL.out (by have := HE.out; omega)
          have hPb : ∀ p ∈ P, Bytes p := by rw [← HP.out]; exact splitL_bytes (wordsL_bytes _)
          have L10 := lay_any 1 A5 c5 P (some ⟨g8, off8, none⟩) c8 (l.take P.length) wr F s SR PR IT hg8 (by omega) (by have := HPM.out; omega) (fun n hn => hwf n (List.mem_of_mem_take hn)) hPb
          rw [hlt] at L10
          obtain ⟨s1, e1, hL1⟩ : ∃ s1 e1, s.lay 1 P (l.take P.length) = (s1, e1) := ⟨_, _, rfl⟩
          obtain ⟨D1, b1, hk1⟩ := layF_keeps 1 (l.take P.length) P 0 s
          rw [show Sh.layF 1 (l.take P.length) P 0 s = s.lay 1 P (l.take P.length) from rfl, hL1] at hk1
          rw [hL1] at L10
          have L1 := Hide.mk L10
          obtain ⟨U, hU⟩ : ∃ U, splitL 246 (usedL r s.table) = U := ⟨_, rfl⟩
          have hUM : U.length = M.length := by rw [← hU, ← HM.out, splitL_num, splitL_num, usedL_clamp, emptyB_len, hrB]
          obtain ⟨s2, e2, hL2⟩ : ∃ s2 e2, s1.lay 2 U (l.drop P.length) = (s2, e2) := ⟨_, _, rfl⟩
          obtain ⟨D2, b2, hk2⟩ := layF_keeps 2 (l.drop P.length) U 0 s1
          rw [show Sh.layF 2 (l.drop P.length) U 0 s1 = s1.lay 2 U (l.drop P.length) from rfl, hL2] at hk2
          obtain ⟨s3, e3, hL3⟩ : ∃ s3 e3, s2.crown r = (s3, e3) := ⟨_, _, rfl⟩
          obtain ⟨D3, b3, hk3⟩ := crown_keeps s2 r
          rw [hL3] at hk3
          have ht1 : s1.table = s.table := by rw [show s1 = _ from hk1]
          have ht2 : s2.table = s.table := by rw [show s2 = _ from hk2]; exact ht1
          have ht3 : s3.table = s.table := by rw [show s3 = _ from hk3]; exact ht2
          have hR := HRR.out
          rw [if_neg (by have := HE.out; omega)] at hR
          simp only [hr, hrT, hrM, hU, hL1, hL2, hL3] at hR
          have HR1 := Hide.mk hR
          have HU := Hide.mk hU
          have HUM := Hide.mk (And.intro hUM (show M.length ≤ 512 from HPM.out.2.1))
          have HT := Hide.mk (And.intro ht1 (And.intro ht2 ht3))
          have HRI0 := Hide.mk RI
          have HOFFM := Hide.mk hg9
          have HDL := Hide.mk hld
          have HWFM : Hide (∀ n ∈ l.drop P.length, MapFn.wf n) := ⟨fun n hn => hwf n (List.mem_of_mem_drop hn)⟩
          have HUB2 : Hide (∀ p ∈ U, Bytes p) := ⟨by rw [← hU]; exact splitL_bytes (usedL_bytes _ _)⟩
          have HLL2 := Hide.mk hL2
          have HLL3 := Hide.mk hL3
          have HBRO := Hide.mk hoffb
          have HCH := Hide.mk hch
          have HVAL := Hide.mk hval
          have HG0 := Hide.mk (Goes.below (F := F) m0r.below)
          have HROW := Hide.mk rowr
          have HRM := Hide.mk hrM
          have k4 := cell_of (i := 4) rowr
          simp at k4
          have HB := Hide.mk (And.intro hb1 hb2)
          have HRS : Hide (r.tables.length + r.maps.length ≤ 1000) := ⟨by rw [hrT, hrM, hlt, hld]; have := HPM.out; omega⟩
          clear hoffb BD m8r m5r m0r SR PR IR hg8 hg9 IT IM hwf RI hval hch hPb L10 hU hUM hL1 hL2 hL3 hk1 hk2 hk3 ht1 ht2 ht3 hR rowr hBr hw1 hw2 hbne hb1 hb2 hb3 hb4 hb5 hb6 hb7 hc8 hll hrT hrM hrB hrE hrN hrS hr hlt hld hep hep2 hm1 hcap2 hwr hbr
          by_cases he1 : e1 = 0
          · subst he1
            go_wp2_with (go_at_call 44; (try with_reducible refine L1.out.mono ?_); rintro e w9 ⟨rfl, hs9, hg9⟩; have S9 := Hide.mk hs9; have G9 := Hide.mk hg9; clear hs9 hg9)
            have B9D := below_drew (Below.refl w9.heap.size w9)
            have SLD := Hide.mk (S9.out.below B9D)
            have row9 := (G9.out.moves.block br (lt_of_row HROW.out) HBRO.out).trans HROW.out
            have HRI9 := HRI0.out.moves G9.out.moves (fun x hx => .inl hx)
            have HRI := Hide.mk (HRI9.moves (Moves.of_below B9D []) (by simp))
            have TAB := SLD.out.table.in_
            rw [HT.out.1] at TAB
            have HUB0 := usedBy_any r s.table (some ⟨F.g, 0, none⟩) F.cap c8 (c8 - P.length) (some ⟨g8, off8, none⟩) (some ⟨g8, off8 + P.length, none⟩) w9.drew HRI.out.tables HRI.out.maps TAB (by have := HRS.out; omega)
            rw [HVAL.out] at HUB0
            have HUB := Hide.mk HUB0
            have H9 := Hide.mk (And.intro B9D HRI9)
            have KD : w9.drew.heap[br]? = _ ∧ w9.drew.cell? ⟨F.p, 10, none⟩ = some (.slice (some ⟨F.g, 0, none⟩) s.table.length F.cap) := And.intro (show w9.drew.heap[br]? = _ from row9) (by have := SLD.out.cells.c10; rw [HT.out.1] at this; exact this)
            clear row9 HRI9 TAB HUB0 B9D k4
            refine start_ (n := 13) (S := fun w' => w'.heap[br]? = some (.cells #[.int .i64 (s.root.epoch + 1), .int .i64 s.root.blocks, .int .i64 ((s.table.length : Int) - 1), .int .i64 s.start, .slice (some ⟨g8, off8, none⟩) P.length c8, .slice (some ⟨g8, off8 + P.length, none⟩) M.length (c8 - P.length)] 65 (0, 0)) ∧ w'.cell? ⟨F.p, 10, none⟩ = some (.slice (some ⟨F.g, 0, none⟩) s.table.length F.cap)) (ds := []) #[false, false, false, false, false, false, false, false, false, false, false, false, false] (by kernel_rfl) rfl rfl KD (fun hHeld => ?_); refine with_tabW tab20_17 bits20_17 (fun HT_ HW_ => ?_)
            refine pu_ (i := 0) (N := some 107) (v := ?_) (a' := ?_) (bls 13 1) HT_.out rfl rfl (by kernel_rfl) (by rfl) ?_ ?_ ?_
            rotate_left
            · intro w'; go_simp; with_reducible rfl
            rotate_left
            · simp only [Act.put, qT_, q0_, q1_, i64_w, i32_w]; rfl
            refine take_ (i := 1) (N := some 108) (v := ?_) (a' := ?_) (bls 13 3) rfl rfl (take_ofW HT_.out HW_.out (by kernel_rfl)) (fun _ _ _ h => h) (Or.inl ⟨by rfl, ?_⟩) hHeld ?_ ?_
            rotate_left
            · intro w' hS'
              refine exec_loadR (x := .tmp 9) ?_ ?_ hS'.1
              · rfl
              · rfl
            rotate_left
            · simp only [Act.put, qT_, q0_, q1_, i64_w, i32_w]; rfl
            refine pu_ (i := 2) (N := some 109) (v := ?_) (a' := ?_) (bls 13 7) HT_.out rfl rfl (by kernel_rfl) (by rfl) ?_ ?_ ?_
            rotate_left
            · intro w'; go_simp; with_reducible rfl
            rotate_left
            · simp only [Act.put, qT_, q0_, q1_, i64_w, i32_w]; rfl
            refine pu_ (i := 3) (N := some 110) (v := ?_) (a' := ?_) (bls 13 15) HT_.out rfl rfl (by kernel_rfl) (by rfl) ?_ ?_ ?_
            rotate_left
            · intro w'; go_simp; with_reducible rfl
            rotate_left
            · simp only [Act.put, qT_, q0_, q1_, i64_w, i32_w]; rfl
            refine pu_ (i := 4) (N := some 111) (v := ?_) (a' := ?_) (bls 13 31) HT_.out rfl rfl (by kernel_rfl) (by rfl) ?_ ?_ ?_
            rotate_left
            · intro w'; go_simp; with_reducible rfl
            rotate_left
            · simp only [Act.put, qT_, q0_, q1_, i64_w, i32_w]; rfl
            refine pu_ (i := 5) (N := some 112) (v := ?_) (a' := ?_) (bls 13 63) HT_.out rfl rfl (by kernel_rfl) (by rfl) ?_ ?_ ?_
            rotate_left
            · intro w'; go_simp; with_reducible rfl
            rotate_left
            · simp only [Act.put, qT_, q0_, q1_, i64_w, i32_w]; rfl
            refine take_ (i := 6) (N := some 113) (v := ?_) (a' := ?_) (bls 13 127) rfl rfl (take_ofW HT_.out HW_.out (by kernel_rfl)) (fun _ _ _ h => h) (Or.inl ⟨by rfl, ?_⟩) hHeld ?_ ?_
            rotate_left
            · intro w' hS'
              have s1 := hS'.2
              go_simp
              rfl
            rotate_left
            · simp only [Act.put, qT_, q0_, q1_, i64_w, i32_w]; rfl
            refine pu_ (i := 9) (N := some 116) (v := ?_) (a' := ?_) (bls 13 639) HT_.out rfl rfl (by kernel_rfl) (by rfl) ?_ ?_ ?_
            rotate_left
            · intro w'; go_simp; with_reducible rfl
            rotate_left
            · simp only [Act.put, qT_, q0_, q1_, i64_w, i32_w]; rfl
            refine take_ (i := 10) (N := some 117) (v := ?_) (a' := ?_) (bls 13 1663) rfl rfl (take_ofW HT_.out HW_.out (by kernel_rfl)) (fun _ _ _ h => h) (Or.inl ⟨by rfl, ?_⟩) hHeld ?_ ?_
            rotate_left
            · intro w' hS'
              have s1 := cell_of (i := 5) hS'.1
              simp at s1
              go_simp
              rfl
            rotate_left
            · simp only [Act.put, qT_, q0_, q1_, i64_w, i32_w]; rfl
            refine one_ (i := 7) (N := some 114) (bls 13 1791) rfl rfl (one_of HT_.out (by kernel_rfl)) (by decide) (fun K hK => ?_)
            refine goes_ Tryz.func45 (by kernel_rfl) rfl #[.agg #[.int .i64 (s.root.epoch + 1), .int .i64 s.root.blocks, .int .i64 ((s.table.length : Int) - 1), .int .i64 s.start, .slice (some ⟨g8, off8, none⟩) P.length c8, .slice (some ⟨g8, off8 + P.length, none⟩) M.length (c8 - P.length)], .slice (some ⟨F.g, 0, none⟩) s.table.length F.cap] (by rfl) rfl rfl (by (try simp only [List.map_toArray, List.map_cons, List.map_nil]); first | done | rfl) ?_
            with_reducible refine HUB.out.mono ?_
            rintro e wA ⟨vA, rfl, ho, hb⟩
            obtain ⟨AA, cA, hvA, hiA, hgeA⟩ := In.of_own ho
            have HSPA0 := split_any AA cA (usedL r s.table) wA hiA (by have := usedL_len r s.table; omega)
            rw [HU.out] at HSPA0
            obtain ⟨nA, hnA⟩ : ∃ n, (usedL r s.table).length = n := ⟨_, rfl⟩
            rw [hnA] at hvA HSPA0
            subst hvA
            have HSPA := Hide.mk HSPA0
            have SA := Hide.mk (SLD.out.below hb)
            have KDA := And.intro ((hb.block br (lt_of_row KD.1)).trans KD.1) (pw_cell_below hb KD.2)
            have BA := Hide.mk hb
            refine ⟨_, rfl, ?_⟩
            clear ho hb hiA hgeA hnA HSPA0
            refine hK.out _ _ KDA (fun hHeld => ?_)
            clear hK K
            refine norm_ (a' := ?_) ?_ ?_
            rotate_left
            · show Act.put _ (some 114) _ = _; simp only [Act.put, qT_, q0_, q1_, i64_w, i32_w]; rfl
            refine one_ (i := 8) (N := some 115) (bls 13 2047) rfl rfl (one_of HT_.out (by kernel_rfl)) (by decide) (fun K hK => ?_)
            refine goes_ Tryz.func41 (by kernel_rfl) rfl #[.slice AA nA cA, .int .i64 246] (by rfl) rfl rfl (by (try simp only [List.map_toArray, List.map_cons, List.map_nil]); first | done | rfl) ?_
            with_reducible refine HSPA.out.mono ?_
            rintro e wB ⟨AB, cB, rfl, hp, hb⟩
            have SB := Hide.mk (SA.out.below hb)
            have PB := Hide.mk (hp F.own SA.out.lts)
            have KDB := And.intro ((hb.block br (lt_of_row KDA.1)).trans KDA.1) (pw_cell_below hb KDA.2)
            have BB := Hide.mk (BA.out.trans (hb.mono BA.out.size))
            have HL20 := lay_any 2 AB cB U (some ⟨g8, off8 + P.length, none⟩) (c8 - P.length) (l.drop P.length) wB F _ SB.out PB.out (by have := (((HRI.out.moves (Moves.of_below BA.out []) (by simp)).moves (Moves.of_below hb []) (by simp)).maps); rw [HRM.out] at this; exact this) HOFFM.out (by rw [HDL.out]; have := HUM.out; omega) (by have := HUM.out; omega) HWFM.out HUB2.out
            rw [HDL.out, HLL2.out] at HL20
            have HL2 := Hide.mk HL20
            refine ⟨_, rfl, ?_⟩
            clear hp hb HL20
            refine hK.out _ _ KDB (fun hHeld => ?_)
            clear hK K
            refine norm_ (a' := ?_) ?_ ?_
            rotate_left
            · show Act.put _ (some 115) _ = _; simp only [Act.put, qT_, q0_, q1_, i64_w, i32_w]; rfl
            refine one_ (i := 11) (N := some 118) (bls 13 4095) rfl rfl (one_of HT_.out (by kernel_rfl)) (by decide) (fun K hK => ?_)
            refine goes_ Tryz.func44 (by kernel_rfl) rfl #[.pointer (some ⟨F.p, 0, none⟩), .int .i64 2, .slice AB U.length cB, .slice (some ⟨g8, off8 + P.length, none⟩) M.length (c8 - P.length)] (by rfl) rfl rfl (by (try simp only [List.map_toArray, List.map_cons, List.map_nil]); first | done | rfl) ?_
            with_reducible refine HL2.out.mono ?_
            rintro e wC ⟨rfl, hsC, hgC⟩
            have SC := Hide.mk hsC
            have GC := Hide.mk hgC
            have KDC := And.intro ((hgC.moves.block br (lt_of_row KDB.1) HBRO.out).trans KDB.1) (show wC.cell? ⟨F.p, 10, none⟩ = some (.slice (some ⟨F.g, 0, none⟩) s.table.length F.cap) from by have := hsC.cells.c10; rw [HT.out.2.1] at this; exact this)
            refine ⟨_, rfl, ?_⟩
            clear hsC hgC
            refine hK.out _ _ KDC (fun hHeld => ?_)
            clear hK K
            refine norm_ (a' := ?_) ?_ ?_
            rotate_left
            · show Act.put _ (some 118) _ = _; simp only [Act.put, qT_, q0_, q1_, i64_w, i32_w]; rfl
            refine pu_ (i := 12) (N := some 11) (v := ?_) (a' := ?_) (bls 13 8191) HT_.out rfl rfl (by kernel_rfl) (by rfl) ?_ ?_ ?_
            rotate_left
            · intro w'; go_simp; with_reducible rfl
            rotate_left
            · simp only [Act.put, qT_, q0_, q1_, i64_w, i32_w]; rfl
            refine done_ (done_of HT_.out (by kernel_rfl)) ?_
            clear KD KDA KDB hHeld
            have hgt : Goes F F w9 wC := (Goes.below (H9.out.1.trans (BB.out.mono H9.out.1.size))).trans GC.out
            have GT := Hide.mk ((HG0.out.trans G9.out).trans hgt)
            have HRC := Hide.mk (H9.out.2.moves hgt.moves (fun x hx => .inl hx))
            have k0 := cell_of (i := 0) KDC.1
            have k1 := cell_of (i := 1) KDC.1
            have k2 := cell_of (i := 2) KDC.1
            have k3 := cell_of (i := 3) KDC.1
            have k4 := cell_of (i := 4) KDC.1
            have k5 := cell_of (i := 5) KDC.1
            simp at k0 k1 k2 k3 k4 k5
            have HKC := Hide.mk KDC.1
            have HCR0 := crown_any r (some ⟨g8, off8, none⟩) c8 (some ⟨g8, off8 + P.length, none⟩) (c8 - P.length) wC F s2 SC.out HRC.out HCH.out
            rw [HVAL.out, HLL3.out] at HCR0
            have HCR := Hide.mk HCR0
            clear hgt KDC HCR0
            by_cases he2 : e2 = 0
            · subst he2
              by_cases he3 : e3 = 0
              · subst he3
                go_wp2_with (first
                  | (go_at_call 46; refine HCR.out.mono ?_; rintro e wD ⟨rfl, F3, hs, hg⟩
                     have S3 := Hide.mk hs
                     have G3 := Hide.mk hg
                     have rowD := (hg.moves.block br (lt_of_row HKC.out) HBRO.out).trans HKC.out
                     have m0 := cell_of (i := 0) rowD
                     have m1 := cell_of (i := 1) rowD
                     have m2 := cell_of (i := 2) rowD
                     have m3 := cell_of (i := 3) rowD
                     have m4 := cell_of (i := 4) rowD
                     have m5 := cell_of (i := 5) rowD
                     simp at m0 m1 m2 m3 m4 m5
                     have HSE0 := settle_any r (some ⟨g8, off8, none⟩) c8 (some ⟨g8, off8 + P.length, none⟩) (c8 - P.length) wD F3 s3 hs (HRC.out.foot hg) (by rw [HT.out.2.2]; omega) (by have := HRS.out; omega)
                     rw [HVAL.out, hg.p] at HSE0
                     have HSE := Hide.mk HSE0
                     clear hs hg rowD HSE0)
                  | (go_at_call 47; with_reducible refine HSE.out.mono ?_; rintro e wE ⟨rfl, F4, hs, hg, hsl⟩; have S4' := Hide.mk hs; have G4 := Hide.mk hg; have SL4 := Hide.mk hsl; clear hs hg hsl))
                go_ret
                have hR := HR1.out
                rw [if_neg (by simp), if_neg (by simp), if_neg (by simp)] at hR
                rw [← hR]
                exact ⟨rfl, F4, S4'.out, (GT.out.trans G3.out).close G4.out (SL4.out _ (GT.out.trans G3.out).moves.size (fun a ha => by cases ha; exact GE8W.out) (fun a ha => by cases ha; exact GE8W.out))⟩
              · have q : (e3 != 0) = true := by simp [he3]
                have HE3 := Hide.mk he3
                clear he3
                go_wp2_with (go_at_call 46; refine HCR.out.mono ?_; rintro e wD ⟨rfl, F3, hs, hg⟩; have S3 := Hide.mk hs; have G3 := Hide.mk hg; clear hs hg)
                go_ret
                have hR := HR1.out
                rw [if_neg (by simp), if_neg (by simp), if_pos HE3.out] at hR
                rw [← hR]
                exact ⟨rfl, F3, S3.out, GT.out.trans G3.out⟩
            · have q : (e2 != 0) = true := by simp [he2]
              have HE2 := Hide.mk he2
              clear he2
              go_wp2
              go_ret
              have hR := HR1.out
              rw [if_neg (by simp), if_pos HE2.out] at hR
              rw [← hR]
              exact ⟨rfl, F, SC.out, GT.out⟩
          · have q : (e1 != 0) = true := by simp [he1]
            have HE1 := Hide.mk he1
            clear he1
            go_wp2_with (go_at_call 44; (try with_reducible refine L1.out.mono ?_); rintro e w9 ⟨rfl, hs9, hg9⟩; have S9 := Hide.mk hs9; have G9 := Hide.mk hg9; clear hs9 hg9)
            go_ret
            have hR := HR1.out
            rw [if_pos HE1.out] at hR
            rw [← hR]
            exact ⟨rfl, F, S9.out, HG0.out.trans G9.out⟩
  · rw [if_pos h0] at hR
    have q : (a != 0) = true := by simp [h0]
    clear h0
    go_enter Tryz.func20, Tryz.ntmps20
    go_wp2_with (go_at_call 59; refine HA.out.mono ?_; rintro e w0 ⟨rfl, hw0⟩; obtain rfl : w = w0 := hw0.symm)
    go_ret
    rw [← hR]
    exact ⟨rfl, F, HS.out, Goes.refl _ _⟩
theorem commit_any (w : World) (F : Foot) (s : Sh) (h : ShAt w F s) (hk : Ok s) (hmp : 1 ≤ mapsOf s.root.blocks)
    (hnx : ∀ l, s.lowest ((splitL 246 (wordsL (s.table.drop 1))).length + mapsOf s.root.blocks) = some l → s.root.epoch < 1099511627776 → (s.next (splitL 246 (wordsL (s.table.drop 1))).length l).check = 0) :
    Calls Tryz.prog 20 #[.pointer (some ⟨F.p, 0, none⟩)] w fun e w' => e = .returned (.int .i64 s.commit.2) ∧ ∃ F', ShAt w' F' s.commit.1 ∧ Goes F F' w w' := by
  by_cases hc : F.cap = 1
  · exact commit_eq w F s h hk hmp hc hnx
  · exact commit_ne w F s h hk hmp (by have := (tab_max h.table).1; have := hk.table.1; omega) hnx
end Go.Proofs.YtgmkbcoahilkhaaGreat.Sh
end
section
namespace Go.Proofs.YtgmkbcoahilkhaaGreat.Sh
open Go.RowKit YtgmkbcoahilkhaaGreatW.PrintWords YtgmkbcoahilkhaaGreatW.PrintLast YtgmkbcoahilkhaaGreatW.PrintMore MapFn Disk Bitset Page
set_option maxHeartbeats 16000000
set_option maxRecDepth 100000
def ptrOf (e : Int) (p : Nat) : Value := .pointer (if e = 0 then some ⟨p, 0, none⟩ else none)
theorem ptrOf_bad {e : Int} (h : ¬ e = 0) (p : Nat) : ptrOf e p = .pointer none := by unfold ptrOf; rw [if_neg h]
theorem ptrOf_ok (p : Nat) : ptrOf 0 p = .pointer (some ⟨p, 0, none⟩) := rfl
theorem mapsOf_num (b : Int) : mapsOf b = (Given.clampN b + 245) / 246 := by unfold mapsOf; rw [splitL_num, emptyB_len]
theorem mapsOf_3 (b : Int) : mapsOf b ≤ 3 := by rw [mapsOf_num]; have := clampN_le b; omega
def mapsL (k : Nat) : List Int := (List.range k).map fun i => ((2 + i : Nat) : Int)
theorem mapsL_len (k : Nat) : (mapsL k).length = k := by simp [mapsL]
theorem mapsL_succ (k : Nat) : mapsL (k + 1) = mapsL k ++ [2 + (k : Int)] := by simp [mapsL, List.range_succ]
theorem firstRoot_maps (b : Int) : (firstRoot b).maps = mapsL (mapsOf b) := rfl
theorem mapsL_each {k : Nat} {n : Int} (h : n ∈ mapsL k) : 2 ≤ n ∧ n < 2 + (k : Int) := by
  simp only [mapsL, List.mem_map, List.mem_range] at h
  obtain ⟨i, hi, rfl⟩ := h
  omega
theorem firstRoot_check {N : Int} (h : N ≤ 4096) (h3 : ¬ N < 3 + (mapsOf N : Int)) : (firstRoot N).check = 0 := by
  have hm := mapsOf_3 N
  unfold Root.check
  have e1 : inside N 2 4096 = true := by unfold inside; simp; omega
  rw [if_neg (by show ¬ ((inside 0 0 1099511627776 && inside N 2 4096 && inside 0 0 3000 && inside 0 0 0) = false); rw [e1]; decide), if_neg (by rw [firstRoot_maps, mapsL_len]; simp [firstRoot]; omega), if_neg]
  simp only [Bool.not_eq_false, List.all_eq_true, List.mem_append]
  intro n hn
  rcases hn with hn | hn
  · cases hn
  · have := mapsL_each (show n ∈ mapsL (mapsOf N) from hn)
    show (decide (2 ≤ n) && decide (n ≤ N - 1)) = true
    simp
    omega
def z256 : List Int := zeros
theorem make256 (W : World) : (Instr.makeSlice 22 (.int .i64 256) (.int .i64 256)).run Tryz.prog W = .ok (.slice (some ⟨W.heap.size, 0, none⟩) 256 256) (W.alloc (.cells (encB zeros) 5)) := by
  obtain ⟨i0, hi, hzz⟩ := Option.map_eq_some_iff.1 info5
  simp only [Prod.mk.injEq] at hzz
  obtain ⟨h1, h2, h3⟩ := hzz
  have := run_make (P := Tryz.prog) (w := W) 22 5 i0 (.int .u8 0) Tryz.underlying22 hi h1 .i64 .i64 256 256 (by omega) (by omega) (by rw [h3]; decide) (by decide)
  rw [h2, show Int.toNat 256 = 256 from rfl, show madeCells (Value.int IntKind.u8 0).cells (256 * 1) = encB zeros by kernel_rfl] at this
  exact this
theorem store_root {w : World} {ops : Array Oper} {rest : List Oper} {o : Oper} {a : Act} {Q : Exit → Act → World → Prop} (hg : o.guard = none) (x v : Operand) (hop : o.op = Op.store 65 x v) (g : Nat) (cs cs' : Array Value) (hx : a.eval x = .pointer (some ⟨g, 0, none⟩)) (hv : a.eval v = .agg cs') (hrow : w.heap[g]? = some (.cells cs 65 (0, 0))) (hs : cs.size = 6) (hs' : cs'.size = 6) (h1 : cs'.all (·.oneCell') = true)
    (hK : ∀ w', w'.heap[g]? = some (.cells cs' 65 (0, 0)) → w.grownBy w' (some g) → w'.heap.size = w.heap.size → wpList Tryz.prog ops Q rest (a.put o.dst undef) w') : wpList Tryz.prog ops Q (o :: rest) a w := by
  refine wpList_plain hg fun K' hK' => ?_
  have hrun : (Instr.storeAt 65 (.pointer (some ⟨g, 0, none⟩)) (.agg cs')).run Tryz.prog w = .ok () (w.setRow g cs') := by
    simp only [Instr.storeAt, Instr.sureAddr, Sem.run_bind, Sem.run_pure, Result.andThen]
    exact run_storeVar_row w g _ _ cs cs' hrow (by rw [infoR, hs']) (by rw [hs, hs']) h1
  have h2 := hK (w.setRow g cs') (setRow_heap w g cs cs' _ _ hrow) ⟨rfl, rfl, rfl, by simp, fun k hk hne => setRow_other w g k cs' (fun e => hne (by rw [e]))⟩ (by simp)
  unfold Oper.wp
  simp [execOp, hop, hx, hv, hrun, Result.andThen]
  first | exact hK' _ _ h2 | (simp [Oper.upon]; exact hK' _ _ h2) | (unfold Oper.upon; simp; exact hK' _ _ h2)
structure Born (F : Foot) (pd ms ml : Nat) (w w' : World) : Prop where
  epd : F.pd = pd
  ems : F.ms = ms
  ep : w.heap.size ≤ F.p
  own : ∀ x ∈ F.own, x ∈ [pd, ms, ml] ∨ w.heap.size ≤ x
  moves : Moves [pd, ms, ml] w w'
theorem Born.of_goes {F F' : Foot} {pd ms ml : Nat} {w w0 w' : World} (hb : Below w.heap.size w w0) (h : F.pd = pd ∧ F.ms = ms ∧ F.ml = ml ∧ w.heap.size ≤ F.p ∧ w.heap.size ≤ F.g) (hg : Goes0 F F' w0 w') : Born F' pd ms ml w w' := by
  obtain ⟨h1, h2, h3, h4, h5⟩ := h
  have ho : ∀ x ∈ F.own, x ∈ [pd, ms, ml] ∨ w.heap.size ≤ x := fun x hx => by
    simp only [Foot.own, List.mem_cons, List.not_mem_nil, or_false] at hx
    simp only [List.mem_cons, List.not_mem_nil, or_false]
    rcases hx with rfl | rfl | rfl | rfl | rfl
    · exact .inr h4
    · exact .inl (.inl h1)
    · exact .inl (.inr (.inl h2))
    · exact .inl (.inr (.inr h3))
    · exact .inr h5
  refine ⟨hg.pd.trans h1, hg.ms.trans h2, by rw [hg.p]; exact h4, fun x hx => ?_, ?_⟩
  · rcases hg.own x hx with q | q
    · exact ho x q
    · exact .inr (Nat.le_trans hb.size q)
  · exact ((Moves.of_below hb F.own).trans hg.moves).more ho
def T9_13 : Bool × List (List Nat × List Nat) := (true, [([], []), ([0], [0]), ([1], [1]), ([2], [2]), ([], []), ([3, 4], [3, 4]), ([5, 5, 0, 1, 2, 3, 4, 5], [5])])
def B9_13 : List Nat := [0, 1, 3, 7, 0, 31, 63]
theorem tab9_13 : rtab .any (opsOf Tryz.f9 13) = T9_13 := by kernel_rfl
theorem bits9_13 : waitsOk T9_13.2 B9_13 = true := by kernel_rfl
def T9_16 : Bool × List (List Nat × List Nat) := (true, [([], []), ([], []), ([], []), ([2], [2]), ([3], [3]), ([4], [4]), ([5], [5]), ([1, 6], [1, 6]), ([7, 7], [7]), ([], []), ([9], [9]), ([0, 8, 10, 8], [0, 8, 10]), ([11, 11, 0, 1, 2, 3, 4, 5, 6, 7, 8, 9, 10, 11], [11])])
def B9_16 : List Nat := [0, 0, 0, 4, 12, 28, 60, 126, 254, 0, 512, 2047, 4095]
theorem tab9_16 : rtab .any (opsOf Tryz.f9 16) = T9_16 := by kernel_rfl
theorem bits9_16 : waitsOk T9_16.2 B9_16 = true := by kernel_rfl
theorem format_any (pd ms ml : Nat) (D : DiskSt) (w : World) (h : DiskAt w pd ms ml D) (hN : 0 ≤ D.blocks ∧ D.blocks ≤ 4096) :
    Calls Tryz.prog 9 #[.pointer (some ⟨pd, 0, none⟩)] w fun e w' => ∃ F : Foot, e = .returned (.tuple #[ptrOf (Sh.format D).2 F.p, .int .i64 (Sh.format D).2]) ∧ ShAt w' F (Sh.format D).1 ∧ Born F pd ms ml w w' := by
  have HD := Hide.mk h
  have HOV := Hide.mk (over_any pd ms ml D w h)
  have hN2 := hN
  have HN := Hide.mk hN
  obtain ⟨R, hR⟩ : ∃ R, Sh.format D = R := ⟨_, rfl⟩
  rw [hR]
  unfold Sh.format at hR
  obtain ⟨M, hM⟩ : ∃ P, splitL 246 (emptyB D.blocks) = P := ⟨_, rfl⟩
  have HM := Hide.mk hM
  obtain ⟨k, hk⟩ : ∃ k, mapsOf D.blocks = k := ⟨_, rfl⟩
  have hMl : M.length = k := by rw [← hM, ← hk]; rfl
  have hk3 : k ≤ 3 := by rw [← hk]; exact mapsOf_3 _
  have HK := Hide.mk hk
  simp only [hk] at hR
  clear h hN hM hk
  by_cases hsm : D.blocks < 3 + (k : Int)
  · rw [if_pos hsm] at hR
    have HRR := Hide.mk hR
    clear hR
    go_enter Tryz.func9, Tryz.ntmps9
    go_wp2_with (first
      | (go_at_call 40; refine HOV.out.mono ?_; rintro e w1 ⟨F, rfl, hs, hpd, hms, hml, hb, hFp, hFg⟩
         have S1 := Hide.mk hs
         have HF := Hide.mk (show F.pd = pd ∧ F.ms = ms ∧ F.ml = ml ∧ w.heap.size ≤ F.p ∧ w.heap.size ≤ F.g from ⟨hpd, hms, hml, hFp, hFg⟩)
         have B1 := Hide.mk hb
         have HBK := Hide.mk (Blocks_any (HD.out.below hb))
         clear hs hpd hms hml hb hFp hFg)
      | (go_at_call 43; with_reducible refine HBK.out.mono ?_; rintro e w0 ⟨rfl, hw0⟩; have hw1 := hw0.symm; subst hw1)
      | (go_at_call 42; refine (Given.make_any D.blocks _).mono ?_; rintro e w2 ⟨v2, rfl, ho, hb2⟩
         rw [show List.replicate (Given.clampN D.blocks) 0 = emptyB D.blocks from rfl] at ho
         obtain ⟨A2, c2, hv2, hi2, hge2⟩ := In.of_own ho
         have HSP := split_any A2 c2 _ w2 hi2 (by rw [emptyB_len]; have := clampN_le D.blocks; omega)
         rw [HM.out] at HSP
         obtain ⟨n2, hn2⟩ : ∃ n, (emptyB D.blocks).length = n := ⟨_, rfl⟩
         rw [hn2] at hv2 HSP
         subst hv2
         have HSP2 := Hide.mk HSP
         have B2 := Hide.mk hb2
         clear ho hb2 hi2 hge2 hn2 HSP)
      | (go_at_call 41; with_reducible refine HSP2.out.mono ?_; rintro e w3 ⟨A3, c3, rfl, hp3, hb3⟩
         have B3 := Hide.mk (B2.out.trans (hb3.mono B2.out.size))
         have S3 := Hide.mk (S1.out.below B3.out)
         clear HBK
         have HBK := Hide.mk (Blocks_any (HD.out.below (B1.out.trans (B3.out.mono B1.out.size))))
         clear hp3 hb3)
)
    go_ret2
    rw [← HRR.out]
    exact ⟨F, by rw [ptrOf_bad (by show ¬ (10 : Int) = 0; decide)]; rfl, S3.out, Born.of_goes (B1.out.trans (B3.out.mono B1.out.size)) HF.out (Goes.refl _ _).toGoes0⟩
  · rw [if_neg hsm] at hR
    have HRR := Hide.mk hR
    have HSM := Hide.mk hsm
    clear hR
    go_enter Tryz.func9, Tryz.ntmps9
    go_wp2_with (first
      | (go_at_call 40; refine HOV.out.mono ?_; rintro e w1 ⟨F, rfl, hs, hpd, hms, hml, hb, hFp, hFg⟩
         have S1 := Hide.mk hs
         have HF := Hide.mk (show F.pd = pd ∧ F.ms = ms ∧ F.ml = ml ∧ w.heap.size ≤ F.p ∧ w.heap.size ≤ F.g from ⟨hpd, hms, hml, hFp, hFg⟩)
         have B1 := Hide.mk hb
         have HBK := Hide.mk (Blocks_any (HD.out.below hb))
         clear hs hpd hms hml hb hFp hFg)
      | (go_at_call 43; with_reducible refine HBK.out.mono ?_; rintro e w0 ⟨rfl, hw0⟩; have hw1 := hw0.symm; subst hw1)
      | (go_at_call 42; refine (Given.make_any D.blocks _).mono ?_; rintro e w2 ⟨v2, rfl, ho, hb2⟩
         rw [show List.replicate (Given.clampN D.blocks) 0 = emptyB D.blocks from rfl] at ho
         obtain ⟨A2, c2, hv2, hi2, hge2⟩ := In.of_own ho
         have HSP := split_any A2 c2 _ w2 hi2 (by rw [emptyB_len]; have := clampN_le D.blocks; omega)
         rw [HM.out] at HSP
         obtain ⟨n2, hn2⟩ : ∃ n, (emptyB D.blocks).length = n := ⟨_, rfl⟩
         rw [hn2] at hv2 HSP
         subst hv2
         have HSP2 := Hide.mk HSP
         have B2 := Hide.mk hb2
         clear ho hb2 hi2 hge2 hn2 HSP)
      | (go_at_call 41; with_reducible refine HSP2.out.mono ?_; rintro e w3 ⟨A3, c3, rfl, hp3, hb3⟩
         have B3 := Hide.mk (B2.out.trans (hb3.mono B2.out.size))
         have S3 := Hide.mk (S1.out.below B3.out)
         clear HBK
         have HBK := Hide.mk (Blocks_any (HD.out.below (B1.out.trans (B3.out.mono B1.out.size))))
         clear hp3 hb3)
)
    obtain ⟨w4, hw4⟩ : ∃ w4, w3.alloc (.cells #[.int .i64 0, .int .i64 D.blocks, .int .i64 0, .int .i64 0, .slice none 0 0, .slice none 0 0] 65) = w4 := ⟨_, rfl⟩
    rw [hw4]
    have row4 := heap_last w3 (.cells #[.int .i64 0, .int .i64 D.blocks, .int .i64 0, .int .i64 0, .slice none 0 0, .slice none 0 0] 65)
    rw [hw4] at row4
    have ROW4 := Hide.mk row4
    clear row4
    have B34 : Below w3.heap.size w3 w4 := by rw [← hw4]; exact (Below.refl _ _).alloc (Nat.le_refl _) _
    have hz4 : w4.heap.size = w3.heap.size + 1 := by rw [← hw4]; simp
    have S4 := Hide.mk (S3.out.below B34)
    have hown : ∀ x ∈ F.own, x < w3.heap.size := S3.out.lts
    have hoffb : ¬ w3.heap.size ∈ F.own := fun hx => by have := S3.out.lts _ hx; omega
    have BW4 := Hide.mk ((B1.out.trans (B3.out.mono B1.out.size)).trans (B34.mono (Nat.le_trans B1.out.size B3.out.size)))
    have hw3 : w.heap.size ≤ w3.heap.size := Nat.le_trans B1.out.size B3.out.size
    have hall : ∀ wr, Below w3.heap.size w4 wr → ShAt wr F (Sh.over D) ∧ Below w.heap.size w wr := fun wr hb => ⟨S3.out.below (B34.trans hb), (B1.out.trans (B3.out.mono B1.out.size)).trans ((B34.trans hb).mono hw3)⟩
    obtain ⟨br, hbr⟩ : ∃ br, w3.heap.size = br := ⟨_, rfl⟩
    rw [hbr] at ROW4 hz4 hoffb hw3 hall hown ⊢
    have HOWN := Hide.mk hown
    have HALL := Hide.mk hall
    have HZ4 := Hide.mk hz4
    have HBRO := Hide.mk hoffb
    have HW3 := Hide.mk hw3
    clear hown hall B34 hz4 hoffb hw3 hbr hw4 HBK
    go_loopw [29] (fun v29 wr => ∃ (i : Nat) (A5 : Option Addr) (c5 : Nat), v29 = .int .i64 (i : Int) ∧ Hide (i ≤ k) ∧ Hide (wr.heap[br]? = some (.cells #[.int .i64 0, .int .i64 D.blocks, .int .i64 0, .int .i64 0, .slice none 0 0, .slice A5 i c5] 65 (0, 0))) ∧ Hide (Kd.R (Kd.int .i64) 3 wr (br + 1) (fun _ => True) (.slice A5 i c5) (mapsL i)) ∧ Hide (Below br w4 wr)) (fun v29 _ => k - (intOf v29).toNat)
    case atStart => exact ⟨0, none, 0, by first | rfl | simp, ⟨Nat.zero_le _⟩, ROW4, ⟨Kd.R_nil _ _ _ _ _⟩, ⟨Below.refl _ _⟩⟩
    case round =>
      obtain ⟨i, A5, c5, rfl, hi, hrow, hO, hM⟩ := hrel
      have hilt := hi.out
      have k5 := cell_of (i := 5) hrow.out
      simp at k5
      by_cases hlt0 : i < k
      · have hlt : (i : Int) < (k : Int) := by omega
        go_wp2_with (first
          | ((with_reducible refine gate_builtin (b := .append) (xs := #[.tmp 33, .tmp 36]) rfl ?_); at_builtin
             refine Kd.R_append (Kd.int .i64) (w0 := wr) (br + 1) rfl (.tmp 33) (.tmp 36) 38 3 (.int .i64 0) 8 rfl Tryz.underlying38 infoI rfl (by decide) (by omega) (.slice A5 i c5) (mapsL i) (2 + (i : Int)) [.int .i64 (2 + (i : Int))] (fun _ => True) (fun _ => False) rfl rfl rfl (fun _ h => h.elim) (fun _ _ => trivial) hO.out (Below.refl _ _) (by have := hM.out.size; have := HZ4.out; omega) (by rw [mapsL_len]; omega) ?_
             intro v6 w6 ho hb hg hat
             rw [← mapsL_succ] at ho
             obtain ⟨A6, c6, hv6, hcc6, _⟩ := Kd.R_reads ho
             rw [mapsL_len] at hv6
             subst hv6
             have O6 := Hide.mk ho
             have B6 := Hide.mk hb
             have NE6 : Hide (some br ≠ (Value.slice A6 (i + 1) c6).ownBlock) := ⟨by
               obtain ⟨A', c', hv', _, hge'⟩ := In.of_own ho
               rw [mapsL_len] at hv'
               cases hv'
               intro e
               cases A6 with
               | none => cases e
               | some a => have := hge' a rfl; simp [Value.ownBlock] at e; omega⟩
             have row6 := (hb.block br (Nat.lt_succ_self _)).trans hrow.out
             have c5' := cell_of (i := 5) row6
             have f5' := free_of (i := 5) row6
             simp at c5'
             obtain ⟨w7, hw7, row7, hg7⟩ := stage_set (i := 5) (v := .slice A6 (i + 1) c6) row6
             have ROW7 := Hide.mk row7
             have G7 := Hide.mk hg7
             clear ho hb hg hat hcc6 row6 row7 hg7))
        go_roundw
        case rel =>
          have hB6 := B6.out.mono (Nat.le_succ br)
          exact ⟨i + 1, A6, c6, by go_num, ⟨by omega⟩, ⟨by simpa using ROW7.out⟩, ⟨Kd.R_grown1 O6.out rfl G7.out NE6.out⟩, ⟨(hM.out.trans hB6).grown G7.out (by have := hM.out.size; have := HZ4.out; have := hB6.size; omega) (fun k hk => by cases hk; exact Nat.le_refl _)⟩⟩
        case measure => simp [intOf]; omega
      · have hlt : ¬ (i : Int) < (k : Int) := by omega
        have hik : i = k := by omega
        subst hik
        obtain ⟨SW0, BW0⟩ := HALL.out wr hM.out
        have hdr := below_drew (Below.refl wr.heap.size wr)
        have SW := Hide.mk (SW0.below hdr)
        have BW := Hide.mk (BW0.trans (hdr.mono BW0.size))
        obtain ⟨E1, hE1⟩ : ∃ E, (D.write 1 zeros).2 = E := ⟨_, rfl⟩
        obtain ⟨D1, hD1⟩ : ∃ E, (D.write 1 zeros).1 = E := ⟨_, rfl⟩
        obtain ⟨s0, hs0⟩ : ∃ s0, ({ Sh.over D with D := D1 } : Sh) = s0 := ⟨_, rfl⟩
        have HED := Hide.mk (And.intro hE1 hD1)
        have hR := HRR.out
        rw [hE1, hD1, hs0] at hR
        have HR1 := Hide.mk hR
        have HS0 := Hide.mk hs0
        obtain ⟨A5', c5', hv', hi5, hge5⟩ := In.of_own hO.out
        rw [mapsL_len] at hv'
        cases hv'
        have I5 := Hide.mk (hi5.below hdr)
        have GE5 := Hide.mk hge5
        have HROW := Hide.mk (show wr.drew.heap[br]? = _ from hrow.out)
        have KC := SW.out.cells.c1
        clear SW0 BW0 hdr hE1 hD1 hs0 hR hi5 hge5 k5 hlt0
        go_wp2
        refine start_ (n := 7) (S := fun w' => w'.cell? ⟨F.p, 1, none⟩ = some (.func (.func 91) #[.pointer (some ⟨F.pd, 0, none⟩)] #[])) (ds := []) #[false, false, false, false, false, false, false] (by kernel_rfl) rfl rfl KC (fun hHeld => ?_); refine with_tabW tab9_13 bits9_13 (fun HT_ HW_ => ?_)
        refine pu_ (i := 0) (N := some 40) (v := ?_) (a' := ?_) (bls 7 1) HT_.out rfl rfl (by kernel_rfl) (by rfl) ?_ ?_ ?_
        rotate_left
        · intro w'; go_simp; with_reducible rfl
        rotate_left
        · simp only [Act.put, qT_, q0_, q1_, i64_w, i32_w]; rfl
        refine pu_ (i := 1) (N := some 41) (v := ?_) (a' := ?_) (bls 7 3) HT_.out rfl rfl (by kernel_rfl) (by rfl) ?_ ?_ ?_
        rotate_left
        · intro w'; go_simp; with_reducible rfl
        rotate_left
        · simp only [Act.put, qT_, q0_, q1_, i64_w, i32_w]; rfl
        refine pu_ (i := 2) (N := some 42) (v := ?_) (a' := ?_) (bls 7 7) HT_.out rfl rfl (by kernel_rfl) (by rfl) ?_ ?_ ?_
        rotate_left
        · intro w'; go_simp; with_reducible rfl
        rotate_left
        · simp only [Act.put, qT_, q0_, q1_, i64_w, i32_w]; rfl
        refine take_ (i := 3) (N := some 43) (v := ?_) (a' := ?_) (bls 7 15) rfl rfl (take_ofW HT_.out HW_.out (by kernel_rfl)) (fun _ _ _ h => h) (Or.inl ⟨by rfl, ?_⟩) hHeld ?_ ?_
        rotate_left
        · intro w' hS'
          have s1 := hS'
          go_simp
          rfl
        rotate_left
        · simp only [Act.put, qT_, q0_, q1_, i64_w, i32_w]; rfl
        refine one_ (i := 4) (N := some 44) (bls 7 31) rfl rfl (one_of HT_.out (by kernel_rfl)) (by decide) (fun K hK => ?_)
        obtain ⟨wm, hwm⟩ : ∃ wm, wr.drew.alloc (.cells (encB zeros) 5) = wm := ⟨_, rfl⟩
        have hBm : Below wr.drew.heap.size wr.drew wm := by rw [← hwm]; exact (Below.refl _ _).alloc (Nat.le_refl _) _
        have rowm : wm.heap[wr.drew.heap.size]? = some (.cells (encB zeros) 5 (0, 0)) := by rw [← hwm]; exact heap_last _ _
        have SM := Hide.mk (SW.out.below hBm)
        have BM := Hide.mk hBm
        have KC1 := SM.out.cells.c1
        have HW0 := write_any 1 (some ⟨wr.drew.heap.size, 0, none⟩) 256 zeros SM.out.disk (by unfold MapFn.wf; decide) (C_of_row rowm (by show 256 ≤ _; omega))
        rw [show (Sh.over D).D = D from rfl, HED.out.1, HED.out.2, show zeros.length = 256 from rfl] at HW0
        have HW := Hide.mk HW0
        clear HW0 rowm hBm
        refine value_ (v := .slice (some ⟨wr.drew.heap.size, 0, none⟩) 256 256) (w1 := wm) (by rfl) rfl ?_ ?_
        · rw [← hwm]; have hmk := make256 wr.drew; first | (go_simp; done) | (go_simp; rfl)
        refine hK.out _ _ KC1 (fun hHeld => ?_)
        clear hK K
        refine norm_ (a' := ?_) ?_ ?_
        rotate_left
        · show Act.put _ (some 44) _ = _; simp only [Act.put, qT_, q0_, q1_, i64_w, i32_w]; rfl
        refine one_ (i := 5) (N := some 45) (bls 7 63) rfl rfl (one_of HT_.out (by kernel_rfl)) (by decide) (fun K hK => ?_)
        refine goesM_ Tryz.func91 (by kernel_rfl) rfl 43 (.pointer (some ⟨F.pd, 0, none⟩)) #[.int .i64 1, .slice (some ⟨wr.drew.heap.size, 0, none⟩) 256 256] #[.pointer (some ⟨F.pd, 0, none⟩), .int .i64 1, .slice (some ⟨wr.drew.heap.size, 0, none⟩) 256 256] (by simp) (by rfl) rfl rfl (by rfl) (by (try simp only [List.map_toArray, List.map_cons, List.map_nil]); first | done | rfl) ?_
        with_reducible refine HW.out.mono ?_
        rintro e wn ⟨rfl, hd, hm⟩
        refine ⟨_, rfl, ?_⟩
        have SN := Hide.mk (SM.out.wrote hd hm)
        have KC2 := SN.out.1.cells.c1
        clear hd hm hwm
        refine hK.out _ _ KC2 (fun hHeld => ?_)
        clear hK K
        refine norm_ (a' := ?_) ?_ ?_
        rotate_left
        · show Act.put _ (some 45) _ = _; simp only [Act.put, qT_, q0_, q1_, i64_w, i32_w]; rfl
        refine pu_ (i := 6) (N := some 8) (v := ?_) (a' := ?_) (bls 7 127) HT_.out rfl rfl (by kernel_rfl) (by rfl) ?_ ?_ ?_
        rotate_left
        · intro w'; go_simp; with_reducible rfl
        rotate_left
        · simp only [Act.put, qT_, q0_, q1_, i64_w, i32_w]; rfl
        refine done_ (done_of HT_.out (by kernel_rfl)) ?_
        clear KC KC1 KC2 hHeld
        have hA : Goes F F wr.drew wn := (Goes.below BM.out).trans SN.out.2
        have S5 := SN.out.1
        rw [HS0.out] at S5
        have row5 := (hA.moves.block br (lt_of_row HROW.out) HBRO.out).trans HROW.out
        have i5 := I5.out.moves hA.moves (fun a ha hx => by have := GE5.out a ha; have := HOWN.out _ hx; omega)
        have GA := Hide.mk hA
        by_cases he1 : E1 = 0
        · subst he1
          obtain ⟨r, hr⟩ : ∃ r, firstRoot D.blocks = r := ⟨_, rfl⟩
          have hrT : r.tables = [] := by rw [← hr]; rfl
          have hrM : r.maps = mapsL i := by rw [← hr]; show mapsL (mapsOf D.blocks) = _; rw [HK.out]
          have hrB : r.blocks = D.blocks := by rw [← hr]; rfl
          have hg5 : ∀ a, A5 = some a → ¬ a.block ∈ F.own := fun a ha hx => by have := GE5.out a ha; have := HOWN.out _ hx; omega
          have RI : RootIn wn r none 0 A5 c5 F.own := ⟨by rw [hrT]; exact In.nil _ _, by rw [hrM]; exact i5, (fun a ha => by cases ha), hg5, by rw [hrT, hrM, mapsL_len]; simp; omega, by rw [hrB]; omega⟩
          have hval : r.val none 0 A5 c5 = .agg #[.int .i64 0, .int .i64 D.blocks, .int .i64 0, .int .i64 0, .slice none 0 0, .slice A5 i c5] := by
            rw [← hr]
            unfold Root.val
            rw [firstRoot_maps, HK.out, mapsL_len]
            rfl
          have hch : r.check = 0 := by rw [← hr]; exact firstRoot_check HN.out.2 (by rw [HK.out]; have := HSM.out; omega)
          have ht0 : s0.table = [0] := by rw [← HS0.out]; rfl
          obtain ⟨U, hU⟩ : ∃ U, splitL 246 (usedL r [0]) = U := ⟨_, rfl⟩
          have hUM : U.length = i := by rw [← hU, splitL_num, usedL_clamp, hrB, ← mapsOf_num]; exact HK.out
          obtain ⟨s2, e2, hL2⟩ : ∃ s2 e2, s0.lay 2 U (mapsL i) = (s2, e2) := ⟨_, _, rfl⟩
          obtain ⟨D2, b2, hk2⟩ := layF_keeps 2 (mapsL i) U 0 s0
          rw [show Sh.layF 2 (mapsL i) U 0 s0 = s0.lay 2 U (mapsL i) from rfl, hL2] at hk2
          obtain ⟨s3, e3, hL3⟩ : ∃ s3 e3, s2.crown r = (s3, e3) := ⟨_, _, rfl⟩
          obtain ⟨D3, b3, hk3⟩ := crown_keeps s2 r
          rw [hL3] at hk3
          have ht2 : s2.table = [0] := by rw [show s2 = _ from hk2]; exact ht0
          have ht3 : s3.table = [0] := by rw [show s3 = _ from hk3]; exact ht2
          have hR := HR1.out
          rw [if_neg (by simp)] at hR
          simp only [hr, hrM, show (Sh.over D).table = [0] from rfl, hU, hL2, hL3] at hR
          have HR2 := Hide.mk hR
          have HU := Hide.mk hU
          have HUM := Hide.mk hUM
          have HT := Hide.mk (And.intro ht0 (And.intro ht2 ht3))
          have HOFFM := Hide.mk hg5
          have HWFM : Hide (∀ n ∈ mapsL i, MapFn.wf n) := ⟨fun n hn => wf_small (by have := (mapsL_each hn).1; omega) (by have := (mapsL_each hn).2; omega)⟩
          have HUB2 : Hide (∀ p ∈ U, Bytes p) := ⟨by rw [← hU]; exact splitL_bytes (usedL_bytes _ _)⟩
          have HLL2 := Hide.mk hL2
          have HLL3 := Hide.mk hL3
          have HCH := Hide.mk hch
          have HVAL := Hide.mk hval
          have HRM := Hide.mk hrM
          have HRS : Hide (r.tables.length + r.maps.length ≤ 1000) := ⟨by rw [hrT, hrM, mapsL_len]; simp; omega⟩
          have BND := below_drew (Below.refl wn.heap.size wn)
          have SLD := Hide.mk (S5.below BND)
          have HRI := Hide.mk (RI.moves (Moves.of_below BND []) (by simp))
          have TAB := SLD.out.table.in_
          rw [ht0] at TAB
          have HUB0 := usedBy_any r [0] (some ⟨F.g, 0, none⟩) F.cap 0 c5 none A5 wn.drew HRI.out.tables HRI.out.maps TAB (by have := HRS.out; simp; omega)
          rw [HVAL.out, show ([0] : List Int).length = 1 from rfl] at HUB0
          have HUB := Hide.mk HUB0
          have HN9 := Hide.mk (And.intro BND RI)
          have KD : wn.drew.heap[br]? = _ ∧ wn.drew.cell? ⟨F.p, 10, none⟩ = some (.slice (some ⟨F.g, 0, none⟩) 1 F.cap) := And.intro (show wn.drew.heap[br]? = _ from row5) (by have := SLD.out.cells.c10; rw [ht0] at this; exact this)
          clear hr hrT hrM hrB hg5 RI hval hch ht0 hU hUM hL2 hk2 hL3 hk3 ht2 ht3 hR BND TAB HUB0 row5 i5 hA S5
          go_wp2
          refine start_ (n := 13) (S := fun w' => w'.heap[br]? = some (.cells #[.int .i64 0, .int .i64 D.blocks, .int .i64 0, .int .i64 0, .slice none 0 0, .slice A5 i c5] 65 (0, 0)) ∧ w'.cell? ⟨F.p, 10, none⟩ = some (.slice (some ⟨F.g, 0, none⟩) 1 F.cap)) (ds := []) #[false, false, false, false, false, false, false, false, false, false, false, false, false] (by kernel_rfl) rfl rfl KD (fun hHeld => ?_); refine with_tabW tab9_16 bits9_16 (fun HT_ HW_ => ?_)
          refine pu_ (i := 0) (N := some 49) (v := ?_) (a' := ?_) (bls 13 1) HT_.out rfl rfl (by kernel_rfl) (by rfl) ?_ ?_ ?_
          rotate_left
          · intro w'; go_simp; with_reducible rfl
          rotate_left
          · simp only [Act.put, qT_, q0_, q1_, i64_w, i32_w]; rfl
          refine take_ (i := 1) (N := some 50) (v := ?_) (a' := ?_) (bls 13 3) rfl rfl (take_ofW HT_.out HW_.out (by kernel_rfl)) (fun _ _ _ h => h) (Or.inl ⟨by rfl, ?_⟩) hHeld ?_ ?_
          rotate_left
          · intro w' hS'
            refine exec_loadR (x := .tmp 6) ?_ ?_ hS'.1
            · rfl
            · rfl
          rotate_left
          · simp only [Act.put, qT_, q0_, q1_, i64_w, i32_w]; rfl
          refine pu_ (i := 2) (N := some 51) (v := ?_) (a' := ?_) (bls 13 7) HT_.out rfl rfl (by kernel_rfl) (by rfl) ?_ ?_ ?_
          rotate_left
          · intro w'; go_simp; with_reducible rfl
          rotate_left
          · simp only [Act.put, qT_, q0_, q1_, i64_w, i32_w]; rfl
          refine pu_ (i := 3) (N := some 52) (v := ?_) (a' := ?_) (bls 13 15) HT_.out rfl rfl (by kernel_rfl) (by rfl) ?_ ?_ ?_
          rotate_left
          · intro w'; go_simp; with_reducible rfl
          rotate_left
          · simp only [Act.put, qT_, q0_, q1_, i64_w, i32_w]; rfl
          refine pu_ (i := 4) (N := some 53) (v := ?_) (a' := ?_) (bls 13 31) HT_.out rfl rfl (by kernel_rfl) (by rfl) ?_ ?_ ?_
          rotate_left
          · intro w'; go_simp; with_reducible rfl
          rotate_left
          · simp only [Act.put, qT_, q0_, q1_, i64_w, i32_w]; rfl
          refine pu_ (i := 5) (N := some 54) (v := ?_) (a' := ?_) (bls 13 63) HT_.out rfl rfl (by kernel_rfl) (by rfl) ?_ ?_ ?_
          rotate_left
          · intro w'; go_simp; with_reducible rfl
          rotate_left
          · simp only [Act.put, qT_, q0_, q1_, i64_w, i32_w]; rfl
          refine take_ (i := 6) (N := some 55) (v := ?_) (a' := ?_) (bls 13 127) rfl rfl (take_ofW HT_.out HW_.out (by kernel_rfl)) (fun _ _ _ h => h) (Or.inl ⟨by rfl, ?_⟩) hHeld ?_ ?_
          rotate_left
          · intro w' hS'
            have s1 := hS'.2
            go_simp
            rfl
          rotate_left
          · simp only [Act.put, qT_, q0_, q1_, i64_w, i32_w]; rfl
          refine pu_ (i := 9) (N := some 58) (v := ?_) (a' := ?_) (bls 13 639) HT_.out rfl rfl (by kernel_rfl) (by rfl) ?_ ?_ ?_
          rotate_left
          · intro w'; go_simp; with_reducible rfl
          rotate_left
          · simp only [Act.put, qT_, q0_, q1_, i64_w, i32_w]; rfl
          refine take_ (i := 10) (N := some 59) (v := ?_) (a' := ?_) (bls 13 1663) rfl rfl (take_ofW HT_.out HW_.out (by kernel_rfl)) (fun _ _ _ h => h) (Or.inl ⟨by rfl, ?_⟩) hHeld ?_ ?_
          rotate_left
          · intro w' hS'
            have s1 := cell_of (i := 5) hS'.1
            simp at s1
            go_simp
            rfl
          rotate_left
          · simp only [Act.put, qT_, q0_, q1_, i64_w, i32_w]; rfl
          refine one_ (i := 7) (N := some 56) (bls 13 1791) rfl rfl (one_of HT_.out (by kernel_rfl)) (by decide) (fun K hK => ?_)
          refine goes_ Tryz.func45 (by kernel_rfl) rfl #[.agg #[.int .i64 0, .int .i64 D.blocks, .int .i64 0, .int .i64 0, .slice none 0 0, .slice A5 i c5], .slice (some ⟨F.g, 0, none⟩) 1 F.cap] (by rfl) rfl rfl (by (try simp only [List.map_toArray, List.map_cons, List.map_nil]); first | done | rfl) ?_
          with_reducible refine HUB.out.mono ?_
          rintro e wA ⟨vA, rfl, ho, hb⟩
          obtain ⟨AA, cA, hvA, hiA, hgeA⟩ := In.of_own ho
          have HSPA0 := split_any AA cA (usedL r [0]) wA hiA (by have := usedL_len r [0]; omega)
          rw [HU.out] at HSPA0
          obtain ⟨nA, hnA⟩ : ∃ n, (usedL r [0]).length = n := ⟨_, rfl⟩
          rw [hnA] at hvA HSPA0
          subst hvA
          have HSPA := Hide.mk HSPA0
          have SA := Hide.mk (SLD.out.below hb)
          have KDA := And.intro ((hb.block br (lt_of_row KD.1)).trans KD.1) (pw_cell_below hb KD.2)
          have BA := Hide.mk hb
          refine ⟨_, rfl, ?_⟩
          clear ho hb hiA hgeA hnA HSPA0
          refine hK.out _ _ KDA (fun hHeld => ?_)
          clear hK K
          refine norm_ (a' := ?_) ?_ ?_
          rotate_left
          · show Act.put _ (some 56) _ = _; simp only [Act.put, qT_, q0_, q1_, i64_w, i32_w]; rfl
          refine one_ (i := 8) (N := some 57) (bls 13 2047) rfl rfl (one_of HT_.out (by kernel_rfl)) (by decide) (fun K hK => ?_)
          refine goes_ Tryz.func41 (by kernel_rfl) rfl #[.slice AA nA cA, .int .i64 246] (by rfl) rfl rfl (by (try simp only [List.map_toArray, List.map_cons, List.map_nil]); first | done | rfl) ?_
          with_reducible refine HSPA.out.mono ?_
          rintro e wB ⟨AB, cB, rfl, hp, hb⟩
          have SB := Hide.mk (SA.out.below hb)
          have PB := Hide.mk (hp F.own SA.out.lts)
          have KDB := And.intro ((hb.block br (lt_of_row KDA.1)).trans KDA.1) (pw_cell_below hb KDA.2)
          have BB := Hide.mk (BA.out.trans (hb.mono BA.out.size))
          have HL20 := lay_any 2 AB cB U A5 c5 (mapsL i) wB F _ SB.out PB.out (by have := (((HRI.out.moves (Moves.of_below BA.out []) (by simp)).moves (Moves.of_below hb []) (by simp)).maps); rw [HRM.out] at this; exact this) HOFFM.out (by rw [mapsL_len]; have := HUM.out; omega) (by have := HUM.out; omega) HWFM.out HUB2.out
          rw [mapsL_len, HLL2.out] at HL20
          have HL2 := Hide.mk HL20
          refine ⟨_, rfl, ?_⟩
          clear hp hb HL20
          refine hK.out _ _ KDB (fun hHeld => ?_)
          clear hK K
          refine norm_ (a' := ?_) ?_ ?_
          rotate_left
          · show Act.put _ (some 57) _ = _; simp only [Act.put, qT_, q0_, q1_, i64_w, i32_w]; rfl
          refine one_ (i := 11) (N := some 60) (bls 13 4095) rfl rfl (one_of HT_.out (by kernel_rfl)) (by decide) (fun K hK => ?_)
          refine goes_ Tryz.func44 (by kernel_rfl) rfl #[.pointer (some ⟨F.p, 0, none⟩), .int .i64 2, .slice AB U.length cB, .slice A5 i c5] (by rfl) rfl rfl (by (try simp only [List.map_toArray, List.map_cons, List.map_nil]); first | done | rfl) ?_
          with_reducible refine HL2.out.mono ?_
          rintro e wC ⟨rfl, hsC, hgC⟩
          have SC := Hide.mk hsC
          have GC := Hide.mk hgC
          have KDC := And.intro ((hgC.moves.block br (lt_of_row KDB.1) HBRO.out).trans KDB.1) (show wC.cell? ⟨F.p, 10, none⟩ = some (.slice (some ⟨F.g, 0, none⟩) 1 F.cap) from by have := hsC.cells.c10; rw [HT.out.2.1] at this; exact this)
          refine ⟨_, rfl, ?_⟩
          clear hsC hgC
          refine hK.out _ _ KDC (fun hHeld => ?_)
          clear hK K
          refine norm_ (a' := ?_) ?_ ?_
          rotate_left
          · show Act.put _ (some 60) _ = _; simp only [Act.put, qT_, q0_, q1_, i64_w, i32_w]; rfl
          refine pu_ (i := 12) (N := some 9) (v := ?_) (a' := ?_) (bls 13 8191) HT_.out rfl rfl (by kernel_rfl) (by rfl) ?_ ?_ ?_
          rotate_left
          · intro w'; go_simp; with_reducible rfl
          rotate_left
          · simp only [Act.put, qT_, q0_, q1_, i64_w, i32_w]; rfl
          refine done_ (done_of HT_.out (by kernel_rfl)) ?_
          clear KD KDA KDB hHeld
          have hgt : Goes F F wn wC := (Goes.below (HN9.out.1.trans (BB.out.mono HN9.out.1.size))).trans GC.out
          have GT := Hide.mk (GA.out.trans hgt)
          have HRC := Hide.mk (HN9.out.2.moves hgt.moves (fun x hx => .inl hx))
          have k0 := cell_of (i := 0) KDC.1
          have k1 := cell_of (i := 1) KDC.1
          have k2 := cell_of (i := 2) KDC.1
          have k3 := cell_of (i := 3) KDC.1
          have k4 := cell_of (i := 4) KDC.1
          have k5 := cell_of (i := 5) KDC.1
          simp at k0 k1 k2 k3 k4 k5
          have HKC := Hide.mk KDC.1
          have HCR0 := crown_any r none 0 A5 c5 wC F s2 SC.out HRC.out HCH.out
          rw [HVAL.out, HLL3.out] at HCR0
          have HCR := Hide.mk HCR0
          clear hgt KDC HCR0
          by_cases he2 : e2 = 0
          · subst he2
            by_cases he3 : e3 = 0
            · subst he3
              go_wp2_with (first
                | (go_at_call 46; with_reducible refine HCR.out.mono ?_; rintro e wD ⟨rfl, F3, hs, hg⟩
                   have S3' := Hide.mk hs
                   have G3 := Hide.mk hg
                   have rowD := (hg.moves.block br (lt_of_row HKC.out) HBRO.out).trans HKC.out
                   have m0 := cell_of (i := 0) rowD
                   have m1 := cell_of (i := 1) rowD
                   have m2 := cell_of (i := 2) rowD
                   have m3 := cell_of (i := 3) rowD
                   have m4 := cell_of (i := 4) rowD
                   have m5 := cell_of (i := 5) rowD
                   simp at m0 m1 m2 m3 m4 m5
                   have HSE0 := settle_any r none 0 A5 c5 wD F3 s3 hs (HRC.out.foot hg) (by rw [HT.out.2.2]; simp) (by have := HRS.out; omega)
                   rw [HVAL.out, hg.p] at HSE0
                   have HSE := Hide.mk HSE0
                   clear hs hg rowD HSE0)
                | (go_at_call 47; with_reducible refine HSE.out.mono ?_; rintro e wE ⟨rfl, F4, hs, hg, hsl⟩; have S4' := Hide.mk hs; have G4 := Hide.mk hg; clear hs hg hsl))
              go_ret2
              have hR := HR2.out
              rw [if_neg (by simp), if_neg (by simp)] at hR
              rw [← hR]
              exact ⟨F4, by rw [G4.out.p, G3.out.p]; rfl, S4'.out, Born.of_goes BW.out HF.out ((GT.out.trans G3.out).toGoes0.trans G4.out)⟩
            · have q : (e3 != 0) = true := by simp [he3]
              have HE3 := Hide.mk he3
              clear he3
              go_wp2_with (go_at_call 46; with_reducible refine HCR.out.mono ?_; rintro e wD ⟨rfl, F3, hs, hg⟩; have S3' := Hide.mk hs; have G3 := Hide.mk hg; clear hs hg)
              go_ret2
              have hR := HR2.out
              rw [if_neg (by simp), if_pos HE3.out] at hR
              rw [← hR]
              exact ⟨F3, by rw [ptrOf_bad HE3.out]; rfl, S3'.out, Born.of_goes BW.out HF.out (GT.out.trans G3.out).toGoes0⟩
          · have q : (e2 != 0) = true := by simp [he2]
            have HE2 := Hide.mk he2
            clear he2
            go_wp2
            go_ret2
            have hR := HR2.out
            rw [if_pos HE2.out] at hR
            rw [← hR]
            exact ⟨F, by rw [ptrOf_bad HE2.out]; rfl, SC.out, Born.of_goes BW.out HF.out GT.out.toGoes0⟩
        · have q : (E1 != 0) = true := by simp [he1]
          have HE1 := Hide.mk he1
          have HS5 := Hide.mk S5
          clear he1 row5 i5 S5
          go_wp2
          go_ret2
          have hR := HR1.out
          rw [if_pos HE1.out] at hR
          rw [← hR]
          exact ⟨F, by rw [ptrOf_bad HE1.out]; rfl, HS5.out, Born.of_goes BW.out HF.out GA.out.toGoes0⟩
end Go.Proofs.YtgmkbcoahilkhaaGreat.Sh
end
section
namespace Go.Proofs.YtgmkbcoahilkhaaGreat.Sh
open Go.RowKit YtgmkbcoahilkhaaGreatW.PrintWords YtgmkbcoahilkhaaGreatW.PrintLast YtgmkbcoahilkhaaGreatW.PrintMore MapFn Disk Bitset
set_option maxHeartbeats 4000000
set_option maxRecDepth 100000
theorem dirty_any (w : World) (F : Foot) (s : Sh) (h : ShAt w F s) : Calls Tryz.prog 22 #[.pointer (some ⟨F.p, 0, none⟩)] w fun e w' => e = .returned (.bool s.dirty) ∧ w' = w := by
  have c13 := h.cells.c13
  clear h
  go_enter Tryz.func22, Tryz.ntmps22
  go_wp2
  go_ret
  exact ⟨rfl, rfl⟩
theorem epoch_any (w : World) (F : Foot) (s : Sh) (h : ShAt w F s) : Calls Tryz.prog 56 #[.pointer (some ⟨F.p, 0, none⟩)] w fun e w' => e = .returned (.int .i64 s.root.epoch) ∧ w' = w := by
  have c2 := h.cells.c2
  clear h
  go_enter Tryz.func56, Tryz.ntmps56
  go_wp2
  go_ret
  exact ⟨rfl, rfl⟩
theorem start_any (w : World) (F : Foot) (s : Sh) (h : ShAt w F s) : Calls Tryz.prog 70 #[.pointer (some ⟨F.p, 0, none⟩)] w fun e w' => e = .returned (.int .i64 s.start) ∧ w' = w := by
  have c11 := h.cells.c11
  clear h
  go_enter Tryz.func70, Tryz.ntmps70
  go_wp2
  go_ret
  exact ⟨rfl, rfl⟩
def T24_3 : Bool × List (List Nat × List Nat) := (true, [([], []), ([0], [0]), ([1], [1]), ([2], [2]), ([], []), ([4], [4]), ([5], [5]), ([6], [6]), ([7], [7]), ([3, 8], [3, 8]), ([9, 9], [9]), ([10, 10, 0, 1, 2, 3, 4, 5, 6, 7, 8, 9, 10], [10])])
def B24_3 : List Nat := [0, 1, 3, 7, 0, 16, 48, 112, 240, 511, 1023, 2047]
theorem tab24_3 : rtab .any (opsOf Tryz.f24 3) = T24_3 := by kernel_rfl
theorem bits24_3 : waitsOk T24_3.2 B24_3 = true := by kernel_rfl
theorem used_any (w : World) (F : Foot) (s : Sh) (h : ShAt w F s) (hk : Ok s) : Calls Tryz.prog 24 #[.pointer (some ⟨F.p, 0, none⟩)] w fun e w' => e = .returned (.int .i64 ((s.usedN : Nat) : Int)) ∧ Below w.heap.size w w' := by
  have HS := Hide.mk (h.below (below_drew (Below.refl w.heap.size w)))
  have KC := HS.out.cells
  have HU := Hide.mk HS.out.used
  have HF := Hide.mk HS.out.fresh
  have HB : Hide (Small s.used ∧ Small s.fresh ∧ True) := ⟨by have := hk.used.1; unfold Small; omega, by have := hk.fresh.1; unfold Small; omega, trivial⟩
  obtain ⟨T, hT⟩ : ∃ T, Given.joinL Given.orB s.used s.fresh = T := ⟨_, rfl⟩
  have HT := Hide.mk hT
  have HTK : Hide (T.length ≤ 512 ∧ Bytes T) := ⟨by have := hk.taken; unfold Sh.taken at this; rw [hT] at this; exact this⟩
  have hn : s.usedN = countL T := by unfold Sh.usedN Sh.taken; rw [hT]
  rw [hn]
  clear h hk hT hn
  go_enter Tryz.func24, Tryz.ntmps24
  go_wp2
  refine start_ (n := 12) (S := fun w' => ShCells w' F s) (ds := []) #[false, false, false, false, false, false, false, false, false, false, false, false] (by kernel_rfl) rfl rfl KC (fun hHeld => ?_); refine with_tabW tab24_3 bits24_3 (fun HT_ HW_ => ?_)
  refine pu_ (i := 0) (N := some 5) (v := ?_) (a' := ?_) (bls 12 1) HT_.out rfl rfl (by kernel_rfl) (by rfl) ?_ ?_ ?_
  rotate_left
  · intro w'; go_simp; with_reducible rfl
  rotate_left
  · simp only [Act.put, qT_, q0_, q1_, i64_w, i32_w]; rfl
  refine pu_ (i := 1) (N := some 6) (v := ?_) (a' := ?_) (bls 12 3) HT_.out rfl rfl (by kernel_rfl) (by rfl) ?_ ?_ ?_
  rotate_left
  · intro w'; go_simp; with_reducible rfl
  rotate_left
  · simp only [Act.put, qT_, q0_, q1_, i64_w, i32_w]; rfl
  refine pu_ (i := 2) (N := some 7) (v := ?_) (a' := ?_) (bls 12 7) HT_.out rfl rfl (by kernel_rfl) (by rfl) ?_ ?_ ?_
  rotate_left
  · intro w'; go_simp; with_reducible rfl
  rotate_left
  · simp only [Act.put, qT_, q0_, q1_, i64_w, i32_w]; rfl
  refine take_ (i := 3) (N := some 8) (v := ?_) (a' := ?_) (bls 12 15) rfl rfl (take_ofW HT_.out HW_.out (by kernel_rfl)) (fun _ _ _ h => h) (Or.inl ⟨by rfl, ?_⟩) hHeld ?_ ?_
  rotate_left
  · intro w' hS'
    have s1 := hS'.c9
    go_simp
    rfl
  rotate_left
  · simp only [Act.put, qT_, q0_, q1_, i64_w, i32_w]; rfl
  refine pu_ (i := 4) (N := some 9) (v := ?_) (a' := ?_) (bls 12 31) HT_.out rfl rfl (by kernel_rfl) (by rfl) ?_ ?_ ?_
  rotate_left
  · intro w'; go_simp; with_reducible rfl
  rotate_left
  · simp only [Act.put, qT_, q0_, q1_, i64_w, i32_w]; rfl
  refine pu_ (i := 5) (N := some 10) (v := ?_) (a' := ?_) (bls 12 63) HT_.out rfl rfl (by kernel_rfl) (by rfl) ?_ ?_ ?_
  rotate_left
  · intro w'; go_simp; with_reducible rfl
  rotate_left
  · simp only [Act.put, qT_, q0_, q1_, i64_w, i32_w]; rfl
  refine pu_ (i := 6) (N := some 11) (v := ?_) (a' := ?_) (bls 12 127) HT_.out rfl rfl (by kernel_rfl) (by rfl) ?_ ?_ ?_
  rotate_left
  · intro w'; go_simp; with_reducible rfl
  rotate_left
  · simp only [Act.put, qT_, q0_, q1_, i64_w, i32_w]; rfl
  refine pu_ (i := 7) (N := some 12) (v := ?_) (a' := ?_) (bls 12 255) HT_.out rfl rfl (by kernel_rfl) (by rfl) ?_ ?_ ?_
  rotate_left
  · intro w'; go_simp; with_reducible rfl
  rotate_left
  · simp only [Act.put, qT_, q0_, q1_, i64_w, i32_w]; rfl
  refine take_ (i := 8) (N := some 13) (v := ?_) (a' := ?_) (bls 12 511) rfl rfl (take_ofW HT_.out HW_.out (by kernel_rfl)) (fun _ _ _ h => h) (Or.inl ⟨by rfl, ?_⟩) hHeld ?_ ?_
  rotate_left
  · intro w' hS'
    have s2 := hS'.c12
    go_simp
    rfl
  rotate_left
  · simp only [Act.put, qT_, q0_, q1_, i64_w, i32_w]; rfl
  refine one_ (i := 9) (N := some 14) (bls 12 1023) rfl rfl (one_of HT_.out (by kernel_rfl)) (by decide) (fun K hK => ?_)
  refine goes_ Tryz.func68 (by kernel_rfl) rfl #[.slice F.uA s.used.length F.uc, .slice F.fA s.fresh.length F.fc] (by rfl) rfl rfl (by (try simp only [List.map_toArray, List.map_cons, List.map_nil]); first | done | rfl) ?_
  with_reducible refine (join_any HU.out.inB HF.out.inB HB.out.1 HB.out.2.1).mono ?_
  rintro e w1 ⟨v1, rfl, ho, hb⟩
  rw [HT.out] at ho
  obtain ⟨A1, c1, rfl, hi1, hge1⟩ := In.of_own ho
  refine ⟨_, rfl, ?_⟩
  have I1 := Hide.mk hi1
  have B1 := Hide.mk hb
  have KC1 := (HS.out.below hb).cells
  clear ho hb hi1 hge1
  refine hK.out _ _ KC1 (fun hHeld => ?_)
  clear hK K
  refine norm_ (a' := ?_) ?_ ?_
  rotate_left
  · show Act.put _ (some 14) _ = _; simp only [Act.put, qT_, q0_, q1_, i64_w, i32_w]; rfl
  refine one_ (i := 10) (N := some 15) (bls 12 2047) rfl rfl (one_of HT_.out (by kernel_rfl)) (by decide) (fun K hK => ?_)
  refine goes_ Tryz.func67 (by kernel_rfl) rfl #[.slice A1 T.length c1] (by rfl) rfl rfl (by (try simp only [List.map_toArray, List.map_cons, List.map_nil]); first | done | rfl) ?_
  with_reducible refine (count_any I1.out.inB (by have := HTK.out.1; unfold Small; omega) HTK.out.2).mono ?_
  rintro e w2 ⟨rfl, hd⟩
  refine ⟨_, rfl, ?_⟩
  have B2 := Hide.mk hd.below
  have KC2 := ((HS.out.below B1.out).below B2.out).cells
  clear hd
  refine hK.out _ _ KC2 (fun hHeld => ?_)
  clear hK K
  refine norm_ (a' := ?_) ?_ ?_
  rotate_left
  · show Act.put _ (some 15) _ = _; simp only [Act.put, qT_, q0_, q1_, i64_w, i32_w]; rfl
  refine pu_ (i := 11) (N := some 2) (v := ?_) (a' := ?_) (bls 12 4095) HT_.out rfl rfl (by kernel_rfl) (by rfl) ?_ ?_ ?_
  rotate_left
  · intro w'; go_simp; with_reducible rfl
  rotate_left
  · simp only [Act.put, qT_, q0_, q1_, i64_w, i32_w]; rfl
  refine done_ (done_of HT_.out (by kernel_rfl)) ?_
  clear KC KC1 KC2 hHeld
  have hdr : Below w.heap.size w w.drew := below_drew (Below.refl _ _)
  have BB := Hide.mk (hdr.trans ((B1.out.trans (B2.out.mono B1.out.size)).mono hdr.size))
  clear hdr
  go_wp2
  go_ret
  exact ⟨rfl, BB.out⟩
theorem idsF_snoc (l : List Int) (x : Int) : ∀ i, idsF (l ++ [x]) i = idsF l i ++ (if x ≠ 0 then [((i + l.length : Nat) : Int)] else []) := by
  induction l with
  | nil => intro i; simp [idsF]
  | cons y r ih =>
    intro i
    show (if y ≠ 0 then (i : Int) :: idsF (r ++ [x]) (i + 1) else idsF (r ++ [x]) (i + 1)) = (if y ≠ 0 then (i : Int) :: idsF r (i + 1) else idsF r (i + 1)) ++ _
    rw [ih (i + 1)]
    simp only [List.length_cons, show i + 1 + r.length = i + (r.length + 1) by omega]
    split <;> simp
theorem idsF_len (l : List Int) : ∀ i, (idsF l i).length ≤ l.length := by
  induction l with
  | nil => intro i; simp [idsF]
  | cons y r ih =>
    intro i
    have := ih (i + 1)
    show (if y ≠ 0 then (i : Int) :: idsF r (i + 1) else idsF r (i + 1)).length ≤ _
    split <;> simp <;> omega
theorem ids_any (w : World) (F : Foot) (s : Sh) (h : ShAt w F s) (hl : s.table.length ≤ 10000) : Calls Tryz.prog 21 #[.pointer (some ⟨F.p, 0, none⟩)] w fun e w' => ∃ v, e = .returned v ∧ Kd.R (Kd.int .i64) 3 w' w.heap.size (fun _ => True) v s.ids ∧ Below w.heap.size w w' := by
  have HS := Hide.mk h
  have c10 := h.cells.c10
  obtain ⟨L, hL⟩ : ∃ L, s.table = L := ⟨_, rfl⟩
  have HL := Hide.mk hL
  rw [hL] at c10 hl
  have hids : s.ids = idsF L 0 := by unfold Sh.ids; rw [hL]
  rw [hids]
  clear h hL hids
  go_enter Tryz.func21, Tryz.ntmps21
  go_wp2
  go_loopw [3, 14] (fun v3 v14 wr => ∃ (i : Nat) (A3 : Option Addr) (n3 c3 : Nat), v14 = .int .i64 (i : Int) ∧ v3 = .slice A3 n3 c3 ∧ Hide (i ≤ L.length) ∧ Hide (Kd.R (Kd.int .i64) 3 wr w.heap.size (fun _ => True) (.slice A3 n3 c3) (idsF (L.take i) 0)) ∧ Hide (Below w.heap.size w wr)) (fun _ v14 _ => L.length - (intOf v14).toNat)
  case atStart => exact ⟨0, none, 0, 0, by first | rfl | simp, rfl, ⟨Nat.zero_le _⟩, ⟨Kd.R_nil _ _ _ _ _⟩, ⟨Below.refl _ _⟩⟩
  case round =>
    obtain ⟨i, A3, n3, c3, rfl, rfl, hi, hO, hB⟩ := hrel
    by_cases hlt0 : i < L.length
    · have hlt : (i : Int) < (L.length : Int) := by omega
      obtain ⟨t1, t2⟩ := tab_cell HS.out.table i (by rw [HL.out]; exact hlt0)
      rw [HL.out] at t1
      obtain ⟨x, hx⟩ : ∃ x, L.getD i 0 = x := ⟨_, rfl⟩
      rw [hx] at t1
      have t3 : wr.cell? ⟨F.g, i, none⟩ = some (.int .i64 x) := pw_cell_below hB.out t1
      have NX : Hide (idsF (L.take (i + 1)) 0 = idsF (L.take i) 0 ++ (if x ≠ 0 then [((i : Nat) : Int)] else [])) := ⟨by
        have hxe : L[i] = x := by rw [← hx, List.getD_eq_getElem?_getD, List.getElem?_eq_getElem hlt0]; rfl
        rw [List.take_add_one, List.getElem?_eq_getElem hlt0, hxe]
        simp only [Option.toList_some]
        rw [idsF_snoc, List.length_take, Nat.min_eq_left (by omega), Nat.zero_add]⟩
      have LEN : Hide ((idsF (L.take i) 0).length ≤ 10000) := ⟨by have := idsF_len (L.take i) 0; rw [List.length_take] at this; omega⟩
      have hcap := (tab_max HS.out.table).1
      rw [HL.out] at hcap
      clear hx
      by_cases hx0 : x = 0
      · subst hx0
        go_wp2
        go_roundw
        case rel => exact ⟨i + 1, A3, n3, c3, by go_num, rfl, ⟨by omega⟩, ⟨by rw [NX.out]; simpa using hO.out⟩, hB⟩
        case measure => simp [intOf]; omega
      · have q : (x != 0) = true := by simp [hx0]
        have HX := Hide.mk hx0
        clear hx0
        go_wp2_with ((with_reducible refine gate_builtin (b := .append) (xs := #[.tmp 21, .tmp 23]) rfl ?_); at_builtin
                     refine Kd.R_append (Kd.int .i64) (w0 := w) w.heap.size rfl (.tmp 21) (.tmp 23) 38 3 (.int .i64 0) 8 rfl Tryz.underlying38 infoI rfl (by decide) (by omega) (.slice A3 n3 c3) (idsF (L.take i) 0) (i : Int) [.int .i64 (i : Int)] (fun _ => True) (fun _ => False) rfl rfl rfl (fun _ h => h.elim) (fun _ _ => trivial) hO.out hB.out hB.out.size (by have := LEN.out; omega) ?_
                     intro v4 w4 ho hb hg hat
                     obtain ⟨A4, c4, hv4, hcc4, _⟩ := Kd.R_reads ho
                     obtain ⟨n4, hn4⟩ : ∃ n, (idsF (L.take i) 0 ++ [(i : Int)]).length = n := ⟨_, rfl⟩
                     rw [hn4] at hv4
                     subst hv4
                     have O4 := Hide.mk ho
                     have B4 := Hide.mk hb
                     clear ho hb hg hat hn4 hcc4)
        go_roundw
        case rel => exact ⟨i + 1, A4, n4, c4, by go_num, rfl, ⟨by omega⟩, ⟨by rw [NX.out, if_pos HX.out]; exact O4.out⟩, B4⟩
        case measure => simp [intOf]; omega
    · have hlt : ¬ (i : Int) < (L.length : Int) := by omega
      have E := Hide.mk (show i = L.length by have := hi.out; omega)
      clear hlt0
      go_wp2
      go_ret
      have e : L.take i = L := by rw [E.out, List.take_length]
      have hO' := hO.out
      rw [e] at hO'
      exact ⟨_, rfl, hO', hB.out⟩
end Go.Proofs.YtgmkbcoahilkhaaGreat.Sh
end
section
namespace Go.Proofs.YtgmkbcoahilkhaaGreat.Sh
open Go.RowKit YtgmkbcoahilkhaaGreatW.PrintWords YtgmkbcoahilkhaaGreatW.PrintLast YtgmkbcoahilkhaaGreatW.PrintMore MapFn Disk Bitset Page
set_option maxHeartbeats 8000000
set_option maxRecDepth 100000
theorem done_zero (s : Sh) : s.done 0 = s := by
  unfold Sh.done
  cases s
  simp
theorem shread_any (id : Int) (w : World) (F : Foot) (s : Sh) (h : ShAt w F s) (hk : Ok s) (hb : ∀ n, Bytes (s.D.get n)) :
    Calls Tryz.prog 57 #[.pointer (some ⟨F.p, 0, none⟩), .int .i64 id] w fun e w' => ∃ v, e = .returned (.tuple #[.int .i64 (s.read id).2.1, v, .int .i64 (s.read id).2.2.2]) ∧ Kd.R (Kd.int .u8) 5 w' w.heap.size (fun _ => True) v (s.read id).2.2.1 ∧ ∃ F', ShAt w' F' (s.read id).1 ∧ Goes F F' w w' := by
  have HS := Hide.mk h
  have HBL := Hide.mk (block_any id h)
  have c0 := h.cells.c0
  obtain ⟨R, hR⟩ : ∃ R, s.read id = R := ⟨_, rfl⟩
  rw [hR]
  unfold Sh.read at hR
  obtain ⟨n, hn⟩ : ∃ n, (s.block id).1 = n := ⟨_, rfl⟩
  obtain ⟨e0, he0⟩ : ∃ n, (s.block id).2 = n := ⟨_, rfl⟩
  rw [hn, he0] at HBL
  simp only [hn, he0] at hR
  have HWN : Hide (e0 = 0 → MapFn.wf n) := ⟨fun hz => by
    subst hz
    rw [← hn]
    have hb1 := he0
    unfold Sh.block at hb1 ⊢
    by_cases h1 : s.alive ≠ 0
    · rw [if_pos h1] at hb1
      exact absurd hb1 h1
    · rw [if_neg h1] at hb1 ⊢
      by_cases h2 : id < 1 ∨ (s.table.length : Int) ≤ id ∨ s.table.getD id.toNat 0 = 0
      · rw [if_pos h2] at hb1
        cases hb1
      · rw [if_neg h2]
        have hlt : id.toNat < s.table.length := by omega
        have := hk.table.2.2 (s.table.getD id.toNat 0) (by rw [List.getD_eq_getElem?_getD, List.getElem?_eq_getElem hlt]; exact List.getElem_mem hlt)
        exact wf_small this.1 this.2⟩
  have HBT := Hide.mk hb
  clear h hk hb hn he0
  by_cases hz : e0 = 0
  · subst hz
    rw [if_neg (by simp)] at hR
    have HWF := Hide.mk (HWN.out rfl)
    obtain ⟨a, ha⟩ : ∃ a, s.D.at_ n = a := ⟨_, rfl⟩
    rw [ha] at hR
    by_cases ha0 : a = 0
    · subst ha0
      rw [if_neg (by simp)] at hR
      try simp only at hR
      have HRD := Hide.mk (read_ok n HS.out.disk HWF.out ha)
      obtain ⟨l, hl⟩ : ∃ l, s.D.get n = l := ⟨_, rfl⟩
      have HLB : Hide (l.length = 256 ∧ Bytes l) := ⟨by rw [← hl]; exact ⟨DiskSt.get_len HS.out.disk n, HBT.out n⟩⟩
      rw [hl] at hR HRD
      obtain ⟨o1, ho1⟩ : ∃ x, (openL l).1 = x := ⟨_, rfl⟩
      obtain ⟨o2, ho2⟩ : ∃ x, (openL l).2.1 = x := ⟨_, rfl⟩
      obtain ⟨o3, ho3⟩ : ∃ x, (openL l).2.2.1 = x := ⟨_, rfl⟩
      obtain ⟨o4, ho4⟩ : ∃ x, (openL l).2.2.2 = x := ⟨_, rfl⟩
      have HO := Hide.mk (And.intro ho1 (And.intro ho2 (And.intro ho3 ho4)))
      simp only [ho1, ho2, ho3, ho4] at hR
      have HRR := Hide.mk hR
      clear hR ha hl ho1 ho2 ho3 ho4
      by_cases hq : o4 = 0
      · subst hq
        by_cases hi : o2 = id
        · subst hi
          go_enter Tryz.func57, Tryz.ntmps57
          go_wp2_with (first
            | (go_at_call 64; refine HBL.out.mono ?_; rintro e w0 ⟨rfl, hw0⟩; obtain rfl : w = w0 := hw0.symm; clear hw0)
            | (go_at_call 102; refine HRD.out.mono ?_; rintro e w2 ⟨g, rfl, hf, hd, hm⟩
               have hs2 := HS.out.disk_moves (ml' := F.ml) hd (.inl rfl) (hm.more (fun x hx => by simp only [List.mem_singleton] at hx; subst hx; left; simp))
               have S2 := Hide.mk hs2.1
               have G2 := Hide.mk hs2.2
               have FR := Hide.mk hf
               have HDN := done_any 0 hs2.1
               rw [done_zero] at HDN
               have HDN1 := Hide.mk HDN
               clear hs2 hf hd hm HDN)
            | (go_at_call 92; with_reducible refine HDN1.out.mono ?_; rintro e w3 ⟨rfl, hs3, hg3⟩
               have S3 := Hide.mk hs3
               have G3 := Hide.mk hg3
               have row3 : w3.heap[g]? = some (.cells (encB l) 110 (0, 0)) := (hg3.moves.block g (lt_of_row FR.out.row) (fun hx => by have := FR.out.new; have hx' : g ∈ F.own := hx; have := HS.out.lts g hx'; omega)).trans FR.out.row
               have HOP := open_any (some ⟨g, 0, none⟩) 256 l w3 (C_of_row row3 (by rw [HLB.out.1]; omega)) (by rw [HLB.out.1]; omega) HLB.out.2
               rw [HLB.out.1, HO.out.1, HO.out.2.1, HO.out.2.2.1, HO.out.2.2.2] at HOP
               have HOP1 := Hide.mk HOP
               clear hs3 hg3 row3 HOP)
            | (go_at_call 103; with_reducible refine HOP1.out.mono ?_; rintro e w4 ⟨v4, rfl, ho, hb4⟩
               obtain ⟨A4, c4, hv4, hcc4, _⟩ := Kd.R_reads ho
               obtain ⟨n4, hn4⟩ : ∃ n, o3.length = n := ⟨_, rfl⟩
               rw [hn4] at hv4
               subst hv4
               have O4 := Hide.mk ho
               have B4 := Hide.mk hb4
               clear ho hb4 hcc4 hn4))
          go_ret3
          have hsz : w.heap.size ≤ w3.heap.size := Nat.le_trans G2.out.moves.size G3.out.moves.size
          have hR := HRR.out
          rw [if_neg (by simp)] at hR
          rw [← hR]
          exact ⟨_, rfl, Kd.R_lower O4.out hsz, _, S3.out.below B4.out, (G2.out.trans G3.out).trans (Goes.below B4.out)⟩
        · have q : (o2 != id) = true := by simp [hi]
          have HI := Hide.mk hi
          clear hi
          go_enter Tryz.func57, Tryz.ntmps57
          go_wp2_with (first
            | (go_at_call 64; refine HBL.out.mono ?_; rintro e w0 ⟨rfl, hw0⟩; obtain rfl : w = w0 := hw0.symm; clear hw0)
            | (go_at_call 102; refine HRD.out.mono ?_; rintro e w2 ⟨g, rfl, hf, hd, hm⟩
               have hs2 := HS.out.disk_moves (ml' := F.ml) hd (.inl rfl) (hm.more (fun x hx => by simp only [List.mem_singleton] at hx; subst hx; left; simp))
               have S2 := Hide.mk hs2.1
               have G2 := Hide.mk hs2.2
               have FR := Hide.mk hf
               have HDN := done_any 0 hs2.1
               rw [done_zero] at HDN
               have HDN1 := Hide.mk HDN
               clear hs2 hf hd hm HDN)
            | (go_at_call 92; with_reducible refine HDN1.out.mono ?_; rintro e w3 ⟨rfl, hs3, hg3⟩
               have S3 := Hide.mk hs3
               have G3 := Hide.mk hg3
               have row3 : w3.heap[g]? = some (.cells (encB l) 110 (0, 0)) := (hg3.moves.block g (lt_of_row FR.out.row) (fun hx => by have := FR.out.new; have hx' : g ∈ F.own := hx; have := HS.out.lts g hx'; omega)).trans FR.out.row
               have HOP := open_any (some ⟨g, 0, none⟩) 256 l w3 (C_of_row row3 (by rw [HLB.out.1]; omega)) (by rw [HLB.out.1]; omega) HLB.out.2
               rw [HLB.out.1, HO.out.1, HO.out.2.1, HO.out.2.2.1, HO.out.2.2.2] at HOP
               have HOP1 := Hide.mk HOP
               clear hs3 hg3 row3 HOP)
            | (go_at_call 103; with_reducible refine HOP1.out.mono ?_; rintro e w4 ⟨v4, rfl, ho, hb4⟩
               obtain ⟨A4, c4, hv4, hcc4, _⟩ := Kd.R_reads ho
               obtain ⟨n4, hn4⟩ : ∃ n, o3.length = n := ⟨_, rfl⟩
               rw [hn4] at hv4
               subst hv4
               have O4 := Hide.mk ho
               have B4 := Hide.mk hb4
               clear ho hb4 hcc4 hn4))
          go_ret3
          have hR := HRR.out
          rw [if_pos (.inr HI.out)] at hR
          rw [← hR]
          exact ⟨_, rfl, Kd.R_nil _ _ _ _ _, _, S3.out.below B4.out, (G2.out.trans G3.out).trans (Goes.below B4.out)⟩
      · have q : (o4 != 0) = true := by simp [hq]
        have HQ := Hide.mk hq
        clear hq
        go_enter Tryz.func57, Tryz.ntmps57
        go_wp2_with (first
          | (go_at_call 64; refine HBL.out.mono ?_; rintro e w0 ⟨rfl, hw0⟩; obtain rfl : w = w0 := hw0.symm; clear hw0)
          | (go_at_call 102; refine HRD.out.mono ?_; rintro e w2 ⟨g, rfl, hf, hd, hm⟩
             have hs2 := HS.out.disk_moves (ml' := F.ml) hd (.inl rfl) (hm.more (fun x hx => by simp only [List.mem_singleton] at hx; subst hx; left; simp))
             have S2 := Hide.mk hs2.1
             have G2 := Hide.mk hs2.2
             have FR := Hide.mk hf
             have HDN := done_any 0 hs2.1
             rw [done_zero] at HDN
             have HDN1 := Hide.mk HDN
             clear hs2 hf hd hm HDN)
          | (go_at_call 92; with_reducible refine HDN1.out.mono ?_; rintro e w3 ⟨rfl, hs3, hg3⟩
             have S3 := Hide.mk hs3
             have G3 := Hide.mk hg3
             have row3 : w3.heap[g]? = some (.cells (encB l) 110 (0, 0)) := (hg3.moves.block g (lt_of_row FR.out.row) (fun hx => by have := FR.out.new; have hx' : g ∈ F.own := hx; have := HS.out.lts g hx'; omega)).trans FR.out.row
             have HOP := open_any (some ⟨g, 0, none⟩) 256 l w3 (C_of_row row3 (by rw [HLB.out.1]; omega)) (by rw [HLB.out.1]; omega) HLB.out.2
             rw [HLB.out.1, HO.out.1, HO.out.2.1, HO.out.2.2.1, HO.out.2.2.2] at HOP
             have HOP1 := Hide.mk HOP
             clear hs3 hg3 row3 HOP)
          | (go_at_call 103; with_reducible refine HOP1.out.mono ?_; rintro e w4 ⟨v4, rfl, ho, hb4⟩
             obtain ⟨A4, c4, hv4, hcc4, _⟩ := Kd.R_reads ho
             obtain ⟨n4, hn4⟩ : ∃ n, o3.length = n := ⟨_, rfl⟩
             rw [hn4] at hv4
             subst hv4
             have O4 := Hide.mk ho
             have B4 := Hide.mk hb4
             clear ho hb4 hcc4 hn4))
        go_ret3
        have hR := HRR.out
        rw [if_pos (.inl HQ.out)] at hR
        rw [← hR]
        exact ⟨_, rfl, Kd.R_nil _ _ _ _ _, _, S3.out.below B4.out, (G2.out.trans G3.out).trans (Goes.below B4.out)⟩
    · rw [if_pos ha0] at hR
      have HRD := read_bad n HS.out.disk (by rw [ha]; exact ha0)
      rw [ha] at HRD
      have HRD1 := Hide.mk HRD
      have q : (a != 0) = true := by simp [ha0]
      have HRR := Hide.mk hR
      clear hR ha ha0 HRD
      go_enter Tryz.func57, Tryz.ntmps57
      go_wp2_with (first
        | (go_at_call 64; refine HBL.out.mono ?_; rintro e w0 ⟨rfl, hw0⟩; obtain rfl : w = w0 := hw0.symm; clear hw0)
        | (go_at_call 102; refine HRD1.out.mono ?_; rintro e w2 ⟨rfl, hb⟩
           have B2 := Hide.mk hb
           have HDN := Hide.mk (done_any a (HS.out.below hb))
           clear hb)
        | (go_at_call 92; with_reducible refine HDN.out.mono ?_; rintro e w3 ⟨rfl, hs3, hg3⟩; have S3 := Hide.mk hs3; have G3 := Hide.mk hg3; clear hs3 hg3))
      go_ret3
      rw [← HRR.out]
      exact ⟨_, rfl, Kd.R_nil _ _ _ _ _, F, S3.out, (Goes.below B2.out).trans G3.out⟩
  · rw [if_pos hz] at hR
    have q : (e0 != 0) = true := by simp [hz]
    have HRR := Hide.mk hR
    clear hR hz
    go_enter Tryz.func57, Tryz.ntmps57
    go_wp2_with (go_at_call 64; refine HBL.out.mono ?_; rintro e w0 ⟨rfl, hw0⟩; obtain rfl : w = w0 := hw0.symm; clear hw0)
    go_ret3
    rw [← HRR.out]
    exact ⟨_, rfl, Kd.R_nil _ _ _ _ _, F, HS.out, Goes.refl _ _⟩
end Go.Proofs.YtgmkbcoahilkhaaGreat.Sh
end
section
namespace Go.Proofs.YtgmkbcoahilkhaaGreat.Sh
open Go.RowKit YtgmkbcoahilkhaaGreatW.PrintWords YtgmkbcoahilkhaaGreatW.PrintLast YtgmkbcoahilkhaaGreatW.PrintMore MapFn Disk Bitset Page PShadowPlays Num
set_option maxHeartbeats 8000000
set_option maxRecDepth 100000
theorem unwords_run (l : List Int) (hb : Bytes l) (hl : l.length ≤ 1000000) : ∀ (d i : Nat) (acc : List Int), i + 2 * d = l.length → acc.length ≤ i → page_Unwords.l0 (d + 1) l acc (i : Int) = some (acc ++ unwordsL (l.drop i), 0)
  | 0, i, acc, hi, ha => by
    rw [page_Unwords.l0, if_neg (by omega), List.drop_eq_nil_of_le (by omega)]
    simp [unwordsL]
  | d + 1, i, acc, hi, ha => by
    have h1 : i < l.length := by omega
    have h2 : i + 1 < l.length := by omega
    have hx : 0 ≤ l[i] ∧ l[i] < 256 := hb l[i] (List.getElem_mem h1)
    have hy : 0 ≤ l[i + 1] ∧ l[i + 1] < 256 := hb l[i + 1] (List.getElem_mem h2)
    have e1 : rd l (i : Int) = l[i] := by simp [rd, List.getD_eq_getElem?_getD, h1]
    have e2 : rd l ((i : Int) + 1) = l[i + 1] := by rw [show (i : Int) + 1 = ((i + 1 : Nat) : Int) by omega]; simp [rd, List.getD_eq_getElem?_getD, h2]
    have w1 : wrap64 ((i : Int) + 1) = (i : Int) + 1 := Bitset.wrap_ok (by omega) (by omega)
    have w2 : wrap64 ((i : Int) + 2) = ((i + 2 : Nat) : Int) := by rw [Bitset.wrap_ok (by omega) (by omega)]; omega
    have w3 : wrap64 l[i] = l[i] := Bitset.wrap_ok (by omega) (by omega)
    have w4 : wrap64 (l[i] * 256) = l[i] * 256 := Bitset.wrap_ok (by omega) (by omega)
    have w5 : wrap64 l[i + 1] = l[i + 1] := Bitset.wrap_ok (by omega) (by omega)
    rw [page_Unwords.l0, if_pos (by omega), if_pos (by omega), w1, if_pos (by omega), if_pos (by omega), if_pos (by omega), e1, e2, w2, w3, w4, w5, or_add l[i] l[i + 1] hx.1 (by omega) hy, unwords_run l hb hl d (i + 2) _ (by omega) (by simp; omega), List.drop_eq_getElem_cons h1, List.drop_eq_getElem_cons h2]
    simp [unwordsL]
theorem unwords_eq (l : List Int) (hb : Bytes l) (hl : l.length ≤ 1000000) : page_Unwords.f (l.length / 2 + 1) l = some (if l.length % 2 = 0 then unwordsL l else [], if l.length % 2 = 0 then 0 else 4) := by
  unfold page_Unwords.f
  by_cases h : l.length % 2 = 0
  · rw [if_pos (by omega), if_pos h, if_pos h]
    have := unwords_run l hb hl (l.length / 2) 0 [] (by omega) (by simp)
    simpa using this
  · rw [if_neg (by omega), if_neg h, if_neg h]
theorem unwords_any (A : Option Addr) (c : Nat) (l : List Int) (w : World) (h : In .u8 w A l c) (hb : Bytes l) (hl : l.length ≤ 1000000) :
    Calls Tryz.prog 74 #[.slice A l.length c] w fun e w' => ∃ v, e = .returned (.tuple #[v, .int .i64 (if l.length % 2 = 0 then 0 else 4)]) ∧ Kd.R (Kd.int .i64) 3 w' w.heap.size (fun _ => True) v (if l.length % 2 = 0 then unwordsL l else []) ∧ Below w.heap.size w w' :=
  page_Unwords.calls _ A c l _ _ w h.reads h.room (unwords_eq l hb hl)
def twosL : Nat → List Int → List Int
  | 0, _ => []
  | k + 1, l => beN 0 (l.take 2) :: twosL k (l.drop 2)
theorem twosL_len : ∀ (k : Nat) (l : List Int), (twosL k l).length = k
  | 0, _ => rfl
  | k + 1, l => by simp [twosL, twosL_len k]
theorem twosL_snoc : ∀ (k : Nat) (l : List Int), twosL (k + 1) l = twosL k l ++ [beN 0 ((l.drop (2 * k)).take 2)]
  | 0, l => by simp [twosL]
  | k + 1, l => by
    rw [twosL, twosL_snoc k (l.drop 2)]
    simp [twosL, List.drop_drop, show 2 + 2 * k = 2 * (k + 1) by omega]
theorem twosAt_L : ∀ (k off : Nat) (b : List Int), twosAt b k off = twosL k (b.drop off)
  | 0, _, _ => rfl
  | k + 1, off, b => by
    rw [twosAt, twosL, twosAt_L k (off + 2) b, List.drop_drop]
theorem Moves.trans_low {l : List Nat} {a b c : World} (h : Moves l a b) (k : Below a.heap.size b c) : Moves l a c :=
  ⟨k.os.trans h.os, k.tape.trans h.tape, k.output.trans h.output, Nat.le_trans h.size k.size, fun j hj hn => (k.block j hj).trans (h.block j hj hn)⟩
end Go.Proofs.YtgmkbcoahilkhaaGreat.Sh
end
section
namespace Go.Proofs.YtgmkbcoahilkhaaGreat.Sh
open Go.RowKit YtgmkbcoahilkhaaGreatW.PrintWords YtgmkbcoahilkhaaGreatW.PrintLast YtgmkbcoahilkhaaGreatW.PrintMore MapFn Disk Bitset Page PShadowPlays Num
set_option maxHeartbeats 8000000
set_option maxRecDepth 100000
theorem _root_.Go.Proofs.YtgmkbcoahilkhaaGreat.Num.ReaderAt.moves {w w' : World} {p g off c : Nat} {l : List Int} {ls : List Nat} (h : ReaderAt w p g off c l) (hm : Moves ls w w') (hp : ¬ p ∈ ls) (hg : ¬ g ∈ ls) : ReaderAt w' p g off c l :=
  ⟨(hm.block p (lt_of_row h.row) hp).trans h.row, C_moves h.reads hm hg, h.room, h.ne, h.bytes⟩
theorem grown_moves {α : Type} {d : Kd α} {e : TypeId} {ok : Nat → Prop} {w w' : World} {base : Nat} {v : Value} {es : List α} (h : w.grownBy w' v.ownBlock) (hO : d.R e w base ok v es) : ∃ l, Moves l w w' ∧ ∀ x ∈ l, base ≤ x :=
  ⟨v.ownBlock.toList, ⟨h.os, h.tape, h.output, h.size, fun k hk hn => h.block k hk (fun e => hn (by rw [← e]; simp))⟩, fun x hx => Kd.R_base hO x (by simpa using hx)⟩
theorem blocks_any (n : Nat) (w : World) (p g off c : Nat) (l : List Int) (h : ReaderAt w p g off c l) (hn : 2 * n < l.length) (hl : l.length ≤ 1000) :
    Calls Tryz.prog 213 #[.pointer (some ⟨p, 0, none⟩), .int .i64 (n : Int)] w fun e w' => ∃ v, e = .returned v ∧ Kd.R (Kd.int .i64) 3 w' w.heap.size (fun k => k ≠ p) v (twosL n l) ∧ ReaderAt w' p g (off + 2 * n) (c - 2 * n) (l.drop (2 * n)) ∧ Moves [p] w w' := by
  have hgl : g < w.heap.size := by
    obtain ⟨ad, e, hc⟩ := Kd.at_int h.reads 0 (by omega) (by omega)
    cases e
    have := block_lt_of_cell hc
    rwa [add_block] at this
  have HPG := Hide.mk (And.intro (lt_of_row h.row) hgl)
  have H := Hide.mk h
  have HN := Hide.mk (And.intro hn hl)
  have hn2 : n ≤ 1000 := by omega
  clear h hn hl hgl
  go_enter Tryz.func213, Tryz.ntmps213
  go_wp2
  go_loopw [5, 7] (fun v5 v7 wr => ∃ (i : Nat) (A5 : Option Addr) (c5 : Nat), v7 = .int .i64 (i : Int) ∧ v5 = .slice A5 i c5 ∧ Hide (i ≤ n) ∧ Hide (Kd.R (Kd.int .i64) 3 wr w.heap.size (fun k => k ≠ p) (.slice A5 i c5) (twosL i l)) ∧ Hide (ReaderAt wr p g (off + 2 * i) (c - 2 * i) (l.drop (2 * i))) ∧ Hide (Moves [p] w wr)) (fun _ v7 _ => n - (intOf v7).toNat)
  case atStart => exact ⟨0, none, 0, by first | rfl | simp, rfl, ⟨Nat.zero_le _⟩, ⟨Kd.R_nil _ _ _ _ _⟩, ⟨by simpa using H.out⟩, ⟨Moves.refl _ _⟩⟩
  case round =>
    obtain ⟨i, A5, c5, rfl, rfl, hi, hO, hRd, hM⟩ := hrel
    by_cases hlt0 : i < n
    · have hlt : (i : Int) < (n : Int) := by omega
      obtain ⟨x, hx⟩ : ∃ x, beN 0 ((l.drop (2 * i)).take 2) = x := ⟨_, rfl⟩
      have HNUM := num_any 2 hRd.out (by omega) (by omega) (by rw [List.length_drop]; have := HN.out; omega)
      rw [hx] at HNUM
      have HNUM1 := Hide.mk HNUM
      have NX : Hide (twosL (i + 1) l = twosL i l ++ [x]) := ⟨by rw [twosL_snoc, hx]⟩
      clear HNUM hx
      go_wp2_with (first
        | (go_at_call 162; refine HNUM1.out.mono ?_; rintro e w3 ⟨rfl, hr3, hm3⟩
           have R3 := Hide.mk hr3
           have M3 := Hide.mk hm3
           have O3 := Hide.mk (Kd.R_step hO.out (fun k ho hk => hm3.block k hk (by simpa using ho)))
           have hz : w.heap.size ≤ w3.heap.size := Nat.le_trans hM.out.size hm3.size
           clear hr3 hm3)
        | ((with_reducible refine gate_builtin (b := .append) (xs := #[.tmp 9, .tmp 12]) rfl ?_); at_builtin
           refine Kd.R_append (Kd.int .i64) (w0 := w3) w.heap.size rfl (.tmp 9) (.tmp 12) 38 3 (.int .i64 0) 8 rfl Tryz.underlying38 infoI rfl (by decide) (by omega) (.slice A5 i c5) (twosL i l) x [.int .i64 x] (fun k => k ≠ p) (fun _ => False) rfl rfl rfl (fun _ h => h.elim) (fun k hk => by have := HPG.out.1; omega) O3.out (Below.refl _ _) hz (by rw [twosL_len]; omega) ?_
           intro v4 w4 ho hb hg hat
           rw [← NX.out] at ho
           obtain ⟨A4, c4, hv4, hcc4, _⟩ := Kd.R_reads ho
           rw [twosL_len] at hv4
           subst hv4
           have O4 := Hide.mk ho
           have B4 := Hide.mk hb
           have M4 := Hide.mk (grown_moves hg O3.out)
           clear ho hb hg hat hcc4))
      obtain ⟨ls, hmv, hls⟩ := M4.out
      have hR4 := R3.out.moves hmv (fun hq => by have := hls _ hq; have := HPG.out; omega) (fun hq => by have := hls _ hq; have := HPG.out; omega)
      have hM4 := Moves.trans_low (hM.out.trans M3.out) B4.out
      go_roundw
      case rel => exact ⟨i + 1, A4, c4, by go_num, rfl, ⟨by omega⟩, O4, ⟨by rw [List.drop_drop] at hR4; rw [show off + 2 * (i + 1) = off + 2 * i + 2 by omega, show c - 2 * (i + 1) = c - 2 * i - 2 by omega, show 2 * (i + 1) = 2 * i + 2 by omega]; exact hR4⟩, ⟨hM4⟩⟩
      case measure => simp [intOf]; omega
    · have hlt : ¬ (i : Int) < (n : Int) := by omega
      have E := Hide.mk (show i = n by have := hi.out; omega)
      clear hlt0
      go_wp2
      go_ret
      have e := E.out
      subst e
      exact ⟨_, rfl, hO.out, hRd.out, hM.out⟩
end Go.Proofs.YtgmkbcoahilkhaaGreat.Sh
end
section
namespace Go.Proofs.YtgmkbcoahilkhaaGreat.Sh
open Go.RowKit YtgmkbcoahilkhaaGreatW.PrintWords YtgmkbcoahilkhaaGreatW.PrintLast YtgmkbcoahilkhaaGreatW.PrintMore MapFn Disk Bitset Page PShadowPlays Num
set_option maxHeartbeats 8000000
set_option maxRecDepth 100000
theorem beN_nonneg (l : List Int) (h : ∀ x ∈ l, IsByte x) : 0 ≤ beN 0 l := by
  have : ∀ (l : List Int) (n : Int), 0 ≤ n → (∀ x ∈ l, IsByte x) → 0 ≤ beN n l := by
    intro l
    induction l with
    | nil => intro n hn _; exact hn
    | cons x r ih =>
      intro n hn hb
      have hx : 0 ≤ x ∧ x < 256 := hb x (by simp)
      exact ih (n * 256 + x) (by omega) (fun y hy => hb y (by simp [hy]))
  exact this l 0 (Int.le_refl 0) h
theorem _root_.Go.Proofs.YtgmkbcoahilkhaaGreat.Num.ReaderAt.glt {w : World} {p g off c : Nat} {l : List Int} (h : ReaderAt w p g off c l) (h0 : 0 < l.length) : g < w.heap.size := by
  obtain ⟨ad, e, hc⟩ := Kd.at_int h.reads 0 (by omega) (by omega)
  cases e
  have := block_lt_of_cell hc
  rwa [add_block] at this
theorem load_root {w : World} {ops : Array Oper} {rest : List Oper} {o : Oper} {a : Act} {Q : Exit → Act → World → Prop} (hg : o.guard = none) (x : Operand) (hop : o.op = Op.load 65 x) (g : Nat) (cs : Array Value) (hx : a.eval x = .pointer (some ⟨g, 0, none⟩)) (hrow : w.heap[g]? = some (.cells cs 65 (0, 0))) (hs : cs.size = 6)
    (hK : wpList Tryz.prog ops Q rest (a.put o.dst (.agg cs)) w) : wpList Tryz.prog ops Q (o :: rest) a w := by
  refine wpList_plain hg fun K' hK' => ?_
  have hrun : (Instr.loadAt 65 (.pointer (some ⟨g, 0, none⟩))).run Tryz.prog w = .ok (.agg cs) w := by
    simp only [Instr.loadAt, Instr.sureAddr, Sem.run_bind, Sem.run_pure, Result.andThen]
    exact run_loadVar_row w g _ _ cs (0, 0) _ hrow Tryz.underlying65 rfl (by rw [infoR, hs])
  unfold Oper.wp
  simp [execOp, hop, hx, hrun, Result.andThen]
  exact hK' _ _ hK
theorem rootread_any (b : List Int) (g0 off0 c : Nat) (w : World) (hr : In .u8 w (some ⟨g0, off0, none⟩) b c) (hl : b.length = 256) (hb : Bytes b) :
    Calls Tryz.prog 202 #[.slice (some ⟨g0, off0, none⟩) 256 c] w fun e w' => ∃ tA tc mA mc, e = .returned ((Root.read b).val tA tc mA mc) ∧ In .i64 w' tA (Root.read b).tables tc ∧ In .i64 w' mA (Root.read b).maps mc ∧ (∀ a, tA = some a → w.heap.size ≤ a.block) ∧ (∀ a, mA = some a → w.heap.size ≤ a.block) ∧ Below w.heap.size w w' := by
  have hroom := hr.room
  have hc2 : 256 ≤ c := by omega
  obtain ⟨l, hll⟩ : ∃ l, b.drop 4 = l := ⟨_, rfl⟩
  have hlen : l.length = 252 := by rw [← hll, List.length_drop, hl]
  have HL := Hide.mk hlen
  have HLL := Hide.mk hll
  obtain ⟨x1, hx1⟩ : ∃ x, beN 0 (l.take 6) = x := ⟨_, rfl⟩
  obtain ⟨x2, hx2⟩ : ∃ x, beN 0 ((l.drop 6).take 2) = x := ⟨_, rfl⟩
  obtain ⟨x3, hx3⟩ : ∃ x, beN 0 (((l.drop 6).drop 2).take 2) = x := ⟨_, rfl⟩
  obtain ⟨x4, hx4⟩ : ∃ x, beN 0 ((((l.drop 6).drop 2).drop 2).take 2) = x := ⟨_, rfl⟩
  obtain ⟨x5, hx5⟩ : ∃ x, beN 0 (((((l.drop 6).drop 2).drop 2).drop 2).take 1) = x := ⟨_, rfl⟩
  obtain ⟨x6, hx6⟩ : ∃ x, beN 0 ((((((l.drop 6).drop 2).drop 2).drop 2).drop 1).take 1) = x := ⟨_, rfl⟩
  obtain ⟨k1, hk1⟩ : ∃ k, (if x5 < 26 then x5 else 26).toNat = k := ⟨_, rfl⟩
  obtain ⟨k2, hk2⟩ : ∃ k, (if x6 < 3 then x6 else 3).toNat = k := ⟨_, rfl⟩
  have hx50 : 0 ≤ x5 := by rw [← hx5]; exact beN_nonneg _ (fun x hx => hb x (List.mem_of_mem_drop (by rw [hll]; exact List.mem_of_mem_drop (List.mem_of_mem_drop (List.mem_of_mem_drop (List.mem_of_mem_drop (List.mem_of_mem_take hx)))))))
  have hx60 : 0 ≤ x6 := by rw [← hx6]; exact beN_nonneg _ (fun x hx => hb x (List.mem_of_mem_drop (by rw [hll]; exact List.mem_of_mem_drop (List.mem_of_mem_drop (List.mem_of_mem_drop (List.mem_of_mem_drop (List.mem_of_mem_drop (List.mem_of_mem_take hx))))))))
  have hm1 : (if x5 < 26 then x5 else 26) = (k1 : Int) := by rw [← hk1]; split <;> omega
  have hm2 : (if x6 < 3 then x6 else 3) = (k2 : Int) := by rw [← hk2]; split <;> omega
  have hm3 : (if 26 < x5 then 26 else x5) = (k1 : Int) := by rw [← hm1]; split <;> split <;> omega
  have hm4 : (if 3 < x6 then 3 else x6) = (k2 : Int) := by rw [← hm2]; split <;> split <;> omega
  have HK : Hide (k1 ≤ 26 ∧ k2 ≤ 3) := ⟨by constructor; (rw [← hk1]; split <;> omega); (rw [← hk2]; split <;> omega)⟩
  have HM := Hide.mk (And.intro hk1 hk2)
  have E1 := Hide.mk hx1
  have E2 := Hide.mk hx2
  have E3 := Hide.mk hx3
  have E4 := Hide.mk hx4
  have E5 := Hide.mk hx5
  have E6 := Hide.mk hx6
  have hB0 := (Below.refl w.heap.size w).alloc (Nat.le_refl _) (.cells #[.int .i64 0, .int .i64 0, .int .i64 0, .int .i64 0, .slice none 0 0, .slice none 0 0] 65)
  have row0 := heap_last w (.cells #[.int .i64 0, .int .i64 0, .int .i64 0, .int .i64 0, .slice none 0 0, .slice none 0 0] 65)
  have hsz0 : (w.alloc (.cells #[.int .i64 0, .int .i64 0, .int .i64 0, .int .i64 0, .slice none 0 0, .slice none 0 0] 65)).heap.size = w.heap.size + 1 := by simp
  obtain ⟨W0, hW0⟩ : ∃ W, w.alloc (.cells #[.int .i64 0, .int .i64 0, .int .i64 0, .int .i64 0, .slice none 0 0, .slice none 0 0] 65) = W := ⟨_, rfl⟩
  rw [hW0] at hB0 row0 hsz0
  have HB0 := Hide.mk hB0
  have ROW0 := Hide.mk row0
  have HSZ0 := Hide.mk hsz0
  have hin := (hr.below hB0).from_ 4 (by omega)
  rw [hll] at hin
  have HNEW0 := new_any (some ⟨g0, off0 + 4, none⟩) (c - 4) l W0 hin.reads hin.room (fun x hx => hb x (List.mem_of_mem_drop (by rw [hll]; exact hx))) (by omega) (by omega)
  rw [hlen] at HNEW0
  have HNEW := Hide.mk HNEW0
  clear hr hb hl hll hlen hx1 hx2 hx3 hx4 hx5 hx6 hk1 hk2 hx50 hx60 hB0 row0 hsz0 hin HNEW0 hroom
  go_enter Tryz.func202, Tryz.ntmps202
  go_wp2_with (first
      | (go_at_call 161; (try rw [hW0]); have _t := HNEW.out; refine HNEW.out.mono ?_; rintro e w1 ⟨p, g, off1, c1, rfl, hrd, hb1, hp1⟩; have R0 := Hide.mk hrd; have B1 := Hide.mk hb1; have P1 := Hide.mk hp1; clear hrd hb1 hp1 HNEW _t
         have HN1 := Hide.mk (num_is 6 x1 R0.out (by omega) (by omega) (by (try simp only [List.length_drop]); have := HL.out; omega) E1.out))
      | (go_at_call 162; have _t := HN1.out; refine HN1.out.mono ?_; rintro e w2 ⟨rfl, hr, hm⟩; have R1 := Hide.mk hr; have M1 := Hide.mk hm; clear hr hm HN1 _t
         have HN2 := Hide.mk (num_is 2 x2 R1.out (by omega) (by omega) (by (try simp only [List.length_drop]); have := HL.out; omega) E2.out))
      | (go_at_call 162; have _t := HN2.out; refine HN2.out.mono ?_; rintro e w3 ⟨rfl, hr, hm⟩; have R2 := Hide.mk hr; have M2 := Hide.mk hm; clear hr hm HN2 _t
         have HN3 := Hide.mk (num_is 2 x3 R2.out (by omega) (by omega) (by (try simp only [List.length_drop]); have := HL.out; omega) E3.out))
      | (go_at_call 162; have _t := HN3.out; refine HN3.out.mono ?_; rintro e w4 ⟨rfl, hr, hm⟩; have R3 := Hide.mk hr; have M3 := Hide.mk hm; clear hr hm HN3 _t
         have HN4 := Hide.mk (num_is 2 x4 R3.out (by omega) (by omega) (by (try simp only [List.length_drop]); have := HL.out; omega) E4.out))
      | (go_at_call 162; have _t := HN4.out; refine HN4.out.mono ?_; rintro e w5 ⟨rfl, hr, hm⟩; have R4 := Hide.mk hr; have M4 := Hide.mk hm; clear hr hm HN4 _t)
      | (go_at_call 162
         obtain ⟨W5, hW5⟩ : ∃ W, w5.alloc (.cells #[.int .i64 x1, .int .i64 x2, .int .i64 x3, .int .i64 x4, .slice none 0 0, .slice none 0 0] 65) = W := ⟨_, rfl⟩
         rw [hW5]
         have hal := (Below.refl w5.heap.size w5).alloc (Nat.le_refl _) (.cells #[.int .i64 x1, .int .i64 x2, .int .i64 x3, .int .i64 x4, .slice none 0 0, .slice none 0 0] 65)
         have row5 := heap_last w5 (.cells #[.int .i64 x1, .int .i64 x2, .int .i64 x3, .int .i64 x4, .slice none 0 0, .slice none 0 0] 65)
         rw [hW5] at hal row5
         have BA := Hide.mk hal
         have ROW5 := Hide.mk row5
         have R4b := Hide.mk (R4.out.below BA.out)
         have LT5 := Hide.mk (And.intro (lt_of_row R4.out.row) (R4.out.glt (by (try simp only [List.length_drop]); have := HL.out; omega)))
         clear row5 hal hW5
         have HN5 := Hide.mk (num_is 1 x5 R4b.out (by omega) (by omega) (by (try simp only [List.length_drop]); have := HL.out; omega) E5.out)
         have _t := HN5.out; refine HN5.out.mono ?_; rintro e w6 ⟨rfl, hr, hm⟩; have R5 := Hide.mk hr; have M5 := Hide.mk hm; clear hr hm HN5 _t
         have HN6 := Hide.mk (num_is 1 x6 R5.out (by omega) (by omega) (by (try simp only [List.length_drop]); have := HL.out; omega) E6.out))
      | (go_at_call 162; have _t := HN6.out; refine HN6.out.mono ?_; rintro e w7 ⟨rfl, hr, hm⟩; have R6 := Hide.mk hr; have M6 := Hide.mk hm; clear hr hm HN6 _t
         have HBL1 := Hide.mk (blocks_any k1 w7 p g _ _ _ R6.out (by (try simp only [List.length_drop]); have := HL.out; have := HK.out; omega) (by (try simp only [List.length_drop]); have := HL.out; omega)))
      | (go_at_call 213; have _t := HBL1.out; refine HBL1.out.mono ?_; rintro e w8 ⟨v8, rfl, ho, hr, hm⟩
         obtain ⟨A8, c8, hv8, hcc8, _⟩ := Kd.R_reads ho
         rw [twosL_len] at hv8
         subst hv8
         have O8 := Hide.mk ho
         have M8 := Hide.mk hm
         have row8 := (((M5.out.trans M6.out).trans hm).block w5.heap.size (lt_of_row ROW5.out) (by have := LT5.out.1; simp; omega)).trans ROW5.out
         have c4' := cell_of (i := 4) row8
         have f4' := free_of (i := 4) row8
         simp at c4'
         obtain ⟨w9, hw9, row9, hg9⟩ := stage_set (i := 4) (v := .slice A8 k1 c8) row8
         have R9 := Hide.mk (hr.moves (Moves.of_grown hg9) (by have := LT5.out.1; simp; omega) (by have := LT5.out.2; simp; omega))
         have ROW9 := Hide.mk row9
         have G9 := Hide.mk hg9
         have HBL2 := Hide.mk (blocks_any k2 w9 p g _ _ _ R9.out (by (try simp only [List.length_drop]); have := HL.out; have := HK.out; omega) (by (try simp only [List.length_drop]); have := HL.out; omega))
         clear ho hr hm hcc8 row8 row9 hg9 HBL1 _t)
      | (go_at_call 213; have _t := HBL2.out; refine HBL2.out.mono ?_; rintro e w10 ⟨v10, rfl, ho, hr, hm⟩
         obtain ⟨A10, c10, hv10, hcc10, _⟩ := Kd.R_reads ho
         rw [twosL_len] at hv10
         subst hv10
         have O10 := Hide.mk ho
         have M10 := Hide.mk hm
         have row10 := (hm.block w5.heap.size (lt_of_row ROW9.out) (by have := LT5.out.1; simp; omega)).trans ROW9.out
         have c5' := cell_of (i := 5) row10
         have f5' := free_of (i := 5) row10
         simp at c5'
         obtain ⟨w11, hw11, row11, hg11⟩ := stage_set (i := 5) (v := .slice A10 k2 c10) row10
         have ROW11 := Hide.mk row11
         have G11 := Hide.mk hg11
         have mvA : Moves [p] W0 w5 := (Moves.of_below B1.out [p]).trans (M1.out.trans (M2.out.trans (M3.out.trans M4.out)))
         have mvB : Moves [p] w5 w8 := (Moves.of_below BA.out [p]).trans (M5.out.trans (M6.out.trans M8.out))
         have hpw : w.heap.size < p := by have := P1.out; have := HSZ0.out; omega
         have hw5 : w.heap.size < w5.heap.size := by have := mvA.size; have := HSZ0.out; omega
         have ra := ((mvA.trans mvB).block w.heap.size (by have := HSZ0.out; omega) (by simp; omega)).trans ROW0.out
         have rb := (G9.out.block w.heap.size (lt_of_row ra) (by simp; omega)).trans ra
         have rc := (hm.block w.heap.size (lt_of_row rb) (by simp; omega)).trans rb
         have rd0 := (hg11.block w.heap.size (lt_of_row rc) (by simp; omega)).trans rc
         have b8 := moves_below HB0.out (Nat.le_of_lt hpw) (mvA.trans mvB)
         have b9 := b8.grown G9.out b8.size (fun k hk => by cases hk; omega)
         have b10 := moves_below b9 (Nat.le_of_lt hpw) hm
         have b11 := b10.grown hg11 b10.size (fun k hk => by cases hk; omega)
         have RD := Hide.mk rd0
         have B11 := Hide.mk b11
         have HW5 := Hide.mk (And.intro hw5 mvB.size)
         clear ho hr hm hcc10 row10 row11 hg11 HBL2 _t mvA mvB hpw hw5 ra rb rc rd0 b8 b9 b10 b11)
      | (refine load_root rfl _ rfl w5.heap.size #[.int .i64 x1, .int .i64 x2, .int .i64 x3, .int .i64 x4, .slice A8 k1 c8, .slice A10 k2 c10] rfl ROW11.out rfl ?_)
      | (refine store_root rfl _ _ rfl w.heap.size #[.int .i64 0, .int .i64 0, .int .i64 0, .int .i64 0, .slice none 0 0, .slice none 0 0] #[.int .i64 x1, .int .i64 x2, .int .i64 x3, .int .i64 x4, .slice A8 k1 c8, .slice A10 k2 c10] rfl rfl RD.out rfl rfl (by simp [Value.oneCell']) ?_; intro w12 row12 hg12 hz12
         have ROW12 := Hide.mk row12
         have G12 := Hide.mk hg12
         clear row12 hg12 hz12))
  (try simp only [Exit.inBlock, Exit.then])
  refine bodyPost_ret (results_cell_row rfl _ _ w.heap.size 65 #[.int .i64 x1, .int .i64 x2, .int .i64 x3, .int .i64 x4, .slice A8 k1 c8, .slice A10 k2 c10] (0, 0) _ rfl ROW12.out Tryz.underlying65 rfl (by rw [infoR]; rfl)) rfl ?_
  have hn : beN 0 ((b.drop 16).take 1) = x5 := by rw [← E5.out, ← HLL.out]; simp [List.drop_drop]
  have hm : beN 0 ((b.drop 17).take 1) = x6 := by rw [← E6.out, ← HLL.out]; simp [List.drop_drop]
  have h1 : beN 0 ((b.drop 4).take 6) = x1 := by rw [← E1.out, ← HLL.out]
  have h2 : beN 0 ((b.drop 10).take 2) = x2 := by rw [← E2.out, ← HLL.out]; simp [List.drop_drop]
  have h3 : beN 0 ((b.drop 12).take 2) = x3 := by rw [← E3.out, ← HLL.out]; simp [List.drop_drop]
  have h4 : beN 0 ((b.drop 14).take 2) = x4 := by rw [← E4.out, ← HLL.out]; simp [List.drop_drop]
  have hRR : Root.read b = ⟨x1, x2, x3, x4, twosL k1 (b.drop 18), twosL k2 (b.drop (18 + 2 * k1))⟩ := by
    unfold Root.read
    simp only [hn, hm, h1, h2, h3, h4, HM.out.1, HM.out.2, twosAt_L]
  have L8 := O8.out
  have L10 := O10.out
  rw [← HLL.out] at L8 L10
  simp only [List.drop_drop] at L8 L10
  obtain ⟨A8', c8', hv8, hi8, hge8⟩ := In.of_own L8
  obtain ⟨A10', c10', hv10, hi10, hge10⟩ := In.of_own L10
  rw [twosL_len] at hv8 hv10
  cases hv8
  cases hv10
  have hw5 := HW5.out
  have hp := LT5.out.1
  have s67 : w5.heap.size ≤ w7.heap.size := Nat.le_trans BA.out.size (Nat.le_trans M5.out.size M6.out.size)
  have s57 : w5.heap.size < w7.heap.size := by have := lt_of_row ROW5.out; have := M5.out.size; have := M6.out.size; omega
  have s79 : w7.heap.size ≤ w9.heap.size := Nat.le_trans M8.out.size G9.out.size
  have j8 := (((hi8.moves (Moves.of_grown G9.out) (fun a ha hx => by have := hge8 a ha; simp at hx; omega)).moves M10.out (fun a ha hx => by have := hge8 a ha; simp at hx; omega)).moves (Moves.of_grown G11.out) (fun a ha hx => by have := hge8 a ha; simp at hx; omega)).moves (Moves.of_grown G12.out) (fun a ha hx => by have := hge8 a ha; simp at hx; omega)
  have j10 := (hi10.moves (Moves.of_grown G11.out) (fun a ha hx => by have := hge10 a ha; simp at hx; omega)).moves (Moves.of_grown G12.out) (fun a ha hx => by have := hge10 a ha; simp at hx; omega)
  rw [hRR]
  refine ⟨A8, c8, A10, c10, ?_, j8, ?_, fun a ha => by have := hge8 a ha; omega, fun a ha => by have := hge10 a ha; omega, B11.out.grown G12.out B11.out.size (fun k hk => by cases hk; exact Nat.le_refl _)⟩
  · unfold Root.val
    rw [twosL_len, twosL_len]
  · exact j10
end Go.Proofs.YtgmkbcoahilkhaaGreat.Sh
end
section
namespace Go.Proofs.YtgmkbcoahilkhaaGreat.Sh
open Go.RowKit YtgmkbcoahilkhaaGreatW.PrintWords YtgmkbcoahilkhaaGreatW.PrintLast YtgmkbcoahilkhaaGreatW.PrintMore MapFn Disk Bitset Page PShadowPlays Num
set_option maxHeartbeats 8000000
set_option maxRecDepth 100000
theorem sumopen_250 {l : List Int} (hb : Bytes l) (hl : l.length = 250) : sum_Open.f 2 l = some (if tailL (l.take 246) = l.drop 246 then (l.take 246, 0) else ([], 13)) := by
  have hb1 : Bytes (l.take 246) := fun x hx => hb x (List.mem_of_mem_take hx)
  have hb2 : Bytes (l.drop 246) := fun x hx => hb x (List.mem_of_mem_drop hx)
  have hb3 : Bytes (tailL (l.take 246)) := by
    intro x hx
    simp only [tailL, List.mem_cons, List.not_mem_nil, or_false] at hx
    rcases hx with rfl | rfl | rfl | rfl <;> (unfold IsByte; omega)
  unfold sum_Open.f
  rw [hl, show wrap64 (((250 : Nat) : Int) - 4) = 246 by unfold wrap64; omega, if_neg (by omega), if_pos (by omega), if_pos (by omega)]
  rw [show (246 : Int).toNat = 246 from rfl, tail_eq hb1]
  simp only [Option.bind_some]
  rw [equal_eq hb3 hb2]
  simp only [Option.bind_some]
  by_cases h : tailL (l.take 246) = l.drop 246
  · rw [if_pos (by simpa using h), if_pos h]
    unfold bytes_Clone.f
    rw [if_pos (by simp; omega)]
    rfl
  · rw [if_neg (by simpa using h), if_neg h]
theorem results_rootE {fn : Func} {p u : Tmp} (h : fn.results = #[.cell p 65, .tmp u]) (tmps : Array Value) (w : World) (g : Nat) (cs : Array Value)
    (hp : tmps.getD p undef = .pointer (some ⟨g, 0, none⟩)) (hg : w.heap[g]? = some (.cells cs 65 (0, 0))) (hs : cs.size = 6) :
    (results fn tmps).run Tryz.prog w = .ok (.tuple #[.agg cs, tmps.getD u undef]) w := by
  have hp' : tmps[p]?.getD undef = .pointer (some ⟨g, 0, none⟩) := by simpa using hp
  simp [results, h, hp', asAddr, run_loadVar_row w g 65 65 cs (0, 0) _ hg Tryz.underlying65 rfl (by rw [infoR, hs])]
theorem bytes_bytes {r : Root} (h : r.check = 0) : Bytes r.bytes := by
  intro x hx
  unfold Root.bytes at hx
  rcases List.mem_append.1 hx with h1 | h1
  · rcases List.mem_append.1 h1 with h2 | h2
    · exact body_bytes h x h2
    · simp only [tailL, List.mem_cons, List.not_mem_nil, or_false] at h2
      rcases h2 with rfl | rfl | rfl | rfl <;> (unfold IsByte; omega)
  · exact putN_bytes _ _ x h1
theorem read_small (b : List Int) : (Root.read b).tables.length + (Root.read b).maps.length ≤ 10000 := by
  unfold Root.read
  simp only [twosAt_L, twosL_len]
  split <;> split <;> omega
theorem read_blocks (b : List Int) (hb : Bytes b) : -1000000 ≤ (Root.read b).blocks ∧ (Root.read b).blocks ≤ 1000000 := by
  show -1000000 ≤ beN 0 ((b.drop 10).take 2) ∧ beN 0 ((b.drop 10).take 2) ≤ 1000000
  have h : ∀ x ∈ (b.drop 10).take 2, IsByte x := fun x hx => hb x (List.mem_of_mem_drop (List.mem_of_mem_take hx))
  have hl : ((b.drop 10).take 2).length ≤ 2 := by rw [List.length_take]; omega
  generalize (b.drop 10).take 2 = l at h hl
  match l, h, hl with
  | [], _, _ => exact ⟨by decide, by decide⟩
  | [x], h, _ =>
    have hx : 0 ≤ x ∧ x < 256 := h x (by simp)
    show -1000000 ≤ 0 * 256 + x ∧ 0 * 256 + x ≤ 1000000
    omega
  | [x, y], h, _ =>
    have hx : 0 ≤ x ∧ x < 256 := h x (by simp)
    have hy : 0 ≤ y ∧ y < 256 := h y (by simp)
    show -1000000 ≤ (0 * 256 + x) * 256 + y ∧ (0 * 256 + x) * 256 + y ≤ 1000000
    omega
  | _ :: _ :: _ :: _, _, hl => simp at hl
def T164_3 : Bool × List (List Nat × List Nat) := (true, [([], []), ([0], [0]), ([], []), ([2], [2]), ([1, 3], [1, 3]), ([4], [4]), ([5, 4], [5])])
def B164_3 : List Nat := [0, 1, 0, 4, 15, 31, 63]
theorem tab164_3 : rtab .any (opsOf Tryz.f164 3) = T164_3 := by kernel_rfl
theorem bits164_3 : waitsOk T164_3.2 B164_3 = true := by kernel_rfl
theorem get_any (b : List Int) (g0 off0 c : Nat) (w : World) (hr : In .u8 w (some ⟨g0, off0, none⟩) b c) (hl : b.length = 256) (hb : Bytes b) :
    Calls Tryz.prog 164 #[.slice (some ⟨g0, off0, none⟩) 256 c] w fun e w' => ∃ tA tc mA mc, e = .returned (.tuple #[(Root.get b).1.val tA tc mA mc, .int .i64 (Root.get b).2]) ∧ In .i64 w' tA (Root.get b).1.tables tc ∧ In .i64 w' mA (Root.get b).1.maps mc ∧ (∀ x, tA = some x → w.heap.size ≤ x.block) ∧ (∀ x, mA = some x → w.heap.size ≤ x.block) ∧ Below w.heap.size w w' := by
  have hroom := hr.room
  have hc2 : 256 ≤ c := by omega
  have hci : (256 : Int) ≤ (c : Int) := by omega
  have hci2 : (10 : Int) ≤ (c : Int) := by omega
  have hci3 : (250 : Int) ≤ (c : Int) := by omega
  have hcn : ¬ c = 250 := by omega
  have hcn4 : ¬ c = 4 := by omega
  obtain ⟨R, hR⟩ : ∃ R, Root.get b = R := ⟨_, rfl⟩
  rw [hR]
  unfold Root.get at hR
  rw [if_neg (by simpa using hl)] at hR
  have hB0 := (Below.refl w.heap.size w).alloc (Nat.le_refl _) (.cells #[.int .i64 0, .int .i64 0, .int .i64 0, .int .i64 0, .slice none 0 0, .slice none 0 0] 65)
  have row0 := heap_last w (.cells #[.int .i64 0, .int .i64 0, .int .i64 0, .int .i64 0, .slice none 0 0, .slice none 0 0] 65)
  obtain ⟨W0, hW0⟩ : ∃ W, w.alloc (.cells #[.int .i64 0, .int .i64 0, .int .i64 0, .int .i64 0, .slice none 0 0, .slice none 0 0] 65) = W := ⟨_, rfl⟩
  rw [hW0] at hB0 row0
  obtain ⟨br, hbr⟩ : ∃ br, w.heap.size = br := ⟨_, rfl⟩
  rw [hbr] at row0
  have hdr := below_drew (Below.refl W0.heap.size W0)
  have hB1 := hB0.trans (hdr.mono hB0.size)
  have I0 := hr.below hB1
  have hb1 : Bytes ((b.drop 4).take 6) := fun x hx => hb x (List.mem_of_mem_drop (List.mem_of_mem_take hx))
  have hb2 : Bytes (b.drop 250) := fun x hx => hb x (List.mem_of_mem_drop hx)
  have l1 : ((b.drop 4).take 6).length = 6 := by rw [List.length_take, List.length_drop, hl]; rfl
  have l2 : (b.drop 250).length = 6 := by rw [List.length_drop, hl]
  have i1 : In .u8 W0.drew (some ⟨g0, off0 + 4, none⟩) ((b.drop 4).take 6) (c - 4) := (I0.from_ 4 (by omega)).take 6 (c - 4) (by rw [List.length_drop, hl]; omega) (by omega)
  have i2 := I0.from_ 250 (by omega)
  have HEQ0 := bytes_Equal.calls (some ⟨g0, off0 + 4, none⟩) (c - 4) ((b.drop 4).take 6) (some ⟨g0, off0 + 250, none⟩) (c - 250) (b.drop 250) _ W0.drew i1.reads i1.room i2.reads i2.room (equal_eq hb1 hb2)
  rw [l1, l2] at HEQ0
  have H0 := Hide.mk (And.intro hr (And.intro hl hb))
  have ROW0 := Hide.mk row0
  have HB1 := Hide.mk hB1
  have KC : True := trivial
  by_cases h1 : (b.drop 4).take 6 = b.drop 250
  · rw [if_neg (by simpa using h1)] at hR
    rw [decide_eq_true h1] at HEQ0
    have HEQ1 := Hide.mk HEQ0
    have HRR := Hide.mk hR
    clear hr hl hb hroom hR hB0 row0 hdr hB1 I0 hb1 hb2 l1 l2 i1 i2 HEQ0 h1
    go_enter Tryz.func164, Tryz.ntmps164
    go_wp2
    try rw [hW0]
    refine start_ (n := 7) (S := fun w' => True) (ds := []) #[false, false, false, false, false, false, false] (by kernel_rfl) rfl rfl KC (fun hHeld => ?_); refine with_tabW tab164_3 bits164_3 (fun HT_ HW_ => ?_)
    refine pu_ (i := 0) (N := some 15) (v := ?_) (a' := ?_) (bls 7 1) HT_.out rfl rfl (by kernel_rfl) (by rfl) ?_ ?_ ?_
    rotate_left
    · intro w'; go_simp; with_reducible rfl
    rotate_left
    · simp only [Act.put, qT_, q0_, q1_, i64_w, i32_w]; rfl
    refine pu_ (i := 1) (N := some 16) (v := ?_) (a' := ?_) (bls 7 3) HT_.out rfl rfl (by kernel_rfl) (by rfl) ?_ ?_ ?_
    rotate_left
    · intro w'; go_simp; with_reducible rfl
    rotate_left
    · simp only [Act.put, qT_, q0_, q1_, i64_w, i32_w]; rfl
    refine pu_ (i := 2) (N := some 17) (v := ?_) (a' := ?_) (bls 7 7) HT_.out rfl rfl (by kernel_rfl) (by rfl) ?_ ?_ ?_
    rotate_left
    · intro w'; go_simp; with_reducible rfl
    rotate_left
    · simp only [Act.put, qT_, q0_, q1_, i64_w, i32_w]; rfl
    refine pu_ (i := 3) (N := some 18) (v := ?_) (a' := ?_) (bls 7 15) HT_.out rfl rfl (by kernel_rfl) (by rfl) ?_ ?_ ?_
    rotate_left
    · intro w'; go_simp; with_reducible rfl
    rotate_left
    · simp only [Act.put, qT_, q0_, q1_, i64_w, i32_w]; rfl
    refine one_ (i := 4) (N := some 19) (bls 7 31) rfl rfl (one_of HT_.out (by kernel_rfl)) (by decide) (fun K hK => ?_)
    refine goes_ Tryz.func111 (by kernel_rfl) rfl #[.slice (some ⟨g0, off0 + 4, none⟩) 6 (c - 4), .slice (some ⟨g0, off0 + 250, none⟩) 6 (c - 250)] (by rfl) rfl rfl (by (try simp only [List.map_toArray, List.map_cons, List.map_nil]); first | done | rfl) ?_
    with_reducible refine HEQ1.out.mono ?_
    rintro e w1 ⟨rfl, hd⟩
    refine ⟨_, rfl, ?_⟩
    have B1 := Hide.mk hd.below
    have KC1 : True := trivial
    clear hd
    refine hK.out _ _ KC1 (fun hHeld => ?_)
    clear hK K
    refine norm_ (a' := ?_) ?_ ?_
    rotate_left
    · show Act.put _ (some 19) _ = _; simp only [Act.put, qT_, q0_, q1_, i64_w, i32_w]; rfl
    refine pu_ (i := 5) (N := some 20) (v := ?_) (a' := ?_) (bls 7 63) HT_.out rfl rfl (by kernel_rfl) (by rfl) ?_ ?_ ?_
    rotate_left
    · intro w'; go_simp; with_reducible rfl
    rotate_left
    · simp only [Act.put, qT_, q0_, q1_, i64_w, i32_w]; rfl
    refine pu_ (i := 6) (N := some 14) (v := ?_) (a' := ?_) (bls 7 127) HT_.out rfl rfl (by kernel_rfl) (by rfl) ?_ ?_ ?_
    rotate_left
    · intro w'; go_simp; with_reducible rfl
    rotate_left
    · simp only [Act.put, qT_, q0_, q1_, i64_w, i32_w]; rfl
    refine done_ (done_of HT_.out (by kernel_rfl)) ?_
    clear KC KC1 hHeld
    have BW := Hide.mk (HB1.out.trans (B1.out.mono HB1.out.size))
    have ROW1 := Hide.mk ((B1.out.block br (lt_of_row (show W0.drew.heap[br]? = _ from ROW0.out))).trans (show W0.drew.heap[br]? = _ from ROW0.out))
    have HLT : Hide ((b.take 250).length = 250 ∧ Bytes (b.take 250)) := ⟨by rw [List.length_take, H0.out.2.1]; rfl, fun x hx => H0.out.2.2 x (List.mem_of_mem_take hx)⟩
    have i250 : In .u8 w1 (some ⟨g0, off0, none⟩) (b.take 250) c := (H0.out.1.below BW.out).take 250 c (by rw [H0.out.2.1]; omega) (by omega)
    have HSO0 := sum_Open.calls 2 (some ⟨g0, off0, none⟩) c (b.take 250) _ _ w1 i250.reads i250.room (sumopen_250 HLT.out.2 HLT.out.1 |>.trans (by rw [show tailL ((b.take 250).take 246) = tailL (b.take 246) by rw [List.take_take]; rfl]))
    rw [HLT.out.1] at HSO0
    have HBR := Hide.mk hbr
    clear i250 hbr
    by_cases h2 : tailL (b.take 246) = (b.take 250).drop 246
    · rw [if_pos h2] at HSO0
      have HSO := Hide.mk HSO0
      have hR := HRR.out
      rw [if_neg (by simpa using h2)] at hR
      obtain ⟨r, hr⟩ : ∃ r, Root.read b = r := ⟨_, rfl⟩
      have HRr := Hide.mk hr
      have HSM : Hide ((r.tables.length + r.maps.length ≤ 10000) ∧ (-1000000 ≤ r.blocks ∧ r.blocks ≤ 1000000)) := ⟨by rw [← hr]; exact ⟨read_small b, read_blocks b H0.out.2.2⟩⟩
      rw [hr] at hR
      by_cases h3 : r.check = 0
      · have HCK := Hide.mk h3
        have hR3 := hR
        rw [if_neg (by simpa using h3)] at hR3
        by_cases h4 : r.bytes = b
        · rw [if_neg (by simpa using h4)] at hR3
          have HR2 := Hide.mk hR3
          have HDEC : Hide (decide (b = r.bytes) = true) := ⟨decide_eq_true h4.symm⟩
          clear hR3 hR hr h2 h3 h4 HSO0
          go_wp2_with (first
        | (go_at_call 160; refine HSO.out.mono ?_; rintro e w2 ⟨v2, rfl, _, hb2⟩
           have B2 := Hide.mk (BW.out.trans (hb2.mono BW.out.size))
           have ROW2 := Hide.mk ((hb2.block br (lt_of_row ROW1.out)).trans ROW1.out)
           have HRD0 := rootread_any b g0 off0 c w2 (H0.out.1.below B2.out) H0.out.2.1 H0.out.2.2
           rw [HRr.out] at HRD0
           unfold Root.val at HRD0
           have HRD := Hide.mk HRD0
           clear hb2 HRD0)
        | (go_at_call 202; have _t := HRD.out; refine HRD.out.mono ?_; rintro e w3 ⟨tA, tc, mA, mc, rfl, hT, hM, hgT, hgM, hb3⟩
           have B3 := Hide.mk (B2.out.trans (hb3.mono B2.out.size))
           have ROW3 := Hide.mk ((hb3.block br (lt_of_row ROW2.out)).trans ROW2.out)
           have HG3 := Hide.mk (show (∀ a, tA = some a → a.block ≠ br) ∧ (∀ a, mA = some a → a.block ≠ br) from ⟨fun a ha e => by have := hgT a ha; have := lt_of_row ROW2.out; omega, fun a ha e => by have := hgM a ha; have := lt_of_row ROW2.out; omega⟩)
           have HG4 := Hide.mk (show (∀ a, tA = some a → w.heap.size ≤ a.block) ∧ (∀ a, mA = some a → w.heap.size ≤ a.block) from ⟨fun a ha => Nat.le_trans B2.out.size (hgT a ha), fun a ha => Nat.le_trans B2.out.size (hgM a ha)⟩)
           have IT3 := Hide.mk hT
           have IM3 := Hide.mk hM
           clear hgT hgM hT hM hb3 HRD _t)
        | (go_at_call 95
           obtain ⟨W3, hW3⟩ : ∃ W, w3.alloc (.cells #[.int .i64 r.epoch, .int .i64 r.blocks, .int .i64 r.next, .int .i64 r.start, .slice tA r.tables.length tc, .slice mA r.maps.length mc] 65) = W := ⟨_, rfl⟩
           rw [hW3]
           have hal := (Below.refl w3.heap.size w3).alloc (Nat.le_refl _) (.cells #[.int .i64 r.epoch, .int .i64 r.blocks, .int .i64 r.next, .int .i64 r.start, .slice tA r.tables.length tc, .slice mA r.maps.length mc] 65)
           have rowv := heap_last w3 (.cells #[.int .i64 r.epoch, .int .i64 r.blocks, .int .i64 r.next, .int .i64 r.start, .slice tA r.tables.length tc, .slice mA r.maps.length mc] 65)
           rw [hW3] at hal rowv
           have BA := Hide.mk hal
           have IT := Hide.mk (IT3.out.below hal)
           have IM := Hide.mk (IM3.out.below hal)
           clear hal hW3
           have HP0 := put_ok r tc mc tA mA W3 IT.out IM.out HCK.out
           unfold Root.val at HP0
           refine HP0.mono ?_; rintro e w4 ⟨v4, rfl, ho, hb4⟩
           have B4 := Hide.mk ((B3.out.trans (BA.out.mono B3.out.size)).trans (hb4.mono (Nat.le_trans B3.out.size BA.out.size)))
           have ROW4 := Hide.mk ((hb4.block br (Nat.lt_of_lt_of_le (lt_of_row ROW3.out) BA.out.size)).trans ((BA.out.block br (lt_of_row ROW3.out)).trans ROW3.out))
           have ROWV4 := Hide.mk ((hb4.block w3.heap.size (lt_of_row rowv)).trans rowv)
           obtain ⟨A4, c4, hv4, hi4, _⟩ := In.of_own ho
           have HEQ4 := bytes_Equal.calls (some ⟨g0, off0, none⟩) c b A4 c4 r.bytes _ w4 (H0.out.1.below B4.out).reads (H0.out.1.below B4.out).room hi4.reads hi4.room (equal_eq H0.out.2.2 (bytes_bytes HCK.out))
           obtain ⟨n4, hn4⟩ : ∃ n, r.bytes.length = n := ⟨_, rfl⟩
           rw [HDEC.out, H0.out.2.1, hn4] at HEQ4
           rw [hn4] at hv4
           subst hv4
           have HEQ5 := Hide.mk HEQ4
           have IT4 := Hide.mk (IT.out.below hb4)
           have IM4 := Hide.mk (IM.out.below hb4)
           clear ho hb4 HP0 rowv hi4 hn4 HEQ4)
        | (go_at_call 111; with_reducible refine HEQ5.out.mono ?_; rintro e w5 ⟨rfl, hd⟩
           have B5 := Hide.mk (B4.out.trans (hd.below.mono B4.out.size))
           have ROW5 := Hide.mk ((hd.below.block br (lt_of_row ROW4.out)).trans ROW4.out)
           have ROWV5 := Hide.mk ((hd.below.block w3.heap.size (lt_of_row ROWV4.out)).trans ROWV4.out)
           have IT5 := Hide.mk (IT4.out.below hd.below)
           have IM5 := Hide.mk (IM4.out.below hd.below)
           clear hd)
        | (refine load_root rfl _ rfl w3.heap.size #[.int .i64 r.epoch, .int .i64 r.blocks, .int .i64 r.next, .int .i64 r.start, .slice tA r.tables.length tc, .slice mA r.maps.length mc] rfl ROWV5.out rfl ?_)
        | (refine store_root rfl _ _ rfl br #[.int .i64 0, .int .i64 0, .int .i64 0, .int .i64 0, .slice none 0 0, .slice none 0 0] #[.int .i64 r.epoch, .int .i64 r.blocks, .int .i64 r.next, .int .i64 r.start, .slice tA r.tables.length tc, .slice mA r.maps.length mc] rfl rfl ROW5.out rfl rfl (by simp [Value.oneCell']) ?_; intro w9 row9 hg9 hz9; have ROW9 := Hide.mk row9; have G9 := Hide.mk hg9; clear row9 hg9 hz9))
          (try simp only [Exit.inBlock, Exit.then])
          refine bodyPost_ret (results_rootE rfl _ _ br #[.int .i64 r.epoch, .int .i64 r.blocks, .int .i64 r.next, .int .i64 r.start, .slice tA r.tables.length tc, .slice mA r.maps.length mc] rfl ROW9.out rfl) rfl ?_
          rw [← HR2.out]
          have j1 := IT5.out.moves (Moves.of_grown G9.out) (fun a ha hx => by have := HG3.out.1 a ha; simp at hx; exact this hx)
          have j2 := IM5.out.moves (Moves.of_grown G9.out) (fun a ha hx => by have := HG3.out.2 a ha; simp at hx; exact this hx)
          exact ⟨tA, tc, mA, mc, rfl, j1, j2, HG4.out.1, HG4.out.2, B5.out.grown G9.out B5.out.size (fun k hk => by cases hk; rw [← HBR.out]; exact Nat.le_refl _)⟩
        · rw [if_pos (by simpa using h4)] at hR3
          have HR2 := Hide.mk hR3
          have HDEC : Hide (decide (b = r.bytes) = false) := ⟨decide_eq_false (fun e => h4 e.symm)⟩
          clear hR3 hR hr h2 h3 h4 HSO0
          go_wp2_with (first
        | (go_at_call 160; refine HSO.out.mono ?_; rintro e w2 ⟨v2, rfl, _, hb2⟩
           have B2 := Hide.mk (BW.out.trans (hb2.mono BW.out.size))
           have ROW2 := Hide.mk ((hb2.block br (lt_of_row ROW1.out)).trans ROW1.out)
           have HRD0 := rootread_any b g0 off0 c w2 (H0.out.1.below B2.out) H0.out.2.1 H0.out.2.2
           rw [HRr.out] at HRD0
           unfold Root.val at HRD0
           have HRD := Hide.mk HRD0
           clear hb2 HRD0)
        | (go_at_call 202; have _t := HRD.out; refine HRD.out.mono ?_; rintro e w3 ⟨tA, tc, mA, mc, rfl, hT, hM, hgT, hgM, hb3⟩
           have B3 := Hide.mk (B2.out.trans (hb3.mono B2.out.size))
           have ROW3 := Hide.mk ((hb3.block br (lt_of_row ROW2.out)).trans ROW2.out)
           have HG3 := Hide.mk (show (∀ a, tA = some a → a.block ≠ br) ∧ (∀ a, mA = some a → a.block ≠ br) from ⟨fun a ha e => by have := hgT a ha; have := lt_of_row ROW2.out; omega, fun a ha e => by have := hgM a ha; have := lt_of_row ROW2.out; omega⟩)
           have HG4 := Hide.mk (show (∀ a, tA = some a → w.heap.size ≤ a.block) ∧ (∀ a, mA = some a → w.heap.size ≤ a.block) from ⟨fun a ha => Nat.le_trans B2.out.size (hgT a ha), fun a ha => Nat.le_trans B2.out.size (hgM a ha)⟩)
           have IT3 := Hide.mk hT
           have IM3 := Hide.mk hM
           clear hgT hgM hT hM hb3 HRD _t)
        | (go_at_call 95
           obtain ⟨W3, hW3⟩ : ∃ W, w3.alloc (.cells #[.int .i64 r.epoch, .int .i64 r.blocks, .int .i64 r.next, .int .i64 r.start, .slice tA r.tables.length tc, .slice mA r.maps.length mc] 65) = W := ⟨_, rfl⟩
           rw [hW3]
           have hal := (Below.refl w3.heap.size w3).alloc (Nat.le_refl _) (.cells #[.int .i64 r.epoch, .int .i64 r.blocks, .int .i64 r.next, .int .i64 r.start, .slice tA r.tables.length tc, .slice mA r.maps.length mc] 65)
           have rowv := heap_last w3 (.cells #[.int .i64 r.epoch, .int .i64 r.blocks, .int .i64 r.next, .int .i64 r.start, .slice tA r.tables.length tc, .slice mA r.maps.length mc] 65)
           rw [hW3] at hal rowv
           have BA := Hide.mk hal
           have IT := Hide.mk (IT3.out.below hal)
           have IM := Hide.mk (IM3.out.below hal)
           clear hal hW3
           have HP0 := put_ok r tc mc tA mA W3 IT.out IM.out HCK.out
           unfold Root.val at HP0
           refine HP0.mono ?_; rintro e w4 ⟨v4, rfl, ho, hb4⟩
           have B4 := Hide.mk ((B3.out.trans (BA.out.mono B3.out.size)).trans (hb4.mono (Nat.le_trans B3.out.size BA.out.size)))
           have ROW4 := Hide.mk ((hb4.block br (Nat.lt_of_lt_of_le (lt_of_row ROW3.out) BA.out.size)).trans ((BA.out.block br (lt_of_row ROW3.out)).trans ROW3.out))
           have ROWV4 := Hide.mk ((hb4.block w3.heap.size (lt_of_row rowv)).trans rowv)
           obtain ⟨A4, c4, hv4, hi4, _⟩ := In.of_own ho
           have HEQ4 := bytes_Equal.calls (some ⟨g0, off0, none⟩) c b A4 c4 r.bytes _ w4 (H0.out.1.below B4.out).reads (H0.out.1.below B4.out).room hi4.reads hi4.room (equal_eq H0.out.2.2 (bytes_bytes HCK.out))
           obtain ⟨n4, hn4⟩ : ∃ n, r.bytes.length = n := ⟨_, rfl⟩
           rw [HDEC.out, H0.out.2.1, hn4] at HEQ4
           rw [hn4] at hv4
           subst hv4
           have HEQ5 := Hide.mk HEQ4
           have IT4 := Hide.mk (IT.out.below hb4)
           have IM4 := Hide.mk (IM.out.below hb4)
           clear ho hb4 HP0 rowv hi4 hn4 HEQ4)
        | (go_at_call 111; with_reducible refine HEQ5.out.mono ?_; rintro e w5 ⟨rfl, hd⟩
           have B5 := Hide.mk (B4.out.trans (hd.below.mono B4.out.size))
           have ROW5 := Hide.mk ((hd.below.block br (lt_of_row ROW4.out)).trans ROW4.out)
           have ROWV5 := Hide.mk ((hd.below.block w3.heap.size (lt_of_row ROWV4.out)).trans ROWV4.out)
           have IT5 := Hide.mk (IT4.out.below hd.below)
           have IM5 := Hide.mk (IM4.out.below hd.below)
           clear hd)
        | (refine store_root rfl _ _ rfl br #[.int .i64 0, .int .i64 0, .int .i64 0, .int .i64 0, .slice none 0 0, .slice none 0 0] #[.int .i64 0, .int .i64 0, .int .i64 0, .int .i64 0, .slice none 0 0, .slice none 0 0] rfl rfl ROW5.out rfl rfl (by simp [Value.oneCell']) ?_; intro w9 row9 hg9 hz9; have ROW9 := Hide.mk row9; have G9 := Hide.mk hg9; clear row9 hg9 hz9))
          (try simp only [Exit.inBlock, Exit.then])
          refine bodyPost_ret (results_rootE rfl _ _ br #[.int .i64 0, .int .i64 0, .int .i64 0, .int .i64 0, .slice none 0 0, .slice none 0 0] rfl ROW9.out rfl) rfl ?_
          rw [← HR2.out]
          exact ⟨none, 0, none, 0, rfl, In.nil _ _, In.nil _ _, (fun x hx => by cases hx), (fun x hx => by cases hx), B5.out.grown G9.out B5.out.size (fun k hk => by cases hk; rw [← HBR.out]; exact Nat.le_refl _)⟩
      · rw [if_pos h3] at hR
        have HR2 := Hide.mk hR
        have HCK := Hide.mk h3
        obtain ⟨ck, hck⟩ : ∃ x, r.check = x := ⟨_, rfl⟩
        have q : (ck != 0) = true := by rw [← hck]; simp [h3]
        have HCE := Hide.mk hck
        clear hR hr h2 h3 hck HSO0
        go_wp2_with (first
        | (go_at_call 160; refine HSO.out.mono ?_; rintro e w2 ⟨v2, rfl, _, hb2⟩
           have B2 := Hide.mk (BW.out.trans (hb2.mono BW.out.size))
           have ROW2 := Hide.mk ((hb2.block br (lt_of_row ROW1.out)).trans ROW1.out)
           have HRD0 := rootread_any b g0 off0 c w2 (H0.out.1.below B2.out) H0.out.2.1 H0.out.2.2
           rw [HRr.out] at HRD0
           unfold Root.val at HRD0
           have HRD := Hide.mk HRD0
           clear hb2 HRD0)
        | (go_at_call 202; have _t := HRD.out; refine HRD.out.mono ?_; rintro e w3 ⟨tA, tc, mA, mc, rfl, hT, hM, _, _, hb3⟩
           have B3 := Hide.mk (B2.out.trans (hb3.mono B2.out.size))
           have ROW3 := Hide.mk ((hb3.block br (lt_of_row ROW2.out)).trans ROW2.out)
           have IT3 := Hide.mk hT
           have IM3 := Hide.mk hM
           clear hT hM hb3 HRD _t)
        | (go_at_call 95
           obtain ⟨W3, hW3⟩ : ∃ W, w3.alloc (.cells #[.int .i64 r.epoch, .int .i64 r.blocks, .int .i64 r.next, .int .i64 r.start, .slice tA r.tables.length tc, .slice mA r.maps.length mc] 65) = W := ⟨_, rfl⟩
           rw [hW3]
           have hal := (Below.refl w3.heap.size w3).alloc (Nat.le_refl _) (.cells #[.int .i64 r.epoch, .int .i64 r.blocks, .int .i64 r.next, .int .i64 r.start, .slice tA r.tables.length tc, .slice mA r.maps.length mc] 65)
           have rowv := heap_last w3 (.cells #[.int .i64 r.epoch, .int .i64 r.blocks, .int .i64 r.next, .int .i64 r.start, .slice tA r.tables.length tc, .slice mA r.maps.length mc] 65)
           rw [hW3] at hal rowv
           have BA := Hide.mk hal
           have IT := Hide.mk (IT3.out.below hal)
           have IM := Hide.mk (IM3.out.below hal)
           clear hal hW3
           have HP0 := put_bad r tc mc tA mA W3 IT.out IM.out HSM.out.1 HSM.out.2 HCK.out
           unfold Root.val at HP0
           rw [HCE.out] at HP0
           refine HP0.mono ?_; rintro e w4 ⟨rfl, hb4⟩
           have B4 := Hide.mk ((B3.out.trans (BA.out.mono B3.out.size)).trans (hb4.mono (Nat.le_trans B3.out.size BA.out.size)))
           have ROW4 := Hide.mk ((hb4.block br (Nat.lt_of_lt_of_le (lt_of_row ROW3.out) BA.out.size)).trans ((BA.out.block br (lt_of_row ROW3.out)).trans ROW3.out))
           clear hb4 HP0 rowv)
        | (refine store_root rfl _ _ rfl br #[.int .i64 0, .int .i64 0, .int .i64 0, .int .i64 0, .slice none 0 0, .slice none 0 0] #[.int .i64 0, .int .i64 0, .int .i64 0, .int .i64 0, .slice none 0 0, .slice none 0 0] rfl rfl ROW4.out rfl rfl (by simp [Value.oneCell']) ?_; intro w9 row9 hg9 hz9; have ROW9 := Hide.mk row9; have G9 := Hide.mk hg9; clear row9 hg9 hz9))
        (try simp only [Exit.inBlock, Exit.then])
        refine bodyPost_ret (results_rootE rfl _ _ br #[.int .i64 0, .int .i64 0, .int .i64 0, .int .i64 0, .slice none 0 0, .slice none 0 0] rfl ROW9.out rfl) rfl ?_
        rw [← HR2.out]
        exact ⟨none, 0, none, 0, rfl, In.nil _ _, In.nil _ _, (fun x hx => by cases hx), (fun x hx => by cases hx), B4.out.grown G9.out B4.out.size (fun k hk => by cases hk; rw [← HBR.out]; exact Nat.le_refl _)⟩
    · rw [if_neg h2] at HSO0
      have HSO := Hide.mk HSO0
      have hR := HRR.out
      rw [if_pos (by simpa using h2)] at hR
      have HR2 := Hide.mk hR
      clear hR h2 HSO0
      go_wp2_with (first
        | (go_at_call 160; refine HSO.out.mono ?_; rintro e w2 ⟨v2, rfl, _, hb2⟩
           have B2 := Hide.mk (BW.out.trans (hb2.mono BW.out.size))
           have ROW2 := Hide.mk ((hb2.block br (lt_of_row ROW1.out)).trans ROW1.out)
           clear hb2)
        | (refine store_root rfl _ _ rfl br #[.int .i64 0, .int .i64 0, .int .i64 0, .int .i64 0, .slice none 0 0, .slice none 0 0] #[.int .i64 0, .int .i64 0, .int .i64 0, .int .i64 0, .slice none 0 0, .slice none 0 0] rfl rfl ROW2.out rfl rfl (by simp [Value.oneCell']) ?_; intro w9 row9 hg9 hz9; have ROW9 := Hide.mk row9; have G9 := Hide.mk hg9; clear row9 hg9 hz9))
      (try simp only [Exit.inBlock, Exit.then])
      refine bodyPost_ret (results_rootE rfl _ _ br #[.int .i64 0, .int .i64 0, .int .i64 0, .int .i64 0, .slice none 0 0, .slice none 0 0] rfl ROW9.out rfl) rfl ?_
      rw [← HR2.out]
      exact ⟨none, 0, none, 0, rfl, In.nil _ _, In.nil _ _, (fun x hx => by cases hx), (fun x hx => by cases hx), B2.out.grown G9.out B2.out.size (fun k hk => by cases hk; rw [← HBR.out]; exact Nat.le_refl _)⟩
  · rw [if_pos (by simpa using h1)] at hR
    rw [decide_eq_false h1] at HEQ0
    have HEQ1 := Hide.mk HEQ0
    have HR2 := Hide.mk hR
    clear hr hl hb hroom hR hB0 row0 hdr hB1 I0 hb1 hb2 l1 l2 i1 i2 HEQ0 h1
    go_enter Tryz.func164, Tryz.ntmps164
    go_wp2
    try rw [hW0]
    refine start_ (n := 7) (S := fun w' => True) (ds := []) #[false, false, false, false, false, false, false] (by kernel_rfl) rfl rfl KC (fun hHeld => ?_); refine with_tabW tab164_3 bits164_3 (fun HT_ HW_ => ?_)
    refine pu_ (i := 0) (N := some 15) (v := ?_) (a' := ?_) (bls 7 1) HT_.out rfl rfl (by kernel_rfl) (by rfl) ?_ ?_ ?_
    rotate_left
    · intro w'; go_simp; with_reducible rfl
    rotate_left
    · simp only [Act.put, qT_, q0_, q1_, i64_w, i32_w]; rfl
    refine pu_ (i := 1) (N := some 16) (v := ?_) (a' := ?_) (bls 7 3) HT_.out rfl rfl (by kernel_rfl) (by rfl) ?_ ?_ ?_
    rotate_left
    · intro w'; go_simp; with_reducible rfl
    rotate_left
    · simp only [Act.put, qT_, q0_, q1_, i64_w, i32_w]; rfl
    refine pu_ (i := 2) (N := some 17) (v := ?_) (a' := ?_) (bls 7 7) HT_.out rfl rfl (by kernel_rfl) (by rfl) ?_ ?_ ?_
    rotate_left
    · intro w'; go_simp; with_reducible rfl
    rotate_left
    · simp only [Act.put, qT_, q0_, q1_, i64_w, i32_w]; rfl
    refine pu_ (i := 3) (N := some 18) (v := ?_) (a' := ?_) (bls 7 15) HT_.out rfl rfl (by kernel_rfl) (by rfl) ?_ ?_ ?_
    rotate_left
    · intro w'; go_simp; with_reducible rfl
    rotate_left
    · simp only [Act.put, qT_, q0_, q1_, i64_w, i32_w]; rfl
    refine one_ (i := 4) (N := some 19) (bls 7 31) rfl rfl (one_of HT_.out (by kernel_rfl)) (by decide) (fun K hK => ?_)
    refine goes_ Tryz.func111 (by kernel_rfl) rfl #[.slice (some ⟨g0, off0 + 4, none⟩) 6 (c - 4), .slice (some ⟨g0, off0 + 250, none⟩) 6 (c - 250)] (by rfl) rfl rfl (by (try simp only [List.map_toArray, List.map_cons, List.map_nil]); first | done | rfl) ?_
    with_reducible refine HEQ1.out.mono ?_
    rintro e w1 ⟨rfl, hd⟩
    refine ⟨_, rfl, ?_⟩
    have B1 := Hide.mk hd.below
    have KC1 : True := trivial
    clear hd
    refine hK.out _ _ KC1 (fun hHeld => ?_)
    clear hK K
    refine norm_ (a' := ?_) ?_ ?_
    rotate_left
    · show Act.put _ (some 19) _ = _; simp only [Act.put, qT_, q0_, q1_, i64_w, i32_w]; rfl
    refine pu_ (i := 5) (N := some 20) (v := ?_) (a' := ?_) (bls 7 63) HT_.out rfl rfl (by kernel_rfl) (by rfl) ?_ ?_ ?_
    rotate_left
    · intro w'; go_simp; with_reducible rfl
    rotate_left
    · simp only [Act.put, qT_, q0_, q1_, i64_w, i32_w]; rfl
    refine pu_ (i := 6) (N := some 14) (v := ?_) (a' := ?_) (bls 7 127) HT_.out rfl rfl (by kernel_rfl) (by rfl) ?_ ?_ ?_
    rotate_left
    · intro w'; go_simp; with_reducible rfl
    rotate_left
    · simp only [Act.put, qT_, q0_, q1_, i64_w, i32_w]; rfl
    refine done_ (done_of HT_.out (by kernel_rfl)) ?_
    clear KC KC1 hHeld
    have BW := Hide.mk (HB1.out.trans (B1.out.mono HB1.out.size))
    have ROW1 := Hide.mk ((B1.out.block br (lt_of_row (show W0.drew.heap[br]? = _ from ROW0.out))).trans (show W0.drew.heap[br]? = _ from ROW0.out))
    have HBR := Hide.mk hbr
    clear hbr
    go_wp2_with (first
      | (refine store_root rfl _ _ rfl br #[.int .i64 0, .int .i64 0, .int .i64 0, .int .i64 0, .slice none 0 0, .slice none 0 0] #[.int .i64 0, .int .i64 0, .int .i64 0, .int .i64 0, .slice none 0 0, .slice none 0 0] rfl rfl ROW1.out rfl rfl (by simp [Value.oneCell']) ?_; intro w9 row9 hg9 hz9; have ROW9 := Hide.mk row9; have G9 := Hide.mk hg9; clear row9 hg9 hz9))
    (try simp only [Exit.inBlock, Exit.then])
    refine bodyPost_ret (results_rootE rfl _ _ br #[.int .i64 0, .int .i64 0, .int .i64 0, .int .i64 0, .slice none 0 0, .slice none 0 0] rfl ROW9.out rfl) rfl ?_
    rw [← HR2.out]
    exact ⟨none, 0, none, 0, rfl, In.nil _ _, In.nil _ _, (fun x hx => by cases hx), (fun x hx => by cases hx), BW.out.grown G9.out BW.out.size (fun k hk => by cases hk; rw [← HBR.out]; exact Nat.le_refl _)⟩
end Go.Proofs.YtgmkbcoahilkhaaGreat.Sh
end
section
namespace Go.Proofs.YtgmkbcoahilkhaaGreat.Sh
open Go.RowKit YtgmkbcoahilkhaaGreatW.PrintWords YtgmkbcoahilkhaaGreatW.PrintLast YtgmkbcoahilkhaaGreatW.PrintMore MapFn Disk Bitset Page PShadowPlays Num
set_option maxHeartbeats 8000000
set_option maxRecDepth 100000
def bestOf (a b : List Int) : Nat → Root × Int
  | 0 => (⟨-1, 0, 0, 0, [], []⟩, -1)
  | 1 => Root.better (⟨-1, 0, 0, 0, [], []⟩, -1) 0 a
  | _ => Root.better (Root.better (⟨-1, 0, 0, 0, [], []⟩, -1) 0 a) 1 b
theorem size22 (h : 22 < Tryz.prog.types.size) : (Tryz.prog.types[22]'h).size = 1 := by kernel_rfl
theorem index2 {w : World} {ops : Array Oper} {rest : List Oper} {o : Oper} {a : Act} {Q : Exit → Act → World → Prop} (hg : o.guard = none) (x y : Operand) (hop : o.op = Op.index 196 x y) (i : Int) (A0 A1 : Option Addr) (n0 c0 n1 c1 : Nat) (hx : a.eval x = .agg #[.slice A0 n0 c0, .slice A1 n1 c1]) (hy : a.eval y = .int .i64 i) (v : Value) (hi : (i = 0 ∧ v = .slice A0 n0 c0) ∨ (i = 1 ∧ v = .slice A1 n1 c1))
    (hK : wpList Tryz.prog ops Q rest (a.put o.dst v) w) : wpList Tryz.prog ops Q (o :: rest) a w := by
  refine wpList_plain hg fun K' hK' => ?_
  have hrun : (execOp a.eval o).run Tryz.prog w = .ok (.value v) w := by
    rcases hi with ⟨rfl, rfl⟩ | ⟨rfl, rfl⟩ <;> (simp only [execOp, hop, hx, hy]; rfl)
  unfold Oper.wp
  rw [hrun]
  exact hK' _ _ hK
theorem results_rootEE {fn : Func} {p u v : Tmp} (h : fn.results = #[.cell p 65, .tmp u, .tmp v]) (tmps : Array Value) (w : World) (g : Nat) (cs : Array Value)
    (hp : tmps.getD p undef = .pointer (some ⟨g, 0, none⟩)) (hg : w.heap[g]? = some (.cells cs 65 (0, 0))) (hs : cs.size = 6) :
    (results fn tmps).run Tryz.prog w = .ok (.tuple #[.agg cs, tmps.getD u undef, tmps.getD v undef]) w := by
  have hp' : tmps[p]?.getD undef = .pointer (some ⟨g, 0, none⟩) := by simpa using hp
  simp [results, h, hp', asAddr, run_loadVar_row w g 65 65 cs (0, 0) _ hg Tryz.underlying65 rfl (by rw [infoR, hs])]
theorem get_epoch {b : List Int} {q : Root} (h : Root.get b = (q, 0)) : 0 ≤ q.epoch := by
  unfold Root.get at h
  split at h
  · cases h
  · split at h
    · cases h
    · split at h
      · cases h
      · split at h
        · cases h
        · rename_i hc
          split at h
          · cases h
          · simp only [Prod.mk.injEq, and_true] at h
            rw [← h]
            exact (check_range (by simpa using hc)).1.1
theorem choose_any (a b : List Int) (g1 o1 c1 g2 o2 c2 : Nat) (w : World) (h1 : In .u8 w (some ⟨g1, o1, none⟩) a c1) (h2 : In .u8 w (some ⟨g2, o2, none⟩) b c2) (la : a.length = 256) (lb : b.length = 256) (ba : Bytes a) (bb : Bytes b) :
    Calls Tryz.prog 110 #[.slice (some ⟨g1, o1, none⟩) 256 c1, .slice (some ⟨g2, o2, none⟩) 256 c2] w fun e w' => ∃ tA tc mA mc, e = .returned (.tuple #[(Root.choose a b).1.val tA tc mA mc, .int .i64 (Root.choose a b).2.1, .int .i64 (Root.choose a b).2.2]) ∧ In .i64 w' tA (Root.choose a b).1.tables tc ∧ In .i64 w' mA (Root.choose a b).1.maps mc ∧ ((∀ a, tA = some a → w.heap.size ≤ a.block) ∧ ∀ a, mA = some a → w.heap.size ≤ a.block) ∧ Below w.heap.size w w' := by
  have H := Hide.mk (And.intro h1 (And.intro h2 (And.intro la (And.intro lb (And.intro ba bb)))))
  obtain ⟨R, hR⟩ : ∃ R, Root.choose a b = R := ⟨_, rfl⟩
  rw [hR]
  have HRR := Hide.mk hR
  clear h1 h2 la lb ba bb hR
  go_enter Tryz.func110, Tryz.ntmps110
  go_wp2
  have hB0 : Below w.heap.size w ((w.alloc (.cells #[.int .i64 0, .int .i64 0, .int .i64 0, .int .i64 0, .slice none 0 0, .slice none 0 0] 65)).alloc (.cells #[.int .i64 (-1), .int .i64 0, .int .i64 0, .int .i64 0, .slice none 0 0, .slice none 0 0] 65)) := ((Below.refl _ _).alloc (Nat.le_refl _) _).alloc (by simp) _
  have rowb := heap_last (w.alloc (.cells #[.int .i64 0, .int .i64 0, .int .i64 0, .int .i64 0, .slice none 0 0, .slice none 0 0] 65)) (.cells #[.int .i64 (-1), .int .i64 0, .int .i64 0, .int .i64 0, .slice none 0 0, .slice none 0 0] 65)
  have row0 : ((w.alloc (.cells #[.int .i64 0, .int .i64 0, .int .i64 0, .int .i64 0, .slice none 0 0, .slice none 0 0] 65)).alloc (.cells #[.int .i64 (-1), .int .i64 0, .int .i64 0, .int .i64 0, .slice none 0 0, .slice none 0 0] 65)).heap[w.heap.size]? = some (.cells #[.int .i64 0, .int .i64 0, .int .i64 0, .int .i64 0, .slice none 0 0, .slice none 0 0] 65 (0, 0)) := (((Below.refl (w.heap.size + 1) (w.alloc (.cells #[.int .i64 0, .int .i64 0, .int .i64 0, .int .i64 0, .slice none 0 0, .slice none 0 0] 65))).alloc (by simp) _).block w.heap.size (by omega)).trans (heap_last _ _)
  have hsz : ((w.alloc (.cells #[.int .i64 0, .int .i64 0, .int .i64 0, .int .i64 0, .slice none 0 0, .slice none 0 0] 65)).alloc (.cells #[.int .i64 (-1), .int .i64 0, .int .i64 0, .int .i64 0, .slice none 0 0, .slice none 0 0] 65)).heap.size = w.heap.size + 2 := by simp
  rw [show (w.alloc (.cells #[.int .i64 0, .int .i64 0, .int .i64 0, .int .i64 0, .slice none 0 0, .slice none 0 0] 65)).heap.size = w.heap.size + 1 by simp] at rowb
  obtain ⟨W0, hW0⟩ : ∃ W, (w.alloc (.cells #[.int .i64 0, .int .i64 0, .int .i64 0, .int .i64 0, .slice none 0 0, .slice none 0 0] 65)).alloc (.cells #[.int .i64 (-1), .int .i64 0, .int .i64 0, .int .i64 0, .slice none 0 0, .slice none 0 0] 65) = W := ⟨_, rfl⟩
  rw [hW0] at hB0 rowb row0 hsz ⊢
  have HB0 := Hide.mk hB0
  have ROWB := Hide.mk rowb
  have ROW0 := Hide.mk row0
  have HSZ := Hide.mk hsz
  clear hB0 rowb row0 hsz hW0
  go_loopw [8, 17] (fun v8 v17 wr => ∃ (i : Nat) (best : Root) (bi : Int) (tA : Option Addr) (tc : Nat) (mA : Option Addr) (mc : Nat), v17 = .int .i64 (i : Int) ∧ v8 = .int .i64 bi ∧ Hide (i ≤ 2) ∧ Hide (bestOf a b i = (best, bi)) ∧ Hide (wr.heap[w.heap.size + 1]? = some (.cells #[.int .i64 best.epoch, .int .i64 best.blocks, .int .i64 best.next, .int .i64 best.start, .slice tA best.tables.length tc, .slice mA best.maps.length mc] 65 (0, 0))) ∧ Hide (wr.heap[w.heap.size]? = some (.cells #[.int .i64 0, .int .i64 0, .int .i64 0, .int .i64 0, .slice none 0 0, .slice none 0 0] 65 (0, 0))) ∧ Hide (In .i64 wr tA best.tables tc) ∧ Hide (In .i64 wr mA best.maps mc) ∧ Hide (∀ x, tA = some x → w.heap.size + 2 ≤ x.block) ∧ Hide (∀ x, mA = some x → w.heap.size + 2 ≤ x.block) ∧ Hide (Below w.heap.size w wr ∧ w.heap.size + 2 ≤ wr.heap.size)) (fun _ v17 _ => 2 - (intOf v17).toNat)
  case atStart => exact ⟨0, ⟨-1, 0, 0, 0, [], []⟩, -1, none, 0, none, 0, by first | rfl | simp, rfl, ⟨by omega⟩, ⟨rfl⟩, ROWB, ROW0, ⟨In.nil _ _⟩, ⟨In.nil _ _⟩, ⟨fun x hx => by cases hx⟩, ⟨fun x hx => by cases hx⟩, ⟨HB0.out, by rw [HSZ.out]; exact Nat.le_refl _⟩⟩
  case round =>
    obtain ⟨i, best, bi, tA, tc, mA, mc, rfl, rfl, hi, hbest, hrow, hz, hT, hM, hgT, hgM, hB⟩ := hrel
    by_cases hlt0 : i < 2
    · have hlt : (i : Int) < 2 := by omega
      rcases (show i = 0 ∨ i = 1 by omega) with rfl | rfl
      · skip
        have HG0 := get_any a g1 o1 c1 wr ((H.out.1).below hB.out.1 |> fun h => h) H.out.2.2.1 H.out.2.2.2.2.1
        obtain ⟨q, E, hq⟩ : ∃ q E, Root.get a = (q, E) := ⟨_, _, rfl⟩
        rw [hq] at HG0
        simp only at HG0
        unfold Root.val at HG0
        have HG := Hide.mk HG0
        have NX : Hide (bestOf a b (0 + 1) = if E = 0 ∧ q.epoch % 2 = 0 ∧ best.epoch < q.epoch then (q, 0) else (best, bi)) := ⟨by
          show Root.better (bestOf a b 0) 0 a = _
          rw [hbest.out]
          unfold Root.better
          rw [hq]⟩
        have HQ : Hide (E = 0 → 0 ≤ q.epoch) := ⟨fun e => get_epoch (by rw [hq, e])⟩
        clear HG0 hq
        by_cases e0 : E = 0
        · subst e0
          have hq0 := HQ.out rfl
          by_cases e1 : q.epoch % 2 = 0
          · by_cases e2 : best.epoch < q.epoch
            · have htm : Int.tmod q.epoch 2 = 0 := by rw [Int.tmod_eq_emod_of_nonneg hq0]; exact e1
              have HE2 := Hide.mk (And.intro e1 e2)
              clear e1
              go_wp2_with (first | (refine index2 rfl _ _ rfl _ _ _ _ _ _ _ rfl rfl _ (by first | exact .inl ⟨rfl, rfl⟩ | exact .inr ⟨rfl, rfl⟩) ?_) | (go_at_call 164; refine HG.out.mono ?_; rintro e w6 ⟨tA2, tc2, mA2, mc2, rfl, hT2, hM2, hgT2, hgM2, hb6⟩; have B6 := Hide.mk hb6; have IT2 := Hide.mk hT2; have IM2 := Hide.mk hM2; have GT2 := Hide.mk hgT2; have GM2 := Hide.mk hgM2; have kq0 := cell_of (i := 0) ((hb6.block _ (lt_of_row hrow.out)).trans hrow.out); simp at kq0; have kq1 : ∀ o, (w6.alloc o).cell? ⟨w.heap.size + 1, 0, none⟩ = some (.int .i64 best.epoch) := fun o => pw_cell_below ((Below.refl w6.heap.size w6).alloc (Nat.le_refl _) o) kq0; have RB6 := Hide.mk ((hb6.block _ (lt_of_row hrow.out)).trans hrow.out); clear hb6 hT2 hM2 hgT2 hgM2) | (refine store_root rfl _ _ rfl (w.heap.size + 1) #[.int .i64 best.epoch, .int .i64 best.blocks, .int .i64 best.next, .int .i64 best.start, .slice tA best.tables.length tc, .slice mA best.maps.length mc] #[.int .i64 q.epoch, .int .i64 q.blocks, .int .i64 q.next, .int .i64 q.start, .slice tA2 q.tables.length tc2, .slice mA2 q.maps.length mc2] rfl rfl ((((Below.refl w6.heap.size w6).alloc (Nat.le_refl _) _).block _ (lt_of_row RB6.out)).trans RB6.out) rfl rfl (by simp [Value.oneCell']) ?_; intro w9 row9 hg9 hz9; have ROW9 := Hide.mk row9; have G9 := Hide.mk hg9; clear row9 hg9 hz9))
              go_roundw
              case rel =>
                have bb := B6.out.trans (((Below.refl w6.heap.size w6).alloc (Nat.le_refl _) (.cells #[.int .i64 q.epoch, .int .i64 q.blocks, .int .i64 q.next, .int .i64 q.start, .slice tA2 q.tables.length tc2, .slice mA2 q.maps.length mc2] 65)).mono B6.out.size)
                have al := (Below.refl w6.heap.size w6).alloc (Nat.le_refl _) (.cells #[.int .i64 q.epoch, .int .i64 q.blocks, .int .i64 q.next, .int .i64 q.start, .slice tA2 q.tables.length tc2, .slice mA2 q.maps.length mc2] 65)
                have s6 := Nat.le_trans hB.out.2 B6.out.size
                exact ⟨0 + 1, q, 0, tA2, tc2, mA2, mc2, by go_num, rfl, ⟨by omega⟩, ⟨by rw [NX.out, if_pos ⟨by trivial, HE2.out.1, HE2.out.2⟩]⟩, ROW9, ⟨(G9.out.block _ (lt_of_row ((bb.block _ (lt_of_row hz.out)).trans hz.out)) (by simp)).trans ((bb.block _ (lt_of_row hz.out)).trans hz.out)⟩,
                  ⟨(IT2.out.below al).moves (Moves.of_grown G9.out) (fun x hx hm => by have := GT2.out x hx; have := hB.out.2; simp at hm; omega)⟩, ⟨(IM2.out.below al).moves (Moves.of_grown G9.out) (fun x hx hm => by have := GM2.out x hx; have := hB.out.2; simp at hm; omega)⟩,
                  ⟨fun x hx => by have := GT2.out x hx; have := hB.out.2; omega⟩, ⟨fun x hx => by have := GM2.out x hx; have := hB.out.2; omega⟩, ⟨(hB.out.1.trans (bb.mono hB.out.1.size)).grown G9.out (Nat.le_trans hB.out.1.size bb.size) (fun k hk => by cases hk; omega), Nat.le_trans (Nat.le_trans hB.out.2 bb.size) G9.out.size⟩⟩
              case measure => simp [intOf]
            · have htm : Int.tmod q.epoch 2 = 0 := by rw [Int.tmod_eq_emod_of_nonneg hq0]; exact e1
              have HE2 := Hide.mk e2
              clear e1
              have hs22 := size22
              go_wp2_with (first | (refine index2 rfl _ _ rfl _ _ _ _ _ _ _ rfl rfl _ (by first | exact .inl ⟨rfl, rfl⟩ | exact .inr ⟨rfl, rfl⟩) ?_) | (go_at_call 164; refine HG.out.mono ?_; rintro e w6 ⟨tA2, tc2, mA2, mc2, rfl, hT2, hM2, hgT2, hgM2, hb6⟩; have B6 := Hide.mk hb6; have IT2 := Hide.mk hT2; have IM2 := Hide.mk hM2; have GT2 := Hide.mk hgT2; have GM2 := Hide.mk hgM2; have kq0 := cell_of (i := 0) ((hb6.block _ (lt_of_row hrow.out)).trans hrow.out); simp at kq0; have kq1 : ∀ o, (w6.alloc o).cell? ⟨w.heap.size + 1, 0, none⟩ = some (.int .i64 best.epoch) := fun o => pw_cell_below ((Below.refl w6.heap.size w6).alloc (Nat.le_refl _) o) kq0; clear hb6 hT2 hM2 hgT2 hgM2))
              go_roundw
              case rel =>
                have bb := B6.out.trans (((Below.refl w6.heap.size w6).alloc (Nat.le_refl _) (.cells #[.int .i64 q.epoch, .int .i64 q.blocks, .int .i64 q.next, .int .i64 q.start, .slice tA2 q.tables.length tc2, .slice mA2 q.maps.length mc2] 65)).mono B6.out.size)
                exact ⟨0 + 1, best, bi, tA, tc, mA, mc, by go_num, rfl, ⟨by omega⟩, ⟨by rw [NX.out, if_neg (fun h => by have := HE2.out; omega)]⟩, ⟨(bb.block _ (lt_of_row hrow.out)).trans hrow.out⟩, ⟨(bb.block _ (lt_of_row hz.out)).trans hz.out⟩, ⟨hT.out.below bb⟩, ⟨hM.out.below bb⟩, hgT, hgM, ⟨hB.out.1.trans (bb.mono hB.out.1.size), Nat.le_trans hB.out.2 bb.size⟩⟩
              case measure => simp [intOf]
          · obtain ⟨x, hx⟩ : ∃ x, q.epoch % 2 = x := ⟨_, rfl⟩
            have htm : Int.tmod q.epoch 2 = x := by rw [Int.tmod_eq_emod_of_nonneg hq0]; exact hx
            have HE1 := Hide.mk e1
            have hxn : ¬ x = 0 := by rw [← hx]; exact e1
            clear e1 hx
            have hs22 := size22
            go_wp2_with (first | (refine index2 rfl _ _ rfl _ _ _ _ _ _ _ rfl rfl _ (by first | exact .inl ⟨rfl, rfl⟩ | exact .inr ⟨rfl, rfl⟩) ?_) | (go_at_call 164; refine HG.out.mono ?_; rintro e w6 ⟨tA2, tc2, mA2, mc2, rfl, hT2, hM2, hgT2, hgM2, hb6⟩; have B6 := Hide.mk hb6; have IT2 := Hide.mk hT2; have IM2 := Hide.mk hM2; have GT2 := Hide.mk hgT2; have GM2 := Hide.mk hgM2; have kq0 := cell_of (i := 0) ((hb6.block _ (lt_of_row hrow.out)).trans hrow.out); simp at kq0; have kq1 : ∀ o, (w6.alloc o).cell? ⟨w.heap.size + 1, 0, none⟩ = some (.int .i64 best.epoch) := fun o => pw_cell_below ((Below.refl w6.heap.size w6).alloc (Nat.le_refl _) o) kq0; clear hb6 hT2 hM2 hgT2 hgM2))
            go_roundw
            case rel =>
              have bb := B6.out.trans (((Below.refl w6.heap.size w6).alloc (Nat.le_refl _) (.cells #[.int .i64 q.epoch, .int .i64 q.blocks, .int .i64 q.next, .int .i64 q.start, .slice tA2 q.tables.length tc2, .slice mA2 q.maps.length mc2] 65)).mono B6.out.size)
              exact ⟨0 + 1, best, bi, tA, tc, mA, mc, by go_num, rfl, ⟨by omega⟩, ⟨by rw [NX.out, if_neg (fun h => HE1.out h.2.1)]⟩, ⟨(bb.block _ (lt_of_row hrow.out)).trans hrow.out⟩, ⟨(bb.block _ (lt_of_row hz.out)).trans hz.out⟩, ⟨hT.out.below bb⟩, ⟨hM.out.below bb⟩, hgT, hgM, ⟨hB.out.1.trans (bb.mono hB.out.1.size), Nat.le_trans hB.out.2 bb.size⟩⟩
            case measure => simp [intOf]
        · have qE : (E == 0) = false := by simp [e0]
          have HE := Hide.mk e0
          clear e0
          have hs22 := size22
          go_wp2_with (first | (refine index2 rfl _ _ rfl _ _ _ _ _ _ _ rfl rfl _ (by first | exact .inl ⟨rfl, rfl⟩ | exact .inr ⟨rfl, rfl⟩) ?_) | (go_at_call 164; refine HG.out.mono ?_; rintro e w6 ⟨tA2, tc2, mA2, mc2, rfl, hT2, hM2, hgT2, hgM2, hb6⟩; have B6 := Hide.mk hb6; have IT2 := Hide.mk hT2; have IM2 := Hide.mk hM2; have GT2 := Hide.mk hgT2; have GM2 := Hide.mk hgM2; have kq0 := cell_of (i := 0) ((hb6.block _ (lt_of_row hrow.out)).trans hrow.out); simp at kq0; have kq1 : ∀ o, (w6.alloc o).cell? ⟨w.heap.size + 1, 0, none⟩ = some (.int .i64 best.epoch) := fun o => pw_cell_below ((Below.refl w6.heap.size w6).alloc (Nat.le_refl _) o) kq0; clear hb6 hT2 hM2 hgT2 hgM2))
          go_roundw
          case rel =>
            have bb := B6.out.trans (((Below.refl w6.heap.size w6).alloc (Nat.le_refl _) (.cells #[.int .i64 q.epoch, .int .i64 q.blocks, .int .i64 q.next, .int .i64 q.start, .slice tA2 q.tables.length tc2, .slice mA2 q.maps.length mc2] 65)).mono B6.out.size)
            exact ⟨0 + 1, best, bi, tA, tc, mA, mc, by go_num, rfl, ⟨by omega⟩, ⟨by rw [NX.out, if_neg (fun h => HE.out h.1)]⟩, ⟨(bb.block _ (lt_of_row hrow.out)).trans hrow.out⟩, ⟨(bb.block _ (lt_of_row hz.out)).trans hz.out⟩, ⟨hT.out.below bb⟩, ⟨hM.out.below bb⟩, hgT, hgM, ⟨hB.out.1.trans (bb.mono hB.out.1.size), Nat.le_trans hB.out.2 bb.size⟩⟩
          case measure => simp [intOf]
      · skip
        have HG0 := get_any b g2 o2 c2 wr ((H.out.2.1).below hB.out.1 |> fun h => h) H.out.2.2.2.1 H.out.2.2.2.2.2
        obtain ⟨q, E, hq⟩ : ∃ q E, Root.get b = (q, E) := ⟨_, _, rfl⟩
        rw [hq] at HG0
        simp only at HG0
        unfold Root.val at HG0
        have HG := Hide.mk HG0
        have NX : Hide (bestOf a b (1 + 1) = if E = 0 ∧ q.epoch % 2 = 1 ∧ best.epoch < q.epoch then (q, 1) else (best, bi)) := ⟨by
          show Root.better (bestOf a b 1) 1 b = _
          rw [hbest.out]
          unfold Root.better
          rw [hq]⟩
        have HQ : Hide (E = 0 → 0 ≤ q.epoch) := ⟨fun e => get_epoch (by rw [hq, e])⟩
        clear HG0 hq
        by_cases e0 : E = 0
        · subst e0
          have hq0 := HQ.out rfl
          by_cases e1 : q.epoch % 2 = 1
          · by_cases e2 : best.epoch < q.epoch
            · have htm : Int.tmod q.epoch 2 = 1 := by rw [Int.tmod_eq_emod_of_nonneg hq0]; exact e1
              have HE2 := Hide.mk (And.intro e1 e2)
              clear e1
              go_wp2_with (first | (refine index2 rfl _ _ rfl _ _ _ _ _ _ _ rfl rfl _ (by first | exact .inl ⟨rfl, rfl⟩ | exact .inr ⟨rfl, rfl⟩) ?_) | (go_at_call 164; refine HG.out.mono ?_; rintro e w6 ⟨tA2, tc2, mA2, mc2, rfl, hT2, hM2, hgT2, hgM2, hb6⟩; have B6 := Hide.mk hb6; have IT2 := Hide.mk hT2; have IM2 := Hide.mk hM2; have GT2 := Hide.mk hgT2; have GM2 := Hide.mk hgM2; have kq0 := cell_of (i := 0) ((hb6.block _ (lt_of_row hrow.out)).trans hrow.out); simp at kq0; have kq1 : ∀ o, (w6.alloc o).cell? ⟨w.heap.size + 1, 0, none⟩ = some (.int .i64 best.epoch) := fun o => pw_cell_below ((Below.refl w6.heap.size w6).alloc (Nat.le_refl _) o) kq0; have RB6 := Hide.mk ((hb6.block _ (lt_of_row hrow.out)).trans hrow.out); clear hb6 hT2 hM2 hgT2 hgM2) | (refine store_root rfl _ _ rfl (w.heap.size + 1) #[.int .i64 best.epoch, .int .i64 best.blocks, .int .i64 best.next, .int .i64 best.start, .slice tA best.tables.length tc, .slice mA best.maps.length mc] #[.int .i64 q.epoch, .int .i64 q.blocks, .int .i64 q.next, .int .i64 q.start, .slice tA2 q.tables.length tc2, .slice mA2 q.maps.length mc2] rfl rfl ((((Below.refl w6.heap.size w6).alloc (Nat.le_refl _) _).block _ (lt_of_row RB6.out)).trans RB6.out) rfl rfl (by simp [Value.oneCell']) ?_; intro w9 row9 hg9 hz9; have ROW9 := Hide.mk row9; have G9 := Hide.mk hg9; clear row9 hg9 hz9))
              go_roundw
              case rel =>
                have bb := B6.out.trans (((Below.refl w6.heap.size w6).alloc (Nat.le_refl _) (.cells #[.int .i64 q.epoch, .int .i64 q.blocks, .int .i64 q.next, .int .i64 q.start, .slice tA2 q.tables.length tc2, .slice mA2 q.maps.length mc2] 65)).mono B6.out.size)
                have al := (Below.refl w6.heap.size w6).alloc (Nat.le_refl _) (.cells #[.int .i64 q.epoch, .int .i64 q.blocks, .int .i64 q.next, .int .i64 q.start, .slice tA2 q.tables.length tc2, .slice mA2 q.maps.length mc2] 65)
                have s6 := Nat.le_trans hB.out.2 B6.out.size
                exact ⟨1 + 1, q, 1, tA2, tc2, mA2, mc2, by go_num, rfl, ⟨by omega⟩, ⟨by rw [NX.out, if_pos ⟨by trivial, HE2.out.1, HE2.out.2⟩]⟩, ROW9, ⟨(G9.out.block _ (lt_of_row ((bb.block _ (lt_of_row hz.out)).trans hz.out)) (by simp)).trans ((bb.block _ (lt_of_row hz.out)).trans hz.out)⟩,
                  ⟨(IT2.out.below al).moves (Moves.of_grown G9.out) (fun x hx hm => by have := GT2.out x hx; have := hB.out.2; simp at hm; omega)⟩, ⟨(IM2.out.below al).moves (Moves.of_grown G9.out) (fun x hx hm => by have := GM2.out x hx; have := hB.out.2; simp at hm; omega)⟩,
                  ⟨fun x hx => by have := GT2.out x hx; have := hB.out.2; omega⟩, ⟨fun x hx => by have := GM2.out x hx; have := hB.out.2; omega⟩, ⟨(hB.out.1.trans (bb.mono hB.out.1.size)).grown G9.out (Nat.le_trans hB.out.1.size bb.size) (fun k hk => by cases hk; omega), Nat.le_trans (Nat.le_trans hB.out.2 bb.size) G9.out.size⟩⟩
              case measure => simp [intOf]
            · have htm : Int.tmod q.epoch 2 = 1 := by rw [Int.tmod_eq_emod_of_nonneg hq0]; exact e1
              have HE2 := Hide.mk e2
              clear e1
              have hs22 := size22
              go_wp2_with (first | (refine index2 rfl _ _ rfl _ _ _ _ _ _ _ rfl rfl _ (by first | exact .inl ⟨rfl, rfl⟩ | exact .inr ⟨rfl, rfl⟩) ?_) | (go_at_call 164; refine HG.out.mono ?_; rintro e w6 ⟨tA2, tc2, mA2, mc2, rfl, hT2, hM2, hgT2, hgM2, hb6⟩; have B6 := Hide.mk hb6; have IT2 := Hide.mk hT2; have IM2 := Hide.mk hM2; have GT2 := Hide.mk hgT2; have GM2 := Hide.mk hgM2; have kq0 := cell_of (i := 0) ((hb6.block _ (lt_of_row hrow.out)).trans hrow.out); simp at kq0; have kq1 : ∀ o, (w6.alloc o).cell? ⟨w.heap.size + 1, 0, none⟩ = some (.int .i64 best.epoch) := fun o => pw_cell_below ((Below.refl w6.heap.size w6).alloc (Nat.le_refl _) o) kq0; clear hb6 hT2 hM2 hgT2 hgM2))
              go_roundw
              case rel =>
                have bb := B6.out.trans (((Below.refl w6.heap.size w6).alloc (Nat.le_refl _) (.cells #[.int .i64 q.epoch, .int .i64 q.blocks, .int .i64 q.next, .int .i64 q.start, .slice tA2 q.tables.length tc2, .slice mA2 q.maps.length mc2] 65)).mono B6.out.size)
                exact ⟨1 + 1, best, bi, tA, tc, mA, mc, by go_num, rfl, ⟨by omega⟩, ⟨by rw [NX.out, if_neg (fun h => by have := HE2.out; omega)]⟩, ⟨(bb.block _ (lt_of_row hrow.out)).trans hrow.out⟩, ⟨(bb.block _ (lt_of_row hz.out)).trans hz.out⟩, ⟨hT.out.below bb⟩, ⟨hM.out.below bb⟩, hgT, hgM, ⟨hB.out.1.trans (bb.mono hB.out.1.size), Nat.le_trans hB.out.2 bb.size⟩⟩
              case measure => simp [intOf]
          · obtain ⟨x, hx⟩ : ∃ x, q.epoch % 2 = x := ⟨_, rfl⟩
            have htm : Int.tmod q.epoch 2 = x := by rw [Int.tmod_eq_emod_of_nonneg hq0]; exact hx
            have HE1 := Hide.mk e1
            have hxn : ¬ x = 1 := by rw [← hx]; exact e1
            clear e1 hx
            have hs22 := size22
            go_wp2_with (first | (refine index2 rfl _ _ rfl _ _ _ _ _ _ _ rfl rfl _ (by first | exact .inl ⟨rfl, rfl⟩ | exact .inr ⟨rfl, rfl⟩) ?_) | (go_at_call 164; refine HG.out.mono ?_; rintro e w6 ⟨tA2, tc2, mA2, mc2, rfl, hT2, hM2, hgT2, hgM2, hb6⟩; have B6 := Hide.mk hb6; have IT2 := Hide.mk hT2; have IM2 := Hide.mk hM2; have GT2 := Hide.mk hgT2; have GM2 := Hide.mk hgM2; have kq0 := cell_of (i := 0) ((hb6.block _ (lt_of_row hrow.out)).trans hrow.out); simp at kq0; have kq1 : ∀ o, (w6.alloc o).cell? ⟨w.heap.size + 1, 0, none⟩ = some (.int .i64 best.epoch) := fun o => pw_cell_below ((Below.refl w6.heap.size w6).alloc (Nat.le_refl _) o) kq0; clear hb6 hT2 hM2 hgT2 hgM2))
            go_roundw
            case rel =>
              have bb := B6.out.trans (((Below.refl w6.heap.size w6).alloc (Nat.le_refl _) (.cells #[.int .i64 q.epoch, .int .i64 q.blocks, .int .i64 q.next, .int .i64 q.start, .slice tA2 q.tables.length tc2, .slice mA2 q.maps.length mc2] 65)).mono B6.out.size)
              exact ⟨1 + 1, best, bi, tA, tc, mA, mc, by go_num, rfl, ⟨by omega⟩, ⟨by rw [NX.out, if_neg (fun h => HE1.out h.2.1)]⟩, ⟨(bb.block _ (lt_of_row hrow.out)).trans hrow.out⟩, ⟨(bb.block _ (lt_of_row hz.out)).trans hz.out⟩, ⟨hT.out.below bb⟩, ⟨hM.out.below bb⟩, hgT, hgM, ⟨hB.out.1.trans (bb.mono hB.out.1.size), Nat.le_trans hB.out.2 bb.size⟩⟩
            case measure => simp [intOf]
        · have qE : (E == 0) = false := by simp [e0]
          have HE := Hide.mk e0
          clear e0
          have hs22 := size22
          go_wp2_with (first | (refine index2 rfl _ _ rfl _ _ _ _ _ _ _ rfl rfl _ (by first | exact .inl ⟨rfl, rfl⟩ | exact .inr ⟨rfl, rfl⟩) ?_) | (go_at_call 164; refine HG.out.mono ?_; rintro e w6 ⟨tA2, tc2, mA2, mc2, rfl, hT2, hM2, hgT2, hgM2, hb6⟩; have B6 := Hide.mk hb6; have IT2 := Hide.mk hT2; have IM2 := Hide.mk hM2; have GT2 := Hide.mk hgT2; have GM2 := Hide.mk hgM2; have kq0 := cell_of (i := 0) ((hb6.block _ (lt_of_row hrow.out)).trans hrow.out); simp at kq0; have kq1 : ∀ o, (w6.alloc o).cell? ⟨w.heap.size + 1, 0, none⟩ = some (.int .i64 best.epoch) := fun o => pw_cell_below ((Below.refl w6.heap.size w6).alloc (Nat.le_refl _) o) kq0; clear hb6 hT2 hM2 hgT2 hgM2))
          go_roundw
          case rel =>
            have bb := B6.out.trans (((Below.refl w6.heap.size w6).alloc (Nat.le_refl _) (.cells #[.int .i64 q.epoch, .int .i64 q.blocks, .int .i64 q.next, .int .i64 q.start, .slice tA2 q.tables.length tc2, .slice mA2 q.maps.length mc2] 65)).mono B6.out.size)
            exact ⟨1 + 1, best, bi, tA, tc, mA, mc, by go_num, rfl, ⟨by omega⟩, ⟨by rw [NX.out, if_neg (fun h => HE.out h.1)]⟩, ⟨(bb.block _ (lt_of_row hrow.out)).trans hrow.out⟩, ⟨(bb.block _ (lt_of_row hz.out)).trans hz.out⟩, ⟨hT.out.below bb⟩, ⟨hM.out.below bb⟩, hgT, hgM, ⟨hB.out.1.trans (bb.mono hB.out.1.size), Nat.le_trans hB.out.2 bb.size⟩⟩
          case measure => simp [intOf]
    · have hlt : ¬ (i : Int) < 2 := by omega
      have h2 : i = 2 := by have := hi.out; omega
      have eR : R = if bi < 0 then (Root.zero, 0, 4) else (best, bi, 0) := by
        have e : Root.choose a b = if (bestOf a b 2).2 < 0 then (Root.zero, 0, 4) else ((bestOf a b 2).1, (bestOf a b 2).2, 0) := rfl
        rw [← HRR.out, e, ← h2, hbest.out]
      clear h2 hlt0
      by_cases hb : bi < 0
      · rw [if_pos hb] at eR
        go_wp2_with (first | (refine store_root rfl _ _ rfl w.heap.size #[.int .i64 0, .int .i64 0, .int .i64 0, .int .i64 0, .slice none 0 0, .slice none 0 0] #[.int .i64 0, .int .i64 0, .int .i64 0, .int .i64 0, .slice none 0 0, .slice none 0 0] rfl rfl hz.out rfl rfl (by simp [Value.oneCell']) ?_; intro w9 row9 hg9 hz9; have ROW9 := Hide.mk row9; have G9 := Hide.mk hg9; clear row9 hg9 hz9))
        (try simp only [Exit.inBlock, Exit.then])
        refine bodyPost_ret (results_rootEE rfl _ _ w.heap.size #[.int .i64 0, .int .i64 0, .int .i64 0, .int .i64 0, .slice none 0 0, .slice none 0 0] rfl ROW9.out rfl) rfl ?_
        (try rw [eR])
        exact ⟨none, 0, none, 0, rfl, In.nil _ _, In.nil _ _, ⟨(fun a ha => by cases ha), (fun a ha => by cases ha)⟩, hB.out.1.grown G9.out hB.out.1.size (fun k hk => by cases hk; exact Nat.le_refl _)⟩
      · rw [if_neg hb] at eR
        go_wp2_with (first | (refine load_root rfl _ rfl (w.heap.size + 1) #[.int .i64 best.epoch, .int .i64 best.blocks, .int .i64 best.next, .int .i64 best.start, .slice tA best.tables.length tc, .slice mA best.maps.length mc] rfl hrow.out rfl ?_) | (refine store_root rfl _ _ rfl w.heap.size #[.int .i64 0, .int .i64 0, .int .i64 0, .int .i64 0, .slice none 0 0, .slice none 0 0] #[.int .i64 best.epoch, .int .i64 best.blocks, .int .i64 best.next, .int .i64 best.start, .slice tA best.tables.length tc, .slice mA best.maps.length mc] rfl rfl hz.out rfl rfl (by simp [Value.oneCell']) ?_; intro w9 row9 hg9 hz9; have ROW9 := Hide.mk row9; have G9 := Hide.mk hg9; clear row9 hg9 hz9))
        (try simp only [Exit.inBlock, Exit.then])
        refine bodyPost_ret (results_rootEE rfl _ _ w.heap.size #[.int .i64 best.epoch, .int .i64 best.blocks, .int .i64 best.next, .int .i64 best.start, .slice tA best.tables.length tc, .slice mA best.maps.length mc] rfl ROW9.out rfl) rfl ?_
        (try rw [eR])
        exact ⟨tA, tc, mA, mc, rfl, hT.out.moves (Moves.of_grown G9.out) (fun x hx hm => by have := hgT.out x hx; simp at hm; omega), hM.out.moves (Moves.of_grown G9.out) (fun x hx hm => by have := hgM.out x hx; simp at hm; omega), ⟨(fun x hx => by have := hgT.out x hx; omega), (fun x hx => by have := hgM.out x hx; omega)⟩, hB.out.1.grown G9.out hB.out.1.size (fun k hk => by cases hk; exact Nat.le_refl _)⟩
end Go.Proofs.YtgmkbcoahilkhaaGreat.Sh
end
section
namespace Go.Proofs.YtgmkbcoahilkhaaGreat.Sh
open Go.RowKit YtgmkbcoahilkhaaGreatW.PrintWords YtgmkbcoahilkhaaGreatW.PrintLast YtgmkbcoahilkhaaGreatW.PrintMore MapFn Disk Bitset Page PShadowPlays Num
set_option maxHeartbeats 8000000
set_option maxRecDepth 100000
def T72_8 : Bool × List (List Nat × List Nat) := (true, [([], []), ([0], [0]), ([1], [1]), ([2], [2]), ([3, 2], [2, 3]), ([2], [2]), ([5, 2, 2], [2, 5]), ([4, 6, 2], [2, 4, 6]), ([2, 7], [2, 7])])
def B72_8 : List Nat := [0, 1, 3, 7, 15, 7, 39, 127, 255]
theorem tab72_8 : rtab .any (opsOf Tryz.f72 8) = T72_8 := by kernel_rfl
theorem bits72_8 : waitsOk T72_8.2 B72_8 = true := by kernel_rfl
theorem _root_.Go.Proofs.YtgmkbcoahilkhaaGreat.Disk.Moves.grown_ {l : List Nat} {a b c : World} {g : Nat} (h : Moves l a b) (k : b.grownBy c (some g)) (hg : a.heap.size ≤ g) : Moves l a c :=
  ⟨k.os.trans h.os, k.tape.trans h.tape, k.output.trans h.output, Nat.le_trans h.size k.size, fun j hj hn => (k.block j (Nat.lt_of_lt_of_le hj h.size) (fun e => by have := Option.some.inj e; omega)).trans (h.block j hj hn)⟩
theorem roots_any (pd ms ml : Nat) (D : DiskSt) (w : World) (h : DiskAt w pd ms ml D) (hB : ∀ n, Bytes (D.get n)) :
    Calls Tryz.prog 72 #[.pointer (some ⟨pd, 0, none⟩)] w fun e w' => ∃ tA tc mA mc, e = .returned (.tuple #[(roots D).2.1.val tA tc mA mc, .int .i64 (roots D).2.2]) ∧ DiskAt w' pd ms ml (roots D).1 ∧ In .i64 w' tA (roots D).2.1.tables tc ∧ In .i64 w' mA (roots D).2.1.maps mc ∧ ((∀ a, tA = some a → w.heap.size ≤ a.block) ∧ ∀ a, mA = some a → w.heap.size ≤ a.block) ∧ Moves [pd] w w' := by
  obtain ⟨R, hR⟩ : ∃ R, roots D = R := ⟨_, rfl⟩
  rw [hR]
  unfold roots at hR
  have hB0 := (Below.refl w.heap.size w).alloc (Nat.le_refl _) (.cells #[.int .i64 0, .int .i64 0, .int .i64 0, .int .i64 0, .slice none 0 0, .slice none 0 0] 65)
  have row0 := heap_last w (.cells #[.int .i64 0, .int .i64 0, .int .i64 0, .int .i64 0, .slice none 0 0, .slice none 0 0] 65)
  have hlt0 := lt_of_row h.row
  have hlt1 := h.safe.lt
  have hlt2 := h.loose.lt
  obtain ⟨W0, hW0⟩ : ∃ W, w.alloc (.cells #[.int .i64 0, .int .i64 0, .int .i64 0, .int .i64 0, .slice none 0 0, .slice none 0 0] 65) = W := ⟨_, rfl⟩
  rw [hW0] at hB0 row0
  have hz0 : W0.heap.size = w.heap.size + 1 := by rw [← hW0]; simp
  have hm0 := Moves.of_below hB0 [pd]
  obtain ⟨br, hbr⟩ : ∃ br, w.heap.size = br := ⟨_, rfl⟩
  have HBR := Hide.mk hbr
  rw [hbr] at row0 hlt0 hlt1 hlt2 hz0
  have hd0 := h.below hB0
  have ROW0 := Hide.mk row0
  have HLT := Hide.mk (And.intro hlt0 (And.intro hlt1 hlt2))
  have HZ0 := Hide.mk hz0
  have M0 := Hide.mk hm0
  have D0 := Hide.mk hd0
  have HBY := Hide.mk hB
  have HW0 := Hide.mk hW0
  have w0 : MapFn.wf 0 := by unfold MapFn.wf; decide
  have w1 : MapFn.wf 1 := by unfold MapFn.wf; decide
  have HWF := Hide.mk (And.intro w0 w1)
  clear h hB hB0 row0 hlt0 hlt1 hlt2 hz0 hm0 w0 w1 hbr hW0
  obtain ⟨a0, ha0⟩ : ∃ a, D.at_ 0 = a := ⟨_, rfl⟩
  obtain ⟨a1, ha1⟩ : ∃ a, D.read.at_ 1 = a := ⟨_, rfl⟩
  rw [ha0, ha1] at hR
  by_cases h0 : a0 = 0
  · subst h0
    have HR1 := Hide.mk (read_ok 0 hd0 HWF.out.1 ha0)
    rw [if_neg (by simp)] at hR
    by_cases h1 : a1 = 0
    · subst h1
      rw [if_neg (by simp)] at hR
      obtain ⟨q, c2, c3, hc⟩ : ∃ c1 c2 c3, Root.choose (D.get 0) (D.read.get 1) = (c1, c2, c3) := ⟨_, _, _, rfl⟩
      rw [hc] at hR
      simp only at hR
      have HC := Hide.mk hc
      have HA1 := Hide.mk ha1
      have HRR := Hide.mk hR.symm
      clear hR hc ha0 ha1 hd0
      by_cases e0 : c3 = 0
      · subst e0
        by_cases hbl : q.blocks = D.blocks
        · have HBL := Hide.mk hbl
          have hb1 : (q.blocks != D.blocks) = false := by simp [hbl]
          clear hbl
          go_enter Tryz.func72, Tryz.ntmps72
          go_wp2_with (first
            | (go_at_call 102
               rw [HBR.out, HW0.out]
               with_reducible refine HR1.out.mono ?_
               rintro e w1 ⟨g1, rfl, hf, hd, hm⟩
               have F1 := Hide.mk hf
               have D1 := Hide.mk hd
               have M1 := Hide.mk hm
               have ROW1 := Hide.mk ((hm.block br (lt_of_row ROW0.out) (by have := HLT.out; simp; omega)).trans ROW0.out)
               have HR2 := Hide.mk (read_ok 1 hd HWF.out.2 HA1.out)
               clear hf hd hm)
            | (go_at_call 102
               with_reducible refine HR2.out.mono ?_
               rintro e w2 ⟨g2, rfl, hf, hd, hm⟩
               have D2 := Hide.mk hd
               have M2 := Hide.mk ((M0.out.trans M1.out).trans hm)
               have row1 := (hm.block g1 (lt_of_row F1.out.row) (by have := F1.out.new; have := HLT.out; have := HZ0.out; simp; omega)).trans F1.out.row
               have row2 := hf.row
               have ROW2 := Hide.mk ((hm.block br (lt_of_row ROW1.out) (by have := HLT.out; simp; omega)).trans ROW1.out)
               have l1 := DiskSt.get_len D0.out 0
               have l2 := DiskSt.get_len D0.out 1
               have HCH0 := choose_any (D.get 0) (D.get 1) g1 0 256 g2 0 256 w2 ⟨C_of_row row1 (by omega), (by omega), (fun a ha => by cases ha; exact lt_of_row row1)⟩ ⟨C_of_row (l := D.get 1) row2 (by omega), (by omega), (fun a ha => by cases ha; exact lt_of_row row2)⟩ l1 l2 (HBY.out 0) (HBY.out 1)
               rw [show Root.choose (D.get 0) (D.get 1) = _ from HC.out] at HCH0
               unfold Root.val at HCH0
               have HCH := Hide.mk HCH0
               clear hf hd hm row1 row2 l1 l2 HCH0)
            | (go_at_call 110
               with_reducible refine HCH.out.mono ?_
               rintro e w3 ⟨tA, tc, mA, mc, rfl, hT, hM, hG, hb⟩
               have IT3 := Hide.mk hT
               have IM3 := Hide.mk hM
               have GG3 := Hide.mk hG
               have D3 := Hide.mk (D2.out.below hb)
               have M3 := Hide.mk (M2.out.trans (Moves.of_below hb [pd]))
               have ROW3 := Hide.mk ((hb.block br (lt_of_row ROW2.out)).trans ROW2.out)
               have SZ2 : Hide (br < w2.heap.size) := ⟨lt_of_row ROW2.out⟩
               clear hT hM hG hb))
          obtain ⟨W4, hW4⟩ : ∃ W, w3.alloc (.cells #[.int .i64 q.epoch, .int .i64 q.blocks, .int .i64 q.next, .int .i64 q.start, .slice tA q.tables.length tc, .slice mA q.maps.length mc] 65) = W := ⟨_, rfl⟩
          rw [hW4]
          have hal := (Below.refl w3.heap.size w3).alloc (Nat.le_refl _) (.cells #[.int .i64 q.epoch, .int .i64 q.blocks, .int .i64 q.next, .int .i64 q.start, .slice tA q.tables.length tc, .slice mA q.maps.length mc] 65)
          have rowq := heap_last w3 (.cells #[.int .i64 q.epoch, .int .i64 q.blocks, .int .i64 q.next, .int .i64 q.start, .slice tA q.tables.length tc, .slice mA q.maps.length mc] 65)
          rw [hW4] at hal rowq
          have B4 := Hide.mk (hal.trans ((below_drew (Below.refl W4.heap.size W4)).mono hal.size))
          obtain ⟨br2, hbr2⟩ : ∃ b, w3.heap.size = b := ⟨_, rfl⟩
          rw [hbr2] at rowq ⊢
          have RQ := Hide.mk (show W4.drew.heap[br2]? = _ from rowq)
          have KC : W4.drew.cell? ⟨br2, 1, none⟩ = some (.int .i64 q.blocks) := cell_of rowq
          have HBK0 := Blocks_any (D3.out.below B4.out)
          rw [show D.read.read.blocks = D.blocks from rfl] at HBK0
          have HBK := Hide.mk HBK0
          clear hal rowq hW4 hbr2 HBK0
          refine start_ (n := 9) (S := fun w' => w'.cell? ⟨br2, 1, none⟩ = some (.int .i64 q.blocks)) (ds := []) #[false, false, false, false, false, false, false, false, false] (by kernel_rfl) rfl rfl KC (fun hHeld => ?_); refine with_tabW tab72_8 bits72_8 (fun HT_ HW_ => ?_)
          refine pu_ (i := 0) (N := some 34) (v := ?_) (a' := ?_) (bls 9 1) HT_.out rfl rfl (by kernel_rfl) (by rfl) ?_ ?_ ?_
          rotate_left
          · intro w'; go_simp; with_reducible rfl
          rotate_left
          · simp only [Act.put, qT_, q0_, q1_, i64_w, i32_w]; rfl
          refine pu_ (i := 1) (N := some 35) (v := ?_) (a' := ?_) (bls 9 3) HT_.out rfl rfl (by kernel_rfl) (by rfl) ?_ ?_ ?_
          rotate_left
          · intro w'; go_simp; with_reducible rfl
          rotate_left
          · simp only [Act.put, qT_, q0_, q1_, i64_w, i32_w]; rfl
          refine pu_ (i := 2) (N := some 36) (v := ?_) (a' := ?_) (bls 9 7) HT_.out rfl rfl (by kernel_rfl) (by rfl) ?_ ?_ ?_
          rotate_left
          · intro w'; go_simp; with_reducible rfl
          rotate_left
          · simp only [Act.put, qT_, q0_, q1_, i64_w, i32_w]; rfl
          refine pu_ (i := 3) (N := some 37) (v := ?_) (a' := ?_) (bls 9 15) HT_.out rfl rfl (by kernel_rfl) (by rfl) ?_ ?_ ?_
          rotate_left
          · intro w'; go_simp; with_reducible rfl
          rotate_left
          · simp only [Act.put, qT_, q0_, q1_, i64_w, i32_w]; rfl
          refine take_ (i := 4) (N := some 38) (v := ?_) (a' := ?_) (bls 9 31) rfl rfl (take_ofW HT_.out HW_.out (by kernel_rfl)) (fun _ _ _ h => h) (Or.inl ⟨by rfl, ?_⟩) hHeld ?_ ?_
          rotate_left
          · intro w' hS'
            have s1 := hS'
            go_simp
            rfl
          rotate_left
          · simp only [Act.put, qT_, q0_, q1_, i64_w, i32_w]; rfl
          refine pu_ (i := 5) (N := some 39) (v := ?_) (a' := ?_) (bls 9 63) HT_.out rfl rfl (by kernel_rfl) (by rfl) ?_ ?_ ?_
          rotate_left
          · intro w'; go_simp; with_reducible rfl
          rotate_left
          · simp only [Act.put, qT_, q0_, q1_, i64_w, i32_w]; rfl
          refine one_ (i := 6) (N := some 40) (bls 9 127) rfl rfl (one_of HT_.out (by kernel_rfl)) (by decide) (fun K hK => ?_)
          refine goes_ Tryz.func43 (by kernel_rfl) rfl #[.pointer (some ⟨pd, 0, none⟩)] (by rfl) rfl rfl (by (try simp only [List.map_toArray, List.map_cons, List.map_nil]); first | done | rfl) ?_
          with_reducible refine HBK.out.mono ?_
          rintro e wB ⟨rfl, hwB⟩
          have hwB1 := hwB.symm
          subst hwB1
          refine ⟨_, rfl, ?_⟩
          refine hK.out _ _ KC (fun hHeld => ?_)
          clear hK K
          refine norm_ (a' := ?_) ?_ ?_
          rotate_left
          · show Act.put _ (some 40) _ = _; simp only [Act.put, qT_, q0_, q1_, i64_w, i32_w]; rfl
          refine pu_ (i := 7) (N := some 41) (v := ?_) (a' := ?_) (bls 9 255) HT_.out rfl rfl (by kernel_rfl) (by rfl) ?_ ?_ ?_
          rotate_left
          · intro w'; go_simp; with_reducible rfl
          rotate_left
          · simp only [Act.put, qT_, q0_, q1_, i64_w, i32_w]; rfl
          refine pu_ (i := 8) (N := some 42) (v := ?_) (a' := ?_) (bls 9 511) HT_.out rfl rfl (by kernel_rfl) (by rfl) ?_ ?_ ?_
          rotate_left
          · intro w'; go_simp; with_reducible rfl
          rotate_left
          · simp only [Act.put, qT_, q0_, q1_, i64_w, i32_w]; rfl
          refine done_ (done_of HT_.out (by kernel_rfl)) ?_
          clear KC hHeld
          have D4 := Hide.mk (D3.out.below B4.out)
          have M4 := Hide.mk (M3.out.trans (Moves.of_below B4.out [pd]))
          have ROW4 := Hide.mk ((B4.out.block br (lt_of_row ROW3.out)).trans ROW3.out)
          have IT4 := Hide.mk (IT3.out.below B4.out)
          have IM4 := Hide.mk (IM3.out.below B4.out)
          go_wp2_with (first
            | (refine load_root rfl _ rfl br2 #[.int .i64 q.epoch, .int .i64 q.blocks, .int .i64 q.next, .int .i64 q.start, .slice tA q.tables.length tc, .slice mA q.maps.length mc] rfl RQ.out rfl ?_)
            | (refine store_root rfl _ _ rfl br #[.int .i64 0, .int .i64 0, .int .i64 0, .int .i64 0, .slice none 0 0, .slice none 0 0] #[.int .i64 q.epoch, .int .i64 q.blocks, .int .i64 q.next, .int .i64 q.start, .slice tA q.tables.length tc, .slice mA q.maps.length mc] rfl rfl ROW4.out rfl rfl (by simp [Value.oneCell']) ?_
               intro w9 row9 hg9 hz9
               have ROW9 := Hide.mk row9
               have G9 := Hide.mk hg9
               clear row9 hg9 hz9))
          (try simp only [Exit.inBlock, Exit.then])
          refine bodyPost_ret (results_rootE rfl _ _ br #[.int .i64 q.epoch, .int .i64 q.blocks, .int .i64 q.next, .int .i64 q.start, .slice tA q.tables.length tc, .slice mA q.maps.length mc] rfl ROW9.out rfl) rfl ?_
          rw [HRR.out, if_neg (fun h => h.2 HBL.out)]
          have hne : ∀ a : Addr, br + 1 ≤ a.block → ¬ a.block ∈ [br] := fun a ha hx => by simp at hx; omega
          exact ⟨tA, tc, mA, mc, by first | rfl | (simp; done), (D4.out.moves (Moves.of_grown G9.out) (by have := HLT.out; simp; omega) (by have := HLT.out; simp; omega) (by have := HLT.out; simp; omega)), IT4.out.moves (Moves.of_grown G9.out) (fun a ha => hne a (by have := GG3.out.1 a ha; have := SZ2.out; omega)), IM4.out.moves (Moves.of_grown G9.out) (fun a ha => hne a (by have := GG3.out.2 a ha; have := SZ2.out; omega)), ⟨(fun a ha => by have := GG3.out.1 a ha; have := SZ2.out; have := HBR.out; omega), (fun a ha => by have := GG3.out.2 a ha; have := SZ2.out; have := HBR.out; omega)⟩, M4.out.grown_ G9.out (by have := HBR.out; omega)⟩
        · have HBL := Hide.mk hbl
          have hb1 : (q.blocks != D.blocks) = true := by simp [hbl]
          clear hbl
          go_enter Tryz.func72, Tryz.ntmps72
          go_wp2_with (first
            | (go_at_call 102
               rw [HBR.out, HW0.out]
               with_reducible refine HR1.out.mono ?_
               rintro e w1 ⟨g1, rfl, hf, hd, hm⟩
               have F1 := Hide.mk hf
               have D1 := Hide.mk hd
               have M1 := Hide.mk hm
               have ROW1 := Hide.mk ((hm.block br (lt_of_row ROW0.out) (by have := HLT.out; simp; omega)).trans ROW0.out)
               have HR2 := Hide.mk (read_ok 1 hd HWF.out.2 HA1.out)
               clear hf hd hm)
            | (go_at_call 102
               with_reducible refine HR2.out.mono ?_
               rintro e w2 ⟨g2, rfl, hf, hd, hm⟩
               have D2 := Hide.mk hd
               have M2 := Hide.mk ((M0.out.trans M1.out).trans hm)
               have row1 := (hm.block g1 (lt_of_row F1.out.row) (by have := F1.out.new; have := HLT.out; have := HZ0.out; simp; omega)).trans F1.out.row
               have row2 := hf.row
               have ROW2 := Hide.mk ((hm.block br (lt_of_row ROW1.out) (by have := HLT.out; simp; omega)).trans ROW1.out)
               have l1 := DiskSt.get_len D0.out 0
               have l2 := DiskSt.get_len D0.out 1
               have HCH0 := choose_any (D.get 0) (D.get 1) g1 0 256 g2 0 256 w2 ⟨C_of_row row1 (by omega), (by omega), (fun a ha => by cases ha; exact lt_of_row row1)⟩ ⟨C_of_row (l := D.get 1) row2 (by omega), (by omega), (fun a ha => by cases ha; exact lt_of_row row2)⟩ l1 l2 (HBY.out 0) (HBY.out 1)
               rw [show Root.choose (D.get 0) (D.get 1) = _ from HC.out] at HCH0
               unfold Root.val at HCH0
               have HCH := Hide.mk HCH0
               clear hf hd hm row1 row2 l1 l2 HCH0)
            | (go_at_call 110
               with_reducible refine HCH.out.mono ?_
               rintro e w3 ⟨tA, tc, mA, mc, rfl, hT, hM, hG, hb⟩
               have IT3 := Hide.mk hT
               have IM3 := Hide.mk hM
               have GG3 := Hide.mk hG
               have D3 := Hide.mk (D2.out.below hb)
               have M3 := Hide.mk (M2.out.trans (Moves.of_below hb [pd]))
               have ROW3 := Hide.mk ((hb.block br (lt_of_row ROW2.out)).trans ROW2.out)
               have SZ2 : Hide (br < w2.heap.size) := ⟨lt_of_row ROW2.out⟩
               clear hT hM hG hb))
          obtain ⟨W4, hW4⟩ : ∃ W, w3.alloc (.cells #[.int .i64 q.epoch, .int .i64 q.blocks, .int .i64 q.next, .int .i64 q.start, .slice tA q.tables.length tc, .slice mA q.maps.length mc] 65) = W := ⟨_, rfl⟩
          rw [hW4]
          have hal := (Below.refl w3.heap.size w3).alloc (Nat.le_refl _) (.cells #[.int .i64 q.epoch, .int .i64 q.blocks, .int .i64 q.next, .int .i64 q.start, .slice tA q.tables.length tc, .slice mA q.maps.length mc] 65)
          have rowq := heap_last w3 (.cells #[.int .i64 q.epoch, .int .i64 q.blocks, .int .i64 q.next, .int .i64 q.start, .slice tA q.tables.length tc, .slice mA q.maps.length mc] 65)
          rw [hW4] at hal rowq
          have B4 := Hide.mk (hal.trans ((below_drew (Below.refl W4.heap.size W4)).mono hal.size))
          obtain ⟨br2, hbr2⟩ : ∃ b, w3.heap.size = b := ⟨_, rfl⟩
          rw [hbr2] at rowq ⊢
          have RQ := Hide.mk (show W4.drew.heap[br2]? = _ from rowq)
          have KC : W4.drew.cell? ⟨br2, 1, none⟩ = some (.int .i64 q.blocks) := cell_of rowq
          have HBK0 := Blocks_any (D3.out.below B4.out)
          rw [show D.read.read.blocks = D.blocks from rfl] at HBK0
          have HBK := Hide.mk HBK0
          clear hal rowq hW4 hbr2 HBK0
          refine start_ (n := 9) (S := fun w' => w'.cell? ⟨br2, 1, none⟩ = some (.int .i64 q.blocks)) (ds := []) #[false, false, false, false, false, false, false, false, false] (by kernel_rfl) rfl rfl KC (fun hHeld => ?_); refine with_tabW tab72_8 bits72_8 (fun HT_ HW_ => ?_)
          refine pu_ (i := 0) (N := some 34) (v := ?_) (a' := ?_) (bls 9 1) HT_.out rfl rfl (by kernel_rfl) (by rfl) ?_ ?_ ?_
          rotate_left
          · intro w'; go_simp; with_reducible rfl
          rotate_left
          · simp only [Act.put, qT_, q0_, q1_, i64_w, i32_w]; rfl
          refine pu_ (i := 1) (N := some 35) (v := ?_) (a' := ?_) (bls 9 3) HT_.out rfl rfl (by kernel_rfl) (by rfl) ?_ ?_ ?_
          rotate_left
          · intro w'; go_simp; with_reducible rfl
          rotate_left
          · simp only [Act.put, qT_, q0_, q1_, i64_w, i32_w]; rfl
          refine pu_ (i := 2) (N := some 36) (v := ?_) (a' := ?_) (bls 9 7) HT_.out rfl rfl (by kernel_rfl) (by rfl) ?_ ?_ ?_
          rotate_left
          · intro w'; go_simp; with_reducible rfl
          rotate_left
          · simp only [Act.put, qT_, q0_, q1_, i64_w, i32_w]; rfl
          refine pu_ (i := 3) (N := some 37) (v := ?_) (a' := ?_) (bls 9 15) HT_.out rfl rfl (by kernel_rfl) (by rfl) ?_ ?_ ?_
          rotate_left
          · intro w'; go_simp; with_reducible rfl
          rotate_left
          · simp only [Act.put, qT_, q0_, q1_, i64_w, i32_w]; rfl
          refine take_ (i := 4) (N := some 38) (v := ?_) (a' := ?_) (bls 9 31) rfl rfl (take_ofW HT_.out HW_.out (by kernel_rfl)) (fun _ _ _ h => h) (Or.inl ⟨by rfl, ?_⟩) hHeld ?_ ?_
          rotate_left
          · intro w' hS'
            have s1 := hS'
            go_simp
            rfl
          rotate_left
          · simp only [Act.put, qT_, q0_, q1_, i64_w, i32_w]; rfl
          refine pu_ (i := 5) (N := some 39) (v := ?_) (a' := ?_) (bls 9 63) HT_.out rfl rfl (by kernel_rfl) (by rfl) ?_ ?_ ?_
          rotate_left
          · intro w'; go_simp; with_reducible rfl
          rotate_left
          · simp only [Act.put, qT_, q0_, q1_, i64_w, i32_w]; rfl
          refine one_ (i := 6) (N := some 40) (bls 9 127) rfl rfl (one_of HT_.out (by kernel_rfl)) (by decide) (fun K hK => ?_)
          refine goes_ Tryz.func43 (by kernel_rfl) rfl #[.pointer (some ⟨pd, 0, none⟩)] (by rfl) rfl rfl (by (try simp only [List.map_toArray, List.map_cons, List.map_nil]); first | done | rfl) ?_
          with_reducible refine HBK.out.mono ?_
          rintro e wB ⟨rfl, hwB⟩
          have hwB1 := hwB.symm
          subst hwB1
          refine ⟨_, rfl, ?_⟩
          refine hK.out _ _ KC (fun hHeld => ?_)
          clear hK K
          refine norm_ (a' := ?_) ?_ ?_
          rotate_left
          · show Act.put _ (some 40) _ = _; simp only [Act.put, qT_, q0_, q1_, i64_w, i32_w]; rfl
          refine pu_ (i := 7) (N := some 41) (v := ?_) (a' := ?_) (bls 9 255) HT_.out rfl rfl (by kernel_rfl) (by rfl) ?_ ?_ ?_
          rotate_left
          · intro w'; go_simp; with_reducible rfl
          rotate_left
          · simp only [Act.put, qT_, q0_, q1_, i64_w, i32_w]; rfl
          refine pu_ (i := 8) (N := some 42) (v := ?_) (a' := ?_) (bls 9 511) HT_.out rfl rfl (by kernel_rfl) (by rfl) ?_ ?_ ?_
          rotate_left
          · intro w'; go_simp; with_reducible rfl
          rotate_left
          · simp only [Act.put, qT_, q0_, q1_, i64_w, i32_w]; rfl
          refine done_ (done_of HT_.out (by kernel_rfl)) ?_
          clear KC hHeld
          have D4 := Hide.mk (D3.out.below B4.out)
          have M4 := Hide.mk (M3.out.trans (Moves.of_below B4.out [pd]))
          have ROW4 := Hide.mk ((B4.out.block br (lt_of_row ROW3.out)).trans ROW3.out)
          have IT4 := Hide.mk (IT3.out.below B4.out)
          have IM4 := Hide.mk (IM3.out.below B4.out)
          go_wp2_with (first
            | (refine load_root rfl _ rfl br2 #[.int .i64 q.epoch, .int .i64 q.blocks, .int .i64 q.next, .int .i64 q.start, .slice tA q.tables.length tc, .slice mA q.maps.length mc] rfl RQ.out rfl ?_)
            | (refine store_root rfl _ _ rfl br #[.int .i64 0, .int .i64 0, .int .i64 0, .int .i64 0, .slice none 0 0, .slice none 0 0] #[.int .i64 q.epoch, .int .i64 q.blocks, .int .i64 q.next, .int .i64 q.start, .slice tA q.tables.length tc, .slice mA q.maps.length mc] rfl rfl ROW4.out rfl rfl (by simp [Value.oneCell']) ?_
               intro w9 row9 hg9 hz9
               have ROW9 := Hide.mk row9
               have G9 := Hide.mk hg9
               clear row9 hg9 hz9))
          (try simp only [Exit.inBlock, Exit.then])
          refine bodyPost_ret (results_rootE rfl _ _ br #[.int .i64 q.epoch, .int .i64 q.blocks, .int .i64 q.next, .int .i64 q.start, .slice tA q.tables.length tc, .slice mA q.maps.length mc] rfl ROW9.out rfl) rfl ?_
          rw [HRR.out, if_pos ⟨by trivial, HBL.out⟩]
          have hne : ∀ a : Addr, br + 1 ≤ a.block → ¬ a.block ∈ [br] := fun a ha hx => by simp at hx; omega
          exact ⟨tA, tc, mA, mc, by first | rfl | (simp; done), (D4.out.moves (Moves.of_grown G9.out) (by have := HLT.out; simp; omega) (by have := HLT.out; simp; omega) (by have := HLT.out; simp; omega)), IT4.out.moves (Moves.of_grown G9.out) (fun a ha => hne a (by have := GG3.out.1 a ha; have := SZ2.out; omega)), IM4.out.moves (Moves.of_grown G9.out) (fun a ha => hne a (by have := GG3.out.2 a ha; have := SZ2.out; omega)), ⟨(fun a ha => by have := GG3.out.1 a ha; have := SZ2.out; have := HBR.out; omega), (fun a ha => by have := GG3.out.2 a ha; have := SZ2.out; have := HBR.out; omega)⟩, M4.out.grown_ G9.out (by have := HBR.out; omega)⟩
      · have HE0 := Hide.mk e0
        have hb1 : (c3 == 0) = false := by simp [e0]
        clear e0
        go_enter Tryz.func72, Tryz.ntmps72
        go_wp2_with (first
          | (go_at_call 102
             rw [HBR.out, HW0.out]
             with_reducible refine HR1.out.mono ?_
             rintro e w1 ⟨g1, rfl, hf, hd, hm⟩
             have F1 := Hide.mk hf
             have D1 := Hide.mk hd
             have M1 := Hide.mk hm
             have ROW1 := Hide.mk ((hm.block br (lt_of_row ROW0.out) (by have := HLT.out; simp; omega)).trans ROW0.out)
             have HR2 := Hide.mk (read_ok 1 hd HWF.out.2 HA1.out)
             clear hf hd hm)
          | (go_at_call 102
             with_reducible refine HR2.out.mono ?_
             rintro e w2 ⟨g2, rfl, hf, hd, hm⟩
             have D2 := Hide.mk hd
             have M2 := Hide.mk ((M0.out.trans M1.out).trans hm)
             have row1 := (hm.block g1 (lt_of_row F1.out.row) (by have := F1.out.new; have := HLT.out; have := HZ0.out; simp; omega)).trans F1.out.row
             have row2 := hf.row
             have ROW2 := Hide.mk ((hm.block br (lt_of_row ROW1.out) (by have := HLT.out; simp; omega)).trans ROW1.out)
             have l1 := DiskSt.get_len D0.out 0
             have l2 := DiskSt.get_len D0.out 1
             have HCH0 := choose_any (D.get 0) (D.get 1) g1 0 256 g2 0 256 w2 ⟨C_of_row row1 (by omega), (by omega), (fun a ha => by cases ha; exact lt_of_row row1)⟩ ⟨C_of_row (l := D.get 1) row2 (by omega), (by omega), (fun a ha => by cases ha; exact lt_of_row row2)⟩ l1 l2 (HBY.out 0) (HBY.out 1)
             rw [show Root.choose (D.get 0) (D.get 1) = _ from HC.out] at HCH0
             unfold Root.val at HCH0
             have HCH := Hide.mk HCH0
             clear hf hd hm row1 row2 l1 l2 HCH0)
          | (go_at_call 110
             with_reducible refine HCH.out.mono ?_
             rintro e w3 ⟨tA, tc, mA, mc, rfl, hT, hM, hG, hb⟩
             have IT3 := Hide.mk hT
             have IM3 := Hide.mk hM
             have GG3 := Hide.mk hG
             have D3 := Hide.mk (D2.out.below hb)
             have M3 := Hide.mk (M2.out.trans (Moves.of_below hb [pd]))
             have ROW3 := Hide.mk ((hb.block br (lt_of_row ROW2.out)).trans ROW2.out)
             have SZ2 : Hide (br < w2.heap.size) := ⟨lt_of_row ROW2.out⟩
             clear hT hM hG hb))
        obtain ⟨W4, hW4⟩ : ∃ W, w3.alloc (.cells #[.int .i64 q.epoch, .int .i64 q.blocks, .int .i64 q.next, .int .i64 q.start, .slice tA q.tables.length tc, .slice mA q.maps.length mc] 65) = W := ⟨_, rfl⟩
        rw [hW4]
        have hal := (Below.refl w3.heap.size w3).alloc (Nat.le_refl _) (.cells #[.int .i64 q.epoch, .int .i64 q.blocks, .int .i64 q.next, .int .i64 q.start, .slice tA q.tables.length tc, .slice mA q.maps.length mc] 65)
        have rowq := heap_last w3 (.cells #[.int .i64 q.epoch, .int .i64 q.blocks, .int .i64 q.next, .int .i64 q.start, .slice tA q.tables.length tc, .slice mA q.maps.length mc] 65)
        rw [hW4] at hal rowq
        have B4 := Hide.mk (hal.trans ((below_drew (Below.refl W4.heap.size W4)).mono hal.size))
        obtain ⟨br2, hbr2⟩ : ∃ b, w3.heap.size = b := ⟨_, rfl⟩
        rw [hbr2] at rowq ⊢
        have RQ := Hide.mk (show W4.drew.heap[br2]? = _ from rowq)
        have KC : W4.drew.cell? ⟨br2, 1, none⟩ = some (.int .i64 q.blocks) := cell_of rowq
        have HBK0 := Blocks_any (D3.out.below B4.out)
        rw [show D.read.read.blocks = D.blocks from rfl] at HBK0
        have HBK := Hide.mk HBK0
        clear hal rowq hW4 hbr2 HBK0
        refine start_ (n := 9) (S := fun w' => w'.cell? ⟨br2, 1, none⟩ = some (.int .i64 q.blocks)) (ds := []) #[false, false, false, false, false, false, false, false, false] (by kernel_rfl) rfl rfl KC (fun hHeld => ?_); refine with_tabW tab72_8 bits72_8 (fun HT_ HW_ => ?_)
        refine pu_ (i := 0) (N := some 34) (v := ?_) (a' := ?_) (bls 9 1) HT_.out rfl rfl (by kernel_rfl) (by rfl) ?_ ?_ ?_
        rotate_left
        · intro w'; go_simp; with_reducible rfl
        rotate_left
        · simp only [Act.put, qT_, q0_, q1_, i64_w, i32_w]; rfl
        refine pu_ (i := 1) (N := some 35) (v := ?_) (a' := ?_) (bls 9 3) HT_.out rfl rfl (by kernel_rfl) (by rfl) ?_ ?_ ?_
        rotate_left
        · intro w'; go_simp; with_reducible rfl
        rotate_left
        · simp only [Act.put, qT_, q0_, q1_, i64_w, i32_w]; rfl
        refine pu_ (i := 2) (N := some 36) (v := ?_) (a' := ?_) (bls 9 7) HT_.out rfl rfl (by kernel_rfl) (by rfl) ?_ ?_ ?_
        rotate_left
        · intro w'; go_simp; with_reducible rfl
        rotate_left
        · simp only [Act.put, qT_, q0_, q1_, i64_w, i32_w]; rfl
        refine pure_ (i := 3) (N := some 37) (v := undef) (a' := ?_) (bls 9 15) rfl rfl (any_of HT_.out (by kernel_rfl)) (fun _ _ _ h => h) (Or.inr ⟨by rfl, rfl⟩) ?_ ?_
        rotate_left
        · simp only [Act.put, qT_, q0_, q1_, i64_w, i32_w]; rfl
        refine pure_ (i := 4) (N := some 38) (v := undef) (a' := ?_) (bls 9 31) rfl rfl (any_of HT_.out (by kernel_rfl)) (fun _ _ _ h => h) (Or.inr ⟨by rfl, rfl⟩) ?_ ?_
        rotate_left
        · simp only [Act.put, qT_, q0_, q1_, i64_w, i32_w]; rfl
        refine pure_ (i := 5) (N := some 39) (v := undef) (a' := ?_) (bls 9 63) rfl rfl (any_of HT_.out (by kernel_rfl)) (fun _ _ _ h => h) (Or.inr ⟨by rfl, rfl⟩) ?_ ?_
        rotate_left
        · simp only [Act.put, qT_, q0_, q1_, i64_w, i32_w]; rfl
        refine pure_ (i := 6) (N := some 40) (v := undef) (a' := ?_) (bls 9 127) rfl rfl (any_of HT_.out (by kernel_rfl)) (fun _ _ _ h => h) (Or.inr ⟨by rfl, rfl⟩) ?_ ?_
        rotate_left
        · simp only [Act.put, qT_, q0_, q1_, i64_w, i32_w]; rfl
        refine pure_ (i := 7) (N := some 41) (v := undef) (a' := ?_) (bls 9 255) rfl rfl (any_of HT_.out (by kernel_rfl)) (fun _ _ _ h => h) (Or.inr ⟨by rfl, rfl⟩) ?_ ?_
        rotate_left
        · simp only [Act.put, qT_, q0_, q1_, i64_w, i32_w]; rfl
        refine pu_ (i := 8) (N := some 42) (v := ?_) (a' := ?_) (bls 9 511) HT_.out rfl rfl (by kernel_rfl) (by rfl) ?_ ?_ ?_
        rotate_left
        · intro w'; go_simp; with_reducible rfl
        rotate_left
        · simp only [Act.put, qT_, q0_, q1_, i64_w, i32_w]; rfl
        refine done_ (done_of HT_.out (by kernel_rfl)) ?_
        clear KC hHeld
        have D4 := Hide.mk (D3.out.below B4.out)
        have M4 := Hide.mk (M3.out.trans (Moves.of_below B4.out [pd]))
        have ROW4 := Hide.mk ((B4.out.block br (lt_of_row ROW3.out)).trans ROW3.out)
        have IT4 := Hide.mk (IT3.out.below B4.out)
        have IM4 := Hide.mk (IM3.out.below B4.out)
        go_wp2_with (first
          | (refine load_root rfl _ rfl br2 #[.int .i64 q.epoch, .int .i64 q.blocks, .int .i64 q.next, .int .i64 q.start, .slice tA q.tables.length tc, .slice mA q.maps.length mc] rfl RQ.out rfl ?_)
          | (refine store_root rfl _ _ rfl br #[.int .i64 0, .int .i64 0, .int .i64 0, .int .i64 0, .slice none 0 0, .slice none 0 0] #[.int .i64 q.epoch, .int .i64 q.blocks, .int .i64 q.next, .int .i64 q.start, .slice tA q.tables.length tc, .slice mA q.maps.length mc] rfl rfl ROW4.out rfl rfl (by simp [Value.oneCell']) ?_
             intro w9 row9 hg9 hz9
             have ROW9 := Hide.mk row9
             have G9 := Hide.mk hg9
             clear row9 hg9 hz9))
        (try simp only [Exit.inBlock, Exit.then])
        refine bodyPost_ret (results_rootE rfl _ _ br #[.int .i64 q.epoch, .int .i64 q.blocks, .int .i64 q.next, .int .i64 q.start, .slice tA q.tables.length tc, .slice mA q.maps.length mc] rfl ROW9.out rfl) rfl ?_
        rw [HRR.out, if_neg (fun h => HE0.out h.1)]
        have hne : ∀ a : Addr, br + 1 ≤ a.block → ¬ a.block ∈ [br] := fun a ha hx => by simp at hx; omega
        exact ⟨tA, tc, mA, mc, by first | rfl | (simp; done), (D4.out.moves (Moves.of_grown G9.out) (by have := HLT.out; simp; omega) (by have := HLT.out; simp; omega) (by have := HLT.out; simp; omega)), IT4.out.moves (Moves.of_grown G9.out) (fun a ha => hne a (by have := GG3.out.1 a ha; have := SZ2.out; omega)), IM4.out.moves (Moves.of_grown G9.out) (fun a ha => hne a (by have := GG3.out.2 a ha; have := SZ2.out; omega)), ⟨(fun a ha => by have := GG3.out.1 a ha; have := SZ2.out; have := HBR.out; omega), (fun a ha => by have := GG3.out.2 a ha; have := SZ2.out; have := HBR.out; omega)⟩, M4.out.grown_ G9.out (by have := HBR.out; omega)⟩
    · rw [if_pos h1] at hR
      have HA1 := Hide.mk (And.intro ha1 h1)
      have HRR := Hide.mk hR.symm
      have q : (a1 != 0) = true := by simp [h1]
      clear hR ha0 ha1 hd0 h1
      go_enter Tryz.func72, Tryz.ntmps72
      go_wp2_with (first
        | (go_at_call 102
           rw [HBR.out, HW0.out]
           with_reducible refine HR1.out.mono ?_
           rintro e w1 ⟨g1, rfl, hf, hd, hm⟩
           have F1 := Hide.mk hf
           have D1 := Hide.mk hd
           have M1 := Hide.mk hm
           have ROW1 := Hide.mk ((hm.block br (lt_of_row ROW0.out) (by have := HLT.out; simp; omega)).trans ROW0.out)
           have HR20 := read_bad 1 hd (by rw [HA1.out.1]; exact HA1.out.2)
           rw [HA1.out.1] at HR20
           have HR2 := Hide.mk HR20
           clear HR20
           clear hf hd hm)
        | (go_at_call 102
           with_reducible refine HR2.out.mono ?_
           rintro e w2 ⟨rfl, hb⟩
           have B2 := Hide.mk hb
           have ROW2 := Hide.mk ((hb.block br (lt_of_row ROW1.out)).trans ROW1.out)
           clear hb)
        | (refine store_root rfl _ _ rfl br #[.int .i64 0, .int .i64 0, .int .i64 0, .int .i64 0, .slice none 0 0, .slice none 0 0] #[.int .i64 0, .int .i64 0, .int .i64 0, .int .i64 0, .slice none 0 0, .slice none 0 0] rfl rfl ROW2.out rfl rfl (by simp [Value.oneCell']) ?_
           intro w9 row9 hg9 hz9
           have ROW9 := Hide.mk row9
           have G9 := Hide.mk hg9
           clear row9 hg9 hz9))
      (try simp only [Exit.inBlock, Exit.then])
      refine bodyPost_ret (results_rootE rfl _ _ br #[.int .i64 0, .int .i64 0, .int .i64 0, .int .i64 0, .slice none 0 0, .slice none 0 0] rfl ROW9.out rfl) rfl ?_
      rw [HRR.out]
      have m := (M0.out.trans M1.out).trans (Moves.of_below B2.out [pd])
      have DD := D1.out.below B2.out
      exact ⟨none, 0, none, 0, by first | rfl | (simp; done), (DD.moves (Moves.of_grown G9.out) (by have := HLT.out; simp; omega) (by have := HLT.out; simp; omega) (by have := HLT.out; simp; omega)), In.nil _ _, In.nil _ _, ⟨(fun a ha => by cases ha), (fun a ha => by cases ha)⟩, m.grown_ G9.out (by have := HBR.out; omega)⟩
  · rw [if_pos h0] at hR
    have HR1 := Hide.mk (read_bad 0 hd0 (by rw [ha0]; exact h0))
    rw [ha0] at HR1
    have HRR := Hide.mk hR.symm
    have q : (a0 != 0) = true := by simp [h0]
    clear hR ha0 ha1 hd0 h0
    go_enter Tryz.func72, Tryz.ntmps72
    go_wp2_with (first
      | (go_at_call 102
         rw [HBR.out, HW0.out]
         with_reducible refine HR1.out.mono ?_
         rintro e w2 ⟨rfl, hb⟩
         have B2 := Hide.mk hb
         have ROW2 := Hide.mk ((hb.block br (lt_of_row ROW0.out)).trans ROW0.out)
         clear hb)
      | (refine store_root rfl _ _ rfl br #[.int .i64 0, .int .i64 0, .int .i64 0, .int .i64 0, .slice none 0 0, .slice none 0 0] #[.int .i64 0, .int .i64 0, .int .i64 0, .int .i64 0, .slice none 0 0, .slice none 0 0] rfl rfl ROW2.out rfl rfl (by simp [Value.oneCell']) ?_
         intro w9 row9 hg9 hz9
         have ROW9 := Hide.mk row9
         have G9 := Hide.mk hg9
         clear row9 hg9 hz9))
    (try simp only [Exit.inBlock, Exit.then])
    refine bodyPost_ret (results_rootE rfl _ _ br #[.int .i64 0, .int .i64 0, .int .i64 0, .int .i64 0, .slice none 0 0, .slice none 0 0] rfl ROW9.out rfl) rfl ?_
    rw [HRR.out]
    have m := M0.out.trans (Moves.of_below B2.out [pd])
    have DD := D0.out.below B2.out
    exact ⟨none, 0, none, 0, by first | rfl | (simp; done), (DD.moves (Moves.of_grown G9.out) (by have := HLT.out; simp; omega) (by have := HLT.out; simp; omega) (by have := HLT.out; simp; omega)), In.nil _ _, In.nil _ _, ⟨(fun a ha => by cases ha), (fun a ha => by cases ha)⟩, m.grown_ G9.out (by have := HBR.out; omega)⟩
end Go.Proofs.YtgmkbcoahilkhaaGreat.Sh
end
section
namespace Go.Proofs.YtgmkbcoahilkhaaGreat.Sh
open Go.RowKit YtgmkbcoahilkhaaGreatW.PrintWords YtgmkbcoahilkhaaGreatW.PrintLast YtgmkbcoahilkhaaGreatW.PrintMore MapFn Disk Bitset Page PShadowPlays Num
set_option maxHeartbeats 8000000
set_option maxRecDepth 100000
theorem open_body (b : List Int) : (openL b).2.2.1 = [] ∨ ∃ n, (openL b).2.2.1 = (b.drop 6).take n := by
  unfold openL
  repeat' split
  all_goals first | exact .inl rfl | exact .inr ⟨_, rfl⟩
theorem open_body_bytes {b : List Int} (h : Bytes b) : Bytes (openL b).2.2.1 := by
  rcases open_body b with e | ⟨n, e⟩
  · rw [e]; intro x hx; cases hx
  · rw [e]; exact fun x hx => h x (List.mem_of_mem_drop (List.mem_of_mem_take hx))
theorem open_body_len {b : List Int} (h : b.length = 256) : (openL b).2.2.1.length ≤ 250 := by
  rcases open_body b with e | ⟨n, e⟩
  · rw [e]; simp
  · rw [e, List.length_take, List.length_drop]; omega
theorem Moves.of_low {B : Nat} {w w' : World} (hb : Below B w w') : Moves ((List.range w.heap.size).filter fun x => decide (B ≤ x)) w w' :=
  ⟨hb.os, hb.tape, hb.output, hb.size, fun k hk hn => hb.block k (by
    rcases Nat.lt_or_ge k B with h | h
    · exact h
    · exact absurd (by rw [List.mem_filter, List.mem_range]; exact ⟨hk, by simpa using h⟩) hn)⟩
theorem ShAt.beside {b : List Nat} {w w' : World} {F : Foot} {s : Sh} (h : ShAt w F s) (hm : Moves b w w') (ho : ∀ x ∈ F.own, ¬ x ∈ b) (hs : ∀ A ∈ F.slices, ∀ a, A = some a → ¬ a.block ∈ b) : ShAt w' F s :=
  ⟨(hm.block F.p (h.lts _ (by simp [Foot.own])) (ho _ (by simp [Foot.own]))).trans h.row, h.disk.moves hm (ho _ (by simp [Foot.own])) (ho _ (by simp [Foot.own])) (ho _ (by simp [Foot.own])),
   h.tables.moves hm (hs _ (by simp [Foot.slices])), h.maps.moves hm (hs _ (by simp [Foot.slices])), h.was.moves hm (hs _ (by simp [Foot.slices])), h.used.moves hm (hs _ (by simp [Foot.slices])), h.fresh.moves hm (hs _ (by simp [Foot.slices])), tab_moves h.table hm (ho _ (by simp [Foot.own])), h.ne, h.off⟩
theorem ShAt.low {B : Nat} {w w' : World} {F : Foot} {s : Sh} (h : ShAt w F s) (hb : Below B w w') (ho : ∀ x ∈ F.own, x < B) (hs : ∀ A ∈ F.slices, ∀ a, A = some a → a.block < B) : ShAt w' F s :=
  h.beside (Moves.of_low hb) (fun x hx hm => by have := ho x hx; have := (List.mem_filter.1 hm).2; simp at this; omega) (fun A hA a ha hm => by have := hs A hA a ha; have := (List.mem_filter.1 hm).2; simp at this; omega)
theorem Goes.low {w w' w'' : World} {F : Foot} (h : Goes F F w w') (hb : Below w.heap.size w' w'') : Goes F F w w'' := ⟨⟨rfl, rfl, rfl, fun x hx => .inl hx, Moves.trans_low h.moves hb⟩, Sl.refl _ _⟩
theorem gatherF_cons (kind n : Int) (ns : List Int) (i : Nat) (D : DiskSt) (out : List Int) : Sh.gatherF kind (n :: ns) i D out = if D.at_ n ≠ 0 then (D, [], D.at_ n)
    else if (openL (D.get n)).2.2.2 ≠ 0 ∨ (openL (D.get n)).1 ≠ kind ∨ (openL (D.get n)).2.1 ≠ i then (D.read, [], 4)
    else Sh.gatherF kind ns (i + 1) D.read (out ++ (openL (D.get n)).2.2.1) := by rw [Sh.gatherF]
theorem gather_any (kind : Int) (B : Option Addr) (cB : Nat) (bl : List Int) (w : World) (F : Foot) (s : Sh) (h : ShAt w F s) (hb : In .i64 w B bl cB) (hbo : ∀ a, B = some a → ¬ a.block ∈ F.own) (hwf : ∀ n ∈ bl, MapFn.wf n) (hB : ∀ n, Bytes (s.D.get n)) (hbl : bl.length ≤ 1000) :
    Calls Tryz.prog 73 #[.pointer (some ⟨F.p, 0, none⟩), .int .i64 kind, .slice B bl.length cB] w fun e w' => ∃ v, e = .returned (.tuple #[v, .int .i64 (gather s.D kind bl).2.2]) ∧ Kd.R (Kd.int .u8) 5 w' w.heap.size (fun k => ¬ k ∈ F.own) v (gather s.D kind bl).2.1 ∧ ShAt w' F { s with D := (gather s.D kind bl).1 } ∧ Goes F F w w' := by
  unfold gather
  obtain ⟨R, hR⟩ : ∃ R, Sh.gatherF kind bl 0 s.D [] = R := ⟨_, rfl⟩
  rw [hR]
  have HR := Hide.mk hR
  have HS := Hide.mk h
  have HBB := Hide.mk hb
  have HBO := Hide.mk hbo
  have HWF := Hide.mk hwf
  have HBY := Hide.mk hB
  have HBLN := Hide.mk hbl
  have HOWN := Hide.mk h.lts
  have HSL := Hide.mk h.slice_lt
  have hmx := hb.reads.2.1
  clear h hb hbo hwf hB hR
  go_enter Tryz.func73, Tryz.ntmps73
  go_wp2
  go_loopw [8, 18] (fun v8 v18 wr => ∃ (i : Nat) (Di : DiskSt) (out : List Int) (A8 : Option Addr) (n8 c8 : Nat), v18 = .int .i64 (i : Int) ∧ v8 = .slice A8 n8 c8 ∧ Hide (i ≤ bl.length) ∧ Hide (R = Sh.gatherF kind (bl.drop i) i Di out) ∧ Hide (ShAt wr F { s with D := Di }) ∧ Hide (Goes F F w wr) ∧ Hide (Kd.R (Kd.int .u8) 5 wr w.heap.size (fun k => ¬ k ∈ F.own) (.slice A8 n8 c8) out) ∧ Hide (out.length ≤ 250 * i) ∧ Hide (∀ n, Bytes (Di.get n))) (fun _ v18 _ => bl.length - (intOf v18).toNat)
  case atStart => exact ⟨0, s.D, [], none, 0, 0, by first | rfl | simp, rfl, ⟨Nat.zero_le _⟩, ⟨by rw [List.drop_zero]; exact HR.out.symm⟩, HS, ⟨Goes.refl _ _⟩, ⟨Kd.R_nil _ _ _ _ _⟩, ⟨Nat.zero_le _⟩, HBY⟩
  case round =>
    obtain ⟨i, Di, out, A8, n8, c8, rfl, rfl, hi, hRR, hS1, hG, hO, hZ, hBY⟩ := hrel
    have HS1 := hS1
    have HZ := hZ
    clear HS HR HBY hS1 hZ
    have hbl1 := HBLN.out
    by_cases hlt0 : i < bl.length
    · have hlt : (i : Int) < (bl.length : Int) := by omega
      have HBI := Hide.mk (HBB.out.moves hG.out.moves (fun a ha hx => HBO.out a ha hx))
      obtain ⟨ad, hA, hcell⟩ := Kd.at_int HBI.out.reads (i : Int) (by omega) hlt
      rw [Int.toNat_natCast] at hcell
      have hrd : rd bl (i : Int) = bl[i] := by simp [rd, List.getD_eq_getElem?_getD, hlt0]
      rw [hrd] at hcell
      have HXW := Hide.mk (HWF.out bl[i] (List.getElem_mem _))
      have E1 : Hide (bl.drop i = bl[i] :: bl.drop (i + 1)) := ⟨List.drop_eq_getElem_cons hlt0⟩
      generalize bl[i] = x at *
      subst hA
      have LT := Hide.mk hlt0
      have c0 : wr.cell? ⟨F.p, 0, none⟩ = some (.pointer (some ⟨F.pd, 0, none⟩)) := HS1.out.cells.c0
      have hR1 := hRR.out
      rw [E1.out, gatherF_cons] at hR1
      obtain ⟨a, ha⟩ : ∃ a, Di.at_ x = a := ⟨_, rfl⟩
      rw [ha] at hR1
      by_cases ha0 : a = 0
      · subst ha0
        rw [if_neg (by simp)] at hR1
        have HRD := Hide.mk (read_ok x HS1.out.disk HXW.out ha)
        rw [show ({ s with D := Di } : Sh).D = Di from rfl] at HRD
        obtain ⟨l, hl⟩ : ∃ l, Di.get x = l := ⟨_, rfl⟩
        have HLB : Hide (l.length = 256 ∧ Bytes l) := ⟨by rw [← hl]; exact ⟨DiskSt.get_len HS1.out.disk x, hBY.out x⟩⟩
        rw [hl] at hR1 HRD
        obtain ⟨o1, ho1⟩ : ∃ x, (openL l).1 = x := ⟨_, rfl⟩
        obtain ⟨o2, ho2⟩ : ∃ x, (openL l).2.1 = x := ⟨_, rfl⟩
        obtain ⟨o3, ho3⟩ : ∃ x, (openL l).2.2.1 = x := ⟨_, rfl⟩
        obtain ⟨o4, ho4⟩ : ∃ x, (openL l).2.2.2 = x := ⟨_, rfl⟩
        have HO := Hide.mk (And.intro ho1 (And.intro ho2 (And.intro ho3 ho4)))
        have HLO : Hide (o3.length ≤ 250) := ⟨by rw [← ho3]; exact open_body_len HLB.out.1⟩
        simp only [ho1, ho2, ho3, ho4] at hR1
        have HRR := Hide.mk hR1
        clear hR1 hRR ha hl ho1 ho2 ho3 ho4 hrd hlt0
        by_cases hq : o4 = 0
        · subst hq
          by_cases hk : o1 = kind
          · subst hk
            by_cases hj : o2 = (i : Int)
            · subst hj
              go_wp2_with (first
                | (go_at_call 102
                   with_reducible refine HRD.out.mono ?_
                   rintro e w2 ⟨g, rfl, hf, hd, hm⟩
                   have hs2 := HS1.out.disk_moves (ml' := F.ml) hd (.inl rfl) (hm.more (fun x hx => by simp only [List.mem_singleton] at hx; subst hx; left; simp))
                   have S2 := Hide.mk hs2.1
                   have G2 := Hide.mk hs2.2
                   have FR := Hide.mk hf
                   have SZ2 := Hide.mk hm.size
                   have O2 := Hide.mk (Kd.R_step hO.out (fun k ho hk => hm.block k hk (fun hx => ho (by simp only [List.mem_singleton] at hx; subst hx; simp [Foot.own]))))
                   have HOP := open_any (some ⟨g, 0, none⟩) 256 l w2 (C_of_row hf.row (by rw [HLB.out.1]; omega)) (by rw [HLB.out.1]; omega) HLB.out.2
                   rw [HLB.out.1, HO.out.1, HO.out.2.1, HO.out.2.2.1, HO.out.2.2.2] at HOP
                   have HOP1 := Hide.mk HOP
                   clear hs2 hf hd hm HOP)
                | (go_at_call 103
                   with_reducible refine HOP1.out.mono ?_
                   rintro e w4 ⟨v4, rfl, ho, hb4⟩
                   obtain ⟨A4, c4, hv4, hi4, hge4⟩ := In.of_own ho
                   obtain ⟨n4, hn4⟩ : ∃ n, o3.length = n := ⟨_, rfl⟩
                   rw [hn4] at hv4
                   subst hv4
                   have I4 := Hide.mk hi4
                   have GE4 := Hide.mk hge4
                   have B4 := Hide.mk hb4
                   have HN4 := Hide.mk hn4
                   have O4 := Hide.mk (Kd.R_below O2.out hb4)
                   clear ho hb4 hi4 hge4 hn4)
                | ((with_reducible refine gate_builtin (b := .append) (xs := #[.tmp 54, .tmp 55]) rfl ?_); at_builtin
                   go_loud (
                    refine Kd.R_append_rows (Kd.int .u8) (w0 := w4) w.heap.size rfl (.tmp 54) (.tmp 55) 22 5 (.int .u8 0) 1 rfl Tryz.underlying22 info8 rfl (by decide) (by omega) (.slice A8 n8 c8) out o3 A4 n4 c4 (fun k => ¬ k ∈ F.own) (fun _ => False) rfl rfl ?aO ?aR (fun _ _ h => h) (fun _ h => h.elim) ?aF (Below.refl _ _) ?aS ?aL ?_
                    case aO => exact O4.out
                    case aR => have h := I4.out.reads; rw [HN4.out] at h; exact h
                    case aF => exact (fun k hk hx => by have := HOWN.out k hx; have := hk; have := Nat.le_trans (Nat.le_trans hG.out.moves.size SZ2.out) B4.out.size; omega)
                    case aS => exact Nat.le_trans (Nat.le_trans hG.out.moves.size SZ2.out) B4.out.size
                    case aL => have := HN4.out; have := HZ.out; have := HLO.out; have := hi.out; have := HBLN.out; omega
                    intro v5 w5 ho hb hg hat
                    obtain ⟨A5, c5, hv5⟩ := Kd.R_slice ho
                    obtain ⟨n5, hn5⟩ : ∃ n, (out ++ o3).length = n := ⟨_, rfl⟩
                    rw [hn5] at hv5
                    subst hv5
                    have O5 := Hide.mk ho
                    have B5 := Hide.mk hb
                    have HN5 := Hide.mk hn5
                    have M5 := Hide.mk (grown_moves hg O4.out)
                    clear ho hb hg hat hn5
                    )))
              go_roundw
              case rel =>
                obtain ⟨ls, hmv, hls⟩ := M5.out
                have hG5 := (hG.out.trans G2.out).trans (Goes.below B4.out)
                have hsz : w4.heap.size ≤ w5.heap.size := B5.out.size
                exact ⟨i + 1, Di.read, out ++ o3, A5, n5, c5, by go_num, rfl, ⟨by have := LT.out; omega⟩, ⟨by rw [HRR.out, if_neg (by simp)]⟩, ⟨(S2.out.below B4.out).low B5.out HOWN.out HSL.out⟩, ⟨hG5.low B5.out⟩, O5, ⟨by rw [List.length_append]; have := HLO.out; have := HZ.out; omega⟩, hBY⟩
              case measure => have := LT.out; simp [intOf]; omega
            · have q : (o2 != (i : Int)) = true := by simp [hj]
              have HJ := Hide.mk hj
              clear hj
              go_wp2_with (first
                | (go_at_call 102
                   with_reducible refine HRD.out.mono ?_
                   rintro e w2 ⟨g, rfl, hf, hd, hm⟩
                   have hs2 := HS1.out.disk_moves (ml' := F.ml) hd (.inl rfl) (hm.more (fun x hx => by simp only [List.mem_singleton] at hx; subst hx; left; simp))
                   have S2 := Hide.mk hs2.1
                   have G2 := Hide.mk hs2.2
                   have FR := Hide.mk hf
                   have SZ2 := Hide.mk hm.size
                   have O2 := Hide.mk (Kd.R_step hO.out (fun k ho hk => hm.block k hk (fun hx => ho (by simp only [List.mem_singleton] at hx; subst hx; simp [Foot.own]))))
                   have HOP := open_any (some ⟨g, 0, none⟩) 256 l w2 (C_of_row hf.row (by rw [HLB.out.1]; omega)) (by rw [HLB.out.1]; omega) HLB.out.2
                   rw [HLB.out.1, HO.out.1, HO.out.2.1, HO.out.2.2.1, HO.out.2.2.2] at HOP
                   have HOP1 := Hide.mk HOP
                   clear hs2 hf hd hm HOP)
                | (go_at_call 103
                   with_reducible refine HOP1.out.mono ?_
                   rintro e w4 ⟨v4, rfl, ho, hb4⟩
                   obtain ⟨A4, c4, hv4, hi4, hge4⟩ := In.of_own ho
                   obtain ⟨n4, hn4⟩ : ∃ n, o3.length = n := ⟨_, rfl⟩
                   rw [hn4] at hv4
                   subst hv4
                   have I4 := Hide.mk hi4
                   have GE4 := Hide.mk hge4
                   have B4 := Hide.mk hb4
                   have HN4 := Hide.mk hn4
                   have O4 := Hide.mk (Kd.R_below O2.out hb4)
                   clear ho hb4 hi4 hge4 hn4))
              go_ret2
              rw [HRR.out, if_pos (.inr (.inr HJ.out))]
              exact ⟨_, rfl, Kd.R_nil _ _ _ _ _, S2.out.below B4.out, (hG.out.trans G2.out).trans (Goes.below B4.out)⟩
          · have q : (o1 != kind) = true := by simp [hk]
            have HK := Hide.mk hk
            clear hk
            go_wp2_with (first
              | (go_at_call 102
                 with_reducible refine HRD.out.mono ?_
                 rintro e w2 ⟨g, rfl, hf, hd, hm⟩
                 have hs2 := HS1.out.disk_moves (ml' := F.ml) hd (.inl rfl) (hm.more (fun x hx => by simp only [List.mem_singleton] at hx; subst hx; left; simp))
                 have S2 := Hide.mk hs2.1
                 have G2 := Hide.mk hs2.2
                 have FR := Hide.mk hf
                 have SZ2 := Hide.mk hm.size
                 have O2 := Hide.mk (Kd.R_step hO.out (fun k ho hk => hm.block k hk (fun hx => ho (by simp only [List.mem_singleton] at hx; subst hx; simp [Foot.own]))))
                 have HOP := open_any (some ⟨g, 0, none⟩) 256 l w2 (C_of_row hf.row (by rw [HLB.out.1]; omega)) (by rw [HLB.out.1]; omega) HLB.out.2
                 rw [HLB.out.1, HO.out.1, HO.out.2.1, HO.out.2.2.1, HO.out.2.2.2] at HOP
                 have HOP1 := Hide.mk HOP
                 clear hs2 hf hd hm HOP)
              | (go_at_call 103
                 with_reducible refine HOP1.out.mono ?_
                 rintro e w4 ⟨v4, rfl, ho, hb4⟩
                 obtain ⟨A4, c4, hv4, hi4, hge4⟩ := In.of_own ho
                 obtain ⟨n4, hn4⟩ : ∃ n, o3.length = n := ⟨_, rfl⟩
                 rw [hn4] at hv4
                 subst hv4
                 have I4 := Hide.mk hi4
                 have GE4 := Hide.mk hge4
                 have B4 := Hide.mk hb4
                 have HN4 := Hide.mk hn4
                 have O4 := Hide.mk (Kd.R_below O2.out hb4)
                 clear ho hb4 hi4 hge4 hn4))
            go_ret2
            rw [HRR.out, if_pos (.inr (.inl HK.out))]
            exact ⟨_, rfl, Kd.R_nil _ _ _ _ _, S2.out.below B4.out, (hG.out.trans G2.out).trans (Goes.below B4.out)⟩
        · have q : (o4 != 0) = true := by simp [hq]
          have HQ := Hide.mk hq
          clear hq
          go_wp2_with (first
            | (go_at_call 102
               with_reducible refine HRD.out.mono ?_
               rintro e w2 ⟨g, rfl, hf, hd, hm⟩
               have hs2 := HS1.out.disk_moves (ml' := F.ml) hd (.inl rfl) (hm.more (fun x hx => by simp only [List.mem_singleton] at hx; subst hx; left; simp))
               have S2 := Hide.mk hs2.1
               have G2 := Hide.mk hs2.2
               have FR := Hide.mk hf
               have SZ2 := Hide.mk hm.size
               have O2 := Hide.mk (Kd.R_step hO.out (fun k ho hk => hm.block k hk (fun hx => ho (by simp only [List.mem_singleton] at hx; subst hx; simp [Foot.own]))))
               have HOP := open_any (some ⟨g, 0, none⟩) 256 l w2 (C_of_row hf.row (by rw [HLB.out.1]; omega)) (by rw [HLB.out.1]; omega) HLB.out.2
               rw [HLB.out.1, HO.out.1, HO.out.2.1, HO.out.2.2.1, HO.out.2.2.2] at HOP
               have HOP1 := Hide.mk HOP
               clear hs2 hf hd hm HOP)
            | (go_at_call 103
               with_reducible refine HOP1.out.mono ?_
               rintro e w4 ⟨v4, rfl, ho, hb4⟩
               obtain ⟨A4, c4, hv4, hi4, hge4⟩ := In.of_own ho
               obtain ⟨n4, hn4⟩ : ∃ n, o3.length = n := ⟨_, rfl⟩
               rw [hn4] at hv4
               subst hv4
               have I4 := Hide.mk hi4
               have GE4 := Hide.mk hge4
               have B4 := Hide.mk hb4
               have HN4 := Hide.mk hn4
               have O4 := Hide.mk (Kd.R_below O2.out hb4)
               clear ho hb4 hi4 hge4 hn4))
          go_ret2
          rw [HRR.out, if_pos (.inl HQ.out)]
          exact ⟨_, rfl, Kd.R_nil _ _ _ _ _, S2.out.below B4.out, (hG.out.trans G2.out).trans (Goes.below B4.out)⟩
      · rw [if_pos ha0] at hR1
        have HRD := read_bad x HS1.out.disk (by show Di.at_ x ≠ 0; rw [ha]; exact ha0)
        rw [show ({ s with D := Di } : Sh).D = Di from rfl, ha] at HRD
        have HRD1 := Hide.mk HRD
        have q : (a != 0) = true := by simp [ha0]
        have HRR := Hide.mk hR1
        clear hR1 hRR ha ha0 HRD hrd hlt0
        go_wp2_with (go_at_call 102; with_reducible refine HRD1.out.mono ?_; rintro e w2 ⟨rfl, hb⟩; have B2 := Hide.mk hb; clear hb)
        go_ret2
        rw [HRR.out]
        exact ⟨_, rfl, Kd.R_nil _ _ _ _ _, HS1.out.below B2.out, hG.out.trans (Goes.below B2.out)⟩
    · have hlt : ¬ (i : Int) < (bl.length : Int) := by omega
      have E := Hide.mk (show i = bl.length by have := hi.out; omega)
      clear hlt0
      go_wp2
      go_ret2
      have e : R = (Di, out, 0) := by
        rw [hRR.out, E.out, List.drop_length]
        rfl
      rw [e]
      exact ⟨_, rfl, hO.out, HS1.out, hG.out⟩
end Go.Proofs.YtgmkbcoahilkhaaGreat.Sh
end
