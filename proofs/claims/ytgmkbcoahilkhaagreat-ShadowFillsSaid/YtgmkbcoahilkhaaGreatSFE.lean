/- The words, and the contracts of the functions that are reached, one behind the other. -/
import Derived.Test.YtgmkbcoahilkhaaGreatSFD
section
namespace Go.Proofs.YtgmkbcoahilkhaaGreat.Sh
open Go.RowKit Go.Proofs.YtgmkbcoahilkhaaGreatW.PrintWords Go.Proofs.YtgmkbcoahilkhaaGreatW.PrintLast Go.Proofs.YtgmkbcoahilkhaaGreatW.PrintMore Go.Proofs.YtgmkbcoahilkhaaGreat.MapFn Go.Proofs.YtgmkbcoahilkhaaGreat.Disk Go.Proofs.YtgmkbcoahilkhaaGreat.Bitset Go.Proofs.YtgmkbcoahilkhaaGreat.Page Go.Proofs.YtgmkbcoahilkhaaGreat.PShadowPlays Go.Proofs.YtgmkbcoahilkhaaGreat.Num
set_option linter.unusedVariables false
set_option linter.unusedSimpArgs false
set_option maxHeartbeats 8000000
set_option maxRecDepth 100000
def T72_8 : Bool × List (List Nat × List Nat) := (true, [([], []), ([0], [0]), ([1], [1]), ([2], [2]), ([3, 2], [2, 3]), ([2], [2]), ([5, 2, 2], [2, 5]), ([4, 6, 2], [2, 4, 6]), ([2, 7], [2, 7])])
def B72_8 : List Nat := [0, 1, 3, 7, 15, 7, 39, 127, 255]
theorem tab72_8 : rtab .any (opsOf Tryz.f72 8) = T72_8 := by kernel_rfl
theorem bits72_8 : waitsOk T72_8.2 B72_8 = true := by kernel_rfl
theorem _root_.Go.Proofs.YtgmkbcoahilkhaaGreat.Disk.Moves.grown_ {l : List Nat} {a b c : World} {g : Nat} (h : Moves l a b) (k : b.grownBy c (some g)) (hg : a.heap.size ≤ g) : Moves l a c :=
  ⟨k.os.trans h.os, k.tape.trans h.tape, k.output.trans h.output, Nat.le_trans h.size k.size, fun j hj hn => (k.block j (Nat.lt_of_lt_of_le hj h.size) (fun e => by have := Option.some.inj e; omega)).trans (h.block j hj hn)⟩
theorem roots_any (pd ms ml : Nat) (D : DiskSt) (w : World) (h : DiskAt w pd ms ml D) (hB : ∀ n, Bytes (D.get n)) :
    Calls Tryz.prog 72 #[.pointer (some ⟨pd, 0, none⟩)] w fun e w' => ∃ tA tc mA mc, e = .returned (.tuple #[(roots D).2.1.val tA tc mA mc, .int .i64 (roots D).2.2]) ∧ DiskAt w' pd ms ml (roots D).1 ∧ In .i64 w' tA (roots D).2.1.tables tc ∧ In .i64 w' mA (roots D).2.1.maps mc ∧ ((∀ a, tA = some a → w.heap.size ≤ a.block) ∧ ∀ a, mA = some a → w.heap.size ≤ a.block) ∧ Moves [pd] w w' := by
  obtain ⟨R, hR⟩ : ∃ R, roots D = R := ⟨_, rfl⟩
  rw [hR]
  unfold roots at hR
  have hB0 := (Below.refl w.heap.size w).alloc (Nat.le_refl _) (.cells #[.int .i64 0, .int .i64 0, .int .i64 0, .int .i64 0, .slice none 0 0, .slice none 0 0] 65)
  have row0 := heap_last w (.cells #[.int .i64 0, .int .i64 0, .int .i64 0, .int .i64 0, .slice none 0 0, .slice none 0 0] 65)
  have hlt0 := lt_of_row h.row
  have hlt1 := h.safe.lt
  have hlt2 := h.loose.lt
  obtain ⟨W0, hW0⟩ : ∃ W, w.alloc (.cells #[.int .i64 0, .int .i64 0, .int .i64 0, .int .i64 0, .slice none 0 0, .slice none 0 0] 65) = W := ⟨_, rfl⟩
  rw [hW0] at hB0 row0
  have hz0 : W0.heap.size = w.heap.size + 1 := by rw [← hW0]; simp
  have hm0 := Moves.of_below hB0 [pd]
  obtain ⟨br, hbr⟩ : ∃ br, w.heap.size = br := ⟨_, rfl⟩
  have HBR := Hide.mk hbr
  rw [hbr] at row0 hlt0 hlt1 hlt2 hz0
  have hd0 := h.below hB0
  have ROW0 := Hide.mk row0
  have HLT := Hide.mk (And.intro hlt0 (And.intro hlt1 hlt2))
  have HZ0 := Hide.mk hz0
  have M0 := Hide.mk hm0
  have D0 := Hide.mk hd0
  have HBY := Hide.mk hB
  have HW0 := Hide.mk hW0
  have w0 : MapFn.wf 0 := by unfold MapFn.wf; decide
  have w1 : MapFn.wf 1 := by unfold MapFn.wf; decide
  have HWF := Hide.mk (And.intro w0 w1)
  clear h hB hB0 row0 hlt0 hlt1 hlt2 hz0 hm0 w0 w1 hbr hW0
  obtain ⟨a0, ha0⟩ : ∃ a, D.at_ 0 = a := ⟨_, rfl⟩
  obtain ⟨a1, ha1⟩ : ∃ a, D.read.at_ 1 = a := ⟨_, rfl⟩
  rw [ha0, ha1] at hR
  by_cases h0 : a0 = 0
  · subst h0
    have HR1 := Hide.mk (read_ok 0 hd0 HWF.out.1 ha0)
    rw [if_neg (by simp)] at hR
    by_cases h1 : a1 = 0
    · subst h1
      rw [if_neg (by simp)] at hR
      obtain ⟨q, c2, c3, hc⟩ : ∃ c1 c2 c3, Root.choose (D.get 0) (D.read.get 1) = (c1, c2, c3) := ⟨_, _, _, rfl⟩
      rw [hc] at hR
      simp only at hR
      have HC := Hide.mk hc
      have HA1 := Hide.mk ha1
      have HRR := Hide.mk hR.symm
      clear hR hc ha0 ha1 hd0
      by_cases e0 : c3 = 0
      · subst e0
        by_cases hbl : q.blocks = D.blocks
        · have HBL := Hide.mk hbl
          have hb1 : (q.blocks != D.blocks) = false := by simp [hbl]
          clear hbl
          go_enter Tryz.func72, Tryz.ntmps72
          go_wp2_with (first
            | (go_at_call 102
               rw [HBR.out, HW0.out]
               with_reducible refine HR1.out.mono ?_
               rintro e w1 ⟨g1, rfl, hf, hd, hm⟩
               have F1 := Hide.mk hf
               have D1 := Hide.mk hd
               have M1 := Hide.mk hm
               have ROW1 := Hide.mk ((hm.block br (lt_of_row ROW0.out) (by have := HLT.out; simp; omega)).trans ROW0.out)
               have HR2 := Hide.mk (read_ok 1 hd HWF.out.2 HA1.out)
               clear hf hd hm)
            | (go_at_call 102
               with_reducible refine HR2.out.mono ?_
               rintro e w2 ⟨g2, rfl, hf, hd, hm⟩
               have D2 := Hide.mk hd
               have M2 := Hide.mk ((M0.out.trans M1.out).trans hm)
               have row1 := (hm.block g1 (lt_of_row F1.out.row) (by have := F1.out.new; have := HLT.out; have := HZ0.out; simp; omega)).trans F1.out.row
               have row2 := hf.row
               have ROW2 := Hide.mk ((hm.block br (lt_of_row ROW1.out) (by have := HLT.out; simp; omega)).trans ROW1.out)
               have l1 := DiskSt.get_len D0.out 0
               have l2 := DiskSt.get_len D0.out 1
               have HCH0 := choose_any (D.get 0) (D.get 1) g1 0 256 g2 0 256 w2 ⟨C_of_row row1 (by omega), (by omega), (fun a ha => by cases ha; exact lt_of_row row1)⟩ ⟨C_of_row (l := D.get 1) row2 (by omega), (by omega), (fun a ha => by cases ha; exact lt_of_row row2)⟩ l1 l2 (HBY.out 0) (HBY.out 1)
               rw [show Root.choose (D.get 0) (D.get 1) = _ from HC.out] at HCH0
               unfold Root.val at HCH0
               have HCH := Hide.mk HCH0
               clear hf hd hm row1 row2 l1 l2 HCH0)
            | (go_at_call 110
               with_reducible refine HCH.out.mono ?_
               rintro e w3 ⟨tA, tc, mA, mc, rfl, hT, hM, hG, hb⟩
               have IT3 := Hide.mk hT
               have IM3 := Hide.mk hM
               have GG3 := Hide.mk hG
               have D3 := Hide.mk (D2.out.below hb)
               have M3 := Hide.mk (M2.out.trans (Moves.of_below hb [pd]))
               have ROW3 := Hide.mk ((hb.block br (lt_of_row ROW2.out)).trans ROW2.out)
               have SZ2 : Hide (br < w2.heap.size) := ⟨lt_of_row ROW2.out⟩
               clear hT hM hG hb))
          obtain ⟨W4, hW4⟩ : ∃ W, w3.alloc (.cells #[.int .i64 q.epoch, .int .i64 q.blocks, .int .i64 q.next, .int .i64 q.start, .slice tA q.tables.length tc, .slice mA q.maps.length mc] 65) = W := ⟨_, rfl⟩
          rw [hW4]
          have hal := (Below.refl w3.heap.size w3).alloc (Nat.le_refl _) (.cells #[.int .i64 q.epoch, .int .i64 q.blocks, .int .i64 q.next, .int .i64 q.start, .slice tA q.tables.length tc, .slice mA q.maps.length mc] 65)
          have rowq := heap_last w3 (.cells #[.int .i64 q.epoch, .int .i64 q.blocks, .int .i64 q.next, .int .i64 q.start, .slice tA q.tables.length tc, .slice mA q.maps.length mc] 65)
          rw [hW4] at hal rowq
          have B4 := Hide.mk (hal.trans ((below_drew (Below.refl W4.heap.size W4)).mono hal.size))
          obtain ⟨br2, hbr2⟩ : ∃ b, w3.heap.size = b := ⟨_, rfl⟩
          rw [hbr2] at rowq ⊢
          have RQ := Hide.mk (show W4.drew.heap[br2]? = _ from rowq)
          have KC : W4.drew.cell? ⟨br2, 1, none⟩ = some (.int .i64 q.blocks) := cell_of rowq
          have HBK0 := Blocks_any (D3.out.below B4.out)
          rw [show D.read.read.blocks = D.blocks from rfl] at HBK0
          have HBK := Hide.mk HBK0
          clear hal rowq hW4 hbr2 HBK0
          refine start_ (n := 9) (S := fun w' => w'.cell? ⟨br2, 1, none⟩ = some (.int .i64 q.blocks)) (ds := []) #[false, false, false, false, false, false, false, false, false] (by kernel_rfl) rfl rfl KC (fun hHeld => ?_); refine with_tabW tab72_8 bits72_8 (fun HT_ HW_ => ?_)
          refine pure_ (i := 0) (N := some 34) (v := ?_) (a' := ?_) #[true, false, false, false, false, false, false, false, false] rfl rfl (any_of HT_.out (by kernel_rfl)) (fun _ _ _ h => h) (Or.inl ⟨by rfl, ?_⟩) ?_ ?_
          rotate_left
          · intro w'
            go_simp
            with_reducible rfl
          rotate_left
          · simp only [Act.put, List.setIfInBounds_toArray, List.set_cons_zero, List.set_cons_succ, i64_w, i32_w]
            rfl
          refine pure_ (i := 1) (N := some 35) (v := ?_) (a' := ?_) #[true, true, false, false, false, false, false, false, false] rfl rfl (any_of HT_.out (by kernel_rfl)) (fun _ _ _ h => h) (Or.inl ⟨by rfl, ?_⟩) ?_ ?_
          rotate_left
          · intro w'
            go_simp
            with_reducible rfl
          rotate_left
          · simp only [Act.put, List.setIfInBounds_toArray, List.set_cons_zero, List.set_cons_succ, i64_w, i32_w]
            rfl
          refine pure_ (i := 2) (N := some 36) (v := ?_) (a' := ?_) #[true, true, true, false, false, false, false, false, false] rfl rfl (any_of HT_.out (by kernel_rfl)) (fun _ _ _ h => h) (Or.inl ⟨by rfl, ?_⟩) ?_ ?_
          rotate_left
          · intro w'
            go_simp
            with_reducible rfl
          rotate_left
          · simp only [Act.put, List.setIfInBounds_toArray, List.set_cons_zero, List.set_cons_succ, i64_w, i32_w]
            rfl
          refine pure_ (i := 3) (N := some 37) (v := ?_) (a' := ?_) #[true, true, true, true, false, false, false, false, false] rfl rfl (any_of HT_.out (by kernel_rfl)) (fun _ _ _ h => h) (Or.inl ⟨by rfl, ?_⟩) ?_ ?_
          rotate_left
          · intro w'
            go_simp
            with_reducible rfl
          rotate_left
          · simp only [Act.put, List.setIfInBounds_toArray, List.set_cons_zero, List.set_cons_succ, i64_w, i32_w]
            rfl
          refine take_ (i := 4) (N := some 38) (v := ?_) (a' := ?_) #[true, true, true, true, true, false, false, false, false] rfl rfl (take_ofW HT_.out HW_.out (by kernel_rfl)) (fun _ _ _ h => h) (Or.inl ⟨by rfl, ?_⟩) hHeld ?_ ?_
          rotate_left
          · intro w' hS'
            have s1 := hS'
            go_simp
            rfl
          rotate_left
          · simp only [Act.put, List.setIfInBounds_toArray, List.set_cons_zero, List.set_cons_succ, i64_w, i32_w]
            rfl
          refine pure_ (i := 5) (N := some 39) (v := ?_) (a' := ?_) #[true, true, true, true, true, true, false, false, false] rfl rfl (any_of HT_.out (by kernel_rfl)) (fun _ _ _ h => h) (Or.inl ⟨by rfl, ?_⟩) ?_ ?_
          rotate_left
          · intro w'
            go_simp
            with_reducible rfl
          rotate_left
          · simp only [Act.put, List.setIfInBounds_toArray, List.set_cons_zero, List.set_cons_succ, i64_w, i32_w]
            rfl
          refine one_ (i := 6) (N := some 40) #[true, true, true, true, true, true, true, false, false] rfl rfl (one_of HT_.out (by kernel_rfl)) (by decide) (fun K hK => ?_)
          refine goes_ Tryz.func43 (by kernel_rfl) rfl #[.pointer (some ⟨pd, 0, none⟩)] (by rfl) rfl rfl (by (try simp only [List.map_toArray, List.map_cons, List.map_nil]); first | done | rfl) ?_
          with_reducible refine HBK.out.mono ?_
          rintro e wB ⟨rfl, hwB⟩
          have hwB1 := hwB.symm
          subst hwB1
          refine ⟨_, rfl, ?_⟩
          refine hK.out _ _ KC (fun hHeld => ?_)
          clear hK K
          refine norm_ (a' := ?_) ?_ ?_
          rotate_left
          · show Act.put _ (some 40) _ = _
            simp only [Act.put, List.setIfInBounds_toArray, List.set_cons_zero, List.set_cons_succ, i64_w, i32_w]
            rfl
          refine pure_ (i := 7) (N := some 41) (v := ?_) (a' := ?_) #[true, true, true, true, true, true, true, true, false] rfl rfl (any_of HT_.out (by kernel_rfl)) (fun _ _ _ h => h) (Or.inl ⟨by rfl, ?_⟩) ?_ ?_
          rotate_left
          · intro w'
            go_simp
            with_reducible rfl
          rotate_left
          · simp only [Act.put, List.setIfInBounds_toArray, List.set_cons_zero, List.set_cons_succ, i64_w, i32_w]
            rfl
          refine pure_ (i := 8) (N := some 42) (v := ?_) (a' := ?_) #[true, true, true, true, true, true, true, true, true] rfl rfl (any_of HT_.out (by kernel_rfl)) (fun _ _ _ h => h) (Or.inl ⟨by rfl, ?_⟩) ?_ ?_
          rotate_left
          · intro w'
            go_simp
            with_reducible rfl
          rotate_left
          · simp only [Act.put, List.setIfInBounds_toArray, List.set_cons_zero, List.set_cons_succ, i64_w, i32_w]
            rfl
          refine done_ (done_of HT_.out (by kernel_rfl)) ?_
          clear KC hHeld
          have D4 := Hide.mk (D3.out.below B4.out)
          have M4 := Hide.mk (M3.out.trans (Moves.of_below B4.out [pd]))
          have ROW4 := Hide.mk ((B4.out.block br (lt_of_row ROW3.out)).trans ROW3.out)
          have IT4 := Hide.mk (IT3.out.below B4.out)
          have IM4 := Hide.mk (IM3.out.below B4.out)
          go_wp2_with (first
            | (refine load_root rfl _ rfl br2 #[.int .i64 q.epoch, .int .i64 q.blocks, .int .i64 q.next, .int .i64 q.start, .slice tA q.tables.length tc, .slice mA q.maps.length mc] rfl RQ.out rfl ?_)
            | (refine store_root rfl _ _ rfl br #[.int .i64 0, .int .i64 0, .int .i64 0, .int .i64 0, .slice none 0 0, .slice none 0 0] #[.int .i64 q.epoch, .int .i64 q.blocks, .int .i64 q.next, .int .i64 q.start, .slice tA q.tables.length tc, .slice mA q.maps.length mc] rfl rfl ROW4.out rfl rfl (by simp [Value.oneCell']) ?_
               intro w9 row9 hg9 hz9
               have ROW9 := Hide.mk row9
               have G9 := Hide.mk hg9
               clear row9 hg9 hz9))
          (try simp only [Exit.inBlock, Exit.then])
          refine bodyPost_ret (results_rootE rfl _ _ br #[.int .i64 q.epoch, .int .i64 q.blocks, .int .i64 q.next, .int .i64 q.start, .slice tA q.tables.length tc, .slice mA q.maps.length mc] rfl ROW9.out rfl) rfl ?_
          rw [HRR.out, if_neg (fun h => h.2 HBL.out)]
          have hne : ∀ a : Addr, br + 1 ≤ a.block → ¬ a.block ∈ [br] := fun a ha hx => by simp at hx; omega
          exact ⟨tA, tc, mA, mc, by first | rfl | (simp; done), (D4.out.moves (Moves.of_grown G9.out) (by have := HLT.out; simp; omega) (by have := HLT.out; simp; omega) (by have := HLT.out; simp; omega)), IT4.out.moves (Moves.of_grown G9.out) (fun a ha => hne a (by have := GG3.out.1 a ha; have := SZ2.out; omega)), IM4.out.moves (Moves.of_grown G9.out) (fun a ha => hne a (by have := GG3.out.2 a ha; have := SZ2.out; omega)), ⟨(fun a ha => by have := GG3.out.1 a ha; have := SZ2.out; have := HBR.out; omega), (fun a ha => by have := GG3.out.2 a ha; have := SZ2.out; have := HBR.out; omega)⟩, M4.out.grown_ G9.out (by have := HBR.out; omega)⟩
        · have HBL := Hide.mk hbl
          have hb1 : (q.blocks != D.blocks) = true := by simp [hbl]
          clear hbl
          go_enter Tryz.func72, Tryz.ntmps72
          go_wp2_with (first
            | (go_at_call 102
               rw [HBR.out, HW0.out]
               with_reducible refine HR1.out.mono ?_
               rintro e w1 ⟨g1, rfl, hf, hd, hm⟩
               have F1 := Hide.mk hf
               have D1 := Hide.mk hd
               have M1 := Hide.mk hm
               have ROW1 := Hide.mk ((hm.block br (lt_of_row ROW0.out) (by have := HLT.out; simp; omega)).trans ROW0.out)
               have HR2 := Hide.mk (read_ok 1 hd HWF.out.2 HA1.out)
               clear hf hd hm)
            | (go_at_call 102
               with_reducible refine HR2.out.mono ?_
               rintro e w2 ⟨g2, rfl, hf, hd, hm⟩
               have D2 := Hide.mk hd
               have M2 := Hide.mk ((M0.out.trans M1.out).trans hm)
               have row1 := (hm.block g1 (lt_of_row F1.out.row) (by have := F1.out.new; have := HLT.out; have := HZ0.out; simp; omega)).trans F1.out.row
               have row2 := hf.row
               have ROW2 := Hide.mk ((hm.block br (lt_of_row ROW1.out) (by have := HLT.out; simp; omega)).trans ROW1.out)
               have l1 := DiskSt.get_len D0.out 0
               have l2 := DiskSt.get_len D0.out 1
               have HCH0 := choose_any (D.get 0) (D.get 1) g1 0 256 g2 0 256 w2 ⟨C_of_row row1 (by omega), (by omega), (fun a ha => by cases ha; exact lt_of_row row1)⟩ ⟨C_of_row (l := D.get 1) row2 (by omega), (by omega), (fun a ha => by cases ha; exact lt_of_row row2)⟩ l1 l2 (HBY.out 0) (HBY.out 1)
               rw [show Root.choose (D.get 0) (D.get 1) = _ from HC.out] at HCH0
               unfold Root.val at HCH0
               have HCH := Hide.mk HCH0
               clear hf hd hm row1 row2 l1 l2 HCH0)
            | (go_at_call 110
               with_reducible refine HCH.out.mono ?_
               rintro e w3 ⟨tA, tc, mA, mc, rfl, hT, hM, hG, hb⟩
               have IT3 := Hide.mk hT
               have IM3 := Hide.mk hM
               have GG3 := Hide.mk hG
               have D3 := Hide.mk (D2.out.below hb)
               have M3 := Hide.mk (M2.out.trans (Moves.of_below hb [pd]))
               have ROW3 := Hide.mk ((hb.block br (lt_of_row ROW2.out)).trans ROW2.out)
               have SZ2 : Hide (br < w2.heap.size) := ⟨lt_of_row ROW2.out⟩
               clear hT hM hG hb))
          obtain ⟨W4, hW4⟩ : ∃ W, w3.alloc (.cells #[.int .i64 q.epoch, .int .i64 q.blocks, .int .i64 q.next, .int .i64 q.start, .slice tA q.tables.length tc, .slice mA q.maps.length mc] 65) = W := ⟨_, rfl⟩
          rw [hW4]
          have hal := (Below.refl w3.heap.size w3).alloc (Nat.le_refl _) (.cells #[.int .i64 q.epoch, .int .i64 q.blocks, .int .i64 q.next, .int .i64 q.start, .slice tA q.tables.length tc, .slice mA q.maps.length mc] 65)
          have rowq := heap_last w3 (.cells #[.int .i64 q.epoch, .int .i64 q.blocks, .int .i64 q.next, .int .i64 q.start, .slice tA q.tables.length tc, .slice mA q.maps.length mc] 65)
          rw [hW4] at hal rowq
          have B4 := Hide.mk (hal.trans ((below_drew (Below.refl W4.heap.size W4)).mono hal.size))
          obtain ⟨br2, hbr2⟩ : ∃ b, w3.heap.size = b := ⟨_, rfl⟩
          rw [hbr2] at rowq ⊢
          have RQ := Hide.mk (show W4.drew.heap[br2]? = _ from rowq)
          have KC : W4.drew.cell? ⟨br2, 1, none⟩ = some (.int .i64 q.blocks) := cell_of rowq
          have HBK0 := Blocks_any (D3.out.below B4.out)
          rw [show D.read.read.blocks = D.blocks from rfl] at HBK0
          have HBK := Hide.mk HBK0
          clear hal rowq hW4 hbr2 HBK0
          refine start_ (n := 9) (S := fun w' => w'.cell? ⟨br2, 1, none⟩ = some (.int .i64 q.blocks)) (ds := []) #[false, false, false, false, false, false, false, false, false] (by kernel_rfl) rfl rfl KC (fun hHeld => ?_); refine with_tabW tab72_8 bits72_8 (fun HT_ HW_ => ?_)
          refine pure_ (i := 0) (N := some 34) (v := ?_) (a' := ?_) #[true, false, false, false, false, false, false, false, false] rfl rfl (any_of HT_.out (by kernel_rfl)) (fun _ _ _ h => h) (Or.inl ⟨by rfl, ?_⟩) ?_ ?_
          rotate_left
          · intro w'
            go_simp
            with_reducible rfl
          rotate_left
          · simp only [Act.put, List.setIfInBounds_toArray, List.set_cons_zero, List.set_cons_succ, i64_w, i32_w]
            rfl
          refine pure_ (i := 1) (N := some 35) (v := ?_) (a' := ?_) #[true, true, false, false, false, false, false, false, false] rfl rfl (any_of HT_.out (by kernel_rfl)) (fun _ _ _ h => h) (Or.inl ⟨by rfl, ?_⟩) ?_ ?_
          rotate_left
          · intro w'
            go_simp
            with_reducible rfl
          rotate_left
          · simp only [Act.put, List.setIfInBounds_toArray, List.set_cons_zero, List.set_cons_succ, i64_w, i32_w]
            rfl
          refine pure_ (i := 2) (N := some 36) (v := ?_) (a' := ?_) #[true, true, true, false, false, false, false, false, false] rfl rfl (any_of HT_.out (by kernel_rfl)) (fun _ _ _ h => h) (Or.inl ⟨by rfl, ?_⟩) ?_ ?_
          rotate_left
          · intro w'
            go_simp
            with_reducible rfl
          rotate_left
          · simp only [Act.put, List.setIfInBounds_toArray, List.set_cons_zero, List.set_cons_succ, i64_w, i32_w]
            rfl
          refine pure_ (i := 3) (N := some 37) (v := ?_) (a' := ?_) #[true, true, true, true, false, false, false, false, false] rfl rfl (any_of HT_.out (by kernel_rfl)) (fun _ _ _ h => h) (Or.inl ⟨by rfl, ?_⟩) ?_ ?_
          rotate_left
          · intro w'
            go_simp
            with_reducible rfl
          rotate_left
          · simp only [Act.put, List.setIfInBounds_toArray, List.set_cons_zero, List.set_cons_succ, i64_w, i32_w]
            rfl
          refine take_ (i := 4) (N := some 38) (v := ?_) (a' := ?_) #[true, true, true, true, true, false, false, false, false] rfl rfl (take_ofW HT_.out HW_.out (by kernel_rfl)) (fun _ _ _ h => h) (Or.inl ⟨by rfl, ?_⟩) hHeld ?_ ?_
          rotate_left
          · intro w' hS'
            have s1 := hS'
            go_simp
            rfl
          rotate_left
          · simp only [Act.put, List.setIfInBounds_toArray, List.set_cons_zero, List.set_cons_succ, i64_w, i32_w]
            rfl
          refine pure_ (i := 5) (N := some 39) (v := ?_) (a' := ?_) #[true, true, true, true, true, true, false, false, false] rfl rfl (any_of HT_.out (by kernel_rfl)) (fun _ _ _ h => h) (Or.inl ⟨by rfl, ?_⟩) ?_ ?_
          rotate_left
          · intro w'
            go_simp
            with_reducible rfl
          rotate_left
          · simp only [Act.put, List.setIfInBounds_toArray, List.set_cons_zero, List.set_cons_succ, i64_w, i32_w]
            rfl
          refine one_ (i := 6) (N := some 40) #[true, true, true, true, true, true, true, false, false] rfl rfl (one_of HT_.out (by kernel_rfl)) (by decide) (fun K hK => ?_)
          refine goes_ Tryz.func43 (by kernel_rfl) rfl #[.pointer (some ⟨pd, 0, none⟩)] (by rfl) rfl rfl (by (try simp only [List.map_toArray, List.map_cons, List.map_nil]); first | done | rfl) ?_
          with_reducible refine HBK.out.mono ?_
          rintro e wB ⟨rfl, hwB⟩
          have hwB1 := hwB.symm
          subst hwB1
          refine ⟨_, rfl, ?_⟩
          refine hK.out _ _ KC (fun hHeld => ?_)
          clear hK K
          refine norm_ (a' := ?_) ?_ ?_
          rotate_left
          · show Act.put _ (some 40) _ = _
            simp only [Act.put, List.setIfInBounds_toArray, List.set_cons_zero, List.set_cons_succ, i64_w, i32_w]
            rfl
          refine pure_ (i := 7) (N := some 41) (v := ?_) (a' := ?_) #[true, true, true, true, true, true, true, true, false] rfl rfl (any_of HT_.out (by kernel_rfl)) (fun _ _ _ h => h) (Or.inl ⟨by rfl, ?_⟩) ?_ ?_
          rotate_left
          · intro w'
            go_simp
            with_reducible rfl
          rotate_left
          · simp only [Act.put, List.setIfInBounds_toArray, List.set_cons_zero, List.set_cons_succ, i64_w, i32_w]
            rfl
          refine pure_ (i := 8) (N := some 42) (v := ?_) (a' := ?_) #[true, true, true, true, true, true, true, true, true] rfl rfl (any_of HT_.out (by kernel_rfl)) (fun _ _ _ h => h) (Or.inl ⟨by rfl, ?_⟩) ?_ ?_
          rotate_left
          · intro w'
            go_simp
            with_reducible rfl
          rotate_left
          · simp only [Act.put, List.setIfInBounds_toArray, List.set_cons_zero, List.set_cons_succ, i64_w, i32_w]
            rfl
          refine done_ (done_of HT_.out (by kernel_rfl)) ?_
          clear KC hHeld
          have D4 := Hide.mk (D3.out.below B4.out)
          have M4 := Hide.mk (M3.out.trans (Moves.of_below B4.out [pd]))
          have ROW4 := Hide.mk ((B4.out.block br (lt_of_row ROW3.out)).trans ROW3.out)
          have IT4 := Hide.mk (IT3.out.below B4.out)
          have IM4 := Hide.mk (IM3.out.below B4.out)
          go_wp2_with (first
            | (refine load_root rfl _ rfl br2 #[.int .i64 q.epoch, .int .i64 q.blocks, .int .i64 q.next, .int .i64 q.start, .slice tA q.tables.length tc, .slice mA q.maps.length mc] rfl RQ.out rfl ?_)
            | (refine store_root rfl _ _ rfl br #[.int .i64 0, .int .i64 0, .int .i64 0, .int .i64 0, .slice none 0 0, .slice none 0 0] #[.int .i64 q.epoch, .int .i64 q.blocks, .int .i64 q.next, .int .i64 q.start, .slice tA q.tables.length tc, .slice mA q.maps.length mc] rfl rfl ROW4.out rfl rfl (by simp [Value.oneCell']) ?_
               intro w9 row9 hg9 hz9
               have ROW9 := Hide.mk row9
               have G9 := Hide.mk hg9
               clear row9 hg9 hz9))
          (try simp only [Exit.inBlock, Exit.then])
          refine bodyPost_ret (results_rootE rfl _ _ br #[.int .i64 q.epoch, .int .i64 q.blocks, .int .i64 q.next, .int .i64 q.start, .slice tA q.tables.length tc, .slice mA q.maps.length mc] rfl ROW9.out rfl) rfl ?_
          rw [HRR.out, if_pos ⟨by trivial, HBL.out⟩]
          have hne : ∀ a : Addr, br + 1 ≤ a.block → ¬ a.block ∈ [br] := fun a ha hx => by simp at hx; omega
          exact ⟨tA, tc, mA, mc, by first | rfl | (simp; done), (D4.out.moves (Moves.of_grown G9.out) (by have := HLT.out; simp; omega) (by have := HLT.out; simp; omega) (by have := HLT.out; simp; omega)), IT4.out.moves (Moves.of_grown G9.out) (fun a ha => hne a (by have := GG3.out.1 a ha; have := SZ2.out; omega)), IM4.out.moves (Moves.of_grown G9.out) (fun a ha => hne a (by have := GG3.out.2 a ha; have := SZ2.out; omega)), ⟨(fun a ha => by have := GG3.out.1 a ha; have := SZ2.out; have := HBR.out; omega), (fun a ha => by have := GG3.out.2 a ha; have := SZ2.out; have := HBR.out; omega)⟩, M4.out.grown_ G9.out (by have := HBR.out; omega)⟩
      · have HE0 := Hide.mk e0
        have hb1 : (c3 == 0) = false := by simp [e0]
        clear e0
        go_enter Tryz.func72, Tryz.ntmps72
        go_wp2_with (first
          | (go_at_call 102
             rw [HBR.out, HW0.out]
             with_reducible refine HR1.out.mono ?_
             rintro e w1 ⟨g1, rfl, hf, hd, hm⟩
             have F1 := Hide.mk hf
             have D1 := Hide.mk hd
             have M1 := Hide.mk hm
             have ROW1 := Hide.mk ((hm.block br (lt_of_row ROW0.out) (by have := HLT.out; simp; omega)).trans ROW0.out)
             have HR2 := Hide.mk (read_ok 1 hd HWF.out.2 HA1.out)
             clear hf hd hm)
          | (go_at_call 102
             with_reducible refine HR2.out.mono ?_
             rintro e w2 ⟨g2, rfl, hf, hd, hm⟩
             have D2 := Hide.mk hd
             have M2 := Hide.mk ((M0.out.trans M1.out).trans hm)
             have row1 := (hm.block g1 (lt_of_row F1.out.row) (by have := F1.out.new; have := HLT.out; have := HZ0.out; simp; omega)).trans F1.out.row
             have row2 := hf.row
             have ROW2 := Hide.mk ((hm.block br (lt_of_row ROW1.out) (by have := HLT.out; simp; omega)).trans ROW1.out)
             have l1 := DiskSt.get_len D0.out 0
             have l2 := DiskSt.get_len D0.out 1
             have HCH0 := choose_any (D.get 0) (D.get 1) g1 0 256 g2 0 256 w2 ⟨C_of_row row1 (by omega), (by omega), (fun a ha => by cases ha; exact lt_of_row row1)⟩ ⟨C_of_row (l := D.get 1) row2 (by omega), (by omega), (fun a ha => by cases ha; exact lt_of_row row2)⟩ l1 l2 (HBY.out 0) (HBY.out 1)
             rw [show Root.choose (D.get 0) (D.get 1) = _ from HC.out] at HCH0
             unfold Root.val at HCH0
             have HCH := Hide.mk HCH0
             clear hf hd hm row1 row2 l1 l2 HCH0)
          | (go_at_call 110
             with_reducible refine HCH.out.mono ?_
             rintro e w3 ⟨tA, tc, mA, mc, rfl, hT, hM, hG, hb⟩
             have IT3 := Hide.mk hT
             have IM3 := Hide.mk hM
             have GG3 := Hide.mk hG
             have D3 := Hide.mk (D2.out.below hb)
             have M3 := Hide.mk (M2.out.trans (Moves.of_below hb [pd]))
             have ROW3 := Hide.mk ((hb.block br (lt_of_row ROW2.out)).trans ROW2.out)
             have SZ2 : Hide (br < w2.heap.size) := ⟨lt_of_row ROW2.out⟩
             clear hT hM hG hb))
        obtain ⟨W4, hW4⟩ : ∃ W, w3.alloc (.cells #[.int .i64 q.epoch, .int .i64 q.blocks, .int .i64 q.next, .int .i64 q.start, .slice tA q.tables.length tc, .slice mA q.maps.length mc] 65) = W := ⟨_, rfl⟩
        rw [hW4]
        have hal := (Below.refl w3.heap.size w3).alloc (Nat.le_refl _) (.cells #[.int .i64 q.epoch, .int .i64 q.blocks, .int .i64 q.next, .int .i64 q.start, .slice tA q.tables.length tc, .slice mA q.maps.length mc] 65)
        have rowq := heap_last w3 (.cells #[.int .i64 q.epoch, .int .i64 q.blocks, .int .i64 q.next, .int .i64 q.start, .slice tA q.tables.length tc, .slice mA q.maps.length mc] 65)
        rw [hW4] at hal rowq
        have B4 := Hide.mk (hal.trans ((below_drew (Below.refl W4.heap.size W4)).mono hal.size))
        obtain ⟨br2, hbr2⟩ : ∃ b, w3.heap.size = b := ⟨_, rfl⟩
        rw [hbr2] at rowq ⊢
        have RQ := Hide.mk (show W4.drew.heap[br2]? = _ from rowq)
        have KC : W4.drew.cell? ⟨br2, 1, none⟩ = some (.int .i64 q.blocks) := cell_of rowq
        have HBK0 := Blocks_any (D3.out.below B4.out)
        rw [show D.read.read.blocks = D.blocks from rfl] at HBK0
        have HBK := Hide.mk HBK0
        clear hal rowq hW4 hbr2 HBK0
        refine start_ (n := 9) (S := fun w' => w'.cell? ⟨br2, 1, none⟩ = some (.int .i64 q.blocks)) (ds := []) #[false, false, false, false, false, false, false, false, false] (by kernel_rfl) rfl rfl KC (fun hHeld => ?_); refine with_tabW tab72_8 bits72_8 (fun HT_ HW_ => ?_)
        refine pure_ (i := 0) (N := some 34) (v := ?_) (a' := ?_) #[true, false, false, false, false, false, false, false, false] rfl rfl (any_of HT_.out (by kernel_rfl)) (fun _ _ _ h => h) (Or.inl ⟨by rfl, ?_⟩) ?_ ?_
        rotate_left
        · intro w'
          go_simp
          with_reducible rfl
        rotate_left
        · simp only [Act.put, List.setIfInBounds_toArray, List.set_cons_zero, List.set_cons_succ, i64_w, i32_w]
          rfl
        refine pure_ (i := 1) (N := some 35) (v := ?_) (a' := ?_) #[true, true, false, false, false, false, false, false, false] rfl rfl (any_of HT_.out (by kernel_rfl)) (fun _ _ _ h => h) (Or.inl ⟨by rfl, ?_⟩) ?_ ?_
        rotate_left
        · intro w'
          go_simp
          with_reducible rfl
        rotate_left
        · simp only [Act.put, List.setIfInBounds_toArray, List.set_cons_zero, List.set_cons_succ, i64_w, i32_w]
          rfl
        refine pure_ (i := 2) (N := some 36) (v := ?_) (a' := ?_) #[true, true, true, false, false, false, false, false, false] rfl rfl (any_of HT_.out (by kernel_rfl)) (fun _ _ _ h => h) (Or.inl ⟨by rfl, ?_⟩) ?_ ?_
        rotate_left
        · intro w'
          go_simp
          with_reducible rfl
        rotate_left
        · simp only [Act.put, List.setIfInBounds_toArray, List.set_cons_zero, List.set_cons_succ, i64_w, i32_w]
          rfl
        refine pure_ (i := 3) (N := some 37) (v := undef) (a' := ?_) #[true, true, true, true, false, false, false, false, false] rfl rfl (any_of HT_.out (by kernel_rfl)) (fun _ _ _ h => h) (Or.inr ⟨by rfl, rfl⟩) ?_ ?_
        rotate_left
        · simp only [Act.put, List.setIfInBounds_toArray, List.set_cons_zero, List.set_cons_succ, i64_w, i32_w]
          rfl
        refine pure_ (i := 4) (N := some 38) (v := undef) (a' := ?_) #[true, true, true, true, true, false, false, false, false] rfl rfl (any_of HT_.out (by kernel_rfl)) (fun _ _ _ h => h) (Or.inr ⟨by rfl, rfl⟩) ?_ ?_
        rotate_left
        · simp only [Act.put, List.setIfInBounds_toArray, List.set_cons_zero, List.set_cons_succ, i64_w, i32_w]
          rfl
        refine pure_ (i := 5) (N := some 39) (v := undef) (a' := ?_) #[true, true, true, true, true, true, false, false, false] rfl rfl (any_of HT_.out (by kernel_rfl)) (fun _ _ _ h => h) (Or.inr ⟨by rfl, rfl⟩) ?_ ?_
        rotate_left
        · simp only [Act.put, List.setIfInBounds_toArray, List.set_cons_zero, List.set_cons_succ, i64_w, i32_w]
          rfl
        refine pure_ (i := 6) (N := some 40) (v := undef) (a' := ?_) #[true, true, true, true, true, true, true, false, false] rfl rfl (any_of HT_.out (by kernel_rfl)) (fun _ _ _ h => h) (Or.inr ⟨by rfl, rfl⟩) ?_ ?_
        rotate_left
        · simp only [Act.put, List.setIfInBounds_toArray, List.set_cons_zero, List.set_cons_succ, i64_w, i32_w]
          rfl
        refine pure_ (i := 7) (N := some 41) (v := undef) (a' := ?_) #[true, true, true, true, true, true, true, true, false] rfl rfl (any_of HT_.out (by kernel_rfl)) (fun _ _ _ h => h) (Or.inr ⟨by rfl, rfl⟩) ?_ ?_
        rotate_left
        · simp only [Act.put, List.setIfInBounds_toArray, List.set_cons_zero, List.set_cons_succ, i64_w, i32_w]
          rfl
        refine pure_ (i := 8) (N := some 42) (v := ?_) (a' := ?_) #[true, true, true, true, true, true, true, true, true] rfl rfl (any_of HT_.out (by kernel_rfl)) (fun _ _ _ h => h) (Or.inl ⟨by rfl, ?_⟩) ?_ ?_
        rotate_left
        · intro w'
          go_simp
          with_reducible rfl
        rotate_left
        · simp only [Act.put, List.setIfInBounds_toArray, List.set_cons_zero, List.set_cons_succ, i64_w, i32_w]
          rfl
        refine done_ (done_of HT_.out (by kernel_rfl)) ?_
        clear KC hHeld
        have D4 := Hide.mk (D3.out.below B4.out)
        have M4 := Hide.mk (M3.out.trans (Moves.of_below B4.out [pd]))
        have ROW4 := Hide.mk ((B4.out.block br (lt_of_row ROW3.out)).trans ROW3.out)
        have IT4 := Hide.mk (IT3.out.below B4.out)
        have IM4 := Hide.mk (IM3.out.below B4.out)
        go_wp2_with (first
          | (refine load_root rfl _ rfl br2 #[.int .i64 q.epoch, .int .i64 q.blocks, .int .i64 q.next, .int .i64 q.start, .slice tA q.tables.length tc, .slice mA q.maps.length mc] rfl RQ.out rfl ?_)
          | (refine store_root rfl _ _ rfl br #[.int .i64 0, .int .i64 0, .int .i64 0, .int .i64 0, .slice none 0 0, .slice none 0 0] #[.int .i64 q.epoch, .int .i64 q.blocks, .int .i64 q.next, .int .i64 q.start, .slice tA q.tables.length tc, .slice mA q.maps.length mc] rfl rfl ROW4.out rfl rfl (by simp [Value.oneCell']) ?_
             intro w9 row9 hg9 hz9
             have ROW9 := Hide.mk row9
             have G9 := Hide.mk hg9
             clear row9 hg9 hz9))
        (try simp only [Exit.inBlock, Exit.then])
        refine bodyPost_ret (results_rootE rfl _ _ br #[.int .i64 q.epoch, .int .i64 q.blocks, .int .i64 q.next, .int .i64 q.start, .slice tA q.tables.length tc, .slice mA q.maps.length mc] rfl ROW9.out rfl) rfl ?_
        rw [HRR.out, if_neg (fun h => HE0.out h.1)]
        have hne : ∀ a : Addr, br + 1 ≤ a.block → ¬ a.block ∈ [br] := fun a ha hx => by simp at hx; omega
        exact ⟨tA, tc, mA, mc, by first | rfl | (simp; done), (D4.out.moves (Moves.of_grown G9.out) (by have := HLT.out; simp; omega) (by have := HLT.out; simp; omega) (by have := HLT.out; simp; omega)), IT4.out.moves (Moves.of_grown G9.out) (fun a ha => hne a (by have := GG3.out.1 a ha; have := SZ2.out; omega)), IM4.out.moves (Moves.of_grown G9.out) (fun a ha => hne a (by have := GG3.out.2 a ha; have := SZ2.out; omega)), ⟨(fun a ha => by have := GG3.out.1 a ha; have := SZ2.out; have := HBR.out; omega), (fun a ha => by have := GG3.out.2 a ha; have := SZ2.out; have := HBR.out; omega)⟩, M4.out.grown_ G9.out (by have := HBR.out; omega)⟩
    · rw [if_pos h1] at hR
      have HA1 := Hide.mk (And.intro ha1 h1)
      have HRR := Hide.mk hR.symm
      have q : (a1 != 0) = true := by simp [h1]
      clear hR ha0 ha1 hd0 h1
      go_enter Tryz.func72, Tryz.ntmps72
      go_wp2_with (first
        | (go_at_call 102
           rw [HBR.out, HW0.out]
           with_reducible refine HR1.out.mono ?_
           rintro e w1 ⟨g1, rfl, hf, hd, hm⟩
           have F1 := Hide.mk hf
           have D1 := Hide.mk hd
           have M1 := Hide.mk hm
           have ROW1 := Hide.mk ((hm.block br (lt_of_row ROW0.out) (by have := HLT.out; simp; omega)).trans ROW0.out)
           have HR20 := read_bad 1 hd (by rw [HA1.out.1]; exact HA1.out.2)
           rw [HA1.out.1] at HR20
           have HR2 := Hide.mk HR20
           clear HR20
           clear hf hd hm)
        | (go_at_call 102
           with_reducible refine HR2.out.mono ?_
           rintro e w2 ⟨rfl, hb⟩
           have B2 := Hide.mk hb
           have ROW2 := Hide.mk ((hb.block br (lt_of_row ROW1.out)).trans ROW1.out)
           clear hb)
        | (refine store_root rfl _ _ rfl br #[.int .i64 0, .int .i64 0, .int .i64 0, .int .i64 0, .slice none 0 0, .slice none 0 0] #[.int .i64 0, .int .i64 0, .int .i64 0, .int .i64 0, .slice none 0 0, .slice none 0 0] rfl rfl ROW2.out rfl rfl (by simp [Value.oneCell']) ?_
           intro w9 row9 hg9 hz9
           have ROW9 := Hide.mk row9
           have G9 := Hide.mk hg9
           clear row9 hg9 hz9))
      (try simp only [Exit.inBlock, Exit.then])
      refine bodyPost_ret (results_rootE rfl _ _ br #[.int .i64 0, .int .i64 0, .int .i64 0, .int .i64 0, .slice none 0 0, .slice none 0 0] rfl ROW9.out rfl) rfl ?_
      rw [HRR.out]
      have m := (M0.out.trans M1.out).trans (Moves.of_below B2.out [pd])
      have DD := D1.out.below B2.out
      exact ⟨none, 0, none, 0, by first | rfl | (simp; done), (DD.moves (Moves.of_grown G9.out) (by have := HLT.out; simp; omega) (by have := HLT.out; simp; omega) (by have := HLT.out; simp; omega)), In.nil _ _, In.nil _ _, ⟨(fun a ha => by cases ha), (fun a ha => by cases ha)⟩, m.grown_ G9.out (by have := HBR.out; omega)⟩
  · rw [if_pos h0] at hR
    have HR1 := Hide.mk (read_bad 0 hd0 (by rw [ha0]; exact h0))
    rw [ha0] at HR1
    have HRR := Hide.mk hR.symm
    have q : (a0 != 0) = true := by simp [h0]
    clear hR ha0 ha1 hd0 h0
    go_enter Tryz.func72, Tryz.ntmps72
    go_wp2_with (first
      | (go_at_call 102
         rw [HBR.out, HW0.out]
         with_reducible refine HR1.out.mono ?_
         rintro e w2 ⟨rfl, hb⟩
         have B2 := Hide.mk hb
         have ROW2 := Hide.mk ((hb.block br (lt_of_row ROW0.out)).trans ROW0.out)
         clear hb)
      | (refine store_root rfl _ _ rfl br #[.int .i64 0, .int .i64 0, .int .i64 0, .int .i64 0, .slice none 0 0, .slice none 0 0] #[.int .i64 0, .int .i64 0, .int .i64 0, .int .i64 0, .slice none 0 0, .slice none 0 0] rfl rfl ROW2.out rfl rfl (by simp [Value.oneCell']) ?_
         intro w9 row9 hg9 hz9
         have ROW9 := Hide.mk row9
         have G9 := Hide.mk hg9
         clear row9 hg9 hz9))
    (try simp only [Exit.inBlock, Exit.then])
    refine bodyPost_ret (results_rootE rfl _ _ br #[.int .i64 0, .int .i64 0, .int .i64 0, .int .i64 0, .slice none 0 0, .slice none 0 0] rfl ROW9.out rfl) rfl ?_
    rw [HRR.out]
    have m := M0.out.trans (Moves.of_below B2.out [pd])
    have DD := D0.out.below B2.out
    exact ⟨none, 0, none, 0, by first | rfl | (simp; done), (DD.moves (Moves.of_grown G9.out) (by have := HLT.out; simp; omega) (by have := HLT.out; simp; omega) (by have := HLT.out; simp; omega)), In.nil _ _, In.nil _ _, ⟨(fun a ha => by cases ha), (fun a ha => by cases ha)⟩, m.grown_ G9.out (by have := HBR.out; omega)⟩
end Go.Proofs.YtgmkbcoahilkhaaGreat.Sh
end
section
namespace Go.Proofs.YtgmkbcoahilkhaaGreat.Sh
open Go.RowKit Go.Proofs.YtgmkbcoahilkhaaGreatW.PrintWords Go.Proofs.YtgmkbcoahilkhaaGreatW.PrintLast Go.Proofs.YtgmkbcoahilkhaaGreatW.PrintMore Go.Proofs.YtgmkbcoahilkhaaGreat.MapFn Go.Proofs.YtgmkbcoahilkhaaGreat.Disk Go.Proofs.YtgmkbcoahilkhaaGreat.Bitset Go.Proofs.YtgmkbcoahilkhaaGreat.Page Go.Proofs.YtgmkbcoahilkhaaGreat.PShadowPlays Go.Proofs.YtgmkbcoahilkhaaGreat.Num
set_option linter.unusedVariables false
set_option linter.unusedSimpArgs false
set_option maxHeartbeats 8000000
set_option maxRecDepth 100000
theorem open_body (b : List Int) : (openL b).2.2.1 = [] ∨ ∃ n, (openL b).2.2.1 = (b.drop 6).take n := by
  unfold openL
  repeat' split
  all_goals first | exact .inl rfl | exact .inr ⟨_, rfl⟩
theorem open_body_bytes {b : List Int} (h : Bytes b) : Bytes (openL b).2.2.1 := by
  rcases open_body b with e | ⟨n, e⟩
  · rw [e]; intro x hx; cases hx
  · rw [e]; exact fun x hx => h x (List.mem_of_mem_drop (List.mem_of_mem_take hx))
theorem open_body_len {b : List Int} (h : b.length = 256) : (openL b).2.2.1.length ≤ 250 := by
  rcases open_body b with e | ⟨n, e⟩
  · rw [e]; simp
  · rw [e, List.length_take, List.length_drop]; omega
theorem Moves.of_low {B : Nat} {w w' : World} (hb : Below B w w') : Moves ((List.range w.heap.size).filter fun x => decide (B ≤ x)) w w' :=
  ⟨hb.os, hb.tape, hb.output, hb.size, fun k hk hn => hb.block k (by
    rcases Nat.lt_or_ge k B with h | h
    · exact h
    · exact absurd (by rw [List.mem_filter, List.mem_range]; exact ⟨hk, by simpa using h⟩) hn)⟩
theorem ShAt.beside {b : List Nat} {w w' : World} {F : Foot} {s : Sh} (h : ShAt w F s) (hm : Moves b w w') (ho : ∀ x ∈ F.own, ¬ x ∈ b) (hs : ∀ A ∈ F.slices, ∀ a, A = some a → ¬ a.block ∈ b) : ShAt w' F s :=
  ⟨(hm.block F.p (h.lts _ (by simp [Foot.own])) (ho _ (by simp [Foot.own]))).trans h.row, h.disk.moves hm (ho _ (by simp [Foot.own])) (ho _ (by simp [Foot.own])) (ho _ (by simp [Foot.own])),
   h.tables.moves hm (hs _ (by simp [Foot.slices])), h.maps.moves hm (hs _ (by simp [Foot.slices])), h.was.moves hm (hs _ (by simp [Foot.slices])), h.used.moves hm (hs _ (by simp [Foot.slices])), h.fresh.moves hm (hs _ (by simp [Foot.slices])), tab_moves h.table hm (ho _ (by simp [Foot.own])), h.ne, h.off⟩
theorem ShAt.low {B : Nat} {w w' : World} {F : Foot} {s : Sh} (h : ShAt w F s) (hb : Below B w w') (ho : ∀ x ∈ F.own, x < B) (hs : ∀ A ∈ F.slices, ∀ a, A = some a → a.block < B) : ShAt w' F s :=
  h.beside (Moves.of_low hb) (fun x hx hm => by have := ho x hx; have := (List.mem_filter.1 hm).2; simp at this; omega) (fun A hA a ha hm => by have := hs A hA a ha; have := (List.mem_filter.1 hm).2; simp at this; omega)
theorem Goes.low {w w' w'' : World} {F : Foot} (h : Goes F F w w') (hb : Below w.heap.size w' w'') : Goes F F w w'' := ⟨rfl, rfl, rfl, fun x hx => .inl hx, Moves.trans_low h.moves hb⟩
theorem gatherF_cons (kind n : Int) (ns : List Int) (i : Nat) (D : DiskSt) (out : List Int) : Sh.gatherF kind (n :: ns) i D out = if D.at_ n ≠ 0 then (D, [], D.at_ n)
    else if (openL (D.get n)).2.2.2 ≠ 0 ∨ (openL (D.get n)).1 ≠ kind ∨ (openL (D.get n)).2.1 ≠ i then (D.read, [], 4)
    else Sh.gatherF kind ns (i + 1) D.read (out ++ (openL (D.get n)).2.2.1) := by rw [Sh.gatherF]
theorem gather_any (kind : Int) (B : Option Addr) (cB : Nat) (bl : List Int) (w : World) (F : Foot) (s : Sh) (h : ShAt w F s) (hb : In .i64 w B bl cB) (hbo : ∀ a, B = some a → ¬ a.block ∈ F.own) (hwf : ∀ n ∈ bl, MapFn.wf n) (hB : ∀ n, Bytes (s.D.get n)) (hbl : bl.length ≤ 1000) :
    Calls Tryz.prog 73 #[.pointer (some ⟨F.p, 0, none⟩), .int .i64 kind, .slice B bl.length cB] w fun e w' => ∃ v, e = .returned (.tuple #[v, .int .i64 (gather s.D kind bl).2.2]) ∧ Kd.R (Kd.int .u8) 5 w' w.heap.size (fun k => ¬ k ∈ F.own) v (gather s.D kind bl).2.1 ∧ ShAt w' F { s with D := (gather s.D kind bl).1 } ∧ Goes F F w w' := by
  unfold gather
  obtain ⟨R, hR⟩ : ∃ R, Sh.gatherF kind bl 0 s.D [] = R := ⟨_, rfl⟩
  rw [hR]
  have HR := Hide.mk hR
  have HS := Hide.mk h
  have HBB := Hide.mk hb
  have HBO := Hide.mk hbo
  have HWF := Hide.mk hwf
  have HBY := Hide.mk hB
  have HBLN := Hide.mk hbl
  have HOWN := Hide.mk h.lts
  have HSL := Hide.mk h.slice_lt
  have hmx := hb.reads.2.1
  clear h hb hbo hwf hB hR
  go_enter Tryz.func73, Tryz.ntmps73
  go_wp2
  go_loopw [8, 18] (fun v8 v18 wr => ∃ (i : Nat) (Di : DiskSt) (out : List Int) (A8 : Option Addr) (n8 c8 : Nat), v18 = .int .i64 (i : Int) ∧ v8 = .slice A8 n8 c8 ∧ Hide (i ≤ bl.length) ∧ Hide (R = Sh.gatherF kind (bl.drop i) i Di out) ∧ Hide (ShAt wr F { s with D := Di }) ∧ Hide (Goes F F w wr) ∧ Hide (Kd.R (Kd.int .u8) 5 wr w.heap.size (fun k => ¬ k ∈ F.own) (.slice A8 n8 c8) out) ∧ Hide (out.length ≤ 250 * i) ∧ Hide (∀ n, Bytes (Di.get n))) (fun _ v18 _ => bl.length - (intOf v18).toNat)
  case atStart => exact ⟨0, s.D, [], none, 0, 0, by first | rfl | simp, rfl, ⟨Nat.zero_le _⟩, ⟨by rw [List.drop_zero]; exact HR.out.symm⟩, HS, ⟨Goes.refl _ _⟩, ⟨Kd.R_nil _ _ _ _ _⟩, ⟨Nat.zero_le _⟩, HBY⟩
  case round =>
    obtain ⟨i, Di, out, A8, n8, c8, rfl, rfl, hi, hRR, hS1, hG, hO, hZ, hBY⟩ := hrel
    have HS1 := hS1
    have HZ := hZ
    clear HS HR HBY hS1 hZ
    have hbl1 := HBLN.out
    by_cases hlt0 : i < bl.length
    · have hlt : (i : Int) < (bl.length : Int) := by omega
      have HBI := Hide.mk (HBB.out.moves hG.out.moves (fun a ha hx => HBO.out a ha hx))
      obtain ⟨ad, hA, hcell⟩ := Kd.at_int HBI.out.reads (i : Int) (by omega) hlt
      rw [Int.toNat_natCast] at hcell
      have hrd : rd bl (i : Int) = bl[i] := by simp [rd, List.getD_eq_getElem?_getD, hlt0]
      rw [hrd] at hcell
      have HXW := Hide.mk (HWF.out bl[i] (List.getElem_mem _))
      have E1 : Hide (bl.drop i = bl[i] :: bl.drop (i + 1)) := ⟨List.drop_eq_getElem_cons hlt0⟩
      generalize bl[i] = x at *
      subst hA
      have LT := Hide.mk hlt0
      have c0 : wr.cell? ⟨F.p, 0, none⟩ = some (.pointer (some ⟨F.pd, 0, none⟩)) := HS1.out.cells.c0
      have hR1 := hRR.out
      rw [E1.out, gatherF_cons] at hR1
      obtain ⟨a, ha⟩ : ∃ a, Di.at_ x = a := ⟨_, rfl⟩
      rw [ha] at hR1
      by_cases ha0 : a = 0
      · subst ha0
        rw [if_neg (by simp)] at hR1
        have HRD := Hide.mk (read_ok x HS1.out.disk HXW.out ha)
        rw [show ({ s with D := Di } : Sh).D = Di from rfl] at HRD
        obtain ⟨l, hl⟩ : ∃ l, Di.get x = l := ⟨_, rfl⟩
        have HLB : Hide (l.length = 256 ∧ Bytes l) := ⟨by rw [← hl]; exact ⟨DiskSt.get_len HS1.out.disk x, hBY.out x⟩⟩
        rw [hl] at hR1 HRD
        obtain ⟨o1, ho1⟩ : ∃ x, (openL l).1 = x := ⟨_, rfl⟩
        obtain ⟨o2, ho2⟩ : ∃ x, (openL l).2.1 = x := ⟨_, rfl⟩
        obtain ⟨o3, ho3⟩ : ∃ x, (openL l).2.2.1 = x := ⟨_, rfl⟩
        obtain ⟨o4, ho4⟩ : ∃ x, (openL l).2.2.2 = x := ⟨_, rfl⟩
        have HO := Hide.mk (And.intro ho1 (And.intro ho2 (And.intro ho3 ho4)))
        have HLO : Hide (o3.length ≤ 250) := ⟨by rw [← ho3]; exact open_body_len HLB.out.1⟩
        simp only [ho1, ho2, ho3, ho4] at hR1
        have HRR := Hide.mk hR1
        clear hR1 hRR ha hl ho1 ho2 ho3 ho4 hrd hlt0
        by_cases hq : o4 = 0
        · subst hq
          by_cases hk : o1 = kind
          · subst hk
            by_cases hj : o2 = (i : Int)
            · subst hj
              go_wp2_with (first
                | (go_at_call 102
                   with_reducible refine HRD.out.mono ?_
                   rintro e w2 ⟨g, rfl, hf, hd, hm⟩
                   have hs2 := HS1.out.disk_moves (ml' := F.ml) hd (.inl rfl) (hm.more (fun x hx => by simp only [List.mem_singleton] at hx; subst hx; left; simp))
                   have S2 := Hide.mk hs2.1
                   have G2 := Hide.mk hs2.2
                   have FR := Hide.mk hf
                   have SZ2 := Hide.mk hm.size
                   have O2 := Hide.mk (Kd.R_step hO.out (fun k ho hk => hm.block k hk (fun hx => ho (by simp only [List.mem_singleton] at hx; subst hx; simp [Foot.own]))))
                   have HOP := open_any (some ⟨g, 0, none⟩) 256 l w2 (C_of_row hf.row (by rw [HLB.out.1]; omega)) (by rw [HLB.out.1]; omega) HLB.out.2
                   rw [HLB.out.1, HO.out.1, HO.out.2.1, HO.out.2.2.1, HO.out.2.2.2] at HOP
                   have HOP1 := Hide.mk HOP
                   clear hs2 hf hd hm HOP)
                | (go_at_call 103
                   with_reducible refine HOP1.out.mono ?_
                   rintro e w4 ⟨v4, rfl, ho, hb4⟩
                   obtain ⟨A4, c4, hv4, hi4, hge4⟩ := In.of_own ho
                   obtain ⟨n4, hn4⟩ : ∃ n, o3.length = n := ⟨_, rfl⟩
                   rw [hn4] at hv4
                   subst hv4
                   have I4 := Hide.mk hi4
                   have GE4 := Hide.mk hge4
                   have B4 := Hide.mk hb4
                   have HN4 := Hide.mk hn4
                   have O4 := Hide.mk (Kd.R_below O2.out hb4)
                   clear ho hb4 hi4 hge4 hn4)
                | ((with_reducible refine gate_builtin (b := .append) (xs := #[.tmp 54, .tmp 55]) rfl ?_); at_builtin
                   go_loud (
                    refine Kd.R_append_rows (Kd.int .u8) (w0 := w4) w.heap.size rfl (.tmp 54) (.tmp 55) 22 5 (.int .u8 0) 1 rfl Tryz.underlying22 info8 rfl (by decide) (by omega) (.slice A8 n8 c8) out o3 A4 n4 c4 (fun k => ¬ k ∈ F.own) (fun _ => False) rfl rfl ?aO ?aR (fun _ _ h => h) (fun _ h => h.elim) ?aF (Below.refl _ _) ?aS ?aL ?_
                    case aO => exact O4.out
                    case aR => have h := I4.out.reads; rw [HN4.out] at h; exact h
                    case aF => exact (fun k hk hx => by have := HOWN.out k hx; have := hk; have := Nat.le_trans (Nat.le_trans hG.out.moves.size SZ2.out) B4.out.size; omega)
                    case aS => exact Nat.le_trans (Nat.le_trans hG.out.moves.size SZ2.out) B4.out.size
                    case aL => have := HN4.out; have := HZ.out; have := HLO.out; have := hi.out; have := HBLN.out; omega
                    intro v5 w5 ho hb hg hat
                    obtain ⟨A5, c5, hv5⟩ := Kd.R_slice ho
                    obtain ⟨n5, hn5⟩ : ∃ n, (out ++ o3).length = n := ⟨_, rfl⟩
                    rw [hn5] at hv5
                    subst hv5
                    have O5 := Hide.mk ho
                    have B5 := Hide.mk hb
                    have HN5 := Hide.mk hn5
                    have M5 := Hide.mk (grown_moves hg O4.out)
                    clear ho hb hg hat hn5
                    )))
              go_roundw
              case rel =>
                obtain ⟨ls, hmv, hls⟩ := M5.out
                have hG5 := (hG.out.trans G2.out).trans (Goes.below B4.out)
                have hsz : w4.heap.size ≤ w5.heap.size := B5.out.size
                exact ⟨i + 1, Di.read, out ++ o3, A5, n5, c5, by go_num, rfl, ⟨by have := LT.out; omega⟩, ⟨by rw [HRR.out, if_neg (by simp)]⟩, ⟨(S2.out.below B4.out).low B5.out HOWN.out HSL.out⟩, ⟨hG5.low B5.out⟩, O5, ⟨by rw [List.length_append]; have := HLO.out; have := HZ.out; omega⟩, hBY⟩
              case measure => have := LT.out; simp [intOf]; omega
            · have q : (o2 != (i : Int)) = true := by simp [hj]
              have HJ := Hide.mk hj
              clear hj
              go_wp2_with (first
                | (go_at_call 102
                   with_reducible refine HRD.out.mono ?_
                   rintro e w2 ⟨g, rfl, hf, hd, hm⟩
                   have hs2 := HS1.out.disk_moves (ml' := F.ml) hd (.inl rfl) (hm.more (fun x hx => by simp only [List.mem_singleton] at hx; subst hx; left; simp))
                   have S2 := Hide.mk hs2.1
                   have G2 := Hide.mk hs2.2
                   have FR := Hide.mk hf
                   have SZ2 := Hide.mk hm.size
                   have O2 := Hide.mk (Kd.R_step hO.out (fun k ho hk => hm.block k hk (fun hx => ho (by simp only [List.mem_singleton] at hx; subst hx; simp [Foot.own]))))
                   have HOP := open_any (some ⟨g, 0, none⟩) 256 l w2 (C_of_row hf.row (by rw [HLB.out.1]; omega)) (by rw [HLB.out.1]; omega) HLB.out.2
                   rw [HLB.out.1, HO.out.1, HO.out.2.1, HO.out.2.2.1, HO.out.2.2.2] at HOP
                   have HOP1 := Hide.mk HOP
                   clear hs2 hf hd hm HOP)
                | (go_at_call 103
                   with_reducible refine HOP1.out.mono ?_
                   rintro e w4 ⟨v4, rfl, ho, hb4⟩
                   obtain ⟨A4, c4, hv4, hi4, hge4⟩ := In.of_own ho
                   obtain ⟨n4, hn4⟩ : ∃ n, o3.length = n := ⟨_, rfl⟩
                   rw [hn4] at hv4
                   subst hv4
                   have I4 := Hide.mk hi4
                   have GE4 := Hide.mk hge4
                   have B4 := Hide.mk hb4
                   have HN4 := Hide.mk hn4
                   have O4 := Hide.mk (Kd.R_below O2.out hb4)
                   clear ho hb4 hi4 hge4 hn4))
              go_ret2
              rw [HRR.out, if_pos (.inr (.inr HJ.out))]
              exact ⟨_, rfl, Kd.R_nil _ _ _ _ _, S2.out.below B4.out, (hG.out.trans G2.out).trans (Goes.below B4.out)⟩
          · have q : (o1 != kind) = true := by simp [hk]
            have HK := Hide.mk hk
            clear hk
            go_wp2_with (first
              | (go_at_call 102
                 with_reducible refine HRD.out.mono ?_
                 rintro e w2 ⟨g, rfl, hf, hd, hm⟩
                 have hs2 := HS1.out.disk_moves (ml' := F.ml) hd (.inl rfl) (hm.more (fun x hx => by simp only [List.mem_singleton] at hx; subst hx; left; simp))
                 have S2 := Hide.mk hs2.1
                 have G2 := Hide.mk hs2.2
                 have FR := Hide.mk hf
                 have SZ2 := Hide.mk hm.size
                 have O2 := Hide.mk (Kd.R_step hO.out (fun k ho hk => hm.block k hk (fun hx => ho (by simp only [List.mem_singleton] at hx; subst hx; simp [Foot.own]))))
                 have HOP := open_any (some ⟨g, 0, none⟩) 256 l w2 (C_of_row hf.row (by rw [HLB.out.1]; omega)) (by rw [HLB.out.1]; omega) HLB.out.2
                 rw [HLB.out.1, HO.out.1, HO.out.2.1, HO.out.2.2.1, HO.out.2.2.2] at HOP
                 have HOP1 := Hide.mk HOP
                 clear hs2 hf hd hm HOP)
              | (go_at_call 103
                 with_reducible refine HOP1.out.mono ?_
                 rintro e w4 ⟨v4, rfl, ho, hb4⟩
                 obtain ⟨A4, c4, hv4, hi4, hge4⟩ := In.of_own ho
                 obtain ⟨n4, hn4⟩ : ∃ n, o3.length = n := ⟨_, rfl⟩
                 rw [hn4] at hv4
                 subst hv4
                 have I4 := Hide.mk hi4
                 have GE4 := Hide.mk hge4
                 have B4 := Hide.mk hb4
                 have HN4 := Hide.mk hn4
                 have O4 := Hide.mk (Kd.R_below O2.out hb4)
                 clear ho hb4 hi4 hge4 hn4))
            go_ret2
            rw [HRR.out, if_pos (.inr (.inl HK.out))]
            exact ⟨_, rfl, Kd.R_nil _ _ _ _ _, S2.out.below B4.out, (hG.out.trans G2.out).trans (Goes.below B4.out)⟩
        · have q : (o4 != 0) = true := by simp [hq]
          have HQ := Hide.mk hq
          clear hq
          go_wp2_with (first
            | (go_at_call 102
               with_reducible refine HRD.out.mono ?_
               rintro e w2 ⟨g, rfl, hf, hd, hm⟩
               have hs2 := HS1.out.disk_moves (ml' := F.ml) hd (.inl rfl) (hm.more (fun x hx => by simp only [List.mem_singleton] at hx; subst hx; left; simp))
               have S2 := Hide.mk hs2.1
               have G2 := Hide.mk hs2.2
               have FR := Hide.mk hf
               have SZ2 := Hide.mk hm.size
               have O2 := Hide.mk (Kd.R_step hO.out (fun k ho hk => hm.block k hk (fun hx => ho (by simp only [List.mem_singleton] at hx; subst hx; simp [Foot.own]))))
               have HOP := open_any (some ⟨g, 0, none⟩) 256 l w2 (C_of_row hf.row (by rw [HLB.out.1]; omega)) (by rw [HLB.out.1]; omega) HLB.out.2
               rw [HLB.out.1, HO.out.1, HO.out.2.1, HO.out.2.2.1, HO.out.2.2.2] at HOP
               have HOP1 := Hide.mk HOP
               clear hs2 hf hd hm HOP)
            | (go_at_call 103
               with_reducible refine HOP1.out.mono ?_
               rintro e w4 ⟨v4, rfl, ho, hb4⟩
               obtain ⟨A4, c4, hv4, hi4, hge4⟩ := In.of_own ho
               obtain ⟨n4, hn4⟩ : ∃ n, o3.length = n := ⟨_, rfl⟩
               rw [hn4] at hv4
               subst hv4
               have I4 := Hide.mk hi4
               have GE4 := Hide.mk hge4
               have B4 := Hide.mk hb4
               have HN4 := Hide.mk hn4
               have O4 := Hide.mk (Kd.R_below O2.out hb4)
               clear ho hb4 hi4 hge4 hn4))
          go_ret2
          rw [HRR.out, if_pos (.inl HQ.out)]
          exact ⟨_, rfl, Kd.R_nil _ _ _ _ _, S2.out.below B4.out, (hG.out.trans G2.out).trans (Goes.below B4.out)⟩
      · rw [if_pos ha0] at hR1
        have HRD := read_bad x HS1.out.disk (by show Di.at_ x ≠ 0; rw [ha]; exact ha0)
        rw [show ({ s with D := Di } : Sh).D = Di from rfl, ha] at HRD
        have HRD1 := Hide.mk HRD
        have q : (a != 0) = true := by simp [ha0]
        have HRR := Hide.mk hR1
        clear hR1 hRR ha ha0 HRD hrd hlt0
        go_wp2_with (go_at_call 102; with_reducible refine HRD1.out.mono ?_; rintro e w2 ⟨rfl, hb⟩; have B2 := Hide.mk hb; clear hb)
        go_ret2
        rw [HRR.out]
        exact ⟨_, rfl, Kd.R_nil _ _ _ _ _, HS1.out.below B2.out, hG.out.trans (Goes.below B2.out)⟩
    · have hlt : ¬ (i : Int) < (bl.length : Int) := by omega
      have E := Hide.mk (show i = bl.length by have := hi.out; omega)
      clear hlt0
      go_wp2
      go_ret2
      have e : R = (Di, out, 0) := by
        rw [hRR.out, E.out, List.drop_length]
        rfl
      rw [e]
      exact ⟨_, rfl, hO.out, HS1.out, hG.out⟩
end Go.Proofs.YtgmkbcoahilkhaaGreat.Sh
end
section
namespace Go.Proofs.YtgmkbcoahilkhaaGreat.Sh
open Go.RowKit Go.Proofs.YtgmkbcoahilkhaaGreatW.PrintWords Go.Proofs.YtgmkbcoahilkhaaGreatW.PrintLast Go.Proofs.YtgmkbcoahilkhaaGreatW.PrintMore Go.Proofs.YtgmkbcoahilkhaaGreat.MapFn Go.Proofs.YtgmkbcoahilkhaaGreat.Disk Go.Proofs.YtgmkbcoahilkhaaGreat.Bitset Go.Proofs.YtgmkbcoahilkhaaGreat.Page Go.Proofs.YtgmkbcoahilkhaaGreat.PShadowPlays Go.Proofs.YtgmkbcoahilkhaaGreat.Num
set_option linter.unusedVariables false
set_option linter.unusedSimpArgs false
set_option maxHeartbeats 8000000
set_option maxRecDepth 100000
def boolE : Enc Bool where
  E := Value.bool
  D x := .lit (.bool x)
  R v := match v with
    | .bool x => some (.lit (.bool x), [])
    | _ => none
  ok _ := True
  put x _ := rfl
  inv v d ps h := by
    split at h
    · rename_i x
      cases h
      exact ⟨x, trivial, rfl, rfl⟩
    · cases h
  inj x y h := by injection h with h1; injection h1
abbrev MapT (w : World) (b : Nat) (m : Int → Option Bool) : Prop := MapFn.MapFn Tryz.prog 3 boolE w b m
section
variable {w : World} {ops : Array Oper} {rest : List Oper} {o : Oper} {a : Act} {Q : Exit → Act → World → Prop}
theorem map_ins (hg : o.guard = none) (m x v : Operand) (hop : o.op = Op.insert 145 m x v) (b : Nat) (j : Int) (y : Bool) (hm : a.eval m = .map (some b)) (hx : a.eval x = .int .i64 j) (hv : a.eval v = .bool y) {w' : World}
    (hrun : (Instr.mapUpdate 145 (.map (some b)) (.int .i64 j) (.bool y)).run Tryz.prog w = .ok () w') (hK : wpList Tryz.prog ops Q rest (a.put o.dst undef) w') : wpList Tryz.prog ops Q (o :: rest) a w := by
  refine wpList_plain hg fun K' hK' => ?_
  unfold Oper.wp
  simp [execOp, hop, hm, hx, hv, hrun, Result.andThen]
  first | exact hK' _ _ hK | (simp [Oper.upon]; exact hK' _ _ hK) | (unfold Oper.upon; simp; exact hK' _ _ hK)
theorem map_upd (hg : o.guard = none) (m x v : Operand) (hop : o.op = Op.mapUpdate 145 m x v) (b : Nat) (j : Int) (y : Bool) (hm : a.eval m = .map (some b)) (hx : a.eval x = .int .i64 j) (hv : a.eval v = .bool y) {w' : World}
    (hrun : (Instr.mapUpdate 145 (.map (some b)) (.int .i64 j) (.bool y)).run Tryz.prog w = .ok () w') (hK : wpList Tryz.prog ops Q rest (a.put o.dst undef) w') : wpList Tryz.prog ops Q (o :: rest) a w := by
  refine wpList_plain hg fun K' hK' => ?_
  unfold Oper.wp
  simp [execOp, hop, hm, hx, hv, hrun, Result.andThen]
  first | exact hK' _ _ hK | (simp [Oper.upon]; exact hK' _ _ hK) | (unfold Oper.upon; simp; exact hK' _ _ hK)
end
structure Seen (w : World) (b : Nat) (f : Int → Bool) : Prop where
  ex : ∃ m, MapT w b m ∧ (∀ j, (m j).getD false = f j) ∧ ∀ j, (m j).isSome = true → 0 ≤ j ∧ j < (4096 : Nat)
theorem Seen.kept {w w' : World} {b : Nat} {f : Int → Bool} {row : Option Nat} (h : Seen w b f) (hg : w.grownBy w' row) (hne : some b ≠ row) : Seen w' b f := by
  obtain ⟨m, h1, h2, h3⟩ := h.ex
  exact ⟨m, h1.kept hg hne, h2, h3⟩
theorem Seen.lt {w : World} {b : Nat} {f : Int → Bool} (h : Seen w b f) : b < w.heap.size := h.ex.choose_spec.1.lt
theorem Seen.below {w w' : World} {b : Nat} {f : Int → Bool} (h : Seen w b f) (hb : Below w.heap.size w w') : Seen w' b f := h.kept (row := none) ((Moves.of_below hb []).grown _) (by simp)
theorem Seen.made (w : World) : Seen (w.alloc (.map #[] 0)) w.heap.size (fun _ => false) := ⟨fun _ => none, MapFn.MapFn.made w Tryz.prog 3 boolE, fun _ => rfl, fun j h => by cases h⟩
theorem zeroB (w : World) : (zeroValue 4).run Tryz.prog w = .ok (boolE.E false) w := Tryz.zeroValue4 w
theorem Seen.look {w : World} {b : Nat} {f : Int → Bool} (h : Seen w b f) {j : Int} (hj : MapFn.wf j) : (Instr.lookup 145 (.map (some b)) (.int .i64 j) false).run Tryz.prog w = .ok (.bool (f j)) w := by
  obtain ⟨m, h1, h2, h3⟩ := h.ex
  have := h1.look (C := boolE) (t := 145) Tryz.underlying3 Tryz.underlying145 (zeroB _) trivial hj
  rw [h2 j] at this
  exact this
theorem Seen.put {w : World} {b : Nat} {f : Int → Bool} (h : Seen w b f) {j : Int} (h0 : 0 ≤ j) (h1 : j < 4096) :
    ∃ w', (Instr.mapUpdate 145 (.map (some b)) (.int .i64 j) (.bool true)).run Tryz.prog w = .ok () w' ∧ Seen w' b (fun i => decide (i = j) || f i) ∧ w.grownBy w' (some b) := by
  obtain ⟨m, hm, h2, h3⟩ := h.ex
  obtain ⟨w', hr, hm', hg⟩ := hm.store (C := boolE) (t := 145) Tryz.underlying3 Tryz.underlying145 (wf_small h0 h1) (x := true) trivial h3 (by unfold maxLen; omega)
  refine ⟨w', hr, ⟨_, hm', fun i => ?_, fun i hi => ?_⟩, hg⟩
  · unfold upd
    by_cases c : i = j
    · rw [if_pos c]; simp [c]
    · rw [if_neg c, h2 i]; simp [c]
  · unfold upd at hi
    by_cases c : i = j
    · rw [c]; exact ⟨h0, h1⟩
    · rw [if_neg c] at hi; exact h3 i hi
theorem concat3_any {W : World} {g : Nat} {A1 A2 A3 : Option Addr} {c1 c2 c3 : Nat} {l1 l2 l3 L : List Int} {t : TypeId} (hrow : W.heap[g]? = some (.cells #[.slice A1 l1.length c1, .slice A2 l2.length c2, .slice A3 l3.length c3] t (0, 0)))
    (h1 : In .i64 W A1 l1 c1) (h2 : In .i64 W A2 l2 c2) (h3 : In .i64 W A3 l3 c3) (hs : l1.length + l2.length + l3.length ≤ 1000000) (hL : [l1, l2, l3].flatten = L) :
    Calls Tryz.prog 93 #[.slice (some ⟨g, 0, none⟩) 3 3] W fun e w' => ∃ A c, e = .returned (.slice A L.length c) ∧ In .i64 w' A L c ∧ (∀ a, A = some a → W.heap.size ≤ a.block) ∧ Below W.heap.size W w' := by
  have hl : Lists .i64 W (some ⟨g, 0, none⟩) [l1, l2, l3] := by
    refine lists_of_row hrow fun i hi => ?_
    match i, hi with
    | 0, _ => exact ⟨_, _, rfl, h1.room, h1.reads⟩
    | 1, _ => exact ⟨_, _, rfl, h2.room, h2.reads⟩
    | 2, _ => exact ⟨_, _, rfl, h3.room, h3.reads⟩
  refine (concat_any (some ⟨g, 0, none⟩) 3 [l1, l2, l3] W hl (by simp) (by simp [sumLen]; omega)).mono ?_
  rintro e w2 ⟨v2, rfl, ho, hb2⟩
  rw [hL] at ho
  obtain ⟨A2, c2, rfl, hi2, hge2⟩ := In.of_own ho
  exact ⟨A2, c2, rfl, hi2, hge2, hb2⟩
theorem seenF_cons (r : Root) (k : Nat) (n : Int) (ns : List Int) (i : Nat) (seen : Int → Bool) : seenF r k (n :: ns) i seen = if n = 0 ∧ k ≤ i then seenF r k ns (i + 1) seen else if r.blocks ≤ n ∨ seen n = true then false else seenF r k ns (i + 1) (fun j => decide (j = n) || seen j) := by
  rw [seenF]
theorem right_any (r : Root) (tc mc : Nat) (tA mA : Option Addr) (A : Option Addr) (c : Nat) (table : List Int) (M : Option Addr) (mcap : Nat) (m : List Int) (w : World) (ht : In .i64 w tA r.tables tc) (hm : In .i64 w mA r.maps mc) (hb : In .i64 w A table c) (hM : In .u8 w M m mcap) (hby : Bytes m) (hck : r.check = 0) (htb : ∀ n ∈ table, 0 ≤ n) (hsz : table.length ≤ 5000) :
    Calls Tryz.prog 75 #[r.val tA tc mA mc, .slice A table.length c, .slice M m.length mcap] w fun e w' => e = .returned (.bool (right r table m)) ∧ Below w.heap.size w w' := by
  unfold Root.val
  obtain ⟨R, hR⟩ : ∃ R, right r table m = R := ⟨_, rfl⟩
  rw [hR]
  unfold right at hR
  obtain ⟨SF, hSF⟩ : ∃ SF, seenF r (r.tables.length + r.maps.length) (r.tables ++ r.maps ++ table) 0 (fun j => decide (j = 1) || (decide (j = 0) || false)) = SF := ⟨_, rfl⟩
  have hsw : (fun j : Int => decide (j = 0) || decide (j = 1)) = fun j => decide (j = 1) || (decide (j = 0) || false) := by funext j; cases decide (j = 0) <;> cases decide (j = 1) <;> rfl
  rw [hsw, hSF] at hR
  obtain ⟨L, hL⟩ : ∃ L, [r.tables, r.maps, table].flatten = L := ⟨_, rfl⟩
  have hLe : L = r.tables ++ r.maps ++ table := by rw [← hL]; simp
  rw [← hLe] at hSF
  have hrl := check_len hck
  have HZ : Hide (table.length ≤ 5000 ∧ r.tables.length ≤ 26 ∧ r.maps.length ≤ 3) := ⟨⟨hsz, hrl.1, hrl.2⟩⟩
  have HLN : Hide (L.length ≤ 6000) := ⟨by rw [hLe]; simp; omega⟩
  have HLL := Hide.mk hLe
  have HLE : Hide (∀ x ∈ L, 0 ≤ x ∧ True) := ⟨fun x hx => by
    rw [hLe, List.mem_append] at hx
    rcases hx with hx | hx
    · exact ⟨by have := check_each hck x hx; omega, trivial⟩
    · exact ⟨htb x hx, trivial⟩⟩
  have HL := Hide.mk hL
  have HSF := Hide.mk hSF
  have HCK := Hide.mk hck
  have hnn := (check_range hck).2.2
  obtain ⟨⟨hn0, hn3⟩, hs0, hs1⟩ := hnn
  have HI := Hide.mk (And.intro ht (And.intro hm hb))
  have HMM := Hide.mk hM
  have HMY := Hide.mk hby
  have hmx := hb.reads.2.1
  obtain ⟨W1, hW1⟩ : ∃ W, w.alloc (.cells #[.int .i64 r.epoch, .int .i64 r.blocks, .int .i64 r.next, .int .i64 r.start, .slice tA r.tables.length tc, .slice mA r.maps.length mc] 65) = W := ⟨_, rfl⟩
  have b1 := (Below.refl w.heap.size w).alloc (Nat.le_refl _) (.cells #[.int .i64 r.epoch, .int .i64 r.blocks, .int .i64 r.next, .int .i64 r.start, .slice tA r.tables.length tc, .slice mA r.maps.length mc] 65)
  have row1 := heap_last w (.cells #[.int .i64 r.epoch, .int .i64 r.blocks, .int .i64 r.next, .int .i64 r.start, .slice tA r.tables.length tc, .slice mA r.maps.length mc] 65)
  rw [hW1] at b1 row1
  have z1 : W1.heap.size = w.heap.size + 1 := by rw [← hW1]; simp
  have s1 := Seen.made W1
  have b2 := b1.alloc b1.size (.map #[] 0)
  have row2 := (((Below.refl W1.heap.size W1).alloc (Nat.le_refl _) (.map #[] 0)).block w.heap.size (lt_of_row row1)).trans row1
  obtain ⟨mb, hmb⟩ : ∃ mb, W1.heap.size = mb := ⟨_, rfl⟩
  rw [hmb] at s1 z1
  obtain ⟨w2, hr2, hs2, hg2⟩ := s1.put (j := 0) (by omega) (by omega)
  obtain ⟨w3, hr3, hs3, hg3⟩ := hs2.put (j := 1) (by omega) (by omega)
  have row3 := (hg3.block w.heap.size (Nat.lt_of_lt_of_le (lt_of_row row2) hg2.size) (fun e => by have := Option.some.inj e; omega)).trans ((hg2.block w.heap.size (lt_of_row row2) (fun e => by have := Option.some.inj e; omega)).trans row2)
  have b3 : Below w.heap.size w w3 := (b2.grown hg2 b2.size (fun k hk => by cases hk; omega)).grown hg3 (Nat.le_trans b2.size hg2.size) (fun k hk => by cases hk; omega)
  have HR2 := Hide.mk hr2
  have HR3 := Hide.mk hr3
  have S3 := Hide.mk hs3
  have ROW3 := Hide.mk row3
  have B3 := Hide.mk b3
  have H3 := Hide.mk (show In .i64 w3 tA r.tables tc ∧ In .i64 w3 mA r.maps mc ∧ In .i64 w3 A table c from ⟨ht.below b3, hm.below b3, hb.below b3⟩)
  have HMB := Hide.mk (show w.heap.size ≤ mb ∧ w.heap.size ≠ mb from ⟨by omega, by omega⟩)
  have hmm := @run_makeMap Tryz.prog
  have HWM := Hide.mk (And.intro hW1 (show w.heap.size + 1 = mb by omega))
  have HTT := Hide.mk htb
  clear hW1 hmb z1 hr2 hr3 hs2 hs3 hg2 hg3 row1 row2 row3 b1 b2 b3 s1 hSF hL hLe hrl ht hm hM hby hck hsw
  by_cases hA : (table.length : Int) = r.next + 1
  · by_cases hn : 0 < r.next
    · have hlt : r.next < (table.length : Int) := by omega
      obtain ⟨ad, hAd, hcn⟩ := Kd.at_int hb.reads r.next hn0 hlt
      have hrdn : rd table r.next = table.getD r.next.toNat 0 := by simp [rd]
      rw [hrdn] at hcn
      obtain ⟨x, hx⟩ : ∃ x, table.getD r.next.toNat 0 = x := ⟨_, rfl⟩
      rw [hx] at hcn hR
      have hcn1 : ∀ o, (w.alloc o).cell? (ad.add r.next.toNat) = some (.int .i64 x) := fun o => pw_cell_below ((Below.refl w.heap.size w).alloc (Nat.le_refl _) o) hcn
      have HX := Hide.mk hx
      subst hAd
      by_cases hx0 : x = 0
      · subst hx0
        rw [if_pos (.inr (.inl ⟨hn, by trivial⟩))] at hR
        have HRR := Hide.mk hR.symm
        have hA2 : ((table.length : Int) != r.next + 1) = false := by simp [hA]
        clear hR hx hrdn
        go_enter Tryz.func75, Tryz.ntmps75
        go_wp2
        go_ret
        exact ⟨by rw [HRR.out]; rfl, below_alloc (Below.refl _ _) _⟩
      · have qx : (x == 0) = false := by simp [hx0]
        by_cases hs : 0 < r.start
        · have hlt2 : r.start < (table.length : Int) := by omega
          obtain ⟨ad2, hAd2, hcs⟩ := Kd.at_int hb.reads r.start hs0 hlt2
          cases hAd2
          have hrds : rd table r.start = table.getD r.start.toNat 0 := by simp [rd]
          rw [hrds] at hcs
          obtain ⟨y, hy⟩ : ∃ y, table.getD r.start.toNat 0 = y := ⟨_, rfl⟩
          rw [hy] at hcs hR
          have hcs1 : ∀ o, (w.alloc o).cell? (ad.add r.start.toNat) = some (.int .i64 y) := fun o => pw_cell_below ((Below.refl w.heap.size w).alloc (Nat.le_refl _) o) hcs
          have HY := Hide.mk hy
          by_cases hy0 : y = 0
          · subst hy0
            rw [if_pos (.inr (.inr ⟨hs, by trivial⟩))] at hR
            have HRR := Hide.mk hR.symm
            have hA2 : ((table.length : Int) != r.next + 1) = false := by simp [hA]
            clear hR hx hrdn hy hrds hx0
            go_enter Tryz.func75, Tryz.ntmps75
            go_wp2
            go_ret
            exact ⟨by rw [HRR.out]; rfl, below_alloc (Below.refl _ _) _⟩
          · have qy : (y == 0) = false := by simp [hy0]
            rw [if_neg (fun h => by rcases h with h | h | h; exact h hA; exact hx0 h.2; exact hy0 h.2)] at hR
            have HRR := Hide.mk hR.symm
            have hA2 : ((table.length : Int) != r.next + 1) = false := by simp [hA]
            clear hR hx hrdn hy hrds hx0 hy0
            have e4 := cell_of (i := 4) ROW3.out
            have e5 := cell_of (i := 5) ROW3.out
            simp at e4 e5
            go_enter Tryz.func75, Tryz.ntmps75
            go_wp2_with (first
              | (rw [HWM.out.1, HWM.out.2]
                 refine map_ins rfl _ _ _ rfl mb 0 true rfl rfl rfl HR2.out ?_)
              | (refine map_ins rfl _ _ _ rfl mb 1 true rfl rfl rfl HR3.out ?_)
              | (go_at_call 93
                 obtain ⟨WX, hWX⟩ : ∃ W, w3.alloc (.cells #[.slice tA r.tables.length tc, .slice mA r.maps.length mc, .slice (some ad) table.length c] 38) = W := ⟨_, rfl⟩
                 rw [hWX]
                 have hal := (Below.refl w3.heap.size w3).alloc (Nat.le_refl _) (.cells #[.slice tA r.tables.length tc, .slice mA r.maps.length mc, .slice (some ad) table.length c] 38)
                 have rowx := heap_last w3 (.cells #[.slice tA r.tables.length tc, .slice mA r.maps.length mc, .slice (some ad) table.length c] 38)
                 rw [hWX] at hal rowx
                 refine (concat3_any rowx (H3.out.1.below hal) (H3.out.2.1.below hal) (H3.out.2.2.below hal) (by have := HZ.out; omega) HL.out).mono ?_
                 rintro e w4 ⟨A4, c4, rfl, hi4, hge4, hb4⟩
                 have I4 := Hide.mk hi4
                 have B34 := Hide.mk (hal.trans (hb4.mono hal.size))
                 clear hWX hal rowx hi4 hge4 hb4))
            have S4 := Hide.mk (S3.out.below B34.out)
            have ROW4 := Hide.mk ((B34.out.block w.heap.size (lt_of_row ROW3.out)).trans ROW3.out)
            have B4 := Hide.mk (B3.out.trans (B34.out.mono B3.out.size))
            clear S3 B34 HR2 HR3
            have hn0 := HLN.out
            go_loopw [52] (fun v52 wr => ∃ (i : Nat) (seen : Int → Bool), v52 = .int .i64 (i : Int) ∧ Hide (i ≤ L.length) ∧ Hide (SF = seenF r (r.tables.length + r.maps.length) (L.drop i) i seen) ∧ Hide (Seen wr mb seen) ∧ Hide (Below w.heap.size w wr) ∧ Hide (In .i64 wr A4 L c4) ∧ Hide (wr.heap[w.heap.size]? = some (.cells #[.int .i64 r.epoch, .int .i64 r.blocks, .int .i64 r.next, .int .i64 r.start, .slice tA r.tables.length tc, .slice mA r.maps.length mc] 65 (0, 0)))) (fun v52 _ => L.length - (intOf v52).toNat)
            case atStart => exact ⟨0, _, by first | rfl | simp, ⟨Nat.zero_le _⟩, ⟨by rw [List.drop_zero]; exact HSF.out.symm⟩, S4, B4, I4, ROW4⟩
            case round =>
              obtain ⟨i, seen, rfl, hi, hSF, hS, hB, hI, hrow⟩ := hrel
              have k1 := cell_of (i := 1) hrow.out
              have k4 := cell_of (i := 4) hrow.out
              have k5 := cell_of (i := 5) hrow.out
              simp at k1 k4 k5
              clear S4 B4 I4 ROW4
              have hn0 := HLN.out
              have hz0 := HZ.out
              by_cases hlt0 : i < L.length
              · have hlt : (i : Int) < (L.length : Int) := by omega
                obtain ⟨ad4, hA4, hcell⟩ := Kd.at_int hI.out.reads (i : Int) (by omega) hlt
                rw [Int.toNat_natCast] at hcell
                have hrd : rd L (i : Int) = L[i] := by simp [rd, List.getD_eq_getElem?_getD, hlt0]
                rw [hrd] at hcell
                have HXW := Hide.mk (HLE.out L[i] (List.getElem_mem _))
                have HXT : Hide (L[i] = 0 → r.tables.length + r.maps.length ≤ i) := ⟨fun e => by
                  rcases Nat.lt_or_ge i (r.tables.length + r.maps.length) with q | q
                  · exfalso
                    have hm : L[i] ∈ r.tables ++ r.maps := by
                      have : L[i]? = (r.tables ++ r.maps)[i]? := by rw [HLL.out, List.getElem?_append_left (by rw [List.length_append]; exact q)]
                      rw [List.getElem?_eq_getElem hlt0, List.getElem?_eq_getElem (by rw [List.length_append]; exact q)] at this
                      rw [Option.some.inj this]
                      exact List.getElem_mem _
                    have := check_each HCK.out _ hm
                    omega
                  · exact q⟩
                have E1 : Hide (L.drop i = L[i] :: L.drop (i + 1)) := ⟨List.drop_eq_getElem_cons hlt0⟩
                generalize L[i] = x at *
                have LT := Hide.mk hlt0
                have hR1 := hSF.out
                rw [E1.out, seenF_cons] at hR1
                subst hA4
                by_cases hx : x = 0
                · have hki := HXT.out hx
                  have hkk : ((r.tables.length : Int) + (r.maps.length : Int)) ≤ (i : Int) := by omega
                  rw [if_pos ⟨hx, hki⟩] at hR1
                  have HR1 := Hide.mk hR1
                  subst hx
                  clear hR1 hSF hrd hlt0 hki
                  go_wp2
                  go_roundw
                  case rel => exact ⟨i + 1, seen, by go_num, ⟨by have := LT.out; omega⟩, HR1, hS, hB, hI, hrow⟩
                  case measure => have := LT.out; simp [intOf]; omega
                · rw [if_neg (fun h => hx h.1)] at hR1
                  have q : (x == 0) = false := by simp [hx]
                  by_cases hbl : r.blocks ≤ x
                  · rw [if_pos (.inl hbl)] at hR1
                    have HR1 := Hide.mk hR1
                    clear hR1 hSF hrd hlt0
                    go_wp2
                    go_ret
                    exact ⟨by rw [HRR.out, if_pos HR1.out]; rfl, hB.out⟩
                  · have HBL := Hide.mk hbl
                    have hxs : 0 ≤ x ∧ x < 4096 := ⟨HXW.out.1, by have := (check_range HCK.out).2.1; omega⟩
                    have hlk := hS.out.look (wf_small hxs.1 hxs.2)
                    have HXS := Hide.mk hxs
                    by_cases hsx : seen x = true
                    · rw [if_pos (.inr hsx)] at hR1
                      have HR1 := Hide.mk hR1
                      rw [hsx] at hlk
                      clear hR1 hSF hrd hlt0 hsx hxs
                      go_wp2
                      go_ret
                      exact ⟨by rw [HRR.out, if_pos HR1.out]; rfl, hB.out⟩
                    · rw [if_neg (fun h => by rcases h with h | h; exact hbl h; exact hsx h)] at hR1
                      have HR1 := Hide.mk hR1
                      have hsf : seen x = false := by simpa using hsx
                      rw [hsf] at hlk
                      obtain ⟨w5, hr5, hs5, hg5⟩ := hS.out.put hxs.1 hxs.2
                      have HR5 := Hide.mk hr5
                      have FIN := Hide.mk (show Seen w5 mb (fun j => decide (j = x) || seen j) ∧ Below w.heap.size w w5 ∧ In .i64 w5 (some ad4) L c4 ∧ w5.heap[w.heap.size]? = some (.cells #[.int .i64 r.epoch, .int .i64 r.blocks, .int .i64 r.next, .int .i64 r.start, .slice tA r.tables.length tc, .slice mA r.maps.length mc] 65 (0, 0)) from
                        ⟨hs5, hB.out.grown hg5 hB.out.size (fun k hk => by cases hk; exact HMB.out.1), hI.out.moves (Moves.of_grown hg5) (fun a ha hm => by cases ha; simp only [List.mem_singleton] at hm; obtain ⟨es, clock, hh, _⟩ := hS.out.ex.choose_spec.1.choose_spec.owns; have hc := hcell; rw [World.cell?, show (ad4.add i).block = mb by rw [add_block]; exact hm, hh] at hc; cases hc), (hg5.block w.heap.size (lt_of_row hrow.out) (fun e => HMB.out.2 (Option.some.inj e))).trans hrow.out⟩)
                      clear hR1 hSF hrd hlt0 hsx hsf hr5 hs5 hg5 hxs
                      go_wp2_with (refine map_upd rfl _ _ _ rfl mb x true rfl rfl rfl HR5.out ?_)
                      go_roundw
                      case rel => exact ⟨i + 1, _, by go_num, ⟨by have := LT.out; omega⟩, HR1, ⟨FIN.out.1⟩, ⟨FIN.out.2.1⟩, ⟨FIN.out.2.2.1⟩, ⟨FIN.out.2.2.2⟩⟩
                      case measure => have := LT.out; simp [intOf]; omega
              · have hlt : ¬ (i : Int) < (L.length : Int) := by omega
                have E := Hide.mk (show i = L.length by have := hi.out; omega)
                have hR2 : SF = true := by rw [hSF.out, E.out, List.drop_length]; rfl
                have HR2 := Hide.mk hR2
                clear hlt0 hSF hR2
                have HUB0 := usedBy_any r table (some ad) c tc mc tA mA wr (HI.out.1.below hB.out) (HI.out.2.1.below hB.out) (HI.out.2.2.below hB.out) (by have := HZ.out; omega)
                unfold Root.val at HUB0
                have HUB := Hide.mk HUB0
                clear HUB0
                have HROWR := hrow
                clear hrow
                go_wp2_with (first
                  | (refine load_root rfl _ rfl w.heap.size #[.int .i64 r.epoch, .int .i64 r.blocks, .int .i64 r.next, .int .i64 r.start, .slice tA r.tables.length tc, .slice mA r.maps.length mc] rfl HROWR.out rfl ?_)
                  | (go_at_call 45
                     with_reducible refine HUB.out.mono ?_
                     rintro e w5 ⟨v5, rfl, ho, hb5⟩
                     obtain ⟨A5, c5, hv5, hi5, hge5⟩ := In.of_own ho
                     have HEQ0 := bytes_Equal.calls M mcap m A5 c5 (usedL r table) _ w5 ((HMM.out.below hB.out).below hb5).reads ((HMM.out.below hB.out).below hb5).room hi5.reads hi5.room (equal_eq HMY.out (usedL_bytes _ _))
                     obtain ⟨n5, hn5⟩ : ∃ n, (usedL r table).length = n := ⟨_, rfl⟩
                     rw [hn5] at hv5 HEQ0
                     subst hv5
                     have HEQ := Hide.mk HEQ0
                     have B5 := Hide.mk (hB.out.trans (hb5.mono hB.out.size))
                     clear ho hb5 hi5 hge5 hn5 HEQ0)
                  | (go_at_call 111
                     with_reducible refine HEQ.out.mono ?_
                     rintro e w6 ⟨rfl, hd⟩
                     have B6 := Hide.mk (B5.out.trans (hd.below.mono B5.out.size))
                     clear hd))
                go_ret
                exact ⟨by rw [HRR.out, if_neg (by rw [HR2.out]; simp)]; rfl, B6.out⟩
        · rw [if_neg (fun h => by rcases h with h | h | h; exact h hA; exact hx0 h.2; exact hs h.1)] at hR
          have HRR := Hide.mk hR.symm
          have hA2 : ((table.length : Int) != r.next + 1) = false := by simp [hA]
          clear hR hx hrdn hx0
          have e4 := cell_of (i := 4) ROW3.out
          have e5 := cell_of (i := 5) ROW3.out
          simp at e4 e5
          go_enter Tryz.func75, Tryz.ntmps75
          go_wp2_with (first
            | (rw [HWM.out.1, HWM.out.2]
               refine map_ins rfl _ _ _ rfl mb 0 true rfl rfl rfl HR2.out ?_)
            | (refine map_ins rfl _ _ _ rfl mb 1 true rfl rfl rfl HR3.out ?_)
            | (go_at_call 93
               obtain ⟨WX, hWX⟩ : ∃ W, w3.alloc (.cells #[.slice tA r.tables.length tc, .slice mA r.maps.length mc, .slice (some ad) table.length c] 38) = W := ⟨_, rfl⟩
               rw [hWX]
               have hal := (Below.refl w3.heap.size w3).alloc (Nat.le_refl _) (.cells #[.slice tA r.tables.length tc, .slice mA r.maps.length mc, .slice (some ad) table.length c] 38)
               have rowx := heap_last w3 (.cells #[.slice tA r.tables.length tc, .slice mA r.maps.length mc, .slice (some ad) table.length c] 38)
               rw [hWX] at hal rowx
               refine (concat3_any rowx (H3.out.1.below hal) (H3.out.2.1.below hal) (H3.out.2.2.below hal) (by have := HZ.out; omega) HL.out).mono ?_
               rintro e w4 ⟨A4, c4, rfl, hi4, hge4, hb4⟩
               have I4 := Hide.mk hi4
               have B34 := Hide.mk (hal.trans (hb4.mono hal.size))
               clear hWX hal rowx hi4 hge4 hb4))
          have S4 := Hide.mk (S3.out.below B34.out)
          have ROW4 := Hide.mk ((B34.out.block w.heap.size (lt_of_row ROW3.out)).trans ROW3.out)
          have B4 := Hide.mk (B3.out.trans (B34.out.mono B3.out.size))
          clear S3 B34 HR2 HR3
          have hn0 := HLN.out
          go_loopw [52] (fun v52 wr => ∃ (i : Nat) (seen : Int → Bool), v52 = .int .i64 (i : Int) ∧ Hide (i ≤ L.length) ∧ Hide (SF = seenF r (r.tables.length + r.maps.length) (L.drop i) i seen) ∧ Hide (Seen wr mb seen) ∧ Hide (Below w.heap.size w wr) ∧ Hide (In .i64 wr A4 L c4) ∧ Hide (wr.heap[w.heap.size]? = some (.cells #[.int .i64 r.epoch, .int .i64 r.blocks, .int .i64 r.next, .int .i64 r.start, .slice tA r.tables.length tc, .slice mA r.maps.length mc] 65 (0, 0)))) (fun v52 _ => L.length - (intOf v52).toNat)
          case atStart => exact ⟨0, _, by first | rfl | simp, ⟨Nat.zero_le _⟩, ⟨by rw [List.drop_zero]; exact HSF.out.symm⟩, S4, B4, I4, ROW4⟩
          case round =>
            obtain ⟨i, seen, rfl, hi, hSF, hS, hB, hI, hrow⟩ := hrel
            have k1 := cell_of (i := 1) hrow.out
            have k4 := cell_of (i := 4) hrow.out
            have k5 := cell_of (i := 5) hrow.out
            simp at k1 k4 k5
            clear S4 B4 I4 ROW4
            have hn0 := HLN.out
            have hz0 := HZ.out
            by_cases hlt0 : i < L.length
            · have hlt : (i : Int) < (L.length : Int) := by omega
              obtain ⟨ad4, hA4, hcell⟩ := Kd.at_int hI.out.reads (i : Int) (by omega) hlt
              rw [Int.toNat_natCast] at hcell
              have hrd : rd L (i : Int) = L[i] := by simp [rd, List.getD_eq_getElem?_getD, hlt0]
              rw [hrd] at hcell
              have HXW := Hide.mk (HLE.out L[i] (List.getElem_mem _))
              have HXT : Hide (L[i] = 0 → r.tables.length + r.maps.length ≤ i) := ⟨fun e => by
                rcases Nat.lt_or_ge i (r.tables.length + r.maps.length) with q | q
                · exfalso
                  have hm : L[i] ∈ r.tables ++ r.maps := by
                    have : L[i]? = (r.tables ++ r.maps)[i]? := by rw [HLL.out, List.getElem?_append_left (by rw [List.length_append]; exact q)]
                    rw [List.getElem?_eq_getElem hlt0, List.getElem?_eq_getElem (by rw [List.length_append]; exact q)] at this
                    rw [Option.some.inj this]
                    exact List.getElem_mem _
                  have := check_each HCK.out _ hm
                  omega
                · exact q⟩
              have E1 : Hide (L.drop i = L[i] :: L.drop (i + 1)) := ⟨List.drop_eq_getElem_cons hlt0⟩
              generalize L[i] = x at *
              have LT := Hide.mk hlt0
              have hR1 := hSF.out
              rw [E1.out, seenF_cons] at hR1
              subst hA4
              by_cases hx : x = 0
              · have hki := HXT.out hx
                have hkk : ((r.tables.length : Int) + (r.maps.length : Int)) ≤ (i : Int) := by omega
                rw [if_pos ⟨hx, hki⟩] at hR1
                have HR1 := Hide.mk hR1
                subst hx
                clear hR1 hSF hrd hlt0 hki
                go_wp2
                go_roundw
                case rel => exact ⟨i + 1, seen, by go_num, ⟨by have := LT.out; omega⟩, HR1, hS, hB, hI, hrow⟩
                case measure => have := LT.out; simp [intOf]; omega
              · rw [if_neg (fun h => hx h.1)] at hR1
                have q : (x == 0) = false := by simp [hx]
                by_cases hbl : r.blocks ≤ x
                · rw [if_pos (.inl hbl)] at hR1
                  have HR1 := Hide.mk hR1
                  clear hR1 hSF hrd hlt0
                  go_wp2
                  go_ret
                  exact ⟨by rw [HRR.out, if_pos HR1.out]; rfl, hB.out⟩
                · have HBL := Hide.mk hbl
                  have hxs : 0 ≤ x ∧ x < 4096 := ⟨HXW.out.1, by have := (check_range HCK.out).2.1; omega⟩
                  have hlk := hS.out.look (wf_small hxs.1 hxs.2)
                  have HXS := Hide.mk hxs
                  by_cases hsx : seen x = true
                  · rw [if_pos (.inr hsx)] at hR1
                    have HR1 := Hide.mk hR1
                    rw [hsx] at hlk
                    clear hR1 hSF hrd hlt0 hsx hxs
                    go_wp2
                    go_ret
                    exact ⟨by rw [HRR.out, if_pos HR1.out]; rfl, hB.out⟩
                  · rw [if_neg (fun h => by rcases h with h | h; exact hbl h; exact hsx h)] at hR1
                    have HR1 := Hide.mk hR1
                    have hsf : seen x = false := by simpa using hsx
                    rw [hsf] at hlk
                    obtain ⟨w5, hr5, hs5, hg5⟩ := hS.out.put hxs.1 hxs.2
                    have HR5 := Hide.mk hr5
                    have FIN := Hide.mk (show Seen w5 mb (fun j => decide (j = x) || seen j) ∧ Below w.heap.size w w5 ∧ In .i64 w5 (some ad4) L c4 ∧ w5.heap[w.heap.size]? = some (.cells #[.int .i64 r.epoch, .int .i64 r.blocks, .int .i64 r.next, .int .i64 r.start, .slice tA r.tables.length tc, .slice mA r.maps.length mc] 65 (0, 0)) from
                      ⟨hs5, hB.out.grown hg5 hB.out.size (fun k hk => by cases hk; exact HMB.out.1), hI.out.moves (Moves.of_grown hg5) (fun a ha hm => by cases ha; simp only [List.mem_singleton] at hm; obtain ⟨es, clock, hh, _⟩ := hS.out.ex.choose_spec.1.choose_spec.owns; have hc := hcell; rw [World.cell?, show (ad4.add i).block = mb by rw [add_block]; exact hm, hh] at hc; cases hc), (hg5.block w.heap.size (lt_of_row hrow.out) (fun e => HMB.out.2 (Option.some.inj e))).trans hrow.out⟩)
                    clear hR1 hSF hrd hlt0 hsx hsf hr5 hs5 hg5 hxs
                    go_wp2_with (refine map_upd rfl _ _ _ rfl mb x true rfl rfl rfl HR5.out ?_)
                    go_roundw
                    case rel => exact ⟨i + 1, _, by go_num, ⟨by have := LT.out; omega⟩, HR1, ⟨FIN.out.1⟩, ⟨FIN.out.2.1⟩, ⟨FIN.out.2.2.1⟩, ⟨FIN.out.2.2.2⟩⟩
                    case measure => have := LT.out; simp [intOf]; omega
            · have hlt : ¬ (i : Int) < (L.length : Int) := by omega
              have E := Hide.mk (show i = L.length by have := hi.out; omega)
              have hR2 : SF = true := by rw [hSF.out, E.out, List.drop_length]; rfl
              have HR2 := Hide.mk hR2
              clear hlt0 hSF hR2
              have HUB0 := usedBy_any r table (some ad) c tc mc tA mA wr (HI.out.1.below hB.out) (HI.out.2.1.below hB.out) (HI.out.2.2.below hB.out) (by have := HZ.out; omega)
              unfold Root.val at HUB0
              have HUB := Hide.mk HUB0
              clear HUB0
              have HROWR := hrow
              clear hrow
              go_wp2_with (first
                | (refine load_root rfl _ rfl w.heap.size #[.int .i64 r.epoch, .int .i64 r.blocks, .int .i64 r.next, .int .i64 r.start, .slice tA r.tables.length tc, .slice mA r.maps.length mc] rfl HROWR.out rfl ?_)
                | (go_at_call 45
                   with_reducible refine HUB.out.mono ?_
                   rintro e w5 ⟨v5, rfl, ho, hb5⟩
                   obtain ⟨A5, c5, hv5, hi5, hge5⟩ := In.of_own ho
                   have HEQ0 := bytes_Equal.calls M mcap m A5 c5 (usedL r table) _ w5 ((HMM.out.below hB.out).below hb5).reads ((HMM.out.below hB.out).below hb5).room hi5.reads hi5.room (equal_eq HMY.out (usedL_bytes _ _))
                   obtain ⟨n5, hn5⟩ : ∃ n, (usedL r table).length = n := ⟨_, rfl⟩
                   rw [hn5] at hv5 HEQ0
                   subst hv5
                   have HEQ := Hide.mk HEQ0
                   have B5 := Hide.mk (hB.out.trans (hb5.mono hB.out.size))
                   clear ho hb5 hi5 hge5 hn5 HEQ0)
                | (go_at_call 111
                   with_reducible refine HEQ.out.mono ?_
                   rintro e w6 ⟨rfl, hd⟩
                   have B6 := Hide.mk (B5.out.trans (hd.below.mono B5.out.size))
                   clear hd))
              go_ret
              exact ⟨by rw [HRR.out, if_neg (by rw [HR2.out]; simp)]; rfl, B6.out⟩
    · have hs : ¬ 0 < r.start := by omega
      rw [if_neg (fun h => by rcases h with h | h | h; exact h hA; exact hn h.1; exact hs h.1)] at hR
      have HRR := Hide.mk hR.symm
      have hA2 : ((table.length : Int) != r.next + 1) = false := by simp [hA]
      clear hR
      have e4 := cell_of (i := 4) ROW3.out
      have e5 := cell_of (i := 5) ROW3.out
      simp at e4 e5
      go_enter Tryz.func75, Tryz.ntmps75
      go_wp2_with (first
        | (rw [HWM.out.1, HWM.out.2]
           refine map_ins rfl _ _ _ rfl mb 0 true rfl rfl rfl HR2.out ?_)
        | (refine map_ins rfl _ _ _ rfl mb 1 true rfl rfl rfl HR3.out ?_)
        | (go_at_call 93
           obtain ⟨WX, hWX⟩ : ∃ W, w3.alloc (.cells #[.slice tA r.tables.length tc, .slice mA r.maps.length mc, .slice A table.length c] 38) = W := ⟨_, rfl⟩
           rw [hWX]
           have hal := (Below.refl w3.heap.size w3).alloc (Nat.le_refl _) (.cells #[.slice tA r.tables.length tc, .slice mA r.maps.length mc, .slice A table.length c] 38)
           have rowx := heap_last w3 (.cells #[.slice tA r.tables.length tc, .slice mA r.maps.length mc, .slice A table.length c] 38)
           rw [hWX] at hal rowx
           refine (concat3_any rowx (H3.out.1.below hal) (H3.out.2.1.below hal) (H3.out.2.2.below hal) (by have := HZ.out; omega) HL.out).mono ?_
           rintro e w4 ⟨A4, c4, rfl, hi4, hge4, hb4⟩
           have I4 := Hide.mk hi4
           have B34 := Hide.mk (hal.trans (hb4.mono hal.size))
           clear hWX hal rowx hi4 hge4 hb4))
      have S4 := Hide.mk (S3.out.below B34.out)
      have ROW4 := Hide.mk ((B34.out.block w.heap.size (lt_of_row ROW3.out)).trans ROW3.out)
      have B4 := Hide.mk (B3.out.trans (B34.out.mono B3.out.size))
      clear S3 B34 HR2 HR3
      have hn0 := HLN.out
      go_loopw [52] (fun v52 wr => ∃ (i : Nat) (seen : Int → Bool), v52 = .int .i64 (i : Int) ∧ Hide (i ≤ L.length) ∧ Hide (SF = seenF r (r.tables.length + r.maps.length) (L.drop i) i seen) ∧ Hide (Seen wr mb seen) ∧ Hide (Below w.heap.size w wr) ∧ Hide (In .i64 wr A4 L c4) ∧ Hide (wr.heap[w.heap.size]? = some (.cells #[.int .i64 r.epoch, .int .i64 r.blocks, .int .i64 r.next, .int .i64 r.start, .slice tA r.tables.length tc, .slice mA r.maps.length mc] 65 (0, 0)))) (fun v52 _ => L.length - (intOf v52).toNat)
      case atStart => exact ⟨0, _, by first | rfl | simp, ⟨Nat.zero_le _⟩, ⟨by rw [List.drop_zero]; exact HSF.out.symm⟩, S4, B4, I4, ROW4⟩
      case round =>
        obtain ⟨i, seen, rfl, hi, hSF, hS, hB, hI, hrow⟩ := hrel
        have k1 := cell_of (i := 1) hrow.out
        have k4 := cell_of (i := 4) hrow.out
        have k5 := cell_of (i := 5) hrow.out
        simp at k1 k4 k5
        clear S4 B4 I4 ROW4
        have hn0 := HLN.out
        have hz0 := HZ.out
        by_cases hlt0 : i < L.length
        · have hlt : (i : Int) < (L.length : Int) := by omega
          obtain ⟨ad4, hA4, hcell⟩ := Kd.at_int hI.out.reads (i : Int) (by omega) hlt
          rw [Int.toNat_natCast] at hcell
          have hrd : rd L (i : Int) = L[i] := by simp [rd, List.getD_eq_getElem?_getD, hlt0]
          rw [hrd] at hcell
          have HXW := Hide.mk (HLE.out L[i] (List.getElem_mem _))
          have HXT : Hide (L[i] = 0 → r.tables.length + r.maps.length ≤ i) := ⟨fun e => by
            rcases Nat.lt_or_ge i (r.tables.length + r.maps.length) with q | q
            · exfalso
              have hm : L[i] ∈ r.tables ++ r.maps := by
                have : L[i]? = (r.tables ++ r.maps)[i]? := by rw [HLL.out, List.getElem?_append_left (by rw [List.length_append]; exact q)]
                rw [List.getElem?_eq_getElem hlt0, List.getElem?_eq_getElem (by rw [List.length_append]; exact q)] at this
                rw [Option.some.inj this]
                exact List.getElem_mem _
              have := check_each HCK.out _ hm
              omega
            · exact q⟩
          have E1 : Hide (L.drop i = L[i] :: L.drop (i + 1)) := ⟨List.drop_eq_getElem_cons hlt0⟩
          generalize L[i] = x at *
          have LT := Hide.mk hlt0
          have hR1 := hSF.out
          rw [E1.out, seenF_cons] at hR1
          subst hA4
          by_cases hx : x = 0
          · have hki := HXT.out hx
            have hkk : ((r.tables.length : Int) + (r.maps.length : Int)) ≤ (i : Int) := by omega
            rw [if_pos ⟨hx, hki⟩] at hR1
            have HR1 := Hide.mk hR1
            subst hx
            clear hR1 hSF hrd hlt0 hki
            go_wp2
            go_roundw
            case rel => exact ⟨i + 1, seen, by go_num, ⟨by have := LT.out; omega⟩, HR1, hS, hB, hI, hrow⟩
            case measure => have := LT.out; simp [intOf]; omega
          · rw [if_neg (fun h => hx h.1)] at hR1
            have q : (x == 0) = false := by simp [hx]
            by_cases hbl : r.blocks ≤ x
            · rw [if_pos (.inl hbl)] at hR1
              have HR1 := Hide.mk hR1
              clear hR1 hSF hrd hlt0
              go_wp2
              go_ret
              exact ⟨by rw [HRR.out, if_pos HR1.out]; rfl, hB.out⟩
            · have HBL := Hide.mk hbl
              have hxs : 0 ≤ x ∧ x < 4096 := ⟨HXW.out.1, by have := (check_range HCK.out).2.1; omega⟩
              have hlk := hS.out.look (wf_small hxs.1 hxs.2)
              have HXS := Hide.mk hxs
              by_cases hsx : seen x = true
              · rw [if_pos (.inr hsx)] at hR1
                have HR1 := Hide.mk hR1
                rw [hsx] at hlk
                clear hR1 hSF hrd hlt0 hsx hxs
                go_wp2
                go_ret
                exact ⟨by rw [HRR.out, if_pos HR1.out]; rfl, hB.out⟩
              · rw [if_neg (fun h => by rcases h with h | h; exact hbl h; exact hsx h)] at hR1
                have HR1 := Hide.mk hR1
                have hsf : seen x = false := by simpa using hsx
                rw [hsf] at hlk
                obtain ⟨w5, hr5, hs5, hg5⟩ := hS.out.put hxs.1 hxs.2
                have HR5 := Hide.mk hr5
                have FIN := Hide.mk (show Seen w5 mb (fun j => decide (j = x) || seen j) ∧ Below w.heap.size w w5 ∧ In .i64 w5 (some ad4) L c4 ∧ w5.heap[w.heap.size]? = some (.cells #[.int .i64 r.epoch, .int .i64 r.blocks, .int .i64 r.next, .int .i64 r.start, .slice tA r.tables.length tc, .slice mA r.maps.length mc] 65 (0, 0)) from
                  ⟨hs5, hB.out.grown hg5 hB.out.size (fun k hk => by cases hk; exact HMB.out.1), hI.out.moves (Moves.of_grown hg5) (fun a ha hm => by cases ha; simp only [List.mem_singleton] at hm; obtain ⟨es, clock, hh, _⟩ := hS.out.ex.choose_spec.1.choose_spec.owns; have hc := hcell; rw [World.cell?, show (ad4.add i).block = mb by rw [add_block]; exact hm, hh] at hc; cases hc), (hg5.block w.heap.size (lt_of_row hrow.out) (fun e => HMB.out.2 (Option.some.inj e))).trans hrow.out⟩)
                clear hR1 hSF hrd hlt0 hsx hsf hr5 hs5 hg5 hxs
                go_wp2_with (refine map_upd rfl _ _ _ rfl mb x true rfl rfl rfl HR5.out ?_)
                go_roundw
                case rel => exact ⟨i + 1, _, by go_num, ⟨by have := LT.out; omega⟩, HR1, ⟨FIN.out.1⟩, ⟨FIN.out.2.1⟩, ⟨FIN.out.2.2.1⟩, ⟨FIN.out.2.2.2⟩⟩
                case measure => have := LT.out; simp [intOf]; omega
        · have hlt : ¬ (i : Int) < (L.length : Int) := by omega
          have E := Hide.mk (show i = L.length by have := hi.out; omega)
          have hR2 : SF = true := by rw [hSF.out, E.out, List.drop_length]; rfl
          have HR2 := Hide.mk hR2
          clear hlt0 hSF hR2
          have HUB0 := usedBy_any r table A c tc mc tA mA wr (HI.out.1.below hB.out) (HI.out.2.1.below hB.out) (HI.out.2.2.below hB.out) (by have := HZ.out; omega)
          unfold Root.val at HUB0
          have HUB := Hide.mk HUB0
          clear HUB0
          have HROWR := hrow
          clear hrow
          go_wp2_with (first
            | (refine load_root rfl _ rfl w.heap.size #[.int .i64 r.epoch, .int .i64 r.blocks, .int .i64 r.next, .int .i64 r.start, .slice tA r.tables.length tc, .slice mA r.maps.length mc] rfl HROWR.out rfl ?_)
            | (go_at_call 45
               with_reducible refine HUB.out.mono ?_
               rintro e w5 ⟨v5, rfl, ho, hb5⟩
               obtain ⟨A5, c5, hv5, hi5, hge5⟩ := In.of_own ho
               have HEQ0 := bytes_Equal.calls M mcap m A5 c5 (usedL r table) _ w5 ((HMM.out.below hB.out).below hb5).reads ((HMM.out.below hB.out).below hb5).room hi5.reads hi5.room (equal_eq HMY.out (usedL_bytes _ _))
               obtain ⟨n5, hn5⟩ : ∃ n, (usedL r table).length = n := ⟨_, rfl⟩
               rw [hn5] at hv5 HEQ0
               subst hv5
               have HEQ := Hide.mk HEQ0
               have B5 := Hide.mk (hB.out.trans (hb5.mono hB.out.size))
               clear ho hb5 hi5 hge5 hn5 HEQ0)
            | (go_at_call 111
               with_reducible refine HEQ.out.mono ?_
               rintro e w6 ⟨rfl, hd⟩
               have B6 := Hide.mk (B5.out.trans (hd.below.mono B5.out.size))
               clear hd))
          go_ret
          exact ⟨by rw [HRR.out, if_neg (by rw [HR2.out]; simp)]; rfl, B6.out⟩
  · rw [if_pos (.inl hA)] at hR
    have HRR := Hide.mk hR.symm
    have hA2 : ((table.length : Int) != r.next + 1) = true := by simp [hA]
    clear hR hA
    go_enter Tryz.func75, Tryz.ntmps75
    go_wp2
    go_ret
    exact ⟨by rw [HRR.out]; rfl, below_alloc (Below.refl _ _) _⟩
end Go.Proofs.YtgmkbcoahilkhaaGreat.Sh
end
section
namespace Go.Proofs.YtgmkbcoahilkhaaGreat.Sh
open Go.RowKit Go.Proofs.YtgmkbcoahilkhaaGreatW.PrintWords Go.Proofs.YtgmkbcoahilkhaaGreatW.PrintLast Go.Proofs.YtgmkbcoahilkhaaGreatW.PrintMore Go.Proofs.YtgmkbcoahilkhaaGreat.MapFn Go.Proofs.YtgmkbcoahilkhaaGreat.Disk Go.Proofs.YtgmkbcoahilkhaaGreat.Bitset Go.Proofs.YtgmkbcoahilkhaaGreat.Page Go.Proofs.YtgmkbcoahilkhaaGreat.PShadowPlays Go.Proofs.YtgmkbcoahilkhaaGreat.Num
set_option linter.unusedVariables false
set_option linter.unusedSimpArgs false
set_option maxHeartbeats 16000000
set_option maxRecDepth 100000
def T30_15 : Bool × List (List Nat × List Nat) := (true, [([], []), ([0], [0]), ([1], [1]), ([2], [2]), ([2], [2]), ([4, 2], [2, 4]), ([5, 2], [2, 5]), ([6, 2], [2, 6]), ([7, 2], [2, 7]), ([2], [2]), ([3, 8, 9, 2, 2], [2, 3, 8, 9]), ([10, 2], [2, 10]), ([2, 11], [2, 11])])
def B30_15 : List Nat := [0, 1, 3, 7, 7, 23, 55, 119, 247, 7, 1023, 2047, 4095]
theorem tab30_15 : rtab .any (opsOf Tryz.f30 15) = T30_15 := by kernel_rfl
theorem bits30_15 : waitsOk T30_15.2 B30_15 = true := by kernel_rfl
structure Same (D E : DiskSt) : Prop where
  get : E.get = D.get
  blocks : E.blocks = D.blocks
theorem Same.refl (D : DiskSt) : Same D D := ⟨rfl, rfl⟩
theorem Same.read {D E : DiskSt} (h : Same D E) : Same D E.read := ⟨h.get, h.blocks⟩
theorem gatherF_facts (kind : Int) {D0 : DiskSt} (hB : ∀ n, Bytes (D0.get n)) (hl : ∀ n, (D0.get n).length = 256) : ∀ (bl : List Int) (i : Nat) (D : DiskSt) (out : List Int), Same D0 D → Bytes out →
    Bytes (Sh.gatherF kind bl i D out).2.1 ∧ (Sh.gatherF kind bl i D out).2.1.length ≤ out.length + 250 * bl.length ∧ Same D0 (Sh.gatherF kind bl i D out).1
  | [], i, D, out, hs, ho => ⟨ho, by simp [Sh.gatherF], hs⟩
  | n :: ns, i, D, out, hs, ho => by
    rw [gatherF_cons]
    split
    · exact ⟨(fun x hx => by cases hx), by simp, hs⟩
    · split
      · exact ⟨(fun x hx => by cases hx), by simp, hs.read⟩
      · obtain ⟨h1, h2, h3⟩ := gatherF_facts kind hB hl ns (i + 1) D.read (out ++ (openL (D.get n)).2.2.1) hs.read (fun x hx => by
          rcases List.mem_append.1 hx with q | q
          · exact ho x q
          · exact open_body_bytes (by rw [hs.get]; exact hB n) x q)
        refine ⟨h1, Nat.le_trans h2 ?_, h3⟩
        have := open_body_len (b := D.get n) (by rw [hs.get]; exact hl n)
        rw [List.length_append, List.length_cons]
        omega
theorem better_check {best : Root × Int} {i : Int} {x : List Int} (h : best.2 < 0 ∨ best.1.check = 0) : (Root.better best i x).2 < 0 ∨ (Root.better best i x).1.check = 0 := by
  unfold Root.better
  split
  · rename_i hc
    right
    show (Root.get x).1.check = 0
    have h0 := hc.1
    unfold Root.get at h0 ⊢
    repeat' split at h0
    all_goals first | (cases h0; done) | skip
    rename_i a1 a2 a3 a4 a5
    rw [if_neg a1, if_neg a2, if_neg a3, if_neg a4, if_neg a5]
    simpa using a4
  · exact h
theorem choose_check {a b : List Int} (h : (Root.choose a b).2.2 = 0) : (Root.choose a b).1.check = 0 := by
  unfold Root.choose at h ⊢
  simp only at h ⊢
  have hb := better_check (i := 1) (x := b) (better_check (i := 0) (x := a) (best := (⟨-1, 0, 0, 0, [], []⟩, -1)) (.inl (by decide)))
  split
  · rename_i hc
    rw [if_pos hc] at h
    cases h
  · rename_i hc
    rcases hb with q | q
    · exact absurd q hc
    · exact q
theorem roots_facts (D : DiskSt) : Same D (roots D).1 ∧ ((roots D).2.2 = 0 → (roots D).2.1.check = 0 ∧ (roots D).2.1.blocks = D.blocks) := by
  unfold roots
  split
  · exact ⟨Same.refl D, fun h => absurd h (by assumption)⟩
  · split
    · exact ⟨(Same.refl D).read, fun h => absurd h (by assumption)⟩
    · refine ⟨(Same.refl D).read.read, fun h => ?_⟩
      simp only at h ⊢
      split at h
      · cases h
      · rename_i hc
        refine ⟨choose_check h, ?_⟩
        by_cases q : (Root.choose (D.get 0) (D.read.get 1)).1.blocks = D.blocks
        · exact q
        · exact absurd ⟨h, q⟩ hc
theorem unwordsL_half : ∀ (l : List Int), 2 * (unwordsL l).length ≤ l.length
  | [] => by simp [unwordsL]
  | [_] => by simp [unwordsL]
  | x :: y :: r => by
    have := unwordsL_half r
    simp only [unwordsL, List.length_cons]
    omega
theorem unwordsL_each : ∀ {l : List Int}, Bytes l → ∀ n ∈ unwordsL l, 0 ≤ n ∧ n < 65536
  | [], _, n, h => by cases h
  | [_], _, n, h => by cases h
  | x :: y :: r, hb, n, h => by
    simp only [unwordsL, List.mem_cons] at h
    rcases h with rfl | h
    · have hx : 0 ≤ x ∧ x < 256 := hb x (by simp)
      have hy : 0 ≤ y ∧ y < 256 := hb y (by simp)
      omega
    · exact unwordsL_each (fun z hz => hb z (by simp [hz])) n h
theorem ShAt.pushedL {w w1 : World} {F : Foot} {s : Sh} {v1 : Value} {l : List Int} (h : ShAt w F s) (h0 : 0 < s.table.length) (ho : Kd.R (Kd.int .i64) 3 w1 0 (fun _ => True) v1 (s.table ++ l)) (hg : w.grownBy w1 (some F.g)) (hat : v1.ownBlock = some F.g ∨ ∃ b, v1.ownBlock = some b ∧ w.heap.size ≤ b) :
    ∃ g1 cap1, v1 = .slice (some ⟨g1, 0, none⟩) (s.table ++ l).length cap1 ∧ w1.cell? ⟨F.p, 10, none⟩ = some (.slice (some ⟨F.g, 0, none⟩) s.table.length F.cap) ∧ w1.frozen? ⟨F.p, 10, none⟩ = false ∧
      ShAt (w1.setCell ⟨F.p, 10, none⟩ (.slice (some ⟨g1, 0, none⟩) (s.table ++ l).length cap1)) { F with g := g1, cap := cap1 } { s with table := s.table ++ l } ∧
      Goes F { F with g := g1, cap := cap1 } w (w1.setCell ⟨F.p, 10, none⟩ (.slice (some ⟨g1, 0, none⟩) (s.table ++ l).length cap1)) := by
  obtain ⟨g1, cap1, he, _, _, _⟩ := Kd.R_form ho (by rw [List.length_append]; omega)
  subst he
  have hpg : F.p ≠ F.g := h.ne.2.2.2.1
  have row1 := (hg.block F.p (lt_of_row h.row) (by simpa using hpg)).trans h.row
  have hs := set_row (i := 10) row1 (.slice (some ⟨g1, 0, none⟩) (s.table ++ l).length cap1)
  have hm : Moves [F.p, F.g] w (w1.setCell ⟨F.p, 10, none⟩ (.slice (some ⟨g1, 0, none⟩) (s.table ++ l).length cap1)) := ((Moves.of_grown hg).more (by simp)).trans ((set_moves (i := 10) _).more (by simp))
  have hgg : g1 = F.g ∨ w.heap.size ≤ g1 := by
    rcases hat with e | ⟨b, e, hb⟩
    · exact .inl (Option.some.inj e)
    · cases Option.some.inj e; exact .inr hb
  have hgp : F.p ≠ g1 := by
    have := lt_of_row h.row
    rcases hgg with rfl | hgg
    · exact hpg
    · omega
  have hT : Tab (w1.setCell ⟨F.p, 10, none⟩ (.slice (some ⟨g1, 0, none⟩) (s.table ++ l).length cap1)) g1 cap1 (s.table ++ l) := tab_moves (b := [F.p]) ho (set_moves (i := 10) _) (by simpa using Ne.symm hgp)
  have := h.new_table g1 cap1 (s.table ++ l) s.dirty hm (by
    rw [hs]
    unfold Foot.row
    simp) hT hgg
  exact ⟨g1, cap1, rfl, cell_of row1, free_of row1, this.1, this.2⟩
theorem shopen_any (pd ms ml : Nat) (D : DiskSt) (w : World) (h : DiskAt w pd ms ml D) (hB : ∀ n, Bytes (D.get n)) :
    Calls Tryz.prog 30 #[.pointer (some ⟨pd, 0, none⟩)] w fun e w' => ∃ F : Foot, e = .returned (.tuple #[ptrOf (Sh.open_ D).2 F.p, .int .i64 (Sh.open_ D).2]) ∧ DiskAt w' F.pd F.ms F.ml (Sh.open_ D).1.D ∧ ((Sh.open_ D).2 = 0 → ShAt w' F (Sh.open_ D).1) ∧ Born F pd ms ml w w' := by
  have HD := Hide.mk h
  have HOV := Hide.mk (over_any pd ms ml D w h)
  have HBY := Hide.mk hB
  have HLN : Hide (∀ n, (D.get n).length = 256) := ⟨DiskSt.get_len h⟩
  obtain ⟨R, hR⟩ : ∃ R, Sh.open_ D = R := ⟨_, rfl⟩
  rw [hR]
  unfold Sh.open_ at hR
  obtain ⟨hf1, hf2⟩ := roots_facts D
  obtain ⟨D1, r, e1, hA⟩ : ∃ D1 r e1, roots D = (D1, r, e1) := ⟨_, _, _, rfl⟩
  rw [hA] at hR hf1 hf2
  simp only at hR hf1 hf2
  have HEA := Hide.mk hA
  have SA1 := Hide.mk hf1
  clear h hB hA
  by_cases h1 : e1 = 0
  · subst h1
    rw [if_neg (by simp)] at hR
    have HCK := Hide.mk (hf2 rfl)
    have HCL := Hide.mk (check_len HCK.out.1)
    have HCB := Hide.mk (check_range HCK.out.1).2.1
    have HWT : Hide (∀ n ∈ r.tables, MapFn.wf n) := ⟨fun n hn => by have := check_each HCK.out.1 n (List.mem_append_left _ hn); have := HCB.out; exact wf_small (by omega) (by omega)⟩
    have HWM : Hide (∀ n ∈ r.maps, MapFn.wf n) := ⟨fun n hn => by have := check_each HCK.out.1 n (List.mem_append_right _ hn); have := HCB.out; exact wf_small (by omega) (by omega)⟩
    have HBY1 : Hide (∀ n, Bytes (D1.get n)) := ⟨by rw [hf1.get]; exact HBY.out⟩
    obtain ⟨q1, q2, q3⟩ := gatherF_facts 1 HBY.out HLN.out r.tables 0 D1 [] hf1 (fun x hx => by cases hx)
    rw [show Sh.gatherF 1 r.tables 0 D1 [] = gather D1 1 r.tables from rfl] at q1 q2 q3
    obtain ⟨D2, words, e2, hE2⟩ : ∃ D2 words e2, gather D1 1 r.tables = (D2, words, e2) := ⟨_, _, _, rfl⟩
    rw [hE2] at hR q1 q2 q3
    simp only at hR q1 q2 q3
    have HE2 := Hide.mk hE2
    have HWB := Hide.mk q1
    have HWL : Hide (words.length ≤ 6500) := ⟨by have := HCL.out.1; simp at q2; omega⟩
    have HBY2 : Hide (∀ n, Bytes (D2.get n)) := ⟨by rw [q3.get]; exact HBY.out⟩
    obtain ⟨p1, p2, p3⟩ := gatherF_facts 2 HBY.out HLN.out r.maps 0 D2 [] q3 (fun x hx => by cases hx)
    rw [show Sh.gatherF 2 r.maps 0 D2 [] = gather D2 2 r.maps from rfl] at p1 p2 p3
    obtain ⟨D3, mbs, e3, hE3⟩ : ∃ D3 mbs e3, gather D2 2 r.maps = (D3, mbs, e3) := ⟨_, _, _, rfl⟩
    rw [hE3] at hR p1 p2 p3
    simp only at hR p1 p2 p3
    have HE3 := Hide.mk hE3
    have HMB := Hide.mk p1
    clear hf1 hf2 q1 q2 q3 p1 p2 p3 hE2 hE3
    by_cases h2 : e2 = 0
    · subst h2
      rw [if_neg (by simp)] at hR
      by_cases h3 : e3 = 0
      · subst h3
        rw [if_neg (by simp)] at hR
        by_cases hev : words.length % 2 = 0
        · rw [if_neg (by simpa using hev)] at hR
          have HEV := Hide.mk hev
          obtain ⟨l, hl⟩ : ∃ l, unwordsL words = l := ⟨_, rfl⟩
          have HLW := Hide.mk hl
          have HLL : Hide (l.length ≤ 4000) := ⟨by
            have := unwordsL_half words
            have := HWL.out
            rw [← hl]
            omega⟩
          have HLB : Hide (∀ n ∈ l, 0 ≤ n ∧ n < 65536) := ⟨by rw [← hl]; exact unwordsL_each HWB.out⟩
          rw [hl] at hR
          obtain ⟨b, hb⟩ : ∃ b, right r (0 :: l) mbs = b := ⟨_, rfl⟩
          have HRTE := Hide.mk hb
          rw [hb] at hR
          cases b
          · rw [if_pos rfl] at hR
            have HRR := Hide.mk hR.symm
            clear hR hev hl hb
            go_enter Tryz.func30, Tryz.ntmps30
            go_wp2_with (first
              | (go_at_call 40
                 refine HOV.out.mono ?_
                 rintro e w1 ⟨F, rfl, hs, hpd, hms, hml, hb, hFp, hFg⟩
                 have S1 := Hide.mk hs
                 have HF := Hide.mk (show F.pd = pd ∧ F.ms = ms ∧ F.ml = ml ∧ w.heap.size ≤ F.p ∧ w.heap.size ≤ F.g from ⟨hpd, hms, hml, hFp, hFg⟩)
                 have B1 := Hide.mk hb
                 have HRT0 := roots_any pd ms ml D w1 (HD.out.below hb) HBY.out
                 rw [HEA.out] at HRT0
                 simp only at HRT0
                 unfold Root.val at HRT0
                 have HRT := Hide.mk HRT0
                 clear hs hpd hms hml hb hFp hFg HRT0)
              | (go_at_call 72
                 with_reducible refine HRT.out.mono ?_
                 rintro e w2 ⟨tA, tc, mA, mc, rfl, hd, hT, hM, hG, hm⟩
                 have s20 := S1.out.disk_moves (ml' := F.ml) (D' := D1) (by rw [HF.out.1, HF.out.2.1, HF.out.2.2.1]; exact hd) (.inl rfl) (hm.more (fun x hx => by simp only [List.mem_singleton] at hx; subst hx; left; simp [HF.out.1]))
                 have S2 := Hide.mk (show ShAt w2 F (Sh.over D1) from s20.1)
                 have G2 := Hide.mk (show Goes F F w1 w2 from s20.2)
                 have HT2 := Hide.mk hT
                 have HM2 := Hide.mk hM
                 have HG2 := Hide.mk hG
                 obtain ⟨W3, hW3⟩ : ∃ W, w2.alloc (.cells #[.int .i64 r.epoch, .int .i64 r.blocks, .int .i64 r.next, .int .i64 r.start, .slice tA r.tables.length tc, .slice mA r.maps.length mc] 65) = W := ⟨_, rfl⟩
                 have hal := (Below.refl w2.heap.size w2).alloc (Nat.le_refl _) (.cells #[.int .i64 r.epoch, .int .i64 r.blocks, .int .i64 r.next, .int .i64 r.start, .slice tA r.tables.length tc, .slice mA r.maps.length mc] 65)
                 have rowq := heap_last w2 (.cells #[.int .i64 r.epoch, .int .i64 r.blocks, .int .i64 r.next, .int .i64 r.start, .slice tA r.tables.length tc, .slice mA r.maps.length mc] 65)
                 rw [hW3] at hal rowq
                 have hoffT : ∀ a, tA = some a → ¬ a.block ∈ F.own := fun a ha hx => by have := hG.1 a ha; have := S1.out.lts _ hx; omega
                 have hoffM : ∀ a, mA = some a → ¬ a.block ∈ F.own := fun a ha hx => by have := hG.2 a ha; have := S1.out.lts _ hx; omega
                 have RI0 : RootIn W3 r tA tc mA mc F.own := ⟨hT.below hal, hM.below hal, hoffT, hoffM, by have := HCL.out.1; have := HCL.out.2; omega, by have := HCB.out; omega⟩
                 have RI3 := Hide.mk RI0
                 have S3 := Hide.mk (s20.1.below hal)
                 have B3 := Hide.mk hal
                 have HBR : Hide (¬ w2.heap.size ∈ F.own) := ⟨fun hx => by have := s20.1.lts _ hx; omega⟩
                 have ROW3 := Hide.mk rowq
                 have HW3 := Hide.mk hW3
                 have HGA0 := gather_any 1 tA tc r.tables W3 F (Sh.over D1) S3.out RI0.tables hoffT HWT.out HBY1.out (by have := HCL.out.1; omega)
                 rw [show (Sh.over D1).D = D1 from rfl, HE2.out] at HGA0
                 simp only at HGA0
                 have HGA := Hide.mk HGA0
                 have k4 := cell_of (i := 4) rowq
                 simp at k4
                 clear hal rowq hoffT hoffM RI0 HGA0 hW3
                 clear hd hT hM hG hm s20)
              | (go_at_call 73
                 rw [HW3.out]
                 with_reducible refine HGA.out.mono ?_
                 rintro e w4 ⟨v4, rfl, ho, hs, hg⟩
                 obtain ⟨A4, c4, hv4, hi4, hge4⟩ := In.of_own ho
                 obtain ⟨n4, hn4⟩ : ∃ n, words.length = n := ⟨_, rfl⟩
                 rw [hn4] at hv4
                 subst hv4
                 have I4 := Hide.mk hi4
                 have HN4 := Hide.mk hn4
                 have S4 := Hide.mk (show ShAt w4 F (Sh.over D2) from hs)
                 have G4 := Hide.mk hg
                 have ROW4 := Hide.mk ((hg.moves.block w2.heap.size (lt_of_row ROW3.out) HBR.out).trans ROW3.out)
                 have RI4 := Hide.mk (RI3.out.moves hg.moves (fun x hx => .inl hx))
                 have HGB0 := gather_any 2 mA mc r.maps w4 F (Sh.over D2) hs RI4.out.maps RI4.out.offM HWM.out HBY2.out (by have := HCL.out.2; omega)
                 rw [show (Sh.over D2).D = D2 from rfl, HE3.out] at HGB0
                 simp only at HGB0
                 have HGB := Hide.mk HGB0
                 have k5 := cell_of (i := 5) ROW4.out
                 simp at k5
                 clear HGB0
                 have GE4 := Hide.mk (show ∀ a, A4 = some a → ¬ a.block ∈ F.own from fun a ha hx => by have := hge4 a ha; have := S3.out.lts _ hx; omega)
                 clear ho hs hg hi4 hge4 hn4)
              | (go_at_call 73
                 with_reducible refine HGB.out.mono ?_
                 rintro e w5 ⟨v5, rfl, ho, hs, hg⟩
                 obtain ⟨A5, c5, hv5, hi5, hge5⟩ := In.of_own ho
                 obtain ⟨n5, hn5⟩ : ∃ n, mbs.length = n := ⟨_, rfl⟩
                 rw [hn5] at hv5
                 subst hv5
                 have I5 := Hide.mk hi5
                 have HN5 := Hide.mk hn5
                 have S5 := Hide.mk (show ShAt w5 F (Sh.over D3) from hs)
                 have G5 := Hide.mk (G4.out.trans hg)
                 have ROW5 := Hide.mk ((hg.moves.block w2.heap.size (lt_of_row ROW4.out) HBR.out).trans ROW4.out)
                 have I45 := I4.out.moves hg.moves GE4.out
                 have HUN0 := unwords_any A4 c4 words w5 I45 HWB.out (by have := HWL.out; omega)
                 rw [if_pos HEV.out, if_pos HEV.out, HLW.out, HN4.out] at HUN0
                 have HUN := Hide.mk HUN0
                 have RI5 := Hide.mk (RI4.out.moves hg.moves (fun x hx => .inl hx))
                 have GE5 := Hide.mk (show ∀ a, A5 = some a → ¬ a.block ∈ F.own from fun a ha hx => by have := hge5 a ha; have := S4.out.lts _ hx; omega)
                 clear I45 HUN0
                 clear ho hs hg hi5 hge5 hn5)
              | (go_at_call 74
                 with_reducible refine HUN.out.mono ?_
                 rintro e w6 ⟨v6, rfl, ho, hb⟩
                 obtain ⟨A6, c6, hv6, hi6, hge6⟩ := In.of_own ho
                 obtain ⟨n6, hn6⟩ : ∃ n, l.length = n := ⟨_, rfl⟩
                 rw [hn6] at hv6
                 subst hv6
                 have I6 := Hide.mk hi6
                 have HN6 := Hide.mk hn6
                 have S6 := Hide.mk (S5.out.below hb)
                 have B6 := Hide.mk hb
                 have ROW6 := Hide.mk ((hb.block w2.heap.size (lt_of_row ROW5.out)).trans ROW5.out)
                 have c10 : w6.cell? ⟨F.p, 10, none⟩ = some (.slice (some ⟨F.g, 0, none⟩) 1 F.cap) := S6.out.cells.c10
                 clear ho hb hi6 hge6 hn6)
              | ((with_reducible refine gate_builtin (b := .append) (xs := #[.tmp 52, .tmp 53]) rfl ?_); at_builtin
                 refine Kd.R_append_rows (Kd.int .i64) (w0 := w6) 0 rfl (.tmp 52) (.tmp 53) 38 3 (.int .i64 0) 8 rfl Tryz.underlying38 infoI rfl (by decide) (by omega) (.slice (some ⟨F.g, 0, none⟩) 1 F.cap) [0] l A6 n6 c6 (fun _ => True) (fun _ => False) rfl rfl ?aO ?aR (fun _ _ h => h) (fun _ h => h.elim) (fun _ _ => trivial) (Below.refl _ _) (Nat.zero_le _) ?aL ?_
                 case aO => exact S6.out.table
                 case aR => have h := I6.out.reads; rw [HN6.out] at h; exact h
                 case aL => have := HLL.out; have := HN6.out; simp only [List.length_cons, List.length_nil]; omega
                 intro v7 w7 ho hb hg hat
                 obtain ⟨g7, cap7, rfl, c7, f7, hS7, hG7⟩ := S6.out.pushedL (Nat.one_pos : 0 < 1) ho hg (by simpa [Value.ownBlock] using hat)
                 rw [show (Sh.over D3).table ++ l = 0 :: l from rfl] at hS7 hG7 ⊢
                 rw [show (Sh.over D3).table.length = 1 from rfl] at c7
                 obtain ⟨n7, hn7⟩ : ∃ n, ((0 : Int) :: l).length = n := ⟨_, rfl⟩
                 rw [hn7] at hS7 hG7 ⊢
                 have HN7 := Hide.mk hn7
                 have S7 := Hide.mk hS7
                 have G7 := Hide.mk hG7
                 clear ho hb hg hat hS7 hG7 hn7 c10))
            obtain ⟨W7, hW7⟩ : ∃ W, w7.setCell ⟨F.p, 10, none⟩ (.slice (some ⟨g7, 0, none⟩) n7 cap7) = W := ⟨_, rfl⟩
            rw [hW7] at S7 G7 ⊢
            have hdr := below_drew (Below.refl W7.heap.size W7)
            have S7d := Hide.mk (S7.out.below hdr)
            have G57 := Hide.mk ((Goes.below (F := F) B6.out).trans (G7.out.trans (Goes.below hdr)))
            have ROW7 := Hide.mk ((G57.out.moves.block w2.heap.size (lt_of_row ROW5.out) HBR.out).trans ROW5.out)
            have RI7 := Hide.mk (RI5.out.foot G57.out)
            have c107 : W7.drew.cell? ⟨F.p, 10, none⟩ = some (.slice (some ⟨g7, 0, none⟩) ((0 : Int) :: l).length cap7) := S7d.out.cells.c10
            rw [HN7.out] at c107
            obtain ⟨br, hbr⟩ : ∃ b, w2.heap.size = b := ⟨_, rfl⟩
            rw [hbr] at ROW7 ⊢
            have HB7 := Hide.mk (And.intro hbr hW7)
            have KC := And.intro c107 ROW7.out
            clear hW7 hdr c107 hbr
            have HRI0 := right_any r tc mc tA mA (some ⟨g7, 0, none⟩) cap7 (0 :: l) A5 c5 mbs W7.drew RI7.out.tables RI7.out.maps S7d.out.table.in_ (I5.out.moves G57.out.moves GE5.out) HMB.out HCK.out.1 (fun n hn => by rcases List.mem_cons.1 hn with e | hn; exact Int.le_of_eq e.symm; exact (HLB.out n hn).1) (by have := HLL.out; rw [List.length_cons]; omega)
            rw [HN7.out, HN5.out, HRTE.out] at HRI0
            unfold Root.val at HRI0
            have HRI := Hide.mk HRI0
            clear HRI0
            refine start_ (n := 13) (S := fun w' => w'.cell? ⟨F.p, 10, none⟩ = some (.slice (some ⟨g7, 0, none⟩) n7 cap7) ∧ w'.heap[br]? = some (.cells #[.int .i64 r.epoch, .int .i64 r.blocks, .int .i64 r.next, .int .i64 r.start, .slice tA r.tables.length tc, .slice mA r.maps.length mc] 65 (0, 0))) (ds := []) #[false, false, false, false, false, false, false, false, false, false, false, false, false] (by kernel_rfl) rfl rfl KC (fun hHeld => ?_); refine with_tabW tab30_15 bits30_15 (fun HT_ HW_ => ?_)
            refine pure_ (i := 0) (N := some 58) (v := ?_) (a' := ?_) #[true, false, false, false, false, false, false, false, false, false, false, false, false] rfl rfl (any_of HT_.out (by kernel_rfl)) (fun _ _ _ h => h) (Or.inl ⟨by rfl, ?_⟩) ?_ ?_
            rotate_left
            · intro w'
              go_simp
              with_reducible rfl
            rotate_left
            · simp only [Act.put, List.setIfInBounds_toArray, List.set_cons_zero, List.set_cons_succ, i64_w, i32_w]
              rfl
            refine pure_ (i := 1) (N := some 59) (v := ?_) (a' := ?_) #[true, true, false, false, false, false, false, false, false, false, false, false, false] rfl rfl (any_of HT_.out (by kernel_rfl)) (fun _ _ _ h => h) (Or.inl ⟨by rfl, ?_⟩) ?_ ?_
            rotate_left
            · intro w'
              go_simp
              with_reducible rfl
            rotate_left
            · simp only [Act.put, List.setIfInBounds_toArray, List.set_cons_zero, List.set_cons_succ, i64_w, i32_w]
              rfl
            refine pure_ (i := 2) (N := some 60) (v := ?_) (a' := ?_) #[true, true, true, false, false, false, false, false, false, false, false, false, false] rfl rfl (any_of HT_.out (by kernel_rfl)) (fun _ _ _ h => h) (Or.inl ⟨by rfl, ?_⟩) ?_ ?_
            rotate_left
            · intro w'
              go_simp
              with_reducible rfl
            rotate_left
            · simp only [Act.put, List.setIfInBounds_toArray, List.set_cons_zero, List.set_cons_succ, i64_w, i32_w]
              rfl
            refine take_ (i := 3) (N := some 61) (v := ?_) (a' := ?_) #[true, true, true, true, false, false, false, false, false, false, false, false, false] rfl rfl (take_ofW HT_.out HW_.out (by kernel_rfl)) (fun _ _ _ h => h) (Or.inl ⟨by rfl, ?_⟩) hHeld ?_ ?_
            rotate_left
            · intro w' hS'
              refine exec_loadR (x := .tmp 5) ?_ ?_ hS'.2
              · rfl
              · rfl
            rotate_left
            · simp only [Act.put, List.setIfInBounds_toArray, List.set_cons_zero, List.set_cons_succ, i64_w, i32_w]
              rfl
            refine pure_ (i := 4) (N := some 62) (v := ?_) (a' := ?_) #[true, true, true, true, true, false, false, false, false, false, false, false, false] rfl rfl (any_of HT_.out (by kernel_rfl)) (fun _ _ _ h => h) (Or.inl ⟨by rfl, ?_⟩) ?_ ?_
            rotate_left
            · intro w'
              go_simp
              with_reducible rfl
            rotate_left
            · simp only [Act.put, List.setIfInBounds_toArray, List.set_cons_zero, List.set_cons_succ, i64_w, i32_w]
              rfl
            refine pure_ (i := 5) (N := some 63) (v := ?_) (a' := ?_) #[true, true, true, true, true, true, false, false, false, false, false, false, false] rfl rfl (any_of HT_.out (by kernel_rfl)) (fun _ _ _ h => h) (Or.inl ⟨by rfl, ?_⟩) ?_ ?_
            rotate_left
            · intro w'
              go_simp
              with_reducible rfl
            rotate_left
            · simp only [Act.put, List.setIfInBounds_toArray, List.set_cons_zero, List.set_cons_succ, i64_w, i32_w]
              rfl
            refine pure_ (i := 6) (N := some 64) (v := ?_) (a' := ?_) #[true, true, true, true, true, true, true, false, false, false, false, false, false] rfl rfl (any_of HT_.out (by kernel_rfl)) (fun _ _ _ h => h) (Or.inl ⟨by rfl, ?_⟩) ?_ ?_
            rotate_left
            · intro w'
              go_simp
              with_reducible rfl
            rotate_left
            · simp only [Act.put, List.setIfInBounds_toArray, List.set_cons_zero, List.set_cons_succ, i64_w, i32_w]
              rfl
            refine pure_ (i := 7) (N := some 65) (v := ?_) (a' := ?_) #[true, true, true, true, true, true, true, true, false, false, false, false, false] rfl rfl (any_of HT_.out (by kernel_rfl)) (fun _ _ _ h => h) (Or.inl ⟨by rfl, ?_⟩) ?_ ?_
            rotate_left
            · intro w'
              go_simp
              with_reducible rfl
            rotate_left
            · simp only [Act.put, List.setIfInBounds_toArray, List.set_cons_zero, List.set_cons_succ, i64_w, i32_w]
              rfl
            refine take_ (i := 8) (N := some 66) (v := ?_) (a' := ?_) #[true, true, true, true, true, true, true, true, true, false, false, false, false] rfl rfl (take_ofW HT_.out HW_.out (by kernel_rfl)) (fun _ _ _ h => h) (Or.inl ⟨by rfl, ?_⟩) hHeld ?_ ?_
            rotate_left
            · intro w' hS'
              have s1 := hS'.1
              go_simp
              rfl
            rotate_left
            · simp only [Act.put, List.setIfInBounds_toArray, List.set_cons_zero, List.set_cons_succ, i64_w, i32_w]
              rfl
            refine pure_ (i := 9) (N := some 67) (v := ?_) (a' := ?_) #[true, true, true, true, true, true, true, true, true, true, false, false, false] rfl rfl (any_of HT_.out (by kernel_rfl)) (fun _ _ _ h => h) (Or.inl ⟨by rfl, ?_⟩) ?_ ?_
            rotate_left
            · intro w'
              go_simp
              with_reducible rfl
            rotate_left
            · simp only [Act.put, List.setIfInBounds_toArray, List.set_cons_zero, List.set_cons_succ, i64_w, i32_w]
              rfl
            refine one_ (i := 10) (N := some 68) #[true, true, true, true, true, true, true, true, true, true, true, false, false] rfl rfl (one_of HT_.out (by kernel_rfl)) (by decide) (fun K hK => ?_)
            refine goes_ Tryz.func75 (by kernel_rfl) rfl #[.agg #[.int .i64 r.epoch, .int .i64 r.blocks, .int .i64 r.next, .int .i64 r.start, .slice tA r.tables.length tc, .slice mA r.maps.length mc], .slice (some ⟨g7, 0, none⟩) n7 cap7, .slice A5 n5 c5] (by rfl) rfl rfl (by (try simp only [List.map_toArray, List.map_cons, List.map_nil]); first | done | rfl) ?_
            with_reducible refine HRI.out.mono ?_
            rintro e w8 ⟨rfl, hb8⟩
            refine ⟨_, rfl, ?_⟩
            have B8 := Hide.mk hb8
            have KC1 := And.intro (pw_cell_below hb8 KC.1) ((hb8.block br (lt_of_row KC.2)).trans KC.2)
            clear hb8
            refine hK.out _ _ KC1 (fun hHeld => ?_)
            clear hK K
            refine norm_ (a' := ?_) ?_ ?_
            rotate_left
            · show Act.put _ (some 68) _ = _
              simp only [Act.put, List.setIfInBounds_toArray, List.set_cons_zero, List.set_cons_succ, i64_w, i32_w]
              rfl
            refine pure_ (i := 11) (N := some 69) (v := ?_) (a' := ?_) #[true, true, true, true, true, true, true, true, true, true, true, true, false] rfl rfl (any_of HT_.out (by kernel_rfl)) (fun _ _ _ h => h) (Or.inl ⟨by rfl, ?_⟩) ?_ ?_
            rotate_left
            · intro w'
              go_simp
              with_reducible rfl
            rotate_left
            · simp only [Act.put, List.setIfInBounds_toArray, List.set_cons_zero, List.set_cons_succ, i64_w, i32_w]
              rfl
            refine pure_ (i := 12) (N := some 70) (v := ?_) (a' := ?_) #[true, true, true, true, true, true, true, true, true, true, true, true, true] rfl rfl (any_of HT_.out (by kernel_rfl)) (fun _ _ _ h => h) (Or.inl ⟨by rfl, ?_⟩) ?_ ?_
            rotate_left
            · intro w'
              go_simp
              with_reducible rfl
            rotate_left
            · simp only [Act.put, List.setIfInBounds_toArray, List.set_cons_zero, List.set_cons_succ, i64_w, i32_w]
              rfl
            refine done_ (done_of HT_.out (by kernel_rfl)) ?_
            clear KC KC1 hHeld
            go_wp2
            go_ret2
            rw [HRR.out]
            exact ⟨{ F with g := g7, cap := cap7 }, by rw [ptrOf_bad (by show ¬ (4 : Int) = 0; decide)]; rfl, (S7d.out.below B8.out).disk, fun e => absurd e (by show ¬ (4 : Int) = 0; decide), Born.of_goes B1.out HF.out ((((G2.out.trans (Goes.below B3.out)).trans G5.out).trans G57.out).trans (Goes.below B8.out))⟩
          · rw [if_neg (by simp)] at hR
            have HRR := Hide.mk hR.symm
            clear hR hev hl hb
            go_enter Tryz.func30, Tryz.ntmps30
            go_wp2_with (first
              | (go_at_call 40
                 refine HOV.out.mono ?_
                 rintro e w1 ⟨F, rfl, hs, hpd, hms, hml, hb, hFp, hFg⟩
                 have S1 := Hide.mk hs
                 have HF := Hide.mk (show F.pd = pd ∧ F.ms = ms ∧ F.ml = ml ∧ w.heap.size ≤ F.p ∧ w.heap.size ≤ F.g from ⟨hpd, hms, hml, hFp, hFg⟩)
                 have B1 := Hide.mk hb
                 have HRT0 := roots_any pd ms ml D w1 (HD.out.below hb) HBY.out
                 rw [HEA.out] at HRT0
                 simp only at HRT0
                 unfold Root.val at HRT0
                 have HRT := Hide.mk HRT0
                 clear hs hpd hms hml hb hFp hFg HRT0)
              | (go_at_call 72
                 with_reducible refine HRT.out.mono ?_
                 rintro e w2 ⟨tA, tc, mA, mc, rfl, hd, hT, hM, hG, hm⟩
                 have s20 := S1.out.disk_moves (ml' := F.ml) (D' := D1) (by rw [HF.out.1, HF.out.2.1, HF.out.2.2.1]; exact hd) (.inl rfl) (hm.more (fun x hx => by simp only [List.mem_singleton] at hx; subst hx; left; simp [HF.out.1]))
                 have S2 := Hide.mk (show ShAt w2 F (Sh.over D1) from s20.1)
                 have G2 := Hide.mk (show Goes F F w1 w2 from s20.2)
                 have HT2 := Hide.mk hT
                 have HM2 := Hide.mk hM
                 have HG2 := Hide.mk hG
                 obtain ⟨W3, hW3⟩ : ∃ W, w2.alloc (.cells #[.int .i64 r.epoch, .int .i64 r.blocks, .int .i64 r.next, .int .i64 r.start, .slice tA r.tables.length tc, .slice mA r.maps.length mc] 65) = W := ⟨_, rfl⟩
                 have hal := (Below.refl w2.heap.size w2).alloc (Nat.le_refl _) (.cells #[.int .i64 r.epoch, .int .i64 r.blocks, .int .i64 r.next, .int .i64 r.start, .slice tA r.tables.length tc, .slice mA r.maps.length mc] 65)
                 have rowq := heap_last w2 (.cells #[.int .i64 r.epoch, .int .i64 r.blocks, .int .i64 r.next, .int .i64 r.start, .slice tA r.tables.length tc, .slice mA r.maps.length mc] 65)
                 rw [hW3] at hal rowq
                 have hoffT : ∀ a, tA = some a → ¬ a.block ∈ F.own := fun a ha hx => by have := hG.1 a ha; have := S1.out.lts _ hx; omega
                 have hoffM : ∀ a, mA = some a → ¬ a.block ∈ F.own := fun a ha hx => by have := hG.2 a ha; have := S1.out.lts _ hx; omega
                 have RI0 : RootIn W3 r tA tc mA mc F.own := ⟨hT.below hal, hM.below hal, hoffT, hoffM, by have := HCL.out.1; have := HCL.out.2; omega, by have := HCB.out; omega⟩
                 have RI3 := Hide.mk RI0
                 have S3 := Hide.mk (s20.1.below hal)
                 have B3 := Hide.mk hal
                 have HBR : Hide (¬ w2.heap.size ∈ F.own) := ⟨fun hx => by have := s20.1.lts _ hx; omega⟩
                 have ROW3 := Hide.mk rowq
                 have HW3 := Hide.mk hW3
                 have HGA0 := gather_any 1 tA tc r.tables W3 F (Sh.over D1) S3.out RI0.tables hoffT HWT.out HBY1.out (by have := HCL.out.1; omega)
                 rw [show (Sh.over D1).D = D1 from rfl, HE2.out] at HGA0
                 simp only at HGA0
                 have HGA := Hide.mk HGA0
                 have k4 := cell_of (i := 4) rowq
                 simp at k4
                 clear hal rowq hoffT hoffM RI0 HGA0 hW3
                 clear hd hT hM hG hm s20)
              | (go_at_call 73
                 rw [HW3.out]
                 with_reducible refine HGA.out.mono ?_
                 rintro e w4 ⟨v4, rfl, ho, hs, hg⟩
                 obtain ⟨A4, c4, hv4, hi4, hge4⟩ := In.of_own ho
                 obtain ⟨n4, hn4⟩ : ∃ n, words.length = n := ⟨_, rfl⟩
                 rw [hn4] at hv4
                 subst hv4
                 have I4 := Hide.mk hi4
                 have HN4 := Hide.mk hn4
                 have S4 := Hide.mk (show ShAt w4 F (Sh.over D2) from hs)
                 have G4 := Hide.mk hg
                 have ROW4 := Hide.mk ((hg.moves.block w2.heap.size (lt_of_row ROW3.out) HBR.out).trans ROW3.out)
                 have RI4 := Hide.mk (RI3.out.moves hg.moves (fun x hx => .inl hx))
                 have HGB0 := gather_any 2 mA mc r.maps w4 F (Sh.over D2) hs RI4.out.maps RI4.out.offM HWM.out HBY2.out (by have := HCL.out.2; omega)
                 rw [show (Sh.over D2).D = D2 from rfl, HE3.out] at HGB0
                 simp only at HGB0
                 have HGB := Hide.mk HGB0
                 have k5 := cell_of (i := 5) ROW4.out
                 simp at k5
                 clear HGB0
                 have GE4 := Hide.mk (show ∀ a, A4 = some a → ¬ a.block ∈ F.own from fun a ha hx => by have := hge4 a ha; have := S3.out.lts _ hx; omega)
                 clear ho hs hg hi4 hge4 hn4)
              | (go_at_call 73
                 with_reducible refine HGB.out.mono ?_
                 rintro e w5 ⟨v5, rfl, ho, hs, hg⟩
                 obtain ⟨A5, c5, hv5, hi5, hge5⟩ := In.of_own ho
                 obtain ⟨n5, hn5⟩ : ∃ n, mbs.length = n := ⟨_, rfl⟩
                 rw [hn5] at hv5
                 subst hv5
                 have I5 := Hide.mk hi5
                 have HN5 := Hide.mk hn5
                 have S5 := Hide.mk (show ShAt w5 F (Sh.over D3) from hs)
                 have G5 := Hide.mk (G4.out.trans hg)
                 have ROW5 := Hide.mk ((hg.moves.block w2.heap.size (lt_of_row ROW4.out) HBR.out).trans ROW4.out)
                 have I45 := I4.out.moves hg.moves GE4.out
                 have HUN0 := unwords_any A4 c4 words w5 I45 HWB.out (by have := HWL.out; omega)
                 rw [if_pos HEV.out, if_pos HEV.out, HLW.out, HN4.out] at HUN0
                 have HUN := Hide.mk HUN0
                 have RI5 := Hide.mk (RI4.out.moves hg.moves (fun x hx => .inl hx))
                 have GE5 := Hide.mk (show ∀ a, A5 = some a → ¬ a.block ∈ F.own from fun a ha hx => by have := hge5 a ha; have := S4.out.lts _ hx; omega)
                 clear I45 HUN0
                 clear ho hs hg hi5 hge5 hn5)
              | (go_at_call 74
                 with_reducible refine HUN.out.mono ?_
                 rintro e w6 ⟨v6, rfl, ho, hb⟩
                 obtain ⟨A6, c6, hv6, hi6, hge6⟩ := In.of_own ho
                 obtain ⟨n6, hn6⟩ : ∃ n, l.length = n := ⟨_, rfl⟩
                 rw [hn6] at hv6
                 subst hv6
                 have I6 := Hide.mk hi6
                 have HN6 := Hide.mk hn6
                 have S6 := Hide.mk (S5.out.below hb)
                 have B6 := Hide.mk hb
                 have ROW6 := Hide.mk ((hb.block w2.heap.size (lt_of_row ROW5.out)).trans ROW5.out)
                 have c10 : w6.cell? ⟨F.p, 10, none⟩ = some (.slice (some ⟨F.g, 0, none⟩) 1 F.cap) := S6.out.cells.c10
                 clear ho hb hi6 hge6 hn6)
              | ((with_reducible refine gate_builtin (b := .append) (xs := #[.tmp 52, .tmp 53]) rfl ?_); at_builtin
                 refine Kd.R_append_rows (Kd.int .i64) (w0 := w6) 0 rfl (.tmp 52) (.tmp 53) 38 3 (.int .i64 0) 8 rfl Tryz.underlying38 infoI rfl (by decide) (by omega) (.slice (some ⟨F.g, 0, none⟩) 1 F.cap) [0] l A6 n6 c6 (fun _ => True) (fun _ => False) rfl rfl ?aO ?aR (fun _ _ h => h) (fun _ h => h.elim) (fun _ _ => trivial) (Below.refl _ _) (Nat.zero_le _) ?aL ?_
                 case aO => exact S6.out.table
                 case aR => have h := I6.out.reads; rw [HN6.out] at h; exact h
                 case aL => have := HLL.out; have := HN6.out; simp only [List.length_cons, List.length_nil]; omega
                 intro v7 w7 ho hb hg hat
                 obtain ⟨g7, cap7, rfl, c7, f7, hS7, hG7⟩ := S6.out.pushedL (Nat.one_pos : 0 < 1) ho hg (by simpa [Value.ownBlock] using hat)
                 rw [show (Sh.over D3).table ++ l = 0 :: l from rfl] at hS7 hG7 ⊢
                 rw [show (Sh.over D3).table.length = 1 from rfl] at c7
                 obtain ⟨n7, hn7⟩ : ∃ n, ((0 : Int) :: l).length = n := ⟨_, rfl⟩
                 rw [hn7] at hS7 hG7 ⊢
                 have HN7 := Hide.mk hn7
                 have S7 := Hide.mk hS7
                 have G7 := Hide.mk hG7
                 clear ho hb hg hat hS7 hG7 hn7 c10))
            obtain ⟨W7, hW7⟩ : ∃ W, w7.setCell ⟨F.p, 10, none⟩ (.slice (some ⟨g7, 0, none⟩) n7 cap7) = W := ⟨_, rfl⟩
            rw [hW7] at S7 G7 ⊢
            have hdr := below_drew (Below.refl W7.heap.size W7)
            have S7d := Hide.mk (S7.out.below hdr)
            have G57 := Hide.mk ((Goes.below (F := F) B6.out).trans (G7.out.trans (Goes.below hdr)))
            have ROW7 := Hide.mk ((G57.out.moves.block w2.heap.size (lt_of_row ROW5.out) HBR.out).trans ROW5.out)
            have RI7 := Hide.mk (RI5.out.foot G57.out)
            have c107 : W7.drew.cell? ⟨F.p, 10, none⟩ = some (.slice (some ⟨g7, 0, none⟩) ((0 : Int) :: l).length cap7) := S7d.out.cells.c10
            rw [HN7.out] at c107
            obtain ⟨br, hbr⟩ : ∃ b, w2.heap.size = b := ⟨_, rfl⟩
            rw [hbr] at ROW7 ⊢
            have HB7 := Hide.mk (And.intro hbr hW7)
            have KC := And.intro c107 ROW7.out
            clear hW7 hdr c107 hbr
            have HRI0 := right_any r tc mc tA mA (some ⟨g7, 0, none⟩) cap7 (0 :: l) A5 c5 mbs W7.drew RI7.out.tables RI7.out.maps S7d.out.table.in_ (I5.out.moves G57.out.moves GE5.out) HMB.out HCK.out.1 (fun n hn => by rcases List.mem_cons.1 hn with e | hn; exact Int.le_of_eq e.symm; exact (HLB.out n hn).1) (by have := HLL.out; rw [List.length_cons]; omega)
            rw [HN7.out, HN5.out, HRTE.out] at HRI0
            unfold Root.val at HRI0
            have HRI := Hide.mk HRI0
            clear HRI0
            refine start_ (n := 13) (S := fun w' => w'.cell? ⟨F.p, 10, none⟩ = some (.slice (some ⟨g7, 0, none⟩) n7 cap7) ∧ w'.heap[br]? = some (.cells #[.int .i64 r.epoch, .int .i64 r.blocks, .int .i64 r.next, .int .i64 r.start, .slice tA r.tables.length tc, .slice mA r.maps.length mc] 65 (0, 0))) (ds := []) #[false, false, false, false, false, false, false, false, false, false, false, false, false] (by kernel_rfl) rfl rfl KC (fun hHeld => ?_); refine with_tabW tab30_15 bits30_15 (fun HT_ HW_ => ?_)
            refine pure_ (i := 0) (N := some 58) (v := ?_) (a' := ?_) #[true, false, false, false, false, false, false, false, false, false, false, false, false] rfl rfl (any_of HT_.out (by kernel_rfl)) (fun _ _ _ h => h) (Or.inl ⟨by rfl, ?_⟩) ?_ ?_
            rotate_left
            · intro w'
              go_simp
              with_reducible rfl
            rotate_left
            · simp only [Act.put, List.setIfInBounds_toArray, List.set_cons_zero, List.set_cons_succ, i64_w, i32_w]
              rfl
            refine pure_ (i := 1) (N := some 59) (v := ?_) (a' := ?_) #[true, true, false, false, false, false, false, false, false, false, false, false, false] rfl rfl (any_of HT_.out (by kernel_rfl)) (fun _ _ _ h => h) (Or.inl ⟨by rfl, ?_⟩) ?_ ?_
            rotate_left
            · intro w'
              go_simp
              with_reducible rfl
            rotate_left
            · simp only [Act.put, List.setIfInBounds_toArray, List.set_cons_zero, List.set_cons_succ, i64_w, i32_w]
              rfl
            refine pure_ (i := 2) (N := some 60) (v := ?_) (a' := ?_) #[true, true, true, false, false, false, false, false, false, false, false, false, false] rfl rfl (any_of HT_.out (by kernel_rfl)) (fun _ _ _ h => h) (Or.inl ⟨by rfl, ?_⟩) ?_ ?_
            rotate_left
            · intro w'
              go_simp
              with_reducible rfl
            rotate_left
            · simp only [Act.put, List.setIfInBounds_toArray, List.set_cons_zero, List.set_cons_succ, i64_w, i32_w]
              rfl
            refine take_ (i := 3) (N := some 61) (v := ?_) (a' := ?_) #[true, true, true, true, false, false, false, false, false, false, false, false, false] rfl rfl (take_ofW HT_.out HW_.out (by kernel_rfl)) (fun _ _ _ h => h) (Or.inl ⟨by rfl, ?_⟩) hHeld ?_ ?_
            rotate_left
            · intro w' hS'
              refine exec_loadR (x := .tmp 5) ?_ ?_ hS'.2
              · rfl
              · rfl
            rotate_left
            · simp only [Act.put, List.setIfInBounds_toArray, List.set_cons_zero, List.set_cons_succ, i64_w, i32_w]
              rfl
            refine pure_ (i := 4) (N := some 62) (v := ?_) (a' := ?_) #[true, true, true, true, true, false, false, false, false, false, false, false, false] rfl rfl (any_of HT_.out (by kernel_rfl)) (fun _ _ _ h => h) (Or.inl ⟨by rfl, ?_⟩) ?_ ?_
            rotate_left
            · intro w'
              go_simp
              with_reducible rfl
            rotate_left
            · simp only [Act.put, List.setIfInBounds_toArray, List.set_cons_zero, List.set_cons_succ, i64_w, i32_w]
              rfl
            refine pure_ (i := 5) (N := some 63) (v := ?_) (a' := ?_) #[true, true, true, true, true, true, false, false, false, false, false, false, false] rfl rfl (any_of HT_.out (by kernel_rfl)) (fun _ _ _ h => h) (Or.inl ⟨by rfl, ?_⟩) ?_ ?_
            rotate_left
            · intro w'
              go_simp
              with_reducible rfl
            rotate_left
            · simp only [Act.put, List.setIfInBounds_toArray, List.set_cons_zero, List.set_cons_succ, i64_w, i32_w]
              rfl
            refine pure_ (i := 6) (N := some 64) (v := ?_) (a' := ?_) #[true, true, true, true, true, true, true, false, false, false, false, false, false] rfl rfl (any_of HT_.out (by kernel_rfl)) (fun _ _ _ h => h) (Or.inl ⟨by rfl, ?_⟩) ?_ ?_
            rotate_left
            · intro w'
              go_simp
              with_reducible rfl
            rotate_left
            · simp only [Act.put, List.setIfInBounds_toArray, List.set_cons_zero, List.set_cons_succ, i64_w, i32_w]
              rfl
            refine pure_ (i := 7) (N := some 65) (v := ?_) (a' := ?_) #[true, true, true, true, true, true, true, true, false, false, false, false, false] rfl rfl (any_of HT_.out (by kernel_rfl)) (fun _ _ _ h => h) (Or.inl ⟨by rfl, ?_⟩) ?_ ?_
            rotate_left
            · intro w'
              go_simp
              with_reducible rfl
            rotate_left
            · simp only [Act.put, List.setIfInBounds_toArray, List.set_cons_zero, List.set_cons_succ, i64_w, i32_w]
              rfl
            refine take_ (i := 8) (N := some 66) (v := ?_) (a' := ?_) #[true, true, true, true, true, true, true, true, true, false, false, false, false] rfl rfl (take_ofW HT_.out HW_.out (by kernel_rfl)) (fun _ _ _ h => h) (Or.inl ⟨by rfl, ?_⟩) hHeld ?_ ?_
            rotate_left
            · intro w' hS'
              have s1 := hS'.1
              go_simp
              rfl
            rotate_left
            · simp only [Act.put, List.setIfInBounds_toArray, List.set_cons_zero, List.set_cons_succ, i64_w, i32_w]
              rfl
            refine pure_ (i := 9) (N := some 67) (v := ?_) (a' := ?_) #[true, true, true, true, true, true, true, true, true, true, false, false, false] rfl rfl (any_of HT_.out (by kernel_rfl)) (fun _ _ _ h => h) (Or.inl ⟨by rfl, ?_⟩) ?_ ?_
            rotate_left
            · intro w'
              go_simp
              with_reducible rfl
            rotate_left
            · simp only [Act.put, List.setIfInBounds_toArray, List.set_cons_zero, List.set_cons_succ, i64_w, i32_w]
              rfl
            refine one_ (i := 10) (N := some 68) #[true, true, true, true, true, true, true, true, true, true, true, false, false] rfl rfl (one_of HT_.out (by kernel_rfl)) (by decide) (fun K hK => ?_)
            refine goes_ Tryz.func75 (by kernel_rfl) rfl #[.agg #[.int .i64 r.epoch, .int .i64 r.blocks, .int .i64 r.next, .int .i64 r.start, .slice tA r.tables.length tc, .slice mA r.maps.length mc], .slice (some ⟨g7, 0, none⟩) n7 cap7, .slice A5 n5 c5] (by rfl) rfl rfl (by (try simp only [List.map_toArray, List.map_cons, List.map_nil]); first | done | rfl) ?_
            with_reducible refine HRI.out.mono ?_
            rintro e w8 ⟨rfl, hb8⟩
            refine ⟨_, rfl, ?_⟩
            have B8 := Hide.mk hb8
            have KC1 := And.intro (pw_cell_below hb8 KC.1) ((hb8.block br (lt_of_row KC.2)).trans KC.2)
            clear hb8
            refine hK.out _ _ KC1 (fun hHeld => ?_)
            clear hK K
            refine norm_ (a' := ?_) ?_ ?_
            rotate_left
            · show Act.put _ (some 68) _ = _
              simp only [Act.put, List.setIfInBounds_toArray, List.set_cons_zero, List.set_cons_succ, i64_w, i32_w]
              rfl
            refine pure_ (i := 11) (N := some 69) (v := ?_) (a' := ?_) #[true, true, true, true, true, true, true, true, true, true, true, true, false] rfl rfl (any_of HT_.out (by kernel_rfl)) (fun _ _ _ h => h) (Or.inl ⟨by rfl, ?_⟩) ?_ ?_
            rotate_left
            · intro w'
              go_simp
              with_reducible rfl
            rotate_left
            · simp only [Act.put, List.setIfInBounds_toArray, List.set_cons_zero, List.set_cons_succ, i64_w, i32_w]
              rfl
            refine pure_ (i := 12) (N := some 70) (v := ?_) (a' := ?_) #[true, true, true, true, true, true, true, true, true, true, true, true, true] rfl rfl (any_of HT_.out (by kernel_rfl)) (fun _ _ _ h => h) (Or.inl ⟨by rfl, ?_⟩) ?_ ?_
            rotate_left
            · intro w'
              go_simp
              with_reducible rfl
            rotate_left
            · simp only [Act.put, List.setIfInBounds_toArray, List.set_cons_zero, List.set_cons_succ, i64_w, i32_w]
              rfl
            refine done_ (done_of HT_.out (by kernel_rfl)) ?_
            have ROW8 := Hide.mk KC1.2
            have HSE0 := settle_any r tA tc mA mc w8 { F with g := g7, cap := cap7 } _ (S7d.out.below B8.out) (RI7.out.moves (Moves.of_below B8.out []) (by simp)) (by have := HLL.out; show ((0 : Int) :: l).length ≤ 5000; rw [List.length_cons]; omega) (by have := HCL.out.1; have := HCL.out.2; omega)
            unfold Root.val at HSE0
            have HSE := Hide.mk HSE0
            clear KC KC1 hHeld HSE0
            go_wp2_with (first
              | (refine load_root rfl _ rfl br #[.int .i64 r.epoch, .int .i64 r.blocks, .int .i64 r.next, .int .i64 r.start, .slice tA r.tables.length tc, .slice mA r.maps.length mc] rfl ROW8.out rfl ?_)
              | (go_at_call 47
                 with_reducible refine HSE.out.mono ?_
                 rintro e w9 ⟨rfl, F9, hs, hg⟩
                 have S9 := Hide.mk hs
                 have G9 := Hide.mk hg
                 clear hs hg))
            go_ret2
            rw [HRR.out]
            exact ⟨F9, by rw [G9.out.p]; rfl, S9.out.disk, fun _ => S9.out, Born.of_goes B1.out HF.out (((((G2.out.trans (Goes.below B3.out)).trans G5.out).trans G57.out).trans (Goes.below B8.out)).trans G9.out)⟩
        · rw [if_pos hev] at hR
          have HRR := Hide.mk hR.symm
          have HODD := Hide.mk hev
          obtain ⟨l, hl⟩ : ∃ l : List Int, [] = l := ⟨_, rfl⟩
          have HLL : Hide (l.length ≤ 4000) := ⟨by rw [← hl]; simp⟩
          have HLW := Hide.mk hl
          clear hR hev hl
          go_enter Tryz.func30, Tryz.ntmps30
          go_wp2_with (first
            | (go_at_call 40
               refine HOV.out.mono ?_
               rintro e w1 ⟨F, rfl, hs, hpd, hms, hml, hb, hFp, hFg⟩
               have S1 := Hide.mk hs
               have HF := Hide.mk (show F.pd = pd ∧ F.ms = ms ∧ F.ml = ml ∧ w.heap.size ≤ F.p ∧ w.heap.size ≤ F.g from ⟨hpd, hms, hml, hFp, hFg⟩)
               have B1 := Hide.mk hb
               have HRT0 := roots_any pd ms ml D w1 (HD.out.below hb) HBY.out
               rw [HEA.out] at HRT0
               simp only at HRT0
               unfold Root.val at HRT0
               have HRT := Hide.mk HRT0
               clear hs hpd hms hml hb hFp hFg HRT0)
            | (go_at_call 72
               with_reducible refine HRT.out.mono ?_
               rintro e w2 ⟨tA, tc, mA, mc, rfl, hd, hT, hM, hG, hm⟩
               have s20 := S1.out.disk_moves (ml' := F.ml) (D' := D1) (by rw [HF.out.1, HF.out.2.1, HF.out.2.2.1]; exact hd) (.inl rfl) (hm.more (fun x hx => by simp only [List.mem_singleton] at hx; subst hx; left; simp [HF.out.1]))
               have S2 := Hide.mk (show ShAt w2 F (Sh.over D1) from s20.1)
               have G2 := Hide.mk (show Goes F F w1 w2 from s20.2)
               have HT2 := Hide.mk hT
               have HM2 := Hide.mk hM
               have HG2 := Hide.mk hG
               obtain ⟨W3, hW3⟩ : ∃ W, w2.alloc (.cells #[.int .i64 r.epoch, .int .i64 r.blocks, .int .i64 r.next, .int .i64 r.start, .slice tA r.tables.length tc, .slice mA r.maps.length mc] 65) = W := ⟨_, rfl⟩
               have hal := (Below.refl w2.heap.size w2).alloc (Nat.le_refl _) (.cells #[.int .i64 r.epoch, .int .i64 r.blocks, .int .i64 r.next, .int .i64 r.start, .slice tA r.tables.length tc, .slice mA r.maps.length mc] 65)
               have rowq := heap_last w2 (.cells #[.int .i64 r.epoch, .int .i64 r.blocks, .int .i64 r.next, .int .i64 r.start, .slice tA r.tables.length tc, .slice mA r.maps.length mc] 65)
               rw [hW3] at hal rowq
               have hoffT : ∀ a, tA = some a → ¬ a.block ∈ F.own := fun a ha hx => by have := hG.1 a ha; have := S1.out.lts _ hx; omega
               have hoffM : ∀ a, mA = some a → ¬ a.block ∈ F.own := fun a ha hx => by have := hG.2 a ha; have := S1.out.lts _ hx; omega
               have RI0 : RootIn W3 r tA tc mA mc F.own := ⟨hT.below hal, hM.below hal, hoffT, hoffM, by have := HCL.out.1; have := HCL.out.2; omega, by have := HCB.out; omega⟩
               have RI3 := Hide.mk RI0
               have S3 := Hide.mk (s20.1.below hal)
               have B3 := Hide.mk hal
               have HBR : Hide (¬ w2.heap.size ∈ F.own) := ⟨fun hx => by have := s20.1.lts _ hx; omega⟩
               have ROW3 := Hide.mk rowq
               have HW3 := Hide.mk hW3
               have HGA0 := gather_any 1 tA tc r.tables W3 F (Sh.over D1) S3.out RI0.tables hoffT HWT.out HBY1.out (by have := HCL.out.1; omega)
               rw [show (Sh.over D1).D = D1 from rfl, HE2.out] at HGA0
               simp only at HGA0
               have HGA := Hide.mk HGA0
               have k4 := cell_of (i := 4) rowq
               simp at k4
               clear hal rowq hoffT hoffM RI0 HGA0 hW3
               clear hd hT hM hG hm s20)
            | (go_at_call 73
               rw [HW3.out]
               with_reducible refine HGA.out.mono ?_
               rintro e w4 ⟨v4, rfl, ho, hs, hg⟩
               obtain ⟨A4, c4, hv4, hi4, hge4⟩ := In.of_own ho
               obtain ⟨n4, hn4⟩ : ∃ n, words.length = n := ⟨_, rfl⟩
               rw [hn4] at hv4
               subst hv4
               have I4 := Hide.mk hi4
               have HN4 := Hide.mk hn4
               have S4 := Hide.mk (show ShAt w4 F (Sh.over D2) from hs)
               have G4 := Hide.mk hg
               have ROW4 := Hide.mk ((hg.moves.block w2.heap.size (lt_of_row ROW3.out) HBR.out).trans ROW3.out)
               have RI4 := Hide.mk (RI3.out.moves hg.moves (fun x hx => .inl hx))
               have HGB0 := gather_any 2 mA mc r.maps w4 F (Sh.over D2) hs RI4.out.maps RI4.out.offM HWM.out HBY2.out (by have := HCL.out.2; omega)
               rw [show (Sh.over D2).D = D2 from rfl, HE3.out] at HGB0
               simp only at HGB0
               have HGB := Hide.mk HGB0
               have k5 := cell_of (i := 5) ROW4.out
               simp at k5
               clear HGB0
               have GE4 := Hide.mk (show ∀ a, A4 = some a → ¬ a.block ∈ F.own from fun a ha hx => by have := hge4 a ha; have := S3.out.lts _ hx; omega)
               clear ho hs hg hi4 hge4 hn4)
            | (go_at_call 73
               with_reducible refine HGB.out.mono ?_
               rintro e w5 ⟨v5, rfl, ho, hs, hg⟩
               obtain ⟨A5, c5, hv5, hi5, hge5⟩ := In.of_own ho
               obtain ⟨n5, hn5⟩ : ∃ n, mbs.length = n := ⟨_, rfl⟩
               rw [hn5] at hv5
               subst hv5
               have I5 := Hide.mk hi5
               have HN5 := Hide.mk hn5
               have S5 := Hide.mk (show ShAt w5 F (Sh.over D3) from hs)
               have G5 := Hide.mk (G4.out.trans hg)
               have ROW5 := Hide.mk ((hg.moves.block w2.heap.size (lt_of_row ROW4.out) HBR.out).trans ROW4.out)
               have I45 := I4.out.moves hg.moves GE4.out
               have HUN0 := unwords_any A4 c4 words w5 I45 HWB.out (by have := HWL.out; omega)
               rw [if_neg HODD.out, if_neg HODD.out, HLW.out, HN4.out] at HUN0
               have HUN := Hide.mk HUN0
               have RI5 := Hide.mk (RI4.out.moves hg.moves (fun x hx => .inl hx))
               have GE5 := Hide.mk (show ∀ a, A5 = some a → ¬ a.block ∈ F.own from fun a ha hx => by have := hge5 a ha; have := S4.out.lts _ hx; omega)
               clear I45 HUN0
               clear ho hs hg hi5 hge5 hn5)
            | (go_at_call 74
               with_reducible refine HUN.out.mono ?_
               rintro e w6 ⟨v6, rfl, ho, hb⟩
               obtain ⟨A6, c6, hv6, hi6, hge6⟩ := In.of_own ho
               obtain ⟨n6, hn6⟩ : ∃ n, l.length = n := ⟨_, rfl⟩
               rw [hn6] at hv6
               subst hv6
               have I6 := Hide.mk hi6
               have HN6 := Hide.mk hn6
               have S6 := Hide.mk (S5.out.below hb)
               have B6 := Hide.mk hb
               have ROW6 := Hide.mk ((hb.block w2.heap.size (lt_of_row ROW5.out)).trans ROW5.out)
               have c10 : w6.cell? ⟨F.p, 10, none⟩ = some (.slice (some ⟨F.g, 0, none⟩) 1 F.cap) := S6.out.cells.c10
               clear ho hb hi6 hge6 hn6)
            | ((with_reducible refine gate_builtin (b := .append) (xs := #[.tmp 52, .tmp 53]) rfl ?_); at_builtin
               refine Kd.R_append_rows (Kd.int .i64) (w0 := w6) 0 rfl (.tmp 52) (.tmp 53) 38 3 (.int .i64 0) 8 rfl Tryz.underlying38 infoI rfl (by decide) (by omega) (.slice (some ⟨F.g, 0, none⟩) 1 F.cap) [0] l A6 n6 c6 (fun _ => True) (fun _ => False) rfl rfl ?aO ?aR (fun _ _ h => h) (fun _ h => h.elim) (fun _ _ => trivial) (Below.refl _ _) (Nat.zero_le _) ?aL ?_
               case aO => exact S6.out.table
               case aR => have h := I6.out.reads; rw [HN6.out] at h; exact h
               case aL => have := HLL.out; have := HN6.out; simp only [List.length_cons, List.length_nil]; omega
               intro v7 w7 ho hb hg hat
               obtain ⟨g7, cap7, rfl, c7, f7, hS7, hG7⟩ := S6.out.pushedL (Nat.one_pos : 0 < 1) ho hg (by simpa [Value.ownBlock] using hat)
               rw [show (Sh.over D3).table ++ l = 0 :: l from rfl] at hS7 hG7 ⊢
               rw [show (Sh.over D3).table.length = 1 from rfl] at c7
               obtain ⟨n7, hn7⟩ : ∃ n, ((0 : Int) :: l).length = n := ⟨_, rfl⟩
               rw [hn7] at hS7 hG7 ⊢
               have HN7 := Hide.mk hn7
               have S7 := Hide.mk hS7
               have G7 := Hide.mk hG7
               clear ho hb hg hat hS7 hG7 hn7 c10))
          obtain ⟨W7, hW7⟩ : ∃ W, w7.setCell ⟨F.p, 10, none⟩ (.slice (some ⟨g7, 0, none⟩) n7 cap7) = W := ⟨_, rfl⟩
          rw [hW7] at S7 G7 ⊢
          have hdr := below_drew (Below.refl W7.heap.size W7)
          have S7d := Hide.mk (S7.out.below hdr)
          have G57 := Hide.mk ((Goes.below (F := F) B6.out).trans (G7.out.trans (Goes.below hdr)))
          have ROW7 := Hide.mk ((G57.out.moves.block w2.heap.size (lt_of_row ROW5.out) HBR.out).trans ROW5.out)
          have RI7 := Hide.mk (RI5.out.foot G57.out)
          have c107 : W7.drew.cell? ⟨F.p, 10, none⟩ = some (.slice (some ⟨g7, 0, none⟩) ((0 : Int) :: l).length cap7) := S7d.out.cells.c10
          rw [HN7.out] at c107
          obtain ⟨br, hbr⟩ : ∃ b, w2.heap.size = b := ⟨_, rfl⟩
          rw [hbr] at ROW7 ⊢
          have HB7 := Hide.mk (And.intro hbr hW7)
          have KC := And.intro c107 ROW7.out
          clear hW7 hdr c107 hbr
          refine start_ (n := 13) (S := fun w' => w'.cell? ⟨F.p, 10, none⟩ = some (.slice (some ⟨g7, 0, none⟩) n7 cap7) ∧ w'.heap[br]? = some (.cells #[.int .i64 r.epoch, .int .i64 r.blocks, .int .i64 r.next, .int .i64 r.start, .slice tA r.tables.length tc, .slice mA r.maps.length mc] 65 (0, 0))) (ds := []) #[false, false, false, false, false, false, false, false, false, false, false, false, false] (by kernel_rfl) rfl rfl KC (fun hHeld => ?_); refine with_tabW tab30_15 bits30_15 (fun HT_ HW_ => ?_)
          refine pure_ (i := 0) (N := some 58) (v := ?_) (a' := ?_) #[true, false, false, false, false, false, false, false, false, false, false, false, false] rfl rfl (any_of HT_.out (by kernel_rfl)) (fun _ _ _ h => h) (Or.inl ⟨by rfl, ?_⟩) ?_ ?_
          rotate_left
          · intro w'
            go_simp
            with_reducible rfl
          rotate_left
          · simp only [Act.put, List.setIfInBounds_toArray, List.set_cons_zero, List.set_cons_succ, i64_w, i32_w]
            rfl
          refine pure_ (i := 1) (N := some 59) (v := ?_) (a' := ?_) #[true, true, false, false, false, false, false, false, false, false, false, false, false] rfl rfl (any_of HT_.out (by kernel_rfl)) (fun _ _ _ h => h) (Or.inl ⟨by rfl, ?_⟩) ?_ ?_
          rotate_left
          · intro w'
            go_simp
            with_reducible rfl
          rotate_left
          · simp only [Act.put, List.setIfInBounds_toArray, List.set_cons_zero, List.set_cons_succ, i64_w, i32_w]
            rfl
          refine pure_ (i := 2) (N := some 60) (v := ?_) (a' := ?_) #[true, true, true, false, false, false, false, false, false, false, false, false, false] rfl rfl (any_of HT_.out (by kernel_rfl)) (fun _ _ _ h => h) (Or.inl ⟨by rfl, ?_⟩) ?_ ?_
          rotate_left
          · intro w'
            go_simp
            with_reducible rfl
          rotate_left
          · simp only [Act.put, List.setIfInBounds_toArray, List.set_cons_zero, List.set_cons_succ, i64_w, i32_w]
            rfl
          refine pure_ (i := 3) (N := some 61) (v := undef) (a' := ?_) #[true, true, true, true, false, false, false, false, false, false, false, false, false] rfl rfl (any_of HT_.out (by kernel_rfl)) (fun _ _ _ h => h) (Or.inr ⟨by rfl, rfl⟩) ?_ ?_
          rotate_left
          · simp only [Act.put, List.setIfInBounds_toArray, List.set_cons_zero, List.set_cons_succ, i64_w, i32_w]
            rfl
          refine pure_ (i := 4) (N := some 62) (v := undef) (a' := ?_) #[true, true, true, true, true, false, false, false, false, false, false, false, false] rfl rfl (any_of HT_.out (by kernel_rfl)) (fun _ _ _ h => h) (Or.inr ⟨by rfl, rfl⟩) ?_ ?_
          rotate_left
          · simp only [Act.put, List.setIfInBounds_toArray, List.set_cons_zero, List.set_cons_succ, i64_w, i32_w]
            rfl
          refine pure_ (i := 5) (N := some 63) (v := undef) (a' := ?_) #[true, true, true, true, true, true, false, false, false, false, false, false, false] rfl rfl (any_of HT_.out (by kernel_rfl)) (fun _ _ _ h => h) (Or.inr ⟨by rfl, rfl⟩) ?_ ?_
          rotate_left
          · simp only [Act.put, List.setIfInBounds_toArray, List.set_cons_zero, List.set_cons_succ, i64_w, i32_w]
            rfl
          refine pure_ (i := 6) (N := some 64) (v := undef) (a' := ?_) #[true, true, true, true, true, true, true, false, false, false, false, false, false] rfl rfl (any_of HT_.out (by kernel_rfl)) (fun _ _ _ h => h) (Or.inr ⟨by rfl, rfl⟩) ?_ ?_
          rotate_left
          · simp only [Act.put, List.setIfInBounds_toArray, List.set_cons_zero, List.set_cons_succ, i64_w, i32_w]
            rfl
          refine pure_ (i := 7) (N := some 65) (v := undef) (a' := ?_) #[true, true, true, true, true, true, true, true, false, false, false, false, false] rfl rfl (any_of HT_.out (by kernel_rfl)) (fun _ _ _ h => h) (Or.inr ⟨by rfl, rfl⟩) ?_ ?_
          rotate_left
          · simp only [Act.put, List.setIfInBounds_toArray, List.set_cons_zero, List.set_cons_succ, i64_w, i32_w]
            rfl
          refine pure_ (i := 8) (N := some 66) (v := undef) (a' := ?_) #[true, true, true, true, true, true, true, true, true, false, false, false, false] rfl rfl (any_of HT_.out (by kernel_rfl)) (fun _ _ _ h => h) (Or.inr ⟨by rfl, rfl⟩) ?_ ?_
          rotate_left
          · simp only [Act.put, List.setIfInBounds_toArray, List.set_cons_zero, List.set_cons_succ, i64_w, i32_w]
            rfl
          refine pure_ (i := 9) (N := some 67) (v := undef) (a' := ?_) #[true, true, true, true, true, true, true, true, true, true, false, false, false] rfl rfl (any_of HT_.out (by kernel_rfl)) (fun _ _ _ h => h) (Or.inr ⟨by rfl, rfl⟩) ?_ ?_
          rotate_left
          · simp only [Act.put, List.setIfInBounds_toArray, List.set_cons_zero, List.set_cons_succ, i64_w, i32_w]
            rfl
          refine pure_ (i := 10) (N := some 68) (v := undef) (a' := ?_) #[true, true, true, true, true, true, true, true, true, true, true, false, false] rfl rfl (any_of HT_.out (by kernel_rfl)) (fun _ _ _ h => h) (Or.inr ⟨by rfl, rfl⟩) ?_ ?_
          rotate_left
          · simp only [Act.put, List.setIfInBounds_toArray, List.set_cons_zero, List.set_cons_succ, i64_w, i32_w]
            rfl
          refine pure_ (i := 11) (N := some 69) (v := undef) (a' := ?_) #[true, true, true, true, true, true, true, true, true, true, true, true, false] rfl rfl (any_of HT_.out (by kernel_rfl)) (fun _ _ _ h => h) (Or.inr ⟨by rfl, rfl⟩) ?_ ?_
          rotate_left
          · simp only [Act.put, List.setIfInBounds_toArray, List.set_cons_zero, List.set_cons_succ, i64_w, i32_w]
            rfl
          refine pure_ (i := 12) (N := some 70) (v := ?_) (a' := ?_) #[true, true, true, true, true, true, true, true, true, true, true, true, true] rfl rfl (any_of HT_.out (by kernel_rfl)) (fun _ _ _ h => h) (Or.inl ⟨by rfl, ?_⟩) ?_ ?_
          rotate_left
          · intro w'
            go_simp
            with_reducible rfl
          rotate_left
          · simp only [Act.put, List.setIfInBounds_toArray, List.set_cons_zero, List.set_cons_succ, i64_w, i32_w]
            rfl
          refine done_ (done_of HT_.out (by kernel_rfl)) ?_
          clear hHeld
          go_wp2
          go_ret2
          rw [HRR.out]
          exact ⟨{ F with g := g7, cap := cap7 }, by rw [ptrOf_bad (by show ¬ (4 : Int) = 0; decide)]; rfl, S7d.out.disk, fun e => absurd e (by show ¬ (4 : Int) = 0; decide), Born.of_goes B1.out HF.out (((G2.out.trans (Goes.below B3.out)).trans G5.out).trans G57.out)⟩
      · rw [if_pos h3] at hR
        have HRR := Hide.mk hR.symm
        have H3 := Hide.mk h3
        have q : (e3 != 0) = true := by simp [h3]
        clear hR h3
        go_enter Tryz.func30, Tryz.ntmps30
        go_wp2_with (first
          | (go_at_call 40
             refine HOV.out.mono ?_
             rintro e w1 ⟨F, rfl, hs, hpd, hms, hml, hb, hFp, hFg⟩
             have S1 := Hide.mk hs
             have HF := Hide.mk (show F.pd = pd ∧ F.ms = ms ∧ F.ml = ml ∧ w.heap.size ≤ F.p ∧ w.heap.size ≤ F.g from ⟨hpd, hms, hml, hFp, hFg⟩)
             have B1 := Hide.mk hb
             have HRT0 := roots_any pd ms ml D w1 (HD.out.below hb) HBY.out
             rw [HEA.out] at HRT0
             simp only at HRT0
             unfold Root.val at HRT0
             have HRT := Hide.mk HRT0
             clear hs hpd hms hml hb hFp hFg HRT0)
          | (go_at_call 72
             with_reducible refine HRT.out.mono ?_
             rintro e w2 ⟨tA, tc, mA, mc, rfl, hd, hT, hM, hG, hm⟩
             have s20 := S1.out.disk_moves (ml' := F.ml) (D' := D1) (by rw [HF.out.1, HF.out.2.1, HF.out.2.2.1]; exact hd) (.inl rfl) (hm.more (fun x hx => by simp only [List.mem_singleton] at hx; subst hx; left; simp [HF.out.1]))
             have S2 := Hide.mk (show ShAt w2 F (Sh.over D1) from s20.1)
             have G2 := Hide.mk (show Goes F F w1 w2 from s20.2)
             have HT2 := Hide.mk hT
             have HM2 := Hide.mk hM
             have HG2 := Hide.mk hG
             obtain ⟨W3, hW3⟩ : ∃ W, w2.alloc (.cells #[.int .i64 r.epoch, .int .i64 r.blocks, .int .i64 r.next, .int .i64 r.start, .slice tA r.tables.length tc, .slice mA r.maps.length mc] 65) = W := ⟨_, rfl⟩
             have hal := (Below.refl w2.heap.size w2).alloc (Nat.le_refl _) (.cells #[.int .i64 r.epoch, .int .i64 r.blocks, .int .i64 r.next, .int .i64 r.start, .slice tA r.tables.length tc, .slice mA r.maps.length mc] 65)
             have rowq := heap_last w2 (.cells #[.int .i64 r.epoch, .int .i64 r.blocks, .int .i64 r.next, .int .i64 r.start, .slice tA r.tables.length tc, .slice mA r.maps.length mc] 65)
             rw [hW3] at hal rowq
             have hoffT : ∀ a, tA = some a → ¬ a.block ∈ F.own := fun a ha hx => by have := hG.1 a ha; have := S1.out.lts _ hx; omega
             have hoffM : ∀ a, mA = some a → ¬ a.block ∈ F.own := fun a ha hx => by have := hG.2 a ha; have := S1.out.lts _ hx; omega
             have RI0 : RootIn W3 r tA tc mA mc F.own := ⟨hT.below hal, hM.below hal, hoffT, hoffM, by have := HCL.out.1; have := HCL.out.2; omega, by have := HCB.out; omega⟩
             have RI3 := Hide.mk RI0
             have S3 := Hide.mk (s20.1.below hal)
             have B3 := Hide.mk hal
             have HBR : Hide (¬ w2.heap.size ∈ F.own) := ⟨fun hx => by have := s20.1.lts _ hx; omega⟩
             have ROW3 := Hide.mk rowq
             have HW3 := Hide.mk hW3
             have HGA0 := gather_any 1 tA tc r.tables W3 F (Sh.over D1) S3.out RI0.tables hoffT HWT.out HBY1.out (by have := HCL.out.1; omega)
             rw [show (Sh.over D1).D = D1 from rfl, HE2.out] at HGA0
             simp only at HGA0
             have HGA := Hide.mk HGA0
             have k4 := cell_of (i := 4) rowq
             simp at k4
             clear hal rowq hoffT hoffM RI0 HGA0 hW3
             clear hd hT hM hG hm s20)
          | (go_at_call 73
             rw [HW3.out]
             with_reducible refine HGA.out.mono ?_
             rintro e w4 ⟨v4, rfl, ho, hs, hg⟩
             obtain ⟨A4, c4, hv4, hi4, hge4⟩ := In.of_own ho
             obtain ⟨n4, hn4⟩ : ∃ n, words.length = n := ⟨_, rfl⟩
             rw [hn4] at hv4
             subst hv4
             have I4 := Hide.mk hi4
             have HN4 := Hide.mk hn4
             have S4 := Hide.mk (show ShAt w4 F (Sh.over D2) from hs)
             have G4 := Hide.mk hg
             have ROW4 := Hide.mk ((hg.moves.block w2.heap.size (lt_of_row ROW3.out) HBR.out).trans ROW3.out)
             have RI4 := Hide.mk (RI3.out.moves hg.moves (fun x hx => .inl hx))
             have HGB0 := gather_any 2 mA mc r.maps w4 F (Sh.over D2) hs RI4.out.maps RI4.out.offM HWM.out HBY2.out (by have := HCL.out.2; omega)
             rw [show (Sh.over D2).D = D2 from rfl, HE3.out] at HGB0
             simp only at HGB0
             have HGB := Hide.mk HGB0
             have k5 := cell_of (i := 5) ROW4.out
             simp at k5
             clear HGB0
             clear ho hs hg hi4 hge4 hn4)
          | (go_at_call 73
             with_reducible refine HGB.out.mono ?_
             rintro e w5 ⟨v5, rfl, ho, hs, hg⟩
             obtain ⟨A5, c5, hv5, hi5, hge5⟩ := In.of_own ho
             obtain ⟨n5, hn5⟩ : ∃ n, mbs.length = n := ⟨_, rfl⟩
             rw [hn5] at hv5
             subst hv5
             have I5 := Hide.mk hi5
             have HN5 := Hide.mk hn5
             have S5 := Hide.mk (show ShAt w5 F (Sh.over D3) from hs)
             have G5 := Hide.mk (G4.out.trans hg)
             have ROW5 := Hide.mk ((hg.moves.block w2.heap.size (lt_of_row ROW4.out) HBR.out).trans ROW4.out)
             clear ho hs hg hi5 hge5 hn5))
        go_ret2
        rw [HRR.out]
        exact ⟨F, by rw [ptrOf_bad H3.out]; rfl, S5.out.disk, fun e => absurd e H3.out, Born.of_goes B1.out HF.out ((G2.out.trans (Goes.below B3.out)).trans G5.out)⟩
    · rw [if_pos h2] at hR
      have HRR := Hide.mk hR.symm
      have H2 := Hide.mk h2
      have q : (e2 != 0) = true := by simp [h2]
      clear hR h2
      go_enter Tryz.func30, Tryz.ntmps30
      go_wp2_with (first
        | (go_at_call 40
           refine HOV.out.mono ?_
           rintro e w1 ⟨F, rfl, hs, hpd, hms, hml, hb, hFp, hFg⟩
           have S1 := Hide.mk hs
           have HF := Hide.mk (show F.pd = pd ∧ F.ms = ms ∧ F.ml = ml ∧ w.heap.size ≤ F.p ∧ w.heap.size ≤ F.g from ⟨hpd, hms, hml, hFp, hFg⟩)
           have B1 := Hide.mk hb
           have HRT0 := roots_any pd ms ml D w1 (HD.out.below hb) HBY.out
           rw [HEA.out] at HRT0
           simp only at HRT0
           unfold Root.val at HRT0
           have HRT := Hide.mk HRT0
           clear hs hpd hms hml hb hFp hFg HRT0)
        | (go_at_call 72
           with_reducible refine HRT.out.mono ?_
           rintro e w2 ⟨tA, tc, mA, mc, rfl, hd, hT, hM, hG, hm⟩
           have s20 := S1.out.disk_moves (ml' := F.ml) (D' := D1) (by rw [HF.out.1, HF.out.2.1, HF.out.2.2.1]; exact hd) (.inl rfl) (hm.more (fun x hx => by simp only [List.mem_singleton] at hx; subst hx; left; simp [HF.out.1]))
           have S2 := Hide.mk (show ShAt w2 F (Sh.over D1) from s20.1)
           have G2 := Hide.mk (show Goes F F w1 w2 from s20.2)
           have HT2 := Hide.mk hT
           have HM2 := Hide.mk hM
           have HG2 := Hide.mk hG
           obtain ⟨W3, hW3⟩ : ∃ W, w2.alloc (.cells #[.int .i64 r.epoch, .int .i64 r.blocks, .int .i64 r.next, .int .i64 r.start, .slice tA r.tables.length tc, .slice mA r.maps.length mc] 65) = W := ⟨_, rfl⟩
           have hal := (Below.refl w2.heap.size w2).alloc (Nat.le_refl _) (.cells #[.int .i64 r.epoch, .int .i64 r.blocks, .int .i64 r.next, .int .i64 r.start, .slice tA r.tables.length tc, .slice mA r.maps.length mc] 65)
           have rowq := heap_last w2 (.cells #[.int .i64 r.epoch, .int .i64 r.blocks, .int .i64 r.next, .int .i64 r.start, .slice tA r.tables.length tc, .slice mA r.maps.length mc] 65)
           rw [hW3] at hal rowq
           have hoffT : ∀ a, tA = some a → ¬ a.block ∈ F.own := fun a ha hx => by have := hG.1 a ha; have := S1.out.lts _ hx; omega
           have hoffM : ∀ a, mA = some a → ¬ a.block ∈ F.own := fun a ha hx => by have := hG.2 a ha; have := S1.out.lts _ hx; omega
           have RI0 : RootIn W3 r tA tc mA mc F.own := ⟨hT.below hal, hM.below hal, hoffT, hoffM, by have := HCL.out.1; have := HCL.out.2; omega, by have := HCB.out; omega⟩
           have RI3 := Hide.mk RI0
           have S3 := Hide.mk (s20.1.below hal)
           have B3 := Hide.mk hal
           have HBR : Hide (¬ w2.heap.size ∈ F.own) := ⟨fun hx => by have := s20.1.lts _ hx; omega⟩
           have ROW3 := Hide.mk rowq
           have HW3 := Hide.mk hW3
           have HGA0 := gather_any 1 tA tc r.tables W3 F (Sh.over D1) S3.out RI0.tables hoffT HWT.out HBY1.out (by have := HCL.out.1; omega)
           rw [show (Sh.over D1).D = D1 from rfl, HE2.out] at HGA0
           simp only at HGA0
           have HGA := Hide.mk HGA0
           have k4 := cell_of (i := 4) rowq
           simp at k4
           clear hal rowq hoffT hoffM RI0 HGA0 hW3
           clear hd hT hM hG hm s20)
        | (go_at_call 73
           rw [HW3.out]
           with_reducible refine HGA.out.mono ?_
           rintro e w4 ⟨v4, rfl, ho, hs, hg⟩
           obtain ⟨A4, c4, hv4, hi4, hge4⟩ := In.of_own ho
           obtain ⟨n4, hn4⟩ : ∃ n, words.length = n := ⟨_, rfl⟩
           rw [hn4] at hv4
           subst hv4
           have I4 := Hide.mk hi4
           have HN4 := Hide.mk hn4
           have S4 := Hide.mk (show ShAt w4 F (Sh.over D2) from hs)
           have G4 := Hide.mk hg
           have ROW4 := Hide.mk ((hg.moves.block w2.heap.size (lt_of_row ROW3.out) HBR.out).trans ROW3.out)
           clear ho hs hg hi4 hge4 hn4))
      go_ret2
      rw [HRR.out]
      exact ⟨F, by rw [ptrOf_bad H2.out]; rfl, S4.out.disk, fun e => absurd e H2.out, Born.of_goes B1.out HF.out ((G2.out.trans (Goes.below B3.out)).trans G4.out)⟩
  · rw [if_pos h1] at hR
    have HRR := Hide.mk hR.symm
    have H1 := Hide.mk h1
    have q : (e1 != 0) = true := by simp [h1]
    clear hR h1 hf1 hf2
    go_enter Tryz.func30, Tryz.ntmps30
    go_wp2_with (first
      | (go_at_call 40
         refine HOV.out.mono ?_
         rintro e w1 ⟨F, rfl, hs, hpd, hms, hml, hb, hFp, hFg⟩
         have S1 := Hide.mk hs
         have HF := Hide.mk (show F.pd = pd ∧ F.ms = ms ∧ F.ml = ml ∧ w.heap.size ≤ F.p ∧ w.heap.size ≤ F.g from ⟨hpd, hms, hml, hFp, hFg⟩)
         have B1 := Hide.mk hb
         have HRT0 := roots_any pd ms ml D w1 (HD.out.below hb) HBY.out
         rw [HEA.out] at HRT0
         simp only at HRT0
         unfold Root.val at HRT0
         have HRT := Hide.mk HRT0
         clear hs hpd hms hml hb hFp hFg HRT0)
      | (go_at_call 72
         with_reducible refine HRT.out.mono ?_
         rintro e w2 ⟨tA, tc, mA, mc, rfl, hd, hT, hM, hG, hm⟩
         have s20 := S1.out.disk_moves (ml' := F.ml) (D' := D1) (by rw [HF.out.1, HF.out.2.1, HF.out.2.2.1]; exact hd) (.inl rfl) (hm.more (fun x hx => by simp only [List.mem_singleton] at hx; subst hx; left; simp [HF.out.1]))
         have S2 := Hide.mk (show ShAt w2 F (Sh.over D1) from s20.1)
         have G2 := Hide.mk (show Goes F F w1 w2 from s20.2)
         have HT2 := Hide.mk hT
         have HM2 := Hide.mk hM
         have HG2 := Hide.mk hG
         clear hd hT hM hG hm s20))
    go_ret2
    rw [HRR.out]
    exact ⟨F, by rw [ptrOf_bad H1.out]; rfl, (S2.out.below ((Below.refl w2.heap.size w2).alloc (Nat.le_refl _) _)).disk, fun e => absurd e H1.out, Born.of_goes B1.out HF.out (G2.out.trans (Goes.below ((Below.refl w2.heap.size w2).alloc (Nat.le_refl _) _)))⟩
end Go.Proofs.YtgmkbcoahilkhaaGreat.Sh
end
