/- The words, and the contracts of the functions that are reached, one behind the other. -/
import Derived.Lib.OwnBridge
import Derived.Sort.OwnSortedInts
import Derived.Test.YtplkndmkchpcdaaGreatPNC
set_option linter.unusedVariables false
set_option linter.unusedSimpArgs false
section
namespace Go.Proofs.YtplkndmkchpcdaaGreat.Pool
open Go.RowKit Go.Sort Go.Shelf Go.Lib YtplkndmkchpcdaaGreatW.PrintWords YtplkndmkchpcdaaGreatW.PrintLast YtplkndmkchpcdaaGreatW.PrintMore MapFn Disk Page Num Bitset Sh
set_option maxHeartbeats 8000000
set_option maxRecDepth 100000
def T97_1 : Bool × List (List Nat × List Nat) := (true, [([], []), ([0], [0]), ([1], [1]), ([2], [2]), ([], []), ([3, 4], [3, 4]), ([5, 0, 1, 2, 3, 4, 5], [5])])
def B97_1 : List Nat := [0, 1, 3, 7, 0, 31, 63]
theorem tab97_1 : rtab .any (opsOf Tryz.f97 1) = T97_1 := by kernel_rfl
theorem bits97_1 : waitsOk T97_1.2 B97_1 = true := by kernel_rfl
theorem at_ptr {w : World} {A : Option Addr} {n : Nat} {xs : List (Option Nat)} (h : kdP.C w A n xs) (i : Int) (h0 : 0 ≤ i) (h1 : i < n) : ∃ ad, A = some ad ∧ w.cell? (ad.add i.toNat) = some (encP (rdOf none xs i)) :=
  ReadsOf.at_ (Kd.reads_of_C (enc := encP) (d := (none : Option Nat)) (h1 := encP_one) h) i h0 h1
theorem place1_any {w : World} {base x bid : Nat} {f : Fr} {id : Int} (hf : FrAt w base x f) (hid : w.cell? ⟨bid, 0, none⟩ = some (.int .i64 id)) :
    Calls Tryz.prog 97 #[.pointer (some ⟨x, 0, none⟩), .pointer (some ⟨bid, 0, none⟩)] w fun e w' => e = .returned (.bool (decide (f.id = id))) ∧ Below w.heap.size w w' := by
  obtain ⟨v, hr, _⟩ := hf.ex
  have KC : w.drew.cell? ⟨x, 0, none⟩ = some (.int .i64 f.id) ∧ w.drew.cell? ⟨bid, 0, none⟩ = some (.int .i64 id) := ⟨cell_of hr, hid⟩
  clear hf hid hr
  go_enter Tryz.func97, Tryz.ntmps97
  go_wp2
  refine start_ (n := 7) (S := fun w' => w'.cell? ⟨x, 0, none⟩ = some (.int .i64 f.id) ∧ w'.cell? ⟨bid, 0, none⟩ = some (.int .i64 id)) (ds := []) #[false, false, false, false, false, false, false] (by kernel_rfl) rfl rfl KC (fun hHeld => ?_); refine with_tabW tab97_1 bits97_1 (fun HT_ HW_ => ?_)
  refine pure_ (i := 0) (N := some 4) (v := ?_) (a' := ?_) #[true, false, false, false, false, false, false] rfl rfl (any_of HT_.out (by kernel_rfl)) (fun _ _ _ h => h) (Or.inl ⟨by rfl, ?_⟩) ?_ ?_
  rotate_left
  · intro w'
    go_simp
    with_reducible rfl
  rotate_left
  · simp only [Act.put, List.setIfInBounds_toArray, List.set_cons_zero, List.set_cons_succ, i64_w, i32_w]
    rfl
  refine pure_ (i := 1) (N := some 5) (v := ?_) (a' := ?_) #[true, true, false, false, false, false, false] rfl rfl (any_of HT_.out (by kernel_rfl)) (fun _ _ _ h => h) (Or.inl ⟨by rfl, ?_⟩) ?_ ?_
  rotate_left
  · intro w'
    go_simp
    with_reducible rfl
  rotate_left
  · simp only [Act.put, List.setIfInBounds_toArray, List.set_cons_zero, List.set_cons_succ, i64_w, i32_w]
    rfl
  refine pure_ (i := 2) (N := some 6) (v := ?_) (a' := ?_) #[true, true, true, false, false, false, false] rfl rfl (any_of HT_.out (by kernel_rfl)) (fun _ _ _ h => h) (Or.inl ⟨by rfl, ?_⟩) ?_ ?_
  rotate_left
  · intro w'
    go_simp
    with_reducible rfl
  rotate_left
  · simp only [Act.put, List.setIfInBounds_toArray, List.set_cons_zero, List.set_cons_succ, i64_w, i32_w]
    rfl
  refine take_ (i := 3) (N := some 7) (v := ?_) (a' := ?_) #[true, true, true, true, false, false, false] rfl rfl (take_ofW HT_.out HW_.out (by kernel_rfl)) (fun _ _ _ h => h) (Or.inl ⟨by rfl, ?_⟩) hHeld ?_ ?_
  rotate_left
  · intro w' hS'
    have s1 := hS'.1
    go_simp
    rfl
  rotate_left
  · simp only [Act.put, List.setIfInBounds_toArray, List.set_cons_zero, List.set_cons_succ, i64_w, i32_w]
    rfl
  refine take_ (i := 4) (N := some 8) (v := ?_) (a' := ?_) #[true, true, true, true, true, false, false] rfl rfl (take_ofW HT_.out HW_.out (by kernel_rfl)) (fun _ _ _ h => h) (Or.inl ⟨by rfl, ?_⟩) hHeld ?_ ?_
  rotate_left
  · intro w' hS'
    have s1 := hS'.2
    go_simp
    rfl
  rotate_left
  · simp only [Act.put, List.setIfInBounds_toArray, List.set_cons_zero, List.set_cons_succ, i64_w, i32_w]
    rfl
  refine pure_ (i := 5) (N := some 9) (v := ?_) (a' := ?_) #[true, true, true, true, true, true, false] rfl rfl (any_of HT_.out (by kernel_rfl)) (fun _ _ _ h => h) (Or.inl ⟨by rfl, ?_⟩) ?_ ?_
  rotate_left
  · intro w'
    go_simp
    with_reducible rfl
  rotate_left
  · simp only [Act.put, List.setIfInBounds_toArray, List.set_cons_zero, List.set_cons_succ, i64_w, i32_w]
    rfl
  refine pure_ (i := 6) (N := some 3) (v := ?_) (a' := ?_) #[true, true, true, true, true, true, true] rfl rfl (any_of HT_.out (by kernel_rfl)) (fun _ _ _ h => h) (Or.inl ⟨by rfl, ?_⟩) ?_ ?_
  rotate_left
  · intro w'
    go_simp
    with_reducible rfl
  rotate_left
  · simp only [Act.put, List.setIfInBounds_toArray, List.set_cons_zero, List.set_cons_succ, i64_w, i32_w]
    rfl
  refine done_ (done_of HT_.out (by kernel_rfl)) ?_
  clear KC hHeld
  go_wp2
  go_ret
  exact ⟨by congr 2, below_drew (Below.refl _ _)⟩
theorem room1_any {w : World} {base x : Nat} {f : Fr} (hf : FrAt w base x f) :
    Calls Tryz.prog 94 #[.pointer (some ⟨x, 0, none⟩)] w fun e w' => e = .returned (.bool (decide (f.pins = 0))) ∧ Below w.heap.size w w' := by
  obtain ⟨v, hr, _⟩ := hf.ex
  have c3 : w.cell? ⟨x, 3, none⟩ = some (.int .i64 f.pins) := cell_of hr
  clear hf hr
  go_enter Tryz.func94, Tryz.ntmps94
  go_wp2
  go_ret
  exact ⟨by congr 2, Below.refl _ _⟩
theorem index_place {base : Nat} (bs : List Nat) (fs : List Fr) (A : Option Addr) (c : Nat) (w : World) (hC : kdP.C w A bs.length (bs.map some)) (hz : Zip (FrAt w base) bs fs) (hn : bs.length ≤ 100000) (bid : Nat) (id : Int) (hid : w.cell? ⟨bid, 0, none⟩ = some (.int .i64 id)) :
    Calls Tryz.prog 93 #[.slice A bs.length c, .func (.func 97) #[] #[.pointer (some ⟨bid, 0, none⟩)]] w fun e w' => e = .returned (.int .i64 (idxF (fun f => decide (f.id = id)) fs 0)) ∧ Below w.heap.size w w' := by
  obtain ⟨R, hR⟩ : ∃ R, idxF (fun f => decide (f.id = id)) fs 0 = R := ⟨_, rfl⟩
  rw [hR]
  have HR := Hide.mk hR
  have HC := Hide.mk hC
  have HZ := Hide.mk hz
  clear hR hC hz
  go_enter Tryz.func93, Tryz.ntmps93
  go_wp2
  go_loopw [8] (fun v8 wr => ∃ i : Nat, v8 = .int .i64 (i : Int) ∧ Hide (i ≤ bs.length) ∧ Hide (R = idxF (fun f => decide (f.id = id)) (fs.drop i) i) ∧ Hide (Below w.heap.size w wr)) (fun v8 _ => bs.length - (intOf v8).toNat)
  case atStart => exact ⟨0, by first | rfl | simp, ⟨Nat.zero_le _⟩, ⟨by rw [List.drop_zero]; exact HR.out.symm⟩, ⟨Below.refl _ _⟩⟩
  case round =>
    obtain ⟨i, rfl, hi, hRR, hB⟩ := hrel
    have hn0 := hn
    by_cases hlt0 : i < bs.length
    · have hlt : (i : Int) < (bs.length : Int) := by omega
      obtain ⟨ad, rfl, hcell⟩ := at_ptr (Kd.C_below HC.out hB.out) (i : Int) (by omega) hlt
      rw [Int.toNat_natCast] at hcell
      have hfl : i < fs.length := by have := HZ.out.len; omega
      have hfr := (HZ.out.at_ i _ _ (List.getElem?_eq_getElem hlt0) (List.getElem?_eq_getElem hfl))
      have HF := Hide.mk (fun (W : World) (h : Below w.heap.size w W) => hfr.below h)
      have E1 : Hide (fs.drop i = fs[i] :: fs.drop (i + 1)) := ⟨List.drop_eq_getElem_cons hfl⟩
      have hrd : rdOf none (bs.map some) (i : Int) = some bs[i] := by simp [rdOf, List.getD_eq_getElem?_getD, hlt0]
      rw [hrd] at hcell
      generalize bs[i] = x at *
      generalize fs[i] = f at *
      have hcell2 : wr.cell? (ad.add i) = some (.pointer (some ⟨x, 0, none⟩)) := hcell
      have LT := Hide.mk hlt0
      have hR1 := hRR.out
      rw [E1.out, idxF] at hR1
      have HP := Hide.mk (place1_any (HF.out wr hB.out) (pw_cell_below hB.out (show w.cell? ⟨bid, 0, none⟩ = some (.int .i64 id) from hid)))
      clear hcell hfr hrd hlt0 hfl
      by_cases hq : (fun f => decide (f.id = id)) f = true
      · rw [if_pos hq] at hR1
        have hq2 : decide (f.id = id) = true := by simpa using hq
        have HR1 := Hide.mk hR1
        clear hR1 hRR hq
        go_wp2_with (go_at_call 97; refine HP.out.mono ?_; rintro e w3 ⟨rfl, hb3⟩; have B3 := Hide.mk hb3; clear hb3; rw [hq2])
        go_ret
        exact ⟨by rw [HR1.out]; rfl, hB.out.trans (B3.out.mono hB.out.size)⟩
      · rw [if_neg hq] at hR1
        have hq2 : decide (f.id = id) = false := by simpa using hq
        have HR1 := Hide.mk hR1
        clear hR1 hRR hq
        go_wp2_with (go_at_call 97; refine HP.out.mono ?_; rintro e w3 ⟨rfl, hb3⟩; have B3 := Hide.mk hb3; clear hb3; rw [hq2])
        go_roundw
        case rel => exact ⟨i + 1, by go_num, ⟨by have := LT.out; omega⟩, HR1, ⟨hB.out.trans (B3.out.mono hB.out.size)⟩⟩
        case measure => have := LT.out; simp [intOf]; omega
    · have hlt : ¬ (i : Int) < (bs.length : Int) := by omega
      have E := Hide.mk (show i = bs.length by have := hi.out; omega)
      clear hlt0
      go_wp2
      go_ret
      exact ⟨by rw [hRR.out, E.out, HZ.out.len, List.drop_length]; rfl, hB.out⟩
theorem index_room {base : Nat} (bs : List Nat) (fs : List Fr) (A : Option Addr) (c : Nat) (w : World) (hC : kdP.C w A bs.length (bs.map some)) (hz : Zip (FrAt w base) bs fs) (hn : bs.length ≤ 100000) :
    Calls Tryz.prog 93 #[.slice A bs.length c, .func (.func 94) #[] #[]] w fun e w' => e = .returned (.int .i64 (idxF (fun f => decide (f.pins = 0)) fs 0)) ∧ Below w.heap.size w w' := by
  obtain ⟨R, hR⟩ : ∃ R, idxF (fun f => decide (f.pins = 0)) fs 0 = R := ⟨_, rfl⟩
  rw [hR]
  have HR := Hide.mk hR
  have HC := Hide.mk hC
  have HZ := Hide.mk hz
  clear hR hC hz
  go_enter Tryz.func93, Tryz.ntmps93
  go_wp2
  go_loopw [8] (fun v8 wr => ∃ i : Nat, v8 = .int .i64 (i : Int) ∧ Hide (i ≤ bs.length) ∧ Hide (R = idxF (fun f => decide (f.pins = 0)) (fs.drop i) i) ∧ Hide (Below w.heap.size w wr)) (fun v8 _ => bs.length - (intOf v8).toNat)
  case atStart => exact ⟨0, by first | rfl | simp, ⟨Nat.zero_le _⟩, ⟨by rw [List.drop_zero]; exact HR.out.symm⟩, ⟨Below.refl _ _⟩⟩
  case round =>
    obtain ⟨i, rfl, hi, hRR, hB⟩ := hrel
    have hn0 := hn
    by_cases hlt0 : i < bs.length
    · have hlt : (i : Int) < (bs.length : Int) := by omega
      obtain ⟨ad, rfl, hcell⟩ := at_ptr (Kd.C_below HC.out hB.out) (i : Int) (by omega) hlt
      rw [Int.toNat_natCast] at hcell
      have hfl : i < fs.length := by have := HZ.out.len; omega
      have hfr := (HZ.out.at_ i _ _ (List.getElem?_eq_getElem hlt0) (List.getElem?_eq_getElem hfl))
      have HF := Hide.mk (fun (W : World) (h : Below w.heap.size w W) => hfr.below h)
      have E1 : Hide (fs.drop i = fs[i] :: fs.drop (i + 1)) := ⟨List.drop_eq_getElem_cons hfl⟩
      have hrd : rdOf none (bs.map some) (i : Int) = some bs[i] := by simp [rdOf, List.getD_eq_getElem?_getD, hlt0]
      rw [hrd] at hcell
      generalize bs[i] = x at *
      generalize fs[i] = f at *
      have hcell2 : wr.cell? (ad.add i) = some (.pointer (some ⟨x, 0, none⟩)) := hcell
      have LT := Hide.mk hlt0
      have hR1 := hRR.out
      rw [E1.out, idxF] at hR1
      have HP := Hide.mk (room1_any (HF.out wr hB.out))
      clear hcell hfr hrd hlt0 hfl
      by_cases hq : (fun f => decide (f.pins = 0)) f = true
      · rw [if_pos hq] at hR1
        have hq2 : decide (f.pins = 0) = true := by simpa using hq
        have HR1 := Hide.mk hR1
        clear hR1 hRR hq
        go_wp2_with (go_at_call 94; refine HP.out.mono ?_; rintro e w3 ⟨rfl, hb3⟩; have B3 := Hide.mk hb3; clear hb3; rw [hq2])
        go_ret
        exact ⟨by rw [HR1.out]; rfl, hB.out.trans (B3.out.mono hB.out.size)⟩
      · rw [if_neg hq] at hR1
        have hq2 : decide (f.pins = 0) = false := by simpa using hq
        have HR1 := Hide.mk hR1
        clear hR1 hRR hq
        go_wp2_with (go_at_call 94; refine HP.out.mono ?_; rintro e w3 ⟨rfl, hb3⟩; have B3 := Hide.mk hb3; clear hb3; rw [hq2])
        go_roundw
        case rel => exact ⟨i + 1, by go_num, ⟨by have := LT.out; omega⟩, HR1, ⟨hB.out.trans (B3.out.mono hB.out.size)⟩⟩
        case measure => have := LT.out; simp [intOf]; omega
    · have hlt : ¬ (i : Int) < (bs.length : Int) := by omega
      have E := Hide.mk (show i = bs.length by have := hi.out; omega)
      clear hlt0
      go_wp2
      go_ret
      exact ⟨by rw [hRR.out, E.out, HZ.out.len, List.drop_length]; rfl, hB.out⟩
theorem info81 : (Tryz.prog.info? 84).map (·.size) = some 1 := by kernel_rfl
theorem delete_any {w : World} {base g cap : Nat} {ok : Nat → Prop} {bs : List Nat} (i : Nat) (h : Kd.R kdP 84 w base ok (.slice (some ⟨g, 0, none⟩) bs.length cap) (bs.map some)) (hi : i < bs.length) :
    Calls Tryz.prog 58 #[.slice (some ⟨g, 0, none⟩) bs.length cap, .int .i64 (i : Int), .int .i64 ((i + 1 : Nat) : Int)] w fun e w' => e = .returned (.slice (some ⟨g, 0, none⟩) (bs.length - 1) cap) ∧ Kd.R kdP 84 w' base ok (.slice (some ⟨g, 0, none⟩) (bs.length - 1) cap) ((bs.eraseIdx i).map some) ∧ w.grownBy w' (some g) := by
  have ho0 := Kd.own_of_R (enc := encP) (h1 := encP_one) h
  have ho : w.ownsRow base 84 1 (.slice (some ⟨g, 0, none⟩) bs.length cap) bs.length ((bs.map some).map encP) := by have := ho0; rw [List.length_map] at this; exact this
  obtain ⟨g', cap', e, hb, hlt, hn, hm, hl, hH⟩ := holds_of_ownsRow ho (by simp)
  cases e
  obtain ⟨i0, hi0, hz⟩ := Option.map_eq_some_iff.1 info81
  have hsz : (bs.map some).toArray.size = bs.length := by simp
  have hD := AnyE.slices_Delete Tryz.deleteF encP encP_one (none : Option Nat) (fun w => Tryz.zeroValue84 w) i0 hi0 hz g 0 cap i (i + 1) (bs.map some).toArray w hH (by rw [hsz]; exact hn) (by unfold maxLen at hm; omega) (by omega) (by rw [hsz]; omega)
  rw [hsz] at hD
  refine hD.mono ?_
  rintro e w' ⟨rfl, q, rfl⟩
  have hy : ((bs.map some).take i ++ (bs.map some).drop (i + 1) ++ List.replicate (i + 1 - i) none).length = bs.length := by simp; omega
  have hr := ownsRow_putRow (q := q) (ys := (bs.map some).take i ++ (bs.map some).drop (i + 1) ++ List.replicate (i + 1 - i) none) (k := bs.length - 1) ho hy (by omega)
  have ht : ((bs.map some).take i ++ (bs.map some).drop (i + 1) ++ List.replicate (i + 1 - i) none).take (bs.length - 1) = (bs.eraseIdx i).map some := by
    rw [List.take_left' (by simp; omega), List.eraseIdx_eq_take_drop_succ, List.map_append, List.map_take, List.map_drop]
  rw [ht] at hr
  have hl2 : (bs.eraseIdx i).length = bs.length - 1 := by rw [List.length_eraseIdx, if_pos hi]
  refine ⟨by rw [show i + 1 - i = 1 by omega], ?_, ?_⟩
  · refine Kd.R_of_own (enc := encP) (h1 := encP_one) ?_ (fun k hk => h.1 k (by simpa [Value.ownBlock] using hk))
    rw [List.length_map, hl2]
    exact hr
  · exact ⟨rfl, rfl, rfl, by simp [putRow, mapBlock, Sort.ahead], fun k hk hne => by
      have hgk : g ≠ k := fun e => hne (by rw [e])
      simp [putRow, mapBlock, Sort.ahead, Array.getElem?_modify, hgk]⟩
end Go.Proofs.YtplkndmkchpcdaaGreat.Pool
end
section
namespace Go.Proofs.YtplkndmkchpcdaaGreat.Pool
open Go.RowKit YtplkndmkchpcdaaGreatW.PrintWords YtplkndmkchpcdaaGreatW.PrintLast YtplkndmkchpcdaaGreatW.PrintMore MapFn Disk Page Num Bitset Sh
set_option maxHeartbeats 8000000
set_option maxRecDepth 100000
theorem infoP : (Tryz.prog.info? 84).map (fun i => (i.zero, i.size, i.bytes)) = some (some (.pointer none), 1, 8) := by kernel_rfl
theorem poolnew_any {w wr : World} {ps pd : Nat} {S : Sh} {F : Foot} (n : Int) (hs : ShAt wr F S) (ep : F.p = ps) (epd : F.pd = pd) (ho : ∀ x ∈ F.own, w.heap.size ≤ x) (hb : Below w.heap.size w wr) (h1 : 1 ≤ n) (h2 : n ≤ 64) :
    Calls Tryz.prog 12 #[.pointer (some ⟨ps, 0, none⟩), .int .i64 n] wr fun e w' => ∃ b, e = .returned (.tuple #[.pointer (some ⟨b, 0, none⟩), .int .i64 0]) ∧ PIn w w' b ps pd F (.slice none 0 0) [] (Pl.new S n) := by
  have q1 : ¬ n < 1 := by omega
  have q2 : ¬ n > 64 := by omega
  have q3 : ¬ (64 : Int) < n := by omega
  have hal := (Below.refl wr.heap.size wr).alloc (Nat.le_refl _) (.cells #[.pointer (some ⟨ps, 0, none⟩), .int .i64 n, .slice none 0 0, .int .i64 0, .int .i64 0] 83)
  have row := heap_last wr (.cells #[.pointer (some ⟨ps, 0, none⟩), .int .i64 n, .slice none 0 0, .int .i64 0, .int .i64 0] 83)
  have FIN := Hide.mk (show PIn w (wr.alloc (.cells #[.pointer (some ⟨ps, 0, none⟩), .int .i64 n, .slice none 0 0, .int .i64 0, .int .i64 0] 83)) wr.heap.size ps pd F (.slice none 0 0) [] (Pl.new S n) from
    ⟨hs.below hal, ep, epd, row, Kd.R_nil _ _ _ _ _, List.nodup_nil, Zip.nil _, ho, hb.size, (fun A hA a ha => ⟨(by have := hs.slice_lt A hA a ha; omega), by simp, by simp [Value.ownBlock]⟩), hb.trans (hal.mono hb.size)⟩)
  clear hs hal row
  go_enter Tryz.func12, Tryz.ntmps12
  go_wp2
  go_ret2
  exact ⟨_, rfl, FIN.out⟩
section
variable {w wr : World} {b ps pd : Nat} {F : Foot} {v : Value} {bs : List Nat} {p : Pl}
theorem PIn.slice (h : PIn w wr b ps pd F v bs p) : ∃ A c, v = .slice A bs.length c ∧ kdP.C wr A bs.length (bs.map some) := by
  obtain ⟨A, c, hv, _, hc⟩ := Kd.R_reads h.arr
  rw [List.length_map] at hv hc
  exact ⟨A, c, hv, hc⟩
theorem place_any (h : PIn w wr b ps pd F v bs p) (id : Int) (hn : bs.length ≤ 100000) :
    Calls Tryz.prog 57 #[.pointer (some ⟨b, 0, none⟩), .int .i64 id] wr fun e w' => e = .returned (.int .i64 (p.place id)) ∧ Below wr.heap.size wr w' := by
  obtain ⟨A, c, rfl, hC⟩ := h.slice
  have hal := (Below.refl wr.heap.size wr).alloc (Nat.le_refl _) (.cells #[.int .i64 id] 3)
  have h2 := h.later hal
  have c2 : (wr.alloc (.cells #[.int .i64 id] 3)).cell? ⟨b, 2, none⟩ = some (.slice A bs.length c) := cell_of h2.row
  have hid : (wr.alloc (.cells #[.int .i64 id] 3)).cell? ⟨wr.heap.size, 0, none⟩ = some (.int .i64 id) := cell_of (heap_last _ _)
  have HI := Hide.mk (index_place bs p.frames A c (wr.alloc (.cells #[.int .i64 id] 3)) (Kd.C_below hC hal) h2.frs hn wr.heap.size id hid)
  have HB := Hide.mk hal
  clear h h2 hC hal hid
  go_enter Tryz.func57, Tryz.ntmps57
  go_wp2_with (go_at_call 93; refine HI.out.mono ?_; rintro e w2 ⟨rfl, hb⟩; have B2 := Hide.mk hb; clear hb)
  go_ret
  exact ⟨rfl, HB.out.trans (B2.out.mono HB.out.size)⟩
theorem hold_any (h : PIn w wr b ps pd F v bs p) {x : Nat} {f : Fr} (hx : FrAt wr w.heap.size x f) (hn : ¬ x ∈ bs) (hxo : ∀ A ∈ F.slices, ∀ a, A = some a → a.block ≠ x) (hl : bs.length ≤ 1000) :
    Calls Tryz.prog 53 #[.pointer (some ⟨b, 0, none⟩), .pointer (some ⟨x, 0, none⟩)] wr fun e w' => e = .returned (.pointer (some ⟨x, 0, none⟩)) ∧ K8 w wr w' ∧ ∃ v', PIn w w' b ps pd F v' (bs ++ [x]) (p.hold f) := by
  obtain ⟨A, c, hv, hC⟩ := h.slice
  have H := Hide.mk h
  have HX := Hide.mk hx
  have HN := Hide.mk hn
  have HXO := Hide.mk hxo
  have HV := Hide.mk hv
  subst hv
  have c2 : wr.cell? ⟨b, 2, none⟩ = some (.slice A bs.length c) := cell_of h.row
  have ARR := Hide.mk h.arr
  have HGE := Hide.mk h.below.size
  clear h hx hn hxo hC
  go_enter Tryz.func53, Tryz.ntmps53
  go_wp2_with ((with_reducible refine gate_builtin (b := .append) (xs := #[.tmp 9, .tmp 11]) rfl ?_); at_builtin
               refine Kd.R_append kdP (w0 := wr) w.heap.size rfl (.tmp 9) (.tmp 11) 81 84 (.pointer none) 8 rfl Tryz.underlying81 infoP rfl (by decide) (by omega) (.slice A bs.length c) (bs.map some) (some x) [.pointer (some ⟨x, 0, none⟩)] (fun _ => True) (fun _ => False) rfl rfl rfl (fun _ h => h.elim) (fun _ _ => trivial) ARR.out (Below.refl _ _) HGE.out (by rw [List.length_map]; omega) ?_
               intro v1 w1 ho hb hg hat
               obtain ⟨A1, c1, hv1⟩ := Kd.R_slice ho
               obtain ⟨n1, hn1⟩ : ∃ n, (bs.map some ++ [some x]).length = n := ⟨_, rfl⟩
               rw [hn1] at hv1
               subst hv1
               have hne : some b ≠ (Value.slice A bs.length c).ownBlock := fun e => H.out.b_off.2 e.symm
               have row1 := (hg.block b (lt_of_row H.out.row) hne).trans H.out.row
               have d2 : w1.cell? ⟨b, 2, none⟩ = some (.slice A bs.length c) := cell_of row1
               have f2 := free_of (i := 2) row1
               have HO := Hide.mk ho
               have HG := Hide.mk hg
               have HAT := Hide.mk hat
               have ROW1 := Hide.mk row1
               clear ho hb hg hat hn1 hne row1)
  go_ret
  have hs2 := set_row (i := 2) ROW1.out (.slice A1 n1 c1)
  have hg2 : w1.grownBy (w1.setCell ⟨b, 2, none⟩ (.slice A1 n1 c1)) (some b) := ⟨rfl, rfl, rfl, by simp, fun q _ hq => heap_setCell_other _ _ _ _ (fun e => hq (by rw [e]))⟩
  have hm : Moves (b :: (Value.slice A bs.length c).ownBlock.toList) wr (w1.setCell ⟨b, 2, none⟩ (.slice A1 n1 c1)) := by
    refine ⟨HG.out.os, HG.out.tape, HG.out.output, Nat.le_trans HG.out.size hg2.size, fun k hk hkn => ?_⟩
    simp only [List.mem_cons, not_or] at hkn
    rw [hg2.block k (Nat.lt_of_lt_of_le hk HG.out.size) (fun e => hkn.1 (Option.some.inj e)), HG.out.block k hk (fun e => hkn.2 (by rw [← e]; simp))]
  have hours : ∀ y ∈ b :: (Value.slice A bs.length c).ownBlock.toList, Ours b (.slice A bs.length c) bs wr.heap.size y := by
    intro y hy
    rcases List.mem_cons.1 hy with e | hy
    · exact .inl e
    · exact .inr (.inl (by simpa using hy))
  have hfar : ∀ y f, FrAt wr w.heap.size y f → ¬ y ∈ b :: (Value.slice A bs.length c).ownBlock.toList := by
    intro y f hf hy
    obtain ⟨n1, n2⟩ := H.out.fr_ne hf
    rcases List.mem_cons.1 hy with e | hy
    · exact n1 e
    · exact n2 (by simpa using hy)
  refine ⟨rfl, H.out.k8_ours hm hours, .slice A1 n1 c1, H.out.turn hm hours ?_ ?_ ?_ ?_ rfl ?_ ?_⟩
  · simpa [Pl.hold] using hs2
  · rw [List.map_append]
    refine RP_moves HO.out (Moves.of_grown hg2) fun g hgo hgs => ?_
    simp only [List.mem_singleton] at hgs
    subst hgs
    obtain ⟨cells, hc⟩ := typed HO.out g hgo
    exact ne_of_types hc ROW1.out (by decide) rfl
  · rw [List.nodup_append]
    refine ⟨H.out.nodup, by simp, fun y hy z hz => ?_⟩
    simp only [List.mem_singleton] at hz
    subst hz
    exact fun e => HN.out (e ▸ hy)
  · exact (H.out.frs.imp fun y _ f hf => H.out.fr_keep hm hours hf (hfar y f hf)).snoc (H.out.fr_keep hm hours HX.out (hfar x f HX.out))
  · intro g hgo
    rcases HAT.out with e | ⟨k, e, hk⟩
    · exact .inl (by rw [← e]; exact hgo)
    · rw [e] at hgo
      cases hgo
      exact .inr hk
  · intro y hy
    rcases List.mem_append.1 hy with q | q
    · exact .inl q
    · simp only [List.mem_singleton] at q
      subst q
      exact .inr (.inr HXO.out)
end
end Go.Proofs.YtplkndmkchpcdaaGreat.Pool
end
section
namespace Go.Proofs.YtplkndmkchpcdaaGreat.Pool
open Go.RowKit YtplkndmkchpcdaaGreatW.PrintWords YtplkndmkchpcdaaGreatW.PrintLast YtplkndmkchpcdaaGreatW.PrintMore MapFn Disk Page Num Bitset Sh
set_option maxHeartbeats 8000000
set_option maxRecDepth 100000
def T87_3 : Bool × List (List Nat × List Nat) := (true, [([], []), ([0], [0]), ([1], [1]), ([2], [2]), ([], []), ([4], [4]), ([5], [5]), ([6], [6]), ([], []), ([8], [8]), ([9], [9]), ([10], [10]), ([], []), ([12], [12]), ([13], [13]), ([14], [14]), ([3, 7, 11, 15], [3, 7, 11, 15]), ([16, 16, 0, 1, 2, 3, 4, 5, 6, 7, 8, 9, 10, 11, 12, 13, 14, 15, 16], [16])])
def B87_3 : List Nat := [0, 1, 3, 7, 0, 16, 48, 112, 0, 256, 768, 1792, 0, 4096, 12288, 28672, 65535, 131071]
theorem tab87_3 : rtab .any (opsOf Tryz.f87 3) = T87_3 := by kernel_rfl
theorem bits87_3 : waitsOk T87_3.2 B87_3 = true := by kernel_rfl
def T52_1 : Bool × List (List Nat × List Nat) := (true, [([], []), ([0], [0]), ([1], [1]), ([2], [2]), ([3], [3]), ([], []), ([5], [5]), ([6], [6]), ([7], [7]), ([4, 8], [4, 8])])
def B52_1 : List Nat := [0, 1, 3, 7, 15, 0, 32, 96, 224, 511]
theorem tab52_1 : rtab .any (opsOf Tryz.f52 1) = T52_1 := by kernel_rfl
theorem bits52_1 : waitsOk T52_1.2 B52_1 = true := by kernel_rfl
theorem idxF_at (q : Fr → Bool) : ∀ (l : List Fr) (i : Nat), idxF q l i = -1 ∨ ∃ k, k < l.length ∧ idxF q l i = ((i + k : Nat) : Int) ∧ q (l.getD k Fr.none) = true
  | [], i => .inl rfl
  | f :: r, i => by
    rw [idxF]
    by_cases h : q f = true
    · rw [if_pos h]
      exact .inr ⟨0, by simp, by simp, by simpa using h⟩
    · rw [if_neg h]
      rcases idxF_at q r (i + 1) with e | ⟨k, hk, e, hq⟩
      · exact .inl e
      · exact .inr ⟨k + 1, by simp; omega, by rw [e]; omega, by simpa using hq⟩
section
variable {w wr w1 w' : World} {b ps pd : Nat} {F : Foot} {v : Value} {bs : List Nat} {p : Pl}
theorem PIn.fr (h : PIn w wr b ps pd F v bs p) {k : Nat} (hk : k < bs.length) : FrAt wr w.heap.size bs[k] (p.frames.getD k Fr.none) := by
  have hf : k < p.frames.length := by have := h.frs.len; omega
  rw [List.getD_eq_getElem?_getD, List.getElem?_eq_getElem hf]
  exact h.frs.at_ k _ _ (List.getElem?_eq_getElem hk) (List.getElem?_eq_getElem hf)
theorem PIn.set_frame (h : PIn w wr b ps pd F v bs p) {k : Nat} (hkl : k < bs.length) {f' : Fr} (hm : Moves [bs[k]] wr w') (hf : FrAt w' w.heap.size bs[k] f') : PIn w w' b ps pd F v bs { p with frames := p.frames.set k f' } := by
  have hx := h.fr hkl
  obtain ⟨n1, n2⟩ := h.fr_ne hx
  have hours : ∀ y ∈ [bs[k]], Ours b v bs wr.heap.size y := fun y hy => by
    simp only [List.mem_singleton] at hy
    subst hy
    exact .inr (.inr (.inl (List.getElem_mem _)))
  refine h.turn hm hours ((hm.block b (lt_of_row h.row) (by simpa using Ne.symm n1)).trans h.row) (RP_moves h.arr hm fun g hg hgs => ?_) h.nodup ⟨by rw [List.length_set]; exact h.frs.len, fun i a c h1 h2 => ?_⟩ rfl (fun g hg => .inl hg) (fun x hx => .inl hx)
  · simp only [List.mem_singleton] at hgs
    subst hgs
    exact n2 hg
  · by_cases e : i = k
    · subst e
      rw [List.getElem?_set_self (by have := h.frs.len; omega)] at h2
      rw [List.getElem?_eq_getElem hkl] at h1
      cases h1
      cases h2
      exact hf
    · rw [List.getElem?_set_ne (Ne.symm e)] at h2
      refine h.fr_keep hm hours (h.frs.at_ i a c h1 h2) fun hy => ?_
      simp only [List.mem_singleton] at hy
      obtain ⟨hi, ha⟩ := List.getElem?_eq_some_iff.1 h1
      rcases Nat.lt_trichotomy i k with q | q | q
      · exact List.pairwise_iff_getElem.1 h.nodup i k hi hkl q (by rw [ha, hy])
      · exact e q
      · exact List.pairwise_iff_getElem.1 h.nodup k i hkl hi q (by rw [ha, hy])
theorem set_cell_grown {p i : Nat} (x : Value) : wr.grownBy (wr.setCell ⟨p, i, none⟩ x) (some p) := ⟨rfl, rfl, rfl, by simp, fun q _ hq => heap_setCell_other _ _ _ _ (fun e => hq (by rw [e]))⟩
theorem PIn.restored (h : PIn w wr b ps pd F v bs p) {v1 : Value} {bs' : List Nat} {fs' : List Fr} (hg : wr.grownBy w1 v.ownBlock) (ho : Kd.R kdP 84 w1 w.heap.size (fun _ => True) v1 (bs'.map some)) (hv : v1.ownBlock = v.ownBlock ∨ ∃ k, v1.ownBlock = some k ∧ wr.heap.size ≤ k)
    (hn : bs'.Nodup) (hz : Zip (FrAt wr w.heap.size) bs' fs') (hb : ∀ x ∈ bs', x ∈ bs ∨ wr.heap.size ≤ x ∨ ∀ A ∈ F.slices, ∀ a, A = some a → a.block ≠ x) :
    w1.cell? ⟨b, 2, none⟩ = some v ∧ w1.frozen? ⟨b, 2, none⟩ = false ∧ PIn w (w1.setCell ⟨b, 2, none⟩ v1) b ps pd F v1 bs' { p with frames := fs' } ∧ K8 w wr (w1.setCell ⟨b, 2, none⟩ v1) := by
  have hne : some b ≠ v.ownBlock := fun e => h.b_off.2 e.symm
  have row1 := (hg.block b (lt_of_row h.row) hne).trans h.row
  have hs2 := set_row (i := 2) row1 v1
  have hg2 := set_cell_grown (wr := w1) (p := b) (i := 2) v1
  have hm : Moves (b :: v.ownBlock.toList) wr (w1.setCell ⟨b, 2, none⟩ v1) := by
    refine ⟨hg.os, hg.tape, hg.output, Nat.le_trans hg.size hg2.size, fun k hk hkn => ?_⟩
    simp only [List.mem_cons, not_or] at hkn
    rw [hg2.block k (Nat.lt_of_lt_of_le hk hg.size) (fun e => hkn.1 (Option.some.inj e)), hg.block k hk (fun e => hkn.2 (by rw [← e]; simp))]
  have hours : ∀ y ∈ b :: v.ownBlock.toList, Ours b v bs wr.heap.size y := by
    intro y hy
    rcases List.mem_cons.1 hy with e | hy
    · exact .inl e
    · exact .inr (.inl (by simpa using hy))
  have hfar : ∀ y f, FrAt wr w.heap.size y f → ¬ y ∈ b :: v.ownBlock.toList := by
    intro y f hf hy
    obtain ⟨n1, n2⟩ := h.fr_ne hf
    rcases List.mem_cons.1 hy with e | hy
    · exact n1 e
    · exact n2 (by simpa using hy)
  refine ⟨cell_of row1, free_of row1, h.turn hm hours (by simpa using hs2) (RP_moves ho (Moves.of_grown hg2) fun g hgo hgs => ?_) hn (hz.imp fun y _ f hf => h.fr_keep hm hours hf (hfar y f hf)) rfl ?_ hb, h.k8_ours hm hours⟩
  · simp only [List.mem_singleton] at hgs
    subst hgs
    obtain ⟨cells, hc⟩ := typed ho g hgo
    exact ne_of_types hc row1 (by decide) rfl
  · intro g hgo
    rcases hv with e | ⟨k, e, hk⟩
    · exact .inl (by rw [← e]; exact hgo)
    · rw [e] at hgo
      cases hgo
      exact .inr hk
theorem flush_any (h : PIn w wr b ps pd F v bs p) (hk : Ok p.S) {k : Nat} (hkl : k < bs.length) :
    Calls Tryz.prog 87 #[.pointer (some ⟨b, 0, none⟩), .pointer (some ⟨bs[k], 0, none⟩)] wr fun e w' => e = .returned (.int .i64 (p.flush k).2) ∧ K8 w wr w' ∧ ∃ F', PIn w w' b ps pd F' v bs (p.flush k).1 := by
  have hfx := h.fr hkl
  have H := Hide.mk h
  obtain ⟨R, hR⟩ : ∃ R, p.flush k = R := ⟨_, rfl⟩
  rw [hR]
  unfold Pl.flush at hR
  have HSET := Hide.mk (fun (W W' : World) (F' : Foot) (S' : Sh) (f' : Fr) (h : PIn w W b ps pd F' v bs { p with S := S' }) (hm : Moves [bs[k]] W W') (hf : FrAt W' w.heap.size bs[k] f') => h.set_frame hkl hm hf)
  obtain ⟨f, hf⟩ : ∃ f, p.frames.getD k Fr.none = f := ⟨_, rfl⟩
  rw [hf] at hfx hR
  obtain ⟨vb, hrow, hbody⟩ := hfx.ex
  obtain ⟨Ab, cb, hvb, hib, _⟩ := In.of_own hbody
  obtain ⟨nb, hnb⟩ : ∃ n, f.body.length = n := ⟨_, rfl⟩
  rw [hnb] at hvb
  subst hvb
  generalize bs[k] = x at *
  have c4 : wr.cell? ⟨x, 4, none⟩ = some (.bool f.dirty) := cell_of hrow
  have HFX0 := Hide.mk hfx
  simp only at hR
  by_cases hd : f.dirty = false
  · rw [if_pos hd] at hR
    rw [hd] at c4
    have HRR := Hide.mk hR.symm
    clear h hfx hR hrow hbody hib
    go_enter Tryz.func87, Tryz.ntmps87
    go_wp2
    go_ret
    rw [HRR.out]
    exact ⟨rfl, K8.refl _ _, F, H.out⟩
  · rw [if_neg hd] at hR
    have hd2 : f.dirty = true := by simpa using hd
    rw [hd2] at c4
    obtain ⟨S', E, hW⟩ : ∃ S' E, p.S.write f.id f.kind f.body = (S', E) := ⟨_, _, rfl⟩
    rw [hW] at hR
    simp only at hR
    have hdr := below_drew (Below.refl wr.heap.size wr)
    have HKD := Hide.mk (K8.of_below (w := w) hdr)
    have HD := Hide.mk (h.later hdr)
    have HFX := Hide.mk (hfx.below hdr)
    have HROWX := Hide.mk (show wr.drew.heap[x]? = _ from hrow)
    have HW0 := shwrite_any f.id f.kind Ab cb f.body wr.drew F p.S HD.out.sh hk (hib.below hdr).wide hfx.bytes
    rw [hW, hnb, h.ep] at HW0
    have HW := Hide.mk HW0
    have KC : wr.drew.cell? ⟨b, 0, none⟩ = some (.pointer (some ⟨ps, 0, none⟩)) ∧ wr.drew.cell? ⟨x, 0, none⟩ = some (.int .i64 f.id) ∧ wr.drew.cell? ⟨x, 1, none⟩ = some (.int .i64 f.kind) ∧ wr.drew.cell? ⟨x, 2, none⟩ = some (.slice Ab nb cb) := ⟨cell_of HD.out.row, cell_of HROWX.out, cell_of HROWX.out, cell_of HROWX.out⟩
    have HRR := Hide.mk hR.symm
    have HBODY := Hide.mk (show Bytes f.body ∧ w.heap.size ≤ x ∧ f.body.length ≤ 1000 from ⟨hfx.bytes, hfx.ge, hfx.short⟩)
    have HNB := Hide.mk hnb
    have HD2 := Hide.mk hd2
    clear h hfx hR hrow hbody hib HW0 hdr hk hW hf hnb hd hd2 HFX0 H
    go_enter Tryz.func87, Tryz.ntmps87
    go_wp2
    refine start_ (n := 18) (S := fun w' => w'.cell? ⟨b, 0, none⟩ = some (.pointer (some ⟨ps, 0, none⟩)) ∧ w'.cell? ⟨x, 0, none⟩ = some (.int .i64 f.id) ∧ w'.cell? ⟨x, 1, none⟩ = some (.int .i64 f.kind) ∧ w'.cell? ⟨x, 2, none⟩ = some (.slice Ab nb cb)) (ds := []) #[false, false, false, false, false, false, false, false, false, false, false, false, false, false, false, false, false, false] (by kernel_rfl) rfl rfl KC (fun hHeld => ?_); refine with_tabW tab87_3 bits87_3 (fun HT_ HW_ => ?_)
    refine pure_ (i := 0) (N := some 11) (v := ?_) (a' := ?_) #[true, false, false, false, false, false, false, false, false, false, false, false, false, false, false, false, false, false] rfl rfl (any_of HT_.out (by kernel_rfl)) (fun _ _ _ h => h) (Or.inl ⟨by rfl, ?_⟩) ?_ ?_
    rotate_left
    · intro w'
      go_simp
      with_reducible rfl
    rotate_left
    · simp only [Act.put, List.setIfInBounds_toArray, List.set_cons_zero, List.set_cons_succ, i64_w, i32_w]
      rfl
    refine pure_ (i := 1) (N := some 12) (v := ?_) (a' := ?_) #[true, true, false, false, false, false, false, false, false, false, false, false, false, false, false, false, false, false] rfl rfl (any_of HT_.out (by kernel_rfl)) (fun _ _ _ h => h) (Or.inl ⟨by rfl, ?_⟩) ?_ ?_
    rotate_left
    · intro w'
      go_simp
      with_reducible rfl
    rotate_left
    · simp only [Act.put, List.setIfInBounds_toArray, List.set_cons_zero, List.set_cons_succ, i64_w, i32_w]
      rfl
    refine pure_ (i := 2) (N := some 13) (v := ?_) (a' := ?_) #[true, true, true, false, false, false, false, false, false, false, false, false, false, false, false, false, false, false] rfl rfl (any_of HT_.out (by kernel_rfl)) (fun _ _ _ h => h) (Or.inl ⟨by rfl, ?_⟩) ?_ ?_
    rotate_left
    · intro w'
      go_simp
      with_reducible rfl
    rotate_left
    · simp only [Act.put, List.setIfInBounds_toArray, List.set_cons_zero, List.set_cons_succ, i64_w, i32_w]
      rfl
    refine take_ (i := 3) (N := some 14) (v := ?_) (a' := ?_) #[true, true, true, true, false, false, false, false, false, false, false, false, false, false, false, false, false, false] rfl rfl (take_ofW HT_.out HW_.out (by kernel_rfl)) (fun _ _ _ h => h) (Or.inl ⟨by rfl, ?_⟩) hHeld ?_ ?_
    rotate_left
    · intro w' hS'
      have s1 := hS'.1
      go_simp
      rfl
    rotate_left
    · simp only [Act.put, List.setIfInBounds_toArray, List.set_cons_zero, List.set_cons_succ, i64_w, i32_w]
      rfl
    refine pure_ (i := 4) (N := some 15) (v := ?_) (a' := ?_) #[true, true, true, true, true, false, false, false, false, false, false, false, false, false, false, false, false, false] rfl rfl (any_of HT_.out (by kernel_rfl)) (fun _ _ _ h => h) (Or.inl ⟨by rfl, ?_⟩) ?_ ?_
    rotate_left
    · intro w'
      go_simp
      with_reducible rfl
    rotate_left
    · simp only [Act.put, List.setIfInBounds_toArray, List.set_cons_zero, List.set_cons_succ, i64_w, i32_w]
      rfl
    refine pure_ (i := 5) (N := some 16) (v := ?_) (a' := ?_) #[true, true, true, true, true, true, false, false, false, false, false, false, false, false, false, false, false, false] rfl rfl (any_of HT_.out (by kernel_rfl)) (fun _ _ _ h => h) (Or.inl ⟨by rfl, ?_⟩) ?_ ?_
    rotate_left
    · intro w'
      go_simp
      with_reducible rfl
    rotate_left
    · simp only [Act.put, List.setIfInBounds_toArray, List.set_cons_zero, List.set_cons_succ, i64_w, i32_w]
      rfl
    refine pure_ (i := 6) (N := some 17) (v := ?_) (a' := ?_) #[true, true, true, true, true, true, true, false, false, false, false, false, false, false, false, false, false, false] rfl rfl (any_of HT_.out (by kernel_rfl)) (fun _ _ _ h => h) (Or.inl ⟨by rfl, ?_⟩) ?_ ?_
    rotate_left
    · intro w'
      go_simp
      with_reducible rfl
    rotate_left
    · simp only [Act.put, List.setIfInBounds_toArray, List.set_cons_zero, List.set_cons_succ, i64_w, i32_w]
      rfl
    refine take_ (i := 7) (N := some 18) (v := ?_) (a' := ?_) #[true, true, true, true, true, true, true, true, false, false, false, false, false, false, false, false, false, false] rfl rfl (take_ofW HT_.out HW_.out (by kernel_rfl)) (fun _ _ _ h => h) (Or.inl ⟨by rfl, ?_⟩) hHeld ?_ ?_
    rotate_left
    · intro w' hS'
      have s1 := hS'.2.1
      go_simp
      rfl
    rotate_left
    · simp only [Act.put, List.setIfInBounds_toArray, List.set_cons_zero, List.set_cons_succ, i64_w, i32_w]
      rfl
    refine pure_ (i := 8) (N := some 19) (v := ?_) (a' := ?_) #[true, true, true, true, true, true, true, true, true, false, false, false, false, false, false, false, false, false] rfl rfl (any_of HT_.out (by kernel_rfl)) (fun _ _ _ h => h) (Or.inl ⟨by rfl, ?_⟩) ?_ ?_
    rotate_left
    · intro w'
      go_simp
      with_reducible rfl
    rotate_left
    · simp only [Act.put, List.setIfInBounds_toArray, List.set_cons_zero, List.set_cons_succ, i64_w, i32_w]
      rfl
    refine pure_ (i := 9) (N := some 20) (v := ?_) (a' := ?_) #[true, true, true, true, true, true, true, true, true, true, false, false, false, false, false, false, false, false] rfl rfl (any_of HT_.out (by kernel_rfl)) (fun _ _ _ h => h) (Or.inl ⟨by rfl, ?_⟩) ?_ ?_
    rotate_left
    · intro w'
      go_simp
      with_reducible rfl
    rotate_left
    · simp only [Act.put, List.setIfInBounds_toArray, List.set_cons_zero, List.set_cons_succ, i64_w, i32_w]
      rfl
    refine pure_ (i := 10) (N := some 21) (v := ?_) (a' := ?_) #[true, true, true, true, true, true, true, true, true, true, true, false, false, false, false, false, false, false] rfl rfl (any_of HT_.out (by kernel_rfl)) (fun _ _ _ h => h) (Or.inl ⟨by rfl, ?_⟩) ?_ ?_
    rotate_left
    · intro w'
      go_simp
      with_reducible rfl
    rotate_left
    · simp only [Act.put, List.setIfInBounds_toArray, List.set_cons_zero, List.set_cons_succ, i64_w, i32_w]
      rfl
    refine take_ (i := 11) (N := some 22) (v := ?_) (a' := ?_) #[true, true, true, true, true, true, true, true, true, true, true, true, false, false, false, false, false, false] rfl rfl (take_ofW HT_.out HW_.out (by kernel_rfl)) (fun _ _ _ h => h) (Or.inl ⟨by rfl, ?_⟩) hHeld ?_ ?_
    rotate_left
    · intro w' hS'
      have s1 := hS'.2.2.1
      go_simp
      rfl
    rotate_left
    · simp only [Act.put, List.setIfInBounds_toArray, List.set_cons_zero, List.set_cons_succ, i64_w, i32_w]
      rfl
    refine pure_ (i := 12) (N := some 23) (v := ?_) (a' := ?_) #[true, true, true, true, true, true, true, true, true, true, true, true, true, false, false, false, false, false] rfl rfl (any_of HT_.out (by kernel_rfl)) (fun _ _ _ h => h) (Or.inl ⟨by rfl, ?_⟩) ?_ ?_
    rotate_left
    · intro w'
      go_simp
      with_reducible rfl
    rotate_left
    · simp only [Act.put, List.setIfInBounds_toArray, List.set_cons_zero, List.set_cons_succ, i64_w, i32_w]
      rfl
    refine pure_ (i := 13) (N := some 24) (v := ?_) (a' := ?_) #[true, true, true, true, true, true, true, true, true, true, true, true, true, true, false, false, false, false] rfl rfl (any_of HT_.out (by kernel_rfl)) (fun _ _ _ h => h) (Or.inl ⟨by rfl, ?_⟩) ?_ ?_
    rotate_left
    · intro w'
      go_simp
      with_reducible rfl
    rotate_left
    · simp only [Act.put, List.setIfInBounds_toArray, List.set_cons_zero, List.set_cons_succ, i64_w, i32_w]
      rfl
    refine pure_ (i := 14) (N := some 25) (v := ?_) (a' := ?_) #[true, true, true, true, true, true, true, true, true, true, true, true, true, true, true, false, false, false] rfl rfl (any_of HT_.out (by kernel_rfl)) (fun _ _ _ h => h) (Or.inl ⟨by rfl, ?_⟩) ?_ ?_
    rotate_left
    · intro w'
      go_simp
      with_reducible rfl
    rotate_left
    · simp only [Act.put, List.setIfInBounds_toArray, List.set_cons_zero, List.set_cons_succ, i64_w, i32_w]
      rfl
    refine take_ (i := 15) (N := some 26) (v := ?_) (a' := ?_) #[true, true, true, true, true, true, true, true, true, true, true, true, true, true, true, true, false, false] rfl rfl (take_ofW HT_.out HW_.out (by kernel_rfl)) (fun _ _ _ h => h) (Or.inl ⟨by rfl, ?_⟩) hHeld ?_ ?_
    rotate_left
    · intro w' hS'
      have s1 := hS'.2.2.2
      go_simp
      rfl
    rotate_left
    · simp only [Act.put, List.setIfInBounds_toArray, List.set_cons_zero, List.set_cons_succ, i64_w, i32_w]
      rfl
    refine one_ (i := 16) (N := some 27) #[true, true, true, true, true, true, true, true, true, true, true, true, true, true, true, true, true, false] rfl rfl (one_of HT_.out (by kernel_rfl)) (by decide) (fun K hK => ?_)
    refine goes_ Tryz.func30 (by kernel_rfl) rfl #[.pointer (some ⟨ps, 0, none⟩), .int .i64 f.id, .int .i64 f.kind, .slice Ab nb cb] (by rfl) rfl rfl (by (try simp only [List.map_toArray, List.map_cons, List.map_nil]); first | done | rfl) ?_
    with_reducible refine HW.out.mono ?_
    rintro e w4 ⟨rfl, F4, hs, hg⟩
    have S4 := Hide.mk hs
    have G4 := Hide.mk hg
    have rb4 := (hg.moves.block b (lt_of_row HD.out.row) HD.out.b_off.1).trans HD.out.row
    have rx4 := (hg.moves.block x (lt_of_row HROWX.out) (fr_off HD.out.sh HFX.out)).trans HROWX.out
    have KC1 := And.intro (show w4.cell? ⟨b, 0, none⟩ = some (.pointer (some ⟨ps, 0, none⟩)) from cell_of rb4) (And.intro (show w4.cell? ⟨x, 0, none⟩ = some (.int .i64 f.id) from cell_of rx4) (And.intro (show w4.cell? ⟨x, 1, none⟩ = some (.int .i64 f.kind) from cell_of rx4) (show w4.cell? ⟨x, 2, none⟩ = some (.slice Ab nb cb) from cell_of rx4)))
    have RX4 := Hide.mk rx4
    refine ⟨_, rfl, ?_⟩
    clear hs hg rb4 rx4
    refine hK.out _ _ KC1 (fun hHeld => ?_)
    clear hK K
    refine norm_ (a' := ?_) ?_ ?_
    rotate_left
    · show Act.put _ (some 27) _ = _
      simp only [Act.put, List.setIfInBounds_toArray, List.set_cons_zero, List.set_cons_succ, i64_w, i32_w]
      rfl
    refine pure_ (i := 17) (N := some 5) (v := ?_) (a' := ?_) #[true, true, true, true, true, true, true, true, true, true, true, true, true, true, true, true, true, true] rfl rfl (any_of HT_.out (by kernel_rfl)) (fun _ _ _ h => h) (Or.inl ⟨by rfl, ?_⟩) ?_ ?_
    rotate_left
    · intro w'
      go_simp
      with_reducible rfl
    rotate_left
    · simp only [Act.put, List.setIfInBounds_toArray, List.set_cons_zero, List.set_cons_succ, i64_w, i32_w]
      rfl
    refine done_ (done_of HT_.out (by kernel_rfl)) ?_
    clear KC KC1 hHeld
    have P4 := Hide.mk (HD.out.shadow S4.out G4.out)
    have HF4 := Hide.mk (HFX.out.moves G4.out.moves (fr_off HD.out.sh HFX.out) (own_no8 HD.out.sh))
    have d4 : w4.cell? ⟨x, 4, none⟩ = some (.bool f.dirty) := cell_of RX4.out
    have f4 := free_of (i := 4) RX4.out
    by_cases hE : E = 0
    · subst hE
      have hR := HRR.out
      rw [if_neg (by simp)] at hR
      have HR1 := Hide.mk hR
      clear hR
      go_wp2
      go_ret
      rw [HR1.out]
      have K4 := Hide.mk (HKD.out.trans ((HD.out.k8_goes G4.out).trans (K8.of_moves (w := w) (Moves.of_grown (set_cell_grown (wr := w4) (p := x) (i := 4) (.bool false))) (fun y hy => by simp only [List.mem_singleton] at hy; subst hy; exact ⟨HBODY.out.2.1, fun c t f hq hc => ne_of_types hc RX4.out hq.2.2.2 rfl⟩))))
      refine ⟨rfl, K4.out, F4, ?_⟩
      refine HSET.out w4 _ F4 S' { f with dirty := false } P4.out (Moves.of_grown (set_cell_grown (.bool false))) ?_
      obtain ⟨v5, r5, b5⟩ := HF4.out.ex
      have hs5 := set_row (i := 4) r5 (.bool false)
      refine ⟨⟨v5, by simpa using hs5, R_moves b5 (Moves.of_grown (set_cell_grown (.bool false))) fun g hg hgs => ?_⟩, HBODY.out.2.1, HBODY.out.1, HBODY.out.2.2⟩
      simp only [List.mem_singleton] at hgs
      subst hgs
      obtain ⟨cells, hc⟩ := typed b5 g hg
      exact ne_of_types hc r5 (by decide) rfl
    · have q : (E != 0) = true := by simp [hE]
      have hR := HRR.out
      rw [if_pos hE] at hR
      have HR1 := Hide.mk hR
      clear hR hE
      go_wp2
      go_ret
      rw [HR1.out]
      exact ⟨rfl, HKD.out.trans (HD.out.k8_goes G4.out), F4, P4.out⟩
theorem room_any (h : PIn w wr b ps pd F v bs p) (hk : Ok p.S) (hl : bs.length ≤ 1000) :
    Calls Tryz.prog 52 #[.pointer (some ⟨b, 0, none⟩)] wr fun e w' => e = .returned (.int .i64 p.room.2) ∧ ∃ F' v' bs', PIn w w' b ps pd F' v' bs' p.room.1 ∧ bs'.length ≤ bs.length ∧ (∀ x ∈ bs', x ∈ bs) ∧ K8 w wr w' := by
  obtain ⟨R, hR⟩ : ∃ R, p.room = R := ⟨_, rfl⟩
  rw [hR]
  unfold Pl.room at hR
  have hlen := h.frs.len
  rw [← hlen] at hR
  have hdr := below_drew (Below.refl wr.heap.size wr)
  have HKD := Hide.mk (K8.of_below (w := w) hdr)
  have HD := Hide.mk (h.later hdr)
  obtain ⟨A, c, hv, hC⟩ := h.slice
  have hCd := Kd.C_below hC hdr
  by_cases hlt : (bs.length : Int) < p.most
  · rw [if_pos hlt] at hR
    have HRR := Hide.mk hR.symm
    subst hv
    have KC : wr.drew.cell? ⟨b, 2, none⟩ = some (.slice A bs.length c) ∧ wr.drew.cell? ⟨b, 1, none⟩ = some (.int .i64 p.most) := ⟨cell_of HD.out.row, cell_of HD.out.row⟩
    clear h hR hdr hC hCd hk hlen
    go_enter Tryz.func52, Tryz.ntmps52
    go_wp2
    refine start_ (n := 10) (S := fun w' => w'.cell? ⟨b, 2, none⟩ = some (.slice A bs.length c) ∧ w'.cell? ⟨b, 1, none⟩ = some (.int .i64 p.most)) (ds := []) #[false, false, false, false, false, false, false, false, false, false] (by kernel_rfl) rfl rfl KC (fun hHeld => ?_); refine with_tabW tab52_1 bits52_1 (fun HT_ HW_ => ?_)
    refine pure_ (i := 0) (N := some 5) (v := ?_) (a' := ?_) #[true, false, false, false, false, false, false, false, false, false] rfl rfl (any_of HT_.out (by kernel_rfl)) (fun _ _ _ h => h) (Or.inl ⟨by rfl, ?_⟩) ?_ ?_
    rotate_left
    · intro w'
      go_simp
      with_reducible rfl
    rotate_left
    · simp only [Act.put, List.setIfInBounds_toArray, List.set_cons_zero, List.set_cons_succ, i64_w, i32_w]
      rfl
    refine pure_ (i := 1) (N := some 6) (v := ?_) (a' := ?_) #[true, true, false, false, false, false, false, false, false, false] rfl rfl (any_of HT_.out (by kernel_rfl)) (fun _ _ _ h => h) (Or.inl ⟨by rfl, ?_⟩) ?_ ?_
    rotate_left
    · intro w'
      go_simp
      with_reducible rfl
    rotate_left
    · simp only [Act.put, List.setIfInBounds_toArray, List.set_cons_zero, List.set_cons_succ, i64_w, i32_w]
      rfl
    refine pure_ (i := 2) (N := some 7) (v := ?_) (a' := ?_) #[true, true, true, false, false, false, false, false, false, false] rfl rfl (any_of HT_.out (by kernel_rfl)) (fun _ _ _ h => h) (Or.inl ⟨by rfl, ?_⟩) ?_ ?_
    rotate_left
    · intro w'
      go_simp
      with_reducible rfl
    rotate_left
    · simp only [Act.put, List.setIfInBounds_toArray, List.set_cons_zero, List.set_cons_succ, i64_w, i32_w]
      rfl
    refine take_ (i := 3) (N := some 8) (v := ?_) (a' := ?_) #[true, true, true, true, false, false, false, false, false, false] rfl rfl (take_ofW HT_.out HW_.out (by kernel_rfl)) (fun _ _ _ h => h) (Or.inl ⟨by rfl, ?_⟩) hHeld ?_ ?_
    rotate_left
    · intro w' hS'
      have s1 := hS'.1
      go_simp
      rfl
    rotate_left
    · simp only [Act.put, List.setIfInBounds_toArray, List.set_cons_zero, List.set_cons_succ, i64_w, i32_w]
      rfl
    refine pure_ (i := 4) (N := some 9) (v := ?_) (a' := ?_) #[true, true, true, true, true, false, false, false, false, false] rfl rfl (any_of HT_.out (by kernel_rfl)) (fun _ _ _ h => h) (Or.inl ⟨by rfl, ?_⟩) ?_ ?_
    rotate_left
    · intro w'
      go_simp
      with_reducible rfl
    rotate_left
    · simp only [Act.put, List.setIfInBounds_toArray, List.set_cons_zero, List.set_cons_succ, i64_w, i32_w]
      rfl
    refine pure_ (i := 5) (N := some 10) (v := ?_) (a' := ?_) #[true, true, true, true, true, true, false, false, false, false] rfl rfl (any_of HT_.out (by kernel_rfl)) (fun _ _ _ h => h) (Or.inl ⟨by rfl, ?_⟩) ?_ ?_
    rotate_left
    · intro w'
      go_simp
      with_reducible rfl
    rotate_left
    · simp only [Act.put, List.setIfInBounds_toArray, List.set_cons_zero, List.set_cons_succ, i64_w, i32_w]
      rfl
    refine pure_ (i := 6) (N := some 11) (v := ?_) (a' := ?_) #[true, true, true, true, true, true, true, false, false, false] rfl rfl (any_of HT_.out (by kernel_rfl)) (fun _ _ _ h => h) (Or.inl ⟨by rfl, ?_⟩) ?_ ?_
    rotate_left
    · intro w'
      go_simp
      with_reducible rfl
    rotate_left
    · simp only [Act.put, List.setIfInBounds_toArray, List.set_cons_zero, List.set_cons_succ, i64_w, i32_w]
      rfl
    refine pure_ (i := 7) (N := some 12) (v := ?_) (a' := ?_) #[true, true, true, true, true, true, true, true, false, false] rfl rfl (any_of HT_.out (by kernel_rfl)) (fun _ _ _ h => h) (Or.inl ⟨by rfl, ?_⟩) ?_ ?_
    rotate_left
    · intro w'
      go_simp
      with_reducible rfl
    rotate_left
    · simp only [Act.put, List.setIfInBounds_toArray, List.set_cons_zero, List.set_cons_succ, i64_w, i32_w]
      rfl
    refine take_ (i := 8) (N := some 13) (v := ?_) (a' := ?_) #[true, true, true, true, true, true, true, true, true, false] rfl rfl (take_ofW HT_.out HW_.out (by kernel_rfl)) (fun _ _ _ h => h) (Or.inl ⟨by rfl, ?_⟩) hHeld ?_ ?_
    rotate_left
    · intro w' hS'
      have s1 := hS'.2
      go_simp
      rfl
    rotate_left
    · simp only [Act.put, List.setIfInBounds_toArray, List.set_cons_zero, List.set_cons_succ, i64_w, i32_w]
      rfl
    refine pure_ (i := 9) (N := some 14) (v := ?_) (a' := ?_) #[true, true, true, true, true, true, true, true, true, true] rfl rfl (any_of HT_.out (by kernel_rfl)) (fun _ _ _ h => h) (Or.inl ⟨by rfl, ?_⟩) ?_ ?_
    rotate_left
    · intro w'
      go_simp
      with_reducible rfl
    rotate_left
    · simp only [Act.put, List.setIfInBounds_toArray, List.set_cons_zero, List.set_cons_succ, i64_w, i32_w]
      rfl
    refine done_ (done_of HT_.out (by kernel_rfl)) ?_
    clear hHeld
    clear KC
    go_wp2
    go_ret
    rw [HRR.out]
    exact ⟨rfl, F, _, bs, HD.out, Nat.le_refl _, (fun x hx => hx), HKD.out⟩
  · rw [if_neg hlt] at hR
    have HI0 := index_room bs p.frames A c wr.drew hCd HD.out.frs (by omega)
    rw [show idxF (fun f => decide (f.pins = 0)) p.frames 0 = p.free_ from rfl] at HI0
    rcases idxF_at (fun f => decide (f.pins = 0)) p.frames 0 with e | ⟨k, hkl, e, hq⟩
    · rw [show idxF (fun f => decide (f.pins = 0)) p.frames 0 = p.free_ from rfl] at e
      rw [e] at hR HI0
      rw [if_pos (by decide)] at hR
      have HRR := Hide.mk hR.symm
      have HI := Hide.mk HI0
      subst hv
      have KC : wr.drew.cell? ⟨b, 2, none⟩ = some (.slice A bs.length c) ∧ wr.drew.cell? ⟨b, 1, none⟩ = some (.int .i64 p.most) := ⟨cell_of HD.out.row, cell_of HD.out.row⟩
      clear h hR hdr hC hCd hk hlen e HI0
      go_enter Tryz.func52, Tryz.ntmps52
      go_wp2
      refine start_ (n := 10) (S := fun w' => w'.cell? ⟨b, 2, none⟩ = some (.slice A bs.length c) ∧ w'.cell? ⟨b, 1, none⟩ = some (.int .i64 p.most)) (ds := []) #[false, false, false, false, false, false, false, false, false, false] (by kernel_rfl) rfl rfl KC (fun hHeld => ?_); refine with_tabW tab52_1 bits52_1 (fun HT_ HW_ => ?_)
      refine pure_ (i := 0) (N := some 5) (v := ?_) (a' := ?_) #[true, false, false, false, false, false, false, false, false, false] rfl rfl (any_of HT_.out (by kernel_rfl)) (fun _ _ _ h => h) (Or.inl ⟨by rfl, ?_⟩) ?_ ?_
      rotate_left
      · intro w'
        go_simp
        with_reducible rfl
      rotate_left
      · simp only [Act.put, List.setIfInBounds_toArray, List.set_cons_zero, List.set_cons_succ, i64_w, i32_w]
        rfl
      refine pure_ (i := 1) (N := some 6) (v := ?_) (a' := ?_) #[true, true, false, false, false, false, false, false, false, false] rfl rfl (any_of HT_.out (by kernel_rfl)) (fun _ _ _ h => h) (Or.inl ⟨by rfl, ?_⟩) ?_ ?_
      rotate_left
      · intro w'
        go_simp
        with_reducible rfl
      rotate_left
      · simp only [Act.put, List.setIfInBounds_toArray, List.set_cons_zero, List.set_cons_succ, i64_w, i32_w]
        rfl
      refine pure_ (i := 2) (N := some 7) (v := ?_) (a' := ?_) #[true, true, true, false, false, false, false, false, false, false] rfl rfl (any_of HT_.out (by kernel_rfl)) (fun _ _ _ h => h) (Or.inl ⟨by rfl, ?_⟩) ?_ ?_
      rotate_left
      · intro w'
        go_simp
        with_reducible rfl
      rotate_left
      · simp only [Act.put, List.setIfInBounds_toArray, List.set_cons_zero, List.set_cons_succ, i64_w, i32_w]
        rfl
      refine take_ (i := 3) (N := some 8) (v := ?_) (a' := ?_) #[true, true, true, true, false, false, false, false, false, false] rfl rfl (take_ofW HT_.out HW_.out (by kernel_rfl)) (fun _ _ _ h => h) (Or.inl ⟨by rfl, ?_⟩) hHeld ?_ ?_
      rotate_left
      · intro w' hS'
        have s1 := hS'.1
        go_simp
        rfl
      rotate_left
      · simp only [Act.put, List.setIfInBounds_toArray, List.set_cons_zero, List.set_cons_succ, i64_w, i32_w]
        rfl
      refine pure_ (i := 4) (N := some 9) (v := ?_) (a' := ?_) #[true, true, true, true, true, false, false, false, false, false] rfl rfl (any_of HT_.out (by kernel_rfl)) (fun _ _ _ h => h) (Or.inl ⟨by rfl, ?_⟩) ?_ ?_
      rotate_left
      · intro w'
        go_simp
        with_reducible rfl
      rotate_left
      · simp only [Act.put, List.setIfInBounds_toArray, List.set_cons_zero, List.set_cons_succ, i64_w, i32_w]
        rfl
      refine pure_ (i := 5) (N := some 10) (v := ?_) (a' := ?_) #[true, true, true, true, true, true, false, false, false, false] rfl rfl (any_of HT_.out (by kernel_rfl)) (fun _ _ _ h => h) (Or.inl ⟨by rfl, ?_⟩) ?_ ?_
      rotate_left
      · intro w'
        go_simp
        with_reducible rfl
      rotate_left
      · simp only [Act.put, List.setIfInBounds_toArray, List.set_cons_zero, List.set_cons_succ, i64_w, i32_w]
        rfl
      refine pure_ (i := 6) (N := some 11) (v := ?_) (a' := ?_) #[true, true, true, true, true, true, true, false, false, false] rfl rfl (any_of HT_.out (by kernel_rfl)) (fun _ _ _ h => h) (Or.inl ⟨by rfl, ?_⟩) ?_ ?_
      rotate_left
      · intro w'
        go_simp
        with_reducible rfl
      rotate_left
      · simp only [Act.put, List.setIfInBounds_toArray, List.set_cons_zero, List.set_cons_succ, i64_w, i32_w]
        rfl
      refine pure_ (i := 7) (N := some 12) (v := ?_) (a' := ?_) #[true, true, true, true, true, true, true, true, false, false] rfl rfl (any_of HT_.out (by kernel_rfl)) (fun _ _ _ h => h) (Or.inl ⟨by rfl, ?_⟩) ?_ ?_
      rotate_left
      · intro w'
        go_simp
        with_reducible rfl
      rotate_left
      · simp only [Act.put, List.setIfInBounds_toArray, List.set_cons_zero, List.set_cons_succ, i64_w, i32_w]
        rfl
      refine take_ (i := 8) (N := some 13) (v := ?_) (a' := ?_) #[true, true, true, true, true, true, true, true, true, false] rfl rfl (take_ofW HT_.out HW_.out (by kernel_rfl)) (fun _ _ _ h => h) (Or.inl ⟨by rfl, ?_⟩) hHeld ?_ ?_
      rotate_left
      · intro w' hS'
        have s1 := hS'.2
        go_simp
        rfl
      rotate_left
      · simp only [Act.put, List.setIfInBounds_toArray, List.set_cons_zero, List.set_cons_succ, i64_w, i32_w]
        rfl
      refine pure_ (i := 9) (N := some 14) (v := ?_) (a' := ?_) #[true, true, true, true, true, true, true, true, true, true] rfl rfl (any_of HT_.out (by kernel_rfl)) (fun _ _ _ h => h) (Or.inl ⟨by rfl, ?_⟩) ?_ ?_
      rotate_left
      · intro w'
        go_simp
        with_reducible rfl
      rotate_left
      · simp only [Act.put, List.setIfInBounds_toArray, List.set_cons_zero, List.set_cons_succ, i64_w, i32_w]
        rfl
      refine done_ (done_of HT_.out (by kernel_rfl)) ?_
      clear hHeld
      have k2 := KC.1
      clear KC
      go_wp2_with (first
        | (go_at_call 93
           refine HI.out.mono ?_
           rintro e w2 ⟨rfl, hb⟩
           have B2 := Hide.mk hb
           have P2 := Hide.mk (HD.out.later hb)
           clear hb))
      go_ret
      rw [HRR.out]
      exact ⟨rfl, F, _, bs, P2.out, Nat.le_refl _, (fun x hx => hx), HKD.out.trans (K8.of_below B2.out)⟩
    · rw [show idxF (fun f => decide (f.pins = 0)) p.frames 0 = p.free_ from rfl, Nat.zero_add] at e
      rw [e] at hR HI0
      rw [if_neg (by omega), Int.toNat_natCast] at hR
      have hkb : k < bs.length := by omega
      have HI := Hide.mk HI0
      obtain ⟨g, c0, hvg, _, _, _⟩ := Kd.R_form h.arr (by rw [List.length_map]; omega)
      rw [List.length_map] at hvg
      rw [hvg] at hv
      cases hv
      subst hvg
      have KC : wr.drew.cell? ⟨b, 2, none⟩ = some (.slice (some ⟨g, 0, none⟩) bs.length c) ∧ wr.drew.cell? ⟨b, 1, none⟩ = some (.int .i64 p.most) := ⟨cell_of HD.out.row, cell_of HD.out.row⟩
      obtain ⟨p1, E, hF⟩ : ∃ p1 E, p.flush k = (p1, E) := ⟨_, _, rfl⟩
      rw [hF] at hR
      simp only at hR
      have HFE := Hide.mk hF
      have HOK := Hide.mk hk
      have HKL := Hide.mk hkb
      have HKE : Hide (((k + 1 : Nat) : Int) = (k : Int) + 1) := ⟨by omega⟩
      have HLL := Hide.mk hl
      have hkz : ¬ (k : Int) < 0 := by omega
      have hki : (k : Int) < (bs.length : Int) := by omega
      have hk1 : (k : Int) ≤ 1000 := by omega
      have HRR := Hide.mk hR.symm
      obtain ⟨ad, had, hcx⟩ := at_ptr hCd (k : Int) (by omega) hki
      cases had
      have hrd : rdOf none (bs.map some) (k : Int) = some bs[k] := by simp [rdOf, List.getD_eq_getElem?_getD, hkb]
      rw [hrd, Int.toNat_natCast, Go.WideShapes.add_plain, Nat.zero_add] at hcx
      have HX : Hide (∀ w2, Below wr.drew.heap.size wr.drew w2 → w2.cell? ⟨g, k, none⟩ = some (.pointer (some ⟨bs[k], 0, none⟩))) := ⟨fun w2 hb => pw_cell_below hb hcx⟩
      have HFLU := Hide.mk (fun w2 (hp : PIn w w2 b ps pd F (.slice (some ⟨g, 0, none⟩) bs.length c) bs p) => flush_any hp HOK.out HKL.out)
      generalize bs[k] = x at *
      clear h hR hdr hC hCd hk hlen e HI0 hkl hq hcx hrd hkb hF hl
      by_cases hE : E = 0
      · subst hE
        have hR := HRR.out
        rw [if_neg (by simp)] at hR
        have HR1 := Hide.mk hR
        clear hR
        go_enter Tryz.func52, Tryz.ntmps52
        go_wp2
        refine start_ (n := 10) (S := fun w' => w'.cell? ⟨b, 2, none⟩ = some (.slice (some ⟨g, 0, none⟩) bs.length c) ∧ w'.cell? ⟨b, 1, none⟩ = some (.int .i64 p.most)) (ds := []) #[false, false, false, false, false, false, false, false, false, false] (by kernel_rfl) rfl rfl KC (fun hHeld => ?_); refine with_tabW tab52_1 bits52_1 (fun HT_ HW_ => ?_)
        refine pure_ (i := 0) (N := some 5) (v := ?_) (a' := ?_) #[true, false, false, false, false, false, false, false, false, false] rfl rfl (any_of HT_.out (by kernel_rfl)) (fun _ _ _ h => h) (Or.inl ⟨by rfl, ?_⟩) ?_ ?_
        rotate_left
        · intro w'
          go_simp
          with_reducible rfl
        rotate_left
        · simp only [Act.put, List.setIfInBounds_toArray, List.set_cons_zero, List.set_cons_succ, i64_w, i32_w]
          rfl
        refine pure_ (i := 1) (N := some 6) (v := ?_) (a' := ?_) #[true, true, false, false, false, false, false, false, false, false] rfl rfl (any_of HT_.out (by kernel_rfl)) (fun _ _ _ h => h) (Or.inl ⟨by rfl, ?_⟩) ?_ ?_
        rotate_left
        · intro w'
          go_simp
          with_reducible rfl
        rotate_left
        · simp only [Act.put, List.setIfInBounds_toArray, List.set_cons_zero, List.set_cons_succ, i64_w, i32_w]
          rfl
        refine pure_ (i := 2) (N := some 7) (v := ?_) (a' := ?_) #[true, true, true, false, false, false, false, false, false, false] rfl rfl (any_of HT_.out (by kernel_rfl)) (fun _ _ _ h => h) (Or.inl ⟨by rfl, ?_⟩) ?_ ?_
        rotate_left
        · intro w'
          go_simp
          with_reducible rfl
        rotate_left
        · simp only [Act.put, List.setIfInBounds_toArray, List.set_cons_zero, List.set_cons_succ, i64_w, i32_w]
          rfl
        refine take_ (i := 3) (N := some 8) (v := ?_) (a' := ?_) #[true, true, true, true, false, false, false, false, false, false] rfl rfl (take_ofW HT_.out HW_.out (by kernel_rfl)) (fun _ _ _ h => h) (Or.inl ⟨by rfl, ?_⟩) hHeld ?_ ?_
        rotate_left
        · intro w' hS'
          have s1 := hS'.1
          go_simp
          rfl
        rotate_left
        · simp only [Act.put, List.setIfInBounds_toArray, List.set_cons_zero, List.set_cons_succ, i64_w, i32_w]
          rfl
        refine pure_ (i := 4) (N := some 9) (v := ?_) (a' := ?_) #[true, true, true, true, true, false, false, false, false, false] rfl rfl (any_of HT_.out (by kernel_rfl)) (fun _ _ _ h => h) (Or.inl ⟨by rfl, ?_⟩) ?_ ?_
        rotate_left
        · intro w'
          go_simp
          with_reducible rfl
        rotate_left
        · simp only [Act.put, List.setIfInBounds_toArray, List.set_cons_zero, List.set_cons_succ, i64_w, i32_w]
          rfl
        refine pure_ (i := 5) (N := some 10) (v := ?_) (a' := ?_) #[true, true, true, true, true, true, false, false, false, false] rfl rfl (any_of HT_.out (by kernel_rfl)) (fun _ _ _ h => h) (Or.inl ⟨by rfl, ?_⟩) ?_ ?_
        rotate_left
        · intro w'
          go_simp
          with_reducible rfl
        rotate_left
        · simp only [Act.put, List.setIfInBounds_toArray, List.set_cons_zero, List.set_cons_succ, i64_w, i32_w]
          rfl
        refine pure_ (i := 6) (N := some 11) (v := ?_) (a' := ?_) #[true, true, true, true, true, true, true, false, false, false] rfl rfl (any_of HT_.out (by kernel_rfl)) (fun _ _ _ h => h) (Or.inl ⟨by rfl, ?_⟩) ?_ ?_
        rotate_left
        · intro w'
          go_simp
          with_reducible rfl
        rotate_left
        · simp only [Act.put, List.setIfInBounds_toArray, List.set_cons_zero, List.set_cons_succ, i64_w, i32_w]
          rfl
        refine pure_ (i := 7) (N := some 12) (v := ?_) (a' := ?_) #[true, true, true, true, true, true, true, true, false, false] rfl rfl (any_of HT_.out (by kernel_rfl)) (fun _ _ _ h => h) (Or.inl ⟨by rfl, ?_⟩) ?_ ?_
        rotate_left
        · intro w'
          go_simp
          with_reducible rfl
        rotate_left
        · simp only [Act.put, List.setIfInBounds_toArray, List.set_cons_zero, List.set_cons_succ, i64_w, i32_w]
          rfl
        refine take_ (i := 8) (N := some 13) (v := ?_) (a' := ?_) #[true, true, true, true, true, true, true, true, true, false] rfl rfl (take_ofW HT_.out HW_.out (by kernel_rfl)) (fun _ _ _ h => h) (Or.inl ⟨by rfl, ?_⟩) hHeld ?_ ?_
        rotate_left
        · intro w' hS'
          have s1 := hS'.2
          go_simp
          rfl
        rotate_left
        · simp only [Act.put, List.setIfInBounds_toArray, List.set_cons_zero, List.set_cons_succ, i64_w, i32_w]
          rfl
        refine pure_ (i := 9) (N := some 14) (v := ?_) (a' := ?_) #[true, true, true, true, true, true, true, true, true, true] rfl rfl (any_of HT_.out (by kernel_rfl)) (fun _ _ _ h => h) (Or.inl ⟨by rfl, ?_⟩) ?_ ?_
        rotate_left
        · intro w'
          go_simp
          with_reducible rfl
        rotate_left
        · simp only [Act.put, List.setIfInBounds_toArray, List.set_cons_zero, List.set_cons_succ, i64_w, i32_w]
          rfl
        refine done_ (done_of HT_.out (by kernel_rfl)) ?_
        clear hHeld
        have k2 := KC.1
        clear KC
        go_wp2_with (first
          | (go_at_call 93
             refine HI.out.mono ?_
             rintro e w2 ⟨rfl, hb⟩
             have B2 := Hide.mk hb
             have P2 := Hide.mk (HD.out.later hb)
             have k2b := pw_cell_below hb k2
             have kx := HX.out w2 hb
             have HFL0 := HFLU.out w2 P2.out
             rw [HFE.out] at HFL0
             have HFL := Hide.mk HFL0
             clear hb HFL0)
          | (go_at_call 87
             with_reducible refine HFL.out.mono ?_
             rintro e w3 ⟨rfl, hk3, F3, hp3⟩
             have P3 := Hide.mk hp3
             have K3 := Hide.mk hk3
             clear hk3
             have c2c : w3.cell? ⟨b, 2, none⟩ = some (.slice (some ⟨g, 0, none⟩) bs.length c) := cell_of hp3.row
             have HDL0 := delete_any k hp3.arr HKL.out
             rw [HKE.out] at HDL0
             have HDL := Hide.mk HDL0
             clear HDL0
             clear hp3)
          | (go_at_call 58
             with_reducible refine HDL.out.mono ?_
             rintro e w4 ⟨rfl, ho4, hg4⟩
             have hz4 := P3.out.frs.erase k
             have nd4 := P3.out.nodup.sublist (List.eraseIdx_sublist bs k)
             obtain ⟨d2, f2, hp4, hk4⟩ := P3.out.restored (v1 := .slice (some ⟨g, 0, none⟩) (bs.length - 1) c) hg4 ho4 (.inl rfl) nd4 hz4 (fun x hx => .inl (List.mem_of_mem_eraseIdx hx))
             have P4 := Hide.mk hp4
             have K4 := Hide.mk hk4
             clear ho4 hg4 hz4 nd4 hp4 hk4))
        go_ret
        rw [HR1.out]
        exact ⟨rfl, F3, _, _, P4.out, by rw [List.length_eraseIdx]; split <;> omega, (fun x hx => List.mem_of_mem_eraseIdx hx), (HKD.out.trans (K8.of_below B2.out)).trans (K3.out.trans K4.out)⟩
      · have q : (E != 0) = true := by simp [hE]
        have hR := HRR.out
        rw [if_pos hE] at hR
        have HR1 := Hide.mk hR
        clear hR hE
        go_enter Tryz.func52, Tryz.ntmps52
        go_wp2
        refine start_ (n := 10) (S := fun w' => w'.cell? ⟨b, 2, none⟩ = some (.slice (some ⟨g, 0, none⟩) bs.length c) ∧ w'.cell? ⟨b, 1, none⟩ = some (.int .i64 p.most)) (ds := []) #[false, false, false, false, false, false, false, false, false, false] (by kernel_rfl) rfl rfl KC (fun hHeld => ?_); refine with_tabW tab52_1 bits52_1 (fun HT_ HW_ => ?_)
        refine pure_ (i := 0) (N := some 5) (v := ?_) (a' := ?_) #[true, false, false, false, false, false, false, false, false, false] rfl rfl (any_of HT_.out (by kernel_rfl)) (fun _ _ _ h => h) (Or.inl ⟨by rfl, ?_⟩) ?_ ?_
        rotate_left
        · intro w'
          go_simp
          with_reducible rfl
        rotate_left
        · simp only [Act.put, List.setIfInBounds_toArray, List.set_cons_zero, List.set_cons_succ, i64_w, i32_w]
          rfl
        refine pure_ (i := 1) (N := some 6) (v := ?_) (a' := ?_) #[true, true, false, false, false, false, false, false, false, false] rfl rfl (any_of HT_.out (by kernel_rfl)) (fun _ _ _ h => h) (Or.inl ⟨by rfl, ?_⟩) ?_ ?_
        rotate_left
        · intro w'
          go_simp
          with_reducible rfl
        rotate_left
        · simp only [Act.put, List.setIfInBounds_toArray, List.set_cons_zero, List.set_cons_succ, i64_w, i32_w]
          rfl
        refine pure_ (i := 2) (N := some 7) (v := ?_) (a' := ?_) #[true, true, true, false, false, false, false, false, false, false] rfl rfl (any_of HT_.out (by kernel_rfl)) (fun _ _ _ h => h) (Or.inl ⟨by rfl, ?_⟩) ?_ ?_
        rotate_left
        · intro w'
          go_simp
          with_reducible rfl
        rotate_left
        · simp only [Act.put, List.setIfInBounds_toArray, List.set_cons_zero, List.set_cons_succ, i64_w, i32_w]
          rfl
        refine take_ (i := 3) (N := some 8) (v := ?_) (a' := ?_) #[true, true, true, true, false, false, false, false, false, false] rfl rfl (take_ofW HT_.out HW_.out (by kernel_rfl)) (fun _ _ _ h => h) (Or.inl ⟨by rfl, ?_⟩) hHeld ?_ ?_
        rotate_left
        · intro w' hS'
          have s1 := hS'.1
          go_simp
          rfl
        rotate_left
        · simp only [Act.put, List.setIfInBounds_toArray, List.set_cons_zero, List.set_cons_succ, i64_w, i32_w]
          rfl
        refine pure_ (i := 4) (N := some 9) (v := ?_) (a' := ?_) #[true, true, true, true, true, false, false, false, false, false] rfl rfl (any_of HT_.out (by kernel_rfl)) (fun _ _ _ h => h) (Or.inl ⟨by rfl, ?_⟩) ?_ ?_
        rotate_left
        · intro w'
          go_simp
          with_reducible rfl
        rotate_left
        · simp only [Act.put, List.setIfInBounds_toArray, List.set_cons_zero, List.set_cons_succ, i64_w, i32_w]
          rfl
        refine pure_ (i := 5) (N := some 10) (v := ?_) (a' := ?_) #[true, true, true, true, true, true, false, false, false, false] rfl rfl (any_of HT_.out (by kernel_rfl)) (fun _ _ _ h => h) (Or.inl ⟨by rfl, ?_⟩) ?_ ?_
        rotate_left
        · intro w'
          go_simp
          with_reducible rfl
        rotate_left
        · simp only [Act.put, List.setIfInBounds_toArray, List.set_cons_zero, List.set_cons_succ, i64_w, i32_w]
          rfl
        refine pure_ (i := 6) (N := some 11) (v := ?_) (a' := ?_) #[true, true, true, true, true, true, true, false, false, false] rfl rfl (any_of HT_.out (by kernel_rfl)) (fun _ _ _ h => h) (Or.inl ⟨by rfl, ?_⟩) ?_ ?_
        rotate_left
        · intro w'
          go_simp
          with_reducible rfl
        rotate_left
        · simp only [Act.put, List.setIfInBounds_toArray, List.set_cons_zero, List.set_cons_succ, i64_w, i32_w]
          rfl
        refine pure_ (i := 7) (N := some 12) (v := ?_) (a' := ?_) #[true, true, true, true, true, true, true, true, false, false] rfl rfl (any_of HT_.out (by kernel_rfl)) (fun _ _ _ h => h) (Or.inl ⟨by rfl, ?_⟩) ?_ ?_
        rotate_left
        · intro w'
          go_simp
          with_reducible rfl
        rotate_left
        · simp only [Act.put, List.setIfInBounds_toArray, List.set_cons_zero, List.set_cons_succ, i64_w, i32_w]
          rfl
        refine take_ (i := 8) (N := some 13) (v := ?_) (a' := ?_) #[true, true, true, true, true, true, true, true, true, false] rfl rfl (take_ofW HT_.out HW_.out (by kernel_rfl)) (fun _ _ _ h => h) (Or.inl ⟨by rfl, ?_⟩) hHeld ?_ ?_
        rotate_left
        · intro w' hS'
          have s1 := hS'.2
          go_simp
          rfl
        rotate_left
        · simp only [Act.put, List.setIfInBounds_toArray, List.set_cons_zero, List.set_cons_succ, i64_w, i32_w]
          rfl
        refine pure_ (i := 9) (N := some 14) (v := ?_) (a' := ?_) #[true, true, true, true, true, true, true, true, true, true] rfl rfl (any_of HT_.out (by kernel_rfl)) (fun _ _ _ h => h) (Or.inl ⟨by rfl, ?_⟩) ?_ ?_
        rotate_left
        · intro w'
          go_simp
          with_reducible rfl
        rotate_left
        · simp only [Act.put, List.setIfInBounds_toArray, List.set_cons_zero, List.set_cons_succ, i64_w, i32_w]
          rfl
        refine done_ (done_of HT_.out (by kernel_rfl)) ?_
        clear hHeld
        have k2 := KC.1
        clear KC
        go_wp2_with (first
          | (go_at_call 93
             refine HI.out.mono ?_
             rintro e w2 ⟨rfl, hb⟩
             have B2 := Hide.mk hb
             have P2 := Hide.mk (HD.out.later hb)
             have k2b := pw_cell_below hb k2
             have kx := HX.out w2 hb
             have HFL0 := HFLU.out w2 P2.out
             rw [HFE.out] at HFL0
             have HFL := Hide.mk HFL0
             clear hb HFL0)
          | (go_at_call 87
             with_reducible refine HFL.out.mono ?_
             rintro e w3 ⟨rfl, hk3, F3, hp3⟩
             have P3 := Hide.mk hp3
             have K3 := Hide.mk hk3
             clear hk3
             clear hp3))
        go_ret
        rw [HR1.out]
        exact ⟨rfl, F3, _, bs, P3.out, Nat.le_refl _, (fun x hx => hx), (HKD.out.trans (K8.of_below B2.out)).trans K3.out⟩
end
end Go.Proofs.YtplkndmkchpcdaaGreat.Pool
end
section
namespace Go.Proofs.YtplkndmkchpcdaaGreat.Pool
open Go.RowKit YtplkndmkchpcdaaGreatW.PrintWords YtplkndmkchpcdaaGreatW.PrintLast YtplkndmkchpcdaaGreatW.PrintMore MapFn Disk Page Num Bitset Sh
set_option maxHeartbeats 8000000
set_option maxRecDepth 100000
section
variable {w wr w1 w' : World} {b ps pd : Nat} {F : Foot} {v : Value} {bs : List Nat} {p : Pl}
theorem PIn.count (h : PIn w wr b ps pd F v bs p) {i : Nat} {x : Int} {p' : Pl} (hr : (wr.setCell ⟨b, i, none⟩ (.int .i64 x)).heap[b]? = some (.cells #[.pointer (some ⟨ps, 0, none⟩), .int .i64 p'.most, v, .int .i64 p'.hits, .int .i64 p'.misses] 83 (0, 0))) (hf : p'.frames = p.frames) (hS : p'.S = p.S) :
    PIn w (wr.setCell ⟨b, i, none⟩ (.int .i64 x)) b ps pd F v bs p' := by
  have hm := Moves.of_grown (set_cell_grown (wr := wr) (p := b) (i := i) (.int .i64 x))
  have hours : ∀ y ∈ [b], Ours b v bs wr.heap.size y := fun y hy => .inl (by simpa using hy)
  refine h.turn hm hours hr (RP_moves h.arr hm fun g hg hgs => ?_) h.nodup (by rw [hf]; exact h.frs.imp fun y hy f hfy => h.fr_keep hm hours hfy (fun e => (h.fr_ne hfy).1 (by simpa using e))) hS (fun g hg => .inl hg) (fun x hx => .inl hx)
  simp only [List.mem_singleton] at hgs
  subst hgs
  exact h.b_off.2 hg
theorem PIn.hit (h : PIn w wr b ps pd F v bs p) : PIn w (wr.setCell ⟨b, 3, none⟩ (.int .i64 (wrap64 (p.hits + 1)))) b ps pd F v bs { p with hits := wrap64 (p.hits + 1) } :=
  h.count (by have := set_row (i := 3) h.row (.int .i64 (wrap64 (p.hits + 1))); simpa using this) rfl rfl
theorem PIn.miss (h : PIn w wr b ps pd F v bs p) : PIn w (wr.setCell ⟨b, 4, none⟩ (.int .i64 (wrap64 (p.misses + 1)))) b ps pd F v bs { p with misses := wrap64 (p.misses + 1) } :=
  h.count (by have := set_row (i := 4) h.row (.int .i64 (wrap64 (p.misses + 1))); simpa using this) rfl rfl
theorem erase_not {l : List Nat} (h : l.Nodup) {k : Nat} (hk : k < l.length) : ¬ l[k] ∈ l.eraseIdx k := by
  intro hm
  obtain ⟨j, hj, e⟩ := List.mem_iff_getElem.1 hm
  rw [List.getElem_eraseIdx] at e
  split at e
  · rename_i q
    exact List.pairwise_iff_getElem.1 h j k (by omega) hk q e
  · rename_i q
    have hj2 : j + 1 < l.length := by rw [List.length_eraseIdx, if_pos hk] at hj; omega
    exact List.pairwise_iff_getElem.1 h k (j + 1) hk hj2 (by omega) e.symm
theorem read_bytes {s : Sh} (h : ∀ n, Bytes (s.D.get n)) (id : Int) : Bytes (s.read id).2.2.1 := by
  have e : Bytes ([] : List Int) := fun x hx => by cases hx
  unfold Sh.read
  split
  · exact e
  · split
    · exact e
    · simp only
      split
      · exact e
      · exact open_body_bytes (h _)
theorem open_len (l : List Int) : (openL l).2.2.1.length ≤ 1000 := by
  unfold openL
  repeat' split
  all_goals first | exact Nat.zero_le _ | skip
  rename_i h1 _ _ _ _
  simp only
  rw [List.length_take, List.length_drop]
  simp at h1
  omega
theorem read_len (s : Sh) (id : Int) : (s.read id).2.2.1.length ≤ 1000 := by
  unfold Sh.read
  split
  · exact Nat.zero_le _
  · split
    · exact Nat.zero_le _
    · simp only
      split
      · exact Nat.zero_le _
      · exact open_len _
theorem fetch_any (h : PIn w wr b ps pd F v bs p) (id : Int) (hk : Ok p.S) (hl : bs.length ≤ 900) (hk2 : Ok ({ p with misses := wrap64 (p.misses + 1) } : Pl).room.1.S) (hB : ∀ n, Bytes (({ p with misses := wrap64 (p.misses + 1) } : Pl).room.1.S.D.get n)) :
    Calls Tryz.prog 55 #[.pointer (some ⟨b, 0, none⟩), .int .i64 id] wr fun e w' => ∃ F' v' bs' x, e = .returned (.tuple #[ptrOf (p.fetch id).2 x, .int .i64 (p.fetch id).2]) ∧ PIn w w' b ps pd F' v' bs' (p.fetch id).1 ∧ bs'.length ≤ bs.length + 1 ∧ ((p.fetch id).2 = 0 → ∃ bs0, bs' = bs0 ++ [x]) ∧ K8 w wr w' := by
  have H := Hide.mk h
  have HPL := place_any h id (by omega)
  have HLL := Hide.mk hl
  have HOK := Hide.mk hk
  obtain ⟨R, hR⟩ : ∃ R, p.fetch id = R := ⟨_, rfl⟩
  rw [hR]
  unfold Pl.fetch at hR
  have hlen := h.frs.len
  rcases idxF_at (fun f => decide (f.id = id)) p.frames 0 with e | ⟨k, hkl, e, hq⟩
  · rw [show idxF (fun f => decide (f.id = id)) p.frames 0 = p.place id from rfl] at e
    rw [e] at HPL hR
    rw [if_neg (by decide)] at hR
    replace HPL := Hide.mk HPL
    obtain ⟨p1, e1, hro⟩ : ∃ p1 e1, ({ p with misses := wrap64 (p.misses + 1) } : Pl).room = (p1, e1) := ⟨_, _, rfl⟩
    rw [hro] at hR hk2 hB
    simp only at hR hk2 hB
    have HRO := Hide.mk hro
    have HOK2 := Hide.mk hk2
    have HBY := Hide.mk hB
    by_cases h1 : e1 = 0
    · subst h1
      rw [if_neg (by simp)] at hR
      obtain ⟨S1, rk, rb, re, hrd⟩ : ∃ S1 rk rb re, p1.S.read id = (S1, rk, rb, re) := ⟨_, _, _, _, rfl⟩
      have HRB := Hide.mk (read_bytes hB id)
      have HRL := Hide.mk (read_len p1.S id)
      rw [hrd] at hR HRB HRL
      simp only at hR HRB HRL
      have HRDE := Hide.mk hrd
      by_cases h2 : re = 0
      · subst h2
        rw [if_neg (by simp)] at hR
        have HRR := Hide.mk hR.symm
        clear h hl hk hR hk2 hB hro hrd e hlen
        go_enter Tryz.func55, Tryz.ntmps55
        go_wp2_with (first
          | (go_at_call 57
             refine HPL.out.mono ?_
             rintro e w1 ⟨rfl, hb⟩
             have P1 := Hide.mk (H.out.later hb)
             have HKB := Hide.mk (K8.of_below (w := w) hb)
             have k3 : w1.cell? ⟨b, 4, none⟩ = some (.int .i64 p.misses) := cell_of P1.out.row
             have f3 := free_of (i := 4) P1.out.row
             have P2 := Hide.mk (P1.out.miss)
             have K2 := Hide.mk (P1.out.k8_ours (Moves.of_grown (set_cell_grown (i := 4) (.int .i64 (wrap64 (p.misses + 1))))) (fun y hy => .inl (by simpa using hy)))
             have HRM0 := room_any P2.out HOK.out (by have := HLL.out; omega)
             rw [HRO.out] at HRM0
             have HRM := Hide.mk HRM0
             clear hb HRM0)
          | (go_at_call 52
             with_reducible refine HRM.out.mono ?_
             rintro e w3 ⟨rfl, F3, v3, bs3, hp3, hl3, hs3, hk3⟩
             have P3 := Hide.mk hp3
             have K3 := Hide.mk hk3
             have HL3 := Hide.mk hl3
             have k0 : w3.cell? ⟨b, 0, none⟩ = some (.pointer (some ⟨ps, 0, none⟩)) := cell_of hp3.row
             have HRE0 := shread_any id w3 F3 p1.S hp3.sh HOK2.out HBY.out
             rw [HRDE.out, hp3.ep] at HRE0
             have HRE := Hide.mk HRE0
             clear HRE0
             clear hp3 hl3 hs3 hk3)
          | (go_at_call 61
             with_reducible refine HRE.out.mono ?_
             rintro e w4 ⟨v4, rfl, ho, F4, hs, hg⟩
             obtain ⟨A4, c4, hv4, hi4, _⟩ := In.of_own ho
             obtain ⟨n4, hn4⟩ : ∃ n, rb.length = n := ⟨_, rfl⟩
             rw [hn4] at hv4
             subst hv4
             have P4 := Hide.mk (P3.out.shadow hs hg)
             have O4 := Hide.mk ho
             have HG4 := Hide.mk hg.moves.size
             have K4 := Hide.mk (P3.out.k8_goes hg)
             clear ho hs hg hi4 hn4)
          | (go_at_call 53
             obtain ⟨W, hW⟩ : ∃ W, w4.alloc (.cells #[.int .i64 id, .int .i64 rk, .slice A4 n4 c4, .int .i64 0, .bool false] 88) = W := ⟨_, rfl⟩
             rw [hW]
             have hal := (Below.refl w4.heap.size w4).alloc (Nat.le_refl _) (.cells #[.int .i64 id, .int .i64 rk, .slice A4 n4 c4, .int .i64 0, .bool false] 88)
             have rowf := heap_last w4 (.cells #[.int .i64 id, .int .i64 rk, .slice A4 n4 c4, .int .i64 0, .bool false] 88)
             rw [hW] at hal rowf
             have hfx : FrAt W w.heap.size w4.heap.size ⟨id, rk, rb, 0, false⟩ := ⟨⟨_, rowf, Kd.R_below (Kd.R_lower O4.out (Nat.le_trans P3.out.below.size (Nat.le_refl _))) hal⟩, P4.out.below.size, HRB.out, HRL.out⟩
             have hnx : ¬ w4.heap.size ∈ bs3 := fun hx => by obtain ⟨f, hf⟩ := P4.out.frs.mem hx; have := hf.lt; omega
             refine (hold_any (P4.out.later hal) hfx hnx (fun A hA a ha e => by have := P4.out.sh.slice_lt A hA a ha; omega) (by have := HL3.out; have := HLL.out; omega)).mono ?_
             rintro e w5 ⟨rfl, hk5, v5, hp5⟩
             have P5 := Hide.mk hp5
             have K5 := Hide.mk ((K8.of_below (w := w) hal).trans hk5)
             clear hk5 hW hal rowf hfx hnx hp5))
        go_ret2
        rw [HRR.out]
        exact ⟨F4, v5, _, w4.heap.size, rfl, P5.out, by rw [List.length_append]; have := HL3.out; simp; omega, (fun _ => ⟨bs3, rfl⟩), ((HKB.out.trans K2.out).trans K3.out).trans (K4.out.trans K5.out)⟩
      · rw [if_pos h2] at hR
        have q : (re != 0) = true := by simp [h2]
        have HRR := Hide.mk hR.symm
        have HE := Hide.mk h2
        clear h hl hk hR hk2 hB hro hrd e hlen h2
        go_enter Tryz.func55, Tryz.ntmps55
        go_wp2_with (first
          | (go_at_call 57
             refine HPL.out.mono ?_
             rintro e w1 ⟨rfl, hb⟩
             have P1 := Hide.mk (H.out.later hb)
             have HKB := Hide.mk (K8.of_below (w := w) hb)
             have k3 : w1.cell? ⟨b, 4, none⟩ = some (.int .i64 p.misses) := cell_of P1.out.row
             have f3 := free_of (i := 4) P1.out.row
             have P2 := Hide.mk (P1.out.miss)
             have K2 := Hide.mk (P1.out.k8_ours (Moves.of_grown (set_cell_grown (i := 4) (.int .i64 (wrap64 (p.misses + 1))))) (fun y hy => .inl (by simpa using hy)))
             have HRM0 := room_any P2.out HOK.out (by have := HLL.out; omega)
             rw [HRO.out] at HRM0
             have HRM := Hide.mk HRM0
             clear hb HRM0)
          | (go_at_call 52
             with_reducible refine HRM.out.mono ?_
             rintro e w3 ⟨rfl, F3, v3, bs3, hp3, hl3, hs3, hk3⟩
             have P3 := Hide.mk hp3
             have K3 := Hide.mk hk3
             have HL3 := Hide.mk hl3
             have k0 : w3.cell? ⟨b, 0, none⟩ = some (.pointer (some ⟨ps, 0, none⟩)) := cell_of hp3.row
             have HRE0 := shread_any id w3 F3 p1.S hp3.sh HOK2.out HBY.out
             rw [HRDE.out, hp3.ep] at HRE0
             have HRE := Hide.mk HRE0
             clear HRE0
             clear hp3 hl3 hs3 hk3)
          | (go_at_call 61
             with_reducible refine HRE.out.mono ?_
             rintro e w4 ⟨v4, rfl, ho, F4, hs, hg⟩
             obtain ⟨A4, c4, hv4, hi4, _⟩ := In.of_own ho
             obtain ⟨n4, hn4⟩ : ∃ n, rb.length = n := ⟨_, rfl⟩
             rw [hn4] at hv4
             subst hv4
             have P4 := Hide.mk (P3.out.shadow hs hg)
             have O4 := Hide.mk ho
             have HG4 := Hide.mk hg.moves.size
             have K4 := Hide.mk (P3.out.k8_goes hg)
             clear ho hs hg hi4 hn4))
        go_ret2
        rw [HRR.out]
        exact ⟨F4, _, bs3, 0, by rw [ptrOf_bad HE.out]; rfl, P4.out, by have := HL3.out; omega, (fun e => absurd e HE.out), ((HKB.out.trans K2.out).trans K3.out).trans K4.out⟩
    · rw [if_pos h1] at hR
      have q : (e1 != 0) = true := by simp [h1]
      have HRR := Hide.mk hR.symm
      have HE := Hide.mk h1
      clear h hl hk hR hk2 hB hro e hlen h1
      go_enter Tryz.func55, Tryz.ntmps55
      go_wp2_with (first
        | (go_at_call 57
           refine HPL.out.mono ?_
           rintro e w1 ⟨rfl, hb⟩
           have P1 := Hide.mk (H.out.later hb)
           have HKB := Hide.mk (K8.of_below (w := w) hb)
           have k3 : w1.cell? ⟨b, 4, none⟩ = some (.int .i64 p.misses) := cell_of P1.out.row
           have f3 := free_of (i := 4) P1.out.row
           have P2 := Hide.mk (P1.out.miss)
           have K2 := Hide.mk (P1.out.k8_ours (Moves.of_grown (set_cell_grown (i := 4) (.int .i64 (wrap64 (p.misses + 1))))) (fun y hy => .inl (by simpa using hy)))
           have HRM0 := room_any P2.out HOK.out (by have := HLL.out; omega)
           rw [HRO.out] at HRM0
           have HRM := Hide.mk HRM0
           clear hb HRM0)
        | (go_at_call 52
           with_reducible refine HRM.out.mono ?_
           rintro e w3 ⟨rfl, F3, v3, bs3, hp3, hl3, hs3, hk3⟩
           have P3 := Hide.mk hp3
           have K3 := Hide.mk hk3
           have HL3 := Hide.mk hl3
           clear hp3 hl3 hs3 hk3))
      go_ret2
      rw [HRR.out]
      exact ⟨F3, _, bs3, 0, by rw [ptrOf_bad HE.out]; rfl, P3.out, by have := HL3.out; omega, (fun e => absurd e HE.out), (HKB.out.trans K2.out).trans K3.out⟩
  · rw [show idxF (fun f => decide (f.id = id)) p.frames 0 = p.place id from rfl, Nat.zero_add] at e
    rw [e] at HPL hR
    rw [if_pos (by omega), Int.toNat_natCast] at hR
    replace HPL := Hide.mk HPL
    have hkb : k < bs.length := by omega
    obtain ⟨g, c0, hvg, _, _, _⟩ := Kd.R_form h.arr (by rw [List.length_map]; omega)
    rw [List.length_map] at hvg
    obtain ⟨c, hc⟩ : ∃ d, c0 = d := ⟨_, rfl⟩
    rw [hc] at hvg
    subst hvg
    have HKL := Hide.mk hkb
    have HKE : Hide (((k + 1 : Nat) : Int) = (k : Int) + 1) := ⟨by omega⟩
    have hki : (k : Int) < (bs.length : Int) := by omega
    have hk0 : ¬ (k : Int) < 0 := by omega
    have hk1 : (k : Int) ≤ 1000 := by omega
    have HRR := Hide.mk hR.symm
    obtain ⟨x, hx⟩ : ∃ x, bs[k] = x := ⟨_, rfl⟩
    have HXB := Hide.mk hx
    have HX : Hide (∀ w2, PIn w w2 b ps pd F (.slice (some ⟨g, 0, none⟩) bs.length c) bs { p with hits := wrap64 (p.hits + 1) } → w2.cell? ⟨g, k, none⟩ = some (.pointer (some ⟨x, 0, none⟩))) := ⟨fun w2 hp => by
      obtain ⟨hn, _, hC⟩ := Kd.R_reads' hp.arr
      rw [List.length_map] at hC
      obtain ⟨ad, had, hcx⟩ := at_ptr hC (k : Int) (by omega) hki
      cases had
      have hrd : rdOf none (bs.map some) (k : Int) = some bs[k] := by simp [rdOf, List.getD_eq_getElem?_getD, hkb]
      rw [hrd, Int.toNat_natCast, Go.WideShapes.add_plain, Nat.zero_add, hx] at hcx
      exact hcx⟩
    clear h hl hk hR hk2 hB e hlen hkl hq hx hc
    go_enter Tryz.func55, Tryz.ntmps55
    go_wp2_with (first
      | (go_at_call 57
         refine HPL.out.mono ?_
         rintro e w1 ⟨rfl, hb⟩
         have P1 := Hide.mk (H.out.later hb)
         have HKB := Hide.mk (K8.of_below (w := w) hb)
         have k3 : w1.cell? ⟨b, 3, none⟩ = some (.int .i64 p.hits) := cell_of P1.out.row
         have f3 := free_of (i := 3) P1.out.row
         have P2 := Hide.mk (P1.out.hit)
         have K2 := Hide.mk (P1.out.k8_ours (Moves.of_grown (set_cell_grown (i := 3) (.int .i64 (wrap64 (p.hits + 1))))) (fun y hy => .inl (by simpa using hy)))
         have k2 : (w1.setCell ⟨b, 3, none⟩ (.int .i64 (wrap64 (p.hits + 1)))).cell? ⟨b, 2, none⟩ = some (.slice (some ⟨g, 0, none⟩) bs.length c) := cell_of P2.out.row
         have kx := HX.out _ P2.out
         have HDL0 := delete_any k P2.out.arr HKL.out
         rw [HKE.out] at HDL0
         have HDL := Hide.mk HDL0
         clear hb HDL0)
      | (go_at_call 58
         with_reducible refine HDL.out.mono ?_
         rintro e w4 ⟨rfl, ho4, hg4⟩
         have hz4 := P2.out.frs.erase k
         have nd4 := P2.out.nodup.sublist (List.eraseIdx_sublist bs k)
         obtain ⟨d2, f2, hp4, hk4⟩ := P2.out.restored (v1 := .slice (some ⟨g, 0, none⟩) (bs.length - 1) c) hg4 ho4 (.inl rfl) nd4 hz4 (fun x hx => .inl (List.mem_of_mem_eraseIdx hx))
         have hfx := P2.out.fr HKL.out
         have hxm : Moves (b :: [g]) (w1.setCell ⟨b, 3, none⟩ (.int .i64 (wrap64 (p.hits + 1)))) (w4.setCell ⟨b, 2, none⟩ (.slice (some ⟨g, 0, none⟩) (bs.length - 1) c)) := ((Moves.of_grown hg4).more (by simp)).trans ((Moves.of_grown (set_cell_grown _)).more (by simp))
         have hours : ∀ y ∈ b :: [g], Ours b (.slice (some ⟨g, 0, none⟩) bs.length c) bs (w1.setCell ⟨b, 3, none⟩ (.int .i64 (wrap64 (p.hits + 1)))).heap.size y := fun y hy => by simp only [List.mem_cons, List.not_mem_nil, or_false] at hy; rcases hy with e | e; exact .inl e; exact .inr (.inl (by rw [e]; rfl))
         obtain ⟨n1, n2⟩ := P2.out.fr_ne hfx
         have hfx4 := P2.out.fr_keep hxm hours hfx (fun hy => by simp only [List.mem_cons, List.not_mem_nil, or_false] at hy; rcases hy with e | e; exact n1 e; exact n2 (by rw [e]; rfl))
         have HHO := Hide.mk (hold_any hp4 hfx4 (erase_not P2.out.nodup HKL.out) (fun A hA a ha e => (P2.out.off A hA a ha).2.1 (by rw [e]; exact List.getElem_mem _)) (by rw [List.length_eraseIdx]; have := HLL.out; split <;> omega))
         have P4 := Hide.mk hp4
         have K4 := Hide.mk hk4
         rw [← HXB.out]
         clear hk4 ho4 hg4 hz4 nd4 hp4 hfx hxm hours n1 n2 hfx4)
      | (go_at_call 53
         refine HHO.out.mono ?_
         rintro e w5 ⟨rfl, hk5, v5, hp5⟩
         have P5 := Hide.mk hp5
         have K5 := Hide.mk hk5
         clear hp5 hk5))
    go_ret2
    rw [HRR.out]
    exact ⟨F, v5, _, x, by rw [← HXB.out]; rfl, P5.out, by rw [List.length_append, List.length_eraseIdx]; simp; split <;> omega, (fun _ => ⟨_, by rw [HXB.out]⟩), ((HKB.out.trans K2.out).trans K4.out).trans K5.out⟩
end
end Go.Proofs.YtplkndmkchpcdaaGreat.Pool
end
section
namespace Go.Proofs.YtplkndmkchpcdaaGreat.Pool
open Go.RowKit YtplkndmkchpcdaaGreatW.PrintWords YtplkndmkchpcdaaGreatW.PrintLast YtplkndmkchpcdaaGreatW.PrintMore MapFn Disk Page Num Bitset Sh
set_option maxHeartbeats 8000000
set_option maxRecDepth 100000
def T15_4 : Bool × List (List Nat × List Nat) := (true, [([], []), ([0], [0]), ([1], [1]), ([2], [2]), ([], []), ([4], [4]), ([5], [5]), ([6], [6]), ([7], [7]), ([3, 8, 0, 1, 2, 3], [3]), ([8, 9, 0, 1, 2, 3, 4, 5, 6, 7, 8, 9], [8]), ([10, 0, 1, 2, 3, 4, 5, 6, 7, 8, 9, 10], [])])
def B15_4 : List Nat := [0, 1, 3, 7, 0, 16, 48, 112, 240, 511, 1023, 2047]
theorem tab15_4 : rtab .any (opsOf Tryz.f15 4) = T15_4 := by kernel_rfl
theorem bits15_4 : waitsOk T15_4.2 B15_4 = true := by kernel_rfl
structure Good (p : Pl) : Prop where
  ok : Ok p.S
  ok2 : Ok ({ p with misses := wrap64 (p.misses + 1) } : Pl).room.1.S
  bytes : ∀ n, Bytes (({ p with misses := wrap64 (p.misses + 1) } : Pl).room.1.S.D.get n)
  few : p.frames.length ≤ 900
section
variable {w wr w1 w' : World} {b ps pd : Nat} {F : Foot} {v : Value} {bs bs0 : List Nat} {p : Pl} {x : Nat}
theorem PIn.last (h : PIn w wr b ps pd F v (bs0 ++ [x]) p) : FrAt wr w.heap.size x p.last ∧ p.frames.length = bs0.length + 1 := by
  have hl := h.frs.len
  rw [List.length_append, List.length_singleton] at hl
  have := h.fr (k := bs0.length) (by simp)
  rw [List.getElem_append_right (Nat.le_refl _)] at this
  simp only [Nat.sub_self, List.getElem_cons_zero] at this
  refine ⟨?_, hl.symm⟩
  unfold Pl.last
  rw [← hl]
  exact this
theorem PIn.set_last (h : PIn w wr b ps pd F v (bs0 ++ [x]) p) {f' : Fr} (hm : Moves [x] wr w') (hf : FrAt w' w.heap.size x f') : PIn w w' b ps pd F v (bs0 ++ [x]) (p.setLast f') := by
  have hl := h.last.2
  have hx : (bs0 ++ [x])[bs0.length]'(by simp) = x := by rw [List.getElem_append_right (Nat.le_refl _)]; simp
  have := h.set_frame (k := bs0.length) (by simp) (f' := f') (by rw [hx]; exact hm) (by rw [hx]; exact hf)
  unfold Pl.setLast
  rw [hl, Nat.add_sub_cancel]
  exact this
theorem fetch_on (h : PAt w wr b ps pd p) (hg : Good p) (id : Int) : Calls Tryz.prog 55 #[.pointer (some ⟨b, 0, none⟩), .int .i64 id] wr fun e w' => ∃ F' v' bs' x, e = .returned (.tuple #[ptrOf (p.fetch id).2 x, .int .i64 (p.fetch id).2]) ∧ PIn w w' b ps pd F' v' bs' (p.fetch id).1 ∧ ((p.fetch id).2 = 0 → ∃ bs0, bs' = bs0 ++ [x]) ∧ K8 w wr w' := by
  obtain ⟨F, v, bs, hp⟩ := h
  refine (fetch_any hp id hg.ok (by have := hp.frs.len; have := hg.few; omega) hg.ok2 hg.bytes).mono ?_
  rintro e w2 ⟨F2, v2, bs2, x, rfl, h2, _, h3, h4⟩
  exact ⟨F2, v2, bs2, x, rfl, h2, h3, h4⟩
theorem FrAt.set {f : Fr} (hf : FrAt wr w.heap.size x f) {i : Nat} {y : Value} {f' : Fr} (hr : ∀ v, (#[.int .i64 f.id, .int .i64 f.kind, v, .int .i64 f.pins, .bool f.dirty] : Array Value).setIfInBounds i y = #[.int .i64 f'.id, .int .i64 f'.kind, v, .int .i64 f'.pins, .bool f'.dirty]) (hb : f'.body = f.body) :
    FrAt (wr.setCell ⟨x, i, none⟩ y) w.heap.size x f' ∧ Moves [x] wr (wr.setCell ⟨x, i, none⟩ y) := by
  obtain ⟨v, hrow, hbody⟩ := hf.ex
  have hs := set_row (i := i) hrow y
  rw [hr v] at hs
  have hm := Moves.of_grown (set_cell_grown (wr := wr) (p := x) (i := i) y)
  refine ⟨⟨⟨v, hs, ?_⟩, hf.ge, by rw [hb]; exact hf.bytes, by rw [hb]; exact hf.short⟩, hm⟩
  rw [hb]
  refine R_moves hbody hm fun g hg hgs => ?_
  simp only [List.mem_singleton] at hgs
  subst hgs
  obtain ⟨cells, hc⟩ := typed hbody g hg
  exact ne_of_types hc hrow (by decide) rfl
theorem get_on (h : PAt w wr b ps pd p) (hg : Good p) (id : Int) : Calls Tryz.prog 15 #[.pointer (some ⟨b, 0, none⟩), .int .i64 id] wr fun e w' => K8 w wr w' ∧ ∃ A c, e = .returned (.tuple #[.int .i64 (p.get id).2.1, .slice A (p.get id).2.2.1.length c, .int .i64 (p.get id).2.2.2]) ∧ In8 w w' A (p.get id).2.2.1 c ∧ PAt w w' b ps pd (p.get id).1 := by
  have HF0 := fetch_on h hg id
  obtain ⟨R, hR⟩ : ∃ R, p.get id = R := ⟨_, rfl⟩
  rw [hR]
  unfold Pl.get at hR
  obtain ⟨p2, e2, hfe⟩ : ∃ p2 e2, p.fetch id = (p2, e2) := ⟨_, _, rfl⟩
  rw [hfe] at HF0 hR
  simp only at HF0 hR
  have HSZ : Hide (w.heap.size ≤ wr.heap.size) := ⟨by obtain ⟨_, _, _, hp⟩ := h; exact hp.below.size⟩
  clear h hg hfe
  by_cases h0 : e2 = 0
  · subst h0
    rw [if_neg (by simp)] at hR
    simp only [ptrOf_ok] at HF0
    have HF := Hide.mk HF0
    have HRR := Hide.mk hR.symm
    clear HF0 hR
    go_enter Tryz.func15, Tryz.ntmps15
    go_wp2_with (first
      | (go_at_call 55
         with_reducible refine HF.out.mono ?_
         rintro e w2 ⟨F2, v2, bs2, x, rfl, hp, hlast, hk8⟩
         obtain ⟨bs0, hbs⟩ := hlast trivial
         rw [hbs] at hp
         have P2 := Hide.mk hp
         have K2 := Hide.mk hk8
         clear hp hlast hbs hk8))
    obtain ⟨f, hf⟩ : ∃ f, p2.last = f := ⟨_, rfl⟩
    have hfx := P2.out.last.1
    rw [hf] at hfx
    have HFE := Hide.mk hf
    have hdr := below_drew (Below.refl w2.heap.size w2)
    have hfd := hfx.below hdr
    obtain ⟨vb, hrow, hbody⟩ := hfd.ex
    obtain ⟨Ab, cb, hvb, hib, _⟩ := In.of_own hbody
    obtain ⟨nb, hnb⟩ : ∃ n, f.body.length = n := ⟨_, rfl⟩
    have hmxb := hib.reads.2.1
    have HCL0 := Given.clone_any Ab cb f.body w2.drew hib.reads hib.room (by have := hfd.short; omega)
    rw [hnb] at hvb HCL0
    subst hvb
    have HCL := Hide.mk HCL0
    have HNB := Hide.mk hnb
    have HDR := Hide.mk hdr
    have KC : w2.drew.cell? ⟨x, 1, none⟩ = some (.int .i64 f.kind) ∧ w2.drew.cell? ⟨x, 2, none⟩ = some (.slice Ab nb cb) := ⟨cell_of hrow, cell_of hrow⟩
    clear hf hfx hdr hfd hrow hbody hib hnb HCL0 hmxb
    refine start_ (n := 12) (S := fun w' => w'.cell? ⟨x, 1, none⟩ = some (.int .i64 f.kind) ∧ w'.cell? ⟨x, 2, none⟩ = some (.slice Ab nb cb)) (ds := []) #[false, false, false, false, false, false, false, false, false, false, false, false] (by kernel_rfl) rfl rfl KC (fun hHeld => ?_); refine with_tabW tab15_4 bits15_4 (fun HT_ HW_ => ?_)
    refine pure_ (i := 0) (N := some 18) (v := ?_) (a' := ?_) #[true, false, false, false, false, false, false, false, false, false, false, false] rfl rfl (any_of HT_.out (by kernel_rfl)) (fun _ _ _ h => h) (Or.inl ⟨by rfl, ?_⟩) ?_ ?_
    rotate_left
    · intro w'
      go_simp
      with_reducible rfl
    rotate_left
    · simp only [Act.put, List.setIfInBounds_toArray, List.set_cons_zero, List.set_cons_succ, i64_w, i32_w]
      rfl
    refine pure_ (i := 1) (N := some 19) (v := ?_) (a' := ?_) #[true, true, false, false, false, false, false, false, false, false, false, false] rfl rfl (any_of HT_.out (by kernel_rfl)) (fun _ _ _ h => h) (Or.inl ⟨by rfl, ?_⟩) ?_ ?_
    rotate_left
    · intro w'
      go_simp
      with_reducible rfl
    rotate_left
    · simp only [Act.put, List.setIfInBounds_toArray, List.set_cons_zero, List.set_cons_succ, i64_w, i32_w]
      rfl
    refine pure_ (i := 2) (N := some 20) (v := ?_) (a' := ?_) #[true, true, true, false, false, false, false, false, false, false, false, false] rfl rfl (any_of HT_.out (by kernel_rfl)) (fun _ _ _ h => h) (Or.inl ⟨by rfl, ?_⟩) ?_ ?_
    rotate_left
    · intro w'
      go_simp
      with_reducible rfl
    rotate_left
    · simp only [Act.put, List.setIfInBounds_toArray, List.set_cons_zero, List.set_cons_succ, i64_w, i32_w]
      rfl
    refine take_ (i := 3) (N := some 21) (v := ?_) (a' := ?_) #[true, true, true, true, false, false, false, false, false, false, false, false] rfl rfl (take_ofW HT_.out HW_.out (by kernel_rfl)) (fun _ _ _ h => h) (Or.inl ⟨by rfl, ?_⟩) hHeld ?_ ?_
    rotate_left
    · intro w' hS'
      have s1 := hS'.1
      go_simp
      rfl
    rotate_left
    · simp only [Act.put, List.setIfInBounds_toArray, List.set_cons_zero, List.set_cons_succ, i64_w, i32_w]
      rfl
    refine pure_ (i := 4) (N := some 22) (v := ?_) (a' := ?_) #[true, true, true, true, true, false, false, false, false, false, false, false] rfl rfl (any_of HT_.out (by kernel_rfl)) (fun _ _ _ h => h) (Or.inl ⟨by rfl, ?_⟩) ?_ ?_
    rotate_left
    · intro w'
      go_simp
      with_reducible rfl
    rotate_left
    · simp only [Act.put, List.setIfInBounds_toArray, List.set_cons_zero, List.set_cons_succ, i64_w, i32_w]
      rfl
    refine pure_ (i := 5) (N := some 23) (v := ?_) (a' := ?_) #[true, true, true, true, true, true, false, false, false, false, false, false] rfl rfl (any_of HT_.out (by kernel_rfl)) (fun _ _ _ h => h) (Or.inl ⟨by rfl, ?_⟩) ?_ ?_
    rotate_left
    · intro w'
      go_simp
      with_reducible rfl
    rotate_left
    · simp only [Act.put, List.setIfInBounds_toArray, List.set_cons_zero, List.set_cons_succ, i64_w, i32_w]
      rfl
    refine pure_ (i := 6) (N := some 24) (v := ?_) (a' := ?_) #[true, true, true, true, true, true, true, false, false, false, false, false] rfl rfl (any_of HT_.out (by kernel_rfl)) (fun _ _ _ h => h) (Or.inl ⟨by rfl, ?_⟩) ?_ ?_
    rotate_left
    · intro w'
      go_simp
      with_reducible rfl
    rotate_left
    · simp only [Act.put, List.setIfInBounds_toArray, List.set_cons_zero, List.set_cons_succ, i64_w, i32_w]
      rfl
    refine take_ (i := 7) (N := some 25) (v := ?_) (a' := ?_) #[true, true, true, true, true, true, true, true, false, false, false, false] rfl rfl (take_ofW HT_.out HW_.out (by kernel_rfl)) (fun _ _ _ h => h) (Or.inl ⟨by rfl, ?_⟩) hHeld ?_ ?_
    rotate_left
    · intro w' hS'
      have s1 := hS'.2
      go_simp
      rfl
    rotate_left
    · simp only [Act.put, List.setIfInBounds_toArray, List.set_cons_zero, List.set_cons_succ, i64_w, i32_w]
      rfl
    refine one_ (i := 8) (N := some 26) #[true, true, true, true, true, true, true, true, true, false, false, false] rfl rfl (one_of HT_.out (by kernel_rfl)) (by decide) (fun K hK => ?_)
    refine goes_ Tryz.func54 (by kernel_rfl) rfl #[.slice Ab nb cb] (by rfl) rfl rfl (by (try simp only [List.map_toArray, List.map_cons, List.map_nil]); first | done | rfl) ?_
    with_reducible refine HCL.out.mono ?_
    rintro e w4 ⟨v4, rfl, ho, hb⟩
    obtain ⟨A4, c4, hv4, hi4, hge4⟩ := In.of_own ho
    have I4 := Hide.mk hi4
    have O4 := Hide.mk ho
    have GE4 := Hide.mk hge4
    have B4 := Hide.mk hb
    have KC1 := And.intro (pw_cell_below hb KC.1) (pw_cell_below hb KC.2)
    rw [HNB.out] at hv4
    subst hv4
    refine ⟨_, rfl, ?_⟩
    clear ho hb hi4 hge4
    refine hK.out _ _ KC1 (fun hHeld => ?_)
    clear hK K
    refine norm_ (a' := ?_) ?_ ?_
    rotate_left
    · show Act.put _ (some 26) _ = _
      simp only [Act.put, List.setIfInBounds_toArray, List.set_cons_zero, List.set_cons_succ, i64_w, i32_w]
      rfl
    refine pure_ (i := 9) (N := some 4) (v := ?_) (a' := ?_) #[true, true, true, true, true, true, true, true, true, true, false, false] rfl rfl (any_of HT_.out (by kernel_rfl)) (fun _ _ _ h => h) (Or.inl ⟨by rfl, ?_⟩) ?_ ?_
    rotate_left
    · intro w'
      go_simp
      with_reducible rfl
    rotate_left
    · simp only [Act.put, List.setIfInBounds_toArray, List.set_cons_zero, List.set_cons_succ, i64_w, i32_w]
      rfl
    refine pure_ (i := 10) (N := some 5) (v := ?_) (a' := ?_) #[true, true, true, true, true, true, true, true, true, true, true, false] rfl rfl (any_of HT_.out (by kernel_rfl)) (fun _ _ _ h => h) (Or.inl ⟨by rfl, ?_⟩) ?_ ?_
    rotate_left
    · intro w'
      go_simp
      with_reducible rfl
    rotate_left
    · simp only [Act.put, List.setIfInBounds_toArray, List.set_cons_zero, List.set_cons_succ, i64_w, i32_w]
      rfl
    refine pure_ (i := 11) (N := some 6) (v := ?_) (a' := ?_) #[true, true, true, true, true, true, true, true, true, true, true, true] rfl rfl (any_of HT_.out (by kernel_rfl)) (fun _ _ _ h => h) (Or.inl ⟨by rfl, ?_⟩) ?_ ?_
    rotate_left
    · intro w'
      go_simp
      with_reducible rfl
    rotate_left
    · simp only [Act.put, List.setIfInBounds_toArray, List.set_cons_zero, List.set_cons_succ, i64_w, i32_w]
      rfl
    refine done_ (done_of HT_.out (by kernel_rfl)) ?_
    clear KC KC1 hHeld
    go_wp2
    go_ret3
    rw [HRR.out, HFE.out]
    refine ⟨(K2.out.trans (K8.of_below HDR.out)).trans (K8.of_below B4.out), A4, c4, by rw [HNB.out]; rfl, ⟨I4.out.wide, fun a ha _ => ?_⟩, F2, v2, _, (P2.out.later HDR.out).later B4.out⟩
    obtain ⟨cells, hc⟩ := typed O4.out a.block (by rw [ha]; rfl)
    exact .inr ⟨cells, _, hc⟩
  · rw [if_pos h0] at hR
    have q : (e2 != 0) = true := by simp [h0]
    simp only [ptrOf_bad h0] at HF0
    have HF := Hide.mk HF0
    have HRR := Hide.mk hR.symm
    clear HF0 hR h0
    go_enter Tryz.func15, Tryz.ntmps15
    go_wp2_with (first
      | (go_at_call 55
         with_reducible refine HF.out.mono ?_
         rintro e w2 ⟨F2, v2, bs2, x, rfl, hp, hlast, hk8⟩
         have P2 := Hide.mk hp
         have K2 := Hide.mk hk8
         clear hp hlast hk8))
    go_ret3
    rw [HRR.out]
    exact ⟨K2.out, none, 0, rfl, ⟨(In.nil _ _).wide, fun a ha _ => by cases ha⟩, F2, v2, bs2, P2.out⟩
theorem pin_on (h : PAt w wr b ps pd p) (hg : Good p) (id : Int) : Calls Tryz.prog 14 #[.pointer (some ⟨b, 0, none⟩), .int .i64 id] wr fun e w' => e = .returned (.int .i64 (p.pin id).2) ∧ PAt w w' b ps pd (p.pin id).1 := by
  have HF0 := fetch_on h hg id
  obtain ⟨R, hR⟩ : ∃ R, p.pin id = R := ⟨_, rfl⟩
  rw [hR]
  unfold Pl.pin at hR
  obtain ⟨p2, e2, hfe⟩ : ∃ p2 e2, p.fetch id = (p2, e2) := ⟨_, _, rfl⟩
  rw [hfe] at HF0 hR
  simp only at HF0 hR
  clear h hg hfe
  by_cases h0 : e2 = 0
  · subst h0
    rw [if_neg (by simp)] at hR
    simp only [ptrOf_ok] at HF0
    have HF := Hide.mk HF0
    have HRR := Hide.mk hR.symm
    clear HF0 hR
    go_enter Tryz.func14, Tryz.ntmps14
    go_wp2_with (first
      | (go_at_call 55
         with_reducible refine HF.out.mono ?_
         rintro e w2 ⟨F2, v2, bs2, x, rfl, hp, hlast, hk8⟩
         obtain ⟨bs0, hbs⟩ := hlast trivial
         rw [hbs] at hp
         have P2 := Hide.mk hp
         obtain ⟨vb, hrow, _⟩ := hp.last.1.ex
         have k3 : w2.cell? ⟨x, 3, none⟩ = some (.int .i64 p2.last.pins) := cell_of hrow
         have f3 := free_of (i := 3) hrow
         clear hp hlast hbs hrow))
    go_ret
    rw [HRR.out]
    have hs := P2.out.last.1.set (i := 3) (y := .int .i64 (wrap64 (p2.last.pins + 1))) (f' := { p2.last with pins := wrap64 (p2.last.pins + 1) }) (fun v => by simp) rfl
    exact ⟨rfl, F2, v2, _, P2.out.set_last hs.2 hs.1⟩
  · rw [if_pos h0] at hR
    have q : (e2 != 0) = true := by simp [h0]
    simp only [ptrOf_bad h0] at HF0
    have HF := Hide.mk HF0
    have HRR := Hide.mk hR.symm
    clear HF0 hR h0
    go_enter Tryz.func14, Tryz.ntmps14
    go_wp2_with (first
      | (go_at_call 55
         with_reducible refine HF.out.mono ?_
         rintro e w2 ⟨F2, v2, bs2, x, rfl, hp, hlast, hk8⟩
         have P2 := Hide.mk hp
         clear hp hlast))
    go_ret
    rw [HRR.out]
    exact ⟨rfl, F2, v2, bs2, P2.out⟩
end
end Go.Proofs.YtplkndmkchpcdaaGreat.Pool
end
section
namespace Go.Proofs.YtplkndmkchpcdaaGreat.Pool
open Go.RowKit YtplkndmkchpcdaaGreatW.PrintWords YtplkndmkchpcdaaGreatW.PrintLast YtplkndmkchpcdaaGreatW.PrintMore MapFn Disk Page Num Bitset Sh
set_option maxHeartbeats 8000000
set_option maxRecDepth 100000
section
variable {w wr w1 w' : World} {b ps pd : Nat} {p : Pl}
theorem palloc_on8 (h : PAt w wr b ps pd p) (hk : Ok p.S) (hk2 : Ok p.room.1.S) (hfew : p.frames.length ≤ 900) (kind : Int) {A : Option Addr} {c : Nat} {body : List Int} (hr : In8 w wr A body c) (hb : Bytes body) (hsh : body.length ≤ 1000) :
    Calls Tryz.prog 13 #[.pointer (some ⟨b, 0, none⟩), .int .i64 kind, .slice A body.length c] wr fun e w' => e = .returned (.tuple #[.int .i64 (p.alloc kind body).2.1, .int .i64 (p.alloc kind body).2.2]) ∧ PAt w w' b ps pd (p.alloc kind body).1 ∧ K8 w wr w' := by
  obtain ⟨F, v, bs, h⟩ := h
  have HFEW : Hide (bs.length ≤ 900) := ⟨by have := h.frs.len; omega⟩
  have HRM0 := room_any h hk (by have := HFEW.out; omega)
  have HI := Hide.mk hr
  have HBB := Hide.mk hb
  have HSH := Hide.mk hsh
  obtain ⟨R, hR⟩ : ∃ R, p.alloc kind body = R := ⟨_, rfl⟩
  rw [hR]
  unfold Pl.alloc at hR
  obtain ⟨p1, e1, hro⟩ : ∃ p1 e1, p.room = (p1, e1) := ⟨_, _, rfl⟩
  rw [hro] at HRM0 hR hk2
  simp only at HRM0 hR hk2
  have HRM := Hide.mk HRM0
  have HOK2 := Hide.mk hk2
  clear HRM0 hr hb hsh hk hk2 hfew h hro
  by_cases h1 : e1 = 0
  · subst h1
    rw [if_neg (by simp)] at hR
    obtain ⟨S1, ni, e2, ha⟩ : ∃ S1 ni e2, p1.S.alloc kind body = (S1, ni, e2) := ⟨_, _, _, rfl⟩
    rw [ha] at hR
    simp only at hR
    have HAE := Hide.mk ha
    by_cases h2 : e2 = 0
    · subst h2
      rw [if_neg (by simp)] at hR
      have HRR := Hide.mk hR.symm
      clear hR ha
      go_enter Tryz.func13, Tryz.ntmps13
      go_wp2_with (first
        | (go_at_call 52
           with_reducible refine HRM.out.mono ?_
           rintro e w3 ⟨rfl, F3, v3, bs3, hp3, hl3, _, hk3⟩
           have P3 := Hide.mk hp3
           have HL3 := Hide.mk hl3
           have K3 := Hide.mk hk3
           have k0 : w3.cell? ⟨b, 0, none⟩ = some (.pointer (some ⟨ps, 0, none⟩)) := cell_of hp3.row
           have HI3 := Hide.mk (HI.out.keep hk3)
           have HA0 := alloc_any kind A c body w3 F3 p1.S hp3.sh HOK2.out HI3.out.in_ HBB.out
           rw [HAE.out, hp3.ep] at HA0
           have HA := Hide.mk HA0
           clear HA0
           clear hp3 hl3 hk3)
        | (go_at_call 20
           with_reducible refine HA.out.mono ?_
           rintro e w4 ⟨rfl, F4, hs, hg⟩
           have P4 := Hide.mk (P3.out.shadow hs hg)
           have K4 := Hide.mk (K3.out.trans (P3.out.k8_goes hg))
           have HI4 := Hide.mk (HI3.out.keep (P3.out.k8_goes hg))
           have HCL := Hide.mk (Given.clone_any A c body w4 HI4.out.in_.reads HI4.out.in_.room (by have := HSH.out; omega))
           clear hs hg)
        | (go_at_call 54
           with_reducible refine HCL.out.mono ?_
           rintro e w5 ⟨v5, rfl, ho, hb⟩
           obtain ⟨A5, c5, hv5, _, _⟩ := In.of_own ho
           obtain ⟨n5, hn5⟩ : ∃ n, body.length = n := ⟨_, rfl⟩
           rw [hn5] at hv5
           subst hv5
           have P5 := Hide.mk (P4.out.later hb)
           have O5 := Hide.mk ho
           have HSZ4 := Hide.mk P4.out.below.size
           have K5 := Hide.mk (K4.out.trans (K8.of_below (w := w) hb))
           clear ho hb hn5)
        | (go_at_call 53
           obtain ⟨W, hW⟩ : ∃ W, w5.alloc (.cells #[.int .i64 ni, .int .i64 kind, .slice A5 n5 c5, .int .i64 0, .bool false] 88) = W := ⟨_, rfl⟩
           rw [hW]
           have hal := (Below.refl w5.heap.size w5).alloc (Nat.le_refl _) (.cells #[.int .i64 ni, .int .i64 kind, .slice A5 n5 c5, .int .i64 0, .bool false] 88)
           have rowf := heap_last w5 (.cells #[.int .i64 ni, .int .i64 kind, .slice A5 n5 c5, .int .i64 0, .bool false] 88)
           rw [hW] at hal rowf
           have hfx : FrAt W w.heap.size w5.heap.size ⟨ni, kind, body, 0, false⟩ := ⟨⟨_, rowf, Kd.R_below (Kd.R_lower O5.out HSZ4.out) hal⟩, P5.out.below.size, HBB.out, HSH.out⟩
           have hnx : ¬ w5.heap.size ∈ bs3 := fun hx => by obtain ⟨f, hf⟩ := P5.out.frs.mem hx; have := hf.lt; omega
           refine (hold_any (P5.out.later hal) hfx hnx (fun A hA a ha e => by have := P5.out.sh.slice_lt A hA a ha; omega) (by have := HL3.out; have := HFEW.out; omega)).mono ?_
           rintro e w6 ⟨rfl, hk6, v6, hp6⟩
           have P6 := Hide.mk hp6
           have K6 := Hide.mk (K5.out.trans ((K8.of_below (w := w) hal).trans hk6))
           clear hW hal rowf hfx hnx hp6 hk6))
      go_ret2
      rw [HRR.out]
      exact ⟨rfl, ⟨F4, v6, _, P6.out⟩, K6.out⟩
    · rw [if_pos h2] at hR
      have q : (e2 != 0) = true := by simp [h2]
      have HRR := Hide.mk hR.symm
      clear hR ha h2
      go_enter Tryz.func13, Tryz.ntmps13
      go_wp2_with (first
        | (go_at_call 52
           with_reducible refine HRM.out.mono ?_
           rintro e w3 ⟨rfl, F3, v3, bs3, hp3, hl3, _, hk3⟩
           have P3 := Hide.mk hp3
           have HL3 := Hide.mk hl3
           have K3 := Hide.mk hk3
           have k0 : w3.cell? ⟨b, 0, none⟩ = some (.pointer (some ⟨ps, 0, none⟩)) := cell_of hp3.row
           have HI3 := Hide.mk (HI.out.keep hk3)
           have HA0 := alloc_any kind A c body w3 F3 p1.S hp3.sh HOK2.out HI3.out.in_ HBB.out
           rw [HAE.out, hp3.ep] at HA0
           have HA := Hide.mk HA0
           clear HA0
           clear hp3 hl3 hk3)
        | (go_at_call 20
           with_reducible refine HA.out.mono ?_
           rintro e w4 ⟨rfl, F4, hs, hg⟩
           have P4 := Hide.mk (P3.out.shadow hs hg)
           have K4 := Hide.mk (K3.out.trans (P3.out.k8_goes hg))
           clear hs hg))
      go_ret2
      rw [HRR.out]
      exact ⟨rfl, ⟨F4, v3, bs3, P4.out⟩, K4.out⟩
  · rw [if_pos h1] at hR
    have q : (e1 != 0) = true := by simp [h1]
    have HRR := Hide.mk hR.symm
    clear hR h1
    go_enter Tryz.func13, Tryz.ntmps13
    go_wp2_with (first
      | (go_at_call 52
         with_reducible refine HRM.out.mono ?_
         rintro e w3 ⟨rfl, F3, v3, bs3, hp3, hl3, _, hk3⟩
         have P3 := Hide.mk hp3
         have HL3 := Hide.mk hl3
         have K3 := Hide.mk hk3
         clear hp3 hl3 hk3))
    go_ret2
    rw [HRR.out]
    exact ⟨rfl, ⟨F3, v3, bs3, P3.out⟩, K3.out⟩
theorem palloc_on (h : PAt w wr b ps pd p) (hk : Ok p.S) (hk2 : Ok p.room.1.S) (hfew : p.frames.length ≤ 900) (kind : Int) {A : Option Addr} {c : Nat} {body : List Int} (hr : In8 w wr A body c) (hb : Bytes body) (hsh : body.length ≤ 1000) :
    Calls Tryz.prog 13 #[.pointer (some ⟨b, 0, none⟩), .int .i64 kind, .slice A body.length c] wr fun e w' => e = .returned (.tuple #[.int .i64 (p.alloc kind body).2.1, .int .i64 (p.alloc kind body).2.2]) ∧ PAt w w' b ps pd (p.alloc kind body).1 := (palloc_on8 h hk hk2 hfew kind hr hb hsh).mono fun _ _ q => ⟨q.1, q.2.1⟩
end
end Go.Proofs.YtplkndmkchpcdaaGreat.Pool
end
section
namespace Go.Proofs.YtplkndmkchpcdaaGreat.Pool
open Go.RowKit Go.Sort Go.Shelf YtplkndmkchpcdaaGreatW.PrintWords YtplkndmkchpcdaaGreatW.PrintLast YtplkndmkchpcdaaGreatW.PrintMore MapFn Disk Page Num Bitset Sh
set_option maxHeartbeats 8000000
set_option maxRecDepth 100000
section
variable {w wr w1 w' : World} {b ps pd : Nat} {p : Pl}
def sortL (l : List Int) : List Int := l.mergeSort fun x y => decide (x ≤ y)
theorem sort_own {base : Nat} {ok : Nat → Prop} {v : Value} {l : List Int} (h : Kd.R (Kd.int .i64) 3 wr base ok v l) (hl : l.length ≤ 100000) :
    Calls Tryz.prog 56 #[v] wr fun e w' => e = .returned (.tuple #[]) ∧ Kd.R (Kd.int .i64) 3 w' base ok v (sortL l) ∧ wr.grownBy w' v.ownBlock := by
  have hs : (sortL l).length = l.length := List.length_mergeSort l
  cases l with
  | nil =>
    obtain ⟨A, c, rfl⟩ := Kd.R_slice h
    refine (AnyM.slices_Sort_int_none Tryz.sortA A c wr).mono ?_
    rintro e w' ⟨rfl, rfl⟩
    exact ⟨rfl, by rw [show sortL [] = [] from List.mergeSort_nil]; exact h, ⟨rfl, rfl, rfl, Nat.le_refl _, fun _ _ _ => rfl⟩⟩
  | cons x r =>
    have ho := Kd.own_of_R (enc := Value.int .i64) (h1 := fun _ => rfl) h
    rcases ho.2 with ⟨_, e⟩ | ⟨g, cap, cur, rfl, hb, hrow, hn, hm, hsz, ht⟩
    · simp at e
    · refine (AnyM.slices_Sort_int Tryz.sortA g 0 cap (x :: r) wr (holds_of_blockI hrow (by rw [Nat.mul_one] at ht; exact ht)) (lt_of_row hrow) (by omega)).mono ?_
      rintro e w' ⟨rfl, n, os, rfl⟩
      refine ⟨rfl, Kd.R_of_own (enc := Value.int .i64) (h1 := fun _ => rfl) ?_ h.1, grownBy_sortedI _⟩
      have := ownsRow_sortedI (w := wr) (n := n) (os := os) (ss := x :: r) (ts := sortL (x :: r)) hs hb hrow hn hm hsz
      rw [hs]
      exact this
theorem held_on {w0 : World} (h : PAt w w0 b ps pd p) (hfew : p.frames.length ≤ 900) : Calls Tryz.prog 16 #[.pointer (some ⟨b, 0, none⟩)] w0 fun e w' => ∃ A c, e = .returned (.slice A p.held.length c) ∧ In .i64 w' A p.held c ∧ (∀ a, A = some a → w0.heap.size ≤ a.block) ∧ PAt w w' b ps pd p := by
  obtain ⟨F, v, bs, h⟩ := h
  have hlen := h.frs.len
  obtain ⟨A, c, hv, hC⟩ := h.slice
  have H := Hide.mk h
  have HC := Hide.mk hC
  have HL := Hide.mk hlen
  have hn : bs.length ≤ 900 := by omega
  obtain ⟨L, hL⟩ : ∃ L, p.frames.map (·.id) = L := ⟨_, rfl⟩
  have hLl : L.length = bs.length := by rw [← hL, List.length_map]; omega
  have HE := Hide.mk hL
  have HLL := Hide.mk hLl
  subst hv
  have c2 : w0.cell? ⟨b, 2, none⟩ = some (.slice A bs.length c) := cell_of h.row
  clear h hlen hC hfew hL hLl
  go_enter Tryz.func16, Tryz.ntmps16
  go_wp2
  go_loopw [3, 13] (fun v3 v13 wx => ∃ (i : Nat) (A3 : Option Addr) (c3 : Nat), v13 = .int .i64 (i : Int) ∧ v3 = .slice A3 i c3 ∧ Hide (i ≤ bs.length) ∧ Hide (Kd.R (Kd.int .i64) 3 wx w0.heap.size (fun _ => True) (.slice A3 i c3) (L.take i)) ∧ Hide (Below w0.heap.size w0 wx)) (fun _ v13 _ => bs.length - (intOf v13).toNat)
  case atStart => exact ⟨0, none, 0, by first | rfl | simp, rfl, ⟨Nat.zero_le _⟩, ⟨Kd.R_nil _ _ _ _ _⟩, ⟨Below.refl _ _⟩⟩
  case round =>
    obtain ⟨i, A3, c3, rfl, rfl, hi, hO, hB⟩ := hrel
    by_cases hlt0 : i < bs.length
    · have hlt : (i : Int) < (bs.length : Int) := by omega
      obtain ⟨ad, rfl, hcell⟩ := at_ptr (Kd.C_below HC.out hB.out) (i : Int) (by omega) hlt
      rw [Int.toNat_natCast] at hcell
      have hfr := H.out.fr hlt0
      have hil : i < L.length := by rw [HLL.out]; exact hlt0
      have hid : (p.frames.getD i Fr.none).id = L[i] := by
        have hf : i < p.frames.length := by have := HL.out; omega
        rw [List.getD_eq_getElem?_getD, List.getElem?_eq_getElem hf]
        have : L[i]? = (p.frames.map (·.id))[i]? := by rw [HE.out]
        rw [List.getElem?_map, List.getElem?_eq_getElem hf, List.getElem?_eq_getElem hil] at this
        simpa using this.symm
      have hrd : rdOf none (bs.map some) (i : Int) = some bs[i] := by simp [rdOf, List.getD_eq_getElem?_getD, hlt0]
      rw [hrd] at hcell
      obtain ⟨vx, hrx, _⟩ := hfr.ex
      rw [hid] at hrx
      have NX : Hide (L.take (i + 1) = L.take i ++ [L[i]]) := ⟨by rw [List.take_add_one, List.getElem?_eq_getElem hil]; rfl⟩
      have HTL : Hide ((L.take i).length = i) := ⟨by rw [List.length_take]; omega⟩
      generalize bs[i] = x at *
      generalize L[i] = y at *
      have hcell2 : wr.cell? (ad.add i) = some (.pointer (some ⟨x, 0, none⟩)) := hcell
      have kx : wr.cell? ⟨x, 0, none⟩ = some (.int .i64 y) := pw_cell_below hB.out (show w0.cell? ⟨x, 0, none⟩ = some (.int .i64 y) from cell_of hrx)
      have LT := Hide.mk hlt0
      clear hcell hfr hid hrd hrx hlt0 hil
      go_wp2_with ((with_reducible refine gate_builtin (b := .append) (xs := #[.tmp 17, .tmp 22]) rfl ?_); at_builtin
                   refine Kd.R_append (Kd.int .i64) (w0 := wr) w0.heap.size rfl (.tmp 17) (.tmp 22) 38 3 (.int .i64 0) 8 rfl Tryz.underlying38 infoI rfl (by decide) (by omega) (.slice A3 i c3) (L.take i) y [.int .i64 y] (fun _ => True) (fun _ => False) rfl rfl rfl (fun _ h => h.elim) (fun _ _ => trivial) hO.out (Below.refl _ _) hB.out.size (by rw [HTL.out]; omega) ?_
                   intro v4 w4 ho hb hg hat
                   rw [← NX.out] at ho
                   obtain ⟨A4, c4, hv4⟩ := Kd.R_slice ho
                   have hl4 : (L.take (i + 1)).length = i + 1 := by rw [NX.out, List.length_append, HTL.out]; rfl
                   rw [hl4] at hv4
                   subst hv4
                   have O4 := Hide.mk ho
                   have B4 := Hide.mk hb
                   clear ho hb hg hat hl4)
      go_roundw
      case rel => exact ⟨i + 1, A4, c4, by go_num, rfl, ⟨by have := LT.out; omega⟩, O4, ⟨hB.out.trans B4.out⟩⟩
      case measure => have := LT.out; simp [intOf]; omega
    · have hlt : ¬ (i : Int) < (bs.length : Int) := by omega
      have E := Hide.mk (show i = bs.length by have := hi.out; omega)
      have hO2 := hO.out
      rw [E.out, ← HLL.out, List.take_length] at hO2
      have HSO0 := sort_own hO2 (by rw [HLL.out]; omega)
      rw [HLL.out, ← E.out] at HSO0
      have HSO := Hide.mk HSO0
      clear hlt0 hO2 HSO0
      go_wp2_with (go_at_call 56; refine HSO.out.mono ?_; rintro e w5 ⟨rfl, ho, hg⟩; have O5 := Hide.mk ho; have G5 := Hide.mk hg; clear ho hg)
      go_ret
      obtain ⟨A6, c6, hv6, hi6, hge6⟩ := In.of_own O5.out
      have hsl : (sortL L).length = i := by rw [E.out, ← HLL.out]; exact List.length_mergeSort L
      have hh : p.held = sortL L := by unfold Pl.held; rw [HE.out]; rfl
      rw [hsl] at hv6
      cases hv6
      have hbw : Below w0.heap.size w0 w5 := hB.out.grown G5.out hB.out.size (fun k hk => by cases A3 with | none => cases hk | some a => cases hk; exact hge6 a rfl)
      exact ⟨A3, c3, by rw [hh, hsl]; rfl, by rw [hh]; exact hi6, hge6, F, _, bs, H.out.later hbw⟩
theorem hits_on (h : PAt w wr b ps pd p) : Calls Tryz.prog 41 #[.pointer (some ⟨b, 0, none⟩)] wr fun e w' => e = .returned (.int .i64 p.hits) ∧ w' = wr := by
  obtain ⟨F, v, bs, h⟩ := h
  have c3 : wr.cell? ⟨b, 3, none⟩ = some (.int .i64 p.hits) := cell_of h.row
  clear h
  go_enter Tryz.func41, Tryz.ntmps41
  go_wp2
  go_ret
  exact ⟨rfl, rfl⟩
theorem misses_on (h : PAt w wr b ps pd p) : Calls Tryz.prog 42 #[.pointer (some ⟨b, 0, none⟩)] wr fun e w' => e = .returned (.int .i64 p.misses) ∧ w' = wr := by
  obtain ⟨F, v, bs, h⟩ := h
  have c4 : wr.cell? ⟨b, 4, none⟩ = some (.int .i64 p.misses) := cell_of h.row
  clear h
  go_enter Tryz.func42, Tryz.ntmps42
  go_wp2
  go_ret
  exact ⟨rfl, rfl⟩
theorem pnew_on {S : Sh} (h : On w wr ps pd S) (n : Int) (h1 : 1 ≤ n) (h2 : n ≤ 64) : Calls Tryz.prog 12 #[.pointer (some ⟨ps, 0, none⟩), .int .i64 n] wr fun e w' => ∃ b, e = .returned (.tuple #[.pointer (some ⟨b, 0, none⟩), .int .i64 0]) ∧ PAt w w' b ps pd (Pl.new S n) := by
  obtain ⟨⟨F, hs, ep, epd, ho⟩, hb⟩ := h
  refine (poolnew_any n hs ep epd ho hb h1 h2).mono ?_
  rintro e w2 ⟨b, rfl, hp⟩
  exact ⟨b, rfl, F, _, _, hp⟩
theorem PAt.below (h : PAt w wr b ps pd p) : Below w.heap.size w wr := by obtain ⟨_, _, _, h⟩ := h; exact h.below
theorem PAt.later (h : PAt w wr b ps pd p) (hb : Below wr.heap.size wr w') : PAt w w' b ps pd p := by obtain ⟨F, v, bs, h⟩ := h; exact ⟨F, v, bs, h.later hb⟩
end
end Go.Proofs.YtplkndmkchpcdaaGreat.Pool
end
section
namespace Go.Proofs.YtplkndmkchpcdaaGreat.Pool
open Go.RowKit YtplkndmkchpcdaaGreatW.PrintWords YtplkndmkchpcdaaGreatW.PrintLast YtplkndmkchpcdaaGreatW.PrintMore MapFn Disk Page Num Bitset Sh
set_option maxHeartbeats 8000000
set_option maxRecDepth 100000
section
variable {w wr w1 w' : World} {b ps pd : Nat} {p : Pl}
theorem pset_on8 (h : PAt w wr b ps pd p) (hg : Good p) (id kind : Int) {A : Option Addr} {c : Nat} {body : List Int} (hr : In8 w wr A body c) (hb : Bytes body) (hsh : body.length ≤ 1000) :
    Calls Tryz.prog 36 #[.pointer (some ⟨b, 0, none⟩), .int .i64 id, .int .i64 kind, .slice A body.length c] wr fun e w' => e = .returned (.int .i64 (p.set id kind body).2) ∧ PAt w w' b ps pd (p.set id kind body).1 ∧ K8 w wr w' := by
  have HF0 := fetch_on h hg id
  have HI := Hide.mk hr
  have HBB := Hide.mk hb
  have HSH := Hide.mk hsh
  obtain ⟨R, hR⟩ : ∃ R, p.set id kind body = R := ⟨_, rfl⟩
  rw [hR]
  unfold Pl.set at hR
  obtain ⟨p2, e2, hfe⟩ : ∃ p2 e2, p.fetch id = (p2, e2) := ⟨_, _, rfl⟩
  rw [hfe] at HF0 hR
  simp only at HF0 hR
  obtain ⟨nb, hnb⟩ : ∃ n, body.length = n := ⟨_, rfl⟩
  rw [hnb]
  have HNN := Hide.mk hnb
  clear h hg hfe hr hb hsh
  by_cases h0 : e2 = 0
  · subst h0
    rw [if_neg (by simp)] at hR
    simp only [ptrOf_ok] at HF0
    have HF := Hide.mk HF0
    clear HF0
    by_cases h1 : sealE kind 1 body.length = 0
    · rw [if_neg (by simpa using h1)] at hR
      have HE1 := Hide.mk h1
      have HRR := Hide.mk hR.symm
      clear hR h1 hnb
      go_enter Tryz.func36, Tryz.ntmps36
      go_wp2_with (first
        | (go_at_call 55
           with_reducible refine HF.out.mono ?_
           rintro e w2 ⟨F2, v2, bs2, x, rfl, hp, hlast, hk8⟩
           have K2 := Hide.mk hk8
           obtain ⟨bs0, hbs⟩ := hlast trivial
           rw [hbs] at hp
           have P2 := Hide.mk hp
           have I2 := Hide.mk (HI.out.keep hk8)
           have HSE0 := seal_ok kind 1 A c body w2 I2.out.in_.reads HBB.out HE1.out
           rw [HNN.out] at HSE0
           have HSE := Hide.mk HSE0
           clear hp hlast hbs hk8 HSE0)
        | (go_at_call 64
           with_reducible refine HSE.out.mono ?_
           rintro e w3 ⟨v3, rfl, _, hb⟩
           obtain ⟨z3, hz3⟩ : ∃ z, v3 = z := ⟨_, rfl⟩
           subst hz3
           have P3 := Hide.mk (P2.out.later hb)
           have I3 := Hide.mk (I2.out.keep (K8.of_below (w := w) hb))
           have K3 := Hide.mk (K2.out.trans (K8.of_below (w := w) hb))
           have HCL0 := Given.clone_any A c body w3 I3.out.in_.reads I3.out.in_.room (by have := HSH.out; omega)
           rw [HNN.out] at HCL0
           have HCL := Hide.mk HCL0
           clear hb HCL0)
        | (go_at_call 54
           with_reducible refine HCL.out.mono ?_
           rintro e w5 ⟨v5, rfl, ho, hb⟩
           obtain ⟨A5, c5, hv5, _, _⟩ := In.of_own ho
           rw [HNN.out] at hv5
           subst hv5
           have P5 := Hide.mk (P3.out.later hb)
           have O5 := Hide.mk ho
           have HSZ3 := Hide.mk P3.out.below.size
           have K5 := Hide.mk (K3.out.trans (K8.of_below (w := w) hb))
           obtain ⟨vb, hrow, _⟩ := P5.out.last.1.ex
           have HROW := Hide.mk hrow
           have f1 := free_of (i := 1) hrow
           have k1 : w5.cell? ⟨x, 1, none⟩ = some (.int .i64 p2.last.kind) := cell_of hrow
           have hs1 := set_row (i := 1) hrow (.int .i64 kind)
           have f2 := free_of (i := 2) hs1
           have k2 : w5.cell? ⟨x, 2, none⟩ = some vb := cell_of hrow
           have k2b : (w5.setCell ⟨x, 1, none⟩ (.int .i64 kind)).cell? ⟨x, 2, none⟩ = some vb := by rw [cell_of hs1]; simp
           have hs2 := set_row (i := 2) hs1 (.slice A5 nb c5)
           have f4 := free_of (i := 4) hs2
           have k4 : w5.cell? ⟨x, 4, none⟩ = some (.bool p2.last.dirty) := cell_of hrow
           have k4b : ((w5.setCell ⟨x, 1, none⟩ (.int .i64 kind)).setCell ⟨x, 2, none⟩ (.slice A5 nb c5)).cell? ⟨x, 4, none⟩ = some (.bool p2.last.dirty) := by rw [cell_of hs2]; simp
           clear ho hb hrow hs1 hs2))
      go_ret
      rw [HRR.out]
      have hs1 := set_row (i := 1) HROW.out (.int .i64 kind)
      have hs2 := set_row (i := 2) hs1 (.slice A5 nb c5)
      have hs4 := set_row (i := 4) hs2 (.bool true)
      have hm : Moves [x] w5 (((w5.setCell ⟨x, 1, none⟩ (.int .i64 kind)).setCell ⟨x, 2, none⟩ (.slice A5 nb c5)).setCell ⟨x, 4, none⟩ (.bool true)) := ((Moves.of_grown (set_cell_grown _)).trans (Moves.of_grown (set_cell_grown _))).trans (Moves.of_grown (set_cell_grown _))
      refine ⟨rfl, ⟨F2, v2, _, P5.out.set_last hm ⟨⟨.slice A5 nb c5, by simpa using hs4, ?_⟩, P5.out.last.1.ge, HBB.out, HSH.out⟩⟩, K5.out.trans (K8.of_moves hm fun y hy => by simp only [List.mem_singleton] at hy; subst hy; exact ⟨P5.out.last.1.ge, fun c t f hq hc => ne_of_types hc HROW.out hq.2.2.2 rfl⟩)⟩
      refine R_moves (Kd.R_lower O5.out HSZ3.out) hm fun g hgo hgs => ?_
      simp only [List.mem_singleton] at hgs
      subst hgs
      obtain ⟨cells, hc⟩ := typed O5.out g hgo
      exact ne_of_types hc HROW.out (by decide) rfl
    · rw [if_pos h1] at hR
      have HE1 := Hide.mk h1
      obtain ⟨es, hes⟩ : ∃ z, sealE kind 1 body.length = z := ⟨_, rfl⟩
      rw [hes] at hR h1
      have HES := Hide.mk hes
      have q : (es != 0) = true := by simp [h1]
      have HRR := Hide.mk hR.symm
      clear hR h1 hnb hes
      go_enter Tryz.func36, Tryz.ntmps36
      go_wp2_with (first
        | (go_at_call 55
           with_reducible refine HF.out.mono ?_
           rintro e w2 ⟨F2, v2, bs2, x, rfl, hp, hlast, hk8⟩
           have K2 := Hide.mk hk8
           obtain ⟨bs0, hbs⟩ := hlast trivial
           have P2 := Hide.mk hp
           have I2 := Hide.mk (HI.out.keep hk8)
           have HSE0 := seal_bad kind 1 A c body.length w2 HE1.out
           rw [HES.out, HNN.out] at HSE0
           have HSE := Hide.mk HSE0
           clear hp hlast hbs hk8 HSE0)
        | (go_at_call 64
           with_reducible refine HSE.out.mono ?_
           rintro e w3 ⟨rfl, hb⟩
           have P3 := Hide.mk (P2.out.later hb)
           have I3 := Hide.mk (I2.out.keep (K8.of_below (w := w) hb))
           have K3 := Hide.mk (K2.out.trans (K8.of_below (w := w) hb))
           clear hb))
      go_ret
      rw [HRR.out]
      exact ⟨rfl, ⟨F2, v2, bs2, P3.out⟩, K3.out⟩
  · rw [if_pos h0] at hR
    have q : (e2 != 0) = true := by simp [h0]
    simp only [ptrOf_bad h0] at HF0
    have HF := Hide.mk HF0
    have HRR := Hide.mk hR.symm
    clear HF0 hR h0 hnb
    go_enter Tryz.func36, Tryz.ntmps36
    go_wp2_with (first
      | (go_at_call 55
         with_reducible refine HF.out.mono ?_
         rintro e w2 ⟨F2, v2, bs2, x, rfl, hp, hlast, hk8⟩
         have K2 := Hide.mk hk8
         have P2 := Hide.mk hp
         clear hp hlast))
    go_ret
    rw [HRR.out]
    exact ⟨rfl, ⟨F2, v2, bs2, P2.out⟩, K2.out⟩
theorem pset_on (h : PAt w wr b ps pd p) (hg : Good p) (id kind : Int) {A : Option Addr} {c : Nat} {body : List Int} (hr : In8 w wr A body c) (hb : Bytes body) (hsh : body.length ≤ 1000) :
    Calls Tryz.prog 36 #[.pointer (some ⟨b, 0, none⟩), .int .i64 id, .int .i64 kind, .slice A body.length c] wr fun e w' => e = .returned (.int .i64 (p.set id kind body).2) ∧ PAt w w' b ps pd (p.set id kind body).1 := (pset_on8 h hg id kind hr hb hsh).mono fun _ _ q => ⟨q.1, q.2.1⟩
end
end Go.Proofs.YtplkndmkchpcdaaGreat.Pool
end
section
namespace Go.Proofs.YtplkndmkchpcdaaGreat.Pool
open Go.RowKit YtplkndmkchpcdaaGreatW.PrintWords YtplkndmkchpcdaaGreatW.PrintLast YtplkndmkchpcdaaGreatW.PrintMore MapFn Disk Page Num Bitset Sh
set_option maxHeartbeats 4000000
set_option maxRecDepth 100000
theorem fetch_nil (id : Int) (w : World) : Calls Tryz.prog 55 #[.pointer none, .int .i64 id] w fun e w' => e = .returned (.tuple #[.pointer none, .int .i64 1]) ∧ w' = w := by
  go_enter Tryz.func55, Tryz.ntmps55
  go_wp2
  go_ret2
  exact ⟨rfl, rfl⟩
theorem get_nil (id : Int) (w : World) : Calls Tryz.prog 15 #[.pointer none, .int .i64 id] w fun e w' => e = .returned (.tuple #[.int .i64 0, .slice none 0 0, .int .i64 1]) ∧ w' = w := by
  go_enter Tryz.func15, Tryz.ntmps15
  go_wp2_with (go_at_call 55; refine (fetch_nil id _).mono ?_; rintro e w1 ⟨rfl, hw⟩; obtain rfl : w = w1 := hw.symm)
  go_ret3
  exact ⟨rfl, rfl⟩
theorem alloc_nil (kind : Int) (v : Value) (w : World) : Calls Tryz.prog 13 #[.pointer none, .int .i64 kind, v] w fun e w' => e = .returned (.tuple #[.int .i64 0, .int .i64 1]) ∧ w' = w := by
  go_enter Tryz.func13, Tryz.ntmps13
  go_wp2
  go_ret2
  exact ⟨rfl, rfl⟩
theorem set_nil (id kind : Int) (v : Value) (w : World) : Calls Tryz.prog 36 #[.pointer none, .int .i64 id, .int .i64 kind, v] w fun e w' => e = .returned (.int .i64 1) ∧ w' = w := by
  go_enter Tryz.func36, Tryz.ntmps36
  go_wp2_with (go_at_call 55; refine (fetch_nil id _).mono ?_; rintro e w1 ⟨rfl, hw⟩; obtain rfl : w = w1 := hw.symm)
  go_ret
  exact ⟨rfl, rfl⟩
theorem free_nil (id : Int) (w : World) : Calls Tryz.prog 18 #[.pointer none, .int .i64 id] w fun e w' => e = .returned (.int .i64 1) ∧ w' = w := by
  go_enter Tryz.func18, Tryz.ntmps18
  go_wp2
  go_ret
  exact ⟨rfl, rfl⟩
theorem pin_nil (id : Int) (w : World) : Calls Tryz.prog 14 #[.pointer none, .int .i64 id] w fun e w' => e = .returned (.int .i64 1) ∧ w' = w := by
  go_enter Tryz.func14, Tryz.ntmps14
  go_wp2_with (go_at_call 55; refine (fetch_nil id _).mono ?_; rintro e w1 ⟨rfl, hw⟩; obtain rfl : w = w1 := hw.symm)
  go_ret
  exact ⟨rfl, rfl⟩
theorem unpin_nil (id : Int) (w : World) : Calls Tryz.prog 17 #[.pointer none, .int .i64 id] w fun e w' => e = .returned (.int .i64 1) ∧ w' = w := by
  go_enter Tryz.func17, Tryz.ntmps17
  go_wp2
  go_ret
  exact ⟨rfl, rfl⟩
theorem held_nil (w : World) : Calls Tryz.prog 16 #[.pointer none] w fun e w' => e = .returned (.slice none 0 0) ∧ w' = w := by
  go_enter Tryz.func16, Tryz.ntmps16
  go_wp2
  go_ret
  exact ⟨rfl, rfl⟩
theorem hits_nil (w : World) : Calls Tryz.prog 41 #[.pointer none] w fun e w' => e = .returned (.int .i64 0) ∧ w' = w := by
  go_enter Tryz.func41, Tryz.ntmps41
  go_wp2
  go_ret
  exact ⟨rfl, rfl⟩
theorem misses_nil (w : World) : Calls Tryz.prog 42 #[.pointer none] w fun e w' => e = .returned (.int .i64 0) ∧ w' = w := by
  go_enter Tryz.func42, Tryz.ntmps42
  go_wp2
  go_ret
  exact ⟨rfl, rfl⟩
theorem new_nil (n : Int) (w : World) : Calls Tryz.prog 12 #[.pointer none, .int .i64 n] w fun e w' => e = .returned (.tuple #[.pointer none, .int .i64 1]) ∧ w' = w := by
  go_enter Tryz.func12, Tryz.ntmps12
  go_wp2
  go_ret2
  exact ⟨rfl, rfl⟩
theorem new_out (n : Int) (hn : n < 1 ∨ 64 < n) (a : Addr) (w : World) : Calls Tryz.prog 12 #[.pointer (some a), .int .i64 n] w fun e w' => e = .returned (.tuple #[.pointer none, .int .i64 12]) ∧ w' = w := by
  rcases hn with hn | hn
  · go_enter Tryz.func12, Tryz.ntmps12
    go_wp2
    go_ret2
    exact ⟨rfl, rfl⟩
  · have hn1 : ¬ n < 1 := by omega
    go_enter Tryz.func12, Tryz.ntmps12
    go_wp2
    go_ret2
    exact ⟨rfl, rfl⟩
end Go.Proofs.YtplkndmkchpcdaaGreat.Pool
end
section
namespace Go.Proofs.YtplkndmkchpcdaaGreat.Pool
open Go.RowKit YtplkndmkchpcdaaGreatW.PrintWords YtplkndmkchpcdaaGreatW.PrintLast YtplkndmkchpcdaaGreatW.PrintMore MapFn Disk Page Num Bitset Sh
set_option maxHeartbeats 4000000
set_option maxRecDepth 100000
theorem flush_nil (w : World) : Calls Tryz.prog 37 #[.pointer none] w fun e w' => e = .returned (.int .i64 1) ∧ w' = w := by
  go_enter Tryz.func37, Tryz.ntmps37
  go_wp2
  go_ret
  exact ⟨rfl, rfl⟩
theorem commit_nil (w : World) : Calls Tryz.prog 38 #[.pointer none] w fun e w' => e = .returned (.int .i64 1) ∧ w' = w := by
  go_enter Tryz.func38, Tryz.ntmps38
  go_wp2_with (go_at_call 37; refine (flush_nil _).mono ?_; rintro e w1 ⟨rfl, hw⟩; obtain rfl : w = w1 := hw.symm)
  go_ret
  exact ⟨rfl, rfl⟩
theorem abort_nil (w : World) : Calls Tryz.prog 39 #[.pointer none] w fun e w' => e = .returned (.int .i64 1) ∧ w' = w := by
  go_enter Tryz.func39, Tryz.ntmps39
  go_wp2
  go_ret
  exact ⟨rfl, rfl⟩
theorem pins_nil (id : Int) (w : World) : Calls Tryz.prog 40 #[.pointer none, .int .i64 id] w fun e w' => e = .returned (.int .i64 0) ∧ w' = w := by
  go_enter Tryz.func40, Tryz.ntmps40
  go_wp2
  go_ret
  exact ⟨rfl, rfl⟩
theorem under_nil (w : World) : Calls Tryz.prog 43 #[.pointer none] w fun e w' => e = .returned (.pointer none) ∧ w' = w := by
  go_enter Tryz.func43, Tryz.ntmps43
  go_wp2
  go_ret
  exact ⟨rfl, rfl⟩
end Go.Proofs.YtplkndmkchpcdaaGreat.Pool
end
