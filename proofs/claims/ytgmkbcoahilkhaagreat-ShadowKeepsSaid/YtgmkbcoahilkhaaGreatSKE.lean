/- The words, and the contracts of the functions that are reached, one behind the other. -/
import Derived.Shelf.SlIterI.Nil
import Derived.Shelf.SortM.Plain
import Derived.Shelf.SortM.SortNone
import Derived.Ground.GgzProg
import Derived.Ground.SlgmProg
import Derived.Test.YtgmkbcoahilkhaaGreatProg
import Derived.Lib.SlBytesConst
import Derived.Deep.Slices
import Derived.Test.YtgmkbcoahilkhaaGreatSKD
set_option linter.unusedVariables false
set_option linter.unusedSimpArgs false
section
namespace Go.Proofs.YtgmkbcoahilkhaaGreat.Sh
open Go.RowKit YtgmkbcoahilkhaaGreatW.PrintWords YtgmkbcoahilkhaaGreatW.PrintLast YtgmkbcoahilkhaaGreatW.PrintMore MapFn Disk Bitset Page PShadowPlays Num
set_option maxHeartbeats 8000000
set_option maxRecDepth 100000
def boolE : Enc Bool where
  E := Value.bool
  D x := .lit (.bool x)
  R v := match v with
    | .bool x => some (.lit (.bool x), [])
    | _ => none
  ok _ := True
  put x _ := rfl
  inv v d ps h := by
    split at h
    · rename_i x
      cases h
      exact ⟨x, trivial, rfl, rfl⟩
    · cases h
  inj x y h := by injection h with h1; injection h1
abbrev MapT (w : World) (b : Nat) (m : Int → Option Bool) : Prop := MapFn.MapFn Tryz.prog 3 boolE w b m
section
variable {w : World} {ops : Array Oper} {rest : List Oper} {o : Oper} {a : Act} {Q : Exit → Act → World → Prop}
theorem map_ins (hg : o.guard = none) (m x v : Operand) (hop : o.op = Op.insert 145 m x v) (b : Nat) (j : Int) (y : Bool) (hm : a.eval m = .map (some b)) (hx : a.eval x = .int .i64 j) (hv : a.eval v = .bool y) {w' : World}
    (hrun : (Instr.mapUpdate 145 (.map (some b)) (.int .i64 j) (.bool y)).run Tryz.prog w = .ok () w') (hK : wpList Tryz.prog ops Q rest (a.put o.dst undef) w') : wpList Tryz.prog ops Q (o :: rest) a w := by
  refine wpList_plain hg fun K' hK' => ?_
  unfold Oper.wp
  simp [execOp, hop, hm, hx, hv, hrun, Result.andThen]
  first | exact hK' _ _ hK | (simp [Oper.upon]; exact hK' _ _ hK) | (unfold Oper.upon; simp; exact hK' _ _ hK)
theorem map_upd (hg : o.guard = none) (m x v : Operand) (hop : o.op = Op.mapUpdate 145 m x v) (b : Nat) (j : Int) (y : Bool) (hm : a.eval m = .map (some b)) (hx : a.eval x = .int .i64 j) (hv : a.eval v = .bool y) {w' : World}
    (hrun : (Instr.mapUpdate 145 (.map (some b)) (.int .i64 j) (.bool y)).run Tryz.prog w = .ok () w') (hK : wpList Tryz.prog ops Q rest (a.put o.dst undef) w') : wpList Tryz.prog ops Q (o :: rest) a w := by
  refine wpList_plain hg fun K' hK' => ?_
  unfold Oper.wp
  simp [execOp, hop, hm, hx, hv, hrun, Result.andThen]
  first | exact hK' _ _ hK | (simp [Oper.upon]; exact hK' _ _ hK) | (unfold Oper.upon; simp; exact hK' _ _ hK)
end
structure Seen (w : World) (b : Nat) (f : Int → Bool) : Prop where
  ex : ∃ m, MapT w b m ∧ (∀ j, (m j).getD false = f j) ∧ ∀ j, (m j).isSome = true → 0 ≤ j ∧ j < (4096 : Nat)
theorem Seen.kept {w w' : World} {b : Nat} {f : Int → Bool} {row : Option Nat} (h : Seen w b f) (hg : w.grownBy w' row) (hne : some b ≠ row) : Seen w' b f := by
  obtain ⟨m, h1, h2, h3⟩ := h.ex
  exact ⟨m, h1.kept hg hne, h2, h3⟩
theorem Seen.below {w w' : World} {b : Nat} {f : Int → Bool} (h : Seen w b f) (hb : Below w.heap.size w w') : Seen w' b f := h.kept (row := none) ((Moves.of_below hb []).grown _) (by simp)
theorem Seen.made (w : World) : Seen (w.alloc (.map #[] 0)) w.heap.size (fun _ => false) := ⟨fun _ => none, MapFn.MapFn.made w Tryz.prog 3 boolE, fun _ => rfl, fun j h => by cases h⟩
theorem zeroB (w : World) : (zeroValue 4).run Tryz.prog w = .ok (boolE.E false) w := Tryz.zeroValue4 w
theorem Seen.look {w : World} {b : Nat} {f : Int → Bool} (h : Seen w b f) {j : Int} (hj : MapFn.wf j) : (Instr.lookup 145 (.map (some b)) (.int .i64 j) false).run Tryz.prog w = .ok (.bool (f j)) w := by
  obtain ⟨m, h1, h2, h3⟩ := h.ex
  have := h1.look (C := boolE) (t := 145) Tryz.underlying3 Tryz.underlying145 (zeroB _) trivial hj
  rw [h2 j] at this
  exact this
theorem Seen.put {w : World} {b : Nat} {f : Int → Bool} (h : Seen w b f) {j : Int} (h0 : 0 ≤ j) (h1 : j < 4096) :
    ∃ w', (Instr.mapUpdate 145 (.map (some b)) (.int .i64 j) (.bool true)).run Tryz.prog w = .ok () w' ∧ Seen w' b (fun i => decide (i = j) || f i) ∧ w.grownBy w' (some b) := by
  obtain ⟨m, hm, h2, h3⟩ := h.ex
  obtain ⟨w', hr, hm', hg⟩ := hm.store (C := boolE) (t := 145) Tryz.underlying3 Tryz.underlying145 (wf_small h0 h1) (x := true) trivial h3 (by unfold maxLen; omega)
  refine ⟨w', hr, ⟨_, hm', fun i => ?_, fun i hi => ?_⟩, hg⟩
  · unfold upd
    by_cases c : i = j
    · rw [if_pos c]; simp [c]
    · rw [if_neg c, h2 i]; simp [c]
  · unfold upd at hi
    by_cases c : i = j
    · rw [c]; exact ⟨h0, h1⟩
    · rw [if_neg c] at hi; exact h3 i hi
theorem concat3_any {W : World} {g : Nat} {A1 A2 A3 : Option Addr} {c1 c2 c3 : Nat} {l1 l2 l3 L : List Int} {t : TypeId} (hrow : W.heap[g]? = some (.cells #[.slice A1 l1.length c1, .slice A2 l2.length c2, .slice A3 l3.length c3] t (0, 0)))
    (h1 : In .i64 W A1 l1 c1) (h2 : In .i64 W A2 l2 c2) (h3 : In .i64 W A3 l3 c3) (hs : l1.length + l2.length + l3.length ≤ 1000000) (hL : [l1, l2, l3].flatten = L) :
    Calls Tryz.prog 93 #[.slice (some ⟨g, 0, none⟩) 3 3] W fun e w' => ∃ A c, e = .returned (.slice A L.length c) ∧ In .i64 w' A L c ∧ (∀ a, A = some a → W.heap.size ≤ a.block) ∧ Below W.heap.size W w' := by
  have hl : Lists .i64 W (some ⟨g, 0, none⟩) [l1, l2, l3] := by
    refine lists_of_row hrow fun i hi => ?_
    match i, hi with
    | 0, _ => exact ⟨_, _, rfl, h1.room, h1.reads⟩
    | 1, _ => exact ⟨_, _, rfl, h2.room, h2.reads⟩
    | 2, _ => exact ⟨_, _, rfl, h3.room, h3.reads⟩
  refine (concat_any (some ⟨g, 0, none⟩) 3 [l1, l2, l3] W hl (by simp) (by simp [sumLen]; omega)).mono ?_
  rintro e w2 ⟨v2, rfl, ho, hb2⟩
  rw [hL] at ho
  obtain ⟨A2, c2, rfl, hi2, hge2⟩ := In.of_own ho
  exact ⟨A2, c2, rfl, hi2, hge2, hb2⟩
theorem seenF_cons (r : Root) (k : Nat) (n : Int) (ns : List Int) (i : Nat) (seen : Int → Bool) : seenF r k (n :: ns) i seen = if n = 0 ∧ k ≤ i then seenF r k ns (i + 1) seen else if r.blocks ≤ n ∨ seen n = true then false else seenF r k ns (i + 1) (fun j => decide (j = n) || seen j) := by
  rw [seenF]
theorem right_any (r : Root) (tc mc : Nat) (tA mA : Option Addr) (A : Option Addr) (c : Nat) (table : List Int) (M : Option Addr) (mcap : Nat) (m : List Int) (w : World) (ht : In .i64 w tA r.tables tc) (hm : In .i64 w mA r.maps mc) (hb : In .i64 w A table c) (hM : In .u8 w M m mcap) (hby : Bytes m) (hck : r.check = 0) (htb : ∀ n ∈ table, 0 ≤ n) (hsz : table.length ≤ 5000) :
    Calls Tryz.prog 75 #[r.val tA tc mA mc, .slice A table.length c, .slice M m.length mcap] w fun e w' => e = .returned (.bool (right r table m)) ∧ Below w.heap.size w w' := by
  unfold Root.val
  obtain ⟨R, hR⟩ : ∃ R, right r table m = R := ⟨_, rfl⟩
  rw [hR]
  unfold right at hR
  obtain ⟨SF, hSF⟩ : ∃ SF, seenF r (r.tables.length + r.maps.length) (r.tables ++ r.maps ++ table) 0 (fun j => decide (j = 1) || (decide (j = 0) || false)) = SF := ⟨_, rfl⟩
  have hsw : (fun j : Int => decide (j = 0) || decide (j = 1)) = fun j => decide (j = 1) || (decide (j = 0) || false) := by funext j; cases decide (j = 0) <;> cases decide (j = 1) <;> rfl
  rw [hsw, hSF] at hR
  obtain ⟨L, hL⟩ : ∃ L, [r.tables, r.maps, table].flatten = L := ⟨_, rfl⟩
  have hLe : L = r.tables ++ r.maps ++ table := by rw [← hL]; simp
  rw [← hLe] at hSF
  have hrl := check_len hck
  have HZ : Hide (table.length ≤ 5000 ∧ r.tables.length ≤ 26 ∧ r.maps.length ≤ 3) := ⟨⟨hsz, hrl.1, hrl.2⟩⟩
  have HLN : Hide (L.length ≤ 6000) := ⟨by rw [hLe]; simp; omega⟩
  have HLL := Hide.mk hLe
  have HLE : Hide (∀ x ∈ L, 0 ≤ x ∧ True) := ⟨fun x hx => by
    rw [hLe, List.mem_append] at hx
    rcases hx with hx | hx
    · exact ⟨by have := check_each hck x hx; omega, trivial⟩
    · exact ⟨htb x hx, trivial⟩⟩
  have HL := Hide.mk hL
  have HSF := Hide.mk hSF
  have HCK := Hide.mk hck
  have hnn := (check_range hck).2.2
  obtain ⟨⟨hn0, hn3⟩, hs0, hs1⟩ := hnn
  have HI := Hide.mk (And.intro ht (And.intro hm hb))
  have HMM := Hide.mk hM
  have HMY := Hide.mk hby
  have hmx := hb.reads.2.1
  obtain ⟨W1, hW1⟩ : ∃ W, w.alloc (.cells #[.int .i64 r.epoch, .int .i64 r.blocks, .int .i64 r.next, .int .i64 r.start, .slice tA r.tables.length tc, .slice mA r.maps.length mc] 65) = W := ⟨_, rfl⟩
  have b1 := (Below.refl w.heap.size w).alloc (Nat.le_refl _) (.cells #[.int .i64 r.epoch, .int .i64 r.blocks, .int .i64 r.next, .int .i64 r.start, .slice tA r.tables.length tc, .slice mA r.maps.length mc] 65)
  have row1 := heap_last w (.cells #[.int .i64 r.epoch, .int .i64 r.blocks, .int .i64 r.next, .int .i64 r.start, .slice tA r.tables.length tc, .slice mA r.maps.length mc] 65)
  rw [hW1] at b1 row1
  have z1 : W1.heap.size = w.heap.size + 1 := by rw [← hW1]; simp
  have s1 := Seen.made W1
  have b2 := b1.alloc b1.size (.map #[] 0)
  have row2 := (((Below.refl W1.heap.size W1).alloc (Nat.le_refl _) (.map #[] 0)).block w.heap.size (lt_of_row row1)).trans row1
  obtain ⟨mb, hmb⟩ : ∃ mb, W1.heap.size = mb := ⟨_, rfl⟩
  rw [hmb] at s1 z1
  obtain ⟨w2, hr2, hs2, hg2⟩ := s1.put (j := 0) (by omega) (by omega)
  obtain ⟨w3, hr3, hs3, hg3⟩ := hs2.put (j := 1) (by omega) (by omega)
  have row3 := (hg3.block w.heap.size (Nat.lt_of_lt_of_le (lt_of_row row2) hg2.size) (fun e => by have := Option.some.inj e; omega)).trans ((hg2.block w.heap.size (lt_of_row row2) (fun e => by have := Option.some.inj e; omega)).trans row2)
  have b3 : Below w.heap.size w w3 := (b2.grown hg2 b2.size (fun k hk => by cases hk; omega)).grown hg3 (Nat.le_trans b2.size hg2.size) (fun k hk => by cases hk; omega)
  have HR2 := Hide.mk hr2
  have HR3 := Hide.mk hr3
  have S3 := Hide.mk hs3
  have ROW3 := Hide.mk row3
  have B3 := Hide.mk b3
  have H3 := Hide.mk (show In .i64 w3 tA r.tables tc ∧ In .i64 w3 mA r.maps mc ∧ In .i64 w3 A table c from ⟨ht.below b3, hm.below b3, hb.below b3⟩)
  have HMB := Hide.mk (show w.heap.size ≤ mb ∧ w.heap.size ≠ mb from ⟨by omega, by omega⟩)
  have hmm := @run_makeMap Tryz.prog
  have HWM := Hide.mk (And.intro hW1 (show w.heap.size + 1 = mb by omega))
  have HTT := Hide.mk htb
  clear hW1 hmb z1 hr2 hr3 hs2 hs3 hg2 hg3 row1 row2 row3 b1 b2 b3 s1 hSF hL hLe hrl ht hm hM hby hck hsw
  by_cases hA : (table.length : Int) = r.next + 1
  · by_cases hn : 0 < r.next
    · have hlt : r.next < (table.length : Int) := by omega
      obtain ⟨ad, hAd, hcn⟩ := Kd.at_int hb.reads r.next hn0 hlt
      have hrdn : rd table r.next = table.getD r.next.toNat 0 := by simp [rd]
      rw [hrdn] at hcn
      obtain ⟨x, hx⟩ : ∃ x, table.getD r.next.toNat 0 = x := ⟨_, rfl⟩
      rw [hx] at hcn hR
      have hcn1 : ∀ o, (w.alloc o).cell? (ad.add r.next.toNat) = some (.int .i64 x) := fun o => pw_cell_below ((Below.refl w.heap.size w).alloc (Nat.le_refl _) o) hcn
      have HX := Hide.mk hx
      subst hAd
      by_cases hx0 : x = 0
      · subst hx0
        rw [if_pos (.inr (.inl ⟨hn, by trivial⟩))] at hR
        have HRR := Hide.mk hR.symm
        have hA2 : ((table.length : Int) != r.next + 1) = false := by simp [hA]
        clear hR hx hrdn
        go_enter Tryz.func75, Tryz.ntmps75
        go_wp2
        go_ret
        exact ⟨by rw [HRR.out]; rfl, below_alloc (Below.refl _ _) _⟩
      · have qx : (x == 0) = false := by simp [hx0]
        by_cases hs : 0 < r.start
        · have hlt2 : r.start < (table.length : Int) := by omega
          obtain ⟨ad2, hAd2, hcs⟩ := Kd.at_int hb.reads r.start hs0 hlt2
          cases hAd2
          have hrds : rd table r.start = table.getD r.start.toNat 0 := by simp [rd]
          rw [hrds] at hcs
          obtain ⟨y, hy⟩ : ∃ y, table.getD r.start.toNat 0 = y := ⟨_, rfl⟩
          rw [hy] at hcs hR
          have hcs1 : ∀ o, (w.alloc o).cell? (ad.add r.start.toNat) = some (.int .i64 y) := fun o => pw_cell_below ((Below.refl w.heap.size w).alloc (Nat.le_refl _) o) hcs
          have HY := Hide.mk hy
          by_cases hy0 : y = 0
          · subst hy0
            rw [if_pos (.inr (.inr ⟨hs, by trivial⟩))] at hR
            have HRR := Hide.mk hR.symm
            have hA2 : ((table.length : Int) != r.next + 1) = false := by simp [hA]
            clear hR hx hrdn hy hrds hx0
            go_enter Tryz.func75, Tryz.ntmps75
            go_wp2
            go_ret
            exact ⟨by rw [HRR.out]; rfl, below_alloc (Below.refl _ _) _⟩
          · have qy : (y == 0) = false := by simp [hy0]
            rw [if_neg (fun h => by rcases h with h | h | h; exact h hA; exact hx0 h.2; exact hy0 h.2)] at hR
            have HRR := Hide.mk hR.symm
            have hA2 : ((table.length : Int) != r.next + 1) = false := by simp [hA]
            clear hR hx hrdn hy hrds hx0 hy0
            have e4 := cell_of (i := 4) ROW3.out
            have e5 := cell_of (i := 5) ROW3.out
            simp at e4 e5
            go_enter Tryz.func75, Tryz.ntmps75
            go_wp2_with (first
              | (rw [HWM.out.1, HWM.out.2]
                 refine map_ins rfl _ _ _ rfl mb 0 true rfl rfl rfl HR2.out ?_)
              | (refine map_ins rfl _ _ _ rfl mb 1 true rfl rfl rfl HR3.out ?_)
              | (go_at_call 93
                 obtain ⟨WX, hWX⟩ : ∃ W, w3.alloc (.cells #[.slice tA r.tables.length tc, .slice mA r.maps.length mc, .slice (some ad) table.length c] 38) = W := ⟨_, rfl⟩
                 rw [hWX]
                 have hal := (Below.refl w3.heap.size w3).alloc (Nat.le_refl _) (.cells #[.slice tA r.tables.length tc, .slice mA r.maps.length mc, .slice (some ad) table.length c] 38)
                 have rowx := heap_last w3 (.cells #[.slice tA r.tables.length tc, .slice mA r.maps.length mc, .slice (some ad) table.length c] 38)
                 rw [hWX] at hal rowx
                 refine (concat3_any rowx (H3.out.1.below hal) (H3.out.2.1.below hal) (H3.out.2.2.below hal) (by have := HZ.out; omega) HL.out).mono ?_
                 rintro e w4 ⟨A4, c4, rfl, hi4, hge4, hb4⟩
                 have I4 := Hide.mk hi4
                 have B34 := Hide.mk (hal.trans (hb4.mono hal.size))
                 clear hWX hal rowx hi4 hge4 hb4))
            have S4 := Hide.mk (S3.out.below B34.out)
            have ROW4 := Hide.mk ((B34.out.block w.heap.size (lt_of_row ROW3.out)).trans ROW3.out)
            have B4 := Hide.mk (B3.out.trans (B34.out.mono B3.out.size))
            clear S3 B34 HR2 HR3
            have hn0 := HLN.out
            go_loopw [52] (fun v52 wr => ∃ (i : Nat) (seen : Int → Bool), v52 = .int .i64 (i : Int) ∧ Hide (i ≤ L.length) ∧ Hide (SF = seenF r (r.tables.length + r.maps.length) (L.drop i) i seen) ∧ Hide (Seen wr mb seen) ∧ Hide (Below w.heap.size w wr) ∧ Hide (In .i64 wr A4 L c4) ∧ Hide (wr.heap[w.heap.size]? = some (.cells #[.int .i64 r.epoch, .int .i64 r.blocks, .int .i64 r.next, .int .i64 r.start, .slice tA r.tables.length tc, .slice mA r.maps.length mc] 65 (0, 0)))) (fun v52 _ => L.length - (intOf v52).toNat)
            case atStart => exact ⟨0, _, by first | rfl | simp, ⟨Nat.zero_le _⟩, ⟨by rw [List.drop_zero]; exact HSF.out.symm⟩, S4, B4, I4, ROW4⟩
            case round =>
              obtain ⟨i, seen, rfl, hi, hSF, hS, hB, hI, hrow⟩ := hrel
              have k1 := cell_of (i := 1) hrow.out
              have k4 := cell_of (i := 4) hrow.out
              have k5 := cell_of (i := 5) hrow.out
              simp at k1 k4 k5
              clear S4 B4 I4 ROW4
              have hn0 := HLN.out
              have hz0 := HZ.out
              by_cases hlt0 : i < L.length
              · have hlt : (i : Int) < (L.length : Int) := by omega
                obtain ⟨ad4, hA4, hcell⟩ := Kd.at_int hI.out.reads (i : Int) (by omega) hlt
                rw [Int.toNat_natCast] at hcell
                have hrd : rd L (i : Int) = L[i] := by simp [rd, List.getD_eq_getElem?_getD, hlt0]
                rw [hrd] at hcell
                have HXW := Hide.mk (HLE.out L[i] (List.getElem_mem _))
                have HXT : Hide (L[i] = 0 → r.tables.length + r.maps.length ≤ i) := ⟨fun e => by
                  rcases Nat.lt_or_ge i (r.tables.length + r.maps.length) with q | q
                  · exfalso
                    have hm : L[i] ∈ r.tables ++ r.maps := by
                      have : L[i]? = (r.tables ++ r.maps)[i]? := by rw [HLL.out, List.getElem?_append_left (by rw [List.length_append]; exact q)]
                      rw [List.getElem?_eq_getElem hlt0, List.getElem?_eq_getElem (by rw [List.length_append]; exact q)] at this
                      rw [Option.some.inj this]
                      exact List.getElem_mem _
                    have := check_each HCK.out _ hm
                    omega
                  · exact q⟩
                have E1 : Hide (L.drop i = L[i] :: L.drop (i + 1)) := ⟨List.drop_eq_getElem_cons hlt0⟩
                generalize L[i] = x at *
                have LT := Hide.mk hlt0
                have hR1 := hSF.out
                rw [E1.out, seenF_cons] at hR1
                subst hA4
                by_cases hx : x = 0
                · have hki := HXT.out hx
                  have hkk : ((r.tables.length : Int) + (r.maps.length : Int)) ≤ (i : Int) := by omega
                  rw [if_pos ⟨hx, hki⟩] at hR1
                  have HR1 := Hide.mk hR1
                  subst hx
                  clear hR1 hSF hrd hlt0 hki
                  go_wp2
                  go_roundw
                  case rel => exact ⟨i + 1, seen, by go_num, ⟨by have := LT.out; omega⟩, HR1, hS, hB, hI, hrow⟩
                  case measure => have := LT.out; simp [intOf]; omega
                · rw [if_neg (fun h => hx h.1)] at hR1
                  have q : (x == 0) = false := by simp [hx]
                  by_cases hbl : r.blocks ≤ x
                  · rw [if_pos (.inl hbl)] at hR1
                    have HR1 := Hide.mk hR1
                    clear hR1 hSF hrd hlt0
                    go_wp2
                    go_ret
                    exact ⟨by rw [HRR.out, if_pos HR1.out]; rfl, hB.out⟩
                  · have HBL := Hide.mk hbl
                    have hxs : 0 ≤ x ∧ x < 4096 := ⟨HXW.out.1, by have := (check_range HCK.out).2.1; omega⟩
                    have hlk := hS.out.look (wf_small hxs.1 hxs.2)
                    have HXS := Hide.mk hxs
                    by_cases hsx : seen x = true
                    · rw [if_pos (.inr hsx)] at hR1
                      have HR1 := Hide.mk hR1
                      rw [hsx] at hlk
                      clear hR1 hSF hrd hlt0 hsx hxs
                      go_wp2
                      go_ret
                      exact ⟨by rw [HRR.out, if_pos HR1.out]; rfl, hB.out⟩
                    · rw [if_neg (fun h => by rcases h with h | h; exact hbl h; exact hsx h)] at hR1
                      have HR1 := Hide.mk hR1
                      have hsf : seen x = false := by simpa using hsx
                      rw [hsf] at hlk
                      obtain ⟨w5, hr5, hs5, hg5⟩ := hS.out.put hxs.1 hxs.2
                      have HR5 := Hide.mk hr5
                      have FIN := Hide.mk (show Seen w5 mb (fun j => decide (j = x) || seen j) ∧ Below w.heap.size w w5 ∧ In .i64 w5 (some ad4) L c4 ∧ w5.heap[w.heap.size]? = some (.cells #[.int .i64 r.epoch, .int .i64 r.blocks, .int .i64 r.next, .int .i64 r.start, .slice tA r.tables.length tc, .slice mA r.maps.length mc] 65 (0, 0)) from
                        ⟨hs5, hB.out.grown hg5 hB.out.size (fun k hk => by cases hk; exact HMB.out.1), hI.out.moves (Moves.of_grown hg5) (fun a ha hm => by cases ha; simp only [List.mem_singleton] at hm; obtain ⟨es, clock, hh, _⟩ := hS.out.ex.choose_spec.1.choose_spec.owns; have hc := hcell; rw [World.cell?, show (ad4.add i).block = mb by rw [add_block]; exact hm, hh] at hc; cases hc), (hg5.block w.heap.size (lt_of_row hrow.out) (fun e => HMB.out.2 (Option.some.inj e))).trans hrow.out⟩)
                      clear hR1 hSF hrd hlt0 hsx hsf hr5 hs5 hg5 hxs
                      go_wp2_with (refine map_upd rfl _ _ _ rfl mb x true rfl rfl rfl HR5.out ?_)
                      go_roundw
                      case rel => exact ⟨i + 1, _, by go_num, ⟨by have := LT.out; omega⟩, HR1, ⟨FIN.out.1⟩, ⟨FIN.out.2.1⟩, ⟨FIN.out.2.2.1⟩, ⟨FIN.out.2.2.2⟩⟩
                      case measure => have := LT.out; simp [intOf]; omega
              · have hlt : ¬ (i : Int) < (L.length : Int) := by omega
                have E := Hide.mk (show i = L.length by have := hi.out; omega)
                have hR2 : SF = true := by rw [hSF.out, E.out, List.drop_length]; rfl
                have HR2 := Hide.mk hR2
                clear hlt0 hSF hR2
                have HUB0 := usedBy_any r table (some ad) c tc mc tA mA wr (HI.out.1.below hB.out) (HI.out.2.1.below hB.out) (HI.out.2.2.below hB.out) (by have := HZ.out; omega)
                unfold Root.val at HUB0
                have HUB := Hide.mk HUB0
                clear HUB0
                have HROWR := hrow
                clear hrow
                go_wp2_with (first
                  | (refine load_root rfl _ rfl w.heap.size #[.int .i64 r.epoch, .int .i64 r.blocks, .int .i64 r.next, .int .i64 r.start, .slice tA r.tables.length tc, .slice mA r.maps.length mc] rfl HROWR.out rfl ?_)
                  | (go_at_call 45
                     with_reducible refine HUB.out.mono ?_
                     rintro e w5 ⟨v5, rfl, ho, hb5⟩
                     obtain ⟨A5, c5, hv5, hi5, hge5⟩ := In.of_own ho
                     have HEQ0 := bytes_Equal.calls M mcap m A5 c5 (usedL r table) _ w5 ((HMM.out.below hB.out).below hb5).reads ((HMM.out.below hB.out).below hb5).room hi5.reads hi5.room (equal_eq HMY.out (usedL_bytes _ _))
                     obtain ⟨n5, hn5⟩ : ∃ n, (usedL r table).length = n := ⟨_, rfl⟩
                     rw [hn5] at hv5 HEQ0
                     subst hv5
                     have HEQ := Hide.mk HEQ0
                     have B5 := Hide.mk (hB.out.trans (hb5.mono hB.out.size))
                     clear ho hb5 hi5 hge5 hn5 HEQ0)
                  | (go_at_call 111
                     with_reducible refine HEQ.out.mono ?_
                     rintro e w6 ⟨rfl, hd⟩
                     have B6 := Hide.mk (B5.out.trans (hd.below.mono B5.out.size))
                     clear hd))
                go_ret
                exact ⟨by rw [HRR.out, if_neg (by rw [HR2.out]; simp)]; rfl, B6.out⟩
        · rw [if_neg (fun h => by rcases h with h | h | h; exact h hA; exact hx0 h.2; exact hs h.1)] at hR
          have HRR := Hide.mk hR.symm
          have hA2 : ((table.length : Int) != r.next + 1) = false := by simp [hA]
          clear hR hx hrdn hx0
          have e4 := cell_of (i := 4) ROW3.out
          have e5 := cell_of (i := 5) ROW3.out
          simp at e4 e5
          go_enter Tryz.func75, Tryz.ntmps75
          go_wp2_with (first
            | (rw [HWM.out.1, HWM.out.2]
               refine map_ins rfl _ _ _ rfl mb 0 true rfl rfl rfl HR2.out ?_)
            | (refine map_ins rfl _ _ _ rfl mb 1 true rfl rfl rfl HR3.out ?_)
            | (go_at_call 93
               obtain ⟨WX, hWX⟩ : ∃ W, w3.alloc (.cells #[.slice tA r.tables.length tc, .slice mA r.maps.length mc, .slice (some ad) table.length c] 38) = W := ⟨_, rfl⟩
               rw [hWX]
               have hal := (Below.refl w3.heap.size w3).alloc (Nat.le_refl _) (.cells #[.slice tA r.tables.length tc, .slice mA r.maps.length mc, .slice (some ad) table.length c] 38)
               have rowx := heap_last w3 (.cells #[.slice tA r.tables.length tc, .slice mA r.maps.length mc, .slice (some ad) table.length c] 38)
               rw [hWX] at hal rowx
               refine (concat3_any rowx (H3.out.1.below hal) (H3.out.2.1.below hal) (H3.out.2.2.below hal) (by have := HZ.out; omega) HL.out).mono ?_
               rintro e w4 ⟨A4, c4, rfl, hi4, hge4, hb4⟩
               have I4 := Hide.mk hi4
               have B34 := Hide.mk (hal.trans (hb4.mono hal.size))
               clear hWX hal rowx hi4 hge4 hb4))
          have S4 := Hide.mk (S3.out.below B34.out)
          have ROW4 := Hide.mk ((B34.out.block w.heap.size (lt_of_row ROW3.out)).trans ROW3.out)
          have B4 := Hide.mk (B3.out.trans (B34.out.mono B3.out.size))
          clear S3 B34 HR2 HR3
          have hn0 := HLN.out
          go_loopw [52] (fun v52 wr => ∃ (i : Nat) (seen : Int → Bool), v52 = .int .i64 (i : Int) ∧ Hide (i ≤ L.length) ∧ Hide (SF = seenF r (r.tables.length + r.maps.length) (L.drop i) i seen) ∧ Hide (Seen wr mb seen) ∧ Hide (Below w.heap.size w wr) ∧ Hide (In .i64 wr A4 L c4) ∧ Hide (wr.heap[w.heap.size]? = some (.cells #[.int .i64 r.epoch, .int .i64 r.blocks, .int .i64 r.next, .int .i64 r.start, .slice tA r.tables.length tc, .slice mA r.maps.length mc] 65 (0, 0)))) (fun v52 _ => L.length - (intOf v52).toNat)
          case atStart => exact ⟨0, _, by first | rfl | simp, ⟨Nat.zero_le _⟩, ⟨by rw [List.drop_zero]; exact HSF.out.symm⟩, S4, B4, I4, ROW4⟩
          case round =>
            obtain ⟨i, seen, rfl, hi, hSF, hS, hB, hI, hrow⟩ := hrel
            have k1 := cell_of (i := 1) hrow.out
            have k4 := cell_of (i := 4) hrow.out
            have k5 := cell_of (i := 5) hrow.out
            simp at k1 k4 k5
            clear S4 B4 I4 ROW4
            have hn0 := HLN.out
            have hz0 := HZ.out
            by_cases hlt0 : i < L.length
            · have hlt : (i : Int) < (L.length : Int) := by omega
              obtain ⟨ad4, hA4, hcell⟩ := Kd.at_int hI.out.reads (i : Int) (by omega) hlt
              rw [Int.toNat_natCast] at hcell
              have hrd : rd L (i : Int) = L[i] := by simp [rd, List.getD_eq_getElem?_getD, hlt0]
              rw [hrd] at hcell
              have HXW := Hide.mk (HLE.out L[i] (List.getElem_mem _))
              have HXT : Hide (L[i] = 0 → r.tables.length + r.maps.length ≤ i) := ⟨fun e => by
                rcases Nat.lt_or_ge i (r.tables.length + r.maps.length) with q | q
                · exfalso
                  have hm : L[i] ∈ r.tables ++ r.maps := by
                    have : L[i]? = (r.tables ++ r.maps)[i]? := by rw [HLL.out, List.getElem?_append_left (by rw [List.length_append]; exact q)]
                    rw [List.getElem?_eq_getElem hlt0, List.getElem?_eq_getElem (by rw [List.length_append]; exact q)] at this
                    rw [Option.some.inj this]
                    exact List.getElem_mem _
                  have := check_each HCK.out _ hm
                  omega
                · exact q⟩
              have E1 : Hide (L.drop i = L[i] :: L.drop (i + 1)) := ⟨List.drop_eq_getElem_cons hlt0⟩
              generalize L[i] = x at *
              have LT := Hide.mk hlt0
              have hR1 := hSF.out
              rw [E1.out, seenF_cons] at hR1
              subst hA4
              by_cases hx : x = 0
              · have hki := HXT.out hx
                have hkk : ((r.tables.length : Int) + (r.maps.length : Int)) ≤ (i : Int) := by omega
                rw [if_pos ⟨hx, hki⟩] at hR1
                have HR1 := Hide.mk hR1
                subst hx
                clear hR1 hSF hrd hlt0 hki
                go_wp2
                go_roundw
                case rel => exact ⟨i + 1, seen, by go_num, ⟨by have := LT.out; omega⟩, HR1, hS, hB, hI, hrow⟩
                case measure => have := LT.out; simp [intOf]; omega
              · rw [if_neg (fun h => hx h.1)] at hR1
                have q : (x == 0) = false := by simp [hx]
                by_cases hbl : r.blocks ≤ x
                · rw [if_pos (.inl hbl)] at hR1
                  have HR1 := Hide.mk hR1
                  clear hR1 hSF hrd hlt0
                  go_wp2
                  go_ret
                  exact ⟨by rw [HRR.out, if_pos HR1.out]; rfl, hB.out⟩
                · have HBL := Hide.mk hbl
                  have hxs : 0 ≤ x ∧ x < 4096 := ⟨HXW.out.1, by have := (check_range HCK.out).2.1; omega⟩
                  have hlk := hS.out.look (wf_small hxs.1 hxs.2)
                  have HXS := Hide.mk hxs
                  by_cases hsx : seen x = true
                  · rw [if_pos (.inr hsx)] at hR1
                    have HR1 := Hide.mk hR1
                    rw [hsx] at hlk
                    clear hR1 hSF hrd hlt0 hsx hxs
                    go_wp2
                    go_ret
                    exact ⟨by rw [HRR.out, if_pos HR1.out]; rfl, hB.out⟩
                  · rw [if_neg (fun h => by rcases h with h | h; exact hbl h; exact hsx h)] at hR1
                    have HR1 := Hide.mk hR1
                    have hsf : seen x = false := by simpa using hsx
                    rw [hsf] at hlk
                    obtain ⟨w5, hr5, hs5, hg5⟩ := hS.out.put hxs.1 hxs.2
                    have HR5 := Hide.mk hr5
                    have FIN := Hide.mk (show Seen w5 mb (fun j => decide (j = x) || seen j) ∧ Below w.heap.size w w5 ∧ In .i64 w5 (some ad4) L c4 ∧ w5.heap[w.heap.size]? = some (.cells #[.int .i64 r.epoch, .int .i64 r.blocks, .int .i64 r.next, .int .i64 r.start, .slice tA r.tables.length tc, .slice mA r.maps.length mc] 65 (0, 0)) from
                      ⟨hs5, hB.out.grown hg5 hB.out.size (fun k hk => by cases hk; exact HMB.out.1), hI.out.moves (Moves.of_grown hg5) (fun a ha hm => by cases ha; simp only [List.mem_singleton] at hm; obtain ⟨es, clock, hh, _⟩ := hS.out.ex.choose_spec.1.choose_spec.owns; have hc := hcell; rw [World.cell?, show (ad4.add i).block = mb by rw [add_block]; exact hm, hh] at hc; cases hc), (hg5.block w.heap.size (lt_of_row hrow.out) (fun e => HMB.out.2 (Option.some.inj e))).trans hrow.out⟩)
                    clear hR1 hSF hrd hlt0 hsx hsf hr5 hs5 hg5 hxs
                    go_wp2_with (refine map_upd rfl _ _ _ rfl mb x true rfl rfl rfl HR5.out ?_)
                    go_roundw
                    case rel => exact ⟨i + 1, _, by go_num, ⟨by have := LT.out; omega⟩, HR1, ⟨FIN.out.1⟩, ⟨FIN.out.2.1⟩, ⟨FIN.out.2.2.1⟩, ⟨FIN.out.2.2.2⟩⟩
                    case measure => have := LT.out; simp [intOf]; omega
            · have hlt : ¬ (i : Int) < (L.length : Int) := by omega
              have E := Hide.mk (show i = L.length by have := hi.out; omega)
              have hR2 : SF = true := by rw [hSF.out, E.out, List.drop_length]; rfl
              have HR2 := Hide.mk hR2
              clear hlt0 hSF hR2
              have HUB0 := usedBy_any r table (some ad) c tc mc tA mA wr (HI.out.1.below hB.out) (HI.out.2.1.below hB.out) (HI.out.2.2.below hB.out) (by have := HZ.out; omega)
              unfold Root.val at HUB0
              have HUB := Hide.mk HUB0
              clear HUB0
              have HROWR := hrow
              clear hrow
              go_wp2_with (first
                | (refine load_root rfl _ rfl w.heap.size #[.int .i64 r.epoch, .int .i64 r.blocks, .int .i64 r.next, .int .i64 r.start, .slice tA r.tables.length tc, .slice mA r.maps.length mc] rfl HROWR.out rfl ?_)
                | (go_at_call 45
                   with_reducible refine HUB.out.mono ?_
                   rintro e w5 ⟨v5, rfl, ho, hb5⟩
                   obtain ⟨A5, c5, hv5, hi5, hge5⟩ := In.of_own ho
                   have HEQ0 := bytes_Equal.calls M mcap m A5 c5 (usedL r table) _ w5 ((HMM.out.below hB.out).below hb5).reads ((HMM.out.below hB.out).below hb5).room hi5.reads hi5.room (equal_eq HMY.out (usedL_bytes _ _))
                   obtain ⟨n5, hn5⟩ : ∃ n, (usedL r table).length = n := ⟨_, rfl⟩
                   rw [hn5] at hv5 HEQ0
                   subst hv5
                   have HEQ := Hide.mk HEQ0
                   have B5 := Hide.mk (hB.out.trans (hb5.mono hB.out.size))
                   clear ho hb5 hi5 hge5 hn5 HEQ0)
                | (go_at_call 111
                   with_reducible refine HEQ.out.mono ?_
                   rintro e w6 ⟨rfl, hd⟩
                   have B6 := Hide.mk (B5.out.trans (hd.below.mono B5.out.size))
                   clear hd))
              go_ret
              exact ⟨by rw [HRR.out, if_neg (by rw [HR2.out]; simp)]; rfl, B6.out⟩
    · have hs : ¬ 0 < r.start := by omega
      rw [if_neg (fun h => by rcases h with h | h | h; exact h hA; exact hn h.1; exact hs h.1)] at hR
      have HRR := Hide.mk hR.symm
      have hA2 : ((table.length : Int) != r.next + 1) = false := by simp [hA]
      clear hR
      have e4 := cell_of (i := 4) ROW3.out
      have e5 := cell_of (i := 5) ROW3.out
      simp at e4 e5
      go_enter Tryz.func75, Tryz.ntmps75
      go_wp2_with (first
        | (rw [HWM.out.1, HWM.out.2]
           refine map_ins rfl _ _ _ rfl mb 0 true rfl rfl rfl HR2.out ?_)
        | (refine map_ins rfl _ _ _ rfl mb 1 true rfl rfl rfl HR3.out ?_)
        | (go_at_call 93
           obtain ⟨WX, hWX⟩ : ∃ W, w3.alloc (.cells #[.slice tA r.tables.length tc, .slice mA r.maps.length mc, .slice A table.length c] 38) = W := ⟨_, rfl⟩
           rw [hWX]
           have hal := (Below.refl w3.heap.size w3).alloc (Nat.le_refl _) (.cells #[.slice tA r.tables.length tc, .slice mA r.maps.length mc, .slice A table.length c] 38)
           have rowx := heap_last w3 (.cells #[.slice tA r.tables.length tc, .slice mA r.maps.length mc, .slice A table.length c] 38)
           rw [hWX] at hal rowx
           refine (concat3_any rowx (H3.out.1.below hal) (H3.out.2.1.below hal) (H3.out.2.2.below hal) (by have := HZ.out; omega) HL.out).mono ?_
           rintro e w4 ⟨A4, c4, rfl, hi4, hge4, hb4⟩
           have I4 := Hide.mk hi4
           have B34 := Hide.mk (hal.trans (hb4.mono hal.size))
           clear hWX hal rowx hi4 hge4 hb4))
      have S4 := Hide.mk (S3.out.below B34.out)
      have ROW4 := Hide.mk ((B34.out.block w.heap.size (lt_of_row ROW3.out)).trans ROW3.out)
      have B4 := Hide.mk (B3.out.trans (B34.out.mono B3.out.size))
      clear S3 B34 HR2 HR3
      have hn0 := HLN.out
      go_loopw [52] (fun v52 wr => ∃ (i : Nat) (seen : Int → Bool), v52 = .int .i64 (i : Int) ∧ Hide (i ≤ L.length) ∧ Hide (SF = seenF r (r.tables.length + r.maps.length) (L.drop i) i seen) ∧ Hide (Seen wr mb seen) ∧ Hide (Below w.heap.size w wr) ∧ Hide (In .i64 wr A4 L c4) ∧ Hide (wr.heap[w.heap.size]? = some (.cells #[.int .i64 r.epoch, .int .i64 r.blocks, .int .i64 r.next, .int .i64 r.start, .slice tA r.tables.length tc, .slice mA r.maps.length mc] 65 (0, 0)))) (fun v52 _ => L.length - (intOf v52).toNat)
      case atStart => exact ⟨0, _, by first | rfl | simp, ⟨Nat.zero_le _⟩, ⟨by rw [List.drop_zero]; exact HSF.out.symm⟩, S4, B4, I4, ROW4⟩
      case round =>
        obtain ⟨i, seen, rfl, hi, hSF, hS, hB, hI, hrow⟩ := hrel
        have k1 := cell_of (i := 1) hrow.out
        have k4 := cell_of (i := 4) hrow.out
        have k5 := cell_of (i := 5) hrow.out
        simp at k1 k4 k5
        clear S4 B4 I4 ROW4
        have hn0 := HLN.out
        have hz0 := HZ.out
        by_cases hlt0 : i < L.length
        · have hlt : (i : Int) < (L.length : Int) := by omega
          obtain ⟨ad4, hA4, hcell⟩ := Kd.at_int hI.out.reads (i : Int) (by omega) hlt
          rw [Int.toNat_natCast] at hcell
          have hrd : rd L (i : Int) = L[i] := by simp [rd, List.getD_eq_getElem?_getD, hlt0]
          rw [hrd] at hcell
          have HXW := Hide.mk (HLE.out L[i] (List.getElem_mem _))
          have HXT : Hide (L[i] = 0 → r.tables.length + r.maps.length ≤ i) := ⟨fun e => by
            rcases Nat.lt_or_ge i (r.tables.length + r.maps.length) with q | q
            · exfalso
              have hm : L[i] ∈ r.tables ++ r.maps := by
                have : L[i]? = (r.tables ++ r.maps)[i]? := by rw [HLL.out, List.getElem?_append_left (by rw [List.length_append]; exact q)]
                rw [List.getElem?_eq_getElem hlt0, List.getElem?_eq_getElem (by rw [List.length_append]; exact q)] at this
                rw [Option.some.inj this]
                exact List.getElem_mem _
              have := check_each HCK.out _ hm
              omega
            · exact q⟩
          have E1 : Hide (L.drop i = L[i] :: L.drop (i + 1)) := ⟨List.drop_eq_getElem_cons hlt0⟩
          generalize L[i] = x at *
          have LT := Hide.mk hlt0
          have hR1 := hSF.out
          rw [E1.out, seenF_cons] at hR1
          subst hA4
          by_cases hx : x = 0
          · have hki := HXT.out hx
            have hkk : ((r.tables.length : Int) + (r.maps.length : Int)) ≤ (i : Int) := by omega
            rw [if_pos ⟨hx, hki⟩] at hR1
            have HR1 := Hide.mk hR1
            subst hx
            clear hR1 hSF hrd hlt0 hki
            go_wp2
            go_roundw
            case rel => exact ⟨i + 1, seen, by go_num, ⟨by have := LT.out; omega⟩, HR1, hS, hB, hI, hrow⟩
            case measure => have := LT.out; simp [intOf]; omega
          · rw [if_neg (fun h => hx h.1)] at hR1
            have q : (x == 0) = false := by simp [hx]
            by_cases hbl : r.blocks ≤ x
            · rw [if_pos (.inl hbl)] at hR1
              have HR1 := Hide.mk hR1
              clear hR1 hSF hrd hlt0
              go_wp2
              go_ret
              exact ⟨by rw [HRR.out, if_pos HR1.out]; rfl, hB.out⟩
            · have HBL := Hide.mk hbl
              have hxs : 0 ≤ x ∧ x < 4096 := ⟨HXW.out.1, by have := (check_range HCK.out).2.1; omega⟩
              have hlk := hS.out.look (wf_small hxs.1 hxs.2)
              have HXS := Hide.mk hxs
              by_cases hsx : seen x = true
              · rw [if_pos (.inr hsx)] at hR1
                have HR1 := Hide.mk hR1
                rw [hsx] at hlk
                clear hR1 hSF hrd hlt0 hsx hxs
                go_wp2
                go_ret
                exact ⟨by rw [HRR.out, if_pos HR1.out]; rfl, hB.out⟩
              · rw [if_neg (fun h => by rcases h with h | h; exact hbl h; exact hsx h)] at hR1
                have HR1 := Hide.mk hR1
                have hsf : seen x = false := by simpa using hsx
                rw [hsf] at hlk
                obtain ⟨w5, hr5, hs5, hg5⟩ := hS.out.put hxs.1 hxs.2
                have HR5 := Hide.mk hr5
                have FIN := Hide.mk (show Seen w5 mb (fun j => decide (j = x) || seen j) ∧ Below w.heap.size w w5 ∧ In .i64 w5 (some ad4) L c4 ∧ w5.heap[w.heap.size]? = some (.cells #[.int .i64 r.epoch, .int .i64 r.blocks, .int .i64 r.next, .int .i64 r.start, .slice tA r.tables.length tc, .slice mA r.maps.length mc] 65 (0, 0)) from
                  ⟨hs5, hB.out.grown hg5 hB.out.size (fun k hk => by cases hk; exact HMB.out.1), hI.out.moves (Moves.of_grown hg5) (fun a ha hm => by cases ha; simp only [List.mem_singleton] at hm; obtain ⟨es, clock, hh, _⟩ := hS.out.ex.choose_spec.1.choose_spec.owns; have hc := hcell; rw [World.cell?, show (ad4.add i).block = mb by rw [add_block]; exact hm, hh] at hc; cases hc), (hg5.block w.heap.size (lt_of_row hrow.out) (fun e => HMB.out.2 (Option.some.inj e))).trans hrow.out⟩)
                clear hR1 hSF hrd hlt0 hsx hsf hr5 hs5 hg5 hxs
                go_wp2_with (refine map_upd rfl _ _ _ rfl mb x true rfl rfl rfl HR5.out ?_)
                go_roundw
                case rel => exact ⟨i + 1, _, by go_num, ⟨by have := LT.out; omega⟩, HR1, ⟨FIN.out.1⟩, ⟨FIN.out.2.1⟩, ⟨FIN.out.2.2.1⟩, ⟨FIN.out.2.2.2⟩⟩
                case measure => have := LT.out; simp [intOf]; omega
        · have hlt : ¬ (i : Int) < (L.length : Int) := by omega
          have E := Hide.mk (show i = L.length by have := hi.out; omega)
          have hR2 : SF = true := by rw [hSF.out, E.out, List.drop_length]; rfl
          have HR2 := Hide.mk hR2
          clear hlt0 hSF hR2
          have HUB0 := usedBy_any r table A c tc mc tA mA wr (HI.out.1.below hB.out) (HI.out.2.1.below hB.out) (HI.out.2.2.below hB.out) (by have := HZ.out; omega)
          unfold Root.val at HUB0
          have HUB := Hide.mk HUB0
          clear HUB0
          have HROWR := hrow
          clear hrow
          go_wp2_with (first
            | (refine load_root rfl _ rfl w.heap.size #[.int .i64 r.epoch, .int .i64 r.blocks, .int .i64 r.next, .int .i64 r.start, .slice tA r.tables.length tc, .slice mA r.maps.length mc] rfl HROWR.out rfl ?_)
            | (go_at_call 45
               with_reducible refine HUB.out.mono ?_
               rintro e w5 ⟨v5, rfl, ho, hb5⟩
               obtain ⟨A5, c5, hv5, hi5, hge5⟩ := In.of_own ho
               have HEQ0 := bytes_Equal.calls M mcap m A5 c5 (usedL r table) _ w5 ((HMM.out.below hB.out).below hb5).reads ((HMM.out.below hB.out).below hb5).room hi5.reads hi5.room (equal_eq HMY.out (usedL_bytes _ _))
               obtain ⟨n5, hn5⟩ : ∃ n, (usedL r table).length = n := ⟨_, rfl⟩
               rw [hn5] at hv5 HEQ0
               subst hv5
               have HEQ := Hide.mk HEQ0
               have B5 := Hide.mk (hB.out.trans (hb5.mono hB.out.size))
               clear ho hb5 hi5 hge5 hn5 HEQ0)
            | (go_at_call 111
               with_reducible refine HEQ.out.mono ?_
               rintro e w6 ⟨rfl, hd⟩
               have B6 := Hide.mk (B5.out.trans (hd.below.mono B5.out.size))
               clear hd))
          go_ret
          exact ⟨by rw [HRR.out, if_neg (by rw [HR2.out]; simp)]; rfl, B6.out⟩
  · rw [if_pos (.inl hA)] at hR
    have HRR := Hide.mk hR.symm
    have hA2 : ((table.length : Int) != r.next + 1) = true := by simp [hA]
    clear hR hA
    go_enter Tryz.func75, Tryz.ntmps75
    go_wp2
    go_ret
    exact ⟨by rw [HRR.out]; rfl, below_alloc (Below.refl _ _) _⟩
end Go.Proofs.YtgmkbcoahilkhaaGreat.Sh
end
section
namespace Go.Proofs.YtgmkbcoahilkhaaGreat.Sh
open Go.RowKit YtgmkbcoahilkhaaGreatW.PrintWords YtgmkbcoahilkhaaGreatW.PrintLast YtgmkbcoahilkhaaGreatW.PrintMore MapFn Disk Bitset Page PShadowPlays Num
set_option maxHeartbeats 16000000
set_option maxRecDepth 100000
def T30_15 : Bool × List (List Nat × List Nat) := (true, [([], []), ([0], [0]), ([1], [1]), ([2], [2]), ([2], [2]), ([4, 2], [2, 4]), ([5, 2], [2, 5]), ([6, 2], [2, 6]), ([7, 2], [2, 7]), ([2], [2]), ([3, 8, 9, 2, 2], [2, 3, 8, 9]), ([10, 2], [2, 10]), ([2, 11], [2, 11])])
def B30_15 : List Nat := [0, 1, 3, 7, 7, 23, 55, 119, 247, 7, 1023, 2047, 4095]
theorem tab30_15 : rtab .any (opsOf Tryz.f30 15) = T30_15 := by kernel_rfl
theorem bits30_15 : waitsOk T30_15.2 B30_15 = true := by kernel_rfl
structure Same (D E : DiskSt) : Prop where
  get : E.get = D.get
  blocks : E.blocks = D.blocks
theorem Same.refl (D : DiskSt) : Same D D := ⟨rfl, rfl⟩
theorem Same.read {D E : DiskSt} (h : Same D E) : Same D E.read := ⟨h.get, h.blocks⟩
theorem gatherF_facts (kind : Int) {D0 : DiskSt} (hB : ∀ n, Bytes (D0.get n)) (hl : ∀ n, (D0.get n).length = 256) : ∀ (bl : List Int) (i : Nat) (D : DiskSt) (out : List Int), Same D0 D → Bytes out →
    Bytes (Sh.gatherF kind bl i D out).2.1 ∧ (Sh.gatherF kind bl i D out).2.1.length ≤ out.length + 250 * bl.length ∧ Same D0 (Sh.gatherF kind bl i D out).1
  | [], i, D, out, hs, ho => ⟨ho, by simp [Sh.gatherF], hs⟩
  | n :: ns, i, D, out, hs, ho => by
    rw [gatherF_cons]
    split
    · exact ⟨(fun x hx => by cases hx), by simp, hs⟩
    · split
      · exact ⟨(fun x hx => by cases hx), by simp, hs.read⟩
      · obtain ⟨h1, h2, h3⟩ := gatherF_facts kind hB hl ns (i + 1) D.read (out ++ (openL (D.get n)).2.2.1) hs.read (fun x hx => by
          rcases List.mem_append.1 hx with q | q
          · exact ho x q
          · exact open_body_bytes (by rw [hs.get]; exact hB n) x q)
        refine ⟨h1, Nat.le_trans h2 ?_, h3⟩
        have := open_body_len (b := D.get n) (by rw [hs.get]; exact hl n)
        rw [List.length_append, List.length_cons]
        omega
theorem better_check {best : Root × Int} {i : Int} {x : List Int} (h : best.2 < 0 ∨ best.1.check = 0) : (Root.better best i x).2 < 0 ∨ (Root.better best i x).1.check = 0 := by
  unfold Root.better
  split
  · rename_i hc
    right
    show (Root.get x).1.check = 0
    have h0 := hc.1
    unfold Root.get at h0 ⊢
    repeat' split at h0
    all_goals first | (cases h0; done) | skip
    rename_i a1 a2 a3 a4 a5
    rw [if_neg a1, if_neg a2, if_neg a3, if_neg a4, if_neg a5]
    simpa using a4
  · exact h
theorem choose_check {a b : List Int} (h : (Root.choose a b).2.2 = 0) : (Root.choose a b).1.check = 0 := by
  unfold Root.choose at h ⊢
  simp only at h ⊢
  have hb := better_check (i := 1) (x := b) (better_check (i := 0) (x := a) (best := (⟨-1, 0, 0, 0, [], []⟩, -1)) (.inl (by decide)))
  split
  · rename_i hc
    rw [if_pos hc] at h
    cases h
  · rename_i hc
    rcases hb with q | q
    · exact absurd q hc
    · exact q
theorem roots_facts (D : DiskSt) : Same D (roots D).1 ∧ ((roots D).2.2 = 0 → (roots D).2.1.check = 0 ∧ (roots D).2.1.blocks = D.blocks) := by
  unfold roots
  split
  · exact ⟨Same.refl D, fun h => absurd h (by assumption)⟩
  · split
    · exact ⟨(Same.refl D).read, fun h => absurd h (by assumption)⟩
    · refine ⟨(Same.refl D).read.read, fun h => ?_⟩
      simp only at h ⊢
      split at h
      · cases h
      · rename_i hc
        refine ⟨choose_check h, ?_⟩
        by_cases q : (Root.choose (D.get 0) (D.read.get 1)).1.blocks = D.blocks
        · exact q
        · exact absurd ⟨h, q⟩ hc
theorem unwordsL_half : ∀ (l : List Int), 2 * (unwordsL l).length ≤ l.length
  | [] => by simp [unwordsL]
  | [_] => by simp [unwordsL]
  | x :: y :: r => by
    have := unwordsL_half r
    simp only [unwordsL, List.length_cons]
    omega
theorem unwordsL_each : ∀ {l : List Int}, Bytes l → ∀ n ∈ unwordsL l, 0 ≤ n ∧ n < 65536
  | [], _, n, h => by cases h
  | [_], _, n, h => by cases h
  | x :: y :: r, hb, n, h => by
    simp only [unwordsL, List.mem_cons] at h
    rcases h with rfl | h
    · have hx : 0 ≤ x ∧ x < 256 := hb x (by simp)
      have hy : 0 ≤ y ∧ y < 256 := hb y (by simp)
      omega
    · exact unwordsL_each (fun z hz => hb z (by simp [hz])) n h
theorem ShAt.pushedL {w w1 : World} {F : Foot} {s : Sh} {v1 : Value} {l : List Int} (h : ShAt w F s) (h0 : 0 < s.table.length) (ho : Kd.R (Kd.int .i64) 3 w1 0 (fun _ => True) v1 (s.table ++ l)) (hg : w.grownBy w1 (some F.g)) (hat : v1.ownBlock = some F.g ∨ ∃ b, v1.ownBlock = some b ∧ w.heap.size ≤ b) :
    ∃ g1 cap1, v1 = .slice (some ⟨g1, 0, none⟩) (s.table ++ l).length cap1 ∧ w1.cell? ⟨F.p, 10, none⟩ = some (.slice (some ⟨F.g, 0, none⟩) s.table.length F.cap) ∧ w1.frozen? ⟨F.p, 10, none⟩ = false ∧
      ShAt (w1.setCell ⟨F.p, 10, none⟩ (.slice (some ⟨g1, 0, none⟩) (s.table ++ l).length cap1)) { F with g := g1, cap := cap1 } { s with table := s.table ++ l } ∧
      Goes F { F with g := g1, cap := cap1 } w (w1.setCell ⟨F.p, 10, none⟩ (.slice (some ⟨g1, 0, none⟩) (s.table ++ l).length cap1)) := by
  obtain ⟨g1, cap1, he, _, _, _⟩ := Kd.R_form ho (by rw [List.length_append]; omega)
  subst he
  have hpg : F.p ≠ F.g := h.ne.2.2.2.1
  have row1 := (hg.block F.p (lt_of_row h.row) (by simpa using hpg)).trans h.row
  have hs := set_row (i := 10) row1 (.slice (some ⟨g1, 0, none⟩) (s.table ++ l).length cap1)
  have hm : Moves [F.p, F.g] w (w1.setCell ⟨F.p, 10, none⟩ (.slice (some ⟨g1, 0, none⟩) (s.table ++ l).length cap1)) := ((Moves.of_grown hg).more (by simp)).trans ((set_moves (i := 10) _).more (by simp))
  have hgg : g1 = F.g ∨ w.heap.size ≤ g1 := by
    rcases hat with e | ⟨b, e, hb⟩
    · exact .inl (Option.some.inj e)
    · cases Option.some.inj e; exact .inr hb
  have hgp : F.p ≠ g1 := by
    have := lt_of_row h.row
    rcases hgg with rfl | hgg
    · exact hpg
    · omega
  have hT : Tab (w1.setCell ⟨F.p, 10, none⟩ (.slice (some ⟨g1, 0, none⟩) (s.table ++ l).length cap1)) g1 cap1 (s.table ++ l) := tab_moves (b := [F.p]) ho (set_moves (i := 10) _) (by simpa using Ne.symm hgp)
  have := h.new_table g1 cap1 (s.table ++ l) s.dirty hm (by
    rw [hs]
    unfold Foot.row
    simp) hT hgg
  exact ⟨g1, cap1, rfl, cell_of row1, free_of row1, this.1, this.2⟩
theorem shopen_any (pd ms ml : Nat) (D : DiskSt) (w : World) (h : DiskAt w pd ms ml D) (hB : ∀ n, Bytes (D.get n)) :
    Calls Tryz.prog 30 #[.pointer (some ⟨pd, 0, none⟩)] w fun e w' => ∃ F : Foot, e = .returned (.tuple #[ptrOf (Sh.open_ D).2 F.p, .int .i64 (Sh.open_ D).2]) ∧ DiskAt w' F.pd F.ms F.ml (Sh.open_ D).1.D ∧ ((Sh.open_ D).2 = 0 → ShAt w' F (Sh.open_ D).1) ∧ Born F pd ms ml w w' := by
  have HD := Hide.mk h
  have HOV := Hide.mk (over_any pd ms ml D w h)
  have HBY := Hide.mk hB
  have HLN : Hide (∀ n, (D.get n).length = 256) := ⟨DiskSt.get_len h⟩
  obtain ⟨R, hR⟩ : ∃ R, Sh.open_ D = R := ⟨_, rfl⟩
  rw [hR]
  unfold Sh.open_ at hR
  obtain ⟨hf1, hf2⟩ := roots_facts D
  obtain ⟨D1, r, e1, hA⟩ : ∃ D1 r e1, roots D = (D1, r, e1) := ⟨_, _, _, rfl⟩
  rw [hA] at hR hf1 hf2
  simp only at hR hf1 hf2
  have HEA := Hide.mk hA
  have SA1 := Hide.mk hf1
  clear h hB hA
  by_cases h1 : e1 = 0
  · subst h1
    rw [if_neg (by simp)] at hR
    have HCK := Hide.mk (hf2 rfl)
    have HCL := Hide.mk (check_len HCK.out.1)
    have HCB := Hide.mk (check_range HCK.out.1).2.1
    have HWT : Hide (∀ n ∈ r.tables, MapFn.wf n) := ⟨fun n hn => by have := check_each HCK.out.1 n (List.mem_append_left _ hn); have := HCB.out; exact wf_small (by omega) (by omega)⟩
    have HWM : Hide (∀ n ∈ r.maps, MapFn.wf n) := ⟨fun n hn => by have := check_each HCK.out.1 n (List.mem_append_right _ hn); have := HCB.out; exact wf_small (by omega) (by omega)⟩
    have HBY1 : Hide (∀ n, Bytes (D1.get n)) := ⟨by rw [hf1.get]; exact HBY.out⟩
    obtain ⟨q1, q2, q3⟩ := gatherF_facts 1 HBY.out HLN.out r.tables 0 D1 [] hf1 (fun x hx => by cases hx)
    rw [show Sh.gatherF 1 r.tables 0 D1 [] = gather D1 1 r.tables from rfl] at q1 q2 q3
    obtain ⟨D2, words, e2, hE2⟩ : ∃ D2 words e2, gather D1 1 r.tables = (D2, words, e2) := ⟨_, _, _, rfl⟩
    rw [hE2] at hR q1 q2 q3
    simp only at hR q1 q2 q3
    have HE2 := Hide.mk hE2
    have HWB := Hide.mk q1
    have HWL : Hide (words.length ≤ 6500) := ⟨by have := HCL.out.1; simp at q2; omega⟩
    have HBY2 : Hide (∀ n, Bytes (D2.get n)) := ⟨by rw [q3.get]; exact HBY.out⟩
    obtain ⟨p1, p2, p3⟩ := gatherF_facts 2 HBY.out HLN.out r.maps 0 D2 [] q3 (fun x hx => by cases hx)
    rw [show Sh.gatherF 2 r.maps 0 D2 [] = gather D2 2 r.maps from rfl] at p1 p2 p3
    obtain ⟨D3, mbs, e3, hE3⟩ : ∃ D3 mbs e3, gather D2 2 r.maps = (D3, mbs, e3) := ⟨_, _, _, rfl⟩
    rw [hE3] at hR p1 p2 p3
    simp only at hR p1 p2 p3
    have HE3 := Hide.mk hE3
    have HMB := Hide.mk p1
    clear hf1 hf2 q1 q2 q3 p1 p2 p3 hE2 hE3
    by_cases h2 : e2 = 0
    · subst h2
      rw [if_neg (by simp)] at hR
      by_cases h3 : e3 = 0
      · subst h3
        rw [if_neg (by simp)] at hR
        by_cases hev : words.length % 2 = 0
        · rw [if_neg (by simpa using hev)] at hR
          have HEV := Hide.mk hev
          obtain ⟨l, hl⟩ : ∃ l, unwordsL words = l := ⟨_, rfl⟩
          have HLW := Hide.mk hl
          have HLL : Hide (l.length ≤ 4000) := ⟨by
            have := unwordsL_half words
            have := HWL.out
            rw [← hl]
            omega⟩
          have HLB : Hide (∀ n ∈ l, 0 ≤ n ∧ n < 65536) := ⟨by rw [← hl]; exact unwordsL_each HWB.out⟩
          rw [hl] at hR
          obtain ⟨b, hb⟩ : ∃ b, right r (0 :: l) mbs = b := ⟨_, rfl⟩
          have HRTE := Hide.mk hb
          rw [hb] at hR
          cases b
          · rw [if_pos rfl] at hR
            have HRR := Hide.mk hR.symm
            clear hR hev hl hb
            go_enter Tryz.func30, Tryz.ntmps30
            go_wp2_with (first
              | (go_at_call 40
                 refine HOV.out.mono ?_
                 rintro e w1 ⟨F, rfl, hs, hpd, hms, hml, hb, hFp, hFg⟩
                 have S1 := Hide.mk hs
                 have HF := Hide.mk (show F.pd = pd ∧ F.ms = ms ∧ F.ml = ml ∧ w.heap.size ≤ F.p ∧ w.heap.size ≤ F.g from ⟨hpd, hms, hml, hFp, hFg⟩)
                 have B1 := Hide.mk hb
                 have HRT0 := roots_any pd ms ml D w1 (HD.out.below hb) HBY.out
                 rw [HEA.out] at HRT0
                 simp only at HRT0
                 unfold Root.val at HRT0
                 have HRT := Hide.mk HRT0
                 clear hs hpd hms hml hb hFp hFg HRT0)
              | (go_at_call 72
                 with_reducible refine HRT.out.mono ?_
                 rintro e w2 ⟨tA, tc, mA, mc, rfl, hd, hT, hM, hG, hm⟩
                 have s20 := S1.out.disk_moves (ml' := F.ml) (D' := D1) (by rw [HF.out.1, HF.out.2.1, HF.out.2.2.1]; exact hd) (.inl rfl) (hm.more (fun x hx => by simp only [List.mem_singleton] at hx; subst hx; left; simp [HF.out.1]))
                 have S2 := Hide.mk (show ShAt w2 F (Sh.over D1) from s20.1)
                 have G2 := Hide.mk (show Goes F F w1 w2 from s20.2)
                 have HT2 := Hide.mk hT
                 have HM2 := Hide.mk hM
                 have HG2 := Hide.mk hG
                 obtain ⟨W3, hW3⟩ : ∃ W, w2.alloc (.cells #[.int .i64 r.epoch, .int .i64 r.blocks, .int .i64 r.next, .int .i64 r.start, .slice tA r.tables.length tc, .slice mA r.maps.length mc] 65) = W := ⟨_, rfl⟩
                 have hal := (Below.refl w2.heap.size w2).alloc (Nat.le_refl _) (.cells #[.int .i64 r.epoch, .int .i64 r.blocks, .int .i64 r.next, .int .i64 r.start, .slice tA r.tables.length tc, .slice mA r.maps.length mc] 65)
                 have rowq := heap_last w2 (.cells #[.int .i64 r.epoch, .int .i64 r.blocks, .int .i64 r.next, .int .i64 r.start, .slice tA r.tables.length tc, .slice mA r.maps.length mc] 65)
                 rw [hW3] at hal rowq
                 have hoffT : ∀ a, tA = some a → ¬ a.block ∈ F.own := fun a ha hx => by have := hG.1 a ha; have := S1.out.lts _ hx; omega
                 have hoffM : ∀ a, mA = some a → ¬ a.block ∈ F.own := fun a ha hx => by have := hG.2 a ha; have := S1.out.lts _ hx; omega
                 have RI0 : RootIn W3 r tA tc mA mc F.own := ⟨hT.below hal, hM.below hal, hoffT, hoffM, by have := HCL.out.1; have := HCL.out.2; omega, by have := HCB.out; omega⟩
                 have RI3 := Hide.mk RI0
                 have S3 := Hide.mk (s20.1.below hal)
                 have B3 := Hide.mk hal
                 have HBR : Hide (¬ w2.heap.size ∈ F.own) := ⟨fun hx => by have := s20.1.lts _ hx; omega⟩
                 have ROW3 := Hide.mk rowq
                 have HW3 := Hide.mk hW3
                 have HGA0 := gather_any 1 tA tc r.tables W3 F (Sh.over D1) S3.out RI0.tables hoffT HWT.out HBY1.out (by have := HCL.out.1; omega)
                 rw [show (Sh.over D1).D = D1 from rfl, HE2.out] at HGA0
                 simp only at HGA0
                 have HGA := Hide.mk HGA0
                 have k4 := cell_of (i := 4) rowq
                 simp at k4
                 clear hal rowq hoffT hoffM RI0 HGA0 hW3
                 clear hd hT hM hG hm s20)
              | (go_at_call 73
                 rw [HW3.out]
                 with_reducible refine HGA.out.mono ?_
                 rintro e w4 ⟨v4, rfl, ho, hs, hg⟩
                 obtain ⟨A4, c4, hv4, hi4, hge4⟩ := In.of_own ho
                 obtain ⟨n4, hn4⟩ : ∃ n, words.length = n := ⟨_, rfl⟩
                 rw [hn4] at hv4
                 subst hv4
                 have I4 := Hide.mk hi4
                 have HN4 := Hide.mk hn4
                 have S4 := Hide.mk (show ShAt w4 F (Sh.over D2) from hs)
                 have G4 := Hide.mk hg
                 have ROW4 := Hide.mk ((hg.moves.block w2.heap.size (lt_of_row ROW3.out) HBR.out).trans ROW3.out)
                 have RI4 := Hide.mk (RI3.out.moves hg.moves (fun x hx => .inl hx))
                 have HGB0 := gather_any 2 mA mc r.maps w4 F (Sh.over D2) hs RI4.out.maps RI4.out.offM HWM.out HBY2.out (by have := HCL.out.2; omega)
                 rw [show (Sh.over D2).D = D2 from rfl, HE3.out] at HGB0
                 simp only at HGB0
                 have HGB := Hide.mk HGB0
                 have k5 := cell_of (i := 5) ROW4.out
                 simp at k5
                 clear HGB0
                 have GE4 := Hide.mk (show ∀ a, A4 = some a → ¬ a.block ∈ F.own from fun a ha hx => by have := hge4 a ha; have := S3.out.lts _ hx; omega)
                 clear ho hs hg hi4 hge4 hn4)
              | (go_at_call 73
                 with_reducible refine HGB.out.mono ?_
                 rintro e w5 ⟨v5, rfl, ho, hs, hg⟩
                 obtain ⟨A5, c5, hv5, hi5, hge5⟩ := In.of_own ho
                 obtain ⟨n5, hn5⟩ : ∃ n, mbs.length = n := ⟨_, rfl⟩
                 rw [hn5] at hv5
                 subst hv5
                 have I5 := Hide.mk hi5
                 have HN5 := Hide.mk hn5
                 have S5 := Hide.mk (show ShAt w5 F (Sh.over D3) from hs)
                 have G5 := Hide.mk (G4.out.trans hg)
                 have ROW5 := Hide.mk ((hg.moves.block w2.heap.size (lt_of_row ROW4.out) HBR.out).trans ROW4.out)
                 have I45 := I4.out.moves hg.moves GE4.out
                 have HUN0 := unwords_any A4 c4 words w5 I45 HWB.out (by have := HWL.out; omega)
                 rw [if_pos HEV.out, if_pos HEV.out, HLW.out, HN4.out] at HUN0
                 have HUN := Hide.mk HUN0
                 have RI5 := Hide.mk (RI4.out.moves hg.moves (fun x hx => .inl hx))
                 have GE5 := Hide.mk (show ∀ a, A5 = some a → ¬ a.block ∈ F.own from fun a ha hx => by have := hge5 a ha; have := S4.out.lts _ hx; omega)
                 clear I45 HUN0
                 clear ho hs hg hi5 hge5 hn5)
              | (go_at_call 74
                 with_reducible refine HUN.out.mono ?_
                 rintro e w6 ⟨v6, rfl, ho, hb⟩
                 obtain ⟨A6, c6, hv6, hi6, hge6⟩ := In.of_own ho
                 obtain ⟨n6, hn6⟩ : ∃ n, l.length = n := ⟨_, rfl⟩
                 rw [hn6] at hv6
                 subst hv6
                 have I6 := Hide.mk hi6
                 have HN6 := Hide.mk hn6
                 have S6 := Hide.mk (S5.out.below hb)
                 have B6 := Hide.mk hb
                 have ROW6 := Hide.mk ((hb.block w2.heap.size (lt_of_row ROW5.out)).trans ROW5.out)
                 have c10 : w6.cell? ⟨F.p, 10, none⟩ = some (.slice (some ⟨F.g, 0, none⟩) 1 F.cap) := S6.out.cells.c10
                 clear ho hb hi6 hge6 hn6)
              | ((with_reducible refine gate_builtin (b := .append) (xs := #[.tmp 52, .tmp 53]) rfl ?_); at_builtin
                 refine Kd.R_append_rows (Kd.int .i64) (w0 := w6) 0 rfl (.tmp 52) (.tmp 53) 38 3 (.int .i64 0) 8 rfl Tryz.underlying38 infoI rfl (by decide) (by omega) (.slice (some ⟨F.g, 0, none⟩) 1 F.cap) [0] l A6 n6 c6 (fun _ => True) (fun _ => False) rfl rfl ?aO ?aR (fun _ _ h => h) (fun _ h => h.elim) (fun _ _ => trivial) (Below.refl _ _) (Nat.zero_le _) ?aL ?_
                 case aO => exact S6.out.table
                 case aR => have h := I6.out.reads; rw [HN6.out] at h; exact h
                 case aL => have := HLL.out; have := HN6.out; simp only [List.length_cons, List.length_nil]; omega
                 intro v7 w7 ho hb hg hat
                 obtain ⟨g7, cap7, rfl, c7, f7, hS7, hG7⟩ := S6.out.pushedL (Nat.one_pos : 0 < 1) ho hg (by simpa [Value.ownBlock] using hat)
                 rw [show (Sh.over D3).table ++ l = 0 :: l from rfl] at hS7 hG7 ⊢
                 rw [show (Sh.over D3).table.length = 1 from rfl] at c7
                 obtain ⟨n7, hn7⟩ : ∃ n, ((0 : Int) :: l).length = n := ⟨_, rfl⟩
                 rw [hn7] at hS7 hG7 ⊢
                 have HN7 := Hide.mk hn7
                 have S7 := Hide.mk hS7
                 have G7 := Hide.mk hG7
                 clear ho hb hg hat hS7 hG7 hn7 c10))
            obtain ⟨W7, hW7⟩ : ∃ W, w7.setCell ⟨F.p, 10, none⟩ (.slice (some ⟨g7, 0, none⟩) n7 cap7) = W := ⟨_, rfl⟩
            rw [hW7] at S7 G7 ⊢
            have hdr := below_drew (Below.refl W7.heap.size W7)
            have S7d := Hide.mk (S7.out.below hdr)
            have G57 := Hide.mk ((Goes.below (F := F) B6.out).trans (G7.out.trans (Goes.below hdr)))
            have ROW7 := Hide.mk ((G57.out.moves.block w2.heap.size (lt_of_row ROW5.out) HBR.out).trans ROW5.out)
            have RI7 := Hide.mk (RI5.out.foot G57.out)
            have c107 : W7.drew.cell? ⟨F.p, 10, none⟩ = some (.slice (some ⟨g7, 0, none⟩) ((0 : Int) :: l).length cap7) := S7d.out.cells.c10
            rw [HN7.out] at c107
            obtain ⟨br, hbr⟩ : ∃ b, w2.heap.size = b := ⟨_, rfl⟩
            rw [hbr] at ROW7 ⊢
            have HB7 := Hide.mk (And.intro hbr hW7)
            have KC := And.intro c107 ROW7.out
            clear hW7 hdr c107 hbr
            have HRI0 := right_any r tc mc tA mA (some ⟨g7, 0, none⟩) cap7 (0 :: l) A5 c5 mbs W7.drew RI7.out.tables RI7.out.maps S7d.out.table.in_ (I5.out.moves G57.out.moves GE5.out) HMB.out HCK.out.1 (fun n hn => by rcases List.mem_cons.1 hn with e | hn; exact Int.le_of_eq e.symm; exact (HLB.out n hn).1) (by have := HLL.out; rw [List.length_cons]; omega)
            rw [HN7.out, HN5.out, HRTE.out] at HRI0
            unfold Root.val at HRI0
            have HRI := Hide.mk HRI0
            clear HRI0
            refine start_ (n := 13) (S := fun w' => w'.cell? ⟨F.p, 10, none⟩ = some (.slice (some ⟨g7, 0, none⟩) n7 cap7) ∧ w'.heap[br]? = some (.cells #[.int .i64 r.epoch, .int .i64 r.blocks, .int .i64 r.next, .int .i64 r.start, .slice tA r.tables.length tc, .slice mA r.maps.length mc] 65 (0, 0))) (ds := []) #[false, false, false, false, false, false, false, false, false, false, false, false, false] (by kernel_rfl) rfl rfl KC (fun hHeld => ?_); refine with_tabW tab30_15 bits30_15 (fun HT_ HW_ => ?_)
            refine pu_ (i := 0) (N := some 58) (v := ?_) (a' := ?_) (bls 13 1) HT_.out rfl rfl (by kernel_rfl) (by rfl) ?_ ?_ ?_
            rotate_left
            · intro w'; go_simp; with_reducible rfl
            rotate_left
            · simp only [Act.put, qT_, q0_, q1_, i64_w, i32_w]; rfl
            refine pu_ (i := 1) (N := some 59) (v := ?_) (a' := ?_) (bls 13 3) HT_.out rfl rfl (by kernel_rfl) (by rfl) ?_ ?_ ?_
            rotate_left
            · intro w'; go_simp; with_reducible rfl
            rotate_left
            · simp only [Act.put, qT_, q0_, q1_, i64_w, i32_w]; rfl
            refine pu_ (i := 2) (N := some 60) (v := ?_) (a' := ?_) (bls 13 7) HT_.out rfl rfl (by kernel_rfl) (by rfl) ?_ ?_ ?_
            rotate_left
            · intro w'; go_simp; with_reducible rfl
            rotate_left
            · simp only [Act.put, qT_, q0_, q1_, i64_w, i32_w]; rfl
            refine take_ (i := 3) (N := some 61) (v := ?_) (a' := ?_) (bls 13 15) rfl rfl (take_ofW HT_.out HW_.out (by kernel_rfl)) (fun _ _ _ h => h) (Or.inl ⟨by rfl, ?_⟩) hHeld ?_ ?_
            rotate_left
            · intro w' hS'
              refine exec_loadR (x := .tmp 5) ?_ ?_ hS'.2
              · rfl
              · rfl
            rotate_left
            · simp only [Act.put, qT_, q0_, q1_, i64_w, i32_w]; rfl
            refine pu_ (i := 4) (N := some 62) (v := ?_) (a' := ?_) (bls 13 31) HT_.out rfl rfl (by kernel_rfl) (by rfl) ?_ ?_ ?_
            rotate_left
            · intro w'; go_simp; with_reducible rfl
            rotate_left
            · simp only [Act.put, qT_, q0_, q1_, i64_w, i32_w]; rfl
            refine pu_ (i := 5) (N := some 63) (v := ?_) (a' := ?_) (bls 13 63) HT_.out rfl rfl (by kernel_rfl) (by rfl) ?_ ?_ ?_
            rotate_left
            · intro w'; go_simp; with_reducible rfl
            rotate_left
            · simp only [Act.put, qT_, q0_, q1_, i64_w, i32_w]; rfl
            refine pu_ (i := 6) (N := some 64) (v := ?_) (a' := ?_) (bls 13 127) HT_.out rfl rfl (by kernel_rfl) (by rfl) ?_ ?_ ?_
            rotate_left
            · intro w'; go_simp; with_reducible rfl
            rotate_left
            · simp only [Act.put, qT_, q0_, q1_, i64_w, i32_w]; rfl
            refine pu_ (i := 7) (N := some 65) (v := ?_) (a' := ?_) (bls 13 255) HT_.out rfl rfl (by kernel_rfl) (by rfl) ?_ ?_ ?_
            rotate_left
            · intro w'; go_simp; with_reducible rfl
            rotate_left
            · simp only [Act.put, qT_, q0_, q1_, i64_w, i32_w]; rfl
            refine take_ (i := 8) (N := some 66) (v := ?_) (a' := ?_) (bls 13 511) rfl rfl (take_ofW HT_.out HW_.out (by kernel_rfl)) (fun _ _ _ h => h) (Or.inl ⟨by rfl, ?_⟩) hHeld ?_ ?_
            rotate_left
            · intro w' hS'
              have s1 := hS'.1
              go_simp
              rfl
            rotate_left
            · simp only [Act.put, qT_, q0_, q1_, i64_w, i32_w]; rfl
            refine pu_ (i := 9) (N := some 67) (v := ?_) (a' := ?_) (bls 13 1023) HT_.out rfl rfl (by kernel_rfl) (by rfl) ?_ ?_ ?_
            rotate_left
            · intro w'; go_simp; with_reducible rfl
            rotate_left
            · simp only [Act.put, qT_, q0_, q1_, i64_w, i32_w]; rfl
            refine one_ (i := 10) (N := some 68) (bls 13 2047) rfl rfl (one_of HT_.out (by kernel_rfl)) (by decide) (fun K hK => ?_)
            refine goes_ Tryz.func75 (by kernel_rfl) rfl #[.agg #[.int .i64 r.epoch, .int .i64 r.blocks, .int .i64 r.next, .int .i64 r.start, .slice tA r.tables.length tc, .slice mA r.maps.length mc], .slice (some ⟨g7, 0, none⟩) n7 cap7, .slice A5 n5 c5] (by rfl) rfl rfl (by (try simp only [List.map_toArray, List.map_cons, List.map_nil]); first | done | rfl) ?_
            with_reducible refine HRI.out.mono ?_
            rintro e w8 ⟨rfl, hb8⟩
            refine ⟨_, rfl, ?_⟩
            have B8 := Hide.mk hb8
            have KC1 := And.intro (pw_cell_below hb8 KC.1) ((hb8.block br (lt_of_row KC.2)).trans KC.2)
            clear hb8
            refine hK.out _ _ KC1 (fun hHeld => ?_)
            clear hK K
            refine norm_ (a' := ?_) ?_ ?_
            rotate_left
            · show Act.put _ (some 68) _ = _; simp only [Act.put, qT_, q0_, q1_, i64_w, i32_w]; rfl
            refine pu_ (i := 11) (N := some 69) (v := ?_) (a' := ?_) (bls 13 4095) HT_.out rfl rfl (by kernel_rfl) (by rfl) ?_ ?_ ?_
            rotate_left
            · intro w'; go_simp; with_reducible rfl
            rotate_left
            · simp only [Act.put, qT_, q0_, q1_, i64_w, i32_w]; rfl
            refine pu_ (i := 12) (N := some 70) (v := ?_) (a' := ?_) (bls 13 8191) HT_.out rfl rfl (by kernel_rfl) (by rfl) ?_ ?_ ?_
            rotate_left
            · intro w'; go_simp; with_reducible rfl
            rotate_left
            · simp only [Act.put, qT_, q0_, q1_, i64_w, i32_w]; rfl
            refine done_ (done_of HT_.out (by kernel_rfl)) ?_
            clear KC KC1 hHeld
            go_wp2
            go_ret2
            rw [HRR.out]
            exact ⟨{ F with g := g7, cap := cap7 }, by rw [ptrOf_bad (by show ¬ (4 : Int) = 0; decide)]; rfl, (S7d.out.below B8.out).disk, fun e => absurd e (by show ¬ (4 : Int) = 0; decide), Born.of_goes B1.out HF.out ((((G2.out.trans (Goes.below B3.out)).trans G5.out).trans G57.out).trans (Goes.below B8.out)).toGoes0⟩
          · rw [if_neg (by simp)] at hR
            have HRR := Hide.mk hR.symm
            clear hR hev hl hb
            go_enter Tryz.func30, Tryz.ntmps30
            go_wp2_with (first
              | (go_at_call 40
                 refine HOV.out.mono ?_
                 rintro e w1 ⟨F, rfl, hs, hpd, hms, hml, hb, hFp, hFg⟩
                 have S1 := Hide.mk hs
                 have HF := Hide.mk (show F.pd = pd ∧ F.ms = ms ∧ F.ml = ml ∧ w.heap.size ≤ F.p ∧ w.heap.size ≤ F.g from ⟨hpd, hms, hml, hFp, hFg⟩)
                 have B1 := Hide.mk hb
                 have HRT0 := roots_any pd ms ml D w1 (HD.out.below hb) HBY.out
                 rw [HEA.out] at HRT0
                 simp only at HRT0
                 unfold Root.val at HRT0
                 have HRT := Hide.mk HRT0
                 clear hs hpd hms hml hb hFp hFg HRT0)
              | (go_at_call 72
                 with_reducible refine HRT.out.mono ?_
                 rintro e w2 ⟨tA, tc, mA, mc, rfl, hd, hT, hM, hG, hm⟩
                 have s20 := S1.out.disk_moves (ml' := F.ml) (D' := D1) (by rw [HF.out.1, HF.out.2.1, HF.out.2.2.1]; exact hd) (.inl rfl) (hm.more (fun x hx => by simp only [List.mem_singleton] at hx; subst hx; left; simp [HF.out.1]))
                 have S2 := Hide.mk (show ShAt w2 F (Sh.over D1) from s20.1)
                 have G2 := Hide.mk (show Goes F F w1 w2 from s20.2)
                 have HT2 := Hide.mk hT
                 have HM2 := Hide.mk hM
                 have HG2 := Hide.mk hG
                 obtain ⟨W3, hW3⟩ : ∃ W, w2.alloc (.cells #[.int .i64 r.epoch, .int .i64 r.blocks, .int .i64 r.next, .int .i64 r.start, .slice tA r.tables.length tc, .slice mA r.maps.length mc] 65) = W := ⟨_, rfl⟩
                 have hal := (Below.refl w2.heap.size w2).alloc (Nat.le_refl _) (.cells #[.int .i64 r.epoch, .int .i64 r.blocks, .int .i64 r.next, .int .i64 r.start, .slice tA r.tables.length tc, .slice mA r.maps.length mc] 65)
                 have rowq := heap_last w2 (.cells #[.int .i64 r.epoch, .int .i64 r.blocks, .int .i64 r.next, .int .i64 r.start, .slice tA r.tables.length tc, .slice mA r.maps.length mc] 65)
                 rw [hW3] at hal rowq
                 have hoffT : ∀ a, tA = some a → ¬ a.block ∈ F.own := fun a ha hx => by have := hG.1 a ha; have := S1.out.lts _ hx; omega
                 have hoffM : ∀ a, mA = some a → ¬ a.block ∈ F.own := fun a ha hx => by have := hG.2 a ha; have := S1.out.lts _ hx; omega
                 have RI0 : RootIn W3 r tA tc mA mc F.own := ⟨hT.below hal, hM.below hal, hoffT, hoffM, by have := HCL.out.1; have := HCL.out.2; omega, by have := HCB.out; omega⟩
                 have RI3 := Hide.mk RI0
                 have S3 := Hide.mk (s20.1.below hal)
                 have B3 := Hide.mk hal
                 have HBR : Hide (¬ w2.heap.size ∈ F.own) := ⟨fun hx => by have := s20.1.lts _ hx; omega⟩
                 have ROW3 := Hide.mk rowq
                 have HW3 := Hide.mk hW3
                 have HGA0 := gather_any 1 tA tc r.tables W3 F (Sh.over D1) S3.out RI0.tables hoffT HWT.out HBY1.out (by have := HCL.out.1; omega)
                 rw [show (Sh.over D1).D = D1 from rfl, HE2.out] at HGA0
                 simp only at HGA0
                 have HGA := Hide.mk HGA0
                 have k4 := cell_of (i := 4) rowq
                 simp at k4
                 clear hal rowq hoffT hoffM RI0 HGA0 hW3
                 clear hd hT hM hG hm s20)
              | (go_at_call 73
                 rw [HW3.out]
                 with_reducible refine HGA.out.mono ?_
                 rintro e w4 ⟨v4, rfl, ho, hs, hg⟩
                 obtain ⟨A4, c4, hv4, hi4, hge4⟩ := In.of_own ho
                 obtain ⟨n4, hn4⟩ : ∃ n, words.length = n := ⟨_, rfl⟩
                 rw [hn4] at hv4
                 subst hv4
                 have I4 := Hide.mk hi4
                 have HN4 := Hide.mk hn4
                 have S4 := Hide.mk (show ShAt w4 F (Sh.over D2) from hs)
                 have G4 := Hide.mk hg
                 have ROW4 := Hide.mk ((hg.moves.block w2.heap.size (lt_of_row ROW3.out) HBR.out).trans ROW3.out)
                 have RI4 := Hide.mk (RI3.out.moves hg.moves (fun x hx => .inl hx))
                 have HGB0 := gather_any 2 mA mc r.maps w4 F (Sh.over D2) hs RI4.out.maps RI4.out.offM HWM.out HBY2.out (by have := HCL.out.2; omega)
                 rw [show (Sh.over D2).D = D2 from rfl, HE3.out] at HGB0
                 simp only at HGB0
                 have HGB := Hide.mk HGB0
                 have k5 := cell_of (i := 5) ROW4.out
                 simp at k5
                 clear HGB0
                 have GE4 := Hide.mk (show ∀ a, A4 = some a → ¬ a.block ∈ F.own from fun a ha hx => by have := hge4 a ha; have := S3.out.lts _ hx; omega)
                 clear ho hs hg hi4 hge4 hn4)
              | (go_at_call 73
                 with_reducible refine HGB.out.mono ?_
                 rintro e w5 ⟨v5, rfl, ho, hs, hg⟩
                 obtain ⟨A5, c5, hv5, hi5, hge5⟩ := In.of_own ho
                 obtain ⟨n5, hn5⟩ : ∃ n, mbs.length = n := ⟨_, rfl⟩
                 rw [hn5] at hv5
                 subst hv5
                 have I5 := Hide.mk hi5
                 have HN5 := Hide.mk hn5
                 have S5 := Hide.mk (show ShAt w5 F (Sh.over D3) from hs)
                 have G5 := Hide.mk (G4.out.trans hg)
                 have ROW5 := Hide.mk ((hg.moves.block w2.heap.size (lt_of_row ROW4.out) HBR.out).trans ROW4.out)
                 have I45 := I4.out.moves hg.moves GE4.out
                 have HUN0 := unwords_any A4 c4 words w5 I45 HWB.out (by have := HWL.out; omega)
                 rw [if_pos HEV.out, if_pos HEV.out, HLW.out, HN4.out] at HUN0
                 have HUN := Hide.mk HUN0
                 have RI5 := Hide.mk (RI4.out.moves hg.moves (fun x hx => .inl hx))
                 have GE5 := Hide.mk (show ∀ a, A5 = some a → ¬ a.block ∈ F.own from fun a ha hx => by have := hge5 a ha; have := S4.out.lts _ hx; omega)
                 clear I45 HUN0
                 clear ho hs hg hi5 hge5 hn5)
              | (go_at_call 74
                 with_reducible refine HUN.out.mono ?_
                 rintro e w6 ⟨v6, rfl, ho, hb⟩
                 obtain ⟨A6, c6, hv6, hi6, hge6⟩ := In.of_own ho
                 obtain ⟨n6, hn6⟩ : ∃ n, l.length = n := ⟨_, rfl⟩
                 rw [hn6] at hv6
                 subst hv6
                 have I6 := Hide.mk hi6
                 have HN6 := Hide.mk hn6
                 have S6 := Hide.mk (S5.out.below hb)
                 have B6 := Hide.mk hb
                 have ROW6 := Hide.mk ((hb.block w2.heap.size (lt_of_row ROW5.out)).trans ROW5.out)
                 have c10 : w6.cell? ⟨F.p, 10, none⟩ = some (.slice (some ⟨F.g, 0, none⟩) 1 F.cap) := S6.out.cells.c10
                 clear ho hb hi6 hge6 hn6)
              | ((with_reducible refine gate_builtin (b := .append) (xs := #[.tmp 52, .tmp 53]) rfl ?_); at_builtin
                 refine Kd.R_append_rows (Kd.int .i64) (w0 := w6) 0 rfl (.tmp 52) (.tmp 53) 38 3 (.int .i64 0) 8 rfl Tryz.underlying38 infoI rfl (by decide) (by omega) (.slice (some ⟨F.g, 0, none⟩) 1 F.cap) [0] l A6 n6 c6 (fun _ => True) (fun _ => False) rfl rfl ?aO ?aR (fun _ _ h => h) (fun _ h => h.elim) (fun _ _ => trivial) (Below.refl _ _) (Nat.zero_le _) ?aL ?_
                 case aO => exact S6.out.table
                 case aR => have h := I6.out.reads; rw [HN6.out] at h; exact h
                 case aL => have := HLL.out; have := HN6.out; simp only [List.length_cons, List.length_nil]; omega
                 intro v7 w7 ho hb hg hat
                 obtain ⟨g7, cap7, rfl, c7, f7, hS7, hG7⟩ := S6.out.pushedL (Nat.one_pos : 0 < 1) ho hg (by simpa [Value.ownBlock] using hat)
                 rw [show (Sh.over D3).table ++ l = 0 :: l from rfl] at hS7 hG7 ⊢
                 rw [show (Sh.over D3).table.length = 1 from rfl] at c7
                 obtain ⟨n7, hn7⟩ : ∃ n, ((0 : Int) :: l).length = n := ⟨_, rfl⟩
                 rw [hn7] at hS7 hG7 ⊢
                 have HN7 := Hide.mk hn7
                 have S7 := Hide.mk hS7
                 have G7 := Hide.mk hG7
                 clear ho hb hg hat hS7 hG7 hn7 c10))
            obtain ⟨W7, hW7⟩ : ∃ W, w7.setCell ⟨F.p, 10, none⟩ (.slice (some ⟨g7, 0, none⟩) n7 cap7) = W := ⟨_, rfl⟩
            rw [hW7] at S7 G7 ⊢
            have hdr := below_drew (Below.refl W7.heap.size W7)
            have S7d := Hide.mk (S7.out.below hdr)
            have G57 := Hide.mk ((Goes.below (F := F) B6.out).trans (G7.out.trans (Goes.below hdr)))
            have ROW7 := Hide.mk ((G57.out.moves.block w2.heap.size (lt_of_row ROW5.out) HBR.out).trans ROW5.out)
            have RI7 := Hide.mk (RI5.out.foot G57.out)
            have c107 : W7.drew.cell? ⟨F.p, 10, none⟩ = some (.slice (some ⟨g7, 0, none⟩) ((0 : Int) :: l).length cap7) := S7d.out.cells.c10
            rw [HN7.out] at c107
            obtain ⟨br, hbr⟩ : ∃ b, w2.heap.size = b := ⟨_, rfl⟩
            rw [hbr] at ROW7 ⊢
            have HB7 := Hide.mk (And.intro hbr hW7)
            have KC := And.intro c107 ROW7.out
            clear hW7 hdr c107 hbr
            have HRI0 := right_any r tc mc tA mA (some ⟨g7, 0, none⟩) cap7 (0 :: l) A5 c5 mbs W7.drew RI7.out.tables RI7.out.maps S7d.out.table.in_ (I5.out.moves G57.out.moves GE5.out) HMB.out HCK.out.1 (fun n hn => by rcases List.mem_cons.1 hn with e | hn; exact Int.le_of_eq e.symm; exact (HLB.out n hn).1) (by have := HLL.out; rw [List.length_cons]; omega)
            rw [HN7.out, HN5.out, HRTE.out] at HRI0
            unfold Root.val at HRI0
            have HRI := Hide.mk HRI0
            clear HRI0
            refine start_ (n := 13) (S := fun w' => w'.cell? ⟨F.p, 10, none⟩ = some (.slice (some ⟨g7, 0, none⟩) n7 cap7) ∧ w'.heap[br]? = some (.cells #[.int .i64 r.epoch, .int .i64 r.blocks, .int .i64 r.next, .int .i64 r.start, .slice tA r.tables.length tc, .slice mA r.maps.length mc] 65 (0, 0))) (ds := []) #[false, false, false, false, false, false, false, false, false, false, false, false, false] (by kernel_rfl) rfl rfl KC (fun hHeld => ?_); refine with_tabW tab30_15 bits30_15 (fun HT_ HW_ => ?_)
            refine pu_ (i := 0) (N := some 58) (v := ?_) (a' := ?_) (bls 13 1) HT_.out rfl rfl (by kernel_rfl) (by rfl) ?_ ?_ ?_
            rotate_left
            · intro w'; go_simp; with_reducible rfl
            rotate_left
            · simp only [Act.put, qT_, q0_, q1_, i64_w, i32_w]; rfl
            refine pu_ (i := 1) (N := some 59) (v := ?_) (a' := ?_) (bls 13 3) HT_.out rfl rfl (by kernel_rfl) (by rfl) ?_ ?_ ?_
            rotate_left
            · intro w'; go_simp; with_reducible rfl
            rotate_left
            · simp only [Act.put, qT_, q0_, q1_, i64_w, i32_w]; rfl
            refine pu_ (i := 2) (N := some 60) (v := ?_) (a' := ?_) (bls 13 7) HT_.out rfl rfl (by kernel_rfl) (by rfl) ?_ ?_ ?_
            rotate_left
            · intro w'; go_simp; with_reducible rfl
            rotate_left
            · simp only [Act.put, qT_, q0_, q1_, i64_w, i32_w]; rfl
            refine take_ (i := 3) (N := some 61) (v := ?_) (a' := ?_) (bls 13 15) rfl rfl (take_ofW HT_.out HW_.out (by kernel_rfl)) (fun _ _ _ h => h) (Or.inl ⟨by rfl, ?_⟩) hHeld ?_ ?_
            rotate_left
            · intro w' hS'
              refine exec_loadR (x := .tmp 5) ?_ ?_ hS'.2
              · rfl
              · rfl
            rotate_left
            · simp only [Act.put, qT_, q0_, q1_, i64_w, i32_w]; rfl
            refine pu_ (i := 4) (N := some 62) (v := ?_) (a' := ?_) (bls 13 31) HT_.out rfl rfl (by kernel_rfl) (by rfl) ?_ ?_ ?_
            rotate_left
            · intro w'; go_simp; with_reducible rfl
            rotate_left
            · simp only [Act.put, qT_, q0_, q1_, i64_w, i32_w]; rfl
            refine pu_ (i := 5) (N := some 63) (v := ?_) (a' := ?_) (bls 13 63) HT_.out rfl rfl (by kernel_rfl) (by rfl) ?_ ?_ ?_
            rotate_left
            · intro w'; go_simp; with_reducible rfl
            rotate_left
            · simp only [Act.put, qT_, q0_, q1_, i64_w, i32_w]; rfl
            refine pu_ (i := 6) (N := some 64) (v := ?_) (a' := ?_) (bls 13 127) HT_.out rfl rfl (by kernel_rfl) (by rfl) ?_ ?_ ?_
            rotate_left
            · intro w'; go_simp; with_reducible rfl
            rotate_left
            · simp only [Act.put, qT_, q0_, q1_, i64_w, i32_w]; rfl
            refine pu_ (i := 7) (N := some 65) (v := ?_) (a' := ?_) (bls 13 255) HT_.out rfl rfl (by kernel_rfl) (by rfl) ?_ ?_ ?_
            rotate_left
            · intro w'; go_simp; with_reducible rfl
            rotate_left
            · simp only [Act.put, qT_, q0_, q1_, i64_w, i32_w]; rfl
            refine take_ (i := 8) (N := some 66) (v := ?_) (a' := ?_) (bls 13 511) rfl rfl (take_ofW HT_.out HW_.out (by kernel_rfl)) (fun _ _ _ h => h) (Or.inl ⟨by rfl, ?_⟩) hHeld ?_ ?_
            rotate_left
            · intro w' hS'
              have s1 := hS'.1
              go_simp
              rfl
            rotate_left
            · simp only [Act.put, qT_, q0_, q1_, i64_w, i32_w]; rfl
            refine pu_ (i := 9) (N := some 67) (v := ?_) (a' := ?_) (bls 13 1023) HT_.out rfl rfl (by kernel_rfl) (by rfl) ?_ ?_ ?_
            rotate_left
            · intro w'; go_simp; with_reducible rfl
            rotate_left
            · simp only [Act.put, qT_, q0_, q1_, i64_w, i32_w]; rfl
            refine one_ (i := 10) (N := some 68) (bls 13 2047) rfl rfl (one_of HT_.out (by kernel_rfl)) (by decide) (fun K hK => ?_)
            refine goes_ Tryz.func75 (by kernel_rfl) rfl #[.agg #[.int .i64 r.epoch, .int .i64 r.blocks, .int .i64 r.next, .int .i64 r.start, .slice tA r.tables.length tc, .slice mA r.maps.length mc], .slice (some ⟨g7, 0, none⟩) n7 cap7, .slice A5 n5 c5] (by rfl) rfl rfl (by (try simp only [List.map_toArray, List.map_cons, List.map_nil]); first | done | rfl) ?_
            with_reducible refine HRI.out.mono ?_
            rintro e w8 ⟨rfl, hb8⟩
            refine ⟨_, rfl, ?_⟩
            have B8 := Hide.mk hb8
            have KC1 := And.intro (pw_cell_below hb8 KC.1) ((hb8.block br (lt_of_row KC.2)).trans KC.2)
            clear hb8
            refine hK.out _ _ KC1 (fun hHeld => ?_)
            clear hK K
            refine norm_ (a' := ?_) ?_ ?_
            rotate_left
            · show Act.put _ (some 68) _ = _; simp only [Act.put, qT_, q0_, q1_, i64_w, i32_w]; rfl
            refine pu_ (i := 11) (N := some 69) (v := ?_) (a' := ?_) (bls 13 4095) HT_.out rfl rfl (by kernel_rfl) (by rfl) ?_ ?_ ?_
            rotate_left
            · intro w'; go_simp; with_reducible rfl
            rotate_left
            · simp only [Act.put, qT_, q0_, q1_, i64_w, i32_w]; rfl
            refine pu_ (i := 12) (N := some 70) (v := ?_) (a' := ?_) (bls 13 8191) HT_.out rfl rfl (by kernel_rfl) (by rfl) ?_ ?_ ?_
            rotate_left
            · intro w'; go_simp; with_reducible rfl
            rotate_left
            · simp only [Act.put, qT_, q0_, q1_, i64_w, i32_w]; rfl
            refine done_ (done_of HT_.out (by kernel_rfl)) ?_
            have ROW8 := Hide.mk KC1.2
            have HSE0 := settle_any r tA tc mA mc w8 { F with g := g7, cap := cap7 } _ (S7d.out.below B8.out) (RI7.out.moves (Moves.of_below B8.out []) (by simp)) (by have := HLL.out; show ((0 : Int) :: l).length ≤ 5000; rw [List.length_cons]; omega) (by have := HCL.out.1; have := HCL.out.2; omega)
            unfold Root.val at HSE0
            have HSE := Hide.mk HSE0
            clear KC KC1 hHeld HSE0
            go_wp2_with (first
              | (refine load_root rfl _ rfl br #[.int .i64 r.epoch, .int .i64 r.blocks, .int .i64 r.next, .int .i64 r.start, .slice tA r.tables.length tc, .slice mA r.maps.length mc] rfl ROW8.out rfl ?_)
              | (go_at_call 47
                 with_reducible refine HSE.out.mono ?_
                 rintro e w9 ⟨rfl, F9, hs, hg, hsl⟩
                 have S9 := Hide.mk hs
                 have G9 := Hide.mk hg
                 clear hs hg hsl))
            go_ret2
            rw [HRR.out]
            exact ⟨F9, by rw [G9.out.p]; rfl, S9.out.disk, fun _ => S9.out, Born.of_goes B1.out HF.out (((((G2.out.trans (Goes.below B3.out)).trans G5.out).trans G57.out).trans (Goes.below B8.out)).toGoes0.trans G9.out)⟩
        · rw [if_pos hev] at hR
          have HRR := Hide.mk hR.symm
          have HODD := Hide.mk hev
          obtain ⟨l, hl⟩ : ∃ l : List Int, [] = l := ⟨_, rfl⟩
          have HLL : Hide (l.length ≤ 4000) := ⟨by rw [← hl]; simp⟩
          have HLW := Hide.mk hl
          clear hR hev hl
          go_enter Tryz.func30, Tryz.ntmps30
          go_wp2_with (first
            | (go_at_call 40
               refine HOV.out.mono ?_
               rintro e w1 ⟨F, rfl, hs, hpd, hms, hml, hb, hFp, hFg⟩
               have S1 := Hide.mk hs
               have HF := Hide.mk (show F.pd = pd ∧ F.ms = ms ∧ F.ml = ml ∧ w.heap.size ≤ F.p ∧ w.heap.size ≤ F.g from ⟨hpd, hms, hml, hFp, hFg⟩)
               have B1 := Hide.mk hb
               have HRT0 := roots_any pd ms ml D w1 (HD.out.below hb) HBY.out
               rw [HEA.out] at HRT0
               simp only at HRT0
               unfold Root.val at HRT0
               have HRT := Hide.mk HRT0
               clear hs hpd hms hml hb hFp hFg HRT0)
            | (go_at_call 72
               with_reducible refine HRT.out.mono ?_
               rintro e w2 ⟨tA, tc, mA, mc, rfl, hd, hT, hM, hG, hm⟩
               have s20 := S1.out.disk_moves (ml' := F.ml) (D' := D1) (by rw [HF.out.1, HF.out.2.1, HF.out.2.2.1]; exact hd) (.inl rfl) (hm.more (fun x hx => by simp only [List.mem_singleton] at hx; subst hx; left; simp [HF.out.1]))
               have S2 := Hide.mk (show ShAt w2 F (Sh.over D1) from s20.1)
               have G2 := Hide.mk (show Goes F F w1 w2 from s20.2)
               have HT2 := Hide.mk hT
               have HM2 := Hide.mk hM
               have HG2 := Hide.mk hG
               obtain ⟨W3, hW3⟩ : ∃ W, w2.alloc (.cells #[.int .i64 r.epoch, .int .i64 r.blocks, .int .i64 r.next, .int .i64 r.start, .slice tA r.tables.length tc, .slice mA r.maps.length mc] 65) = W := ⟨_, rfl⟩
               have hal := (Below.refl w2.heap.size w2).alloc (Nat.le_refl _) (.cells #[.int .i64 r.epoch, .int .i64 r.blocks, .int .i64 r.next, .int .i64 r.start, .slice tA r.tables.length tc, .slice mA r.maps.length mc] 65)
               have rowq := heap_last w2 (.cells #[.int .i64 r.epoch, .int .i64 r.blocks, .int .i64 r.next, .int .i64 r.start, .slice tA r.tables.length tc, .slice mA r.maps.length mc] 65)
               rw [hW3] at hal rowq
               have hoffT : ∀ a, tA = some a → ¬ a.block ∈ F.own := fun a ha hx => by have := hG.1 a ha; have := S1.out.lts _ hx; omega
               have hoffM : ∀ a, mA = some a → ¬ a.block ∈ F.own := fun a ha hx => by have := hG.2 a ha; have := S1.out.lts _ hx; omega
               have RI0 : RootIn W3 r tA tc mA mc F.own := ⟨hT.below hal, hM.below hal, hoffT, hoffM, by have := HCL.out.1; have := HCL.out.2; omega, by have := HCB.out; omega⟩
               have RI3 := Hide.mk RI0
               have S3 := Hide.mk (s20.1.below hal)
               have B3 := Hide.mk hal
               have HBR : Hide (¬ w2.heap.size ∈ F.own) := ⟨fun hx => by have := s20.1.lts _ hx; omega⟩
               have ROW3 := Hide.mk rowq
               have HW3 := Hide.mk hW3
               have HGA0 := gather_any 1 tA tc r.tables W3 F (Sh.over D1) S3.out RI0.tables hoffT HWT.out HBY1.out (by have := HCL.out.1; omega)
               rw [show (Sh.over D1).D = D1 from rfl, HE2.out] at HGA0
               simp only at HGA0
               have HGA := Hide.mk HGA0
               have k4 := cell_of (i := 4) rowq
               simp at k4
               clear hal rowq hoffT hoffM RI0 HGA0 hW3
               clear hd hT hM hG hm s20)
            | (go_at_call 73
               rw [HW3.out]
               with_reducible refine HGA.out.mono ?_
               rintro e w4 ⟨v4, rfl, ho, hs, hg⟩
               obtain ⟨A4, c4, hv4, hi4, hge4⟩ := In.of_own ho
               obtain ⟨n4, hn4⟩ : ∃ n, words.length = n := ⟨_, rfl⟩
               rw [hn4] at hv4
               subst hv4
               have I4 := Hide.mk hi4
               have HN4 := Hide.mk hn4
               have S4 := Hide.mk (show ShAt w4 F (Sh.over D2) from hs)
               have G4 := Hide.mk hg
               have ROW4 := Hide.mk ((hg.moves.block w2.heap.size (lt_of_row ROW3.out) HBR.out).trans ROW3.out)
               have RI4 := Hide.mk (RI3.out.moves hg.moves (fun x hx => .inl hx))
               have HGB0 := gather_any 2 mA mc r.maps w4 F (Sh.over D2) hs RI4.out.maps RI4.out.offM HWM.out HBY2.out (by have := HCL.out.2; omega)
               rw [show (Sh.over D2).D = D2 from rfl, HE3.out] at HGB0
               simp only at HGB0
               have HGB := Hide.mk HGB0
               have k5 := cell_of (i := 5) ROW4.out
               simp at k5
               clear HGB0
               have GE4 := Hide.mk (show ∀ a, A4 = some a → ¬ a.block ∈ F.own from fun a ha hx => by have := hge4 a ha; have := S3.out.lts _ hx; omega)
               clear ho hs hg hi4 hge4 hn4)
            | (go_at_call 73
               with_reducible refine HGB.out.mono ?_
               rintro e w5 ⟨v5, rfl, ho, hs, hg⟩
               obtain ⟨A5, c5, hv5, hi5, hge5⟩ := In.of_own ho
               obtain ⟨n5, hn5⟩ : ∃ n, mbs.length = n := ⟨_, rfl⟩
               rw [hn5] at hv5
               subst hv5
               have I5 := Hide.mk hi5
               have HN5 := Hide.mk hn5
               have S5 := Hide.mk (show ShAt w5 F (Sh.over D3) from hs)
               have G5 := Hide.mk (G4.out.trans hg)
               have ROW5 := Hide.mk ((hg.moves.block w2.heap.size (lt_of_row ROW4.out) HBR.out).trans ROW4.out)
               have I45 := I4.out.moves hg.moves GE4.out
               have HUN0 := unwords_any A4 c4 words w5 I45 HWB.out (by have := HWL.out; omega)
               rw [if_neg HODD.out, if_neg HODD.out, HLW.out, HN4.out] at HUN0
               have HUN := Hide.mk HUN0
               have RI5 := Hide.mk (RI4.out.moves hg.moves (fun x hx => .inl hx))
               have GE5 := Hide.mk (show ∀ a, A5 = some a → ¬ a.block ∈ F.own from fun a ha hx => by have := hge5 a ha; have := S4.out.lts _ hx; omega)
               clear I45 HUN0
               clear ho hs hg hi5 hge5 hn5)
            | (go_at_call 74
               with_reducible refine HUN.out.mono ?_
               rintro e w6 ⟨v6, rfl, ho, hb⟩
               obtain ⟨A6, c6, hv6, hi6, hge6⟩ := In.of_own ho
               obtain ⟨n6, hn6⟩ : ∃ n, l.length = n := ⟨_, rfl⟩
               rw [hn6] at hv6
               subst hv6
               have I6 := Hide.mk hi6
               have HN6 := Hide.mk hn6
               have S6 := Hide.mk (S5.out.below hb)
               have B6 := Hide.mk hb
               have ROW6 := Hide.mk ((hb.block w2.heap.size (lt_of_row ROW5.out)).trans ROW5.out)
               have c10 : w6.cell? ⟨F.p, 10, none⟩ = some (.slice (some ⟨F.g, 0, none⟩) 1 F.cap) := S6.out.cells.c10
               clear ho hb hi6 hge6 hn6)
            | ((with_reducible refine gate_builtin (b := .append) (xs := #[.tmp 52, .tmp 53]) rfl ?_); at_builtin
               refine Kd.R_append_rows (Kd.int .i64) (w0 := w6) 0 rfl (.tmp 52) (.tmp 53) 38 3 (.int .i64 0) 8 rfl Tryz.underlying38 infoI rfl (by decide) (by omega) (.slice (some ⟨F.g, 0, none⟩) 1 F.cap) [0] l A6 n6 c6 (fun _ => True) (fun _ => False) rfl rfl ?aO ?aR (fun _ _ h => h) (fun _ h => h.elim) (fun _ _ => trivial) (Below.refl _ _) (Nat.zero_le _) ?aL ?_
               case aO => exact S6.out.table
               case aR => have h := I6.out.reads; rw [HN6.out] at h; exact h
               case aL => have := HLL.out; have := HN6.out; simp only [List.length_cons, List.length_nil]; omega
               intro v7 w7 ho hb hg hat
               obtain ⟨g7, cap7, rfl, c7, f7, hS7, hG7⟩ := S6.out.pushedL (Nat.one_pos : 0 < 1) ho hg (by simpa [Value.ownBlock] using hat)
               rw [show (Sh.over D3).table ++ l = 0 :: l from rfl] at hS7 hG7 ⊢
               rw [show (Sh.over D3).table.length = 1 from rfl] at c7
               obtain ⟨n7, hn7⟩ : ∃ n, ((0 : Int) :: l).length = n := ⟨_, rfl⟩
               rw [hn7] at hS7 hG7 ⊢
               have HN7 := Hide.mk hn7
               have S7 := Hide.mk hS7
               have G7 := Hide.mk hG7
               clear ho hb hg hat hS7 hG7 hn7 c10))
          obtain ⟨W7, hW7⟩ : ∃ W, w7.setCell ⟨F.p, 10, none⟩ (.slice (some ⟨g7, 0, none⟩) n7 cap7) = W := ⟨_, rfl⟩
          rw [hW7] at S7 G7 ⊢
          have hdr := below_drew (Below.refl W7.heap.size W7)
          have S7d := Hide.mk (S7.out.below hdr)
          have G57 := Hide.mk ((Goes.below (F := F) B6.out).trans (G7.out.trans (Goes.below hdr)))
          have ROW7 := Hide.mk ((G57.out.moves.block w2.heap.size (lt_of_row ROW5.out) HBR.out).trans ROW5.out)
          have RI7 := Hide.mk (RI5.out.foot G57.out)
          have c107 : W7.drew.cell? ⟨F.p, 10, none⟩ = some (.slice (some ⟨g7, 0, none⟩) ((0 : Int) :: l).length cap7) := S7d.out.cells.c10
          rw [HN7.out] at c107
          obtain ⟨br, hbr⟩ : ∃ b, w2.heap.size = b := ⟨_, rfl⟩
          rw [hbr] at ROW7 ⊢
          have HB7 := Hide.mk (And.intro hbr hW7)
          have KC := And.intro c107 ROW7.out
          clear hW7 hdr c107 hbr
          refine start_ (n := 13) (S := fun w' => w'.cell? ⟨F.p, 10, none⟩ = some (.slice (some ⟨g7, 0, none⟩) n7 cap7) ∧ w'.heap[br]? = some (.cells #[.int .i64 r.epoch, .int .i64 r.blocks, .int .i64 r.next, .int .i64 r.start, .slice tA r.tables.length tc, .slice mA r.maps.length mc] 65 (0, 0))) (ds := []) #[false, false, false, false, false, false, false, false, false, false, false, false, false] (by kernel_rfl) rfl rfl KC (fun hHeld => ?_); refine with_tabW tab30_15 bits30_15 (fun HT_ HW_ => ?_)
          refine pu_ (i := 0) (N := some 58) (v := ?_) (a' := ?_) (bls 13 1) HT_.out rfl rfl (by kernel_rfl) (by rfl) ?_ ?_ ?_
          rotate_left
          · intro w'; go_simp; with_reducible rfl
          rotate_left
          · simp only [Act.put, qT_, q0_, q1_, i64_w, i32_w]; rfl
          refine pu_ (i := 1) (N := some 59) (v := ?_) (a' := ?_) (bls 13 3) HT_.out rfl rfl (by kernel_rfl) (by rfl) ?_ ?_ ?_
          rotate_left
          · intro w'; go_simp; with_reducible rfl
          rotate_left
          · simp only [Act.put, qT_, q0_, q1_, i64_w, i32_w]; rfl
          refine pu_ (i := 2) (N := some 60) (v := ?_) (a' := ?_) (bls 13 7) HT_.out rfl rfl (by kernel_rfl) (by rfl) ?_ ?_ ?_
          rotate_left
          · intro w'; go_simp; with_reducible rfl
          rotate_left
          · simp only [Act.put, qT_, q0_, q1_, i64_w, i32_w]; rfl
          refine pure_ (i := 3) (N := some 61) (v := undef) (a' := ?_) (bls 13 15) rfl rfl (any_of HT_.out (by kernel_rfl)) (fun _ _ _ h => h) (Or.inr ⟨by rfl, rfl⟩) ?_ ?_
          rotate_left
          · simp only [Act.put, qT_, q0_, q1_, i64_w, i32_w]; rfl
          refine pure_ (i := 4) (N := some 62) (v := undef) (a' := ?_) (bls 13 31) rfl rfl (any_of HT_.out (by kernel_rfl)) (fun _ _ _ h => h) (Or.inr ⟨by rfl, rfl⟩) ?_ ?_
          rotate_left
          · simp only [Act.put, qT_, q0_, q1_, i64_w, i32_w]; rfl
          refine pure_ (i := 5) (N := some 63) (v := undef) (a' := ?_) (bls 13 63) rfl rfl (any_of HT_.out (by kernel_rfl)) (fun _ _ _ h => h) (Or.inr ⟨by rfl, rfl⟩) ?_ ?_
          rotate_left
          · simp only [Act.put, qT_, q0_, q1_, i64_w, i32_w]; rfl
          refine pure_ (i := 6) (N := some 64) (v := undef) (a' := ?_) (bls 13 127) rfl rfl (any_of HT_.out (by kernel_rfl)) (fun _ _ _ h => h) (Or.inr ⟨by rfl, rfl⟩) ?_ ?_
          rotate_left
          · simp only [Act.put, qT_, q0_, q1_, i64_w, i32_w]; rfl
          refine pure_ (i := 7) (N := some 65) (v := undef) (a' := ?_) (bls 13 255) rfl rfl (any_of HT_.out (by kernel_rfl)) (fun _ _ _ h => h) (Or.inr ⟨by rfl, rfl⟩) ?_ ?_
          rotate_left
          · simp only [Act.put, qT_, q0_, q1_, i64_w, i32_w]; rfl
          refine pure_ (i := 8) (N := some 66) (v := undef) (a' := ?_) (bls 13 511) rfl rfl (any_of HT_.out (by kernel_rfl)) (fun _ _ _ h => h) (Or.inr ⟨by rfl, rfl⟩) ?_ ?_
          rotate_left
          · simp only [Act.put, qT_, q0_, q1_, i64_w, i32_w]; rfl
          refine pure_ (i := 9) (N := some 67) (v := undef) (a' := ?_) (bls 13 1023) rfl rfl (any_of HT_.out (by kernel_rfl)) (fun _ _ _ h => h) (Or.inr ⟨by rfl, rfl⟩) ?_ ?_
          rotate_left
          · simp only [Act.put, qT_, q0_, q1_, i64_w, i32_w]; rfl
          refine pure_ (i := 10) (N := some 68) (v := undef) (a' := ?_) (bls 13 2047) rfl rfl (any_of HT_.out (by kernel_rfl)) (fun _ _ _ h => h) (Or.inr ⟨by rfl, rfl⟩) ?_ ?_
          rotate_left
          · simp only [Act.put, qT_, q0_, q1_, i64_w, i32_w]; rfl
          refine pure_ (i := 11) (N := some 69) (v := undef) (a' := ?_) (bls 13 4095) rfl rfl (any_of HT_.out (by kernel_rfl)) (fun _ _ _ h => h) (Or.inr ⟨by rfl, rfl⟩) ?_ ?_
          rotate_left
          · simp only [Act.put, qT_, q0_, q1_, i64_w, i32_w]; rfl
          refine pu_ (i := 12) (N := some 70) (v := ?_) (a' := ?_) (bls 13 8191) HT_.out rfl rfl (by kernel_rfl) (by rfl) ?_ ?_ ?_
          rotate_left
          · intro w'; go_simp; with_reducible rfl
          rotate_left
          · simp only [Act.put, qT_, q0_, q1_, i64_w, i32_w]; rfl
          refine done_ (done_of HT_.out (by kernel_rfl)) ?_
          clear hHeld
          go_wp2
          go_ret2
          rw [HRR.out]
          exact ⟨{ F with g := g7, cap := cap7 }, by rw [ptrOf_bad (by show ¬ (4 : Int) = 0; decide)]; rfl, S7d.out.disk, fun e => absurd e (by show ¬ (4 : Int) = 0; decide), Born.of_goes B1.out HF.out (((G2.out.trans (Goes.below B3.out)).trans G5.out).trans G57.out).toGoes0⟩
      · rw [if_pos h3] at hR
        have HRR := Hide.mk hR.symm
        have H3 := Hide.mk h3
        have q : (e3 != 0) = true := by simp [h3]
        clear hR h3
        go_enter Tryz.func30, Tryz.ntmps30
        go_wp2_with (first
          | (go_at_call 40
             refine HOV.out.mono ?_
             rintro e w1 ⟨F, rfl, hs, hpd, hms, hml, hb, hFp, hFg⟩
             have S1 := Hide.mk hs
             have HF := Hide.mk (show F.pd = pd ∧ F.ms = ms ∧ F.ml = ml ∧ w.heap.size ≤ F.p ∧ w.heap.size ≤ F.g from ⟨hpd, hms, hml, hFp, hFg⟩)
             have B1 := Hide.mk hb
             have HRT0 := roots_any pd ms ml D w1 (HD.out.below hb) HBY.out
             rw [HEA.out] at HRT0
             simp only at HRT0
             unfold Root.val at HRT0
             have HRT := Hide.mk HRT0
             clear hs hpd hms hml hb hFp hFg HRT0)
          | (go_at_call 72
             with_reducible refine HRT.out.mono ?_
             rintro e w2 ⟨tA, tc, mA, mc, rfl, hd, hT, hM, hG, hm⟩
             have s20 := S1.out.disk_moves (ml' := F.ml) (D' := D1) (by rw [HF.out.1, HF.out.2.1, HF.out.2.2.1]; exact hd) (.inl rfl) (hm.more (fun x hx => by simp only [List.mem_singleton] at hx; subst hx; left; simp [HF.out.1]))
             have S2 := Hide.mk (show ShAt w2 F (Sh.over D1) from s20.1)
             have G2 := Hide.mk (show Goes F F w1 w2 from s20.2)
             have HT2 := Hide.mk hT
             have HM2 := Hide.mk hM
             have HG2 := Hide.mk hG
             obtain ⟨W3, hW3⟩ : ∃ W, w2.alloc (.cells #[.int .i64 r.epoch, .int .i64 r.blocks, .int .i64 r.next, .int .i64 r.start, .slice tA r.tables.length tc, .slice mA r.maps.length mc] 65) = W := ⟨_, rfl⟩
             have hal := (Below.refl w2.heap.size w2).alloc (Nat.le_refl _) (.cells #[.int .i64 r.epoch, .int .i64 r.blocks, .int .i64 r.next, .int .i64 r.start, .slice tA r.tables.length tc, .slice mA r.maps.length mc] 65)
             have rowq := heap_last w2 (.cells #[.int .i64 r.epoch, .int .i64 r.blocks, .int .i64 r.next, .int .i64 r.start, .slice tA r.tables.length tc, .slice mA r.maps.length mc] 65)
             rw [hW3] at hal rowq
             have hoffT : ∀ a, tA = some a → ¬ a.block ∈ F.own := fun a ha hx => by have := hG.1 a ha; have := S1.out.lts _ hx; omega
             have hoffM : ∀ a, mA = some a → ¬ a.block ∈ F.own := fun a ha hx => by have := hG.2 a ha; have := S1.out.lts _ hx; omega
             have RI0 : RootIn W3 r tA tc mA mc F.own := ⟨hT.below hal, hM.below hal, hoffT, hoffM, by have := HCL.out.1; have := HCL.out.2; omega, by have := HCB.out; omega⟩
             have RI3 := Hide.mk RI0
             have S3 := Hide.mk (s20.1.below hal)
             have B3 := Hide.mk hal
             have HBR : Hide (¬ w2.heap.size ∈ F.own) := ⟨fun hx => by have := s20.1.lts _ hx; omega⟩
             have ROW3 := Hide.mk rowq
             have HW3 := Hide.mk hW3
             have HGA0 := gather_any 1 tA tc r.tables W3 F (Sh.over D1) S3.out RI0.tables hoffT HWT.out HBY1.out (by have := HCL.out.1; omega)
             rw [show (Sh.over D1).D = D1 from rfl, HE2.out] at HGA0
             simp only at HGA0
             have HGA := Hide.mk HGA0
             have k4 := cell_of (i := 4) rowq
             simp at k4
             clear hal rowq hoffT hoffM RI0 HGA0 hW3
             clear hd hT hM hG hm s20)
          | (go_at_call 73
             rw [HW3.out]
             with_reducible refine HGA.out.mono ?_
             rintro e w4 ⟨v4, rfl, ho, hs, hg⟩
             obtain ⟨A4, c4, hv4, hi4, hge4⟩ := In.of_own ho
             obtain ⟨n4, hn4⟩ : ∃ n, words.length = n := ⟨_, rfl⟩
             rw [hn4] at hv4
             subst hv4
             have I4 := Hide.mk hi4
             have HN4 := Hide.mk hn4
             have S4 := Hide.mk (show ShAt w4 F (Sh.over D2) from hs)
             have G4 := Hide.mk hg
             have ROW4 := Hide.mk ((hg.moves.block w2.heap.size (lt_of_row ROW3.out) HBR.out).trans ROW3.out)
             have RI4 := Hide.mk (RI3.out.moves hg.moves (fun x hx => .inl hx))
             have HGB0 := gather_any 2 mA mc r.maps w4 F (Sh.over D2) hs RI4.out.maps RI4.out.offM HWM.out HBY2.out (by have := HCL.out.2; omega)
             rw [show (Sh.over D2).D = D2 from rfl, HE3.out] at HGB0
             simp only at HGB0
             have HGB := Hide.mk HGB0
             have k5 := cell_of (i := 5) ROW4.out
             simp at k5
             clear HGB0
             clear ho hs hg hi4 hge4 hn4)
          | (go_at_call 73
             with_reducible refine HGB.out.mono ?_
             rintro e w5 ⟨v5, rfl, ho, hs, hg⟩
             obtain ⟨A5, c5, hv5, hi5, hge5⟩ := In.of_own ho
             obtain ⟨n5, hn5⟩ : ∃ n, mbs.length = n := ⟨_, rfl⟩
             rw [hn5] at hv5
             subst hv5
             have I5 := Hide.mk hi5
             have HN5 := Hide.mk hn5
             have S5 := Hide.mk (show ShAt w5 F (Sh.over D3) from hs)
             have G5 := Hide.mk (G4.out.trans hg)
             have ROW5 := Hide.mk ((hg.moves.block w2.heap.size (lt_of_row ROW4.out) HBR.out).trans ROW4.out)
             clear ho hs hg hi5 hge5 hn5))
        go_ret2
        rw [HRR.out]
        exact ⟨F, by rw [ptrOf_bad H3.out]; rfl, S5.out.disk, fun e => absurd e H3.out, Born.of_goes B1.out HF.out ((G2.out.trans (Goes.below B3.out)).trans G5.out).toGoes0⟩
    · rw [if_pos h2] at hR
      have HRR := Hide.mk hR.symm
      have H2 := Hide.mk h2
      have q : (e2 != 0) = true := by simp [h2]
      clear hR h2
      go_enter Tryz.func30, Tryz.ntmps30
      go_wp2_with (first
        | (go_at_call 40
           refine HOV.out.mono ?_
           rintro e w1 ⟨F, rfl, hs, hpd, hms, hml, hb, hFp, hFg⟩
           have S1 := Hide.mk hs
           have HF := Hide.mk (show F.pd = pd ∧ F.ms = ms ∧ F.ml = ml ∧ w.heap.size ≤ F.p ∧ w.heap.size ≤ F.g from ⟨hpd, hms, hml, hFp, hFg⟩)
           have B1 := Hide.mk hb
           have HRT0 := roots_any pd ms ml D w1 (HD.out.below hb) HBY.out
           rw [HEA.out] at HRT0
           simp only at HRT0
           unfold Root.val at HRT0
           have HRT := Hide.mk HRT0
           clear hs hpd hms hml hb hFp hFg HRT0)
        | (go_at_call 72
           with_reducible refine HRT.out.mono ?_
           rintro e w2 ⟨tA, tc, mA, mc, rfl, hd, hT, hM, hG, hm⟩
           have s20 := S1.out.disk_moves (ml' := F.ml) (D' := D1) (by rw [HF.out.1, HF.out.2.1, HF.out.2.2.1]; exact hd) (.inl rfl) (hm.more (fun x hx => by simp only [List.mem_singleton] at hx; subst hx; left; simp [HF.out.1]))
           have S2 := Hide.mk (show ShAt w2 F (Sh.over D1) from s20.1)
           have G2 := Hide.mk (show Goes F F w1 w2 from s20.2)
           have HT2 := Hide.mk hT
           have HM2 := Hide.mk hM
           have HG2 := Hide.mk hG
           obtain ⟨W3, hW3⟩ : ∃ W, w2.alloc (.cells #[.int .i64 r.epoch, .int .i64 r.blocks, .int .i64 r.next, .int .i64 r.start, .slice tA r.tables.length tc, .slice mA r.maps.length mc] 65) = W := ⟨_, rfl⟩
           have hal := (Below.refl w2.heap.size w2).alloc (Nat.le_refl _) (.cells #[.int .i64 r.epoch, .int .i64 r.blocks, .int .i64 r.next, .int .i64 r.start, .slice tA r.tables.length tc, .slice mA r.maps.length mc] 65)
           have rowq := heap_last w2 (.cells #[.int .i64 r.epoch, .int .i64 r.blocks, .int .i64 r.next, .int .i64 r.start, .slice tA r.tables.length tc, .slice mA r.maps.length mc] 65)
           rw [hW3] at hal rowq
           have hoffT : ∀ a, tA = some a → ¬ a.block ∈ F.own := fun a ha hx => by have := hG.1 a ha; have := S1.out.lts _ hx; omega
           have hoffM : ∀ a, mA = some a → ¬ a.block ∈ F.own := fun a ha hx => by have := hG.2 a ha; have := S1.out.lts _ hx; omega
           have RI0 : RootIn W3 r tA tc mA mc F.own := ⟨hT.below hal, hM.below hal, hoffT, hoffM, by have := HCL.out.1; have := HCL.out.2; omega, by have := HCB.out; omega⟩
           have RI3 := Hide.mk RI0
           have S3 := Hide.mk (s20.1.below hal)
           have B3 := Hide.mk hal
           have HBR : Hide (¬ w2.heap.size ∈ F.own) := ⟨fun hx => by have := s20.1.lts _ hx; omega⟩
           have ROW3 := Hide.mk rowq
           have HW3 := Hide.mk hW3
           have HGA0 := gather_any 1 tA tc r.tables W3 F (Sh.over D1) S3.out RI0.tables hoffT HWT.out HBY1.out (by have := HCL.out.1; omega)
           rw [show (Sh.over D1).D = D1 from rfl, HE2.out] at HGA0
           simp only at HGA0
           have HGA := Hide.mk HGA0
           have k4 := cell_of (i := 4) rowq
           simp at k4
           clear hal rowq hoffT hoffM RI0 HGA0 hW3
           clear hd hT hM hG hm s20)
        | (go_at_call 73
           rw [HW3.out]
           with_reducible refine HGA.out.mono ?_
           rintro e w4 ⟨v4, rfl, ho, hs, hg⟩
           obtain ⟨A4, c4, hv4, hi4, hge4⟩ := In.of_own ho
           obtain ⟨n4, hn4⟩ : ∃ n, words.length = n := ⟨_, rfl⟩
           rw [hn4] at hv4
           subst hv4
           have I4 := Hide.mk hi4
           have HN4 := Hide.mk hn4
           have S4 := Hide.mk (show ShAt w4 F (Sh.over D2) from hs)
           have G4 := Hide.mk hg
           have ROW4 := Hide.mk ((hg.moves.block w2.heap.size (lt_of_row ROW3.out) HBR.out).trans ROW3.out)
           clear ho hs hg hi4 hge4 hn4))
      go_ret2
      rw [HRR.out]
      exact ⟨F, by rw [ptrOf_bad H2.out]; rfl, S4.out.disk, fun e => absurd e H2.out, Born.of_goes B1.out HF.out ((G2.out.trans (Goes.below B3.out)).trans G4.out).toGoes0⟩
  · rw [if_pos h1] at hR
    have HRR := Hide.mk hR.symm
    have H1 := Hide.mk h1
    have q : (e1 != 0) = true := by simp [h1]
    clear hR h1 hf1 hf2
    go_enter Tryz.func30, Tryz.ntmps30
    go_wp2_with (first
      | (go_at_call 40
         refine HOV.out.mono ?_
         rintro e w1 ⟨F, rfl, hs, hpd, hms, hml, hb, hFp, hFg⟩
         have S1 := Hide.mk hs
         have HF := Hide.mk (show F.pd = pd ∧ F.ms = ms ∧ F.ml = ml ∧ w.heap.size ≤ F.p ∧ w.heap.size ≤ F.g from ⟨hpd, hms, hml, hFp, hFg⟩)
         have B1 := Hide.mk hb
         have HRT0 := roots_any pd ms ml D w1 (HD.out.below hb) HBY.out
         rw [HEA.out] at HRT0
         simp only at HRT0
         unfold Root.val at HRT0
         have HRT := Hide.mk HRT0
         clear hs hpd hms hml hb hFp hFg HRT0)
      | (go_at_call 72
         with_reducible refine HRT.out.mono ?_
         rintro e w2 ⟨tA, tc, mA, mc, rfl, hd, hT, hM, hG, hm⟩
         have s20 := S1.out.disk_moves (ml' := F.ml) (D' := D1) (by rw [HF.out.1, HF.out.2.1, HF.out.2.2.1]; exact hd) (.inl rfl) (hm.more (fun x hx => by simp only [List.mem_singleton] at hx; subst hx; left; simp [HF.out.1]))
         have S2 := Hide.mk (show ShAt w2 F (Sh.over D1) from s20.1)
         have G2 := Hide.mk (show Goes F F w1 w2 from s20.2)
         have HT2 := Hide.mk hT
         have HM2 := Hide.mk hM
         have HG2 := Hide.mk hG
         clear hd hT hM hG hm s20))
    go_ret2
    rw [HRR.out]
    exact ⟨F, by rw [ptrOf_bad H1.out]; rfl, (S2.out.below ((Below.refl w2.heap.size w2).alloc (Nat.le_refl _) _)).disk, fun e => absurd e H1.out, Born.of_goes B1.out HF.out (G2.out.trans (Goes.below ((Below.refl w2.heap.size w2).alloc (Nat.le_refl _) _))).toGoes0⟩
end Go.Proofs.YtgmkbcoahilkhaaGreat.Sh
end
section
namespace Go.Proofs.YtgmkbcoahilkhaaGreat.Sh
open Go.RowKit Disk Page Num Bitset
def Root.same (a b : Root) : Bool := decide (a.epoch = b.epoch) && decide (a.blocks = b.blocks) && decide (a.next = b.next) && decide (a.start = b.start) && decide (a.tables = b.tables) && decide (a.maps = b.maps)
def Sh.same (a b : Sh) : Bool := a.root.same b.root && decide (a.was = b.was) && decide (a.used = b.used) && decide (a.table = b.table) && decide (a.start = b.start) && decide (a.fresh = b.fresh) && (a.dirty == b.dirty) && (a.bad == b.bad)
def bitsByte (k j : Nat) : Int := ((List.range 8).map fun t => if 3 ≤ 8 * j + t ∧ 8 * j + t < k + 3 then (2 : Int) ^ (7 - t) else 0).sum
def filled (n k : Nat) : Sh :=
  { D := DiskSt.new n, root := firstRoot n, was := [0], used := 224 :: List.replicate ((n + 7) / 8 - 1) 0, table := 0 :: (List.range k).map fun i => ((3 + i : Nat) : Int), start := 0,
    fresh := (List.range ((n + 7) / 8)).map (bitsByte k), dirty := decide (0 < k), bad := false }
def allocTo (s : Sh) (t : Sh) (id : Int) (e : Int) : Bool :=
  match s.qalloc 5 0 with
  | some (s', i, e') => s'.same t && decide (i = id) && decide (e' = e)
  | none => false
def fillsAt (n : Nat) : Bool := (List.range (n - 3)).all fun k => allocTo (filled n k) (filled n (k + 1)) ((k + 1 : Nat) : Int) 0
def formatsAt (n : Nat) : Bool :=
  match Sh.qformat n with
  | some (s, e) => s.same (filled n 0) && decide (e = 0)
  | none => false
def afterAt (n : Nat) : Bool :=
  let s := filled n (n - 3)
  allocTo s s 0 10 && (match s.qcommit with | some (s', e) => s'.same s && decide (e = 10) | none => false) && decide (s.ids.length = n - 3) && s.dirty &&
  (let a := s.free 1
   let b := a.1.free 2
   decide (a.2 = 0) && decide (b.2 = 0) &&
   (match b.1.qcommit with
    | some (c, e) => decide (e = 0) && decide (c.usedN = n - 1) &&
      (match c.qalloc 5 0 with
       | some (d, _, e) => decide (e = 0) && allocTo d d 0 10 && decide (d.abort.2 = 0) && decide (d.abort.1.ids.length = n - 5)
       | none => false)
    | none => false))
end Go.Proofs.YtgmkbcoahilkhaaGreat.Sh
end
section
namespace Go.Proofs.YtgmkbcoahilkhaaGreat.Sh
open Go.RowKit Disk Page Num Bitset
def DiskSt.crash0 (D : DiskSt) : DiskSt := { D.settled with down := false, done := false, fails := -1 }
def awF : Sh × Int := Sh.format (DiskSt.new 20)
def awA : Sh × Int × Int := awF.1.alloc 5 [120]
def awC : Sh × Int := awA.1.commit
def awO : Sh × Int := Sh.open_ (DiskSt.crash0 awC.1.D)
def awR : Sh × Int × List Int × Int := awO.1.read 1
theorem aw_format : decide (awF.2 = 0) && decide (awF.1.D.ops = 5) = true := by decide +kernel
theorem aw_alloc : (decide (awA.2 = (1, 0)) && decide (awA.1.usedN = 4) && awA.1.dirty) = true := by decide +kernel
theorem aw_commit : (decide (awC.2 = 0) && decide (awC.1.usedN = 5) && decide (awC.1.root.epoch = 1)) = true := by decide +kernel
theorem aw_open : (decide (awO.2 = 0) && decide (awO.1.ids.length = 1)) = true := by decide +kernel
theorem aw_read : (decide (awR.2 = (5, [120], 0)) && decide (awR.1.D.reads = 5)) = true := by decide +kernel
end Go.Proofs.YtgmkbcoahilkhaaGreat.Sh
end
section
namespace Go.Proofs.YtgmkbcoahilkhaaGreat.Sh
open Go.RowKit Disk Page Num Bitset MapFn
structure DB (D : DiskSt) : Prop where
  safe : ∀ j l, D.safe j = some l → Bytes l
  loose : ∀ j l, D.loose j = some l → Bytes l
theorem zeros_bytes : Bytes zeros := by
  intro x hx
  simp only [zeros, List.mem_replicate] at hx
  rw [hx.2]
  exact ⟨by decide, by decide⟩
theorem DB.get {D : DiskSt} (h : DB D) (n : Int) : Bytes (D.get n) := by
  unfold DiskSt.get
  cases h1 : D.loose n with
  | some l => exact h.loose n l h1
  | none =>
    cases h2 : D.safe n with
    | some l => exact h.safe n l h2
    | none => exact zeros_bytes
theorem DB.new (n : Int) : DB (DiskSt.new n) := ⟨(fun j l h => by cases h), (fun j l h => by cases h)⟩
theorem DB.of {D E : DiskSt} (h : DB D) (h1 : E.safe = D.safe) (h2 : E.loose = D.loose) : DB E := ⟨by rw [h1]; exact h.safe, by rw [h2]; exact h.loose⟩
theorem DB.read {D : DiskSt} (h : DB D) : DB D.read := h.of rfl rfl
theorem merge_bytes {ms ml : Int → Option (List Int)} (h1 : ∀ j l, ms j = some l → Bytes l) (h2 : ∀ j l, ml j = some l → Bytes l) : ∀ j l, mergeM ms ml j = some l → Bytes l := by
  intro j l h
  unfold mergeM at h
  cases hm : ml j with
  | some y => rw [hm] at h; cases h; exact h2 j _ hm
  | none => rw [hm] at h; exact h1 j l h
theorem DB.settled {D : DiskSt} (h : DB D) : DB D.settled := ⟨merge_bytes h.safe h.loose, (fun j l h => by cases h)⟩
theorem DB.step {D : DiskSt} (h : DB D) {act : DiskSt → DiskSt} (ha : ∀ E, DB E → DB (act E)) : DB (D.step act).1 := by
  have ho : DB D.op := h.of rfl rfl
  have hf : ∀ E, DB E → DB E.fail1 := fun E h => h.of rfl rfl
  have hd : ∀ E, DB E → DB E.dead := fun E h => h.of rfl rfl
  unfold DiskSt.step
  repeat' split
  all_goals first | exact ho | exact hf _ ho | exact ha _ ho | exact ha _ (hf _ ho) | exact hd _ (ha _ ho) | exact hd _ (ha _ (hf _ ho)) | exact hd _ ho | exact hd _ (hf _ ho)
theorem DB.sync {D : DiskSt} (h : DB D) : DB D.sync.1 := by
  unfold DiskSt.sync
  split
  · exact h
  · exact h.step fun E he => he.settled
theorem DB.write {D : DiskSt} (h : DB D) (n : Int) {l : List Int} (hb : Bytes l) : DB (D.write n l).1 := by
  unfold DiskSt.write
  split
  · exact h
  · split
    · exact h
    · exact h.step fun E he => ⟨he.safe, fun j x hx => by
        simp only [DiskSt.wrote, upd] at hx
        by_cases c : j = n
        · rw [if_pos c] at hx; cases hx; exact hb
        · rw [if_neg c] at hx; exact he.loose j x hx⟩
theorem DB.wr {s : Sh} (h : DB s.D) (n : Int) {b : List Int} (hb : Bytes b) : DB (s.wr n b).1.D := h.write n hb
theorem DB.shsync {s : Sh} (h : DB s.D) : DB s.sync.1.D := h.sync
theorem DB.layF (kind : Int) (bl : List Int) : ∀ (ps : List (List Int)) (i : Nat) (s : Sh), DB s.D → (∀ p ∈ ps, Bytes p) → DB (Sh.layF kind bl ps i s).1.D
  | [], _, s, h, _ => h
  | p :: ps, i, s, h, hb => by
    rw [layF_cons]
    split
    · exact h
    · rename_i hs
      have hp : Bytes (sealL kind i p) := seal_bytes (hb p (by simp)) (by simpa using hs)
      split
      · exact h.wr _ hp
      · exact DB.layF kind bl ps (i + 1) _ (h.wr _ hp) (fun q hq => hb q (by simp [hq]))
theorem DB.crown {s : Sh} (h : DB s.D) (r : Root) : DB (s.crown r).1.D := by
  unfold Sh.crown
  split
  · exact h.shsync
  · split
    · exact h.shsync
    · rename_i hk
      have hb : Bytes r.bytes := bytes_bytes (by simpa using hk)
      split
      · exact h.shsync.wr _ hb
      · exact (h.shsync.wr _ hb).shsync
theorem DB.place {s : Sh} (h : DB s.D) (id n : Int) {b : List Int} (hb : Bytes b) : DB (s.place id n b).1.D := by
  unfold Sh.place
  split
  · exact h.wr _ hb
  · exact h.wr _ hb
theorem DB.alloc {s : Sh} (h : DB s.D) (kind : Int) {b : List Int} (hb : Bytes b) : DB (s.alloc kind b).1.D := by
  unfold Sh.alloc
  split
  · exact h
  · split
    · exact h
    · split
      · exact h
      · rename_i hs
        split
        · exact h
        · simp only
          split
          · exact h.place _ _ (seal_bytes hb (by simpa using hs))
          · exact h.place _ _ (seal_bytes hb (by simpa using hs))
theorem DB.shwrite {s : Sh} (h : DB s.D) (id kind : Int) {b : List Int} (hb : Bytes b) : DB (s.write id kind b).1.D := by
  unfold Sh.write
  split
  · exact h
  · split
    · exact h
    · rename_i hs
      split
      · exact h.place _ _ (seal_bytes hb (by simpa using hs))
      · split
        · exact h
        · exact h.place _ _ (seal_bytes hb (by simpa using hs))
theorem DB.commit {s : Sh} (h : DB s.D) : DB s.commit.1.D := by
  unfold Sh.commit
  split
  · exact h
  · split
    · exact h
    · simp only
      split
      · exact h
      · split
        · exact h
        · rename_i l _ _
          have h1 := DB.layF 1 (s.next (splitL 246 (wordsL (s.table.drop 1))).length l).tables (splitL 246 (wordsL (s.table.drop 1))) 0 s h (splitL_bytes (wordsL_bytes _))
          split
          · exact h1
          · have h2 := DB.layF 2 (s.next (splitL 246 (wordsL (s.table.drop 1))).length l).maps (splitL 246 (usedL (s.next (splitL 246 (wordsL (s.table.drop 1))).length l) s.table)) 0 _ h1 (splitL_bytes (usedL_bytes _ _))
            split
            · exact h2
            · split
              · exact h2.crown _
              · exact h2.crown _
theorem DB.format {D : DiskSt} (h : DB D) : DB (Sh.format D).1.D := by
  have key : ∀ (U : List (List Int)) (m : List Int) (s0 : Sh) (r : Root), DB s0.D → (∀ p ∈ U, Bytes p) → DB (if (s0.lay 2 U m).2 ≠ 0 then s0.lay 2 U m else if ((s0.lay 2 U m).1.crown r).2 ≠ 0 then (s0.lay 2 U m).1.crown r else (((s0.lay 2 U m).1.crown r).1.settle r, 0)).1.D := by
    intro U m s0 r h0 hU
    have h1 : DB (s0.lay 2 U m).1.D := DB.layF 2 m U 0 s0 h0 hU
    split
    · exact h1
    · split
      · exact h1.crown _
      · exact h1.crown _
  have hU := splitL_bytes (n := 246) (usedL_bytes (firstRoot D.blocks) [0])
  unfold Sh.format
  split
  · exact h
  · split
    · exact h.write 1 zeros_bytes
    · refine key _ _ _ _ (h.write 1 zeros_bytes) hU
def bytesB (l : List Int) : Bool := l.all fun x => decide (0 ≤ x) && decide (x < 256)
theorem bytesB_ok {l : List Int} (h : bytesB l = true) : Bytes l := by
  intro x hx
  simp only [bytesB, List.all_eq_true, Bool.and_eq_true, decide_eq_true_eq] at h
  exact h x hx
def tabB (l : List Int) : Bool := decide (0 < l.length) && decide (l.length ≤ 3001) && l.all fun n => decide (0 ≤ n) && decide (n < 4096)
theorem tabB_ok {l : List Int} (h : tabB l = true) : 0 < l.length ∧ l.length ≤ 3001 ∧ ∀ n ∈ l, 0 ≤ n ∧ n < 4096 := by
  simp only [tabB, List.all_eq_true, Bool.and_eq_true, decide_eq_true_eq] at h
  exact ⟨h.1.1, h.1.2, h.2⟩
def okB (s : Sh) : Bool := decide (s.used.length ≤ 512) && bytesB s.used && decide (s.fresh.length ≤ 512) && bytesB s.fresh && tabB s.table && tabB s.was && decide (0 ≤ s.root.blocks) && decide (s.root.blocks ≤ 4096) &&
  decide (0 ≤ s.root.epoch) && decide (s.root.epoch ≤ 1099511627776) && decide (s.root.tables.length ≤ 1000) && decide (s.root.maps.length ≤ 1000)
theorem okB_ok {s : Sh} (h : okB s = true) : Ok s := by
  simp only [okB, Bool.and_eq_true, decide_eq_true_eq] at h
  obtain ⟨⟨⟨⟨⟨⟨⟨⟨⟨⟨⟨h1, h2⟩, h3⟩, h4⟩, h5⟩, h6⟩, h7⟩, h8⟩, h9⟩, h10⟩, h11⟩, h12⟩ := h
  exact ⟨⟨h1, bytesB_ok h2⟩, ⟨h3, bytesB_ok h4⟩, tabB_ok h5, tabB_ok h6, ⟨h7, h8⟩, ⟨h9, h10⟩, ⟨h11, h12⟩⟩
def nxB (s : Sh) : Bool := decide (1 ≤ mapsOf s.root.blocks) &&
  match s.lowest ((splitL 246 (wordsL (s.table.drop 1))).length + mapsOf s.root.blocks) with
  | none => true
  | some l => decide ((s.next (splitL 246 (wordsL (s.table.drop 1))).length l).check = 0)
theorem nxB_ok {s : Sh} (h : nxB s = true) : 1 ≤ mapsOf s.root.blocks ∧ ∀ l, s.lowest ((splitL 246 (wordsL (s.table.drop 1))).length + mapsOf s.root.blocks) = some l → s.root.epoch < 1099511627776 → (s.next (splitL 246 (wordsL (s.table.drop 1))).length l).check = 0 := by
  unfold nxB at h
  simp only [Bool.and_eq_true, decide_eq_true_eq] at h
  refine ⟨h.1, fun l hl _ => ?_⟩
  have := h.2
  rw [hl] at this
  simpa using this
theorem Ok.on {s : Sh} (h : Ok s) (D : DiskSt) : Ok (s.on D) := ⟨h.used, h.fresh, h.table, h.was, h.blocks, h.epoch, h.tabs⟩
theorem aw_ok : (okB awF.1 && okB awA.1 && nxB awA.1 && okB awC.1 && okB awO.1) = true := by decide +kernel
theorem aw_ok2 : (okB awR.1 && decide (awR.1.ids.length = 1)) = true := by decide +kernel
theorem roots_D (D : DiskSt) : ∃ n, (roots D).1 = { D with reads := n } := by
  unfold roots
  split
  · exact ⟨D.reads, rfl⟩
  · split
    · exact ⟨_, rfl⟩
    · exact ⟨_, rfl⟩
theorem gatherF_D (kind : Int) : ∀ (bl : List Int) (i : Nat) (D : DiskSt) (out : List Int), ∃ n, (Sh.gatherF kind bl i D out).1 = { D with reads := n }
  | [], i, D, out => ⟨D.reads, rfl⟩
  | b :: ns, i, D, out => by
    rw [gatherF_cons]
    split
    · exact ⟨D.reads, rfl⟩
    · split
      · exact ⟨_, rfl⟩
      · obtain ⟨n, h⟩ := gatherF_D kind ns (i + 1) D.read (out ++ (openL (D.get b)).2.2.1)
        exact ⟨n, by rw [h]; rfl⟩
theorem open_D (D : DiskSt) : ∃ n, (Sh.open_ D).1.D = { D with reads := n } := by
  obtain ⟨n1, h1⟩ := roots_D D
  have h2 : ∃ n, (gather (roots D).1 1 (roots D).2.1.tables).1 = { D with reads := n } := by
    obtain ⟨n, h⟩ := gatherF_D 1 (roots D).2.1.tables 0 (roots D).1 []
    exact ⟨n, by unfold gather; rw [h, h1]⟩
  have h3 : ∃ n, (gather (gather (roots D).1 1 (roots D).2.1.tables).1 2 (roots D).2.1.maps).1 = { D with reads := n } := by
    obtain ⟨n2, h2⟩ := h2
    obtain ⟨n, h⟩ := gatherF_D 2 (roots D).2.1.maps 0 (gather (roots D).1 1 (roots D).2.1.tables).1 []
    refine ⟨n, ?_⟩
    show (Sh.gatherF 2 (roots D).2.1.maps 0 (gather (roots D).1 1 (roots D).2.1.tables).1 []).1 = _
    rw [h, h2]
  unfold Sh.open_
  simp only
  split
  · exact ⟨n1, h1⟩
  · split
    · exact h2
    · split
      · exact h3
      · split
        · exact h3
        · split
          · exact h3
          · exact h3
theorem DB.open_ {D : DiskSt} (h : DB D) : DB (Sh.open_ D).1.D := by
  obtain ⟨n, e⟩ := open_D D
  rw [e]
  exact h.of rfl rfl
end Go.Proofs.YtgmkbcoahilkhaaGreat.Sh
end
section
namespace Go.Proofs
open Go.Shelf
def Tryz.keysA_ren : Go.Shelf.Ren := ⟨fun | 7 => 113 | 10 => 166 | n => n, fun | 23 => 75 | 26 => 3 | 3 => 110 | 28 => 149 | 0 => 0 | 27 => 148 | 33 => 198 | 4 => 4 | n => n, fun | n => n⟩
theorem Tryz.keysA : Go.Proofs.SlLaysZI.n7 Tryz.prog Tryz.keysA_ren := {
  mixed := by kernel_rfl
  f7 := ⟨Tryz.f113.name, by decide, Tryz.func113.trans (congrArg some (by kernel_rfl))⟩
  f10 := ⟨Tryz.f166.name, by decide, Tryz.func166.trans (congrArg some (by kernel_rfl))⟩
  t0 := Tryz.underlying0
  a0 := Tryz.isAgg0
  z0 := Tryz.sizeOf0
  v0 := Tryz.zeroValue0
  t4 := Tryz.underlying4
  a4 := Tryz.isAgg4
  z4 := Tryz.sizeOf4
  v4 := Tryz.zeroValue4
  t23 := Tryz.underlying75
  a23 := Tryz.isAgg75
  z23 := Tryz.sizeOf75
  v23 := Tryz.zeroValue75
  t26 := Tryz.underlying3
  a26 := Tryz.isAgg3
  z26 := Tryz.sizeOf3
  v26 := Tryz.zeroValue3
  t27 := Tryz.underlying148
  a27 := Tryz.isAgg148
  z27 := Tryz.sizeOf148
  v27 := Tryz.zeroValue148
  t28 := Tryz.underlying149
  a28 := Tryz.isAgg149
  z28 := Tryz.sizeOf149
  v28 := Tryz.zeroValue149
  t33 := Tryz.underlying198
  a33 := Tryz.isAgg198
  z33 := Tryz.sizeOf198
  v33 := Tryz.zeroValue198 }
def Tryz.sortedA_ren : Go.Shelf.Ren := ⟨fun | 6 => 112 | 8 => 165 | 9 => 52 | 11 => 203 | 13 => 100 | 12 => 99 | 23 => 157 | 24 => 158 | 14 => 148 | 15 => 149 | 16 => 150 | 17 => 151 | 18 => 152 | 19 => 153 | 20 => 154 | 21 => 155 | 22 => 156 | 25 => 192 | 26 => 193 | 27 => 194 | 28 => 195 | 29 => 196 | 30 => 197 | 31 => 211 | n => n, fun | 26 => 3 | 28 => 149 | 24 => 38 | 0 => 0 | 3 => 3 | 37 => 53 | 48 => 189 | 50 => 191 | 4 => 4 | 40 => 182 | 39 => 181 | 45 => 138 | 5 => 5 | 9 => 9 | 51 => 221 | 55 => 225 | 57 => 241 | 58 => 215 | 33 => 198 | n => n, fun | n => n⟩
theorem Tryz.sortedA : Go.Proofs.SlLaysZI.n6 Tryz.prog Tryz.sortedA_ren := {
  mixed := by kernel_rfl
  f6 := ⟨Tryz.f112.name, by decide, Tryz.func112.trans (congrArg some (by kernel_rfl))⟩
  f8 := ⟨Tryz.f165.name, by decide, Tryz.func165.trans (congrArg some (by kernel_rfl))⟩
  f11 := ⟨Tryz.f203.name, by decide, Tryz.func203.trans (congrArg some (by kernel_rfl))⟩
  t0 := Tryz.underlying0
  a0 := Tryz.isAgg0
  z0 := Tryz.sizeOf0
  v0 := Tryz.zeroValue0
  t24 := Tryz.underlying38
  a24 := Tryz.isAgg38
  z24 := Tryz.sizeOf38
  v24 := Tryz.zeroValue38
  t26 := Tryz.underlying3
  a26 := Tryz.isAgg3
  z26 := Tryz.sizeOf3
  v26 := Tryz.zeroValue3
  t28 := Tryz.underlying149
  a28 := Tryz.isAgg149
  z28 := Tryz.sizeOf149
  v28 := Tryz.zeroValue149
  i26 := by kernel_rfl }
def Tryz.sortA_ren : Go.Shelf.Ren := ⟨fun | 5 => 52 | 8 => 100 | 7 => 99 | 19 => 157 | 20 => 158 | 10 => 148 | 11 => 149 | 12 => 150 | 13 => 151 | 14 => 152 | 15 => 153 | 16 => 154 | 17 => 155 | 18 => 156 | 30 => 192 | 31 => 193 | 32 => 194 | 33 => 195 | 34 => 196 | 35 => 197 | 40 => 211 | n => n, fun | 23 => 38 | 25 => 3 | 3 => 3 | 32 => 53 | 22 => 38 | 0 => 0 | 44 => 189 | 46 => 191 | 4 => 4 | 36 => 182 | 35 => 181 | 41 => 138 | 5 => 5 | 9 => 9 | 53 => 221 | 57 => 225 | 63 => 241 | 64 => 215 | n => n, fun | n => n⟩
theorem Tryz.sortA : Go.Proofs.SlLaysM.n5 Tryz.prog Tryz.sortA_ren := {
  mixed := by kernel_rfl
  f5 := ⟨Tryz.f52.name, by decide, Tryz.func52.trans (congrArg some (by kernel_rfl))⟩
  f7 := ⟨Tryz.f99.name, by decide, Tryz.func99.trans (congrArg some (by kernel_rfl))⟩
  f8 := Tryz.func100.trans (congrArg some (by kernel_rfl))
  f10 := ⟨Tryz.f148.name, by decide, Tryz.func148.trans (congrArg some (by kernel_rfl))⟩
  f11 := ⟨Tryz.f149.name, by decide, Tryz.func149.trans (congrArg some (by kernel_rfl))⟩
  f12 := ⟨Tryz.f150.name, by decide, Tryz.func150.trans (congrArg some (by kernel_rfl))⟩
  f13 := ⟨Tryz.f151.name, by decide, Tryz.func151.trans (congrArg some (by kernel_rfl))⟩
  f14 := ⟨Tryz.f152.name, by decide, Tryz.func152.trans (congrArg some (by kernel_rfl))⟩
  f15 := ⟨Tryz.f153.name, by decide, Tryz.func153.trans (congrArg some (by kernel_rfl))⟩
  f16 := ⟨Tryz.f154.name, by decide, Tryz.func154.trans (congrArg some (by kernel_rfl))⟩
  f17 := ⟨Tryz.f155.name, by decide, Tryz.func155.trans (congrArg some (by kernel_rfl))⟩
  f18 := ⟨Tryz.f156.name, by decide, Tryz.func156.trans (congrArg some (by kernel_rfl))⟩
  f19 := Tryz.func157.trans (congrArg some (by kernel_rfl))
  f20 := Tryz.func158.trans (congrArg some (by kernel_rfl))
  f30 := ⟨Tryz.f192.name, by decide, Tryz.func192.trans (congrArg some (by kernel_rfl))⟩
  f31 := Tryz.func193.trans (congrArg some (by kernel_rfl))
  f32 := Tryz.func194.trans (congrArg some (by kernel_rfl))
  f33 := ⟨Tryz.f195.name, by decide, Tryz.func195.trans (congrArg some (by kernel_rfl))⟩
  f34 := ⟨Tryz.f196.name, by decide, Tryz.func196.trans (congrArg some (by kernel_rfl))⟩
  f35 := ⟨Tryz.f197.name, by decide, Tryz.func197.trans (congrArg some (by kernel_rfl))⟩
  f40 := ⟨Tryz.f211.name, by decide, Tryz.func211.trans (congrArg some (by kernel_rfl))⟩
  t0 := Tryz.underlying0
  a0 := Tryz.isAgg0
  z0 := Tryz.sizeOf0
  v0 := Tryz.zeroValue0
  t3 := Tryz.underlying3
  a3 := Tryz.isAgg3
  z3 := Tryz.sizeOf3
  v3 := Tryz.zeroValue3
  t4 := Tryz.underlying4
  a4 := Tryz.isAgg4
  z4 := Tryz.sizeOf4
  v4 := Tryz.zeroValue4
  t5 := Tryz.underlying5
  a5 := Tryz.isAgg5
  z5 := Tryz.sizeOf5
  v5 := Tryz.zeroValue5
  t9 := Tryz.underlying9
  a9 := Tryz.isAgg9
  z9 := Tryz.sizeOf9
  v9 := Tryz.zeroValue9
  t22 := Tryz.underlying38
  a22 := Tryz.isAgg38
  z22 := Tryz.sizeOf38
  v22 := Tryz.zeroValue38
  t23 := Tryz.underlying38
  a23 := Tryz.isAgg38
  z23 := Tryz.sizeOf38
  v23 := Tryz.zeroValue38
  t25 := Tryz.underlying3
  a25 := Tryz.isAgg3
  z25 := Tryz.sizeOf3
  v25 := Tryz.zeroValue3
  t32 := Tryz.underlying53
  a32 := Tryz.isAgg53
  z32 := Tryz.sizeOf53
  v32 := Tryz.zeroValue53
  t35 := Tryz.underlying181
  a35 := Tryz.isAgg181
  z35 := Tryz.sizeOf181
  v35 := Tryz.zeroValue181
  t36 := Tryz.underlying182
  a36 := Tryz.isAgg182
  z36 := Tryz.sizeOf182
  v36 := Tryz.zeroValue182
  t41 := Tryz.underlying138
  a41 := Tryz.isAgg138
  z41 := Tryz.sizeOf138
  v41 := Tryz.zeroValue138
  t44 := Tryz.underlying189
  a44 := Tryz.isAgg189
  z44 := Tryz.sizeOf189
  v44 := Tryz.zeroValue189
  t46 := Tryz.underlying191
  a46 := Tryz.isAgg191
  z46 := Tryz.sizeOf191
  v46 := Tryz.zeroValue191
  t53 := Tryz.underlying221
  a53 := Tryz.isAgg221
  z53 := Tryz.sizeOf221
  v53 := Tryz.zeroValue221
  t57 := Tryz.underlying225
  a57 := Tryz.isAgg225
  z57 := Tryz.sizeOf225
  v57 := Tryz.zeroValue225
  t63 := Tryz.underlying241
  a63 := Tryz.isAgg241
  z63 := Tryz.sizeOf241
  v63 := Tryz.zeroValue241
  t64 := Tryz.underlying215
  a64 := Tryz.isAgg215
  z64 := Tryz.sizeOf215
  v64 := Tryz.zeroValue215 }
end Go.Proofs
end
section
namespace Go.Proofs.YtgmkbcoahilkhaaGreat.Disk
open Go.RowKit Go.Maps Go.Sort Go.Shelf YtgmkbcoahilkhaaGreatW.PrintWords MapFn
set_option maxHeartbeats 4000000
set_option maxRecDepth 100000
def looseL (D : DiskSt) : List Int := ((List.range D.blocks.toNat).map fun (i : Nat) => (i : Int)).filter fun j => (D.loose j).isSome
theorem looseL_mem {D : DiskSt} (hd : ∀ k, (D.loose k).isSome = true → 0 ≤ k ∧ k < D.blocks) (x : Int) : x ∈ looseL D ↔ (D.loose x).isSome = true := by
  unfold looseL
  rw [List.mem_filter, List.mem_map]
  constructor
  · exact fun h => h.2
  · intro h
    have := hd x h
    exact ⟨⟨x.toNat, List.mem_range.2 (by omega), by omega⟩, h⟩
theorem looseL_lt (D : DiskSt) : (looseL D).Pairwise (· < ·) := by
  unfold looseL
  refine List.Pairwise.filter _ ?_
  rw [List.pairwise_map]
  exact List.pairwise_lt_range.imp fun h => by omega
theorem looseL_len (D : DiskSt) : (looseL D).length ≤ D.blocks.toNat := by
  unfold looseL
  refine Nat.le_trans (List.length_filter_le _ _) ?_
  simp
theorem looseL_sorted (D : DiskSt) : (looseL D).mergeSort leI = looseL D := by
  refine List.mergeSort_of_pairwise ((looseL_lt D).imp fun h => ?_)
  simp only [leI, decide_eq_true_eq]
  omega
theorem keys_perm {w : World} {b : Nat} {D : DiskSt} {D0 : DataW Unit} (h : MapIs Tryz.prog 3 blk w b D.loose D0) (hd : ∀ k, (D.loose k).isSome = true → 0 ≤ k ∧ k < D.blocks) : (looseL D).Perm (intKeys D0) := by
  have hk : Tryz.prog.underlying 3 = some (.int .i64) := Tryz.underlying3
  obtain ⟨es, rfl, hp, hl⟩ := h.owns.entries (int_keyed hk)
  have hkeys : ∀ p ∈ es, ∃ j : Int, p.1 = .int .i64 j ∧ wf j := by
    obtain ⟨es', clock, hb, F, hs, hD⟩ := h.owns
    intro p hpm
    have e1 : es = (es'.toList.map (Go.WideElems.rg Tryz.prog 3 blk.R)).foldr DataW.insert [] := by injection hD
    rw [e1] at hpm
    obtain ⟨v, hv⟩ := fit_keys F p (mem_sorted.1 hpm)
    cases v <;> simp [keyOf, mapKey, hk] at hv
    obtain ⟨⟨rfl, hw⟩, he⟩ := hv
    exact ⟨_, he.symm, hw⟩
  refine perm_intKeys hp (fun p hpm => by obtain ⟨j, e, _⟩ := hkeys p hpm; exact ⟨j, e⟩) ((looseL_lt D).imp fun h => Int.ne_of_lt h) fun x => ?_
  rw [looseL_mem hd]
  constructor
  · intro hx
    rw [h.has x (h.dom x hx), hx]
  · intro hx
    have hx' := hx
    rw [Maps.has_eq, List.any_eq_true] at hx'
    obtain ⟨p, hpm, hs⟩ := hx'
    obtain ⟨j, e, hw⟩ := hkeys p hpm
    rw [e] at hs
    have : j = x := by simpa [Lit.sameKey] using hs
    subst this
    rw [← h.has j hw]
    exact hx
theorem sortsA (m : Nat) : AnyZI.SortsIn Tryz.prog Tryz.sortedA_ren Fence.wide m :=
  ⟨fun blk off cap ss W hH hblk hsz => callsIn_wide.2 (AnyM.slices_Sort_int Tryz.sortA blk off cap ss W hH hblk hsz),
   fun p cap W => callsIn_wide.2 (AnyM.slices_Sort_int_none Tryz.sortA p cap W)⟩
theorem keys_plain (mb : Option Nat) (W : World) : Calls Tryz.prog 113 #[.map mb] W fun e w' => e = .returned (.func (.func 166) #[] #[.pointer (some ⟨W.heap.size, 0, none⟩)]) ∧ w' = W.alloc (.cells #[.map mb] 75) :=
  callsIn_wide.1 (AnyZI.keys_in Tryz.keysA Fence.wide 5 trivial rfl mb W)
theorem sorted_plain (b nn : Nat) (D0 : DataW Unit) (w : World) (hown : w.ownsMap Tryz.prog 3 blk.R b nn D0) (hmax : Maps.size D0 ≤ maxLen) (hbytes : Maps.size D0 * 8 ≤ 140737488355328) :
    Calls Tryz.prog 112 #[.func (.func 166) #[] #[.pointer (some ⟨w.heap.size, 0, none⟩)]] (w.alloc (.cells #[.map (some b)] 75)) fun e w' => ∃ (v : Value) (ss : List Int), e = .returned v ∧ ss.Perm (intKeys D0) ∧
      w'.ownsRow (w.alloc (.cells #[.map (some b)] 75)).heap.size 3 1 v ss.length ((ss.mergeSort (fun x y => decide (x ≤ y))).map encZ) ∧ (v = .slice none 0 0 ↔ ss = []) ∧ Below (w.alloc (.cells #[.map (some b)] 75)).heap.size (w.alloc (.cells #[.map (some b)] 75)) w' := by
  have hbl := hown.lt
  have hseq : SeqGives Fence.wide 2 Tryz.prog 166 #[.pointer (some ⟨w.heap.size, 0, none⟩)] encZ (fun ss => ss.Perm (intKeys D0)) (Maps.size D0) (w.alloc (.cells #[.map (some b)] 75)) :=
    AnyZI.keys_gives (ρ := Tryz.keysA_ren) { Tryz.keysA with } Fence.wide _ trivial rfl (by omega) w.heap.size b nn D0 _ (by simp) (by simp) (by
      obtain ⟨es, clock, hb, Ft, hs, hD⟩ := hown
      exact ⟨es, clock, (Below.heap_alloc _ _ b hbl).trans hb, Ft, hs, hD⟩)
  have cS := AnyZI.sorted_in Tryz.sortedA Fence.wide 5 trivial trivial trivial trivial rfl (by omega) (sortsA _) (enters_of Tryz.func52 (by kernel_rfl) rfl) 166 #[.pointer (some ⟨w.heap.size, 0, none⟩)] trivial (enters_of Tryz.func166 (by kernel_rfl) rfl) _ _ hmax hbytes _ hseq
  exact callsIn_wide.1 cS
section
variable {p ms ml : Nat} {D : DiskSt} {w : World}
theorem Loose_any (h : DiskAt w p ms ml D) : Calls Tryz.prog 78 #[.pointer (some ⟨p, 0, none⟩)] w fun e w' => ∃ v, e = .returned v ∧ Kd.R (Kd.int .i64) 3 w' w.heap.size (fun _ => True) v (looseL D) ∧ Below w.heap.size w w' := by
  obtain ⟨D0, hM⟩ := h.loose
  have hd : ∀ k, (D.loose k).isSome = true → 0 ≤ k ∧ k < D.blocks := fun k hk => h.dom k (.inr hk)
  have hp := keys_perm hM hd
  have hz : Maps.size D0 ≤ 4096 := hM.size_le Tryz.underlying3 (N := 4096) (fun j hj => by have := hd j hj; have := h.most; omega)
  have c2 := h.cells.c2
  have HK := Hide.mk (fun W => keys_plain (some ml) W)
  have HS := Hide.mk (sorted_plain ml _ D0 w hM.owns (by unfold maxLen; omega) (by omega))
  have HP := Hide.mk hp
  clear h hM hd hp hz
  go_enter Tryz.func78, Tryz.ntmps78
  go_wp2_with (first
    | (go_at_call 113; refine (HK.out _).mono ?_; rintro e w1 ⟨rfl, rfl⟩)
    | (go_at_call 112; refine HS.out.mono ?_; rintro e w2 ⟨v, ss, rfl, hS, hrow, hnil, hb⟩))
  go_ret
  refine ⟨v, rfl, ?_, ((Below.refl _ w).alloc (Nat.le_refl _) _).trans (hb.mono (by simp))⟩
  have e1 : ss.mergeSort leI = looseL D := by rw [mergeSort_of_perm_i (hS.trans HP.out.symm), looseL_sorted]
  have e2 : ss.length = (looseL D).length := (hS.trans HP.out.symm).length_eq
  rw [show (fun x y : Int => decide (x ≤ y)) = leI from rfl, e1, e2] at hrow
  exact Kd.R_lower (Kd.R_of_own (enc := Value.int .i64) (h1 := fun _ => rfl) hrow (fun _ _ => trivial)) (by simp)
end
end Go.Proofs.YtgmkbcoahilkhaaGreat.Disk
end
section
namespace Go.Proofs.YtgmkbcoahilkhaaGreat.Disk
open Go.RowKit Go.Maps YtgmkbcoahilkhaaGreatW.PrintWords MapFn
set_option maxHeartbeats 4000000
set_option maxRecDepth 100000
def DiskSt.reset (D : DiskSt) : DiskSt := { D.settled with down := false, done := false, fails := -1 }
section
variable {p ms ml : Nat} {D : DiskSt} {w : World}
theorem DiskAt.set_reset (h : DiskAt w p ms ml D.settled) : DiskAt (((w.setCell ⟨p, 3, none⟩ (.bool false)).setCell ⟨p, 7, none⟩ (.bool false)).setCell ⟨p, 6, none⟩ (.int .i64 (-1))) p ms ml D.reset ∧ Moves [p] w (((w.setCell ⟨p, 3, none⟩ (.bool false)).setCell ⟨p, 7, none⟩ (.bool false)).setCell ⟨p, 6, none⟩ (.int .i64 (-1))) :=
  have hm : Moves [p] w (((w.setCell ⟨p, 3, none⟩ (.bool false)).setCell ⟨p, 7, none⟩ (.bool false)).setCell ⟨p, 6, none⟩ (.int .i64 (-1))) := ((set_moves (i := 3) _).trans (set_moves (i := 7) _)).trans (set_moves (i := 6) _)
  ⟨h.row_set hm (by have h1 := set_row (i := 6) (set_row (i := 7) (set_row (i := 3) h.row (.bool false)) (.bool false)) (.int .i64 (-1)); simp at h1; exact h1) rfl rfl rfl, hm⟩
theorem looseL_none (h : ∀ j, D.loose j = none) : looseL D = [] := by
  unfold looseL
  rw [List.filter_eq_nil_iff]
  intro j _
  rw [h j]
  simp
theorem crash0_any (A : Option Addr) (n c : Nat) (h : DiskAt w p ms ml D) (hl : ∀ j, D.loose j = none) :
    Calls Tryz.prog 32 #[.pointer (some ⟨p, 0, none⟩), .slice A n c] w fun e w' => e = .returned (.tuple #[]) ∧ ∃ ml', DiskAt w' p ms ml' D.reset ∧ (ml' = ml ∨ w.heap.size ≤ ml') ∧ Moves [p, ms] w w' := by
  obtain ⟨W, hW⟩ : ∃ W, w.alloc (.cells #[.slice A n c] 22) = W := ⟨_, rfl⟩
  have hb := (Below.refl w.heap.size w).alloc (Nat.le_refl _) (.cells #[.slice A n c] 22)
  rw [hW] at hb
  have HL0 := Loose_any (h.below hb)
  rw [looseL_none hl] at HL0
  have HL := Hide.mk HL0
  have HW := Hide.mk hW
  have HD := Hide.mk (h.below hb)
  have HB := Hide.mk hb
  clear h hl hb hW HL0
  go_enter Tryz.func32, Tryz.ntmps32
  go_wp2_with (go_at_call 78; rw [HW.out]; refine HL.out.mono ?_; rintro e w1 ⟨v1, rfl, ho, hb1⟩
               obtain ⟨A1, c1, rfl, _⟩ := Kd.R_reads ho
               have B1 := Hide.mk hb1
               rw [show ([] : List Int).length = 0 from rfl]
               have D1 := Hide.mk (HD.out.below hb1)
               have HS := Hide.mk (settle_any p ms ml D w1 D1.out)
               clear ho hb1)
  go_loopw [15] (fun v15 wr => v15 = .int .i64 0 ∧ wr = w1) (fun _ _ => 0)
  case atStart => exact ⟨by first | rfl | simp, rfl⟩
  case round =>
    obtain ⟨rfl, hw1⟩ := hrel
    subst hw1
    go_wp2_with (go_at_call 79; refine HS.out.mono ?_; rintro e w2 ⟨rfl, ml2, hd, hml, hm⟩
                 have D2 := Hide.mk hd
                 have M2 := Hide.mk hm
                 have ML2 := Hide.mk hml
                 have c3 := hd.cells.c3
                 have c7 := hd.cells.c7
                 have c6 := hd.cells.c6
                 have f3 := free_of (i := 3) hd.row
                 have f7 := free_of (i := 7) hd.row
                 have f6 := free_of (i := 6) hd.row
                 clear hd hm hml)
    go_end0
    have hr := D2.out.set_reset
    exact ⟨rfl, ml2, hr.1, .inr (Nat.le_trans (Nat.le_trans HB.out.size B1.out.size) ML2.out), ((Moves.of_below (HB.out.trans (B1.out.mono HB.out.size)) _).trans M2.out).trans (hr.2.more (by simp))⟩
end
end Go.Proofs.YtgmkbcoahilkhaaGreat.Disk
end
section
namespace Go.Proofs.YtgmkbcoahilkhaaGreat.Sh
open Go.RowKit YtgmkbcoahilkhaaGreatW.PrintWords YtgmkbcoahilkhaaGreatW.PrintLast YtgmkbcoahilkhaaGreatW.PrintMore MapFn Disk Bitset Page PShadowPlays Num
set_option maxHeartbeats 16000000
set_option maxRecDepth 100000
theorem sync_loose {D : DiskSt} (h : D.sync.2 = 0) : ∀ j, D.sync.1.loose j = none := by
  unfold DiskSt.sync at h ⊢
  split at h
  · exact absurd h (by assumption)
  · rename_i hc
    rw [if_neg hc]
    unfold DiskSt.step at h ⊢
    split at h
    · rename_i h1
      rw [if_pos h1]
      intro j; rfl
    · rename_i h1
      rw [if_neg h1]
      split at h
      · cases h
      · rename_i h2
        rw [if_neg h2]
        intro j; rfl
theorem crown_loose {s : Sh} {r : Root} (h : (s.crown r).2 = 0) : ∀ j, (s.crown r).1.D.loose j = none := by
  unfold Sh.crown at h ⊢
  split at h
  · exact absurd h (by assumption)
  · rename_i h1
    rw [if_neg h1]
    split at h
    · exact absurd h (by assumption)
    · rename_i h2
      rw [if_neg h2]
      split at h
      · exact absurd h (by assumption)
      · rename_i h3
        rw [if_neg h3]
        exact sync_loose h
theorem commit_loose {s : Sh} (h : s.commit.2 = 0) (hd : s.dirty = true) : ∀ j, s.commit.1.D.loose j = none := by
  unfold Sh.commit at h ⊢
  split at h
  · exact absurd h (by assumption)
  · rename_i h1
    rw [if_neg h1, if_neg (by rw [hd]; simp)]
    rw [if_neg (by rw [hd]; simp)] at h
    simp only at h ⊢
    split at h
    · cases h
    · rename_i l hl
      split at h
      · cases h
      · rename_i h2
        rw [if_neg h2]
        split at h
        · exact absurd h (by assumption)
        · rename_i h3
          rw [if_neg h3]
          split at h
          · exact absurd h (by assumption)
          · rename_i h4
            rw [if_neg h4]
            split at h
            · exact absurd h (by assumption)
            · rename_i h5
              rw [if_neg h5]
              exact crown_loose (by simpa using h5)
theorem C_of_rowF {w : World} {g : Nat} {l : List Int} {t : TypeId} {fr : Nat × Nat} (h : w.heap[g]? = some (.cells (encB l) t fr)) (hl : l.length ≤ 9223372036854775807) : Kd.C (Kd.int .u8) w (some ⟨g, 0, none⟩) l.length l := by
  refine Kd.C_of_reads (enc := Value.int .u8) (d := (0 : Int)) (h1 := fun _ => rfl) ⟨rfl, hl, fun _ => ⟨_, rfl, fun j hj => ?_⟩⟩
  rw [Go.WideShapes.add_plain, Nat.zero_add, cell_of h]
  show (l.map (Value.int .u8)).toArray[j]? = _
  rw [List.getElem?_toArray, List.getElem?_map]
  simp [List.getD_eq_getElem?_getD, hj]
theorem _root_.Go.RowKit.Below.moves_low {B : Nat} {l : List Nat} {a b c : World} (h : Below B a b) (k : Moves l b c) (hl : ∀ x ∈ l, B ≤ x) (hB : B ≤ a.heap.size) : Below B a c :=
  ⟨k.os.trans h.os, k.tape.trans h.tape, k.output.trans h.output, Nat.le_trans h.size k.size, fun j hj => (k.block j (Nat.lt_of_lt_of_le (Nat.lt_of_lt_of_le hj hB) h.size) (fun hm => by have := hl j hm; omega)).trans (h.block j hj)⟩
theorem DB.reset {D : DiskSt} (h : DB D) : DB D.reset := h.settled.of rfl rfl
theorem aw_facts : ∃ sF sA sC sO sR, (Sh.format (DiskSt.new 20) = (sF, 0) ∧ sF.D.ops = 5 ∧ Ok sF ∧ True) ∧
    (sF.alloc 5 [120] = (sA, 1, 0) ∧ Ok sA ∧ ((sA.usedN : Nat) : Int) = 4 ∧ sA.dirty = true ∧ 1 ≤ mapsOf sA.root.blocks ∧ ∀ l, sA.lowest ((splitL 246 (wordsL (sA.table.drop 1))).length + mapsOf sA.root.blocks) = some l → sA.root.epoch < 1099511627776 → (sA.next (splitL 246 (wordsL (sA.table.drop 1))).length l).check = 0) ∧
    (sA.commit = (sC, 0) ∧ Ok sC ∧ ((sC.usedN : Nat) : Int) = 5 ∧ sC.root.epoch = 1 ∧ (∀ j, sC.D.loose j = none) ∧ ∀ n, Bytes (sC.D.reset.get n)) ∧
    (Sh.open_ sC.D.reset = (sO, 0) ∧ Ok sO ∧ ∀ n, Bytes (sO.D.get n)) ∧ (sO.read 1 = (sR, 5, [120], 0) ∧ Ok sR ∧ sR.ids.length = 1 ∧ sR.D.reads = 5) := by
  have h1 := aw_format
  have h2 := aw_alloc
  have h3 := aw_commit
  have h4 := aw_open
  have h5 := aw_read
  have h6 := aw_ok
  have h7 := aw_ok2
  simp only [Bool.and_eq_true, decide_eq_true_eq] at h1 h2 h3 h4 h5 h6 h7
  have d1 : DB awF.1.D := (DB.new 20).format
  have d2 : DB awA.1.D := d1.alloc 5 (bytesB_ok (by decide))
  have d3 : DB awC.1.D := d2.commit
  have nx := nxB_ok h6.1.1.2
  refine ⟨awF.1, awA.1, awC.1, awO.1, awR.1, ⟨?_, h1.2, okB_ok h6.1.1.1.1, trivial⟩, ⟨?_, okB_ok h6.1.1.1.2, by rw [h2.1.2]; rfl, h2.2, nx⟩, ⟨?_, okB_ok h6.1.2, by rw [h3.1.2]; rfl, h3.2, commit_loose h3.1.1 h2.2, d3.reset.get⟩, ⟨?_, okB_ok h6.2, ?_⟩, ?_, okB_ok h7.1, h7.2, h5.2⟩
  · show awF = (awF.1, 0); rw [← h1.1]
  · show awA = (awA.1, 1, 0); rw [← h2.1.1]
  · show awC = (awC.1, 0); rw [← h3.1.1]
  · show awO = (awO.1, 0); rw [← h4.1]
  · exact (DB.open_ d3.reset).get
  · show awR = (awR.1, 5, [120], 0); rw [← h5.1]
theorem awake_any (w : World) : Calls Tryz.prog 18 #[] w fun e w' => e = .returned (.bool true) ∧ Below w.heap.size w w' := by
  obtain ⟨sF, sA, sC, sO, sR, fF, fA, fC, fO, fR⟩ := aw_facts
  have FF := Hide.mk fF
  have FA := Hide.mk fA
  have FC := Hide.mk fC
  have FO := Hide.mk fO
  have FR := Hide.mk fR
  clear fF fA fC fO fR
  have hcv := fun (w : World) (C : Array Value) (n c : Nat) => Lib.run_convert_bytes_const (P := Tryz.prog) w 22 5 C n c Tryz.underlying22 Tryz.underlying5
  go_enter Tryz.func18, Tryz.ntmps18
  go_wp2_with (first
    | (go_at_call 10
       refine (new_any 20 _).mono ?_
       rintro e w1 ⟨pd, ms, ml, rfl, hd, hb, hp1, hp2, hp3⟩
       have HFM0 := format_any pd ms ml _ w1 hd ⟨by decide, by decide⟩
       rw [FF.out.1] at HFM0
       simp only [ptrOf_ok] at HFM0
       have HFM := Hide.mk HFM0
       have B1 := Hide.mk hb
       have P1 := Hide.mk (And.intro hp1 (And.intro hp2 hp3))
       clear hd hb hp1 hp2 hp3 HFM0)
    | (go_at_call 9
       with_reducible refine HFM.out.mono ?_
       rintro e w2 ⟨F2, rfl, hs, hbn⟩
       have S2 := Hide.mk hs
       have N2 := Hide.mk hbn
       have HOP0 := Ops_any hs.disk
       rw [hbn.epd, FF.out.2.1] at HOP0
       have HOP := Hide.mk HOP0
       clear hs hbn HOP0)
    | (go_at_call 55
       with_reducible refine HOP.out.mono ?_
       rintro e w3 ⟨rfl, hw3⟩
       have hw4 := hw3.symm
       subst hw4)
    | (go_at_call 19
       obtain ⟨W3, hW3⟩ : ∃ W, w2.alloc (.cells #[.int .u8 120] 5 (1, 2)) = W := ⟨_, rfl⟩
       rw [hW3]
       have hal := (Below.refl w2.heap.size w2).alloc (Nat.le_refl _) (.cells #[.int .u8 120] 5 (1, 2))
       have row3 := heap_last w2 (.cells #[.int .u8 120] 5 (1, 2))
       rw [hW3] at hal row3
       have hin : In .u8 W3 (some ⟨w2.heap.size, 0, none⟩) [120] 1 := ⟨C_of_rowF (l := [120]) row3 (by decide), Nat.le_refl _, fun a ha => by cases ha; exact lt_of_row row3⟩
       have HAL := alloc_any 5 (some ⟨w2.heap.size, 0, none⟩) 1 [120] W3 F2 sF (S2.out.below hal) FF.out.2.2.1 hin.wide (bytesB_ok (by decide))
       rw [FA.out.1] at HAL
       refine HAL.mono ?_
       rintro e w5 ⟨rfl, F5, hs, hg⟩
       have S5 := Hide.mk hs
       have G5 := Hide.mk ((Goes.below hal).trans hg)
       have HUS0 := used_any w5 F5 sA hs FA.out.2.1
       rw [FA.out.2.2.1, hg.p] at HUS0
       have HUS := Hide.mk HUS0
       clear hal row3 hin HAL hs hg hW3 HUS0)
    | (go_at_call 24
       with_reducible refine HUS.out.mono ?_
       rintro e w6 ⟨rfl, hb⟩
       have S6 := Hide.mk (S5.out.below hb)
       have B6 := Hide.mk hb
       have HDI0 := dirty_any w6 F5 sA S6.out
       rw [FA.out.2.2.2.1, G5.out.p] at HDI0
       have HDI := Hide.mk HDI0
       clear hb HDI0)
    | (go_at_call 22
       with_reducible refine HDI.out.mono ?_
       rintro e w7 ⟨rfl, hw7⟩
       have hw8 := hw7.symm
       subst hw8
       have HCM0 := commit_any w6 F5 sA S6.out FA.out.2.1 FA.out.2.2.2.2.1 FA.out.2.2.2.2.2
       rw [FC.out.1, G5.out.p] at HCM0
       have HCM := Hide.mk HCM0
       clear HCM0)
    | (go_at_call 20
       with_reducible refine HCM.out.mono ?_
       rintro e w9 ⟨rfl, F9, hs, hg⟩
       have S9 := Hide.mk hs
       have G9 := Hide.mk ((G5.out.trans (Goes.below B6.out)).trans hg)
       have HUS20 := used_any w9 F9 sC hs FC.out.2.1
       rw [FC.out.2.2.1, ((G5.out.trans (Goes.below B6.out)).trans hg).p] at HUS20
       have HUS2 := Hide.mk HUS20
       clear hs hg HUS20)
    | (go_at_call 24
       with_reducible refine HUS2.out.mono ?_
       rintro e w10 ⟨rfl, hb⟩
       have S10 := Hide.mk (S9.out.below hb)
       have B10 := Hide.mk hb
       have HEP0 := epoch_any w10 F9 sC S10.out
       rw [FC.out.2.2.2.1, G9.out.p] at HEP0
       have HEP := Hide.mk HEP0
       clear hb HEP0)
    | (go_at_call 56
       with_reducible refine HEP.out.mono ?_
       rintro e w11 ⟨rfl, hw11⟩
       have hw12 := hw11.symm
       subst hw12
       have HCR0 := crash0_any none 0 0 S10.out.disk FC.out.2.2.2.2.1
       rw [G9.out.pd, N2.out.epd] at HCR0
       have HCR := Hide.mk HCR0
       clear HCR0)
    | (go_at_call 32
       with_reducible refine HCR.out.mono ?_
       rintro e w13 ⟨rfl, ml13, hd, hml, hm⟩
       have D13 := Hide.mk hd
       have HML := Hide.mk hml
       have M13 := Hide.mk hm
       have HSO0 := shopen_any _ _ _ _ w13 hd FC.out.2.2.2.2.2
       rw [FO.out.1] at HSO0
       simp only [ptrOf_ok] at HSO0
       have HSO := Hide.mk HSO0
       clear hd hml hm HSO0)
    | (go_at_call 30
       with_reducible refine HSO.out.mono ?_
       rintro e w14 ⟨F14, rfl, _, hs, hbn⟩
       have S14 := Hide.mk (hs trivial)
       have N14 := Hide.mk hbn
       have HRD0 := shread_any 1 w14 F14 sO (hs trivial) FO.out.2.1 FO.out.2.2
       rw [FR.out.1] at HRD0
       have HRD := Hide.mk HRD0
       clear hs hbn HRD0)
    | (go_at_call 57
       with_reducible refine HRD.out.mono ?_
       rintro e w15 ⟨v15, rfl, ho, F15, hs, hg⟩
       obtain ⟨A15, c15, hv15, hi15, _⟩ := In.of_own ho
       rw [show ([120] : List Int).length = 1 from rfl] at hv15
       subst hv15
       have hcv : (convert 22 9 (.slice A15 1 c15)).run Tryz.prog w15 = .ok (.string (strOfNums [120])) w15 := Kd.C_string Tryz.underlying22 Tryz.underlying5 Tryz.underlying9 hi15.reads
       have hse : (strOfNums [120]).toList = [120] := by simp [strOfNums]
       have S15 := Hide.mk hs
       have G15 := Hide.mk hg
       have HID0 := ids_any w15 F15 sR hs (by have := FR.out.2.1.table.2.1; omega)
       rw [hg.p] at HID0
       have HID := Hide.mk HID0
       clear ho hs hg hi15 HID0)
    | (go_at_call 21
       with_reducible refine HID.out.mono ?_
       rintro e w16 ⟨v16, rfl, ho, hb⟩
       obtain ⟨A16, c16, hv16, _⟩ := Kd.R_reads ho
       rw [FR.out.2.2.1] at hv16
       subst hv16
       have B16 := Hide.mk hb
       have HRS0 := Reads_any (S15.out.below hb).disk
       rw [G15.out.pd, N14.out.epd, FR.out.2.2.2] at HRS0
       have HRS := Hide.mk HRS0
       clear ho hb HRS0)
    | (go_at_call 58
       with_reducible refine HRS.out.mono ?_
       rintro e w17 ⟨rfl, hw17⟩
       have hw18 := hw17.symm
       subst hw18))
  go_ret
  have gF : Goes F2 F9 w2 w10 := G9.out.trans (Goes.below B10.out)
  have m1 : Moves [pd, ms, ml] w1 w2 := N2.out.moves
  have m2 : Moves F2.own w2 w10 := gF.moves
  have hpd := N2.out.epd
  have hms := N2.out.ems
  have own10 : ∀ x ∈ F9.own, w.heap.size ≤ x := fun x hx => by
    rcases gF.own x hx with q | q
    · rcases N2.out.own x q with q | q
      · have := P1.out; simp only [List.mem_cons, List.not_mem_nil, or_false] at q; omega
      · exact Nat.le_trans B1.out.size q
    · exact Nat.le_trans (Nat.le_trans B1.out.size m1.size) q
  have hml9 : w.heap.size ≤ F9.ml := own10 _ (by simp [Foot.own])
  have hms9 : w.heap.size ≤ F9.ms := own10 _ (by simp [Foot.own])
  have hpd9 : w.heap.size ≤ pd := P1.out.1
  have own2 : ∀ x ∈ F2.own, w.heap.size ≤ x := fun x hx => by
    rcases N2.out.own x hx with q | q
    · have := P1.out; simp only [List.mem_cons, List.not_mem_nil, or_false] at q; omega
    · exact Nat.le_trans B1.out.size q
  have b2 : Below w.heap.size w w2 := B1.out.moves_low m1 (fun x hx => by have := P1.out; simp only [List.mem_cons, List.not_mem_nil, or_false] at hx; omega) (Nat.le_refl _)
  have b10 : Below w.heap.size w w10 := b2.moves_low m2 own2 (Nat.le_refl _)
  have b13 : Below w.heap.size w w13 := (b10.moves_low M13.out (fun x hx => by simp only [List.mem_cons, List.not_mem_nil, or_false] at hx; omega) (Nat.le_refl _))
  have hml13 : w.heap.size ≤ ml13 := by
    rcases HML.out with e | e
    · rw [e]; exact hml9
    · exact Nat.le_trans b10.size e
  have b14 : Below w.heap.size w w14 := (b13.moves_low N14.out.moves (fun x hx => by simp only [List.mem_cons, List.not_mem_nil, or_false] at hx; omega) (Nat.le_refl _))
  have own14 : ∀ x ∈ F14.own, w.heap.size ≤ x := fun x hx => by
    rcases N14.out.own x hx with q | q
    · simp only [List.mem_cons, List.not_mem_nil, or_false] at q; omega
    · exact Nat.le_trans b13.size q
  have b15 : Below w.heap.size w w15 := (b14.moves_low G15.out.moves own14 (Nat.le_refl _))
  exact ⟨rfl, b15.trans (B16.out.mono b15.size)⟩
end Go.Proofs.YtgmkbcoahilkhaaGreat.Sh
end
section
namespace Go.Proofs.YtgmkbcoahilkhaaGreat.Sh
open Go.RowKit YtgmkbcoahilkhaaGreatW.PrintWords YtgmkbcoahilkhaaGreatW.PrintLast YtgmkbcoahilkhaaGreatW.PrintMore MapFn Disk Bitset Page Num
set_option maxHeartbeats 4000000
structure On (w wr : World) (p pd : Nat) (s : Sh) : Prop where
  ex : ∃ F : Foot, ShAt wr F s ∧ F.p = p ∧ F.pd = pd ∧ ∀ x ∈ F.own, w.heap.size ≤ x
  below : Below w.heap.size w wr
section
variable {w wr w' : World} {p pd : Nat} {s : Sh}
theorem On.goes {F F' : Foot} {s' : Sh} (hb : Below w.heap.size w wr) (ho : ∀ x ∈ F.own, w.heap.size ≤ x) (hp : F.p = p) (hpd : F.pd = pd) (hs : ShAt w' F' s') (hg : Goes F F' wr w') : On w w' p pd s' :=
  ⟨⟨F', hs, hg.p.trans hp, hg.pd.trans hpd, fun x hx => by
    rcases hg.own x hx with q | q
    · exact ho x q
    · exact Nat.le_trans hb.size q⟩, hb.moves_low hg.moves ho (Nat.le_refl _)⟩
theorem On.later (h : On w wr p pd s) (hb : Below wr.heap.size wr w') : On w w' p pd s := by
  obtain ⟨⟨F, hs, hp, hpd, ho⟩, hbl⟩ := h
  exact ⟨⟨F, hs.below hb, hp, hpd, ho⟩, hbl.trans (hb.mono hbl.size)⟩
theorem alloc_on (h : On w wr p pd s) (hk : Ok s) (kind : Int) {A : Option Addr} {c : Nat} {body : List Int} (hr : InW .u8 wr A body c) (hb : Bytes body) :
    Calls Tryz.prog 19 #[.pointer (some ⟨p, 0, none⟩), .int .i64 kind, .slice A body.length c] wr fun en w' => en = .returned (.tuple #[.int .i64 (s.alloc kind body).2.1, .int .i64 (s.alloc kind body).2.2]) ∧ On w w' p pd (s.alloc kind body).1 := by
  obtain ⟨⟨F, hs, rfl, rfl, ho⟩, hbl⟩ := h
  refine (alloc_any kind A c body wr F s hs hk hr hb).mono ?_
  rintro e w2 ⟨rfl, F2, h2, hg⟩
  exact ⟨rfl, On.goes hbl ho rfl rfl h2 hg⟩
theorem dirty_on (h : On w wr p pd s) : Calls Tryz.prog 22 #[.pointer (some ⟨p, 0, none⟩)] wr fun en w' => en = .returned (.bool s.dirty) ∧ On w w' p pd s := by
  obtain ⟨⟨F, hs, rfl, rfl, ho⟩, hbl⟩ := h
  refine (dirty_any wr F s hs).mono ?_
  rintro e w2 ⟨rfl, rfl⟩
  exact ⟨rfl, ⟨F, hs, rfl, rfl, ho⟩, hbl⟩
theorem used_on (h : On w wr p pd s) (hk : Ok s) : Calls Tryz.prog 24 #[.pointer (some ⟨p, 0, none⟩)] wr fun en w' => en = .returned (.int .i64 ((s.usedN : Nat) : Int)) ∧ On w w' p pd s := by
  obtain ⟨⟨F, hs, rfl, rfl, ho⟩, hbl⟩ := h
  refine (used_any wr F s hs hk).mono ?_
  rintro e w2 ⟨rfl, hb⟩
  exact ⟨rfl, On.later ⟨⟨F, hs, rfl, rfl, ho⟩, hbl⟩ hb⟩
structure DOn (w wr : World) (pd : Nat) (D : DiskSt) : Prop where
  ex : ∃ ms ml, DiskAt wr pd ms ml D ∧ w.heap.size ≤ pd ∧ w.heap.size ≤ ms ∧ w.heap.size ≤ ml
  below : Below w.heap.size w wr
theorem new_on (n : Int) (w : World) : Calls Tryz.prog 10 #[.int .i64 n] w fun en w' => ∃ pd, en = .returned (.pointer (some ⟨pd, 0, none⟩)) ∧ DOn w w' pd (DiskSt.new n) := by
  refine (new_any n w).mono ?_
  rintro e w1 ⟨p, ms, ml, rfl, hd, hb, h1, h2, h3⟩
  exact ⟨p, rfl, ⟨ms, ml, hd, h1, h2, h3⟩, hb⟩
theorem format_on {D : DiskSt} (h : DOn w wr pd D) (hN : 0 ≤ D.blocks ∧ D.blocks ≤ 4096) :
    Calls Tryz.prog 9 #[.pointer (some ⟨pd, 0, none⟩)] wr fun en w' => ∃ p, en = .returned (.tuple #[ptrOf (Sh.format D).2 p, .int .i64 (Sh.format D).2]) ∧ On w w' p pd (Sh.format D).1 := by
  obtain ⟨⟨ms, ml, hd, h1, h2, h3⟩, hb⟩ := h
  refine (format_any pd ms ml D wr hd hN).mono ?_
  rintro e w1 ⟨F, rfl, hs, hbn⟩
  refine ⟨F.p, rfl, ⟨F, hs, rfl, hbn.epd, fun x hx => ?_⟩, ?_⟩
  · rcases hbn.own x hx with q | q
    · simp only [List.mem_cons, List.not_mem_nil, or_false] at q
      omega
    · exact Nat.le_trans hb.size q
  · exact hb.moves_low hbn.moves (fun x hx => by simp only [List.mem_cons, List.not_mem_nil, or_false] at hx; omega) (Nat.le_refl _)
end
end Go.Proofs.YtgmkbcoahilkhaaGreat.Sh
end
section
namespace Go.Proofs.YtgmkbcoahilkhaaGreat.Sh
open Go.RowKit Disk Page Num Bitset
set_option maxRecDepth 100000
def Laid (g : Int → List Int) (kind : Int) : List (List Int) → List Int → Nat → Prop
  | [], [], _ => True
  | p :: ps, n :: ns, i => (g n = sealL kind (i : Int) p ∧ sealE kind (i : Int) p.length = 0 ∧ Bytes p) ∧ Laid g kind ps ns (i + 1)
  | _, _, _ => False
theorem Laid.len {g : Int → List Int} {kind : Int} : ∀ {ps : List (List Int)} {bl : List Int} {i : Nat}, Laid g kind ps bl i → ps.length = bl.length
  | [], [], _, _ => rfl
  | [], _ :: _, _, h => h.elim
  | _ :: _, [], _, h => h.elim
  | _ :: ps, _ :: ns, i, h => by simp [Laid.len h.2]
theorem Laid.same {g g' : Int → List Int} {kind : Int} : ∀ {ps : List (List Int)} {bl : List Int} {i : Nat}, Laid g kind ps bl i → (∀ n ∈ bl, g' n = g n) → Laid g' kind ps bl i
  | [], [], _, _, _ => trivial
  | [], _ :: _, _, h, _ => h.elim
  | _ :: _, [], _, h, _ => h.elim
  | _ :: ps, n :: ns, i, h, hs => ⟨⟨(hs n (by simp)).trans h.1.1, h.1.2⟩, Laid.same h.2 fun m hm => hs m (by simp [hm])⟩
theorem gather_laid {kind : Int} : ∀ (ps : List (List Int)) (bl : List Int) (i : Nat) (D : DiskSt) (out : List Int), D.down = false → (∀ n ∈ bl, 0 ≤ n ∧ n < D.blocks) → Laid D.get kind ps bl i → ∃ k, Sh.gatherF kind bl i D out = ({ D with reads := k }, out ++ ps.flatten, 0)
  | [], [], i, D, out, _, _, _ => ⟨D.reads, by simp [Sh.gatherF]⟩
  | [], _ :: _, _, _, _, _, _, h => h.elim
  | _ :: _, [], _, _, _, _, _, h => h.elim
  | p :: ps, n :: ns, i, D, out, hd, hr, h => by
    obtain ⟨⟨h1, h2, h3⟩, h4⟩ := h
    have hn := hr n (by simp)
    have ha : D.at_ n = 0 := by
      unfold DiskSt.at_
      rw [hd, if_neg (by simp), if_neg (by omega)]
    have ho : openL (D.get n) = (kind, (i : Int), p, 0) := by rw [h1]; exact open_seal kind i p h3 h2
    obtain ⟨k, e⟩ := gather_laid ps ns (i + 1) D.read (out ++ p) hd (fun m hm => hr m (by simp [hm])) h4
    refine ⟨k, ?_⟩
    rw [gatherF_cons, if_neg (by rw [ha]; simp), ho, if_neg (by simp)]
    show Sh.gatherF kind ns (i + 1) D.read (out ++ p) = _
    rw [e]
    simp [DiskSt.read]
theorem splitF_flat {n : Nat} (hn : 0 < n) : ∀ (f : Nat) (l : List Int), l.length ≤ f → (splitF f n l).flatten = l
  | 0, l, h => by
    have : l = [] := List.length_eq_zero_iff.1 (by omega)
    subst this
    rfl
  | f + 1, [], _ => rfl
  | f + 1, x :: r, h => by
    show ((x :: r).take n ++ (splitF f n ((x :: r).drop n)).flatten) = _
    rw [splitF_flat hn f _ (by rw [List.length_drop, List.length_cons]; rw [List.length_cons] at h; omega), List.take_append_drop]
theorem splitL_flat (l : List Int) : (splitL 246 l).flatten = l := splitF_flat (by omega) _ _ (Nat.le_refl _)
theorem splitF_most {n : Nat} : ∀ (f : Nat) (l : List Int), ∀ p ∈ splitF f n l, p.length ≤ n
  | 0, l, p, hp => by cases hp
  | f + 1, [], p, hp => by cases hp
  | f + 1, x :: r, p, hp => by
    rcases List.mem_cons.1 hp with rfl | hp
    · rw [List.length_take]; omega
    · exact splitF_most f _ p hp
theorem splitL_most (l : List Int) : ∀ p ∈ splitL 246 l, p.length ≤ 246 := splitF_most _ _
theorem unwords_words : ∀ (l : List Int), (∀ x ∈ l, 0 ≤ x ∧ x < 65536) → unwordsL (wordsL l) = l
  | [], _ => rfl
  | x :: r, h => by
    have hx := h x (by simp)
    show unwordsL ([x / 256 % 256, x % 256] ++ wordsL r) = _
    show (x / 256 % 256 * 256 + x % 256) :: unwordsL (wordsL r) = _
    rw [unwords_words r fun y hy => h y (by simp [hy])]
    congr 1
    omega
structure Fit (N : Int) (r : Root) (t : List Int) : Prop where
  check : r.check = 0
  blocks : r.blocks = N
  len : (t.length : Int) = r.next + 1
  zero : t.getD 0 0 = 0
  last : 1 < t.length → t.getD (t.length - 1) 0 ≠ 0
  ent : ∀ n ∈ t, n = 0 ∨ (2 ≤ n ∧ n < N)
  start : 0 < r.start → t.getD r.start.toNat 0 ≠ 0
  nodup : (r.tables ++ (r.maps ++ t.filter (fun n => n != 0))).Nodup
def PageAt (g : Int → List Int) (id n : Int) : Prop := ∃ k b, sealE k id b.length = 0 ∧ Bytes b ∧ g n = sealL k id b
structure Hold (g : Int → List Int) (r : Root) (t : List Int) : Prop where
  crown : g (r.epoch % 2) = r.bytes
  other : Other r.epoch (g (1 - r.epoch % 2))
  tabs : Laid g 1 (splitL 246 (wordsL (t.drop 1))) r.tables 0
  maps : Laid g 2 (splitL 246 (usedL r t)) r.maps 0
  page : ∀ i : Nat, t.getD i 0 ≠ 0 → PageAt g i (t.getD i 0)
theorem Fit.range {N : Int} {r : Root} {t : List Int} (h : Fit N r t) : 2 ≤ N ∧ N ≤ 4096 := by
  have := (check_range h.check).2.1
  rw [h.blocks] at this
  exact this
theorem mem_getD {t : List Int} {i : Nat} (h : t.getD i 0 ≠ 0) : t.getD i 0 ∈ t ∧ i < t.length := by
  rcases Nat.lt_or_ge i t.length with c | c
  · rw [getD_lt c]
    exact ⟨List.getElem_mem c, c⟩
  · exact absurd (getD_ge c 0) h
theorem getD_mem {t : List Int} {n : Int} (h : n ∈ t) : ∃ i, i < t.length ∧ t.getD i 0 = n := by
  obtain ⟨i, hi, e⟩ := List.mem_iff_getElem.1 h
  exact ⟨i, hi, by rw [getD_lt hi, e]⟩
theorem Fit.pos {N : Int} {r : Root} {t : List Int} (h : Fit N r t) : 0 < t.length := by
  have := h.len
  have := (check_range h.check).2.2.1.1
  omega
theorem Fit.each {N : Int} {r : Root} {t : List Int} (h : Fit N r t) : ∀ n ∈ r.tables ++ r.maps, 2 ≤ n ∧ n < N := fun n hn => by
  have := check_each h.check n hn
  rw [h.blocks] at this
  omega
theorem clamp_room {N : Int} (h0 : 2 ≤ N) (h1 : N ≤ 4096) : N ≤ 8 * ((emptyB N).length : Int) ∧ 1 ≤ (emptyB N).length := by
  rw [emptyB_len]
  unfold Given.clampN
  have e : (if 4096 < N then 4096 else N) = N := if_neg (by omega)
  rw [e, if_pos (by omega)]
  omega
theorem Fit.used {N : Int} {r : Root} {t : List Int} (h : Fit N r t) : Bytes (usedL r t) ∧ (usedL r t).length = (emptyB N).length ∧ ∀ j : Nat, hasN (usedL r t) j = true ↔ (j = 0 ∨ j = 1 ∨ (j : Int) ∈ t ++ r.tables ++ r.maps) := by
  obtain ⟨h0, h1⟩ := h.range
  obtain ⟨c1, c2⟩ := clamp_room h0 h1
  have := used_has (r := r) (t := t) (fun n hn => by
    rw [h.blocks]
    rw [List.append_assoc, List.mem_append] at hn
    rcases hn with q | q
    · rcases h.ent n q with q | q <;> omega
    · have := h.each n q
      omega) (by rw [h.blocks]; omega)
  rw [h.blocks] at this
  exact this
def Dur (r : Root) (t : List Int) (n : Int) : Prop := n = 0 ∨ n = 1 ∨ n ∈ r.tables ∨ n ∈ r.maps ∨ n ∈ t
theorem Fit.dur {N : Int} {r : Root} {t : List Int} (h : Fit N r t) (j : Nat) : hasN (usedL r t) j = true ↔ Dur r t j := by
  rw [h.used.2.2 j]
  unfold Dur
  simp only [List.mem_append]
  constructor
  · rintro (q | q | (q | q) | q)
    · exact .inl (by omega)
    · exact .inr (.inl (by omega))
    · exact .inr (.inr (.inr (.inr q)))
    · exact .inr (.inr (.inl q))
    · exact .inr (.inr (.inr (.inl q)))
  · rintro (q | q | q | q | q)
    · exact .inl (by omega)
    · exact .inr (.inl (by omega))
    · exact .inr (.inr (.inl (.inr q)))
    · exact .inr (.inr (.inr q))
    · exact .inr (.inr (.inl (.inl q)))
theorem Hold.same {g g' : Int → List Int} {r : Root} {t : List Int} (h : Hold g r t) (hs : ∀ n, Dur r t n → g' n = g n) : Hold g' r t := by
  have hp : r.epoch % 2 = 0 ∨ r.epoch % 2 = 1 := by omega
  refine ⟨(hs _ ?_).trans h.crown, ?_, h.tabs.same fun n hn => hs n (.inr (.inr (.inl hn))), h.maps.same fun n hn => hs n (.inr (.inr (.inr (.inl hn)))), fun i hi => ?_⟩
  · rcases hp with e | e
    · exact .inl e
    · exact .inr (.inl e)
  · have hd : Dur r t (1 - r.epoch % 2) := by
      rcases hp with e | e
      · exact .inr (.inl (by omega))
      · exact .inl (by omega)
    rw [hs _ hd]
    exact h.other
  · obtain ⟨k, b, h1, h2, h3⟩ := h.page i hi
    exact ⟨k, b, h1, h2, (hs _ (.inr (.inr (.inr (.inr (mem_getD hi).1))))).trans h3⟩
theorem seen_ok (r : Root) (k : Nat) : ∀ (l : List Int) (i : Nat) (seen : Int → Bool), (∀ j, l.getD j 1 = 0 → k ≤ i + j) → (l.filter (fun n => n != 0)).Nodup → (∀ n ∈ l, n ≠ 0 → n < r.blocks ∧ seen n = false) → seenF r k l i seen = true
  | [], _, _, _, _, _ => rfl
  | n :: ns, i, seen, h1, h2, h3 => by
    rw [seenF_cons]
    by_cases c : n = 0
    · have h10 := h1 0 (by simpa using c)
      rw [if_pos ⟨c, by simpa using h10⟩]
      rw [List.filter_cons_of_neg (by simpa using c)] at h2
      exact seen_ok r k ns (i + 1) seen (fun j hj => by have := h1 (j + 1) (by simpa using hj); omega) h2 fun m hm => h3 m (by simp [hm])
    · rw [List.filter_cons_of_pos (by simpa using c)] at h2
      obtain ⟨h4, h5⟩ := List.nodup_cons.1 h2
      obtain ⟨h6, h7⟩ := h3 n (by simp) c
      rw [if_neg (fun q => c q.1), if_neg (by rw [h7]; simp; omega)]
      refine seen_ok r k ns (i + 1) _ (fun j hj => by have := h1 (j + 1) (by simpa using hj); omega) h5 fun m hm hm0 => ?_
      obtain ⟨h8, h9⟩ := h3 m (by simp [hm]) hm0
      refine ⟨h8, ?_⟩
      have : m ≠ n := fun e => h4 (List.mem_filter.2 ⟨by rw [← e]; exact hm, by simpa using c⟩)
      rw [h9]
      simp [this]
theorem filter_all {l : List Int} (h : ∀ n ∈ l, n ≠ 0) : l.filter (fun n => n != 0) = l := List.filter_eq_self.2 fun n hn => by simpa using h n hn
theorem Fit.seen {N : Int} {r : Root} {t : List Int} (h : Fit N r t) : seenF r (r.tables.length + r.maps.length) (r.tables ++ r.maps ++ t) 0 (fun j => decide (j = 0) || decide (j = 1)) = true := by
  have he := h.each
  refine seen_ok r _ _ 0 _ (fun j hj => ?_) ?_ fun n hn h0 => ?_
  · refine Decidable.byContradiction fun c => ?_
    have hlt : j < (r.tables ++ r.maps).length := by rw [List.length_append]; omega
    rw [List.getD_eq_getElem?_getD, List.getElem?_append_left hlt, List.getElem?_eq_getElem hlt] at hj
    have := he _ (List.getElem_mem hlt)
    simp only [Option.getD_some] at hj
    omega
  · rw [List.filter_append, List.filter_append, filter_all (l := r.tables) (fun n hn => by have := he n (List.mem_append.2 (.inl hn)); omega), filter_all (l := r.maps) (fun n hn => by have := he n (List.mem_append.2 (.inr hn)); omega), List.append_assoc]
    exact h.nodup
  · have hN : 2 ≤ n ∧ n < N := by
      rcases List.mem_append.1 hn with q | q
      · exact he n q
      · rcases h.ent n q with q | q
        · exact absurd q h0
        · exact q
    rw [h.blocks]
    refine ⟨hN.2, ?_⟩
    have h2 : n ≠ 1 := by omega
    simp [h0, h2]
theorem Fit.right {N : Int} {r : Root} {t : List Int} (h : Fit N r t) : right r t (usedL r t) = true := by
  have hr := check_range h.check
  have hlen := h.len
  unfold Sh.right
  rw [if_neg, if_neg (by rw [h.seen]; simp)]
  · exact decide_eq_true rfl
  · rintro (q | q | q)
    · exact q hlen
    · have hl := h.last (by omega)
      rw [show t.length - 1 = r.next.toNat by omega] at hl
      exact hl q.2
    · exact h.start q.1 q.2
theorem Fit.words {N : Int} {r : Root} {t : List Int} (h : Fit N r t) : 0 :: unwordsL (wordsL (t.drop 1)) = t := by
  have hN := h.range
  have hp := h.pos
  rw [unwords_words _ fun x hx => by rcases h.ent x (List.mem_of_mem_drop hx) with q | q <;> omega]
  cases t with
  | nil => simp at hp
  | cons x r =>
    have : x = 0 := by simpa using h.zero
    rw [this]
    rfl
theorem wordsL_even (l : List Int) : (wordsL l).length % 2 = 0 := by rw [wordsL_len]; omega
theorem open_hold {N : Int} {D : DiskSt} {r : Root} {t : List Int} (hd : D.down = false) (hb : D.blocks = N) (hf : Fit N r t) (hh : Hold D.get r t) :
    ∃ k, Sh.open_ D = (({ Sh.over { D with reads := k } with table := t } : Sh).settle r, 0) := by
  have hN := hf.range
  have he := hf.each
  have hat : ∀ n, 0 ≤ n → n < N → D.at_ n = 0 := fun n h0 h1 => by
    unfold DiskSt.at_
    rw [hd, if_neg (by simp), if_neg (by omega)]
  have h1 : roots D = (D.read.read, r, 0) := by
    unfold roots
    rw [if_neg (by rw [hat 0 (by omega) (by omega)]; simp), if_neg (by rw [show D.read.at_ 1 = D.at_ 1 from rfl, hat 1 (by omega) (by omega)]; simp)]
    rw [show Root.choose (D.get 0) (D.read.get 1) = (r, r.epoch % 2, 0) from choose_of hf.check hh.crown hh.other.lesser]
    simp only
    rw [if_neg (by rw [hf.blocks, hb]; simp)]
  obtain ⟨k2, e2⟩ := gather_laid _ _ 0 D.read.read [] hd (fun n hn => by have := he n (List.mem_append.2 (.inl hn)); rw [show D.read.read.blocks = D.blocks from rfl, hb]; omega) hh.tabs
  obtain ⟨k3, e3⟩ := gather_laid (kind := 2) _ _ 0 { D.read.read with reads := k2 } [] hd (fun n hn => by have := he n (List.mem_append.2 (.inr hn)); rw [show ({ D.read.read with reads := k2 } : DiskSt).blocks = D.blocks from rfl, hb]; omega) hh.maps
  rw [splitL_flat, List.nil_append] at e2 e3
  refine ⟨k3, ?_⟩
  unfold Sh.open_ gather
  rw [h1]
  simp only
  rw [if_neg (by simp), e2]
  simp only
  rw [if_neg (by simp), e3]
  simp only
  rw [if_neg (by simp), if_neg (by rw [wordsL_even]; simp), hf.words, if_neg (by rw [hf.right]; simp)]
  rfl
end Go.Proofs.YtgmkbcoahilkhaaGreat.Sh
end
section
namespace Go.Proofs.YtgmkbcoahilkhaaGreat.Sh
open Go.RowKit MapFn Disk Page Num Bitset
set_option maxRecDepth 100000
structure Same1 (P : Int → Prop) (D E : DiskSt) : Prop where
  blocks : E.blocks = D.blocks
  safe : E.safe = D.safe
  loose : ∀ n, ¬ P n → E.loose n = D.loose n
  never : D.fails = -1 → E.fails = -1
theorem Same1.get {P : Int → Prop} {D E : DiskSt} (h : Same1 P D E) {n : Int} (hn : ¬ P n) : E.get n = D.get n := by
  unfold DiskSt.get
  rw [h.safe, h.loose n hn]
theorem Same1.refl (P : Int → Prop) (D : DiskSt) : Same1 P D D := ⟨rfl, rfl, fun _ _ => rfl, fun h => h⟩
theorem Same1.trans {P : Int → Prop} {D E F : DiskSt} (h : Same1 P D E) (k : Same1 P E F) : Same1 P D F :=
  ⟨k.blocks.trans h.blocks, k.safe.trans h.safe, fun n hn => (k.loose n hn).trans (h.loose n hn), fun q => k.never (h.never q)⟩
theorem Same1.mono {P Q : Int → Prop} {D E : DiskSt} (h : Same1 P D E) (hq : ∀ n, P n → Q n) : Same1 Q D E :=
  ⟨h.blocks, h.safe, fun n hn => h.loose n fun q => hn (hq n q), h.never⟩
structure WroteAt (D E : DiskSt) (n : Int) (l : List Int) : Prop where
  up : E.down = false
  get : E.get n = l
  loose : E.loose n = some l
theorem wrote_get (D : DiskSt) (n : Int) (l : List Int) : (D.wrote n l).get n = l ∧ (D.wrote n l).loose n = some l ∧ ∀ m, m ≠ n → (D.wrote n l).loose m = D.loose m := by
  have h1 : (D.wrote n l).loose n = some l := by simp [DiskSt.wrote, upd]
  refine ⟨?_, h1, fun m hm => by simp [DiskSt.wrote, upd, hm]⟩
  unfold DiskSt.get
  rw [h1]
  rfl
theorem write_gen {D : DiskSt} {n : Int} {l : List Int} (hd : D.down = false) (h0 : 0 ≤ n) (h1 : n < D.blocks) (hl : l.length = 256) :
    Same1 (fun m => m = n) D (D.write n l).1 ∧ (((D.write n l).2 = 0 ∧ WroteAt D (D.write n l).1 n l) ∨ ((D.write n l).2 = 11 ∧ (D.write n l).1.down = true ∧ D.fails ≠ -1)) := by
  have ha : D.at_ n = 0 := by
    unfold DiskSt.at_
    rw [hd, if_neg (by simp), if_neg (by omega)]
  have e : D.write n l = D.step (·.wrote n l) := by
    unfold DiskSt.write
    rw [ha, if_neg (by simp), if_neg (by simpa using hl)]
  rw [e]
  unfold DiskSt.step
  by_cases c1 : D.fails = -1
  · rw [if_pos c1]
    obtain ⟨g1, g2, g3⟩ := wrote_get D.op n l
    exact ⟨⟨rfl, rfl, fun m hm => g3 m hm, fun _ => c1⟩, .inl ⟨rfl, hd, g1, g2⟩⟩
  · rw [if_neg c1]
    by_cases c2 : D.fails = 0
    · rw [if_pos c2]
      refine ⟨?_, .inr ⟨rfl, rfl, c1⟩⟩
      by_cases c3 : D.done = true
      · rw [if_pos c3]
        obtain ⟨g1, g2, g3⟩ := wrote_get D.op.fail1 n l
        exact ⟨rfl, rfl, fun m hm => g3 m hm, fun q => absurd q c1⟩
      · rw [if_neg c3]
        exact ⟨rfl, rfl, fun m hm => rfl, fun q => absurd q c1⟩
    · rw [if_neg c2]
      obtain ⟨g1, g2, g3⟩ := wrote_get D.op.fail1 n l
      exact ⟨⟨rfl, rfl, fun m hm => g3 m hm, fun q => absurd q c1⟩, .inl ⟨rfl, hd, g1, g2⟩⟩
theorem settled_get (D : DiskSt) (n : Int) : D.settled.get n = D.get n := by
  unfold DiskSt.get DiskSt.settled mergeM
  simp only
  cases D.loose n <;> rfl
structure Synced (D E : DiskSt) : Prop where
  up : E.down = false
  loose : ∀ n, E.loose n = none
theorem sync_gen {D : DiskSt} (hd : D.down = false) :
    ((D.sync).1.blocks = D.blocks ∧ (∀ n, (D.sync).1.get n = D.get n) ∧ (D.fails = -1 → (D.sync).1.fails = -1)) ∧
    (((D.sync).2 = 0 ∧ Synced D (D.sync).1) ∨ ((D.sync).2 = 11 ∧ (D.sync).1.down = true ∧ D.fails ≠ -1 ∧ ((∀ n, (D.sync).1.loose n = none) ∨ ((D.sync).1.safe = D.safe ∧ (D.sync).1.loose = D.loose)))) := by
  have e : D.sync = D.step DiskSt.settled := by
    unfold DiskSt.sync DiskSt.asked
    rw [hd]
    simp
  rw [e]
  unfold DiskSt.step
  by_cases c1 : D.fails = -1
  · rw [if_pos c1]
    exact ⟨⟨rfl, fun n => settled_get D.op n, fun _ => c1⟩, .inl ⟨rfl, hd, fun n => rfl⟩⟩
  · rw [if_neg c1]
    by_cases c2 : D.fails = 0
    · rw [if_pos c2]
      by_cases c3 : D.done = true
      · rw [if_pos c3]
        exact ⟨⟨rfl, fun n => settled_get D.op.fail1 n, fun q => absurd q c1⟩, .inr ⟨rfl, rfl, c1, .inl fun n => rfl⟩⟩
      · rw [if_neg c3]
        exact ⟨⟨rfl, fun n => rfl, fun q => absurd q c1⟩, .inr ⟨rfl, rfl, c1, .inr ⟨rfl, rfl⟩⟩⟩
    · rw [if_neg c2]
      exact ⟨⟨rfl, fun n => settled_get D.op.fail1 n, fun q => absurd q c1⟩, .inl ⟨rfl, hd, fun n => rfl⟩⟩
structure Inv (N : Int) (s : Sh) : Prop where
  bad : s.bad = false
  up : s.D.down = false
  blocks : s.D.blocks = N
  fit : Fit N s.root s.was
  hold : Hold s.D.get s.root s.was
  used : s.used = usedL s.root s.was
  len : 0 < s.table.length ∧ s.table.length ≤ 3001
  zero : s.table.getD 0 0 = 0
  last : 1 < s.table.length → s.table.getD (s.table.length - 1) 0 ≠ 0
  ent : ∀ i, s.table.getD i 0 ≠ 0 → ∃ n : Nat, s.table.getD i 0 = (n : Int) ∧ 2 ≤ n ∧ (n : Int) < N ∧ (hasN s.used n || hasN s.fresh n) = true
  inj : ∀ i j, s.table.getD i 0 ≠ 0 → s.table.getD j 0 = s.table.getD i 0 → j = i
  page : ∀ i : Nat, s.table.getD i 0 ≠ 0 → PageAt s.D.get i (s.table.getD i 0)
  freshB : Bytes s.fresh ∧ s.fresh.length = (emptyB N).length
  fresh : ∀ n : Nat, hasN s.fresh n = true ↔ (n ≠ 0 ∧ hasN s.used n = false ∧ ∃ i, s.table.getD i 0 = (n : Int))
  start : 0 ≤ s.start ∧ (0 < s.start → s.table.getD s.start.toNat 0 ≠ 0)
  clean : s.dirty = false → s.table = s.was ∧ s.start = s.root.start
  loose : ∀ n : Int, s.D.loose n ≠ none → ¬ Dur s.root s.was n
structure Step (N : Int) (s s' : Sh) : Prop where
  inv : Inv N s'
  root : s'.root = s.root
  was : s'.was = s.was
  get : ∀ n, Dur s.root s.was n → s'.D.get n = s.D.get n
  never : s.D.fails = -1 → s'.D.fails = -1
structure Lost (s s' : Sh) : Prop where
  bad : s'.bad = true
  down : s'.D.down = true
  same : Same1 (fun n => ¬ Dur s.root s.was n) s.D s'.D
  may : s.D.fails ≠ -1
theorem Step.refl {N : Int} {s : Sh} (h : Inv N s) : Step N s s := ⟨h, rfl, rfl, fun _ _ => rfl, fun h => h⟩
theorem Step.trans {N : Int} {a b c : Sh} (h : Step N a b) (k : Step N b c) : Step N a c :=
  ⟨k.inv, k.root.trans h.root, k.was.trans h.was, fun n hn => (k.get n (by rw [h.root, h.was]; exact hn)).trans (h.get n hn), fun q => k.never (h.never q)⟩
theorem Inv.notdur {N : Int} {s : Sh} (h : Inv N s) {n : Nat} (hn : hasN s.used n = false) : ¬ Dur s.root s.was n := by
  intro q
  rw [← h.fit.dur n, ← h.used, hn] at q
  cases q
theorem Inv.usedB {N : Int} {s : Sh} (h : Inv N s) : Bytes s.used ∧ s.used.length = (emptyB N).length := by
  rw [h.used]
  exact ⟨h.fit.used.1, h.fit.used.2.1⟩
theorem Inv.taken {N : Int} {s : Sh} (h : Inv N s) (n : Nat) : hasN s.taken n = (hasN s.used n || hasN s.fresh n) := taken_has h.usedB.1 h.freshB.1 n
theorem Inv.low {N : Int} {s : Sh} (h : Inv N s) {n : Nat} (hn : (hasN s.used n || hasN s.fresh n) = false) : 2 ≤ n := by
  have h1 : hasN s.used n = false := (Bool.or_eq_false_iff.1 hn).1
  have := h.notdur h1
  refine Decidable.byContradiction fun c => this ?_
  rcases (by omega : n = 0 ∨ n = 1) with rfl | rfl
  · exact .inl rfl
  · exact .inr (.inl rfl)
theorem wr_gen {N : Int} {s : Sh} (hb : s.bad = false) (hu : s.D.down = false) (hN : s.D.blocks = N) {n : Int} (h0 : 0 ≤ n) (h1 : n < N) {l : List Int} (hl : l.length = 256) :
    ∃ D, Same1 (fun m => m = n) s.D D ∧ ((s.wr n l = ({ s with D := D }, 0) ∧ WroteAt s.D D n l) ∨ (s.wr n l = ({ s with D := D, bad := true }, 11) ∧ D.down = true ∧ s.D.fails ≠ -1)) := by
  obtain ⟨h2, h3⟩ := write_gen hu h0 (by rw [hN]; exact h1) hl
  refine ⟨_, h2, ?_⟩
  rcases h3 with ⟨e, h3⟩ | ⟨e, h3, h4⟩
  · refine .inl ⟨?_, h3⟩
    unfold Sh.wr Sh.done
    rw [e]
    simp
  · refine .inr ⟨?_, h3, h4⟩
    unfold Sh.wr Sh.done
    rw [e]
    simp
theorem sealE_range {kind id : Int} {n : Nat} (h : sealE kind id n = 0) : 0 ≤ id ∧ id ≤ 3000 ∧ n ≤ 246 := ⟨(sealE_of h).1, (sealE_of h).2, sealE_len h⟩
theorem Inv.place {N : Int} {s : Sh} (h : Inv N s) {id n : Nat} {k : Int} {b : List Int} (h1 : 1 ≤ id) (hse : sealE k id b.length = 0) (hb : Bytes b) (hn2 : 2 ≤ n) (hnN : (n : Int) < N)
    (hnew : ((hasN s.used n || hasN s.fresh n) = false ∧ (s.table.getD id 0 = 0 ∨ ∃ m : Nat, s.table.getD id 0 = (m : Int) ∧ hasN s.used m = true)) ∨ (s.table.getD id 0 = (n : Int) ∧ hasN s.fresh n = true)) :
    ((s.place id n (sealL k id b)).2 = 0 ∧ Step N s (s.place id n (sealL k id b)).1 ∧ (s.place id n (sealL k id b)).1.table = (s.put id n).table ∧ (s.place id n (sealL k id b)).1.start = s.start ∧ (s.place id n (sealL k id b)).1.D.get n = sealL k id b ∧ ∀ m : Int, m ≠ n → (s.place id n (sealL k id b)).1.D.get m = s.D.get m) ∨
    ((s.place id n (sealL k id b)).2 = 11 ∧ Lost s (s.place id n (sealL k id b)).1) := by
  have hun : hasN s.used n = false := by
    rcases hnew with q | q
    · exact (Bool.or_eq_false_iff.1 q.1).1
    · exact ((h.fresh n).1 q.2).2.1
  have hnd := h.notdur hun
  have hid := sealE_range hse
  obtain ⟨D, hs, hw⟩ := wr_gen h.bad h.up h.blocks (n := (n : Int)) (by omega) hnN (sealL_len k id b hid.2.2)
  have hget : ∀ m : Int, m ≠ n → D.get m = s.D.get m := fun m hm => hs.get hm
  rcases hw with ⟨e, hw⟩ | ⟨e, hw1, hw2⟩
  · left
    have ep : s.place id n (sealL k id b) = ({ ({ s with D := D } : Sh).put id n with fresh := withL s.fresh n true }, 0) := by
      unfold Sh.place
      rw [e, if_neg (by simp)]
    rw [ep]
    have hpg := put_get s (id := id) (n : Int)
    have hpe := put_ends s (id := id) (n : Int)
    have hT : ∀ D', (({ s with D := D' } : Sh).put id n).table = (s.put id n).table := fun _ => rfl
    generalize hTe : (s.put id n).table = T at hpg hpe hT
    have hfb := withL_by h.freshB.1 (n : Int) true
    have hroom := clamp_room h.fit.range.1 h.fit.range.2
    have hfh : ∀ j : Nat, hasN (withL s.fresh n true) j = if (j : Int) = n then true else hasN s.fresh j := fun j => withL_has h.freshB.1 (by omega) (by rw [h.freshB.2]; omega) true j
    have hother : ∀ i, i ≠ id → s.table.getD i 0 ≠ 0 → s.table.getD i 0 ≠ n := fun i hi h0 q => by
      rcases hnew with ⟨q1, _⟩ | ⟨q1, _⟩
      · obtain ⟨m, e1, _, _, e4⟩ := h.ent i h0
        rw [q] at e1
        have : n = m := by omega
        subst this
        rw [q1] at e4
        cases e4
      · exact hi (h.inj id i (by rw [q1]; omega) (by rw [q, q1]))
    have hinv : Inv N ({ ({ s with D := D } : Sh).put id n with fresh := withL s.fresh n true } : Sh) := by
      refine ⟨h.bad, hw.up, hs.blocks.trans h.blocks, h.fit, h.hold.same fun m hm => hget m fun q => hnd (q ▸ hm), h.used, ⟨?_, ?_⟩, ?_, ?_, ?_, ?_, ?_, ⟨hfb.1, hfb.2.trans h.freshB.2⟩, ?_, ⟨h.start.1, ?_⟩, ?_, ?_⟩
      · show 0 < (({ s with D := D } : Sh).put id n).table.length
        rw [hT]; exact hpe.1
      · show (({ s with D := D } : Sh).put id n).table.length ≤ 3001
        rw [hT]
        refine Decidable.byContradiction fun c => ?_
        have := hpe.2 (by omega)
        rw [hpg] at this
        split at this
        · have := hid.2.1; omega
        · have h5 := (mem_getD this).2
          have := h.len.2
          omega
      · show (({ s with D := D } : Sh).put id n).table.getD 0 0 = 0
        rw [hT, hpg, if_neg (by omega)]
        exact h.zero
      · show 1 < (({ s with D := D } : Sh).put id n).table.length → (({ s with D := D } : Sh).put id n).table.getD _ 0 ≠ 0
        rw [hT]; exact hpe.2
      · show ∀ i, (({ s with D := D } : Sh).put id n).table.getD i 0 ≠ 0 → ∃ m : Nat, (({ s with D := D } : Sh).put id n).table.getD i 0 = (m : Int) ∧ 2 ≤ m ∧ (m : Int) < N ∧ (hasN s.used m || hasN (withL s.fresh n true) m) = true
        rw [hT]
        intro i hi
        rw [hpg] at hi ⊢
        by_cases c : i = id
        · rw [if_pos c]
          exact ⟨n, rfl, hn2, hnN, by rw [hfh n, if_pos rfl]; simp⟩
        · rw [if_neg c] at hi ⊢
          obtain ⟨m, e1, e2, e3, e4⟩ := h.ent i hi
          refine ⟨m, e1, e2, e3, ?_⟩
          rw [hfh m]
          split
          · simp
          · exact e4
      · show ∀ i j, (({ s with D := D } : Sh).put id n).table.getD i 0 ≠ 0 → (({ s with D := D } : Sh).put id n).table.getD j 0 = (({ s with D := D } : Sh).put id n).table.getD i 0 → j = i
        rw [hT]
        intro i j hi hj
        rw [hpg] at hi hj
        rw [hpg] at hj
        by_cases c : i = id
        · by_cases d : j = id
          · omega
          · rw [if_pos c, if_neg d] at hj
            exact absurd hj (hother j d (by rw [hj]; omega))
        · rw [if_neg c] at hi hj
          by_cases d : j = id
          · rw [if_pos d] at hj
            exact absurd hj.symm (hother i c hi)
          · rw [if_neg d] at hj
            exact h.inj i j hi hj
      · show ∀ i : Nat, (({ s with D := D } : Sh).put id n).table.getD i 0 ≠ 0 → PageAt D.get i ((({ s with D := D } : Sh).put id n).table.getD i 0)
        rw [hT]
        intro i hi
        rw [hpg] at hi ⊢
        by_cases c : i = id
        · rw [if_pos c, c]
          exact ⟨k, b, hse, hb, hw.get⟩
        · rw [if_neg c] at hi ⊢
          obtain ⟨k', b', e1, e2, e3⟩ := h.page i hi
          exact ⟨k', b', e1, e2, (hget _ (hother i c hi)).trans e3⟩
      · show ∀ m : Nat, hasN (withL s.fresh n true) m = true ↔ (m ≠ 0 ∧ hasN s.used m = false ∧ ∃ i, (({ s with D := D } : Sh).put id n).table.getD i 0 = (m : Int))
        rw [hT]
        intro m
        rw [hfh m]
        by_cases c : (m : Int) = n
        · have : m = n := by omega
          subst this
          rw [if_pos rfl]
          exact ⟨fun _ => ⟨by omega, hun, id, by rw [hpg, if_pos rfl]⟩, fun _ => rfl⟩
        · rw [if_neg c, h.fresh m]
          constructor
          · rintro ⟨q1, q2, i, q3⟩
            refine ⟨q1, q2, i, ?_⟩
            rw [hpg, if_neg ?_]
            · exact q3
            · rintro rfl
              rcases hnew with ⟨_, q | ⟨m2, q, q4⟩⟩ | ⟨q, _⟩
              · rw [q] at q3; omega
              · rw [q] at q3
                have : m2 = m := by omega
                subst this
                rw [q2] at q4
                cases q4
              · rw [q] at q3; omega
          · rintro ⟨q1, q2, i, q3⟩
            refine ⟨q1, q2, i, ?_⟩
            rw [hpg] at q3
            split at q3
            · exact absurd q3.symm c
            · exact q3
      · show 0 < s.start → (({ s with D := D } : Sh).put id n).table.getD s.start.toNat 0 ≠ 0
        rw [hT]
        intro q
        rw [hpg]
        split
        · omega
        · exact h.start.2 q
      · intro q
        exact absurd (show true = false from q) (by simp)
      · show ∀ m : Int, D.loose m ≠ none → ¬ Dur s.root s.was m
        intro m hm
        by_cases c : m = n
        · rw [c]; exact hnd
        · rw [hs.loose m c] at hm
          exact h.loose m hm
    refine ⟨rfl, ⟨hinv, rfl, rfl, fun m hm => hget m fun q => hnd (q ▸ hm), hs.never⟩, hT D, rfl, hw.get, hget⟩
  · right
    have ep : s.place id n (sealL k id b) = ({ s with D := D, bad := true }, 11) := by
      unfold Sh.place
      rw [e, if_pos (by simp)]
    rw [ep]
    exact ⟨rfl, rfl, hw1, hs.mono fun m hm => by rw [hm]; exact hnd, hw2⟩
theorem Inv.alive {N : Int} {s : Sh} (h : Inv N s) : s.alive = 0 := by unfold Sh.alive; rw [h.bad]; rfl
theorem alloc_step {N : Int} {s : Sh} (h : Inv N s) (kind : Int) {body : List Int} (hb : Bytes body) : Step N s (s.alloc kind body).1 ∨ Lost s (s.alloc kind body).1 := by
  unfold Sh.alloc
  rw [if_neg (by rw [h.alive]; simp)]
  split
  · exact .inl (Step.refl h)
  · split
    · exact .inl (Step.refl h)
    · rename_i hse
      split
      · exact .inl (Step.refl h)
      · rename_i l hl
        obtain ⟨m, rfl, h1, h2, h3⟩ := lowest_one hl
        obtain ⟨i1, i2, i3⟩ := freeId_spec s.table
        rw [h.taken] at h2
        rw [h.fit.blocks] at h1
        have := h.place (id := freeId s.table) (n := m) (k := kind) (b := body) i1 (by simpa using hse) hb (h.low h2) h1 (.inl ⟨h2, .inl i2⟩)
        simp only [List.getD_cons_zero]
        rcases this with ⟨e, hs, _⟩ | ⟨e, hs⟩
        · rw [if_neg (by rw [e]; simp)]
          exact .inl hs
        · rw [if_pos (by rw [e]; simp)]
          exact .inr hs
theorem block_some {s : Sh} {id : Int} (h : ¬ (s.block id).2 ≠ 0) : ∃ j : Nat, id = (j : Int) ∧ 1 ≤ j ∧ j < s.table.length ∧ s.table.getD j 0 ≠ 0 ∧ (s.block id).1 = s.table.getD j 0 := by
  have h := Decidable.not_not.1 h
  unfold Sh.block at h ⊢
  split at h
  · rename_i c
    exact absurd h c
  · rename_i c
    split at h
    · cases h
    · rename_i c2
      rw [if_neg c, if_neg c2]
      exact ⟨id.toNat, by omega, by omega, by omega, fun q => c2 (.inr (.inr q)), rfl⟩
theorem write_step {N : Int} {s : Sh} (h : Inv N s) (id kind : Int) {body : List Int} (hb : Bytes body) : Step N s (s.write id kind body).1 ∨ Lost s (s.write id kind body).1 := by
  unfold Sh.write
  split
  · exact .inl (Step.refl h)
  · rename_i hbl
    obtain ⟨j, rfl, j1, j2, j3, j4⟩ := block_some hbl
    obtain ⟨n, e1, e2, e3, e4⟩ := h.ent j j3
    rw [j4, e1]
    split
    · exact .inl (Step.refl h)
    · rename_i hse
      have hse : sealE kind (j : Int) body.length = 0 := by simpa using hse
      split
      · rename_i hf
        rw [hasL_nat] at hf
        rcases h.place (id := j) (n := n) j1 hse hb e2 e3 (.inr ⟨e1, hf⟩) with ⟨_, q, _⟩ | ⟨_, q⟩
        · exact .inl q
        · exact .inr q
      · rename_i hf
        rw [hasL_nat] at hf
        split
        · exact .inl (Step.refl h)
        · rename_i l hl
          obtain ⟨m, rfl, h1, h2, h3⟩ := lowest_one hl
          rw [h.taken] at h2
          rw [h.fit.blocks] at h1
          have hu : hasN s.used n = true := by
            have : hasN s.fresh n = false := by simpa using hf
            rw [this, Bool.or_false] at e4
            exact e4
          rcases h.place (id := j) (n := m) j1 hse hb (h.low h2) h1 (.inl ⟨h2, .inr ⟨n, e1, hu⟩⟩) with ⟨_, q, _⟩ | ⟨_, q⟩
          · exact .inl q
          · exact .inr q
theorem free_step {N : Int} {s : Sh} (h : Inv N s) (id : Int) : Step N s (s.free id).1 := by
  unfold Sh.free
  split
  · exact Step.refl h
  · rename_i hbl
    obtain ⟨j, rfl, j1, j2, j3, j4⟩ := block_some hbl
    obtain ⟨n, e1, e2, e3, e4⟩ := h.ent j j3
    rw [j4, e1]
    split
    · exact Step.refl h
    · rename_i hst
      have hpg := put_get s (id := j) (0 : Int)
      have hpe := put_ends s (id := j) (0 : Int)
      have hfb := withL_by h.freshB.1 (n : Int) false
      have hroom := clamp_room h.fit.range.1 h.fit.range.2
      have hfh : ∀ m : Nat, hasN (withL s.fresh n false) m = if (m : Int) = n then false else hasN s.fresh m := fun m => withL_has h.freshB.1 (by omega) (by rw [h.freshB.2]; omega) false m
      have hother : ∀ i, i ≠ j → s.table.getD i 0 ≠ n := fun i hi q => hi (h.inj j i j3 (by rw [q, e1]))
      refine ⟨?_, rfl, rfl, fun _ _ => rfl, fun q => q⟩
      refine ⟨h.bad, h.up, h.blocks, h.fit, h.hold, h.used, ⟨hpe.1, ?_⟩, ?_, hpe.2, ?_, ?_, ?_, ⟨hfb.1, hfb.2.trans h.freshB.2⟩, ?_, ⟨h.start.1, ?_⟩, ?_, h.loose⟩
      · show (s.put j 0).table.length ≤ 3001
        refine Decidable.byContradiction fun c => ?_
        have := hpe.2 (by omega)
        rw [hpg] at this
        split at this
        · exact this rfl
        · have h5 := (mem_getD this).2
          have := h.len.2
          omega
      · show (s.put j 0).table.getD 0 0 = 0
        rw [hpg, if_neg (by omega)]
        exact h.zero
      · show ∀ i, (s.put j 0).table.getD i 0 ≠ 0 → ∃ m : Nat, (s.put j 0).table.getD i 0 = (m : Int) ∧ 2 ≤ m ∧ (m : Int) < N ∧ (hasN s.used m || hasN (withL s.fresh n false) m) = true
        intro i hi
        rw [hpg] at hi ⊢
        by_cases c : i = j
        · rw [if_pos c] at hi
          exact absurd rfl hi
        · rw [if_neg c] at hi ⊢
          obtain ⟨m, f1, f2, f3, f4⟩ := h.ent i hi
          refine ⟨m, f1, f2, f3, ?_⟩
          rw [hfh m, if_neg (fun q => hother i c (by rw [f1, q]))]
          exact f4
      · show ∀ i k, (s.put j 0).table.getD i 0 ≠ 0 → (s.put j 0).table.getD k 0 = (s.put j 0).table.getD i 0 → k = i
        intro i k hi hk
        rw [hpg] at hi hk
        rw [hpg] at hk
        by_cases c : i = j
        · rw [if_pos c] at hi
          exact absurd rfl hi
        · rw [if_neg c] at hi hk
          by_cases d : k = j
          · rw [if_pos d] at hk
            exact absurd hk.symm hi
          · rw [if_neg d] at hk
            exact h.inj i k hi hk
      · show ∀ i : Nat, (s.put j 0).table.getD i 0 ≠ 0 → PageAt s.D.get i ((s.put j 0).table.getD i 0)
        intro i hi
        rw [hpg] at hi ⊢
        by_cases c : i = j
        · rw [if_pos c] at hi
          exact absurd rfl hi
        · rw [if_neg c] at hi ⊢
          exact h.page i hi
      · show ∀ m : Nat, hasN (withL s.fresh n false) m = true ↔ (m ≠ 0 ∧ hasN s.used m = false ∧ ∃ i, (s.put j 0).table.getD i 0 = (m : Int))
        intro m
        rw [hfh m]
        by_cases c : (m : Int) = n
        · rw [if_pos c]
          refine ⟨fun q => (by cases q), ?_⟩
          rintro ⟨q1, q2, i, q3⟩
          rw [hpg] at q3
          split at q3
          · omega
          · rename_i q4
            exact absurd (q3.trans c) (hother i q4)
        · rw [if_neg c, h.fresh m]
          constructor
          · rintro ⟨q1, q2, i, q3⟩
            refine ⟨q1, q2, i, ?_⟩
            rw [hpg, if_neg ?_]
            · exact q3
            · rintro rfl
              rw [e1] at q3
              omega
          · rintro ⟨q1, q2, i, q3⟩
            refine ⟨q1, q2, i, ?_⟩
            rw [hpg] at q3
            split at q3
            · omega
            · exact q3
      · show 0 < s.start → (s.put j 0).table.getD s.start.toNat 0 ≠ 0
        intro q
        rw [hpg, if_neg (by omega)]
        exact h.start.2 q
      · intro q
        exact absurd (show true = false from q) (by simp)
theorem setStart_step {N : Int} {s : Sh} (h : Inv N s) (id : Int) : Step N s (s.setStart id).1 := by
  unfold Sh.setStart
  rw [if_neg (by rw [h.alive]; simp)]
  split
  · exact Step.refl h
  · rename_i hc
    refine ⟨?_, rfl, rfl, fun _ _ => rfl, fun q => q⟩
    have hst : 0 ≤ id ∧ (0 < id → s.table.getD id.toNat 0 ≠ 0) := by
      by_cases c : id = 0
      · exact ⟨by omega, fun q => by omega⟩
      · obtain ⟨j, rfl, j1, j2, j3, j4⟩ := block_some fun q => hc ⟨c, q⟩
        exact ⟨by omega, fun _ => j3⟩
    refine ⟨h.bad, h.up, h.blocks, h.fit, h.hold, h.used, h.len, h.zero, h.last, h.ent, h.inj, h.page, h.freshB, h.fresh, hst, ?_, h.loose⟩
    intro q
    have q : (s.dirty || (id != s.start)) = false := q
    obtain ⟨q1, q2⟩ := Bool.or_eq_false_iff.1 q
    have q2 : id = s.start := by simpa using q2
    obtain ⟨q3, q4⟩ := h.clean q1
    exact ⟨q3, q2.trans q4⟩
theorem empty_has (N : Int) (j : Nat) : hasN (emptyB N) j = false := by
  unfold hasN at_ emptyB
  rw [List.getD_eq_getElem?_getD, List.getElem?_replicate]
  split <;> exact zero_bit _
theorem nodup_inj {t : List Int} (h : (t.filter (fun n => n != 0)).Nodup) : ∀ i j, t.getD i 0 ≠ 0 → t.getD j 0 = t.getD i 0 → j = i := by
  intro i j h1 h2
  induction t generalizing i j with
  | nil => simp at h1
  | cons x r ih =>
    by_cases c : x = 0
    · rw [List.filter_cons_of_neg (by simpa using c)] at h
      cases i with
      | zero => simp [c] at h1
      | succ i =>
        cases j with
        | zero => simp at h1 h2; rw [c] at h2; exact absurd h2.symm h1
        | succ j => simp at h1 h2; rw [ih h i j (by simpa using h1) (by simpa using h2)]
    · rw [List.filter_cons_of_pos (by simpa using c)] at h
      obtain ⟨h3, h4⟩ := List.nodup_cons.1 h
      have hmem : ∀ k, r.getD k 0 = x → False := fun k hk => h3 (List.mem_filter.2 ⟨by rw [← hk]; exact (mem_getD (by rw [hk]; exact c)).1, by simpa using c⟩)
      cases i with
      | zero =>
        cases j with
        | zero => rfl
        | succ j => exact (hmem j (by simpa using h2)).elim
      | succ i =>
        cases j with
        | zero => exact (hmem i (by simpa using h2.symm)).elim
        | succ j => rw [ih h4 i j (by simpa using h1) (by simpa using h2)]
theorem fresh_inv {N : Int} {D : DiskSt} {r : Root} {t : List Int} (hd : D.down = false) (hb : D.blocks = N) (hf : Fit N r t) (hh : Hold D.get r t) (hl : ∀ n, D.loose n ≠ none → ¬ Dur r t n) :
    Inv N (⟨D, r, t, usedL r t, t, r.start, emptyB r.blocks, false, false⟩ : Sh) := by
  have hr := check_range hf.check
  have hlen := hf.len
  have hU := hf.used
  have hin : ∀ n : Nat, (n : Int) ∈ t → hasN (usedL r t) n = true := fun n hn => (hf.dur n).2 (.inr (.inr (.inr (.inr hn))))
  refine ⟨rfl, hd, hb, hf, hh, rfl, ⟨hf.pos, by show t.length ≤ 3001; omega⟩, hf.zero, hf.last, ?_, ?_, hh.page, ?_, ?_, ⟨hr.2.2.2.1, hf.start⟩, fun _ => ⟨rfl, rfl⟩, hl⟩
  · show ∀ i, t.getD i 0 ≠ 0 → ∃ n : Nat, t.getD i 0 = (n : Int) ∧ 2 ≤ n ∧ (n : Int) < N ∧ (hasN (usedL r t) n || hasN (emptyB r.blocks) n) = true
    intro i hi
    obtain ⟨hm, _⟩ := mem_getD hi
    rcases hf.ent _ hm with q | q
    · exact absurd q hi
    · refine ⟨(t.getD i 0).toNat, by omega, by omega, by omega, ?_⟩
      rw [hin _ (by rw [show (((t.getD i 0).toNat : Nat) : Int) = t.getD i 0 by omega]; exact hm)]
      rfl
  · show ∀ i j, t.getD i 0 ≠ 0 → t.getD j 0 = t.getD i 0 → j = i
    exact nodup_inj ((List.nodup_append.1 (List.nodup_append.1 hf.nodup).2.1).2.1)
  · show Bytes (emptyB r.blocks) ∧ (emptyB r.blocks).length = (emptyB N).length
    rw [hf.blocks]
    exact ⟨emptyB_bytes N, rfl⟩
  · show ∀ n : Nat, hasN (emptyB r.blocks) n = true ↔ (n ≠ 0 ∧ hasN (usedL r t) n = false ∧ ∃ i, t.getD i 0 = (n : Int))
    intro n
    rw [empty_has]
    refine ⟨fun q => (by cases q), ?_⟩
    rintro ⟨q1, q2, i, q3⟩
    have := hin n (by rw [← q3]; exact (mem_getD (by rw [q3]; omega)).1)
    rw [q2] at this
    cases this
theorem abort_step {N : Int} {s : Sh} (h : Inv N s) : Step N s s.abort.1 ∧ s.abort.2 = 0 ∧ s.abort.1.table = s.was ∧ s.abort.1.start = s.root.start ∧ s.abort.1.D = s.D := by
  unfold Sh.abort
  rw [if_neg (by rw [h.alive]; simp)]
  refine ⟨⟨?_, rfl, rfl, fun _ _ => rfl, fun q => q⟩, rfl, rfl, rfl, rfl⟩
  have := fresh_inv h.up h.blocks h.fit h.hold h.loose
  show Inv N (⟨s.D, s.root, s.was, s.used, s.was, s.root.start, emptyB s.root.blocks, false, s.bad⟩ : Sh)
  rw [h.bad, h.used]
  exact this
theorem open_inv {N : Int} {D : DiskSt} {r : Root} {t : List Int} (hd : D.down = false) (hb : D.blocks = N) (hf : Fit N r t) (hh : Hold D.get r t) (hl : ∀ n, D.loose n ≠ none → ¬ Dur r t n) :
    ∃ s, Sh.open_ D = (s, 0) ∧ Inv N s ∧ s.root = r ∧ s.was = t ∧ s.table = t ∧ s.start = r.start ∧ s.D.get = D.get ∧ s.D.fails = D.fails ∧ s.dirty = false := by
  obtain ⟨k, e⟩ := open_hold hd hb hf hh
  exact ⟨_, e, fresh_inv (D := { D with reads := k }) hd hb hf hh hl, rfl, rfl, rfl, rfl, rfl, rfl, rfl⟩
end Go.Proofs.YtgmkbcoahilkhaaGreat.Sh
end
section
namespace Go.Proofs.YtgmkbcoahilkhaaGreat.Sh
open Go.RowKit MapFn Disk Page Num Bitset
set_option maxRecDepth 100000
theorem lay_gen {N kind : Int} (hk : 1 ≤ kind ∧ kind ≤ 5) {bl : List Int} : ∀ (ps : List (List Int)) (i : Nat) (s : Sh), s.bad = false → s.D.down = false → s.D.blocks = N → (∀ p ∈ ps, Bytes p ∧ p.length ≤ 246) → i + ps.length ≤ 3000 →
    ps.length = (bl.drop i).length → (bl.drop i).Nodup → (∀ n ∈ bl.drop i, 0 ≤ n ∧ n < N) →
    ∃ D, Same1 (fun m => m ∈ bl.drop i) s.D D ∧ ((Sh.layF kind bl ps i s = ({ s with D := D }, 0) ∧ D.down = false ∧ Laid D.get kind ps (bl.drop i) i) ∨ (Sh.layF kind bl ps i s = ({ s with D := D, bad := true }, 11) ∧ D.down = true ∧ s.D.fails ≠ -1))
  | [], i, s, hb, hu, hN, hp, hi, hl, hn, hr => by
    have : bl.drop i = [] := List.length_eq_zero_iff.1 hl.symm
    rw [this]
    exact ⟨s.D, Same1.refl _ _, .inl ⟨rfl, hu, trivial⟩⟩
  | p :: ps, i, s, hb, hu, hN, hp, hi, hl, hn, hr => by
    have hlt : i < bl.length := by
      rw [List.length_drop, List.length_cons] at hl
      omega
    have hd : bl.drop i = bl[i] :: bl.drop (i + 1) := List.drop_eq_getElem_cons hlt
    have hg : bl.getD i 0 = bl[i] := getD_lt hlt 0
    obtain ⟨hp1, hp2⟩ := hp p (by simp)
    rw [hd] at hl hn hr
    obtain ⟨hn1, hn2⟩ := List.nodup_cons.1 hn
    obtain ⟨r1, r2⟩ := hr bl[i] List.mem_cons_self
    rw [List.length_cons] at hi
    have hse : sealE kind (i : Int) p.length = 0 := by
      unfold sealE
      rw [if_neg (by omega), if_neg (by omega), if_neg (by omega)]
    obtain ⟨D1, hs, hw⟩ := wr_gen hb hu hN r1 r2 (sealL_len kind i p hp2)
    rw [layF_cons, if_neg (by rw [hse]; simp), hg, hd]
    rcases hw with ⟨e, hw⟩ | ⟨e, hw1, hw2⟩
    · rw [e, if_neg (by simp)]
      obtain ⟨D2, hs2, h2⟩ := lay_gen hk ps (i + 1) { s with D := D1 } hb hw.up (hs.blocks.trans hN) (fun q hq => hp q (by simp [hq])) (by omega) (by rw [List.length_cons, List.length_cons] at hl; omega) hn2 (fun m hm => hr m (List.mem_cons_of_mem _ hm))
      refine ⟨D2, (hs.mono fun m hm => by rw [hm]; exact List.mem_cons_self).trans (hs2.mono fun m hm => List.mem_cons_of_mem _ hm), ?_⟩
      rcases h2 with ⟨e2, h3, h4⟩ | ⟨e2, h3, h4⟩
      · refine .inl ⟨e2, h3, ⟨(hs2.get hn1).trans hw.get, hse, hp1⟩, h4⟩
      · exact .inr ⟨e2, h3, fun q => h4 (hs.never q)⟩
    · rw [e, if_pos (by simp)]
      exact ⟨D1, hs.mono fun m hm => (by rw [hm]; exact List.mem_cons_self), .inr ⟨rfl, hw1, hw2⟩⟩
theorem write_loose {D : DiskSt} {n : Int} {l : List Int} (hd : D.down = false) (h0 : 0 ≤ n) (h1 : n < D.blocks) (hl : l.length = 256) : (D.write n l).1.loose n = D.loose n ∨ (D.write n l).1.loose n = some l := by
  have ha : D.at_ n = 0 := by
    unfold DiskSt.at_
    rw [hd, if_neg (by simp), if_neg (by omega)]
  have e : D.write n l = D.step (·.wrote n l) := by
    unfold DiskSt.write
    rw [ha, if_neg (by simp), if_neg (by simpa using hl)]
  rw [e]
  unfold DiskSt.step
  by_cases c1 : D.fails = -1
  · rw [if_pos c1]
    exact .inr (wrote_get D.op n l).2.1
  · rw [if_neg c1]
    by_cases c2 : D.fails = 0
    · rw [if_pos c2]
      by_cases c3 : D.done = true
      · rw [if_pos c3]
        exact .inr (wrote_get D.op.fail1 n l).2.1
      · rw [if_neg c3]
        exact .inl rfl
    · rw [if_neg c2]
      exact .inr (wrote_get D.op.fail1 n l).2.1
inductive Cut (D E : DiskSt) (r : Root) : Prop
  | none (h1 : E.safe = D.safe) (h2 : E.loose = D.loose)
  | old (h1 : ∀ n, E.loose n = Option.none) (h2 : ∀ n, E.get n = D.get n)
  | half (h1 : ∀ n, n ≠ r.epoch % 2 → E.loose n = Option.none) (h2 : E.loose (r.epoch % 2) = some r.bytes) (h3 : ∀ n, (E.safe n).getD zeros = D.get n)
  | new (h1 : ∀ n, E.loose n = Option.none) (h2 : E.get (r.epoch % 2) = r.bytes) (h3 : ∀ n, n ≠ r.epoch % 2 → E.get n = D.get n)
structure Crowned (D E : DiskSt) (r : Root) : Prop where
  up : E.down = false
  loose : ∀ n, E.loose n = none
  slot : E.get (r.epoch % 2) = r.bytes
  get : ∀ n, n ≠ r.epoch % 2 → E.get n = D.get n
theorem get_safe {D : DiskSt} {n : Int} (h : D.loose n = none) : D.get n = (D.safe n).getD zeros := by unfold DiskSt.get; rw [h]; rfl
theorem shsync_gen {s : Sh} (hb : s.bad = false) (hu : s.D.down = false) :
    ∃ D, (D.blocks = s.D.blocks ∧ (∀ n, D.get n = s.D.get n) ∧ (s.D.fails = -1 → D.fails = -1)) ∧ ((s.sync = ({ s with D := D }, 0) ∧ Synced s.D D) ∨ (s.sync = ({ s with D := D, bad := true }, 11) ∧ D.down = true ∧ s.D.fails ≠ -1 ∧ ((∀ n, D.loose n = none) ∨ (D.safe = s.D.safe ∧ D.loose = s.D.loose)))) := by
  obtain ⟨h1, h2⟩ := sync_gen hu
  refine ⟨_, h1, ?_⟩
  rcases h2 with ⟨e, h2⟩ | ⟨e, h2⟩
  · refine .inl ⟨?_, h2⟩
    unfold Sh.sync Sh.done
    rw [e]
    simp
  · refine .inr ⟨?_, h2⟩
    unfold Sh.sync Sh.done
    rw [e]
    simp
theorem crown_gen {N : Int} {s : Sh} {r : Root} (hb : s.bad = false) (hu : s.D.down = false) (hN : s.D.blocks = N) (h2 : 2 ≤ N) (hr : r.check = 0) :
    ∃ D, (D.blocks = N ∧ (s.D.fails = -1 → D.fails = -1)) ∧ ((s.crown r = ({ s with D := D }, 0) ∧ Crowned s.D D r) ∨ (s.crown r = ({ s with D := D, bad := true }, 11) ∧ D.down = true ∧ s.D.fails ≠ -1 ∧ Cut s.D D r)) := by
  have hp : r.epoch % 2 = 0 ∨ r.epoch % 2 = 1 := by omega
  obtain ⟨D1, ⟨a1, a2, a3⟩, hS⟩ := shsync_gen hb hu
  unfold Sh.crown
  rcases hS with ⟨e, hS⟩ | ⟨e, b1, b2, b3⟩
  · rw [e, if_neg (by simp), if_neg (by rw [hr]; simp)]
    obtain ⟨D2, hs2, hw⟩ := wr_gen (s := { s with D := D1 }) hb hS.up (a1.trans hN) (n := r.epoch % 2) (by omega) (by omega) (bytes_len hr)
    have hnone : ∀ n, n ≠ r.epoch % 2 → D2.loose n = none := fun n hn => (hs2.loose n hn).trans (hS.loose n)
    have hsafe : ∀ n, (D2.safe n).getD zeros = s.D.get n := fun n => by
      rw [hs2.safe, ← a2 n, get_safe (hS.loose n)]
    rcases hw with ⟨e2, hw⟩ | ⟨e2, b1, b2⟩
    · simp only
      rw [e2, if_neg (by simp)]
      obtain ⟨D3, ⟨c1, c2, c3⟩, hS3⟩ := shsync_gen (s := { s with D := D2 }) hb hw.up
      have hslot : D3.get (r.epoch % 2) = r.bytes := (c2 _).trans hw.get
      have hget : ∀ n, n ≠ r.epoch % 2 → D3.get n = s.D.get n := fun n hn => (c2 n).trans ((hs2.get hn).trans (a2 n))
      refine ⟨D3, ⟨c1.trans (hs2.blocks.trans (a1.trans hN)), fun q => c3 (hs2.never (a3 q))⟩, ?_⟩
      rcases hS3 with ⟨e3, hS3⟩ | ⟨e3, d1, d2, d3⟩
      · exact .inl ⟨e3, hS3.up, hS3.loose, hslot, hget⟩
      · refine .inr ⟨e3, d1, fun q => d2 (hs2.never (a3 q)), ?_⟩
        rcases d3 with d3 | ⟨d3, d4⟩
        · exact .new d3 hslot hget
        · exact .half (fun n hn => by rw [d4]; exact hnone n hn) (by rw [d4]; exact hw.loose) (fun n => by rw [d3]; exact hsafe n)
    · simp only
      rw [e2, if_pos (by simp)]
      refine ⟨D2, ⟨hs2.blocks.trans (a1.trans hN), fun q => hs2.never (a3 q)⟩, .inr ⟨rfl, b1, fun q => b2 (a3 q), ?_⟩⟩
      cases hl : D2.loose (r.epoch % 2) with
      | none =>
        have hl2 : ∀ n, D2.loose n = none := fun n => by
          by_cases c : n = r.epoch % 2
          · rw [c]; exact hl
          · exact hnone n c
        exact .old hl2 fun n => by rw [get_safe (hl2 n), hsafe n]
      | some x =>
        have hx : x = r.bytes := by
          have := write_loose (D := D1) (n := r.epoch % 2) (l := r.bytes) hS.up (by omega) (by rw [a1, hN]; omega) (bytes_len hr)
          have e3 : D2 = (D1.write (r.epoch % 2) r.bytes).1 := by
            have := congrArg (fun q => q.1.D) e2
            exact this.symm
          rw [← e3, hl, hS.loose] at this
          rcases this with q | q
          · cases q
          · exact Option.some.inj q
        rw [hx] at hl
        exact .half hnone hl hsafe
  · rw [e, if_pos (by simp)]
    refine ⟨D1, ⟨a1.trans hN, a3⟩, .inr ⟨rfl, b1, b2, ?_⟩⟩
    rcases b3 with b3 | ⟨b3, b4⟩
    · exact .old b3 a2
    · exact .none b3 b4
end Go.Proofs.YtgmkbcoahilkhaaGreat.Sh
end
section
namespace Go.Proofs.YtgmkbcoahilkhaaGreat.Sh
open Go.RowKit MapFn Disk Page Num Bitset
set_option maxRecDepth 100000
theorem lowF_spec (T : List Int) (B : Int) : ∀ (k f : Nat) (l : List Int), lowF T B k (f : Int) = some l → l.Pairwise (· < ·) ∧ ∀ x ∈ l, ∃ m : Nat, x = (m : Int) ∧ f ≤ m ∧ (m : Int) < B ∧ hasN T m = false
  | 0, f, l, h => by
    cases h
    exact ⟨List.Pairwise.nil, fun x hx => by cases hx⟩
  | k + 1, f, l, h => by
    rw [lowF] at h
    split at h
    · cases h
    · rename_i c
      have c1 : (firstL T f).2 = true := by
        cases e : (firstL T f).2 with
        | true => rfl
        | false => exact absurd (.inl e) c
      obtain ⟨l2, hl2, rfl⟩ := Option.map_eq_some_iff.1 h
      obtain ⟨m, h1, h2, h3, h4⟩ := firstN_spec T _ _ c1
      have e1 : (firstL T f).1 = (m : Int) := h1
      rw [e1] at hl2 c ⊢
      obtain ⟨h5, h6⟩ := lowF_spec T B k (m + 1) l2 hl2
      have hmB : (m : Int) < B := by
        refine Decidable.byContradiction fun q => c (.inr ?_)
        omega
      refine ⟨List.Pairwise.cons (fun x hx => ?_) h5, fun x hx => ?_⟩
      · obtain ⟨j, rfl, hj, _⟩ := h6 x hx
        omega
      · rcases List.mem_cons.1 hx with rfl | hx
        · exact ⟨m, rfl, by have : (f : Int).toNat ≤ m := h2; omega, hmB, h3⟩
        · obtain ⟨j, e, hj, h7, h8⟩ := h6 x hx
          exact ⟨j, e, by have : (f : Int).toNat ≤ m := h2; omega, h7, h8⟩
theorem lowest_spec {s : Sh} {k : Nat} {l : List Int} (h : s.lowest k = some l) : l.Nodup ∧ l.length = k ∧ ∀ x ∈ l, ∃ m : Nat, x = (m : Int) ∧ (m : Int) < s.root.blocks ∧ hasN s.taken m = false := by
  obtain ⟨h1, h2⟩ := lowF_spec s.taken s.root.blocks k 0 l h
  refine ⟨h1.imp fun q => by omega, lowF_len _ _ _ _ _ h, fun x hx => ?_⟩
  obtain ⟨m, e, _, h3, h4⟩ := h2 x hx
  exact ⟨m, e, h3, h4⟩
theorem inj_nodup : ∀ {t : List Int}, (∀ i j, t.getD i 0 ≠ 0 → t.getD j 0 = t.getD i 0 → j = i) → (t.filter (fun n => n != 0)).Nodup
  | [], _ => List.nodup_nil
  | x :: r, h => by
    have hr : (r.filter (fun n => n != 0)).Nodup := inj_nodup fun i j h1 h2 => by
      have := h (i + 1) (j + 1) (by simpa using h1) (by simpa using h2)
      omega
    by_cases c : x = 0
    · rw [List.filter_cons_of_neg (by simpa using c)]
      exact hr
    · rw [List.filter_cons_of_pos (by simpa using c)]
      refine List.nodup_cons.2 ⟨fun q => ?_, hr⟩
      obtain ⟨i, hi, e⟩ := getD_mem (List.mem_filter.1 q).1
      have := h 0 (i + 1) (by simpa using c) (by simpa using e)
      omega
structure Sure (N : Int) (D : DiskSt) (r : Root) (t : List Int) : Prop where
  blocks : D.blocks = N
  fit : Fit N r t
  hold : Hold D.get r t
  loose : ∀ n, D.loose n ≠ none → ¬ Dur r t n
structure Half (N : Int) (D : DiskSt) (r : Root) (t : List Int) (r' : Root) (t' : List Int) : Prop where
  blocks : D.blocks = N
  fit : Fit N r t
  fit' : Fit N r' t'
  epoch : r'.epoch = r.epoch + 1
  loose : ∀ n, n ≠ r'.epoch % 2 → D.loose n = none
  slot : D.loose (r'.epoch % 2) = some r'.bytes
  old : Hold (fun n => (D.safe n).getD zeros) r t
  new : Hold D.get r' t'
def Late (N : Int) (D : DiskSt) (r : Root) (t : List Int) (start : Int) (t' : List Int) : Prop :=
  Sure N D r t ∨ ∃ r' : Root, r'.start = start ∧ (Sure N D r' t' ∨ Half N D r t r' t')
theorem Inv.sure {N : Int} {s : Sh} (h : Inv N s) : Sure N s.D s.root s.was := ⟨h.blocks, h.fit, h.hold, h.loose⟩
theorem Lost.sure {N : Int} {s s' : Sh} (h : Inv N s) (k : Lost s s') : Sure N s'.D s.root s.was :=
  ⟨k.same.blocks.trans h.blocks, h.fit, h.hold.same fun n hn => k.same.get (fun q => q hn), fun n hn q => by
    rw [k.same.loose n (fun c => c q)] at hn
    exact h.loose n hn q⟩
structure Done (N : Int) (s s' : Sh) : Prop where
  inv : Inv N s'
  table : s'.table = s.table
  start : s'.start = s.start
  was : s'.was = s.table
  rstart : s'.root.start = s.start
  dirty : s'.dirty = false
  get : ∀ i, s.table.getD i 0 ≠ 0 → s'.D.get (s.table.getD i 0) = s.D.get (s.table.getD i 0)
  never : s.D.fails = -1 → s'.D.fails = -1
structure Pages (s s' : Sh) : Prop where
  was : ∀ i, s.was.getD i 0 ≠ 0 → s'.D.get (s.was.getD i 0) = s.D.get (s.was.getD i 0)
  table : ∀ i, s.table.getD i 0 ≠ 0 → s'.D.get (s.table.getD i 0) = s.D.get (s.table.getD i 0)
theorem mapsOf_count (r : Root) (t : List Int) {N : Int} (h : r.blocks = N) : (splitL 246 (usedL r t)).length = mapsOf N := by
  rw [splitL_num, usedL_clamp, mapsOf_num, h]
theorem Inv.free {N : Int} {s : Sh} (h : Inv N s) {k : Nat} {l : List Int} (hl : s.lowest k = some l) : ∀ x ∈ l, (2 ≤ x ∧ x < N) ∧ ¬ Dur s.root s.was x ∧ ∀ i, s.table.getD i 0 ≠ 0 → s.table.getD i 0 ≠ x := by
  intro x hx
  obtain ⟨m, rfl, h1, h2⟩ := (lowest_spec hl).2.2 x hx
  rw [h.taken] at h2
  have h3 := h.low h2
  rw [h.fit.blocks] at h1
  refine ⟨⟨by omega, h1⟩, h.notdur (Bool.or_eq_false_iff.1 h2).1, fun i hi q => ?_⟩
  obtain ⟨n, e1, _, _, e4⟩ := h.ent i hi
  rw [q] at e1
  have : m = n := by omega
  subst this
  rw [h2] at e4
  cases e4
theorem pieces_num (t : List Int) : (splitL 246 (wordsL (t.drop 1))).length = (2 * (t.length - 1) + 245) / 246 := by rw [splitL_num, wordsL_len, List.length_drop]
theorem next_check {N : Int} {s : Sh} (h : Inv N s) {l : List Int} (hl : s.lowest ((splitL 246 (wordsL (s.table.drop 1))).length + mapsOf s.root.blocks) = some l) (hep : s.root.epoch < 1099511627776) : (s.next (splitL 246 (wordsL (s.table.drop 1))).length l).check = 0 := by
  have hN := h.fit.range
  have hlen := h.len
  have hpn := pieces_num s.table
  have hfree := h.free hl
  obtain ⟨l1, l2, l3⟩ := lowest_spec hl
  generalize (splitL 246 (wordsL (s.table.drop 1))).length = P at hl hpn l2 ⊢
  have hm3 := mapsOf_3 N
  have hck := check_range h.fit.check
  have hB : (s.next P l).blocks = N := h.fit.blocks
  have hTM : (s.next P l).tables ++ (s.next P l).maps = l := List.take_append_drop P l
  have hT2 : (s.next P l).tables.length = P := by show (l.take P).length = P; rw [List.length_take]; omega
  have hM2 : (s.next P l).maps.length = mapsOf N := by show (l.drop P).length = mapsOf N; rw [List.length_drop, l2, h.fit.blocks]; omega
  unfold Root.check
  rw [if_neg, if_neg (by omega), if_neg]
  · rw [hTM, hB]
    have : (l.all fun n => inside n 2 (N - 1)) = true := List.all_eq_true.2 fun n hn => by
      have := (hfree n hn).1
      simp [inside]
      omega
    rw [this]
    simp
  · have hst : s.start ≤ (s.table.length : Int) - 1 := by
      rcases Int.lt_or_le 0 s.start with c | c
      · have := (mem_getD (h.start.2 c)).2
        omega
      · omega
    have := h.start.1
    rw [hB]
    show ¬ (inside (s.root.epoch + 1) 0 1099511627776 && inside N 2 4096 && inside ((s.table.length : Int) - 1) 0 3000 && inside s.start 0 ((s.table.length : Int) - 1)) = false
    have e1 : inside (s.root.epoch + 1) 0 1099511627776 = true := by simp [inside]; omega
    have e2 : inside N 2 4096 = true := by simp [inside]; omega
    have e3 : inside ((s.table.length : Int) - 1) 0 3000 = true := by simp [inside]; omega
    have e4 : inside s.start 0 ((s.table.length : Int) - 1) = true := by simp [inside]; omega
    rw [e1, e2, e3, e4]
    simp
theorem Inv.maps {N : Int} {s : Sh} (h : Inv N s) : 1 ≤ mapsOf s.root.blocks := by
  rw [h.fit.blocks, mapsOf_num]
  have := clamp_room h.fit.range.1 h.fit.range.2
  rw [emptyB_len] at this
  omega
theorem commit_gen {N : Int} {s : Sh} (h : Inv N s) : (s.commit.2 ≠ 0 ∧ s.commit.1 = s) ∨ (s.commit.2 = 0 ∧ Done N s s.commit.1) ∨ (s.commit.2 ≠ 0 ∧ s.commit.1.bad = true ∧ s.commit.1.D.down = true ∧ s.D.fails ≠ -1 ∧ Late N s.commit.1.D s.root s.was s.start s.table ∧ Pages s s.commit.1) := by
  have hN := h.fit.range
  have hlen := h.len
  unfold Sh.commit
  rw [if_neg (by rw [h.alive]; simp)]
  split
  · rename_i hd
    obtain ⟨h1, h2⟩ := h.clean hd
    exact .inr (.inl ⟨rfl, h, rfl, rfl, h1.symm, h2.symm, hd, fun _ _ => rfl, fun q => q⟩)
  simp only
  split
  · exact .inl ⟨by simp, rfl⟩
  rename_i hdirty l hl
  split
  · exact .inl ⟨by simp, rfl⟩
  rename_i hep
  obtain ⟨l1, l2, l3⟩ := lowest_spec hl
  have hpn := pieces_num s.table
  have hcheck := next_check h hl (by omega)
  have hfree := h.free hl
  generalize hps : splitL 246 (wordsL (s.table.drop 1)) = pieces at hl hpn l2 hcheck ⊢
  have hT : (s.next pieces.length l).tables = l.take pieces.length := rfl
  have hM : (s.next pieces.length l).maps = l.drop pieces.length := rfl
  have hE : (s.next pieces.length l).epoch = s.root.epoch + 1 := rfl
  have hB : (s.next pieces.length l).blocks = N := h.fit.blocks
  have hX : (s.next pieces.length l).next = (s.table.length : Int) - 1 := rfl
  have hS : (s.next pieces.length l).start = s.start := rfl
  generalize hr : s.next pieces.length l = r at hT hM hE hB hX hS hcheck ⊢
  have hm3 := mapsOf_3 N
  have hT2 : r.tables.length = pieces.length := by rw [hT, List.length_take]; omega
  have hM2 : r.maps.length = mapsOf N := by rw [hM, List.length_drop, l2, h.fit.blocks]; omega
  have hTM : r.tables ++ r.maps = l := by rw [hT, hM, List.take_append_drop]
  have hck := check_range h.fit.check
  have hnod := inj_nodup h.inj
  have hfit : Fit N r s.table := by
    refine ⟨hcheck, hB, by rw [hX]; omega, h.zero, h.last, fun n hn => ?_, fun q => ?_, ?_⟩
    · by_cases c : n = 0
      · exact .inl c
      · obtain ⟨i, _, e⟩ := getD_mem hn
        obtain ⟨m, e1, e2, e3, _⟩ := h.ent i (by rw [e]; exact c)
        right
        rw [e] at e1
        omega
    · rw [hS] at q ⊢
      exact h.start.2 q
    · rw [← List.append_assoc, hTM]
      refine List.nodup_append.2 ⟨l1, hnod, fun x hx y hy e => ?_⟩
      obtain ⟨i, _, q⟩ := getD_mem (List.mem_filter.1 hy).1
      have hy0 : y ≠ 0 := by simpa using (List.mem_filter.1 hy).2
      exact (hfree x hx).2.2 i (by rw [q]; exact hy0) (by rw [q, e])
  have hlT : ∀ x ∈ r.tables, x ∈ l := fun x hx => by rw [← hTM]; exact List.mem_append.2 (.inl hx)
  have hlM : ∀ x ∈ r.maps, x ∈ l := fun x hx => by rw [← hTM]; exact List.mem_append.2 (.inr hx)
  have hTMn := List.nodup_append.1 (by rw [hTM]; exact l1 : (r.tables ++ r.maps).Nodup)
  obtain ⟨D1, s1, w1⟩ := lay_gen (N := N) (kind := 1) (by omega) (bl := r.tables) pieces 0 s h.bad h.up h.blocks (fun p hp => by rw [← hps] at hp; exact ⟨splitL_bytes (wordsL_bytes _) p hp, splitL_most _ p hp⟩) (by omega) (by rw [List.drop_zero, hT2]) hTMn.1 (fun n hn => by have := (hfree n (hlT n hn)).1; omega)
  rw [List.drop_zero] at s1 w1
  have hdurl : ∀ x ∈ l, ¬ Dur s.root s.was x := fun x hx => (hfree x hx).2.1
  have lateOld : ∀ D, Same1 (fun m => m ∈ l) s.D D → Sure N D s.root s.was := fun D hD =>
    ⟨hD.blocks.trans h.blocks, h.fit, h.hold.same fun n hn => hD.get (fun q => hdurl n q hn), fun n hn q => by
      rw [hD.loose n (fun c => hdurl n c q)] at hn
      exact h.loose n hn q⟩
  have pagesOf : ∀ D, Same1 (fun m => m ∈ l) s.D D → Pages s ({ s with D := D, bad := true } : Sh) := fun D hD =>
    ⟨fun i hi => hD.get fun q => hdurl _ q (.inr (.inr (.inr (.inr (mem_getD hi).1)))), fun i hi => hD.get fun q => (hfree _ q).2.2 i hi rfl⟩
  unfold Sh.lay
  rcases w1 with ⟨e1, u1, L1⟩ | ⟨e1, u1, f1⟩
  · rw [e1, if_neg (by simp)]
    simp only
    have hMlen := mapsOf_count r s.table hB
    obtain ⟨D2, s2, w2⟩ := lay_gen (N := N) (kind := 2) (by omega) (bl := r.maps) (splitL 246 (usedL r s.table)) 0 { s with D := D1 } h.bad u1 (s1.blocks.trans h.blocks) (fun p hp => ⟨splitL_bytes hfit.used.1 p hp, splitL_most _ p hp⟩) (by omega) (by rw [List.drop_zero, hM2, hMlen]) hTMn.2.1 (fun n hn => by have := (hfree n (hlM n hn)).1; omega)
    rw [List.drop_zero] at s2 w2
    have s12 : Same1 (fun m => m ∈ l) s.D D2 := (s1.mono hlT).trans (s2.mono hlM)
    rcases w2 with ⟨e2, u2, L2⟩ | ⟨e2, u2, f2⟩
    · rw [e2, if_neg (by simp)]
      simp only
      obtain ⟨D3, ⟨b3, n3⟩, w3⟩ := crown_gen (N := N) (s := { s with D := D2 }) (r := r) h.bad u2 (s12.blocks.trans h.blocks) hN.1 hcheck
      have hslot : r.epoch % 2 = 0 ∨ r.epoch % 2 = 1 := by omega
      have hnl : ∀ x ∈ l, x ≠ r.epoch % 2 := fun x hx q => by have := (hfree x hx).1; omega
      have L1' : Laid D2.get 1 (splitL 246 (wordsL (s.table.drop 1))) r.tables 0 := by
        rw [hps]
        exact L1.same fun n hn => s2.get fun q => hTMn.2.2 n hn n q rfl
      have hpages : ∀ i, s.table.getD i 0 ≠ 0 → D2.get (s.table.getD i 0) = s.D.get (s.table.getD i 0) := fun i hi => s12.get fun q => (hfree _ q).2.2 i hi rfl
      have hne : ∀ i, s.table.getD i 0 ≠ 0 → s.table.getD i 0 ≠ r.epoch % 2 := fun i hi q => by
        obtain ⟨m, e1, e2, _⟩ := h.ent i hi
        omega
      have holdNew : ∀ g : Int → List Int, g (r.epoch % 2) = r.bytes → (∀ n, n ≠ r.epoch % 2 → g n = D2.get n) → Hold g r s.table := fun g g1 g2 => by
        refine ⟨g1, ?_, L1'.same fun n hn => g2 n (hnl n (hlT n hn)), L2.same fun n hn => g2 n (hnl n (hlM n hn)), fun i hi => ?_⟩
        · rw [g2 _ (by omega), s12.get (fun q => by have := (hfree _ q).1; omega), show 1 - r.epoch % 2 = s.root.epoch % 2 by omega, h.hold.crown]
          exact Other.root h.fit.check (by omega)
        · obtain ⟨k, b, q1, q2, q3⟩ := h.page i hi
          exact ⟨k, b, q1, q2, (g2 _ (hne i hi)).trans ((hpages i hi).trans q3)⟩
      have holdOld : Hold D2.get s.root s.was := h.hold.same fun n hn => s12.get fun q => hdurl n q hn
      rcases w3 with ⟨e3, C⟩ | ⟨e3, u3, f3, C⟩
      · rw [e3, if_neg (by simp)]
        right; left
        refine ⟨rfl, ?_⟩
        have hH := holdNew D3.get C.slot C.get
        have hI := fresh_inv (D := D3) C.up b3 hfit hH (fun n hn => absurd (C.loose n) hn)
        have e4 : (({ s with D := D3 } : Sh).settle r) = (⟨D3, r, s.table, usedL r s.table, s.table, r.start, emptyB r.blocks, false, false⟩ : Sh) := by
          unfold Sh.settle
          simp only [h.bad]
        simp only
        rw [e4]
        exact ⟨hI, rfl, hS, rfl, hS, rfl, fun i hi => (C.get _ (hne i hi)).trans (hpages i hi), fun q => n3 (s12.never q)⟩
      · rw [e3, if_pos (by simp)]
        right; right
        have hwne : ∀ i, s.was.getD i 0 ≠ 0 → s.was.getD i 0 ≠ r.epoch % 2 := fun i hi q => by
          rcases h.fit.ent _ (mem_getD hi).1 with c | c
          · exact hi c
          · omega
        have hp3 : ∀ n, n ≠ r.epoch % 2 → D3.get n = D2.get n := fun n hn => by
          cases C with
          | none c1 c2 => unfold DiskSt.get; rw [c1, c2]
          | old c1 c2 => exact c2 n
          | half c1 c2 c3 => rw [get_safe (c1 n hn), c3]
          | new c1 c2 c3 => exact c3 n hn
        have hpg : Pages s ({ s with D := D3, bad := true } : Sh) := ⟨fun i hi => (hp3 _ (hwne i hi)).trans ((pagesOf D2 s12).was i hi), fun i hi => (hp3 _ (hne i hi)).trans ((pagesOf D2 s12).table i hi)⟩
        refine ⟨by simp, rfl, u3, fun q => f3 (s12.never q), ?_, hpg⟩
        show Late N D3 s.root s.was s.start s.table
        cases C with
        | none c1 c2 =>
          refine .inl ((lateOld D2 s12).blocks ▸ ?_)
          have hg : D3.get = D2.get := by funext n; unfold DiskSt.get; rw [c1, c2]
          have := lateOld D2 s12
          rw [this.blocks]
          exact ⟨b3, this.fit, by rw [hg]; exact this.hold, fun n hn => this.loose n (by rw [← c2]; exact hn)⟩
        | old c1 c2 =>
          refine .inl ⟨b3, h.fit, ?_, fun n hn => absurd (c1 n) hn⟩
          have hg : D3.get = D2.get := funext c2
          rw [hg]
          exact holdOld
        | half c1 c2 c3 =>
          refine .inr ⟨r, hS, .inr ⟨b3, h.fit, hfit, hE, c1, c2, ?_, holdNew D3.get ?_ fun n hn => ?_⟩⟩
          · rw [show (fun n => (D3.safe n).getD zeros) = D2.get from funext c3]
            exact holdOld
          · unfold DiskSt.get; rw [c2]; rfl
          · rw [get_safe (c1 n hn), c3]
        | new c1 c2 c3 =>
          exact .inr ⟨r, hS, .inl ⟨b3, hfit, holdNew D3.get c2 c3, fun n hn => absurd (c1 n) hn⟩⟩
    · rw [e2, if_pos (by simp)]
      exact .inr (.inr ⟨by simp, rfl, u2, fun q => f2 (s1.never q), .inl (lateOld D2 s12), pagesOf D2 s12⟩)
  · rw [e1, if_pos (by simp)]
    exact .inr (.inr ⟨by simp, rfl, u1, f1, .inl (lateOld D1 (s1.mono hlT)), pagesOf D1 (s1.mono hlT)⟩)
theorem format_inv {N : Int} {D : DiskSt} (hd : D.down = false) (hb : D.blocks = N) (hf : D.fails = -1) (h4 : N ≤ 4096) (h3 : ¬ N < 3 + (mapsOf N : Int)) :
    ∃ s, Sh.format D = (s, 0) ∧ Inv N s ∧ s.table = [0] ∧ s.was = [0] ∧ s.start = 0 ∧ s.root.start = 0 ∧ s.D.fails = -1 ∧ s.dirty = false := by
  have hc := firstRoot_check h4 h3
  have hm1 : 0 ≤ (mapsOf N : Int) := by omega
  have hmap : ∀ n ∈ (firstRoot N).maps, 2 ≤ n ∧ n < N := fun n hn => by
    have := check_each hc n (List.mem_append.2 (.inr hn))
    have e : (firstRoot N).blocks = N := rfl
    omega
  have hmn : (firstRoot N).maps.Nodup := by
    show ((List.range (mapsOf N)).map fun i => ((2 + i : Nat) : Int)).Nodup
    refine List.Pairwise.map _ (fun a b q => by omega) List.nodup_range
  have hfit : Fit N (firstRoot N) [0] := by
    refine ⟨hc, rfl, rfl, rfl, fun q => absurd q (by simp), fun n hn => .inl (by simpa using hn), fun q => absurd (show (0 : Int) < 0 from q) (by decide), ?_⟩
    show ([] ++ ((firstRoot N).maps ++ [])).Nodup
    simpa using hmn
  unfold Sh.format
  simp only
  rw [hb, if_neg h3]
  obtain ⟨g1, g2⟩ := write_gen (n := 1) (l := zeros) hd (by omega) (by rw [hb]; omega) (by simp [zeros])
  rcases g2 with ⟨e0, g2⟩ | ⟨_, _, q⟩
  rotate_left
  · exact absurd hf q
  rw [if_neg (by rw [e0]; simp)]
  obtain ⟨D1, s1, w1⟩ := lay_gen (N := N) (kind := 2) (by omega) (bl := (firstRoot N).maps) (splitL 246 (usedL (firstRoot N) [0])) 0 { Sh.over D with D := (D.write 1 zeros).1 } rfl g2.up (g1.blocks.trans hb) (fun p hp => ⟨splitL_bytes hfit.used.1 p hp, splitL_most _ p hp⟩) (by rw [mapsOf_count (N := N) _ _ rfl]; have := mapsOf_3 N; omega) (by rw [List.drop_zero, mapsOf_count (N := N) _ _ rfl]; show mapsOf N = ((List.range (mapsOf N)).map fun i => ((2 + i : Nat) : Int)).length; simp) hmn (fun n hn => by have := hmap n hn; omega)
  rw [List.drop_zero] at s1 w1
  have hfn : (D.write 1 zeros).1.fails = -1 := g1.never hf
  rcases w1 with ⟨e1, u1, L1⟩ | ⟨_, _, q⟩
  rotate_left
  · exact absurd hfn q
  have e1' : ({ Sh.over D with D := (D.write 1 zeros).1 } : Sh).lay 2 (splitL 246 (usedL (firstRoot N) (Sh.over D).table)) (firstRoot N).maps = ({ Sh.over D with D := D1 }, 0) := e1
  rw [e1', if_neg (by simp)]
  simp only
  obtain ⟨D3, ⟨b3, n3⟩, w3⟩ := crown_gen (N := N) (s := { Sh.over D with D := D1 }) (r := firstRoot N) rfl u1 (s1.blocks.trans (g1.blocks.trans hb)) (by omega) hc
  rcases w3 with ⟨e3, C⟩ | ⟨_, _, q, _⟩
  rotate_left
  · exact absurd (s1.never hfn) q
  rw [e3, if_neg (by simp)]
  have hslot : (firstRoot N).epoch % 2 = 0 := rfl
  have hH : Hold D3.get (firstRoot N) [0] := by
    refine ⟨C.slot, ?_, trivial, L1.same fun n hn => C.get n (by have := hmap n hn; omega), fun i hi => ?_⟩
    · rw [C.get _ (by rw [hslot]; decide)]
      show Other 0 (D1.get 1)
      rw [s1.get (fun q => by have := hmap _ q; omega), show (({ Sh.over D with D := (D.write 1 zeros).1 } : Sh).D.get 1) = zeros from g2.get]
      exact Other.zero
    · cases i with
      | zero => simp at hi
      | succ i => simp at hi
  exact ⟨_, rfl, fresh_inv (D := D3) C.up b3 hfit hH (fun n hn => absurd (C.loose n) hn), rfl, rfl, rfl, rfl, n3 (s1.never hfn), rfl⟩
end Go.Proofs.YtgmkbcoahilkhaaGreat.Sh
end
section
namespace Go.Proofs.YtgmkbcoahilkhaaGreat.Acts
open Go.RowKit Go.Deep Go.ChangeShapes Go.WideShapes YtgmkbcoahilkhaaGreatW.PrintWords YtgmkbcoahilkhaaGreat.Sum Disk Sh
set_option maxRecDepth 100000
structure DActV where
  kind : Int
  n : Int
  c : Int
  cut : Int
  done : Bool
  fate : List Int
instance : Inhabited DActV := ⟨⟨0, 0, 0, 0, false, []⟩⟩
structure ActV where
  kind : Int
  id : Int
  page : Int
  body : List Int
  d : DActV
instance : Inhabited ActV := ⟨⟨0, 0, 0, [], default⟩⟩
def IsI64 (x : Int) : Prop := -9223372036854775808 ≤ x ∧ x < 9223372036854775808
def IsU8 (x : Int) : Prop := 0 ≤ x ∧ x < 256
def DActV.vals (v : DActV) (A : Option Addr) (c : Nat) : List Value := [.int .u8 v.kind, .int .i64 v.n, .int .u8 v.c, .int .u8 v.cut, .bool v.done, .slice A v.fate.length c]
def ActV.vals (v : ActV) (A : Option Addr) (c : Nat) (A2 : Option Addr) (c2 : Nat) : List Value := [.int .u8 v.kind, .int .i64 v.id, .int .i64 v.page, .slice A v.body.length c] ++ v.d.vals A2 c2
structure DActV.Wf (v : DActV) : Prop where
  kind : IsU8 v.kind
  n : IsI64 v.n
  c : IsU8 v.c
  cut : IsU8 v.cut
  fate : Bytes v.fate
structure ActV.Wf (v : ActV) : Prop where
  kind : IsU8 v.kind
  id : IsI64 v.id
  page : IsI64 v.page
  body : Bytes v.body
  d : v.d.Wf
structure ActAt (W : World) (g o : Nat) (v : ActV) : Prop where
  ex : ∃ A c A2 c2, (∀ j, j < 10 → W.cell? ⟨g, o + j, none⟩ = (v.vals A c A2 c2)[j]?) ∧ InW .u8 W A v.body c ∧ InW .u8 W A2 v.d.fate c2
  wf : v.Wf
theorem spot_none {W : World} {a : Addr} {v : Value} (h : W.cell? a = some v) : a.spot = none := by
  unfold World.cell? at h
  split at h
  · split at h
    · cases h
    · rename_i q
      cases hs : a.spot with
      | none => rfl
      | some y => rw [hs] at q; exact absurd rfl q
  · cases h
theorem wf_u8 {n : Int} (h : (Lit.int .u8 n).wf = true) : IsU8 n := by
  simp only [Lit.wf, Bool.and_eq_true, decide_eq_true_eq] at h
  have h1 : IntKind.u8.min = 0 := rfl
  have h2 : IntKind.u8.max = 255 := rfl
  unfold IsU8
  omega
theorem wf_i64 {n : Int} (h : (Lit.int .i64 n).wf = true) : IsI64 n := by
  simp only [Lit.wf, Bool.and_eq_true, decide_eq_true_eq] at h
  have h1 : IntKind.i64.min = -9223372036854775808 := rfl
  have h2 : IntKind.i64.max = 9223372036854775807 := rfl
  unfold IsI64
  omega
section
variable {H : Type} {enc : TypeId × Value → H} {W : World} {base : Nat} {spare : Nat → Bool} {held : Bool}
theorem c5 : Tryz.prog.cellsOf 5 = 1 := by kernel_rfl
theorem c3 : Tryz.prog.cellsOf 3 = 1 := by kernel_rfl
theorem c4 : Tryz.prog.cellsOf 4 = 1 := by kernel_rfl
theorem c22 : Tryz.prog.cellsOf 22 = 1 := by kernel_rfl
theorem c47 : Tryz.prog.cellsOf 47 = 6 := by kernel_rfl
theorem c49 : Tryz.prog.cellsOf 49 = 10 := by kernel_rfl
theorem open_bytes {fuel : Nat} {v : Value} {x : DataW H × List MemPlace} (h : DataW.trod enc Tryz.prog W base spare held fuel 22 [v] = some x) :
    ∃ A l c, v = .slice A l.length c ∧ InW .u8 W A l c ∧ Bytes l := by
  rcases open_ints Tryz.underlying22 Tryz.underlying5 c5 h with ⟨hc, _⟩ | ⟨a, len, cap, zs, hc, _, hl, hm, hz, _, hcell, hwf⟩
  · injection hc with hv _
    exact ⟨none, [], 0, hv, (In.nil _ _).wide, fun y hy => by cases hy⟩
  · injection hc with hv _
    have hzl : len ≤ zs.length := by rw [hz]; split <;> omega
    have hlen : (zs.take len).length = len := by rw [List.length_take]; omega
    have hmx : maxLen ≤ 9223372036854775807 := by decide
    refine ⟨some a, zs.take len, cap, by rw [hlen]; exact hv, ⟨?_, by rw [hlen]; exact hl, fun b hb hne => ?_⟩, fun y hy => wf_u8 (hwf y (List.mem_of_mem_take hy))⟩
    · refine Kd.C_of_reads (enc := Value.int .u8) (d := (0 : Int)) (h1 := fun _ => rfl) ⟨rfl, by rw [hlen]; omega, fun _ => ⟨_, rfl, fun j hj => ?_⟩⟩
      rw [hlen] at hj
      rw [hcell j (by omega)]
      simp [List.getD_eq_getElem?_getD, List.getElem?_take, hj]
    · cases hb
      have hpos : 0 < (zs.take len).length := List.length_pos_iff.2 hne
      have := hcell 0 (by omega)
      rw [← Sh.add_block a 0]
      exact lt_of_cell this
theorem one_of {l : List Value} {f : Nat} {t : TypeId} {x : DataW H × List MemPlace} {o : Option (DataW H × List MemPlace)} (h : DataW.trod enc Tryz.prog W base spare held f t l = o) (ho : o = some x) : DataW.trod enc Tryz.prog W base spare held f t l = some x := h.trans ho
theorem open_dact {fuel : Nat} {cs : List Value} {x : DataW H × List MemPlace} (h : DataW.trod enc Tryz.prog W base spare held fuel 47 cs = some x) :
    ∃ (v : DActV) (A : Option Addr) (c : Nat), cs = v.vals A c ∧ InW .u8 W A v.fate c ∧ v.Wf := by
  obtain ⟨xs, n, _, _, hcl, hxl, hf⟩ := DataW.trod_struct Tryz.underlying47 h
  rw [c47] at hcl
  match xs, hxl, cs, hcl with
  | [y0, y1, y2, y3, y4, y5], _, [v0, v1, v2, v3, v4, v5], _ =>
    have g0 := hf 0 _ rfl
    have g1 := hf 1 _ rfl
    have g2 := hf 2 _ rfl
    have g3 := hf 3 _ rfl
    have g4 := hf 4 _ rfl
    have g5 := hf 5 _ rfl
    simp only [c5, c3, c4, c22, List.drop_zero, List.drop_succ_cons, List.take_succ_cons, List.take_zero, List.getElem?_cons_zero, List.getElem?_cons_succ] at g0 g1 g2 g3 g4 g5
    obtain ⟨a0, e0, _, w0⟩ := DataW.trod_int Tryz.underlying5 g0
    obtain ⟨a1, e1, _, w1⟩ := DataW.trod_int Tryz.underlying3 g1
    obtain ⟨a2, e2, _, w2⟩ := DataW.trod_int Tryz.underlying5 g2
    obtain ⟨a3, e3, _, w3⟩ := DataW.trod_int Tryz.underlying5 g3
    obtain ⟨a4, e4, _⟩ := DataW.trod_bool Tryz.underlying4 g4
    obtain ⟨A, l, c, e5, hi, hb⟩ := open_bytes g5
    injection e0 with e0 _
    injection e1 with e1 _
    injection e2 with e2 _
    injection e3 with e3 _
    injection e4 with e4 _
    subst e0 e1 e2 e3 e4 e5
    exact ⟨⟨a0, a1, a2, a3, a4, l⟩, A, c, rfl, hi, ⟨wf_u8 w0, wf_i64 w1, wf_u8 w2, wf_u8 w3, hb⟩⟩
theorem open_act {fuel : Nat} {cs : List Value} {x : DataW H × List MemPlace} (h : DataW.trod enc Tryz.prog W base spare held fuel 49 cs = some x) :
    ∃ (v : ActV) (A : Option Addr) (c : Nat) (A2 : Option Addr) (c2 : Nat), cs = v.vals A c A2 c2 ∧ InW .u8 W A v.body c ∧ InW .u8 W A2 v.d.fate c2 ∧ v.Wf := by
  obtain ⟨xs, n, _, _, hcl, hxl, hf⟩ := DataW.trod_struct Tryz.underlying49 h
  rw [c49] at hcl
  match xs, hxl, cs, hcl with
  | [y0, y1, y2, y3, y4], _, [v0, v1, v2, v3, v4, v5, v6, v7, v8, v9], _ =>
    have g0 := hf 0 _ rfl
    have g1 := hf 1 _ rfl
    have g2 := hf 2 _ rfl
    have g3 := hf 3 _ rfl
    have g4 := hf 4 _ rfl
    simp only [c5, c3, c4, c22, c47, List.drop_zero, List.drop_succ_cons, List.take_succ_cons, List.take_zero, List.getElem?_cons_zero, List.getElem?_cons_succ] at g0 g1 g2 g3 g4
    obtain ⟨a0, e0, _, w0⟩ := DataW.trod_int Tryz.underlying5 g0
    obtain ⟨a1, e1, _, w1⟩ := DataW.trod_int Tryz.underlying3 g1
    obtain ⟨a2, e2, _, w2⟩ := DataW.trod_int Tryz.underlying3 g2
    obtain ⟨A, l, c, e3, hi, hb⟩ := open_bytes g3
    obtain ⟨v, A2, c2, e4, hi2, hw2⟩ := open_dact g4
    injection e0 with e0 _
    injection e1 with e1 _
    injection e2 with e2 _
    subst e0 e1 e2 e3
    refine ⟨⟨a0, a1, a2, l, v⟩, A, c, A2, c2, ?_, hi, hi2, ⟨wf_u8 w0, wf_i64 w1, wf_i64 w2, hb, hw2⟩⟩
    show _ = [_, _, _, _] ++ v.vals A2 c2
    rw [← e4]
    rfl
theorem open_acts {fuel : Nat} {v : Value} {x : DataW H × List MemPlace} (h : DataW.trod enc Tryz.prog W base spare held fuel 43 [v] = some x) :
    ∃ (A : Option Addr) (l : List ActV) (c : Nat), v = .slice A l.length c ∧ l.length ≤ 9223372036854775807 ∧ ∀ (i : Nat) (hi : i < l.length), ∃ g o, A = some ⟨g, o, none⟩ ∧ ActAt W g (o + i * 10) l[i] := by
  rcases open_slice Tryz.underlying43 h with ⟨hc, _⟩ | ⟨a, len, cap, m, n, D, Pl, hc, hb, hl, hm, hmm, _, hx⟩
  · injection hc with hv _
    exact ⟨none, [], 0, hv, by decide, fun i hi => by cases hi⟩
  · injection hc with hv _
    have hlm : len ≤ m := by rw [hmm]; split <;> omega
    have hmx : maxLen ≤ 9223372036854775807 := by decide
    have hsp : 0 < len → a.spot = none := fun h0 => by
      obtain ⟨cs, h1, h2⟩ := hx 0 (by omega)
      rw [c49] at h1
      obtain ⟨_, hlen, hcell⟩ := World.cells?_some h1
      obtain ⟨q, A, c, A2, c2, e, _⟩ := open_act h2
      have h3 : W.cell? ((a.add (0 * 10)).add 0) = cs[0]? := hcell 0 (by omega)
      rw [e] at h3
      exact spot_none (show W.cell? a = some _ from h3)
    obtain ⟨f, hf⟩ := choose_lt (n := len) (p := fun i (q : ActV) => a.spot = none ∧ ActAt W a.block (a.off + i * 10) q) (fun i hi => by
      obtain ⟨cs, h1, h2⟩ := hx i (by omega)
      rw [c49] at h1
      obtain ⟨_, hlen, hcell⟩ := World.cells?_some h1
      have hat : ∀ j, j < 10 → W.cell? ((a.add (i * 10)).add j) = cs[j]? := fun j hj => hcell j hj
      obtain ⟨q, A, c, A2, c2, e, h3, h4, h5⟩ := open_act h2
      have hs := hsp (by omega)
      refine ⟨q, hs, ⟨⟨A, c, A2, c2, fun j hj => ?_, h3, h4⟩, h5⟩⟩
      rw [← e, ← hat j hj, Deep.add_add]
      obtain ⟨g, o, sp⟩ := a
      cases hs
      rw [WideShapes.add_plain, Nat.add_assoc])
    refine ⟨some a, (List.range len).map f, cap, by rw [List.length_map, List.length_range]; exact hv, by rw [List.length_map, List.length_range]; omega, fun i hi => ?_⟩
    rw [List.length_map, List.length_range] at hi
    rw [List.getElem_map, List.getElem_range]
    obtain ⟨h1, h2⟩ := hf i hi
    refine ⟨a.block, a.off, ?_, h2⟩
    obtain ⟨g, o, sp⟩ := a
    cases h1
    rfl
end
structure ActsAt (W : World) (A : Option Addr) (l : List ActV) : Prop where
  len : l.length ≤ 9223372036854775807
  at_ : ∀ (i : Nat) (hi : i < l.length), ∃ g o, A = some ⟨g, o, none⟩ ∧ ActAt W g (o + i * 10) l[i]
theorem ActAt.below {W W' : World} {g o : Nat} {v : ActV} (h : ActAt W g o v) (hb : Below W.heap.size W W') : ActAt W' g o v := by
  obtain ⟨⟨A, c, A2, c2, h1, h2, h3⟩, hw⟩ := h
  refine ⟨⟨A, c, A2, c2, fun j hj => ?_, h2.below hb, h3.below hb⟩, hw⟩
  have := h1 j hj
  cases hv : (v.vals A c A2 c2)[j]? with
  | none =>
    rw [List.getElem?_eq_none_iff] at hv
    have : (v.vals A c A2 c2).length = 10 := rfl
    omega
  | some y =>
    rw [hv] at this
    exact pw_cell_below hb this
theorem ActsAt.below {W W' : World} {A : Option Addr} {l : List ActV} (h : ActsAt W A l) (hb : Below W.heap.size W W') : ActsAt W' A l := ⟨h.len, fun i hi => by
  obtain ⟨g, o, ha, h⟩ := h.at_ i hi
  exact ⟨g, o, ha, h.below hb⟩⟩
end Go.Proofs.YtgmkbcoahilkhaaGreat.Acts
end
section
namespace Go.Proofs.YtgmkbcoahilkhaaGreat.Acts
open Go.RowKit YtgmkbcoahilkhaaGreatW.PrintWords YtgmkbcoahilkhaaGreatW.PrintLast YtgmkbcoahilkhaaGreatW.PrintMore MapFn Disk Bitset Page Num Sh
set_option maxHeartbeats 8000000
set_option maxRecDepth 100000
def fewB (l : List ActV) (most : Int) : Bool := decide ((l.length : Int) ≤ most) && l.all fun a => decide (a.body.length ≤ 400)
theorem few_any (A : Option Addr) (c : Nat) (l : List ActV) (w : World) (h : ActsAt w A l) :
    Calls Tryz.prog 26 #[.slice A l.length c, .int .i64 40] w fun e w' => e = .returned (.bool (fewB l 40)) ∧ w' = w := by
  have hmx := h.len
  have H := Hide.mk h
  obtain ⟨R, hR⟩ : ∃ R, fewB l 40 = R := ⟨_, rfl⟩
  have HR := Hide.mk hR.symm
  rw [hR]
  clear h hR
  by_cases hm : l.length ≤ 40
  · have hm1 : ¬ (40 : Int) < (l.length : Int) := by omega
    go_enter Tryz.func26, Tryz.ntmps26
    go_wp2
    go_loopw [5] (fun v5 wr => ∃ i : Nat, v5 = .int .i64 (i : Int) ∧ Hide (i ≤ l.length) ∧ Hide ((l.take i).all (fun a => decide (a.body.length ≤ 400)) = true) ∧ Hide (wr = w)) (fun v5 _ => 100 - (intOf v5).toNat)
    case atStart => exact ⟨0, by first | rfl | simp, ⟨Nat.zero_le _⟩, ⟨by simp⟩, ⟨rfl⟩⟩
    case round =>
      obtain ⟨i, rfl, hi, hall, hw⟩ := hrel
      have hwe := hw.out
      subst hwe
      by_cases hlt0 : i < l.length
      · have hlt : (i : Int) < (l.length : Int) := by omega
        have hi40 : (i : Int) ≤ 40 := by omega
        obtain ⟨g, o, rfl, hact⟩ := H.out.at_ i hlt0
        obtain ⟨Ab, cb, A2, c2, hcell, hin, _⟩ := hact.ex
        have k3 : wr.cell? ⟨g, o + i * 10 + 3, none⟩ = some (.slice Ab (l[i]).body.length cb) := hcell 3 (by omega)
        have hbm := hin.reads.2.1
        have LT := Hide.mk hlt0
        have NX := Hide.mk (show l.take (i + 1) = l.take i ++ [l[i]] by rw [List.take_add_one, List.getElem?_eq_getElem hlt0]; rfl)
        obtain ⟨n, hn⟩ : ∃ n, (l[i]).body.length = n := ⟨_, rfl⟩
        rw [hn] at k3 hbm
        have HN := Hide.mk hn
        clear hcell hin hact
        by_cases hb : n ≤ 400
        · have hb1 : ¬ (400 : Int) < (n : Int) := by omega
          go_wp2
          go_roundw
          case rel => exact ⟨i + 1, by go_num, ⟨by have := LT.out; omega⟩, ⟨by rw [NX.out, List.all_append, hall.out]; simp [HN.out, hb]⟩, ⟨by first | trivial | rfl⟩⟩
          case measure => simp [intOf]; omega
        · have hb1 : (400 : Int) < (n : Int) := by omega
          go_wp2
          go_ret
          have : R = false := by
            rw [HR.out]
            unfold fewB
            have : l.all (fun a => decide (a.body.length ≤ 400)) = false := by
              rw [List.all_eq_false]
              exact ⟨l[i], List.getElem_mem _, by rw [HN.out]; simpa using hb⟩
            rw [this, Bool.and_false]
          rw [this]
          exact ⟨rfl, rfl⟩
      · have hlt : ¬ (i : Int) < (l.length : Int) := by omega
        have E := Hide.mk (show i = l.length by have := hi.out; omega)
        go_wp2
        go_ret
        have : R = true := by
          have h1 := hall.out
          rw [E.out, List.take_length] at h1
          rw [HR.out]
          unfold fewB
          rw [h1, Bool.and_true, decide_eq_true_eq]
          omega
        rw [this]
        exact ⟨rfl, rfl⟩
  · have hm1 : (40 : Int) < (l.length : Int) := by omega
    go_enter Tryz.func26, Tryz.ntmps26
    go_wp2
    go_ret
    have : R = false := by
      rw [HR.out]
      unfold fewB
      rw [decide_eq_false (by omega), Bool.false_and]
    rw [this]
    exact ⟨rfl, rfl⟩
end Go.Proofs.YtgmkbcoahilkhaaGreat.Acts
end
section
namespace Go.Proofs.YtgmkbcoahilkhaaGreat.Sh
open Go.RowKit YtgmkbcoahilkhaaGreatW.PrintWords YtgmkbcoahilkhaaGreatW.PrintLast YtgmkbcoahilkhaaGreatW.PrintMore MapFn Disk Bitset Page Num
set_option maxHeartbeats 8000000
set_option maxRecDepth 100000
def T27_9 : Bool × List (List Nat × List Nat) := (true, [([], []), ([], []), ([], []), ([1, 2], [1, 2]), ([3], [3]), ([4], [4]), ([5], [5]), ([], []), ([], []), ([7, 8], [7, 8]), ([9], [9]), ([10], [10]), ([], []), ([12], [12]), ([], []), ([14], [14]), ([15], [15]), ([6, 11, 13, 16], [6, 11, 13, 16]), ([17], [17]), ([0, 18], [0, 18]), ([], []), ([20], [20]), ([19, 21], [19, 21]), ([22, 0, 1, 2, 3, 4, 5, 6, 7, 8, 9, 10, 11, 12, 13, 14, 15, 16, 17, 18, 19, 20, 21, 22], [0, 22])])
def B27_9 : List Nat := [0, 0, 0, 6, 14, 30, 62, 0, 0, 384, 896, 1920, 0, 4096, 0, 16384, 49152, 131070, 262142, 524287, 0, 1048576, 4194303, 8388607]
theorem tab27_9 : rtab .any (opsOf Tryz.f27 9) = T27_9 := by kernel_rfl
theorem bits27_9 : waitsOk T27_9.2 B27_9 = true := by kernel_rfl
theorem swapS {P : Program} {ops : Array Oper} {Q : Exit → Act → World → Prop} {md : Region.Mode} {S S' : World → Prop} (hS : ∀ w, S' w → S w) : ∀ (fuel : Nat) (listed : Array Bool) (a : Act) (w : World), S' w → wpAnyLast P md ops Q S' [] fuel listed a w → wpAnyLast P md ops Q S [] fuel listed a w
  | 0, _, _, _, _, h => h
  | fuel + 1, _, _, w, hw, h => ⟨h.1, fun i hi => wpOp_mono (fun a' w' h' => ⟨fun _ _ => hS _ (h'.1 (by simp) hw), swapS hS fuel _ a' w' (h'.1 (by simp) hw) h'.2⟩) (h.2 i hi)⟩
abbrev byteI (n : Int) : Int := IntKind.u8.wrap n
theorem str_append (a b : List Int) : strOfNums a ++ strOfNums b = strOfNums (a ++ b) := by
  apply ByteArray.ext
  simp [strOfNums]
def imgF : List Int → Sh → List Int → Sh × List Int × Bool
  | [], s, out => (s, out, true)
  | id :: r, s, out =>
    if (s.read id).2.2.2 ≠ 0 then ((s.read id).1, [110, 111, 110, 101], false)
    else imgF r (s.read id).1 (out ++ [byteI (id / 256), byteI id, byteI (s.read id).2.1, byteI (s.read id).2.2.1.length] ++ (s.read id).2.2.1)
def Sh.image (s : Sh) : Sh × List Int :=
  if (imgF s.ids s []).2.2 = false then ((imgF s.ids s []).1, (imgF s.ids s []).2.1)
  else ((imgF s.ids s []).1, (imgF s.ids s []).2.1 ++ [byteI ((imgF s.ids s []).1.start / 256), byteI (imgF s.ids s []).1.start])
theorem Ok.read {s : Sh} (h : Ok s) (id : Int) : Ok (s.read id).1 := by
  have hd : ∀ D, Ok ({ s with D := D } : Sh) := fun D => h.on D
  unfold Sh.read
  split
  · exact h
  · split
    · exact ⟨h.used, h.fresh, h.table, h.was, h.blocks, h.epoch, h.tabs⟩
    · simp only
      split
      · exact hd _
      · exact hd _
theorem openL_len (l : List Int) : (openL l).2.2.1.length ≤ 1000 := by
  unfold openL
  repeat' split
  all_goals first | exact Nat.zero_le _ | skip
  rename_i h1 _ _ _ _
  simp only
  rw [List.length_take, List.length_drop]
  simp at h1
  omega
theorem DB.readS {s : Sh} (h : DB s.D) (id : Int) : DB (s.read id).1.D := by
  unfold Sh.read
  repeat' split
  all_goals first | exact h | exact h.read | skip
  all_goals simp only; (repeat' split) <;> first | exact h | exact h.read
theorem read_len1 (s : Sh) (id : Int) : (s.read id).2.2.1.length ≤ 1000 := by
  unfold Sh.read
  split
  · simp
  · split
    · simp
    · simp only
      split
      · simp
      · exact openL_len _
theorem image_any (s : Sh) (w : World) (F : Foot) (h : ShAt w F s) (hk : Ok s) (hb : DB s.D) :
    Calls Tryz.prog 27 #[.pointer (some ⟨F.p, 0, none⟩)] w fun e w' => e = .returned (.string (strOfNums s.image.2)) ∧ ∃ F', ShAt w' F' s.image.1 ∧ Goes F F' w w' := by
  have HID := Hide.mk (ids_any w F s h (by have := hk.table.2.1; omega))
  have H := Hide.mk h
  have HK := Hide.mk hk
  have HB := Hide.mk hb
  clear h hk hb
  go_enter Tryz.func27, Tryz.ntmps27
  go_wp2_with (first
    | (go_at_call 21
       with_reducible refine HID.out.mono ?_
       rintro e w2 ⟨v2, rfl, ho, hb2⟩
       obtain ⟨A2, c2, hv2, hi2, hge2⟩ := In.of_own ho
       have B2 := Hide.mk hb2
       have I2 := Hide.mk hi2
       have G2 := Hide.mk hge2
       obtain ⟨n2, hn2⟩ : ∃ z, s.ids.length = z := ⟨_, rfl⟩
       rw [hn2] at hv2
       subst hv2
       have N2 := Hide.mk hn2
       have hmx := hi2.reads.2.1
       rw [hn2] at hmx
       clear ho hb2 hi2 hge2 hn2))
  have H2 := Hide.mk (H.out.below B2.out)
  have hn3 : n2 ≤ 3001 := by have h1 := N2.out; have h2 := idsF_len s.table 0; have h3 := HK.out.table.2.1; unfold Sh.ids at h1; omega
  have BG2 := Hide.mk (Goes.below (F := F) B2.out)
  have NO2 := Hide.mk (show ∀ a, A2 = some a → ¬ a.block ∈ F.own from fun a ha hx => by have := G2.out a ha; have := H.out.lts _ hx; omega)
  go_loopw [4, 5] (fun v4 v5 wr => ∃ (i : Nat) (q : Sh) (out : List Int) (F3 : Foot), v5 = .int .i64 (i : Int) ∧ v4 = .string (strOfNums out) ∧ Hide (i ≤ n2 ∧ out.length ≤ 2000 * i) ∧ Hide (ShAt wr F3 q) ∧ Hide (Goes F F3 w wr) ∧ Hide (Ok q) ∧ Hide (DB q.D) ∧ Hide (imgF s.ids s [] = imgF (s.ids.drop i) q out) ∧ Hide (In .i64 wr A2 s.ids c2) ∧ Hide (∀ a, A2 = some a → ¬ a.block ∈ F3.own)) (fun _ v5 _ => n2 - (intOf v5).toNat)
  case atStart => exact ⟨0, s, [], F, by first | rfl | simp, by first | rfl | simp [strOfNums], ⟨Nat.zero_le _, by simp⟩, H2, BG2, HK, HB, ⟨by simp⟩, I2, NO2⟩
  case round =>
    obtain ⟨i, q, out, F3, rfl, rfl, hi, hS, hG, hOk, hDb, hE, hIn, hNo⟩ := hrel
    by_cases hlt0 : i < n2
    · have hlt : (i : Int) < (n2 : Int) := by omega
      obtain ⟨x, hx⟩ : ∃ x, s.ids.drop i = x :: s.ids.drop (i + 1) := ⟨s.ids[i]'(by have := N2.out; omega), by rw [List.drop_eq_getElem_cons (by have := N2.out; omega)]⟩
      have hrdx : rd s.ids (i : Int) = x := by
        have : (s.ids.drop i)[0]? = some x := by rw [hx]; rfl
        rw [List.getElem?_drop, Nat.add_zero] at this
        simp [rd, List.getD_eq_getElem?_getD, this]
      obtain ⟨ad, rfl, hcell⟩ := Kd.at_int hIn.out.reads (i : Int) (by omega) (by have := N2.out; omega)
      rw [hrdx, Int.toNat_natCast] at hcell
      have HC := Hide.mk hcell
      have HX := Hide.mk hx
      have HRD0 := shread_any x wr F3 q hS.out hOk.out hDb.out.get
      obtain ⟨q2, rk, rb, re, hre⟩ : ∃ q2 rk rb re, q.read x = (q2, rk, rb, re) := ⟨_, _, _, _, rfl⟩
      rw [hre, hG.out.p] at HRD0
      simp only at HRD0
      have HRD := Hide.mk HRD0
      have HRE := Hide.mk hre
      have LT := Hide.mk hlt0
      have OL := Hide.mk (show out.length ≤ 2000 * 3001 by have := hi.out.2; have := hi.out.1; omega)
      have RL := Hide.mk (show rb.length ≤ 1000 by have := read_len1 q x; rw [hre] at this; exact this)
      clear HRD0 hre hrdx hx hlt0
      by_cases h0 : re = 0
      · subst h0
        go_wp2_with (first
          | (go_at_call 57
             with_reducible refine HRD.out.mono ?_
             rintro e w5 ⟨v5, rfl, ho, F5, hs, hg⟩
             obtain ⟨A7, c7, hv7, hi7, hge7⟩ := In.of_own ho
             obtain ⟨n7, hn7⟩ : ∃ z, rb.length = z := ⟨_, rfl⟩
             rw [hn7] at hv7
             subst hv7
             have I7 := Hide.mk hi7
             have N7 := Hide.mk hn7
             have S5 := Hide.mk hs
             have G5 := Hide.mk hg
             have I5 := Hide.mk (hIn.out.moves hg.moves hNo.out)
             have hmx7 := hi7.reads.2.1
             rw [hn7] at hmx7
             clear ho hi7 hge7 hn7 hs hg))
        have hdr := below_drew (Below.refl w5.heap.size w5)
        have HDR := Hide.mk hdr
        obtain ⟨ad2, had2, hc2⟩ := Kd.at_int (I5.out.below hdr).reads (i : Int) (by omega) (by have := N2.out; have := LT.out; omega)
        cases had2
        have hrdx : rd s.ids (i : Int) = x := by
          have : (s.ids.drop i)[0]? = some x := by rw [HX.out]; rfl
          rw [List.getElem?_drop, Nat.add_zero] at this
          simp [rd, List.getD_eq_getElem?_getD, this]
        rw [hrdx, Int.toNat_natCast] at hc2
        have i7 := I7.out.below hdr
        have KC := And.intro hc2 (show (convert 22 9 (.slice A7 n7 c7)).run Tryz.prog w5.drew = .ok (.string (strOfNums rb)) w5.drew from by
          have := N7.out
          subst this
          exact Kd.C_string Tryz.underlying22 Tryz.underlying5 Tryz.underlying9 i7.reads)
        clear hdr hc2 hrdx i7
        refine start_ (n := 24) (S := fun w' => w'.cell? (ad.add i) = some (.int .i64 x) ∧ (convert 22 9 (.slice A7 n7 c7)).run Tryz.prog w' = .ok (.string (strOfNums rb)) w') (ds := []) #[false, false, false, false, false, false, false, false, false, false, false, false, false, false, false, false, false, false, false, false, false, false, false, false] (by kernel_rfl) rfl rfl KC (fun hHeld => ?_); refine with_tabW tab27_9 bits27_9 (fun HT_ HW_ => ?_)
        refine pu_ (i := 0) (N := some 29) (v := ?_) (a' := ?_) (bls 24 1) HT_.out rfl rfl (by kernel_rfl) (by rfl) ?_ ?_ ?_
        rotate_left
        · intro w'; go_simp; with_reducible rfl
        rotate_left
        · simp only [Act.put, qT_, q0_, q1_, i64_w, i32_w]; rfl
        refine pu_ (i := 1) (N := some 30) (v := ?_) (a' := ?_) (bls 24 3) HT_.out rfl rfl (by kernel_rfl) (by rfl) ?_ ?_ ?_
        rotate_left
        · intro w'; go_simp; with_reducible rfl
        rotate_left
        · simp only [Act.put, qT_, q0_, q1_, i64_w, i32_w]; rfl
        refine pu_ (i := 2) (N := some 31) (v := ?_) (a' := ?_) (bls 24 7) HT_.out rfl rfl (by kernel_rfl) (by rfl) ?_ ?_ ?_
        rotate_left
        · intro w'; go_simp; with_reducible rfl
        rotate_left
        · simp only [Act.put, qT_, q0_, q1_, i64_w, i32_w]; rfl
        refine pu_ (i := 3) (N := some 32) (v := ?_) (a' := ?_) (bls 24 15) HT_.out rfl rfl (by kernel_rfl) (by rfl) ?_ ?_ ?_
        rotate_left
        · intro w'; go_simp; with_reducible rfl
        rotate_left
        · simp only [Act.put, qT_, q0_, q1_, i64_w, i32_w]; rfl
        refine take_ (i := 4) (N := some 33) (v := ?_) (a' := ?_) (bls 24 31) rfl rfl (take_ofW HT_.out HW_.out (by kernel_rfl)) (fun _ _ _ h => h) (Or.inl ⟨by rfl, ?_⟩) hHeld ?_ ?_
        rotate_left
        · intro w' hS'
          have s1 := hS'.1
          go_simp
          rfl
        rotate_left
        · simp only [Act.put, qT_, q0_, q1_, i64_w, i32_w]; rfl
        refine pu_ (i := 5) (N := some 34) (v := ?_) (a' := ?_) (bls 24 63) HT_.out rfl rfl (by kernel_rfl) (by rfl) ?_ ?_ ?_
        rotate_left
        · intro w'; go_simp; with_reducible rfl
        rotate_left
        · simp only [Act.put, qT_, q0_, q1_, i64_w, i32_w]; rfl
        refine pu_ (i := 6) (N := some 35) (v := ?_) (a' := ?_) (bls 24 127) HT_.out rfl rfl (by kernel_rfl) (by rfl) ?_ ?_ ?_
        rotate_left
        · intro w'; go_simp; with_reducible rfl
        rotate_left
        · simp only [Act.put, qT_, q0_, q1_, i64_w, i32_w]; rfl
        refine pu_ (i := 7) (N := some 36) (v := ?_) (a' := ?_) (bls 24 255) HT_.out rfl rfl (by kernel_rfl) (by rfl) ?_ ?_ ?_
        rotate_left
        · intro w'; go_simp; with_reducible rfl
        rotate_left
        · simp only [Act.put, qT_, q0_, q1_, i64_w, i32_w]; rfl
        refine pu_ (i := 8) (N := some 37) (v := ?_) (a' := ?_) (bls 24 511) HT_.out rfl rfl (by kernel_rfl) (by rfl) ?_ ?_ ?_
        rotate_left
        · intro w'; go_simp; with_reducible rfl
        rotate_left
        · simp only [Act.put, qT_, q0_, q1_, i64_w, i32_w]; rfl
        refine pu_ (i := 9) (N := some 38) (v := ?_) (a' := ?_) (bls 24 1023) HT_.out rfl rfl (by kernel_rfl) (by rfl) ?_ ?_ ?_
        rotate_left
        · intro w'; go_simp; with_reducible rfl
        rotate_left
        · simp only [Act.put, qT_, q0_, q1_, i64_w, i32_w]; rfl
        refine take_ (i := 10) (N := some 39) (v := ?_) (a' := ?_) (bls 24 2047) rfl rfl (take_ofW HT_.out HW_.out (by kernel_rfl)) (fun _ _ _ h => h) (Or.inl ⟨by rfl, ?_⟩) hHeld ?_ ?_
        rotate_left
        · intro w' hS'
          have s1 := hS'.1
          go_simp
          rfl
        rotate_left
        · simp only [Act.put, qT_, q0_, q1_, i64_w, i32_w]; rfl
        refine pu_ (i := 11) (N := some 40) (v := ?_) (a' := ?_) (bls 24 4095) HT_.out rfl rfl (by kernel_rfl) (by rfl) ?_ ?_ ?_
        rotate_left
        · intro w'; go_simp; with_reducible rfl
        rotate_left
        · simp only [Act.put, qT_, q0_, q1_, i64_w, i32_w]; rfl
        refine pu_ (i := 12) (N := some 41) (v := ?_) (a' := ?_) (bls 24 8191) HT_.out rfl rfl (by kernel_rfl) (by rfl) ?_ ?_ ?_
        rotate_left
        · intro w'; go_simp; with_reducible rfl
        rotate_left
        · simp only [Act.put, qT_, q0_, q1_, i64_w, i32_w]; rfl
        refine pu_ (i := 13) (N := some 42) (v := ?_) (a' := ?_) (bls 24 16383) HT_.out rfl rfl (by kernel_rfl) (by rfl) ?_ ?_ ?_
        rotate_left
        · intro w'; go_simp; with_reducible rfl
        rotate_left
        · simp only [Act.put, qT_, q0_, q1_, i64_w, i32_w]; rfl
        refine pu_ (i := 14) (N := some 43) (v := ?_) (a' := ?_) (bls 24 32767) HT_.out rfl rfl (by kernel_rfl) (by rfl) ?_ ?_ ?_
        rotate_left
        · intro w'; go_simp; with_reducible rfl
        rotate_left
        · simp only [Act.put, qT_, q0_, q1_, i64_w, i32_w]; rfl
        refine pu_ (i := 15) (N := some 44) (v := ?_) (a' := ?_) (bls 24 65535) HT_.out rfl rfl (by kernel_rfl) (by rfl) ?_ ?_ ?_
        rotate_left
        · intro w'; go_simp; with_reducible rfl
        rotate_left
        · simp only [Act.put, qT_, q0_, q1_, i64_w, i32_w]; rfl
        refine pu_ (i := 16) (N := some 45) (v := ?_) (a' := ?_) (bls 24 131071) HT_.out rfl rfl (by kernel_rfl) (by rfl) ?_ ?_ ?_
        rotate_left
        · intro w'; go_simp; with_reducible rfl
        rotate_left
        · simp only [Act.put, qT_, q0_, q1_, i64_w, i32_w]; rfl
        refine pu_ (i := 20) (N := some 49) (v := ?_) (a' := ?_) (bls 24 1179647) HT_.out rfl rfl (by kernel_rfl) (by rfl) ?_ ?_ ?_
        rotate_left
        · intro w'; go_simp; with_reducible rfl
        rotate_left
        · simp only [Act.put, qT_, q0_, q1_, i64_w, i32_w]; rfl
        refine take_ (i := 21) (N := some 50) (v := ?_) (a' := ?_) (bls 24 3276799) rfl rfl (take_ofW HT_.out HW_.out (by kernel_rfl)) (fun _ _ _ h => h) (Or.inl ⟨by rfl, ?_⟩) hHeld ?_ ?_
        rotate_left
        · intro w' hS'
          have s1 := by first | exact hS'.2.1 | exact hS'.2
          go_simp
          rfl
        rotate_left
        · simp only [Act.put, qT_, q0_, q1_, i64_w, i32_w]; rfl
        refine one_ (i := 17) (N := some 46) (bls 24 3407871) rfl rfl (one_of HT_.out (by kernel_rfl)) (by decide) (fun K hK => ?_)
        obtain ⟨W1, hW1⟩ : ∃ W, w5.drew.alloc (.cells (encB [byteI (x / 256), byteI x, byteI rk, byteI (n7 : Int)]) 5) = W := ⟨_, rfl⟩
        have hB1 : Below w5.drew.heap.size w5.drew W1 := by rw [← hW1]; exact (Below.refl _ _).alloc (Nat.le_refl _) _
        have row1 : W1.heap[w5.heap.size]? = some (.cells (encB [byteI (x / 256), byteI x, byteI rk, byteI (n7 : Int)]) 5 (0, 0)) := by rw [← hW1]; exact heap_last w5.drew _
        have cv1 : (convert 22 9 (.slice (some ⟨w5.heap.size, 0, none⟩) 4 4)).run Tryz.prog W1 = .ok (.string (strOfNums [byteI (x / 256), byteI x, byteI rk, byteI (n7 : Int)])) W1 := Kd.C_string Tryz.underlying22 Tryz.underlying5 Tryz.underlying9 (C_of_rowF (l := [byteI (x / 256), byteI x, byteI rk, byteI (n7 : Int)]) row1 (by simp))
        have cv7 : (convert 22 9 (.slice A7 n7 c7)).run Tryz.prog W1 = .ok (.string (strOfNums rb)) W1 := by have h7 := (I7.out.below (HDR.out)).below hB1; have := N7.out; subst this; exact Kd.C_string Tryz.underlying22 Tryz.underlying5 Tryz.underlying9 h7.reads
        have K1 := And.intro (pw_cell_below hB1 KC.1) (And.intro cv7 cv1)
        have BW1 := Hide.mk hB1
        have KS := And.intro K1.1 K1.2.1
        refine value_ (v := .slice (some ⟨w5.heap.size, 0, none⟩) 4 4) (w1 := W1) (by rfl) rfl ?_ ?_
        · go_simp
          exact hW1
        refine hK.out _ _ KS (fun hHeld => ?_)
        clear hK K
        refine norm_ (a' := ?_) ?_ ?_
        rotate_left
        · show Act.put _ (some 46) _ = _; simp only [Act.put, qT_, q0_, q1_, i64_w, i32_w]; rfl
        have hHeld2 : (fun w' => w'.cell? (ad.add i) = some (.int .i64 x) ∧ (convert 22 9 (.slice A7 n7 c7)).run Tryz.prog w' = .ok (.string (strOfNums rb)) w' ∧ (convert 22 9 (.slice (some ⟨w5.heap.size, 0, none⟩) 4 4)).run Tryz.prog w' = .ok (.string (strOfNums [byteI (x / 256), byteI x, byteI rk, byteI (n7 : Int)])) w') _ := K1
        refine swapS (S' := fun w' => w'.cell? (ad.add i) = some (.int .i64 x) ∧ (convert 22 9 (.slice A7 n7 c7)).run Tryz.prog w' = .ok (.string (strOfNums rb)) w' ∧ (convert 22 9 (.slice (some ⟨w5.heap.size, 0, none⟩) 4 4)).run Tryz.prog w' = .ok (.string (strOfNums [byteI (x / 256), byteI x, byteI rk, byteI (n7 : Int)])) w') (fun w' h => ⟨h.1, h.2.1⟩) _ _ _ _ hHeld2 ?_
        clear hHeld
        have hHeld := hHeld2
        clear hHeld2
        refine take_ (i := 18) (N := some 47) (v := ?_) (a' := ?_) (bls 24 3670015) rfl rfl (take_ofW HT_.out HW_.out (by kernel_rfl)) (fun _ _ _ h => h) (Or.inl ⟨by rfl, ?_⟩) hHeld ?_ ?_
        rotate_left
        · intro w' hS'
          have s1 := hS'.2.2
          go_simp
          rfl
        rotate_left
        · simp only [Act.put, qT_, q0_, q1_, i64_w, i32_w]; rfl
        refine pu_ (i := 19) (N := some 48) (v := ?_) (a' := ?_) (bls 24 4194303) HT_.out rfl rfl (by kernel_rfl) (by rfl) ?_ ?_ ?_
        rotate_left
        · intro w'
          go_simp
          rw [if_neg (by rw [strOfNums_size, strOfNums_size]; have := OL.out; simp only [List.length_cons, List.length_nil]; omega), str_append]
        rotate_left
        · simp only [Act.put, qT_, q0_, q1_, i64_w, i32_w]; rfl
        refine pu_ (i := 22) (N := some 51) (v := ?_) (a' := ?_) (bls 24 8388607) HT_.out rfl rfl (by kernel_rfl) (by rfl) ?_ ?_ ?_
        rotate_left
        · intro w'
          go_simp
          rw [if_neg (by rw [strOfNums_size, strOfNums_size]; have := OL.out; have := RL.out; simp only [List.length_append, List.length_cons, List.length_nil]; omega), str_append]
        rotate_left
        · simp only [Act.put, qT_, q0_, q1_, i64_w, i32_w]; rfl
        refine pu_ (i := 23) (N := some 4) (v := ?_) (a' := ?_) (bls 24 16777215) HT_.out rfl rfl (by kernel_rfl) (by rfl) ?_ ?_ ?_
        rotate_left
        · intro w'; go_simp; with_reducible rfl
        rotate_left
        · simp only [Act.put, qT_, q0_, q1_, i64_w, i32_w]; rfl
        refine done_ (done_of HT_.out (by kernel_rfl)) ?_
        clear hHeld
        go_wp2
        go_roundw
        case rel =>
          refine ⟨i + 1, q2, _, F5, by go_num, rfl, ⟨by have := LT.out; omega, ?_⟩, ⟨(S5.out.below HDR.out).below BW1.out⟩, ⟨(hG.out.trans G5.out).trans (Goes.below (HDR.out.trans (BW1.out.mono HDR.out.size)))⟩, ⟨?_⟩, ⟨?_⟩, ⟨?_⟩, ⟨(I5.out.below HDR.out).below BW1.out⟩, ⟨?_⟩⟩
          · have h1 := hi.out.2
            have h2 := RL.out
            simp only [List.length_append, List.length_cons]
            omega
          · have := hOk.out.read x
            rw [HRE.out] at this
            exact this
          · have := DB.readS hDb.out x
            rw [HRE.out] at this
            exact this
          · rw [hE.out, HX.out, imgF, HRE.out, if_neg (by simp)]
            simp [N7.out]
          · intro a ha hx
            rcases G5.out.own _ hx with e | e
            · exact hNo.out a ha e
            · have := hIn.out.lt a ha
              omega
        case measure => have := LT.out; simp [intOf]; omega
      · have q0 : (re != 0) = true := by simp [h0]
        go_wp2_with (first
          | (go_at_call 57
             with_reducible refine HRD.out.mono ?_
             rintro e w5 ⟨v5, rfl, ho, F5, hs, hg⟩
             obtain ⟨A7, c7, hv7, hi7, hge7⟩ := In.of_own ho
             subst hv7
             have S5 := Hide.mk hs
             have G5 := Hide.mk hg
             clear ho hi7 hge7 hs hg))
        go_ret
        have e1 : imgF s.ids s [] = (q2, [110, 111, 110, 101], false) := by rw [hE.out, HX.out, imgF, HRE.out, if_pos h0]
        unfold Sh.image
        rw [e1]
        exact ⟨rfl, F5, S5.out, hG.out.trans G5.out⟩
    · have hlt : ¬ (i : Int) < (n2 : Int) := by omega
      have e1 : imgF s.ids s [] = (q, out, true) := by
        rw [hE.out, List.drop_eq_nil_of_le (by have := N2.out; omega)]
        rfl
      have HE1 := Hide.mk e1
      have HST0 := start_any wr F3 q hS.out
      rw [hG.out.p] at HST0
      have HST := Hide.mk HST0
      have BW := Hide.mk ((Below.refl wr.heap.size wr).alloc (Nat.le_refl _) (.cells (encB [q.start / 256 % 256, q.start % 256]) 5))
      have cv : (convert 22 9 (.slice (some ⟨wr.heap.size, 0, none⟩) 2 2)).run Tryz.prog (wr.alloc (.cells #[.int .u8 (q.start / 256 % 256), .int .u8 (q.start % 256)] 5)) = .ok (.string (strOfNums [q.start / 256 % 256, q.start % 256])) (wr.alloc (.cells #[.int .u8 (q.start / 256 % 256), .int .u8 (q.start % 256)] 5)) :=
        Kd.C_string Tryz.underlying22 Tryz.underlying5 Tryz.underlying9 (C_of_rowF (l := [q.start / 256 % 256, q.start % 256]) (heap_last wr (.cells (encB [q.start / 256 % 256, q.start % 256]) 5)) (by simp))
      have hsz : ¬ 9223372036854775807 < (strOfNums out).size + (strOfNums [q.start / 256 % 256, q.start % 256]).size := by
        rw [strOfNums_size, strOfNums_size]
        have := hi.out.2
        have := hi.out.1
        simp only [List.length_cons, List.length_nil]
        omega
      clear e1 HST0 hlt0
      go_wp2_with (first
        | (go_at_call 70
           with_reducible refine HST.out.mono ?_
           rintro e w6 ⟨rfl, hw6⟩
           have hw7 := hw6.symm
           subst hw7))
      go_ret
      unfold Sh.image
      rw [HE1.out, if_neg (by simp)]
      simp only [byteI, IntKind.wrap_u8]
      rw [← str_append]
      exact ⟨rfl, F3, hS.out.below BW.out, hG.out.trans (Goes.below BW.out)⟩
end Go.Proofs.YtgmkbcoahilkhaaGreat.Sh
end
section
namespace Go.Proofs.YtgmkbcoahilkhaaGreat.Sh
open Go.RowKit YtgmkbcoahilkhaaGreatW.PrintWords YtgmkbcoahilkhaaGreatW.PrintLast YtgmkbcoahilkhaaGreatW.PrintMore MapFn Disk Page Num Bitset
set_option maxRecDepth 100000
def imgP (g : Int → List Int) (t : List Int) (id : Int) : List Int :=
  [byteI (id / 256), byteI id, byteI (openL (g (t.getD id.toNat 0))).1, byteI (openL (g (t.getD id.toNat 0))).2.2.1.length] ++ (openL (g (t.getD id.toNat 0))).2.2.1
def imgOf (g : Int → List Int) (t : List Int) (start : Int) : List Int := (idsF t 0).flatMap (imgP g t) ++ [byteI (start / 256), byteI start]
theorem flatMap_same {α : Type} {f g : α → List Int} : ∀ {l : List α}, (∀ x ∈ l, f x = g x) → l.flatMap f = l.flatMap g
  | [], _ => rfl
  | x :: r, h => by rw [List.flatMap_cons, List.flatMap_cons, h x (by simp), flatMap_same fun y hy => h y (by simp [hy])]
theorem ids_of {t : List Int} {x : Int} (h : x ∈ idsF t 0) : ∃ j : Nat, x = (j : Int) ∧ t.getD j 0 ≠ 0 := by
  obtain ⟨j, h1, h2, h3⟩ := (ids_mem t 0 x).1 h
  exact ⟨j, by omega, h2⟩
theorem imgOf_same {g g' : Int → List Int} {t : List Int} (start : Int) (h : ∀ i, t.getD i 0 ≠ 0 → g' (t.getD i 0) = g (t.getD i 0)) : imgOf g' t start = imgOf g t start := by
  unfold imgOf
  rw [flatMap_same (f := imgP g' t) (g := imgP g t) fun x hx => by
    obtain ⟨j, rfl, hj⟩ := ids_of hx
    unfold imgP
    rw [Int.toNat_natCast, h j hj]]
theorem Inv.reads {N : Int} {s : Sh} (h : Inv N s) (k : Int) : Inv N ({ s with D := { s.D with reads := k } } : Sh) :=
  ⟨h.bad, h.up, h.blocks, h.fit, h.hold, h.used, h.len, h.zero, h.last, h.ent, h.inj, h.page, h.freshB, h.fresh, h.start, h.clean, h.loose⟩
theorem Inv.at_ {N : Int} {s : Sh} (h : Inv N s) {n : Int} (h0 : 0 ≤ n) (h1 : n < N) : s.D.at_ n = 0 := by
  unfold DiskSt.at_
  rw [h.up, if_neg (by simp), if_neg (by rw [h.blocks]; omega)]
theorem Inv.read {N : Int} {s : Sh} (h : Inv N s) {j : Nat} (hj : s.table.getD j 0 ≠ 0) :
    s.read (j : Int) = ({ s with D := s.D.read }, (openL (s.D.get (s.table.getD j 0))).1, (openL (s.D.get (s.table.getD j 0))).2.2.1, 0) := by
  obtain ⟨n, e1, e2, e3, _⟩ := h.ent j hj
  obtain ⟨k, b, q1, q2, q3⟩ := h.page j hj
  have hb : s.block (j : Int) = (s.table.getD j 0, 0) := by
    unfold Sh.block
    rw [if_neg (by rw [h.alive]; simp), if_neg, Int.toNat_natCast]
    rintro (c | c | c)
    · have : j = 0 := by omega
      rw [this] at hj
      exact hj h.zero
    · have := (mem_getD hj).2
      omega
    · rw [Int.toNat_natCast] at c
      exact hj c
  unfold Sh.read
  rw [hb]
  simp only
  rw [if_neg (by simp), if_neg (by rw [h.at_ (by omega) (by omega)]; simp), q3, open_seal k j b q2 q1]
  simp
theorem imgF_inv {N : Int} : ∀ (ids : List Int) (s : Sh) (out : List Int), Inv N s → (∀ x ∈ ids, ∃ j : Nat, x = (j : Int) ∧ s.table.getD j 0 ≠ 0) → ∃ k, imgF ids s out = ({ s with D := { s.D with reads := k } }, out ++ ids.flatMap (imgP s.D.get s.table), true)
  | [], s, out, h, _ => ⟨s.D.reads, by simp [imgF]⟩
  | x :: r, s, out, h, hx => by
    obtain ⟨j, rfl, hj⟩ := hx x (by simp)
    have hr := h.read hj
    obtain ⟨k, e⟩ := imgF_inv r ({ s with D := s.D.read } : Sh) (out ++ imgP s.D.get s.table (j : Int)) (h.reads _) (fun y hy => hx y (by simp [hy]))
    refine ⟨k, ?_⟩
    rw [imgF, hr]
    simp only
    rw [if_neg (by simp)]
    have e0 : out ++ [byteI ((j : Int) / 256), byteI (j : Int), byteI (openL (s.D.get (s.table.getD j 0))).1, byteI (openL (s.D.get (s.table.getD j 0))).2.2.1.length] ++ (openL (s.D.get (s.table.getD j 0))).2.2.1 = out ++ imgP s.D.get s.table (j : Int) := by
      unfold imgP
      rw [Int.toNat_natCast, List.append_assoc]
    rw [e0, e, List.flatMap_cons]
    simp only [List.append_assoc]
    rfl
theorem image_inv {N : Int} {s : Sh} (h : Inv N s) : ∃ k, s.image = ({ s with D := { s.D with reads := k } }, imgOf s.D.get s.table s.start) := by
  obtain ⟨k, e⟩ := imgF_inv s.ids s [] h (fun x hx => ids_of hx)
  refine ⟨k, ?_⟩
  unfold Sh.image
  rw [e, if_neg (by simp)]
  simp only [List.nil_append]
  rfl
theorem Inv.ok {N : Int} {s : Sh} (h : Inv N s) : Ok s := by
  have hN := h.fit.range
  have hl := clampN_le N
  have hcl := check_len h.fit.check
  have hcr := check_range h.fit.check
  have hw := h.fit.len
  refine ⟨⟨by rw [h.usedB.2, emptyB_len]; exact hl, h.usedB.1⟩, ⟨by rw [h.freshB.2, emptyB_len]; exact hl, h.freshB.1⟩, ⟨h.len.1, h.len.2, fun n hn => ?_⟩, ⟨h.fit.pos, by omega, fun n hn => ?_⟩, ⟨by rw [h.fit.blocks]; omega, by rw [h.fit.blocks]; omega⟩, hcr.1, by omega, by omega⟩
  · by_cases c : n = 0
    · omega
    · obtain ⟨i, _, e⟩ := getD_mem hn
      obtain ⟨m, e1, e2, e3, _⟩ := h.ent i (by rw [e]; exact c)
      omega
  · rcases h.fit.ent n hn with q | q <;> omega
end Go.Proofs.YtgmkbcoahilkhaaGreat.Sh
end
section
namespace Go.Proofs.YtgmkbcoahilkhaaGreat.Sh
open Go.RowKit YtgmkbcoahilkhaaGreatW.PrintWords YtgmkbcoahilkhaaGreatW.PrintLast YtgmkbcoahilkhaaGreatW.PrintMore MapFn Disk Bitset Page
set_option maxHeartbeats 8000000
set_option maxRecDepth 100000
theorem block_facts {s : Sh} (hk : Ok s) {id : Int} (h : (s.block id).2 = 0) : 1 ≤ id ∧ id < (s.table.length : Int) ∧ 0 ≤ (s.block id).1 ∧ (s.block id).1 < 4096 ∧ (s.block id).1 = s.table.getD id.toNat 0 ∧ (s.block id).1 ≠ 0 := by
  unfold Sh.block at h ⊢
  split at h
  · exact absurd h (by assumption)
  · rename_i h1
    rw [if_neg h1]
    split at h
    · cases h
    · rename_i h2
      rw [if_neg h2]
      have hlt : id.toNat < s.table.length := by omega
      have := hk.table.2.2 (s.table.getD id.toNat 0) (by rw [List.getD_eq_getElem?_getD, List.getElem?_eq_getElem hlt]; exact List.getElem_mem hlt)
      exact ⟨by omega, by omega, this.1, this.2, rfl, fun e => h2 (.inr (.inr e))⟩
theorem shwrite_any (id kind : Int) (A : Option Addr) (c : Nat) (body : List Int) (w : World) (F : Foot) (s : Sh) (h : ShAt w F s) (hk : Ok s) (hr : InW .u8 w A body c) (hb : Bytes body) :
    Calls Tryz.prog 29 #[.pointer (some ⟨F.p, 0, none⟩), .int .i64 id, .int .i64 kind, .slice A body.length c] w fun en w' => en = .returned (.int .i64 (s.write id kind body).2) ∧ ∃ F', ShAt w' F' (s.write id kind body).1 ∧ Goes F F' w w' := by
  have HBL := Hide.mk (block_any id h)
  have HS := Hide.mk h
  have HK := Hide.mk hk
  have HR := Hide.mk hr
  have HB := Hide.mk hb
  have HFR : Hide (Small s.fresh ∧ Bytes s.fresh) := ⟨⟨by have := hk.fresh.1; unfold Small; omega, hk.fresh.2⟩⟩
  obtain ⟨R, hR⟩ : ∃ R, s.write id kind body = R := ⟨_, rfl⟩
  rw [hR]
  unfold Sh.write at hR
  have hbf := fun e => block_facts hk (id := id) e
  obtain ⟨x, e0, hx⟩ : ∃ x e, s.block id = (x, e) := ⟨_, _, rfl⟩
  rw [hx] at HBL hR hbf
  simp only at HBL hR hbf
  clear h hk hr hb hx
  by_cases h0 : e0 = 0
  · subst h0
    rw [if_neg (by simp)] at hR
    obtain ⟨q1, q2, q3, q4, q5, q6⟩ := hbf rfl
    obtain ⟨k, hk0⟩ : ∃ k : Nat, id = (k : Int) := ⟨id.toNat, by omega⟩
    subst hk0
    have HID5 : Hide (k ≤ 5000) := ⟨by have := HK.out.table.2.1; omega⟩
    have HX := Hide.mk (wf_small q3 q4)
    clear hbf q1 q2 q3 q4 q5 q6
    by_cases h1 : sealE kind (k : Int) body.length = 0
    · rw [if_neg (by simpa using h1)] at hR
      have HSE := Hide.mk (seal_ok kind (k : Int) A c body w HR.out.reads HB.out h1)
      obtain ⟨fx, hfx⟩ : ∃ b, hasL s.fresh x = b := ⟨_, rfl⟩
      have HXE := Hide.mk hfx
      rw [hfx] at hR
      cases fx
      · rw [if_neg (by simp)] at hR
        cases hl : s.lowest 1 with
        | none =>
          rw [hl] at hR
          simp only at hR
          have HL := Hide.mk hl
          have HRR := Hide.mk hR.symm
          clear hR hl h1 hfx
          go_enter Tryz.func29, Tryz.ntmps29
          go_wp2_with (first
            | (go_at_call 64
               with_reducible refine HBL.out.mono ?_
               rintro e w0 ⟨rfl, hw0⟩
               have hw1 := hw0.symm
               subst hw1)
            | (go_at_call 60
               with_reducible refine HSE.out.mono ?_
               rintro e w4 ⟨v4, rfl, ho, hb4⟩
               obtain ⟨A4, c4, hv, hi4, hge4⟩ := In.of_own ho
               obtain ⟨n4, hn4⟩ : ∃ n, (sealL kind (k : Int) body).length = n := ⟨_, rfl⟩
               rw [hn4] at hv
               subst hv
               have S4 := Hide.mk (HS.out.below hb4)
               have B4 := Hide.mk hb4
               have I4 := Hide.mk hi4
               have HN4 := Hide.mk hn4
               have c12 := S4.out.cells.c12
               have HHS0 := has_any S4.out.fresh.inB HFR.out.1 HFR.out.2 x
               rw [HXE.out] at HHS0
               have HHS := Hide.mk HHS0
               clear ho hb4 hi4 hge4 hn4 HHS0)
            | (go_at_call 71
               with_reducible refine HHS.out.mono ?_
               rintro e w5 ⟨rfl, hd⟩
               have S5 := Hide.mk (S4.out.below hd.below)
               have B5 := Hide.mk (B4.out.trans (hd.below.mono B4.out.size))
               have I5 := Hide.mk (I4.out.below hd.below)
               have HLO := Hide.mk (lowest_any 1 (by omega) F s w5 S5.out HK.out)
               clear hd)
            | (go_at_call 61
               refine HLO.out.mono ?_
               rintro e w6 ⟨v6, rfl, ho, hb6⟩
               rw [HL.out] at ho ⊢
               have B6 := Hide.mk (B5.out.trans (hb6.mono B5.out.size))
               have S6 := Hide.mk (S5.out.below hb6)
               clear ho hb6))
          go_ret
          rw [HRR.out]
          exact ⟨rfl, F, S6.out, Goes.below B6.out⟩
        | some l =>
          rw [hl] at hR
          have hlf := lowest_facts HK.out hl
          obtain ⟨x0, rfl⟩ : ∃ x0, l = [x0] := List.length_eq_one_iff.1 hlf.1
          have hx0b := hlf.2 x0 (by simp)
          simp only [List.getD_cons_zero] at hR
          obtain ⟨sp, ep, hPL⟩ : ∃ sp ep, s.place k x0 (sealL kind (k : Int) body) = (sp, ep) := ⟨_, _, rfl⟩
          rw [hPL] at hR
          have HPLE := Hide.mk hPL
          have HWX := Hide.mk (wf_small hx0b.1 hx0b.2)
          have HL := Hide.mk hl
          have HRR := Hide.mk hR.symm
          clear hR hl h1 hlf hx0b hPL hfx
          go_enter Tryz.func29, Tryz.ntmps29
          go_wp2_with (first
            | (go_at_call 64
               with_reducible refine HBL.out.mono ?_
               rintro e w0 ⟨rfl, hw0⟩
               have hw1 := hw0.symm
               subst hw1)
            | (go_at_call 60
               with_reducible refine HSE.out.mono ?_
               rintro e w4 ⟨v4, rfl, ho, hb4⟩
               obtain ⟨A4, c4, hv, hi4, hge4⟩ := In.of_own ho
               obtain ⟨n4, hn4⟩ : ∃ n, (sealL kind (k : Int) body).length = n := ⟨_, rfl⟩
               rw [hn4] at hv
               subst hv
               have S4 := Hide.mk (HS.out.below hb4)
               have B4 := Hide.mk hb4
               have I4 := Hide.mk hi4
               have HN4 := Hide.mk hn4
               have c12 := S4.out.cells.c12
               have HHS0 := has_any S4.out.fresh.inB HFR.out.1 HFR.out.2 x
               rw [HXE.out] at HHS0
               have HHS := Hide.mk HHS0
               clear ho hb4 hi4 hge4 hn4 HHS0)
            | (go_at_call 71
               with_reducible refine HHS.out.mono ?_
               rintro e w5 ⟨rfl, hd⟩
               have S5 := Hide.mk (S4.out.below hd.below)
               have B5 := Hide.mk (B4.out.trans (hd.below.mono B4.out.size))
               have I5 := Hide.mk (I4.out.below hd.below)
               have HLO := Hide.mk (lowest_any 1 (by omega) F s w5 S5.out HK.out)
               clear hd)
            | (go_at_call 61
               refine HLO.out.mono ?_
               rintro e w6 ⟨v6, rfl, ho, hb6⟩
               rw [HL.out] at ho ⊢
               obtain ⟨A6, c6, hv6, hi6, hge6⟩ := In.of_own ho
               have hv6' : v6 = .slice A6 1 c6 := hv6
               subst hv6'
               obtain ⟨g6, off6, hA6, hc6⟩ := at_one hi6.reads
               subst hA6
               have B6 := Hide.mk (B5.out.trans (hb6.mono B5.out.size))
               have S6 := Hide.mk (S5.out.below hb6)
               have I6 := Hide.mk (I5.out.below hb6)
               have HPL0 := place_any k x0 A4 c4 (sealL kind (k : Int) body) w6 F s S6.out HK.out HWX.out I6.out.reads HID5.out
               rw [HPLE.out, HN4.out] at HPL0
               have HPL := Hide.mk HPL0
               clear HPL0
               clear ho hb6 hi6 hge6 hv6)
            | (go_at_call 62
               with_reducible refine HPL.out.mono ?_
               rintro e w7 ⟨rfl, F7, hs7, hg7⟩
               have S7 := Hide.mk hs7
               have G7 := Hide.mk hg7
               clear hs7 hg7))
          go_ret
          rw [HRR.out]
          exact ⟨rfl, F7, S7.out, (Goes.below B6.out).trans G7.out⟩
      · rw [if_pos rfl] at hR
        obtain ⟨sp, ep, hPL⟩ : ∃ sp ep, s.place k x (sealL kind (k : Int) body) = (sp, ep) := ⟨_, _, rfl⟩
        rw [hPL] at hR
        have HPLE := Hide.mk hPL
        have HWX := HX
        have HRR := Hide.mk hR.symm
        clear hR h1 hPL hfx
        go_enter Tryz.func29, Tryz.ntmps29
        go_wp2_with (first
          | (go_at_call 64
             with_reducible refine HBL.out.mono ?_
             rintro e w0 ⟨rfl, hw0⟩
             have hw1 := hw0.symm
             subst hw1)
          | (go_at_call 60
             with_reducible refine HSE.out.mono ?_
             rintro e w4 ⟨v4, rfl, ho, hb4⟩
             obtain ⟨A4, c4, hv, hi4, hge4⟩ := In.of_own ho
             obtain ⟨n4, hn4⟩ : ∃ n, (sealL kind (k : Int) body).length = n := ⟨_, rfl⟩
             rw [hn4] at hv
             subst hv
             have S4 := Hide.mk (HS.out.below hb4)
             have B4 := Hide.mk hb4
             have I4 := Hide.mk hi4
             have HN4 := Hide.mk hn4
             have c12 := S4.out.cells.c12
             have HHS0 := has_any S4.out.fresh.inB HFR.out.1 HFR.out.2 x
             rw [HXE.out] at HHS0
             have HHS := Hide.mk HHS0
             clear ho hb4 hi4 hge4 hn4 HHS0)
          | (go_at_call 71
             with_reducible refine HHS.out.mono ?_
             rintro e w5 ⟨rfl, hd⟩
             have S5 := Hide.mk (S4.out.below hd.below)
             have B5 := Hide.mk (B4.out.trans (hd.below.mono B4.out.size))
             have I5 := Hide.mk (I4.out.below hd.below)
             have HPL0 := place_any k x A4 c4 (sealL kind (k : Int) body) w5 F s S5.out HK.out HWX.out I5.out.reads HID5.out
             rw [HPLE.out, HN4.out] at HPL0
             have HPL := Hide.mk HPL0
             clear HPL0
             clear hd)
          | (go_at_call 62
             with_reducible refine HPL.out.mono ?_
             rintro e w7 ⟨rfl, F7, hs7, hg7⟩
             have S7 := Hide.mk hs7
             have G7 := Hide.mk hg7
             clear hs7 hg7))
        go_ret
        rw [HRR.out]
        exact ⟨rfl, F7, S7.out, (Goes.below B5.out).trans G7.out⟩
    · rw [if_pos h1] at hR
      have HSE := Hide.mk (seal_bad kind (k : Int) A c body.length w h1)
      obtain ⟨E, hE⟩ : ∃ E, sealE kind (k : Int) body.length = E := ⟨_, rfl⟩
      rw [hE] at HSE hR h1
      have q2 : (E != 0) = true := by simp [h1]
      have HRR := Hide.mk hR.symm
      clear hR h1 hE
      go_enter Tryz.func29, Tryz.ntmps29
      go_wp2_with (first
        | (go_at_call 64
           with_reducible refine HBL.out.mono ?_
           rintro e w0 ⟨rfl, hw0⟩
           have hw1 := hw0.symm
           subst hw1)
        | (go_at_call 60
           with_reducible refine HSE.out.mono ?_
           rintro e w4 ⟨rfl, hb4⟩
           have B4 := Hide.mk hb4
           clear hb4))
      go_ret
      rw [HRR.out]
      exact ⟨rfl, F, HS.out.below B4.out, Goes.below B4.out⟩
  · rw [if_pos h0] at hR
    have q : (e0 != 0) = true := by simp [h0]
    have HRR := Hide.mk hR.symm
    clear h0 hR hbf
    go_enter Tryz.func29, Tryz.ntmps29
    go_wp2_with (first
      | (go_at_call 64
         with_reducible refine HBL.out.mono ?_
         rintro e w0 ⟨rfl, hw0⟩
         have hw1 := hw0.symm
         subst hw1))
    go_ret
    rw [HRR.out]
    exact ⟨rfl, F, HS.out, Goes.refl _ _⟩
theorem setStart_any (id : Int) (w : World) (F : Foot) (s : Sh) (h : ShAt w F s) :
    Calls Tryz.prog 28 #[.pointer (some ⟨F.p, 0, none⟩), .int .i64 id] w fun en w' => en = .returned (.int .i64 (s.setStart id).2) ∧ ∃ F', ShAt w' F' (s.setStart id).1 ∧ Goes F F' w w' := by
  have HBL := Hide.mk (block_any id h)
  have HA := Hide.mk (alive_any h)
  have HS := Hide.mk h
  obtain ⟨R, hR⟩ : ∃ R, s.setStart id = R := ⟨_, rfl⟩
  rw [hR]
  unfold Sh.setStart at hR
  obtain ⟨a, ha⟩ : ∃ a, s.alive = a := ⟨_, rfl⟩
  obtain ⟨x, e0, hx⟩ : ∃ x e, s.block id = (x, e) := ⟨_, _, rfl⟩
  rw [ha] at HA hR
  rw [hx] at HBL hR
  simp only at HBL hR
  have c13 := h.cells.c13
  have c11 := h.cells.c11
  have f13 := h.free_ 13
  have f11 := h.free_ 11
  clear h ha hx
  by_cases h0 : a = 0
  · subst h0
    rw [if_neg (by simp)] at hR
    by_cases h1 : id ≠ 0 ∧ e0 ≠ 0
    · rw [if_pos h1] at hR
      have HRR := Hide.mk hR.symm
      have q1 : (id != 0) = true := by simp [h1.1]
      have q2 : (e0 != 0) = true := by simp [h1.2]
      clear hR h1
      go_enter Tryz.func28, Tryz.ntmps28
      go_wp2_with (first
        | (go_at_call 59
           refine HA.out.mono ?_
           rintro e w1 ⟨rfl, hw1⟩
           have hw2 := hw1.symm
           subst hw2)
        | (go_at_call 64
           refine HBL.out.mono ?_
           rintro e w1 ⟨rfl, hw1⟩
           have hw2 := hw1.symm
           subst hw2))
      go_ret
      rw [HRR.out]
      exact ⟨rfl, F, HS.out, Goes.refl _ _⟩
    · rw [if_neg h1] at hR
      have HRR := Hide.mk hR.symm
      obtain ⟨d, hd⟩ : ∃ d, (s.dirty || (id != s.start)) = d := ⟨_, rfl⟩
      have t1 := HS.out.set 13 (.bool d) (s' := { s with dirty := d }) rfl rfl rfl rfl rfl rfl rfl rfl
      have t2 := t1.1.set 11 (.int .i64 id) (s' := { s with dirty := d, start := id }) rfl rfl rfl rfl rfl rfl rfl rfl
      have T2 := Hide.mk (And.intro t2.1 (t1.2.trans t2.2))
      have f11' := t1.1.free_ 11
      have HD := Hide.mk hd
      clear hR t1 t2
      by_cases hz : id = 0
      · have q1 : (id != 0) = false := by simp [hz]
        cases hdd : s.dirty with
        | true =>
          rw [hdd] at c13 hd
          have hd1 : d = true := by rw [← hd]; rfl
          subst hd1
          clear hd hz h1 hdd
          go_enter Tryz.func28, Tryz.ntmps28
          go_wp2_with (first
            | (go_at_call 59
               refine HA.out.mono ?_
               rintro e w1 ⟨rfl, hw1⟩
               have hw2 := hw1.symm
               subst hw2)
            | (go_at_call 64
               refine HBL.out.mono ?_
               rintro e w1 ⟨rfl, hw1⟩
               have hw2 := hw1.symm
               subst hw2))
          go_ret
          rw [HRR.out]
          exact ⟨rfl, F, by first | exact T2.out.1 | (rw [HD.out]; exact T2.out.1), T2.out.2⟩
        | false =>
          rw [hdd] at c13 hd
          have hd1 : (id != s.start) = d := by rw [← hd]; simp
          clear hd hz h1 hdd
          go_enter Tryz.func28, Tryz.ntmps28
          go_wp2_with (first
            | (go_at_call 59
               refine HA.out.mono ?_
               rintro e w1 ⟨rfl, hw1⟩
               have hw2 := hw1.symm
               subst hw2)
            | (go_at_call 64
               refine HBL.out.mono ?_
               rintro e w1 ⟨rfl, hw1⟩
               have hw2 := hw1.symm
               subst hw2))
          go_ret
          rw [HRR.out]
          exact ⟨rfl, F, by first | exact T2.out.1 | (rw [HD.out]; exact T2.out.1), T2.out.2⟩
      · have q1 : (id != 0) = true := by simp [hz]
        have he : e0 = 0 := by
          rcases Decidable.em (e0 = 0) with q | q
          · exact q
          · exact absurd ⟨hz, q⟩ h1
        subst he
        cases hdd : s.dirty with
        | true =>
          rw [hdd] at c13 hd
          have hd1 : d = true := by rw [← hd]; rfl
          subst hd1
          clear hd hz h1 hdd
          go_enter Tryz.func28, Tryz.ntmps28
          go_wp2_with (first
            | (go_at_call 59
               refine HA.out.mono ?_
               rintro e w1 ⟨rfl, hw1⟩
               have hw2 := hw1.symm
               subst hw2)
            | (go_at_call 64
               refine HBL.out.mono ?_
               rintro e w1 ⟨rfl, hw1⟩
               have hw2 := hw1.symm
               subst hw2))
          go_ret
          rw [HRR.out]
          exact ⟨rfl, F, by first | exact T2.out.1 | (rw [HD.out]; exact T2.out.1), T2.out.2⟩
        | false =>
          rw [hdd] at c13 hd
          have hd1 : (id != s.start) = d := by rw [← hd]; simp
          clear hd hz h1 hdd
          go_enter Tryz.func28, Tryz.ntmps28
          go_wp2_with (first
            | (go_at_call 59
               refine HA.out.mono ?_
               rintro e w1 ⟨rfl, hw1⟩
               have hw2 := hw1.symm
               subst hw2)
            | (go_at_call 64
               refine HBL.out.mono ?_
               rintro e w1 ⟨rfl, hw1⟩
               have hw2 := hw1.symm
               subst hw2))
          go_ret
          rw [HRR.out]
          exact ⟨rfl, F, by first | exact T2.out.1 | (rw [HD.out]; exact T2.out.1), T2.out.2⟩
  · rw [if_pos h0] at hR
    have q : (a != 0) = true := by simp [h0]
    have HRR := Hide.mk hR.symm
    clear h0 hR
    go_enter Tryz.func28, Tryz.ntmps28
    go_wp2_with (first
      | (go_at_call 59
         refine HA.out.mono ?_
         rintro e w1 ⟨rfl, hw1⟩
         have hw2 := hw1.symm
         subst hw2))
    go_ret
    rw [HRR.out]
    exact ⟨rfl, F, HS.out, Goes.refl _ _⟩
section
variable {w wr w' : World} {p pd : Nat} {s : Sh}
end
end Go.Proofs.YtgmkbcoahilkhaaGreat.Sh
end
section
namespace Go.Proofs.YtgmkbcoahilkhaaGreat.Sh
open Go.RowKit YtgmkbcoahilkhaaGreatW.PrintWords YtgmkbcoahilkhaaGreatW.PrintLast YtgmkbcoahilkhaaGreatW.PrintMore MapFn Disk Bitset Page Num
set_option maxHeartbeats 4000000
theorem image_on {w wr : World} {p pd : Nat} {s : Sh} (h : On w wr p pd s) (hk : Ok s) (hb : DB s.D) :
    Calls Tryz.prog 27 #[.pointer (some ⟨p, 0, none⟩)] wr fun en w' => en = .returned (.string (strOfNums s.image.2)) ∧ On w w' p pd s.image.1 := by
  obtain ⟨⟨F, hs, rfl, rfl, ho⟩, hbl⟩ := h
  refine (image_any s wr F hs hk hb).mono ?_
  rintro e w2 ⟨rfl, F2, h2, hg⟩
  exact ⟨rfl, On.goes hbl ho rfl rfl h2 hg⟩
structure GoodN (N : Int) (w wr : World) (p pd : Nat) (s : Sh) (last : List Int) : Prop where
  on : On w wr p pd s
  inv : Inv N s
  db : DB s.D
  never : s.D.fails = -1
  last : imgOf s.D.get s.was s.root.start = last
structure Clean (s : Sh) : Prop where
  table : s.table = s.was
  start : s.start = s.root.start
section
variable {N : Int} {w wr : World} {p pd : Nat} {s : Sh} {last : List Int}
theorem GoodN.later (h : GoodN N w wr p pd s last) {w' : World} (hb : Below wr.heap.size wr w') : GoodN N w w' p pd s last := ⟨h.on.later hb, h.inv, h.db, h.never, h.last⟩
theorem GoodN.step {w' : World} {s' : Sh} (h : GoodN N w wr p pd s last) (ho : On w w' p pd s') (hs : Step N s s') (hd : DB s'.D) : GoodN N w w' p pd s' last :=
  ⟨ho, hs.inv, hd, hs.never h.never, by rw [hs.root, hs.was, imgOf_same _ fun i hi => hs.get _ (.inr (.inr (.inr (.inr (mem_getD hi).1))))]; exact h.last⟩
theorem GoodN.sure {s' : Sh} (h : GoodN N w wr p pd s last) (k : Step N s s' ∨ Lost s s') : Step N s s' := k.elim id fun q => absurd h.never q.may
theorem GoodN.alloc (h : GoodN N w wr p pd s last) (kind : Int) {A : Option Addr} {c : Nat} {body : List Int} (hr : InW .u8 wr A body c) (hb : Bytes body) :
    Calls Tryz.prog 19 #[.pointer (some ⟨p, 0, none⟩), .int .i64 kind, .slice A body.length c] wr fun en w' => ∃ id e : Int, en = .returned (.tuple #[.int .i64 id, .int .i64 e]) ∧ ∃ s', GoodN N w w' p pd s' last := by
  refine (alloc_on h.on h.inv.ok kind hr hb).mono ?_
  rintro e w2 ⟨rfl, ho⟩
  exact ⟨_, _, rfl, _, h.step ho (h.sure (alloc_step h.inv kind hb)) (h.db.alloc kind hb)⟩
theorem GoodN.image (h : GoodN N w wr p pd s last) (hc : Clean s) :
    Calls Tryz.prog 27 #[.pointer (some ⟨p, 0, none⟩)] wr fun en w' => en = .returned (.string (strOfNums last)) ∧ ∃ s', GoodN N w w' p pd s' last := by
  refine (image_on h.on h.inv.ok h.db).mono ?_
  obtain ⟨k, e⟩ := image_inv h.inv
  rintro en w2 ⟨rfl, ho⟩
  rw [e] at ho ⊢
  refine ⟨?_, _, ⟨ho, h.inv.reads k, h.db.of rfl rfl, h.never, h.last⟩⟩
  rw [show imgOf s.D.get s.table s.start = last by rw [hc.table, hc.start]; exact h.last]
theorem GoodN.dirty (h : GoodN N w wr p pd s last) :
    Calls Tryz.prog 22 #[.pointer (some ⟨p, 0, none⟩)] wr fun en w' => en = .returned (.bool s.dirty) ∧ GoodN N w w' p pd s last := by
  refine (dirty_on h.on).mono ?_
  rintro en w2 ⟨rfl, ho⟩
  exact ⟨rfl, ho, h.inv, h.db, h.never, h.last⟩
theorem GoodN.used (h : GoodN N w wr p pd s last) :
    Calls Tryz.prog 24 #[.pointer (some ⟨p, 0, none⟩)] wr fun en w' => en = .returned (.int .i64 ((s.usedN : Nat) : Int)) ∧ GoodN N w w' p pd s last := by
  refine (used_on h.on h.inv.ok).mono ?_
  rintro en w2 ⟨rfl, ho⟩
  exact ⟨rfl, ho, h.inv, h.db, h.never, h.last⟩
end
theorem good_new {w wr : World} {pd : Nat} (hd : DOn w wr pd (DiskSt.new 40)) :
    Calls Tryz.prog 9 #[.pointer (some ⟨pd, 0, none⟩)] wr fun en w' => ∃ p, en = .returned (.tuple #[.pointer (some ⟨p, 0, none⟩), .int .i64 0]) ∧ ∃ s last, GoodN 40 w w' p pd s last ∧ Clean s := by
  refine (format_on hd ⟨by decide, by decide⟩).mono ?_
  obtain ⟨s, e, hi, h1, h2, h3, h4, h5, h6⟩ := format_inv (N := 40) (D := DiskSt.new 40) rfl (by decide) rfl (by decide) (by decide +kernel)
  have hdb := DB.format (DB.new 40)
  rw [e] at hdb ⊢
  rintro en w2 ⟨p, rfl, ho⟩
  exact ⟨p, by rw [ptrOf_ok], s, _, ⟨ho, hi, hdb, h5, rfl⟩, ⟨h1.trans h2.symm, h3.trans h4.symm⟩⟩
end Go.Proofs.YtgmkbcoahilkhaaGreat.Sh
end
section
namespace Go.Proofs.YtgmkbcoahilkhaaGreat.Disk
set_option maxRecDepth 100000
def DiskSt.torn (D : DiskSt) (n : Int) (k : Nat) : List Int := (((D.loose n).getD zeros).take k) ++ (((D.safe n).getD zeros).drop k)
def crashF : List Int → List Int → DiskSt → DiskSt
  | [], _, D => D
  | n :: ns, f, D =>
    if f.headD 0 % 3 = 0 then crashF ns f.tail (D.wrote n ((D.safe n).getD zeros))
    else if f.headD 0 % 3 = 2 then crashF ns f.tail.tail (D.wrote n (D.torn n (f.tail.headD 0).toNat))
    else crashF ns f.tail D
def DiskSt.crash (D : DiskSt) (f : List Int) : DiskSt := (crashF (looseL D) f D).reset
theorem old_len {D : DiskSt} (hl : ∀ j x, D.safe j = some x ∨ D.loose j = some x → x.length = 256) (n : Int) : ((D.safe n).getD zeros).length = 256 := by
  cases h : D.safe n with
  | none => simp [zeros]
  | some x => exact hl n x (.inl h)
theorem new_len {D : DiskSt} (hl : ∀ j x, D.safe j = some x ∨ D.loose j = some x → x.length = 256) (n : Int) : ((D.loose n).getD zeros).length = 256 := by
  cases h : D.loose n with
  | none => simp [zeros]
  | some x => exact hl n x (.inr h)
theorem torn_len {D : DiskSt} (hl : ∀ j x, D.safe j = some x ∨ D.loose j = some x → x.length = 256) (n : Int) (k : Nat) : (D.torn n k).length = 256 := by
  unfold DiskSt.torn
  rw [List.length_append, List.length_take, List.length_drop, old_len hl, new_len hl]
  omega
end Go.Proofs.YtgmkbcoahilkhaaGreat.Disk
end
