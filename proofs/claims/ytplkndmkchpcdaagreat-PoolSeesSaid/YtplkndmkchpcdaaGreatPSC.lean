/- The words, and the contracts of the functions that are reached, one behind the other. -/
import Derived.Lib.SlBytesConst
import Derived.OwnWalk
import Derived.Test.YtplkndmkchpcdaaGreatPSB
set_option linter.unusedVariables false
set_option linter.unusedSimpArgs false
section
namespace Go.Proofs.YtplkndmkchpcdaaGreat.Sh
open Go.RowKit YtplkndmkchpcdaaGreatW.PrintWords YtplkndmkchpcdaaGreatW.PrintLast YtplkndmkchpcdaaGreatW.PrintMore MapFn Disk Bitset Page
set_option maxHeartbeats 8000000
set_option maxRecDepth 100000
theorem goesM_ {P : Program} {ops : Array Oper} {Q : Exit → Act → World → Prop} {oi : Oper} {N : Option Tmp} {a : Act} {w : World} {K : Act → World → Prop} {f : FuncId} {fn : Func} {xs : Array Operand} {ts : Array TypeId} (hf : P.funcs[f]? = some fn) (hname : (fn.name == "runtime.NumGoroutine") = false) (hb : fn.body.isSome = true) (t : Tmp) (recv : Value) (args all : Array Value) (hall : #[recv] ++ args = all)
    (hw : Region.wanted oi (yielded ops a.tmps) = true) (hN : oi.dst = N) (hop : oi.op = .call { callee := .value (.tmp t), args := xs, argTypes := ts }) (hc : a.eval (.tmp t) = .func (.func f) #[recv] #[]) (hargs : xs.map a.eval = args)
    (h : Calls P f all w fun e w' => ∃ v, e = .returned v ∧ K (a.put N v) w') : if Region.wanted oi (yielded ops a.tmps) = true then Oper.wp P oi a w K Q else K (a.put N undef) w := by
  subst hall
  refine call_ f (#[recv] ++ args) hw hN ?_ h
  have he := enters_ hf hname hb (#[recv] ++ args) w
  unfold execOp
  simp [hop, resolve, Deferred.ofValue, invoke, hc, hargs, he]
structure Pcs (w : World) (A : Option Addr) (ps : List (List Int)) (bad : List Nat) : Prop where
  at_ : ∀ i (h : i < ps.length), ∃ ad Ai ci, A = some ad ∧ ¬ ad.block ∈ bad ∧ w.cell? (ad.add i) = some (.slice Ai (ps[i]).length ci) ∧ In .u8 w Ai ps[i] ci ∧ ∀ a, Ai = some a → ¬ a.block ∈ bad
theorem Pcs.moves {w w' : World} {A : Option Addr} {ps : List (List Int)} {bad l : List Nat} (h : Pcs w A ps bad) (hm : Moves l w w') (hl : ∀ x ∈ l, x ∈ bad ∨ w.heap.size ≤ x) : Pcs w' A ps bad :=
  ⟨fun i hi => by
    obtain ⟨ad, Ai, ci, e, hn, hc, hI, ho⟩ := h.at_ i hi
    have hlt := block_lt_of_cell hc
    rw [add_block] at hlt
    refine ⟨ad, Ai, ci, e, hn, ?_, hI.moves hm (fun a ha hx => ?_), ho⟩
    · rw [World.cell?_of_block (hm.block _ (by rw [add_block]; exact hlt) (by rw [add_block]; intro hx; rcases hl _ hx with q | q; exact hn q; omega))]
      exact hc
    · rcases hl _ hx with q | q
      · exact ho a ha q
      · have := hI.lt a ha
        omega⟩
def T48_7 : Bool × List (List Nat × List Nat) := (true, [([], []), ([], []), ([1], [1]), ([2], [2]), ([3], [3]), ([], []), ([], []), ([5, 6], [5, 6]), ([7], [7]), ([], []), ([4, 8, 9], [4, 8, 9]), ([0, 10, 10], [0, 10]), ([11, 11, 0, 1, 2, 3, 4, 5, 6, 7, 8, 9, 10, 11], [11])])
def B48_7 : List Nat := [0, 0, 2, 6, 14, 0, 0, 96, 224, 0, 1022, 2047, 4095]
theorem tab48_7 : rtab .any (opsOf Tryz.f48 7) = T48_7 := by kernel_rfl
theorem bits48_7 : waitsOk T48_7.2 B48_7 = true := by kernel_rfl
theorem layF_cons (kind : Int) (bl p : List Int) (ps : List (List Int)) (i : Nat) (s : Sh) : Sh.layF kind bl (p :: ps) i s = if sealE kind i p.length ≠ 0 then (s, sealE kind i p.length) else if (s.wr (bl.getD i 0) (sealL kind i p)).2 ≠ 0 then s.wr (bl.getD i 0) (sealL kind i p) else Sh.layF kind bl ps (i + 1) (s.wr (bl.getD i 0) (sealL kind i p)).1 := by
  rw [Sh.layF]
theorem lay_any (kind : Int) (A : Option Addr) (c : Nat) (ps : List (List Int)) (B : Option Addr) (cB : Nat) (bl : List Int) (w : World) (F : Foot) (s : Sh) (h : ShAt w F s) (hp : Pcs w A ps F.own) (hb : In .i64 w B bl cB) (hbo : ∀ a, B = some a → ¬ a.block ∈ F.own)
    (hlen : ps.length ≤ bl.length) (hsm : ps.length ≤ 2000) (hwf : ∀ n ∈ bl, MapFn.wf n) (hby : ∀ p ∈ ps, Bytes p) :
    Calls Tryz.prog 48 #[.pointer (some ⟨F.p, 0, none⟩), .int .i64 kind, .slice A ps.length c, .slice B bl.length cB] w fun e w' => e = .returned (.int .i64 (s.lay kind ps bl).2) ∧ ShAt w' F (s.lay kind ps bl).1 ∧ Goes F F w w' := by
  have HS := Hide.mk h
  have HP := Hide.mk hp
  have HBB := Hide.mk hb
  have HBO := Hide.mk hbo
  have HL := Hide.mk hlen
  have HSM := Hide.mk hsm
  have HWF := Hide.mk hwf
  have HBY := Hide.mk hby
  unfold Sh.lay
  obtain ⟨R, hR⟩ : ∃ R, Sh.layF kind bl ps 0 s = R := ⟨_, rfl⟩
  rw [hR]
  have HR := Hide.mk hR
  clear h hp hb hbo hlen hsm hwf hby hR
  go_enter Tryz.func48, Tryz.ntmps48
  go_wp2
  go_loopw [16] (fun v16 wr => ∃ (i : Nat) (s1 : Sh), v16 = .int .i64 (i : Int) ∧ Hide (i ≤ ps.length) ∧ Hide (R = Sh.layF kind bl (ps.drop i) i s1) ∧ Hide (ShAt wr F s1) ∧ Hide (Goes F F w wr)) (fun v16 _ => ps.length - (intOf v16).toNat)
  case atStart => exact ⟨0, s, by first | rfl | simp, ⟨Nat.zero_le _⟩, ⟨by rw [List.drop_zero]; exact HR.out.symm⟩, HS, ⟨Goes.refl _ _⟩⟩
  case round =>
    obtain ⟨i, s1, rfl, hi, hRR, hS1, hG1⟩ := hrel
    clear HS HR
    have hsm := HSM.out
    by_cases hlt0 : i < ps.length
    · have hlt : (i : Int) < (ps.length : Int) := by omega
      have hib : i < bl.length := by have := HL.out; omega
      have hltB : (i : Int) < (bl.length : Int) := by omega
      have HP1 := Hide.mk (HP.out.moves hG1.out.moves (fun x hx => .inl hx))
      obtain ⟨ad, Ai, ci, hA, hnb, hcell, hIn, hoff⟩ := HP1.out.at_ i hlt0
      have HBI := Hide.mk (HBB.out.moves hG1.out.moves (fun a ha hx => HBO.out a ha hx))
      obtain ⟨adB, hBe, hcB⟩ := Kd.at_int HBI.out.reads (i : Int) (by omega) hltB
      rw [Int.toNat_natCast] at hcB
      have hrd : rd bl (i : Int) = bl.getD i 0 := by simp [rd]
      rw [hrd] at hcB
      obtain ⟨x, hx⟩ : ∃ x, bl.getD i 0 = x := ⟨_, rfl⟩
      rw [hx] at hcB
      have HXX := Hide.mk hx
      have HXW : Hide (MapFn.wf x) := ⟨by rw [← hx, List.getD_eq_getElem?_getD, List.getElem?_eq_getElem hib]; exact HWF.out _ (List.getElem_mem _)⟩
      have hbB : ¬ adB.block ∈ F.own := HBO.out adB hBe
      have hltAB : adB.block < wr.heap.size := by have := block_lt_of_cell hcB; rwa [add_block] at this
      have E1 : Hide (ps.drop i = ps[i] :: ps.drop (i + 1)) := ⟨List.drop_eq_getElem_cons hlt0⟩
      have HBP := Hide.mk (HBY.out ps[i] (List.getElem_mem _))
      generalize ps[i] = p at *
      subst hA hBe
      have LT := Hide.mk hlt0
      have HC := Hide.mk hcell
      have HCB := Hide.mk hcB
      have HII := Hide.mk hIn
      have RES : Hide (R = if sealE kind i p.length ≠ 0 then (s1, sealE kind i p.length) else if (s1.wr x (sealL kind i p)).2 ≠ 0 then s1.wr x (sealL kind i p) else Sh.layF kind bl (ps.drop (i + 1)) (i + 1) (s1.wr x (sealL kind i p)).1) := ⟨by rw [hRR.out, E1.out, layF_cons, HXX.out]⟩
      clear hRR hx hrd hlt0 hib hcB
      by_cases hse : sealE kind i p.length = 0
      · have HSEAL := Hide.mk (seal_ok kind i Ai ci p wr hIn.reads HBP.out hse)
        have hR1 := RES.out
        rw [if_neg (by simpa using hse)] at hR1
        have hsl : (sealL kind i p).length = 256 := by
          unfold sealL
          have h246 : p.length ≤ 246 := by
            unfold sealE at hse
            split at hse
            · cases hse
            · split at hse
              · cases hse
              · split at hse
                · cases hse
                · omega
          rw [List.length_append, bodyL_length kind i p h246]
          rfl
        unfold Sh.wr at hR1
        obtain ⟨E, hE⟩ : ∃ E, (s1.D.write x (sealL kind i p)).2 = E := ⟨_, rfl⟩
        obtain ⟨D1, hD⟩ : ∃ D1, (s1.D.write x (sealL kind i p)).1 = D1 := ⟨_, rfl⟩
        rw [hE, hD] at hR1
        have HR1 := Hide.mk hR1
        have HED := Hide.mk (And.intro hE hD)
        have HSL := Hide.mk hsl
        clear RES hR1 hE hD hse hsl hIn
        have hlt2 := hlt
        have hcC := HC.out
        go_wp2_with (go_at_call 64; refine HSEAL.out.mono ?_; rintro e w3 ⟨v3, rfl, ho, hb3⟩
                     obtain ⟨A9, c9, hv, hi9, hge9⟩ := In.of_own ho
                     obtain ⟨n9, hn9⟩ : ∃ n, (sealL kind i p).length = n := ⟨_, rfl⟩
                     rw [hn9] at hv
                     subst hv
                     have S3 := Hide.mk (hS1.out.below hb3)
                     have B3 := Hide.mk hb3
                     have I9 := Hide.mk hi9
                     have HN9 := Hide.mk hn9
                     clear ho hb3 hi9 hge9 hn9)
        have HW0 := write_any x A9 c9 (sealL kind i p) S3.out.disk HXW.out I9.out.reads
        rw [HED.out.1, HED.out.2, HN9.out] at HW0
        have SD := Hide.mk (S3.out.below (below_drew (Below.refl w3.heap.size w3)))
        have I9d := Hide.mk (I9.out.below (below_drew (Below.refl w3.heap.size w3)))
        have HW1 := write_any x A9 c9 (sealL kind i p) SD.out.disk HXW.out I9d.out.reads
        rw [HED.out.1, HED.out.2, HN9.out] at HW1
        have HW := Hide.mk HW1
        clear HW0 HW1
        have cB3 : w3.cell? (adB.add i) = some (.int .i64 x) := pw_cell_below B3.out HCB.out
        have hlt3 : adB.block < w3.heap.size := by have := block_lt_of_cell cB3; rwa [add_block] at this
        have HX4 : Hide (∀ w4, Moves [F.pd, F.ml] w3.drew w4 → w4.cell? (adB.add i) = some (.int .i64 x)) := ⟨fun w4 hm => by
          rw [World.cell?_of_block (hm.block _ (by rw [add_block]; exact hlt3) (by rw [add_block]; intro hq; exact hbB (by simp only [List.mem_cons, List.not_mem_nil, or_false] at hq; rcases hq with q | q <;> simp [Foot.own, q])))]
          exact cB3⟩
        have HX5 : Hide (∀ w4 w5, Moves [F.pd, F.ml] w3.drew w4 → Goes F F w4 w5 → w5.cell? (adB.add i) = some (.int .i64 x)) := ⟨fun w4 w5 hm hg => by
          have h4 := HX4.out w4 hm
          have hl4 := block_lt_of_cell h4
          rw [World.cell?_of_block (hg.moves.block _ hl4 (by rw [add_block]; exact hbB))]
          exact h4⟩
        have KC : w3.drew.cell? ⟨F.p, 1, none⟩ = some (.func (.func 88) #[.pointer (some ⟨F.pd, 0, none⟩)] #[]) ∧ w3.drew.cell? (adB.add i) = some (.int .i64 x) := ⟨SD.out.cells.c1, cB3⟩
        replace S3 := SD
        clear SD
        refine s_ 13 (fun w' => w'.cell? ⟨F.p, 1, none⟩ = some (.func (.func 88) #[.pointer (some ⟨F.pd, 0, none⟩)] #[]) ∧ w'.cell? (adB.add i) = some (.int .i64 x)) tab48_7 bits48_7 KC (fun hHeld HT_ HW_ => ?_)
        refine p_ 0 31 ?_
        refine p_ 1 32 ?_
        refine p_ 2 33 ?_
        refine p_ 3 34 ?_
        refine t_ 4 35 hHeld ?_ (hy := by
            intro w' hS'
            have s1 := hS'.1
            go_simp
            rfl)
        refine p_ 5 36 ?_
        refine p_ 6 37 ?_
        refine p_ 7 38 ?_
        refine t_ 8 39 hHeld ?_ (hy := by
            intro w' hS'
            have s1 := hS'.2
            go_simp
            rfl)
        refine p_ 9 40 ?_
        refine n_ 10 (some 41) (fun K hK => ?_)
        refine goesM_ Tryz.func88 (by kernel_rfl) rfl 35 (.pointer (some ⟨F.pd, 0, none⟩)) #[.int .i64 x, .slice A9 n9 c9] #[.pointer (some ⟨F.pd, 0, none⟩), .int .i64 x, .slice A9 n9 c9] (by simp) (by rfl) rfl rfl (by rfl) (by (try simp only [List.map_toArray, List.map_cons, List.map_nil]); first | done | rfl) ?_
        with_reducible refine HW.out.mono ?_
        rintro e w4 ⟨rfl, hd, hm⟩
        refine ⟨_, rfl, ?_⟩
        have S4 := Hide.mk (S3.out.wrote hd hm)
        have KC1 := And.intro (S4.out.1.cells.c1) (HX4.out w4 hm)
        have B4 := Hide.mk hm
        have HDN := Hide.mk (done_any E S4.out.1)
        clear hd hm
        refine k_ hK KC1 (fun hHeld => ?_)
        clear hK K
        refine n_ 11 (some 42) (fun K hK => ?_)
        refine g_ Tryz.func89 #[.pointer (some ⟨F.p, 0, none⟩), .int .i64 E] ?_
        with_reducible refine HDN.out.mono ?_
        rintro e w5 ⟨rfl, hs5, hg5⟩
        refine ⟨_, rfl, ?_⟩
        have S5 := Hide.mk hs5
        have G5 := Hide.mk (S4.out.2.trans hg5)
        have KC2 := And.intro (hs5.cells.c1) (HX5.out w4 w5 B4.out hg5)
        clear hs5 hg5
        refine k_ hK KC2 (fun hHeld => ?_)
        clear hK K
        refine p_ 12 13 ?_
        refine d_ ?_
        clear KC KC1 KC2 hHeld
        have GA := Hide.mk ((hG1.out.trans (Goes.below (B3.out.trans ((below_drew (Below.refl w3.heap.size w3)).mono B3.out.size)))).trans G5.out)
        by_cases hE0 : E = 0
        · subst hE0
          go_wp2
          go_roundw
          case rel => exact ⟨i + 1, _, by go_num, ⟨by have := LT.out; omega⟩, ⟨by rw [HR1.out, if_neg (by simp)]⟩, S5, GA⟩
          case measure => have := LT.out; simp [intOf]; omega
        · have q : (E != 0) = true := by simp [hE0]
          have HE0 := Hide.mk hE0
          clear hE0
          go_wp2
          go_ret
          have e : R = (({ s1 with D := D1 } : Sh).done E, E) := by rw [HR1.out, if_pos HE0.out]
          rw [e]
          exact ⟨rfl, S5.out, GA.out⟩
      · have HSEAL := Hide.mk (seal_bad kind i Ai ci p.length wr hse)
        have hR1 := RES.out
        rw [if_pos hse] at hR1
        obtain ⟨E, hE⟩ : ∃ E, sealE kind i p.length = E := ⟨_, rfl⟩
        rw [hE] at hR1 HSEAL hse
        have q : (E != 0) = true := by simp [hse]
        have HR1 := Hide.mk hR1
        clear hR1 hE hse RES hIn
        have hcC := HC.out
        go_wp2_with (go_at_call 64; refine HSEAL.out.mono ?_; rintro e w3 ⟨rfl, hb3⟩; have B3 := Hide.mk hb3; clear hb3)
        go_ret
        rw [HR1.out]
        exact ⟨rfl, hS1.out.below B3.out, hG1.out.trans (Goes.below B3.out)⟩
    · have hlt : ¬ (i : Int) < (ps.length : Int) := by omega
      have E := Hide.mk (show i = ps.length by have := hi.out; omega)
      clear hlt0
      go_wp2
      go_ret
      have e : R = (s1, 0) := by
        rw [hRR.out, E.out, List.drop_length]
        rfl
      rw [e]
      exact ⟨rfl, hS1.out, hG1.out⟩
end Go.Proofs.YtplkndmkchpcdaaGreat.Sh
end
section
namespace Go.Proofs.YtplkndmkchpcdaaGreat.Sh
open Go.RowKit YtplkndmkchpcdaaGreatW.PrintWords YtplkndmkchpcdaaGreatW.PrintLast YtplkndmkchpcdaaGreatW.PrintMore MapFn Disk PShadowPlays
set_option maxHeartbeats 4000000
set_option maxRecDepth 100000
theorem info8 : (Tryz.prog.info? 5).map (fun i => (i.zero, i.size, i.bytes)) = some (some (.int .u8 0), 1, 1) := by kernel_rfl
theorem putN_len : ∀ (w : Nat) (n : Int), (putN w n).length = w
  | 0, _ => rfl
  | w + 1, n => by simp [putN, putN_len w n]
def putPre (k : Nat) (n : Int) (i : Nat) : List Int := List.replicate (k - i) 0 ++ putN i n
theorem putPre_len (k : Nat) (n : Int) (i : Nat) (h : i ≤ k) : (putPre k n i).length = k := by simp [putPre, putN_len]; omega
theorem putPre_set (k : Nat) (n : Int) (i : Nat) (h : i < k) : (putPre k n i).set (k - 1 - i) ((n / 256 ^ i) % 256) = putPre k n (i + 1) := by
  unfold putPre
  have e : k - i = (k - 1 - i) + 1 := by omega
  rw [e, List.replicate_succ', List.append_assoc, List.set_append_right _ _ (by simp)]
  rw [show k - (i + 1) = k - 1 - i by omega]
  simp [putN]
theorem may_any (k : Nat) (h1 : 1 ≤ k) (h6 : k ≤ 6) (w : World) : Calls Tryz.prog 147 #[.int .i64 (k : Int)] w fun e w' => e = .returned (.bool true) ∧ Drawn0 w w' := by
  refine num_may.calls (k : Int) true w ?_
  unfold num_may.f
  rw [if_pos (by omega)]
  simp
  omega
theorem put_any (n : Int) (k : Nat) (w : World) (h1 : 1 ≤ k) (h6 : k ≤ 6) (h0 : 0 ≤ n) (hn : n < 256 ^ k) :
    Calls Tryz.prog 118 #[.int .i64 n, .int .i64 (k : Int)] w fun e w' => ∃ v, e = .returned (.tuple #[v, .int .i64 0]) ∧ Kd.R (Kd.int .u8) 5 w' w.heap.size (fun _ => True) v (putN k n) ∧ Below w.heap.size w w' := by
  have HM := Hide.mk (may_any k h1 h6)
  have HK := Hide.mk (show 1 ≤ k ∧ k ≤ 6 from ⟨h1, h6⟩)
  have b1 : (k : Int) ≤ 6 := by omega
  have b0 : (0 : Int) ≤ (k : Int) := by omega
  have hs : n / 2 ^ min (8 * (k : Int)).toNat 64 = 0 := by
    have : (8 * (k : Int)).toNat = 8 * k := by omega
    rw [this, Nat.min_eq_left (by omega), Int.pow_mul]
    exact Int.ediv_eq_zero_of_lt h0 hn
  have hs' : n / 2 ^ (8 * (k : Int)).toNat = 0 := by
    have : (8 * (k : Int)).toNat = 8 * k := by omega
    rw [this, Int.pow_mul]
    exact Int.ediv_eq_zero_of_lt h0 hn
  have q0 : ¬ n < 0 := by omega
  have HN := Hide.mk (show 0 ≤ n ∧ n < 256 ^ k from ⟨h0, hn⟩)
  clear h1 h6 hn h0
  go_enter Tryz.func118, Tryz.ntmps118
  go_wp2_with (first
    | (go_at_call 147; refine (HM.out _).mono ?_; rintro e w1 ⟨rfl, ⟨nd, rfl⟩⟩)
    | ((with_reducible refine gate_dst (N := 23) rfl ?_); refine Kd.R_make (Kd.int .u8) _ 5 rfl (N := 23) rfl 22 _ _ rfl (k : Int) rfl rfl Tryz.underlying22 (.int .u8 0) 1 info8 rfl (by decide) (by omega) 0 (ok := fun _ => True) (okp := fun _ => True) rfl (fun _ hk => hk) trivial (by omega) (by simp only [Int.toNat_natCast]; omega) (Below.refl _ _) (Nat.le_refl _) ?_; intro v2 w2 ho8 hb hg_ hnew_; clear hg_ hnew_; simp only [Int.toNat_natCast] at ho8; have HB := Hide.mk hb; have HO := Hide.mk ho8; clear ho8 hb; obtain ⟨Av, cv, rfl⟩ := Kd.R_slice HO.out; have hlen : (List.replicate k (0 : Int)).length = k := List.length_replicate; rw [hlen] at HO; rw [hlen]; clear hlen))
  replace HO : Hide (Kd.R (Kd.int .u8) 5 w2 w.heap.size (fun _ => True) (.slice Av k cv) (List.replicate k 0)) := HO
  replace HB : Hide (Below w.heap.size w w2) := ⟨(pw_below_drewN (Below.refl w.heap.size w) nd).trans HB.out⟩
  clear HM hs hs'
  go_loopw [25] (fun v25 wr => ∃ i : Nat, v25 = .int .i64 (i : Int) ∧ Hide (i ≤ k) ∧ Hide (Kd.R (Kd.int .u8) 5 wr w.heap.size (fun _ => True) (.slice Av k cv) (putPre k n i)) ∧ Hide (Below w.heap.size w wr)) (fun v25 _ => k - (intOf v25).toNat)
  case atStart => exact ⟨0, by first | rfl | simp, ⟨Nat.zero_le _⟩, ⟨by have := HO.out; simpa [putPre, putN] using this⟩, HB⟩
  case round =>
    obtain ⟨i, rfl, hi, hO, hB⟩ := hrel
    clear HO HB
    by_cases hik : i < k
    · have hlen := putPre_len k n i hi.out
      obtain ⟨g, cap, he, hg⟩ := Kd.R_form hO.out (by rw [hlen]; omega)
      rw [hlen] at he
      simp only [Value.slice.injEq, true_and] at he
      obtain ⟨rfl, rfl⟩ := he
      have hO2 : Kd.R (Kd.int .u8) 5 wr w.heap.size (fun _ => True) (.slice (some ⟨g, 0, none⟩) (putPre k n i).length cv) (putPre k n i) := by rw [hlen]; exact hO.out
      obtain ⟨hcell, hfr⟩ := Kd.R_cell (0 : Int) hO2 ((k : Int) - 1 - (i : Int)) (by omega) (by rw [hlen]; omega)
      have e1 : ((k : Int) - 1 - (i : Int)).toNat = k - 1 - i := by omega
      rw [e1] at hcell hfr
      have hput := Kd.R_put hO2 ((k : Int) - 1 - (i : Int)) ((n / 256 ^ i) % 256)
      rw [e1, hlen] at hput
      rw [putPre_set k n i hik] at hput
      have hs : n / 2 ^ min (8 * (i : Int)).toNat 64 = n / 256 ^ i := by
        have : (8 * (i : Int)).toNat = 8 * i := by omega
        have := HK.out.2
        rw [‹(8 * (i : Int)).toNat = 8 * i›, Nat.min_eq_left (by omega), Int.pow_mul]
        rfl
      have hs' : n / 2 ^ (8 * (i : Int)).toNat = n / 256 ^ i := by
        have : (8 * (i : Int)).toNat = 8 * i := by omega
        rw [this, Int.pow_mul]
        rfl
      have fin : Hide (∀ wz, wz = wr.setCell ⟨g, k - 1 - i, none⟩ (.int .u8 (n / 256 ^ i % 256)) → Kd.R (Kd.int .u8) 5 wz w.heap.size (fun _ => True) (.slice (some ⟨g, 0, none⟩) k cv) (putPre k n (i + 1)) ∧ Below w.heap.size w wz) := ⟨by
        rintro wz rfl
        obtain ⟨h1, h2⟩ := hput
        refine ⟨h1, hB.out.grown h2 hB.out.size ?_⟩
        intro j hj
        exact Kd.R_base hO.out j (by simpa [Value.ownBlock] using hj)⟩
      obtain ⟨q, hq⟩ : ∃ q, n / 256 ^ i = q := ⟨_, rfl⟩
      rw [hq] at fin hs hs'
      clear hput hO2 hg hq
      have b2 : (i : Int) < (k : Int) := by omega
      have HI := Hide.mk hik
      clear hik
      go_wp2
      trace_state
      go_roundw
      case rel => obtain ⟨f1, f2⟩ := fin.out _ (by first | rfl | (congr 2)); exact ⟨i + 1, by go_num, ⟨by have := HI.out; omega⟩, ⟨f1⟩, ⟨f2⟩⟩
      case measure => have := HI.out; simp [intOf]; omega
    · have b2 : ¬ (i : Int) < (k : Int) := by omega
      have E := Hide.mk (show i = k by have := hi.out; omega)
      clear hik
      go_wp2
      go_ret2
      refine ⟨_, rfl, ?_, hB.out⟩
      have h := hO.out
      rw [E.out] at h
      simpa [putPre] using h
end Go.Proofs.YtplkndmkchpcdaaGreat.Sh
end
section
namespace Go.Proofs.YtplkndmkchpcdaaGreat.Sh
open Go.RowKit YtplkndmkchpcdaaGreatW.PrintWords YtplkndmkchpcdaaGreatW.PrintLast YtplkndmkchpcdaaGreatW.PrintMore MapFn Disk PShadowPlays
set_option maxHeartbeats 4000000
set_option maxRecDepth 100000
theorem und_int : Tryz.prog.underlying 3 = some (.int .i64) := Tryz.underlying3
theorem run_grow (w : World) (n : Nat) (h0 : 0 < n) (hn : n ≤ 1000000) (ty : TypeId) : (Builtin.append_ #[38, 3] ty #[.slice none 0 0, .int .i64 (n : Int)]).run Tryz.prog w =
    .ok (.slice (some ⟨w.heap.size, 0, none⟩) n (grownCap w n 0 3)) (w.drew.alloc (.cells (Builtin.zeroCells #[.int .i64 0] n ++ Builtin.zeroCells #[.int .i64 0] (grownCap w n 0 3 - n)) 3)) := by
  obtain ⟨i, hi, hz⟩ := Option.map_eq_some_iff.1 infoI
  simp only [Prod.mk.injEq] at hz
  obtain ⟨hz, hs, hb⟩ := hz
  have hw : IntKind.i64.wrap (n : Int) = (n : Int) := by rw [IntKind.wrap_i64]; omega
  have hn' : n ≠ 0 := by omega
  have h1 : ¬ ((n : Int) < 0) := by omega
  have h2 : ¬ (281474976710656 < (n : Int) * 8) := by omega
  have h63' : ¬ (9223372036854775807 < (n : Int)) := by omega
  have h48' : ¬ (281474976710656 < Builtin.nextslicecap n 0 * 8) := by rw [nextslicecap_zero h0]; omega
  simp [Builtin.append_, run_underlying Tryz.underlying38, run_underlying und_int, sizeOf, typeInfo, zeroValue, hi, hz, hs, hb, Builtin.lenOf, hn', h1, h2, hw, asInt, asIntOf, h63', h48', Question.forced, run_firstCells_none, newRow, grownCap, Value.cells]
theorem zeroCells_int (n : Nat) : Builtin.zeroCells #[.int .i64 0] n = (List.replicate n (Value.int .i64 0)).toArray := by
  apply Array.ext
  · simp [Builtin.zeroCells]
  · intro i h1 h2
    simp [Builtin.zeroCells, Nat.mod_one]
theorem grown_own (w : World) (n : Nat) (hn : n ≤ 1000000) : Kd.R (Kd.int .i64) 3 (w.drew.alloc (.cells (Builtin.zeroCells #[.int .i64 0] n ++ Builtin.zeroCells #[.int .i64 0] (grownCap w n 0 3 - n)) 3)) w.heap.size (fun _ => True) (.slice (some ⟨w.heap.size, 0, none⟩) 0 (grownCap w n 0 3)) [] := by
  refine Kd.R_of_own (enc := Value.int .i64) (h1 := fun _ => rfl) ⟨rfl, .inr ⟨w.heap.size, grownCap w n 0 3, _, rfl, Nat.le_refl _, heap_last w.drew _, Nat.zero_le _, grownCap_le_maxLen w n 0 _ (by unfold maxLen; omega), ?_, rfl⟩⟩ (fun _ _ => trivial)
  have := grownCap_ge w n 0 3
  rw [zeroCells_int, zeroCells_int]
  simp
  omega
theorem wp_grow {w : World} {ops : Array Oper} {rest : List Oper} {o : Oper} {a : Act} {Q : Exit → Act → World → Prop} (hgd : o.guard = none) (s x : Operand)
    (ho : o.op = .call { callee := .builtin .append, args := #[s, x], argTypes := #[38, 3] }) (n : Nat) (h0 : 0 < n) (hn : n ≤ 1000000) (hs : a.eval s = .slice none 0 0) (hx : a.eval x = .int .i64 (n : Int))
    (h : ∀ c w', n ≤ c → c ≤ 9223372036854775807 → Kd.R (Kd.int .i64) 3 w' w.heap.size (fun _ => True) (.slice (some ⟨w.heap.size, 0, none⟩) 0 c) [] → Below w.heap.size w w' → wpList Tryz.prog ops Q rest (a.put o.dst (.slice (some ⟨w.heap.size, 0, none⟩) n c)) w') : wpList Tryz.prog ops Q (o :: rest) a w := by
  refine wpList_plain hgd fun K hK => ?_
  have hrun := run_grow w n h0 hn o.type
  have hO := grown_own w n hn
  have b3 := grownCap_ge w n 0 3
  have b4 := grownCap_le_maxLen w n 0 3 (by unfold maxLen; omega)
  unfold maxLen at b4
  unfold Oper.wp execOp
  simp only [ho, resolve, invoke, builtin, Sem.run_bind, Sem.run_pure, Result.andThen_ok, List.map_toArray, List.map_cons, List.map_nil, hs, hx, hrun]
  exact hK _ _ (h _ _ b3 (by omega) hO ((below_drew (Below.refl _ _)).alloc (Nat.le_refl _) _))
theorem grow_any (n : Nat) (hn : n ≤ 1000000) (w : World) : Calls Tryz.prog 115 #[.slice none 0 0, .int .i64 (n : Int)] w fun e w' => ∃ v, e = .returned v ∧ Kd.R (Kd.int .i64) 3 w' w.heap.size (fun _ => True) v [] ∧ Below w.heap.size w w' := by
  by_cases h0 : 0 < n
  · have H0 := Hide.mk (show 0 < n ∧ n ≤ 1000000 from ⟨h0, hn⟩)
    have b0 : ¬ (n : Int) < 0 := by omega
    have b1 : (0 : Int) < (n : Int) := by omega
    have b2 : (n : Int) ≤ 1000000 := by omega
    clear hn h0
    go_enter Tryz.func115, Tryz.ntmps115
    go_wp2_with ((with_reducible refine gate_builtin (b := .append) (xs := #[.tmp 20, .tmp 21]) rfl ?_); at_builtin; refine wp_grow rfl (.tmp 20) (.tmp 21) rfl n H0.out.1 H0.out.2 rfl rfl ?_; intro c w1 hc1 hc2 ho hb; have HO := Hide.mk ho; have HB := Hide.mk hb; clear ho hb)
    go_ret
    exact ⟨_, rfl, HO.out, HB.out⟩
  · obtain rfl : n = 0 := by omega
    go_enter Tryz.func115, Tryz.ntmps115
    go_wp2
    go_ret
    exact ⟨_, rfl, Kd.R_nil _ _ _ _ _, Below.refl _ _⟩
def sumLen (ls : List (List Int)) : Nat := (ls.map List.length).sum
theorem sumLen_take (ls : List (List Int)) (i : Nat) (h : i < ls.length) : sumLen (ls.take (i + 1)) = sumLen (ls.take i) + (ls[i]).length := by
  unfold sumLen
  rw [List.take_add_one, List.getElem?_eq_getElem h, List.map_append, List.sum_append]
  simp only [Option.toList_some, List.map_cons, List.map_nil, List.sum_cons, List.sum_nil, Nat.add_zero]
theorem sumLen_le (ls : List (List Int)) (i : Nat) : sumLen (ls.take i) ≤ sumLen ls := by
  unfold sumLen
  rw [List.map_take]
  have e := congrArg List.sum (List.take_append_drop i (ls.map List.length))
  rw [List.sum_append] at e
  omega
theorem flatten_take (ls : List (List Int)) (i : Nat) (h : i < ls.length) : (ls.take (i + 1)).flatten = (ls.take i).flatten ++ ls[i] := by
  rw [List.take_add_one, List.getElem?_eq_getElem h, List.flatten_append]
  simp only [Option.toList_some, List.flatten_cons, List.flatten_nil, List.append_nil]
theorem flatten_len (ls : List (List Int)) : ls.flatten.length = sumLen ls := by simp [sumLen, List.length_flatten]
structure Lists (k : IntKind) (w : World) (A : Option Addr) (ls : List (List Int)) : Prop where
  at_ : ∀ i (h : i < ls.length), ∃ ad Ai ci, A = some ad ∧ w.cell? (ad.add i) = some (.slice Ai (ls[i]).length ci) ∧ (ls[i]).length ≤ ci ∧ Kd.C (Kd.int k) w Ai (ls[i]).length ls[i]
theorem Lists.below {k : IntKind} {w w' : World} {A : Option Addr} {ls : List (List Int)} (h : Lists k w A ls) (hb : Below w.heap.size w w') : Lists k w' A ls :=
  ⟨fun i hi => by
    obtain ⟨ad, Ai, ci, e, hc, hl, hr⟩ := h.at_ i hi
    exact ⟨ad, Ai, ci, e, pw_cell_below hb hc, hl, Kd.C_below hr hb⟩⟩
theorem concat_any (A : Option Addr) (c : Nat) (ls : List (List Int)) (w : World) (h : Lists .i64 w A ls) (hn : ls.length ≤ 1000) (hs : sumLen ls ≤ 1000000) :
    Calls Tryz.prog 90 #[.slice A ls.length c] w fun e w' => ∃ v, e = .returned v ∧ Kd.R (Kd.int .i64) 3 w' w.heap.size (fun _ => True) v ls.flatten ∧ Below w.heap.size w w' := by
  have HL := Hide.mk h
  have HS := Hide.mk hs
  have HN := Hide.mk hn
  have HG := Hide.mk (grow_any (sumLen ls) hs)
  clear h hs hn
  go_enter Tryz.func90, Tryz.ntmps90
  go_wp2_with go_in
  go_loopw [3, 11] (fun v3 v11 wr => ∃ i : Nat, v3 = .int .i64 (sumLen (ls.take i) : Nat) ∧ v11 = .int .i64 (i : Int) ∧ wr = w ∧ Hide (i ≤ ls.length)) (fun _ v11 _ => ls.length - (intOf v11).toNat)
  case atStart => exact ⟨0, by first | rfl | simp [sumLen], rfl, rfl, ⟨Nat.zero_le _⟩⟩
  case round =>
    obtain ⟨i, rfl, rfl, hw, hi⟩ := hrel
    obtain rfl : w = wr := hw.symm
    clear hw
    have hmx : ls.length ≤ 1000 := HN.out
    by_cases hlt0 : i < ls.length
    · have hlt : (i : Int) < (ls.length : Int) := by omega
      obtain ⟨ad, Ai, ci, rfl, hcell, hci, hrd⟩ := HL.out.at_ i hlt0
      have e1 := sumLen_take ls i hlt0
      have e2 := sumLen_le ls (i + 1)
      have e3 := HS.out
      have LT := Hide.mk hlt0
      have E1 := Hide.mk e1
      have b1 : (0 : Int) ≤ ((sumLen (ls.take i) : Nat) : Int) := by omega
      have b2 : ((sumLen (ls.take i) : Nat) : Int) + ((ls[i]).length : Int) ≤ 1000000 := by omega
      have b3 : ¬ ((sumLen (ls.take i) : Nat) : Int) + ((ls[i]).length : Int) < 0 := by omega
      generalize hL : (ls[i]).length = L at *
      clear e1 e2 e3 hrd hci
      go_wp2
      go_roundw
      case rel => exact ⟨i + 1, by have := E1.out; rw [this]; go_num, by go_num, by first | trivial | rfl, ⟨by have := LT.out; omega⟩⟩
      case measure => have := LT.out; simp [intOf]; omega
    · have hlt : ¬ (i : Int) < (ls.length : Int) := by omega
      have hil : i = ls.length := by have := hi.out; omega
      subst hil
      rw [List.take_length]
      go_wp2_with (go_at_call 115; refine (HG.out _).mono ?_; rintro e w1 ⟨v1, rfl, ho, hb⟩; have HO := Hide.mk ho; have HB := Hide.mk hb; clear ho hb)
      clear HG hlt0
      go_loopw [6, 27] (fun v6 v27 wr2 => ∃ i : Nat, v27 = .int .i64 (i : Int) ∧ Hide (i ≤ ls.length) ∧ Hide (Kd.R (Kd.int .i64) 3 wr2 w.heap.size (fun _ => True) v6 (ls.take i).flatten) ∧ Hide (Below w.heap.size w wr2)) (fun _ v27 _ => ls.length - (intOf v27).toNat)
      case atStart => exact ⟨0, by first | rfl | simp, ⟨Nat.zero_le _⟩, ⟨by simpa using HO.out⟩, HB⟩
      case round =>
        obtain ⟨i, rfl, hi2, hO, hB⟩ := hrel
        clear HO HB hlt
        by_cases hlt0 : i < ls.length
        · have hlt : (i : Int) < (ls.length : Int) := by omega
          obtain ⟨ad, Ai, ci, rfl, hcell, hci, hrd⟩ := (HL.out.below hB.out).at_ i hlt0
          have HRD := Hide.mk hrd
          have LT := Hide.mk hlt0
          have E1 := Hide.mk (flatten_take ls i hlt0)
          have SZ : Hide (((ls.take i).flatten.length + (ls[i]).length) * 8 ≤ 140737488355328) := ⟨by
            have e1 := sumLen_take ls i hlt0
            have e2 := sumLen_le ls (i + 1)
            have e3 := HS.out
            rw [flatten_len]
            omega⟩
          generalize hL : ls[i] = L at *
          clear hrd hci
          go_wp2_with ((with_reducible refine gate_builtin (b := .append) (xs := #[.tmp 31, .tmp 32]) rfl ?_); at_builtin; go_loud (refine Kd.R_append_rows (Kd.int .i64) (w0 := w) w.heap.size rfl (.tmp 31) (.tmp 32) 38 3 (.int .i64 0) 8 rfl Tryz.underlying38 infoI rfl (by decide) (by omega) u6 ((ls.take i).flatten) L Ai L.length ci (fun _ => True) (fun _ => False) rfl rfl ?aO ?aR (fun _ _ h => h) (fun _ h => h.elim) ?aF ?aB ?aS ?aL ?_; (case aR => exact HRD.out); (case aB => exact hB.out); (case aF => exact (fun _ _ => trivial)); (case aO => exact hO.out); (case aS => exact (below_size hB.out)); (case aL => exact SZ.out); intro v3 w3 ho hb hg hat; rw [← E1.out] at ho; have HB3 := Hide.mk hb; have HO3 := Hide.mk ho; clear ho hb hg hat))
          go_roundw
          case rel => exact ⟨i + 1, by go_num, ⟨by have := LT.out; omega⟩, HO3, HB3⟩
          case measure => have := LT.out; simp [intOf]; omega
        · have hlt : ¬ (i : Int) < (ls.length : Int) := by omega
          have E := Hide.mk (show i = ls.length by have := hi2.out; omega)
          clear hlt0
          go_wp2
          go_ret
          refine ⟨_, rfl, ?_, hB.out⟩
          have h := hO.out
          rw [E.out, List.take_length] at h
          exact h
end Go.Proofs.YtplkndmkchpcdaaGreat.Sh
end
section
namespace Go.Proofs.YtplkndmkchpcdaaGreat.Sh
open Go.RowKit YtplkndmkchpcdaaGreatW.PrintWords YtplkndmkchpcdaaGreatW.PrintLast YtplkndmkchpcdaaGreatW.PrintMore MapFn Disk PShadowPlays Bitset
set_option maxHeartbeats 4000000
set_option maxRecDepth 100000
theorem lists_of_row {k : IntKind} {W : World} {g : Nat} {cs : Array Value} {t : TypeId} {ls : List (List Int)} (h : W.heap[g]? = some (.cells cs t (0, 0)))
    (hs : ∀ i (hi : i < ls.length), ∃ Ai ci, cs[i]? = some (.slice Ai (ls[i]).length ci) ∧ (ls[i]).length ≤ ci ∧ Kd.C (Kd.int k) W Ai (ls[i]).length ls[i]) : Lists k W (some ⟨g, 0, none⟩) ls :=
  ⟨fun i hi => by
    obtain ⟨Ai, ci, h1, h2, h3⟩ := hs i hi
    refine ⟨⟨g, 0, none⟩, Ai, ci, rfl, ?_, h2, h3⟩
    rw [add_plain, cell_of h]
    exact h1⟩
theorem one_reads (w : World) (x : Int) : Kd.C (Kd.int .i64) (w.alloc (.cells #[.int .i64 x] 3)) (some ⟨w.heap.size, 0, none⟩) 1 [x] := by
  refine Kd.C_of_reads (enc := Value.int .i64) (d := (0 : Int)) (h1 := fun _ => rfl) ⟨rfl, by simp, fun _ => ⟨_, rfl, fun j hj => ?_⟩⟩
  obtain rfl : j = 0 := by simpa using hj
  rw [add_plain, cell_of (heap_last _ _)]
  rfl
theorem lists4 {w : World} {A1 A2 A3 : Option Addr} {c1 c2 c3 : Nat} {l1 l2 l3 : List Int} (h1 : In .i64 w A1 l1 c1) (h2 : In .i64 w A2 l2 c2) (h3 : In .i64 w A3 l3 c3) (x : Int) (t : TypeId) :
    Lists .i64 ((w.alloc (.cells #[.int .i64 x] 3)).alloc (.cells #[.slice (some ⟨w.heap.size, 0, none⟩) 1 1, .slice A1 l1.length c1, .slice A2 l2.length c2, .slice A3 l3.length c3] t)) (some ⟨w.heap.size + 1, 0, none⟩) [[x], l1, l2, l3] := by
  have b1 : Below w.heap.size w (w.alloc (.cells #[.int .i64 x] 3)) := (Below.refl _ _).alloc (Nat.le_refl _) _
  have b2 := (Below.refl (w.alloc (.cells #[.int .i64 x] 3)).heap.size (w.alloc (.cells #[.int .i64 x] 3))).alloc (Nat.le_refl _) (.cells #[.slice (some ⟨w.heap.size, 0, none⟩) 1 1, .slice A1 l1.length c1, .slice A2 l2.length c2, .slice A3 l3.length c3] t)
  have hl := heap_last (w.alloc (.cells #[.int .i64 x] 3)) (.cells #[.slice (some ⟨w.heap.size, 0, none⟩) 1 1, .slice A1 l1.length c1, .slice A2 l2.length c2, .slice A3 l3.length c3] t)
  rw [show (w.alloc (.cells #[.int .i64 x] 3)).heap.size = w.heap.size + 1 by simp] at hl
  refine lists_of_row hl fun i hi => ?_
  match i, hi with
  | 0, _ => exact ⟨_, _, rfl, Nat.le_refl _, Kd.C_below (one_reads w x) b2⟩
  | 1, _ => exact ⟨_, _, rfl, h1.room, Kd.C_below (Kd.C_below h1.reads b1) b2⟩
  | 2, _ => exact ⟨_, _, rfl, h2.room, Kd.C_below (Kd.C_below h2.reads b1) b2⟩
  | 3, _ => exact ⟨_, _, rfl, h3.room, Kd.C_below (Kd.C_below h3.reads b1) b2⟩
def Root.val (r : Root) (tA : Option Addr) (tc : Nat) (mA : Option Addr) (mc : Nat) : Value :=
  .agg #[.int .i64 r.epoch, .int .i64 r.blocks, .int .i64 r.next, .int .i64 r.start, .slice tA r.tables.length tc, .slice mA r.maps.length mc]
def fold1 (m : List Int) (l : List Int) : List Int := l.foldl (fun m n => withL m n true) m
theorem fold1_take (m l : List Int) (i : Nat) (h : i < l.length) : fold1 m (l.take (i + 1)) = withL (fold1 m (l.take i)) l[i] true := by
  unfold fold1
  rw [List.take_add_one, List.getElem?_eq_getElem h, List.foldl_append]
  rfl
theorem withL_len (m : List Int) (n : Int) (on : Bool) : (withL m n on).length = m.length := by
  unfold withL
  split
  · exact withN_length _ _ _
  · rfl
theorem fold1_len (l : List Int) : ∀ m, (fold1 m l).length = m.length := by
  induction l with
  | nil => intro m; rfl
  | cons x r ih => intro m; exact (ih _).trans (withL_len _ _ _)
theorem clampN_le (n : Int) : Given.clampN n ≤ 512 := by unfold Given.clampN; repeat' split <;> omega
theorem emptyB_len (n : Int) : (emptyB n).length = Given.clampN n := by simp [emptyB]
theorem usedBy_any (r : Root) (table : List Int) (A c tc mc : _) (tA mA : Option Addr) (w : World) (ht : In .i64 w tA r.tables tc) (hm : In .i64 w mA r.maps mc) (hb : In .i64 w A table c)
    (hsz : table.length + r.tables.length + r.maps.length ≤ 10000) :
    Calls Tryz.prog 49 #[r.val tA tc mA mc, .slice A table.length c] w fun e w' => ∃ v, e = .returned v ∧ OwnB w' w.heap.size v (usedL r table) ∧ Below w.heap.size w w' := by
  unfold Root.val
  obtain ⟨M, hM⟩ : ∃ M, emptyB r.blocks = M := ⟨_, rfl⟩
  have HM := Hide.mk hM
  have HMe := Hide.mk (show List.replicate (Given.clampN r.blocks) 0 = M from hM)
  obtain ⟨L, hL⟩ : ∃ L, [[1], table, r.tables, r.maps].flatten = L := ⟨_, rfl⟩
  have HL := Hide.mk hL
  have HLN : Hide (L.length ≤ 10001) := ⟨by rw [← hL]; simp; omega⟩
  have HLE : Hide (L = [1] ++ table ++ r.tables ++ r.maps) := ⟨by rw [← hL]; simp⟩
  clear hL
  have HMs : Hide (Small M) := ⟨by have := clampN_le r.blocks; have := emptyB_len r.blocks; rw [hM] at this; unfold Small; omega⟩
  have HT := Hide.mk ht
  have HMp := Hide.mk hm
  have HB := Hide.mk hb
  have HZ := Hide.mk hsz
  clear ht hm hb hsz hM
  go_enter Tryz.func49, Tryz.ntmps49
  go_wp2_with (first
    | (go_at_call 46
       refine (Given.make_any r.blocks _).mono ?_
       rintro e w1 ⟨v1, rfl, ho, hb1⟩
       have BA := Hide.mk (show Below w.heap.size w w1 from (below_alloc (Below.refl _ _) _).trans (hb1.mono (by simp)))
       rw [HMe.out] at ho
       obtain ⟨A1, c1, rfl, hi1, hge1⟩ := In.of_own ho
       have I1 := Hide.mk hi1
       have hrow1 := (hb1.block _ (by simp)).trans (heap_last w (.cells #[.int .i64 r.epoch, .int .i64 r.blocks, .int .i64 r.next, .int .i64 r.start, .slice tA r.tables.length tc, .slice mA r.maps.length mc] 68))
       have k4 := cell_of (i := 4) hrow1
       have k5 := cell_of (i := 5) hrow1
       simp at k4 k5
       have hlt1 : w.heap.size < w1.heap.size := lt_of_row hrow1
       clear hrow1
       have CL := Hide.mk (lists4 (HB.out.below BA.out) (HT.out.below BA.out) (HMp.out.below BA.out) 1 38)
       clear ho hb1 hi1 hge1)
    | (go_at_call 90
       refine (concat_any _ 4 [[1], table, r.tables, r.maps] _ CL.out (by simp) (by simp [sumLen]; have := HZ.out; omega)).mono ?_
       rintro e w2 ⟨v2, rfl, ho, hb2⟩
       rw [HL.out] at ho
       obtain ⟨A2, c2, rfl, hi2, hge2⟩ := In.of_own ho
       have I2 := Hide.mk hi2
       have B2 := Hide.mk (show Below w.heap.size w w2 from ((BA.out.alloc BA.out.size _).alloc (by have := BA.out.size; simp; omega) _).trans (hb2.mono (by have := BA.out.size; simp; omega)))
       have J1 := Hide.mk (show In .u8 w2 A1 M c1 from
         ((I1.out.below ((Below.refl _ _).alloc (Nat.le_refl _) _)).below ((Below.refl _ _).alloc (Nat.le_refl _) _)).below hb2)
       clear ho hb2 hi2 hge2))
  clear CL I1
  have hn0 := HLN.out
  go_loopw [5, 20] (fun v5 v20 wr => ∃ (i : Nat) (A3 : Option Addr) (c3 : Nat), v20 = .int .i64 (i : Int) ∧ v5 = .slice A3 M.length c3 ∧ Hide (i ≤ L.length) ∧ Hide (In .u8 wr A3 (fold1 M (L.take i)) c3) ∧ Hide (Below w.heap.size w wr) ∧ Hide (In .i64 wr A2 L c2)) (fun _ v20 _ => L.length - (intOf v20).toNat)
  case atStart => exact ⟨0, A1, c1, by first | rfl | simp, rfl, ⟨Nat.zero_le _⟩, J1, B2, I2⟩
  case round =>
    obtain ⟨i, A3, c3, rfl, rfl, hi, hM3, hB, hL3⟩ := hrel
    clear J1 I2 B2
    by_cases hlt0 : i < L.length
    · have hlt : (i : Int) < (L.length : Int) := by omega
      obtain ⟨ad, rfl, hcell⟩ := Kd.at_int hL3.out.reads (i : Int) (by omega) hlt
      simp only [Int.toNat_natCast] at hcell
      have hrd : rd L (i : Int) = L[i] := by simp [rd, List.getD_eq_getElem?_getD, hlt0]
      rw [hrd] at hcell
      have LT := Hide.mk hlt0
      have E1 := Hide.mk (fold1_take M L i hlt0)
      generalize L[i] = x at *
      have HW := Hide.mk (with_any hM3.out.inB (by have := HMs.out; unfold Small at *; rw [fold1_len]; exact this) x true)
      rw [fold1_len] at HW
      clear hlt0 hrd
      go_wp2_with (go_at_call 70; refine HW.out.mono ?_; rintro e w3 ⟨v3, rfl, ho, hb3⟩; rw [← E1.out] at ho; obtain ⟨A4, c4, rfl, hi4, hge4⟩ := In.of_own ho; have I4 := Hide.mk hi4; have B4 := Hide.mk (hB.out.trans (hb3.mono hB.out.size)); have L4 := Hide.mk (hL3.out.below hb3); rw [fold1_len]; clear ho hb3 hi4 hge4)
      go_roundw
      case rel => exact ⟨i + 1, A4, c4, by go_num, rfl, ⟨by have := LT.out; omega⟩, I4, B4, L4⟩
      case measure => have := LT.out; simp [intOf]; omega
    · have hlt : ¬ (i : Int) < (L.length : Int) := by omega
      have E := Hide.mk (show i = L.length by have := hi.out; omega)
      have HW := Hide.mk (with_any hM3.out.inB (by have := HMs.out; unfold Small at *; rw [fold1_len]; exact this) 0 true)
      rw [fold1_len] at HW
      clear hlt0
      go_wp2_with (go_at_call 70; refine HW.out.mono ?_; rintro e w3 ⟨v3, rfl, ho, hb3⟩; have O3 := Hide.mk ho; have B3 := Hide.mk hb3; clear ho hb3)
      go_ret
      refine ⟨_, rfl, ?_, hB.out.trans (B3.out.mono hB.out.size)⟩
      have h := Kd.R_lower O3.out hB.out.size
      rw [E.out, List.take_length, HLE.out, ← HM.out] at h
      exact h
end Go.Proofs.YtplkndmkchpcdaaGreat.Sh
end
section
namespace Go.Proofs.YtplkndmkchpcdaaGreat.Sh
open Go.RowKit YtplkndmkchpcdaaGreatW.PrintWords YtplkndmkchpcdaaGreatW.PrintLast YtplkndmkchpcdaaGreatW.PrintMore MapFn Disk PShadowPlays Bitset
set_option maxHeartbeats 4000000
set_option maxRecDepth 100000
theorem within_any (n lo hi : Int) (w : World) : Calls Tryz.prog 146 #[.int .i64 n, .int .i64 lo, .int .i64 hi] w fun e w' => e = .returned (.bool (inside n lo hi)) ∧ Drawn0 w w' := by
  refine root_within.calls n lo hi _ w ?_
  unfold root_within.f inside
  by_cases h : n ≥ lo
  · rw [if_pos h, decide_eq_true (show lo ≤ n from h), Bool.true_and]
  · rw [if_neg h, decide_eq_false (show ¬ lo ≤ n from h), Bool.false_and]
theorem row_last {w : World} {o : Obj} {i : Nat} (h : i = w.heap.size) : (w.alloc o).heap[i]? = some o := by subst h; exact heap_last w o
theorem concat2_any {W : World} {g : Nat} {A1 A2 : Option Addr} {c1 c2 : Nat} {l1 l2 L : List Int} {t : TypeId} (hrow : W.heap[g]? = some (.cells #[.slice A1 l1.length c1, .slice A2 l2.length c2] t (0, 0)))
    (h1 : In .i64 W A1 l1 c1) (h2 : In .i64 W A2 l2 c2) (hs : l1.length + l2.length ≤ 1000000) (hL : [l1, l2].flatten = L) :
    Calls Tryz.prog 90 #[.slice (some ⟨g, 0, none⟩) 2 2] W fun e w' => ∃ A c, e = .returned (.slice A L.length c) ∧ In .i64 w' A L c ∧ (∀ a, A = some a → W.heap.size ≤ a.block) ∧ Below W.heap.size W w' := by
  have hl : Lists .i64 W (some ⟨g, 0, none⟩) [l1, l2] := by
    refine lists_of_row hrow fun i hi => ?_
    match i, hi with
    | 0, _ => exact ⟨_, _, rfl, h1.room, h1.reads⟩
    | 1, _ => exact ⟨_, _, rfl, h2.room, h2.reads⟩
  refine (concat_any (some ⟨g, 0, none⟩) 2 [l1, l2] W hl (by simp) (by simpa [sumLen] using hs)).mono ?_
  rintro e w2 ⟨v2, rfl, ho, hb2⟩
  rw [hL] at ho
  obtain ⟨A2, c2, rfl, hi2, hge2⟩ := In.of_own ho
  exact ⟨A2, c2, rfl, hi2, hge2, hb2⟩
theorem check_any (r : Root) (tc mc : Nat) (tA mA : Option Addr) (w : World) (ht : In .i64 w tA r.tables tc) (hm : In .i64 w mA r.maps mc) (hsz : r.tables.length + r.maps.length ≤ 10000) (hbl : -1000000 ≤ r.blocks ∧ r.blocks ≤ 1000000) :
    Calls Tryz.prog 116 #[r.val tA tc mA mc] w fun e w' => e = .returned (.int .i64 r.check) ∧ Below w.heap.size w w' := by
  unfold Root.val
  have HT := Hide.mk ht
  have HMp := Hide.mk hm
  have HZ := Hide.mk hsz
  have HBL := Hide.mk hbl
  obtain ⟨b1, h1⟩ : ∃ b, inside r.epoch 0 1099511627776 = b := ⟨_, rfl⟩
  obtain ⟨b2, h2⟩ : ∃ b, inside r.blocks 2 4096 = b := ⟨_, rfl⟩
  obtain ⟨b3, h3⟩ : ∃ b, inside r.next 0 3000 = b := ⟨_, rfl⟩
  obtain ⟨b4, h4⟩ : ∃ b, inside r.start 0 r.next = b := ⟨_, rfl⟩
  have E1 := Hide.mk h1
  have E2 := Hide.mk h2
  have E3 := Hide.mk h3
  have E4 := Hide.mk h4
  unfold Root.check
  rw [h1, h2, h3, h4]
  clear h1 h2 h3 h4 ht hm hsz hbl
  cases b1
  · rw [if_pos (by simp)]
    go_enter Tryz.func116, Tryz.ntmps116
    go_wp2_with (first | (go_at_call 146; refine (within_any _ _ _ _).mono ?_; rintro e w9 ⟨rfl, ⟨nd, rfl⟩⟩; first | rw [E1.out] | rw [E2.out] | rw [E3.out] | rw [E4.out]))
    go_ret
    exact ⟨rfl, by repeat (with_reducible first | exact Below.refl _ _ | apply pw_below_drewN | apply below_alloc)⟩
  cases b2
  · rw [if_pos (by simp)]
    go_enter Tryz.func116, Tryz.ntmps116
    go_wp2_with (first | (go_at_call 146; refine (within_any _ _ _ _).mono ?_; rintro e w9 ⟨rfl, ⟨nd, rfl⟩⟩; first | rw [E1.out] | rw [E2.out] | rw [E3.out] | rw [E4.out]))
    go_ret
    exact ⟨rfl, by repeat (with_reducible first | exact Below.refl _ _ | apply pw_below_drewN | apply below_alloc)⟩
  cases b3
  · rw [if_pos (by simp)]
    go_enter Tryz.func116, Tryz.ntmps116
    go_wp2_with (first | (go_at_call 146; refine (within_any _ _ _ _).mono ?_; rintro e w9 ⟨rfl, ⟨nd, rfl⟩⟩; first | rw [E1.out] | rw [E2.out] | rw [E3.out] | rw [E4.out]))
    go_ret
    exact ⟨rfl, by repeat (with_reducible first | exact Below.refl _ _ | apply pw_below_drewN | apply below_alloc)⟩
  cases b4
  · rw [if_pos (by simp)]
    go_enter Tryz.func116, Tryz.ntmps116
    go_wp2_with (first | (go_at_call 146; refine (within_any _ _ _ _).mono ?_; rintro e w9 ⟨rfl, ⟨nd, rfl⟩⟩; first | rw [E1.out] | rw [E2.out] | rw [E3.out] | rw [E4.out]))
    go_ret
    exact ⟨rfl, by repeat (with_reducible first | exact Below.refl _ _ | apply pw_below_drewN | apply below_alloc)⟩
  rw [if_neg (by simp)]
  by_cases c1 : 26 < r.tables.length
  · rw [if_pos (.inl c1)]
    have q1 : (26 : Int) < (r.tables.length : Int) := by omega
    clear c1
    go_enter Tryz.func116, Tryz.ntmps116
    go_wp2_with (first | (go_at_call 146; refine (within_any _ _ _ _).mono ?_; rintro e w9 ⟨rfl, ⟨nd, rfl⟩⟩; first | rw [E1.out] | rw [E2.out] | rw [E3.out] | rw [E4.out]))
    go_ret
    exact ⟨rfl, by repeat (with_reducible first | exact Below.refl _ _ | apply pw_below_drewN | apply below_alloc)⟩
  have q1 : ¬ (26 : Int) < (r.tables.length : Int) := by omega
  by_cases c2 : 3 < r.maps.length
  · rw [if_pos (.inr c2)]
    have q2 : (3 : Int) < (r.maps.length : Int) := by omega
    clear c1 c2
    go_enter Tryz.func116, Tryz.ntmps116
    go_wp2_with (first | (go_at_call 146; refine (within_any _ _ _ _).mono ?_; rintro e w9 ⟨rfl, ⟨nd, rfl⟩⟩; first | rw [E1.out] | rw [E2.out] | rw [E3.out] | rw [E4.out]))
    go_ret
    exact ⟨rfl, by repeat (with_reducible first | exact Below.refl _ _ | apply pw_below_drewN | apply below_alloc)⟩
  have q2 : ¬ (3 : Int) < (r.maps.length : Int) := by omega
  rw [if_neg (by omega)]
  clear c1 c2
  obtain ⟨L, hL⟩ : ∃ L, [r.tables, r.maps].flatten = L := ⟨_, rfl⟩
  have HL := Hide.mk hL
  have HLE : Hide (r.tables ++ r.maps = L) := ⟨by rw [← hL]; simp⟩
  have HLN : Hide (L.length ≤ 10001) := ⟨by rw [← HLE.out]; simp; have := HZ.out; omega⟩
  rw [HLE.out]
  clear hL
  obtain ⟨R, hR⟩ : ∃ R : Int, (if (L.all fun n => inside n 2 (r.blocks - 1)) = false then 12 else 0) = R := ⟨_, rfl⟩
  rw [hR]
  have HR := Hide.mk hR
  clear hR
  go_enter Tryz.func116, Tryz.ntmps116
  go_wp2_with (first
    | (go_at_call 146; refine (within_any _ _ _ _).mono ?_; rintro e w9 ⟨rfl, ⟨nd, rfl⟩⟩; (first | rw [E1.out] | rw [E2.out] | rw [E3.out] | rw [E4.out]))
    | (go_at_call 90
       refine (concat2_any (g := w.heap.size + 1) (A1 := tA) (A2 := mA) (c1 := tc) (c2 := mc) (l1 := r.tables) (l2 := r.maps) (L := L) (t := 38) ?hrow ?h1 ?h2 ?hs HL.out).mono ?_
       case hrow => exact row_last (by simp)
       case h1 => exact HT.out.below (by repeat (with_reducible first | exact Below.refl _ _ | apply pw_below_drewN | apply below_alloc))
       case h2 => exact HMp.out.below (by repeat (with_reducible first | exact Below.refl _ _ | apply pw_below_drewN | apply below_alloc))
       case hs => have := HZ.out; omega
       rintro e w2 ⟨A2, c2, rfl, hi2, hge2, hb2⟩
       have I2 := Hide.mk hi2
       have B2 := Hide.mk (Below.trans (show Below w.heap.size w _ by repeat (with_reducible first | exact Below.refl _ _ | apply pw_below_drewN | apply below_alloc)) (hb2.mono (by simp; omega)))
       have k1 : w2.cell? ⟨w.heap.size, 1, none⟩ = some (.int .i64 r.blocks) := pw_cell_below hb2 (by go_simp)
       have K1 := Hide.mk k1
       have hlt : w.heap.size < w2.heap.size := block_lt_of_cell k1
       clear hb2 hi2 hge2 k1))
  clear q1 q2
  have hbl := HBL.out
  have hn0 := HLN.out
  go_loopw [46] (fun v46 wr => ∃ i : Nat, v46 = .int .i64 (i : Int) ∧ Hide (i ≤ L.length) ∧ Hide ((L.take i).all (fun n => inside n 2 (r.blocks - 1)) = true) ∧ Hide (Below w.heap.size w wr) ∧ Hide (In .i64 wr A2 L c2) ∧ Hide (wr.cell? ⟨w.heap.size, 1, none⟩ = some (.int .i64 r.blocks))) (fun v46 _ => L.length - (intOf v46).toNat)
  case atStart => exact ⟨0, by first | rfl | simp, ⟨Nat.zero_le _⟩, ⟨rfl⟩, B2, I2, K1⟩
  case round =>
    obtain ⟨i, rfl, hi, hall, hB, hI, hK⟩ := hrel
    clear I2 B2 K1
    by_cases hlt0 : i < L.length
    · have hlt : (i : Int) < (L.length : Int) := by omega
      obtain ⟨ad, rfl, hcell⟩ := Kd.at_int hI.out.reads (i : Int) (by omega) hlt
      simp only [Int.toNat_natCast] at hcell
      have hrd : rd L (i : Int) = L[i] := by simp [rd, List.getD_eq_getElem?_getD, hlt0]
      rw [hrd] at hcell
      have LT := Hide.mk hlt0
      have T1 : Hide (∀ b, inside L[i] 2 (r.blocks - 1) = b → (L.take (i + 1)).all (fun n => inside n 2 (r.blocks - 1)) = b) := ⟨fun b hb => by
        rw [List.take_add_one, List.getElem?_eq_getElem hlt0, List.all_append, hall.out]
        simpa using hb⟩
      have T2 : Hide (inside L[i] 2 (r.blocks - 1) = false → L.all (fun n => inside n 2 (r.blocks - 1)) = false) := ⟨fun hb => by
        rw [List.all_eq_false]
        exact ⟨L[i], List.getElem_mem _, by simpa using hb⟩⟩
      have k1 := hK.out
      generalize L[i] = x at *
      obtain ⟨b, hb⟩ : ∃ b, inside x 2 (r.blocks - 1) = b := ⟨_, rfl⟩
      have E5 := Hide.mk hb
      clear hlt0 hrd hb hall
      cases b with
      | true =>
        go_wp2_with (go_at_call 146; refine (within_any _ _ _ _).mono ?_; rintro e w9 ⟨rfl, ⟨nd, rfl⟩⟩; rw [E5.out])
        go_roundw
        case rel => exact ⟨i + 1, by go_num, ⟨by have := LT.out; omega⟩, ⟨T1.out _ E5.out⟩, ⟨pw_below_drewN hB.out _⟩, ⟨hI.out.below (pw_below_drewN (Below.refl _ _) _)⟩, ⟨hK.out⟩⟩
        case measure => have := LT.out; simp [intOf]; omega
      | false =>
        go_wp2_with (go_at_call 146; refine (within_any _ _ _ _).mono ?_; rintro e w9 ⟨rfl, ⟨nd, rfl⟩⟩; rw [E5.out])
        go_ret
        refine ⟨?_, pw_below_drewN hB.out _⟩
        have h := HR.out
        rw [if_pos (T2.out E5.out)] at h
        rw [← h]
        rfl
    · have hlt : ¬ (i : Int) < (L.length : Int) := by omega
      have E := Hide.mk (show i = L.length by have := hi.out; omega)
      clear hlt0
      go_wp2
      go_ret
      refine ⟨?_, hB.out⟩
      have h := hall.out
      rw [E.out, List.take_length] at h
      have h2 := HR.out
      rw [if_neg (by rw [h]; simp)] at h2
      rw [← h2]
      rfl
end Go.Proofs.YtplkndmkchpcdaaGreat.Sh
end
section
namespace Go.Proofs.YtplkndmkchpcdaaGreat.Sh
open Go.RowKit YtplkndmkchpcdaaGreatW.PrintWords YtplkndmkchpcdaaGreatW.PrintLast YtplkndmkchpcdaaGreatW.PrintMore MapFn Disk PShadowPlays Bitset
set_option maxHeartbeats 4000000
set_option maxRecDepth 100000
theorem zeroCells_one (x : Value) (n : Nat) : Builtin.zeroCells #[x] n = (List.replicate n x).toArray := by
  apply Array.ext
  · simp [Builtin.zeroCells]
  · intro i h1 h2
    simp [Builtin.zeroCells, Nat.mod_one]
abbrev OwnU (w : World) (base : Nat) (v : Value) (l : List Int) : Prop := Kd.R (Kd.int .u8) 5 w base (fun _ => True) v l
theorem run_zeros (w : World) (base : Nat) (v : Value) (l : List Int) (m : Nat) (h0 : 0 < m) (hm : l.length + m ≤ 1000000) (h : OwnU w base v l) (hl : 0 < l.length) (hb : base ≤ w.heap.size) (ty : TypeId) :
    ∃ v' w', (Builtin.append_ #[22, 3] ty #[v, .int .i64 (m : Int)]).run Tryz.prog w = .ok v' w' ∧ OwnU w' base v' (l ++ List.replicate m 0) ∧ w.grownBy w' v.ownBlock ∧ (v'.ownBlock = v.ownBlock ∨ v'.ownBlock = some w.heap.size) := by
  obtain ⟨i, hi, hz⟩ := Option.map_eq_some_iff.1 info8
  simp only [Prod.mk.injEq] at hz
  obtain ⟨hz, hs, hby⟩ := hz
  have hw : IntKind.i64.wrap (m : Int) = (m : Int) := by rw [IntKind.wrap_i64]; omega
  have hn' : m ≠ 0 := by omega
  have h1 : ¬ ((m : Int) < 0) := by omega
  have h2 : ¬ (281474976710656 < (m : Int)) := by omega
  have hown := Kd.own_of_R (enc := Value.int .u8) (h1 := fun _ => rfl) h
  obtain ⟨hx, hr⟩ := hown
  rcases hr with ⟨rfl, hn⟩ | ⟨g, cap, cur, rfl, hbg, hg, hnc, hcm, hcs, htake⟩
  · omega
  · simp only [Nat.mul_one] at hcs htake
    have hel : (encs (Value.int .u8) (l ++ List.replicate m 0)) = encs (Value.int .u8) l ++ List.replicate m (Value.int .u8 0) := by simp [encs]
    have hxl : (encs (Value.int .u8) l).length = l.length := by simp [encs]
    by_cases hroom : l.length + m ≤ cap
    · have hst := run_storeCells_at Tryz.prog g l.length 5 (List.replicate m (Value.int .u8 0)) 0 cur w hg (by simp; omega) (by intro u hu; rw [List.eq_of_mem_replicate hu]; rfl)
      simp only [Nat.add_zero] at hst
      refine ⟨.slice (some ⟨g, 0, none⟩) (l.length + m) cap, w.setRow g (cur.toList.take l.length ++ List.replicate m (Value.int .u8 0) ++ cur.toList.drop (l.length + m)).toArray, ?_, ?_, ⟨rfl, rfl, rfl, by simp, fun k _ hk => setRow_other w g k _ (fun e => hk (by simp [Value.ownBlock, e]))⟩, .inl rfl⟩
      · simp [Builtin.append_, run_underlying Tryz.underlying22, run_underlying und_int, sizeOf, typeInfo, zeroValue, hi, hz, hs, hby, Builtin.lenOf, hn', h1, h2, hw, asInt, asIntOf, hroom, Addr.add_lit, hst, Value.cells, zeroCells_one]
      · refine Kd.R_of_own (enc := Value.int .u8) (h1 := fun _ => rfl) ⟨by simp [encs], .inr ⟨g, cap, _, by simp, hbg, setRow_heap w g cur _ 5 _ hg, by simp; omega, hcm, ?_, ?_⟩⟩ (fun _ _ => trivial)
        · simp
          omega
        · rw [htake, hel]
          simp
          rw [← List.append_assoc]
          exact List.take_left' (by simp [hxl])
    · have h63' : ¬ (9223372036854775807 < ((l.length : Int) + (m : Int))) := by omega
      have h48' : ¬ (281474976710656 < Builtin.nextslicecap (l.length + m) cap) := by
        have := growslice_fits (bytes := 1) (need := l.length + m) (old := cap) (by omega) (by omega)
        omega
      have holds : ∀ j u, (encs (Value.int .u8) l)[j]? = some u → w.cell? ((⟨g, 0, none⟩ : Addr).add j) = some u := by
        intro j u hj
        have hjl := (List.getElem?_eq_some_iff.1 hj).1
        rw [add_plain, cell_of hg]
        rw [← htake, List.getElem?_take] at hj
        split at hj
        · simpa using hj
        · cases hj
      have hfo := run_firstCells_some (P := Tryz.prog) w.drew 1 l.length ⟨g, 0, none⟩ l.length cap (encs (Value.int .u8) l) (by simp [hxl]) (by simpa using holds)
      have hge := grownCap_ge w (l.length + m) cap 5
      have hle := grownCap_le_maxLen w (l.length + m) cap 5 (by unfold maxLen; omega)
      refine ⟨.slice (some ⟨w.heap.size, 0, none⟩) (l.length + m) (grownCap w (l.length + m) cap 5), w.drew.alloc (.cells ((encs (Value.int .u8) l).toArray ++ (List.replicate m (Value.int .u8 0)).toArray ++ (List.replicate (grownCap w (l.length + m) cap 5 - (l.length + m)) (Value.int .u8 0)).toArray) 5), ?_, ?_, ?_, .inr rfl⟩
      · simp [Builtin.append_, run_underlying Tryz.underlying22, run_underlying und_int, sizeOf, typeInfo, zeroValue, hi, hz, hs, hby, Builtin.lenOf, hn', h1, h2, hw, asInt, asIntOf, hroom, h63', h48', hfo, Question.forced, newRow, grownCap, Value.cells, zeroCells_one]
      · refine Kd.R_of_own (enc := Value.int .u8) (h1 := fun _ => rfl) ⟨by simp [encs], .inr ⟨w.heap.size, grownCap w (l.length + m) cap 5, _, by simp, hb, heap_last w.drew _, by simp; exact hge, hle, ?_, ?_⟩⟩ (fun _ _ => trivial)
        · simp [hxl]
          omega
        · rw [hel]
          simp
          rw [show m + (grownCap w (l.length + m) cap 5 - (l.length + m)) = m + (grownCap w (l.length + m) cap 5 - (l.length + m)) from rfl, ← List.replicate_append_replicate, ← List.append_assoc]
          exact List.take_left' (by simp [hxl])
      · exact ⟨rfl, rfl, rfl, by simp, fun k hk _ => heap_old w.drew _ k hk⟩
theorem wp_zeros {w : World} {ops : Array Oper} {rest : List Oper} {o : Oper} {a : Act} {Q : Exit → Act → World → Prop} (hgd : o.guard = none) (s x : Operand)
    (ho : o.op = .call { callee := .builtin .append, args := #[s, x], argTypes := #[22, 3] }) (base : Nat) (v : Value) (l : List Int) (m : Nat) (h0 : 0 < m) (hm : l.length + m ≤ 1000000) (h : OwnU w base v l) (hl : 0 < l.length) (hb : base ≤ w.heap.size) (hs : a.eval s = v) (hx : a.eval x = .int .i64 (m : Int))
    (hK : ∀ v' w', OwnU w' base v' (l ++ List.replicate m 0) → w.grownBy w' v.ownBlock → (v'.ownBlock = v.ownBlock ∨ v'.ownBlock = some w.heap.size) → wpList Tryz.prog ops Q rest (a.put o.dst v') w') : wpList Tryz.prog ops Q (o :: rest) a w := by
  refine wpList_plain hgd fun K hK' => ?_
  obtain ⟨v', w', hrun, h1, h2, h3⟩ := run_zeros w base v l m h0 hm h hl hb o.type
  unfold Oper.wp execOp
  simp only [ho, resolve, invoke, builtin, Sem.run_bind, Sem.run_pure, Result.andThen_ok, List.map_toArray, List.map_cons, List.map_nil, hs, hx, hrun]
  exact hK' _ _ (hK _ _ h1 h2 h3)
theorem grownBy_moves {w w' : World} {row : Option Nat} (h : w.grownBy w' row) : Moves row.toList w w' :=
  ⟨h.os, h.tape, h.output, h.size, fun k hk hn => h.block k hk (fun e => hn (by rw [← e]; simp))⟩
theorem In.grown {k : IntKind} {w w' : World} {A : Option Addr} {l : List Int} {c : Nat} {row : Option Nat} (h : In k w A l c) (hg : w.grownBy w' row) (hne : ∀ a, A = some a → some a.block ≠ row) : In k w' A l c :=
  h.moves (grownBy_moves hg) (fun a ha hm => hne a ha (by cases row with | none => simp at hm | some b => simp at hm; rw [hm]))
end Go.Proofs.YtplkndmkchpcdaaGreat.Sh
end
section
namespace Go.Proofs.YtplkndmkchpcdaaGreat.Sh
open Go.RowKit YtplkndmkchpcdaaGreatW.PrintWords YtplkndmkchpcdaaGreatW.PrintLast YtplkndmkchpcdaaGreatW.PrintMore MapFn Disk PShadowPlays Bitset
set_option maxHeartbeats 4000000
set_option maxRecDepth 100000
def putsN (k : Nat) (l : List Int) : List Int := l.flatMap (putN k)
theorem putsN_take (k : Nat) (l : List Int) (i : Nat) (h : i < l.length) : putsN k (l.take (i + 1)) = putsN k (l.take i) ++ putN k l[i] := by
  unfold putsN
  rw [List.take_add_one, List.getElem?_eq_getElem h, List.flatMap_append]
  simp
theorem putsN_len (k : Nat) (l : List Int) : (putsN k l).length = k * l.length := by
  induction l with
  | nil => rfl
  | cons x r ih =>
    show (putN k x ++ putsN k r).length = _
    rw [List.length_append, ih, putN_len, List.length_cons, Nat.mul_add]
    omega
theorem OwnU.grown {w w' : World} {base : Nat} {v : Value} {l : List Int} {row : Option Nat} (h : OwnU w base v l) (hg : w.grownBy w' row) (hne : row ≠ v.ownBlock ∨ row = none) : OwnU w' base v l := by
  rcases hne with hne | rfl
  · exact Kd.R_grown1 h rfl hg hne
  · exact Kd.R_grown2 h rfl hg (fun k hk => by cases hk)
theorem OwnU.typed {w : World} {base : Nat} {v : Value} {l : List Int} (h : OwnU w base v l) {g : Nat} {cs : Array Value} {t : TypeId} (hg : w.heap[g]? = some (.cells cs t (0, 0))) (ht : t ≠ 5) : some g ≠ v.ownBlock := by
  intro e
  obtain ⟨cells, hc⟩ := Kd.R_typed h g e.symm
  rw [hg] at hc
  injection hc with hc
  injection hc with h1 h2
  exact ht h2
structure Lay (w0 w : World) (base pb : Nat) (A : Option Addr) (v : Value) (l : List Int) : Prop where
  row : w.heap[pb]? = some (.cells #[v] 22 (0, 0))
  own : OwnU w base v l
  apart : ∀ a, A = some a → some a.block ≠ v.ownBlock ∧ a.block ≠ pb
  below : Below base w0 w
  le : base ≤ w.heap.size
theorem lay1_any (k : Nat) (A : Option Addr) (c : Nat) (l : List Int) (base pb : Nat) (v0 : Value) (l0 : List Int) (w0 w : World) (h1 : 1 ≤ k) (h6 : k ≤ 6) (hr : In .i64 w A l c) (hn : ∀ n ∈ l, 0 ≤ n ∧ n < 256 ^ k) (hL : Lay w0 w base pb A v0 l0) (hpb : base ≤ pb) (hz : l0.length + k * l.length ≤ 100000) :
    Calls Tryz.prog 117 #[.int .i64 (k : Int), .slice A l.length c, .pointer (some ⟨pb, 0, none⟩)] w fun e w' => e = .returned (.tuple #[]) ∧ ∃ v, Lay w0 w' base pb none v (l0 ++ putsN k l) ∧ w.heap.size ≤ w'.heap.size := by
  have HR := Hide.mk hr
  have HN := Hide.mk hn
  have HL := Hide.mk hL
  have HP := Hide.mk hpb
  have HZ := Hide.mk hz
  have HK := Hide.mk (show 1 ≤ k ∧ k ≤ 6 from ⟨h1, h6⟩)
  have hmx := hr.reads.2.1
  have HLN : Hide (l.length ≤ 100000) := ⟨by have : 1 * l.length ≤ k * l.length := Nat.mul_le_mul_right _ h1; omega⟩
  clear hr hn hL hpb hz h1 h6
  go_enter Tryz.func117, Tryz.ntmps117
  go_wp2
  go_loopw [11] (fun v11 wr => ∃ (i : Nat) (v : Value), v11 = .int .i64 (i : Int) ∧ Hide (i ≤ l.length) ∧ Hide (Lay w0 wr base pb A v (l0 ++ putsN k (l.take i))) ∧ Hide (In .i64 wr A l c) ∧ Hide (w.heap.size ≤ wr.heap.size)) (fun v11 _ => l.length - (intOf v11).toNat)
  case atStart => exact ⟨0, v0, by first | rfl | simp, ⟨Nat.zero_le _⟩, ⟨by simpa [putsN] using HL.out⟩, HR, ⟨Nat.le_refl _⟩⟩
  case round =>
    obtain ⟨i, v, rfl, hi, hLy, hI, hS⟩ := hrel
    clear HL HR
    have hln := HLN.out
    by_cases hlt0 : i < l.length
    · have hlt : (i : Int) < (l.length : Int) := by omega
      obtain ⟨ad, hA, hcell⟩ := Kd.at_int hI.out.reads (i : Int) (by omega) hlt
      simp only [Int.toNat_natCast] at hcell
      have hrd : rd l (i : Int) = l[i] := by simp [rd, List.getD_eq_getElem?_getD, hlt0]
      rw [hrd] at hcell
      have LT := Hide.mk hlt0
      have E1 := Hide.mk (putsN_take k l i hlt0)
      have HX := Hide.mk (HN.out l[i] (List.getElem_mem _))
      have SZ : Hide ((l0 ++ putsN k (l.take i)).length + k ≤ 100000) := ⟨by
        have e2 : k * (i + 1) ≤ k * l.length := Nat.mul_le_mul_left _ hlt0
        have e3 := HZ.out
        rw [List.length_append, putsN_len, List.length_take, Nat.min_eq_left (Nat.le_of_lt hlt0)]
        rw [Nat.mul_add] at e2
        omega⟩
      have HAP := Hide.mk hA
      subst hA
      generalize l[i] = x at *
      obtain ⟨M, hM⟩ : ∃ M, l0 ++ putsN k (l.take i) = M := ⟨_, rfl⟩
      rw [hM] at hLy SZ
      have HM := Hide.mk hM
      clear hM
      clear hlt0 hrd
      go_wp2_with (first
        | (go_at_call 118
           refine (put_any x k _ HK.out.1 HK.out.2 HX.out.1 HX.out.2).mono ?_
           rintro e w2 ⟨v2, rfl, ho, hb2⟩
           have hlen2 : (putN k x).length = k := putN_len k x
           obtain ⟨A2, c2, rfl, hi2, hge2⟩ := In.of_own ho
           have I2 := Hide.mk hi2
           have row2 := (hb2.block pb (lt_of_row hLy.out.row)).trans hLy.out.row
           have c0 : w2.cell? ⟨pb, 0, none⟩ = some v := cell_of row2
           have f0 : w2.frozen? ⟨pb, 0, none⟩ = false := free_of row2
           have R2 := Hide.mk row2
           have O2 := Hide.mk (Kd.R_below hLy.out.own hb2)
           have B2 := Hide.mk (hLy.out.below.trans (hb2.mono hLy.out.le))
           have S2 := Hide.mk hb2.size
           have IA2 := Hide.mk (hI.out.below hb2)
           clear ho hb2 hi2 hge2 row2)
        | ((with_reducible refine gate_builtin (b := .append) (xs := #[.tmp 21, .tmp 22]) rfl ?_); at_builtin
           refine Kd.R_append_rows (Kd.int .u8) (w0 := w0) base rfl (.tmp 21) (.tmp 22) 22 5 (.int .u8 0) 1 rfl Tryz.underlying22 info8 rfl (by decide) (by omega) v M (putN k x) A2 k c2 (fun _ => True) (fun _ => False) rfl rfl ?aO ?aR (fun _ _ h => h) (fun _ h => h.elim) ?aF ?aB ?aS ?aL ?_
           case aR => have h := I2.out.reads; rw [putN_len] at h; exact h
           case aB => exact B2.out
           case aF => exact (fun _ _ => trivial)
           case aO => exact O2.out
           case aS => exact Nat.le_trans hLy.out.le S2.out
           case aL => have := SZ.out; omega
           intro v3 w3 ho hb hg hat
           obtain ⟨A3, cc3, hv3⟩ := Kd.R_slice ho
           obtain ⟨n3, hn3⟩ : ∃ n, (M ++ putN k x).length = n := ⟨_, rfl⟩
           rw [hn3] at hv3
           subst hv3
           have hne3 : some pb ≠ v.ownBlock := OwnU.typed O2.out R2.out (by decide)
           have row3 := (hg.block pb (lt_of_row R2.out) hne3).trans R2.out
           have c3 : w3.cell? ⟨pb, 0, none⟩ = some v := cell_of row3
           have f3 : w3.frozen? ⟨pb, 0, none⟩ = false := free_of row3
           have hs3 := set_row (i := 0) row3 (.slice A3 n3 cc3)
           have hmv : w3.grownBy (w3.setCell ⟨pb, 0, none⟩ (.slice A3 n3 cc3)) (some pb) := ⟨rfl, rfl, rfl, by simp, fun q _ hq => heap_setCell_other _ _ _ _ (fun e => hq (by rw [e]))⟩
           have hne4 : some pb ≠ (Value.slice A3 n3 cc3).ownBlock := OwnU.typed ho row3 (by decide)
           have hltA : ad.block < w2.heap.size := IA2.out.lt ad rfl
           have hap3 : some ad.block ≠ (Value.slice A3 n3 cc3).ownBlock := by
             rcases hat with e | ⟨b, e, hb⟩
             · rw [e]; exact (hLy.out.apart ad rfl).1
             · rw [e]; intro q; have := Option.some.inj q; omega
           have FIN := Hide.mk (show Lay w0 (w3.setCell ⟨pb, 0, none⟩ (.slice A3 n3 cc3)) base pb (some ad) (.slice A3 n3 cc3) (M ++ putN k x) ∧ In .i64 (w3.setCell ⟨pb, 0, none⟩ (.slice A3 n3 cc3)) (some ad) l c ∧ w.heap.size ≤ (w3.setCell ⟨pb, 0, none⟩ (.slice A3 n3 cc3)).heap.size from
             ⟨⟨by simpa using hs3, OwnU.grown ho hmv (.inl hne4), fun a ha => by cases ha; exact ⟨hap3, (hLy.out.apart ad rfl).2⟩, hb.grown hmv (Nat.le_trans (Nat.le_trans hLy.out.le S2.out) hg.size) (fun q hq => by cases hq; exact HP.out), by have := hg.size; have := S2.out; have := hLy.out.le; simp; omega⟩,
              (IA2.out.grown hg (fun a ha => by cases ha; exact (hLy.out.apart ad rfl).1)).grown hmv (fun a ha => by cases ha; intro q; exact (hLy.out.apart ad rfl).2 (Option.some.inj q)), by have := hg.size; have := S2.out; have := hS.out; simp; omega⟩)
           clear hn3 ho hb hg hat hs3 hmv hne3 hne4 row3 hltA hap3 c0 f0))
      go_roundw
      case rel =>
        refine ⟨i + 1, .slice A3 n3 cc3, by go_num, ⟨by have := LT.out; omega⟩, ⟨?_⟩, ⟨FIN.out.2.1⟩, ⟨FIN.out.2.2⟩⟩
        rw [E1.out, ← List.append_assoc, HM.out]
        exact FIN.out.1
      case measure => have := LT.out; simp [intOf]; omega
    · have hlt : ¬ (i : Int) < (l.length : Int) := by omega
      have E := Hide.mk (show i = l.length by have := hi.out; omega)
      clear hlt0
      go_wp2
      go_end0
      refine ⟨rfl, ⟨v, ?_⟩, hS.out⟩
      have h := hLy.out
      rw [E.out, List.take_length] at h
      exact ⟨h.row, h.own, (fun a ha => by cases ha), h.below, h.le⟩
end Go.Proofs.YtplkndmkchpcdaaGreat.Sh
end
section
namespace Go.Proofs.YtplkndmkchpcdaaGreat.Sh
open Go.RowKit Disk Page Num Bitset
set_option maxRecDepth 100000
structure Live (D : DiskSt) (N : Int) : Prop where
  up : D.down = false
  never : D.fails = -1
  blocks : D.blocks = N
theorem Live.at_ {D : DiskSt} {N : Int} (h : Live D N) {n : Int} (h0 : 0 ≤ n) (h1 : n < N) : D.at_ n = 0 := by
  unfold DiskSt.at_
  rw [h.up, if_neg (by simp), if_neg (by rw [h.blocks]; omega)]
theorem Live.read {D : DiskSt} {N : Int} (h : Live D N) : Live D.read N := ⟨h.up, h.never, h.blocks⟩
theorem Live.new (n : Int) : Live (DiskSt.new n) (clampB n) := ⟨rfl, rfl, rfl⟩
def Sh.on (q : Sh) (D : DiskSt) : Sh := { q with D := D }
theorem sealL_len (kind id : Int) (l : List Int) (h : l.length ≤ 246) : (sealL kind id l).length = 256 := by
  unfold sealL
  rw [List.length_append, bodyL_length kind id l h]
  rfl
theorem sealE_len {kind id : Int} {n : Nat} (h : sealE kind id n = 0) : n ≤ 246 := by
  unfold sealE at h
  split at h
  · cases h
  · split at h
    · cases h
    · split at h
      · cases h
      · omega
def layOk (N : Int) (kind : Int) (blocks : List Int) : List (List Int) → Nat → Bool
  | [], _ => true
  | p :: ps, i => decide (sealE kind i p.length = 0) && decide (0 ≤ blocks.getD i 0) && decide (blocks.getD i 0 < N) && layOk N kind blocks ps (i + 1)
theorem putN_length : ∀ (w : Nat) (n : Int), (putN w n).length = w
  | 0, _ => rfl
  | w + 1, n => by simp [putN, putN_length w n]
theorem twos_length (l : List Int) : (twos l).length = 2 * l.length := by
  induction l with
  | nil => rfl
  | cons x r ih =>
    show (putN 2 x ++ twos r).length = _
    rw [List.length_append, ih, putN_length]
    simp
    omega
theorem head_length (r : Root) : r.head.length = 18 + 2 * r.tables.length + 2 * r.maps.length := by
  simp [Root.head, putN_length, twos_length]
  omega
theorem check_len {r : Root} (h : r.check = 0) : r.tables.length ≤ 26 ∧ r.maps.length ≤ 3 := by
  unfold Root.check at h
  split at h
  · cases h
  · split at h
    · cases h
    · omega
theorem check_range {r : Root} (h : r.check = 0) : (0 ≤ r.epoch ∧ r.epoch ≤ 1099511627776) ∧ (2 ≤ r.blocks ∧ r.blocks ≤ 4096) ∧ (0 ≤ r.next ∧ r.next ≤ 3000) ∧ 0 ≤ r.start ∧ r.start ≤ r.next := by
  unfold Root.check at h
  split at h
  · cases h
  · rename_i h1
    simp only [Bool.not_eq_false, inside, Bool.and_eq_true, decide_eq_true_eq] at h1
    exact ⟨h1.1.1.1, h1.1.1.2, h1.1.2, h1.2⟩
theorem check_each {r : Root} (h : r.check = 0) : ∀ n ∈ r.tables ++ r.maps, 2 ≤ n ∧ n ≤ r.blocks - 1 := by
  unfold Root.check at h
  split at h
  · cases h
  · split at h
    · cases h
    · split at h
      · cases h
      · rename_i h1
        intro n hn
        have := List.all_eq_true.1 (Bool.not_eq_false _ ▸ h1) n hn
        simpa [inside] using this
theorem body_len {r : Root} (h : r.check = 0) : r.body.length = 246 := by
  have := check_len h
  unfold Root.body
  rw [List.length_append, List.length_replicate, head_length]
  omega
theorem bytes_len {r : Root} (h : r.check = 0) : r.bytes.length = 256 := by
  unfold Root.bytes
  rw [List.length_append, List.length_append, body_len h, putN_length]
  rfl
def Sh.qplace (s : Sh) (id n : Int) : Sh := { s.put id n with fresh := withL s.fresh n true }
def Sh.qalloc (s : Sh) (kind : Int) (len : Nat) : Option (Sh × Int × Int) :=
  if s.alive ≠ 0 then some (s, 0, s.alive)
  else if sealE kind 1 len ≠ 0 then some (s, 0, sealE kind 1 len)
  else if sealE kind (freeId s.table) len ≠ 0 then some (s, 0, sealE kind (freeId s.table) len)
  else match s.lowest 1 with
    | none => some (s, 0, 10)
    | some l => if 0 ≤ l.getD 0 0 ∧ l.getD 0 0 < s.D.blocks then some (s.qplace (freeId s.table) (l.getD 0 0), freeId s.table, 0) else none
def Sh.qcommit (s : Sh) : Option (Sh × Int) :=
  if s.alive ≠ 0 then some (s, s.alive)
  else if s.dirty = false then some (s, 0)
  else
    let pieces := splitL 246 (wordsL (s.table.drop 1))
    match s.lowest (pieces.length + mapsOf s.root.blocks) with
    | none => some (s, 10)
    | some l =>
      if 1099511627776 ≤ s.root.epoch then some (s, 12)
      else
        let r := s.next pieces.length l
        if layOk s.D.blocks 1 r.tables pieces 0 = true ∧ layOk s.D.blocks 2 r.maps (splitL 246 (usedL r s.table)) 0 = true ∧ r.check = 0 ∧ 2 ≤ s.D.blocks then some (s.settle r, 0) else none
def Sh.qformat (N : Int) : Option (Sh × Int) :=
  let s := Sh.over (DiskSt.new N)
  let r := firstRoot N
  if N < 3 + (mapsOf N : Int) then some (s, 10)
  else if layOk N 2 r.maps (splitL 246 (usedL r [0])) 0 = true ∧ r.check = 0 ∧ 2 ≤ N ∧ clampB N = N then some (s.settle r, 0) else none
end Go.Proofs.YtplkndmkchpcdaaGreat.Sh
end
section
namespace Go.Proofs.YtplkndmkchpcdaaGreat.Sh
open Go.RowKit YtplkndmkchpcdaaGreatW.PrintWords YtplkndmkchpcdaaGreatW.PrintLast YtplkndmkchpcdaaGreatW.PrintMore MapFn Disk PShadowPlays Bitset Page
set_option maxHeartbeats 4000000
set_option maxRecDepth 100000
theorem putN_bytes : ∀ (k : Nat) (n : Int), Bytes (putN k n)
  | 0, _ => by simp [putN, Bytes]
  | k + 1, n => by
    intro x hx
    simp only [putN, List.mem_cons] at hx
    rcases hx with rfl | hx
    · unfold IsByte
      omega
    · exact putN_bytes k n x hx
theorem putsN_bytes (k : Nat) (l : List Int) : Bytes (putsN k l) := by
  intro x hx
  unfold putsN at hx
  obtain ⟨y, _, hy⟩ := List.mem_flatMap.1 hx
  exact putN_bytes k y x hy
theorem putsN_one (k : Nat) (n : Int) : putsN k [n] = putN k n := by simp [putsN]
theorem puts1 (a b : Int) (ha : 0 ≤ a ∧ a < 256) (hb : 0 ≤ b ∧ b < 256) : putsN 1 [a, b] = [a, b] := by
  simp [putsN, putN]
  omega
theorem head_eq {r : Root} (h : r.check = 0) : r.head = [114, 111, 111, 116] ++ putsN 6 [r.epoch] ++ putsN 2 [r.blocks, r.next, r.start] ++ putsN 1 [(r.tables.length : Int), (r.maps.length : Int)] ++ putsN 2 r.tables ++ putsN 2 r.maps := by
  have := check_len h
  rw [putsN_one, puts1 _ _ (by omega) (by omega)]
  rfl
theorem body_bytes {r : Root} (h : r.check = 0) : Bytes r.body := by
  have := check_len h
  intro x hx
  unfold Root.body at hx
  rw [head_eq h] at hx
  simp only [List.mem_append] at hx
  rcases hx with (((((h1 | h1) | h1) | h1) | h1) | h1) | h1
  · simp at h1
    rcases h1 with rfl | rfl | rfl <;> decide
  · exact putsN_bytes _ _ _ h1
  · exact putsN_bytes _ _ _ h1
  · exact putsN_bytes _ _ _ h1
  · exact putsN_bytes _ _ _ h1
  · exact putsN_bytes _ _ _ h1
  · rw [List.eq_of_mem_replicate h1]
    decide
def encI (l : List Int) : Array Value := (l.map (Value.int .i64)).toArray
theorem In.lit (w : World) (xs : List Int) (h : xs.length ≤ 1000) : In .i64 (w.alloc (.cells (encI xs) 3)) (some ⟨w.heap.size, 0, none⟩) xs xs.length := by
  refine ⟨Kd.C_of_reads (enc := Value.int .i64) (d := (0 : Int)) (h1 := fun _ => rfl) ⟨rfl, by omega, fun _ => ⟨_, rfl, fun j hj => ?_⟩⟩, Nat.le_refl _, fun a ha => by cases ha; simp⟩
  rw [add_plain, cell_of (heap_last _ _)]
  show (xs.map (Value.int .i64)).toArray[j]? = _
  rw [List.getElem?_toArray, List.getElem?_map]
  simp [List.getD_eq_getElem?_getD, hj]
theorem Lay.lit {w0 w : World} {base pb : Nat} {v : Value} {l : List Int} (h : Lay w0 w base pb none v l) (o : Obj) : Lay w0 (w.alloc o) base pb (some ⟨w.heap.size, 0, none⟩) v l := by
  have hb := (Below.refl w.heap.size w).alloc (Nat.le_refl _) o
  have hlt := lt_of_row h.row
  refine ⟨(hb.block pb hlt).trans h.row, Kd.R_below h.own hb, fun a ha => ?_, h.below.trans (hb.mono h.le), Nat.le_trans h.le hb.size⟩
  cases ha
  refine ⟨fun e => ?_, fun e => ?_⟩
  · have := Kd.R_lt h.own _ e.symm
    exact absurd this (Nat.lt_irrefl _)
  · have e' : w.heap.size = pb := e
    omega
theorem Lay.far {w0 w : World} {base pb : Nat} {v : Value} {l : List Int} {A : Option Addr} (h : Lay w0 w base pb none v l) (hpb : base ≤ pb) (hA : ∀ a, A = some a → a.block < base) : Lay w0 w base pb A v l := by
  refine ⟨h.row, h.own, fun a ha => ?_, h.below, h.le⟩
  have h1 := hA a ha
  refine ⟨fun e => ?_, by omega⟩
  have := Kd.R_base h.own _ e.symm
  omega
theorem lay_lit (k : Nat) (xs : List Int) {w0 w : World} {base pb ga : Nat} {v : Value} {l0 : List Int} (h : Lay w0 w base pb none v l0) (hga : ga = w.heap.size) (hpb : base ≤ pb) (h1 : 1 ≤ k) (h6 : k ≤ 6) (hn : ∀ n ∈ xs, 0 ≤ n ∧ n < 256 ^ k) (hx : xs.length ≤ 1000) (hz : l0.length + k * xs.length ≤ 100000) :
    Calls Tryz.prog 117 #[.int .i64 (k : Int), .slice (some ⟨ga, 0, none⟩) xs.length xs.length, .pointer (some ⟨pb, 0, none⟩)] (w.alloc (.cells (encI xs) 3)) fun e w' =>
      e = .returned (.tuple #[]) ∧ ∃ A n c, Lay w0 w' base pb none (.slice A n c) (l0 ++ putsN k xs) ∧ n = l0.length + k * xs.length ∧ n ≤ c := by
  subst hga
  refine (lay1_any k (some ⟨w.heap.size, 0, none⟩) xs.length xs base pb v l0 w0 _ h1 h6 (In.lit w xs hx) hn (h.lit _) hpb hz).mono ?_
  rintro e w' ⟨rfl, v', hL, _⟩
  obtain ⟨A, c, rfl, hc, _⟩ := Kd.R_reads hL.own
  exact ⟨rfl, A, _, c, hL, by rw [List.length_append, putsN_len], hc⟩
theorem lay_far (k : Nat) (A : Option Addr) (c : Nat) (xs : List Int) {w0 w : World} {base pb : Nat} {v : Value} {l0 : List Int} (h : Lay w0 w base pb none v l0) (hr : In .i64 w A xs c) (hA : ∀ a, A = some a → a.block < base) (hpb : base ≤ pb) (h1 : 1 ≤ k) (h6 : k ≤ 6) (hn : ∀ n ∈ xs, 0 ≤ n ∧ n < 256 ^ k) (hz : l0.length + k * xs.length ≤ 100000) :
    Calls Tryz.prog 117 #[.int .i64 (k : Int), .slice A xs.length c, .pointer (some ⟨pb, 0, none⟩)] w fun e w' =>
      e = .returned (.tuple #[]) ∧ ∃ A n c, Lay w0 w' base pb none (.slice A n c) (l0 ++ putsN k xs) ∧ n = l0.length + k * xs.length ∧ n ≤ c := by
  refine (lay1_any k A c xs base pb v l0 w0 _ h1 h6 hr hn (h.far hpb hA) hpb hz).mono ?_
  rintro e w' ⟨rfl, v', hL, _⟩
  obtain ⟨A, c, rfl, hc, _⟩ := Kd.R_reads hL.own
  exact ⟨rfl, A, _, c, hL, by rw [List.length_append, putsN_len], hc⟩
end Go.Proofs.YtplkndmkchpcdaaGreat.Sh
end
section
namespace Go.Proofs.YtplkndmkchpcdaaGreat.Sh
open Go.RowKit YtplkndmkchpcdaaGreatW.PrintWords YtplkndmkchpcdaaGreatW.PrintLast YtplkndmkchpcdaaGreatW.PrintMore MapFn Disk PShadowPlays Bitset Page
set_option maxHeartbeats 4000000
set_option maxRecDepth 100000
theorem wp_growU {w : World} {ops : Array Oper} {rest : List Oper} {o : Oper} {a : Act} {Q : Exit → Act → World → Prop} (hgd : o.guard = none) (s x : Operand)
    (ho : o.op = .call { callee := .builtin .append, args := #[s, x], argTypes := #[22, 22] }) (base : Nat) (l m : List Int) (b ad : Addr) (c : Nat) (h0 : 0 < m.length) (hm : l.length + m.length ≤ 1000000)
    (hl : ∀ j u, (encs (Value.int .u8) l)[j]? = some u → w.cell? (b.add j) = some u) (hr : ∀ j u, (encs (Value.int .u8) m)[j]? = some u → w.cell? (ad.add j) = some u) (hb : base ≤ w.heap.size)
    (hs : a.eval s = .slice (some b) l.length l.length) (hx : a.eval x = .slice (some ad) m.length c)
    (hK : ∀ n' c' w', n' = l.length + m.length → OwnU w' base (.slice (some ⟨w.heap.size, 0, none⟩) n' c') (l ++ m) → Below w.heap.size w w' → wpList Tryz.prog ops Q rest (a.put o.dst (.slice (some ⟨w.heap.size, 0, none⟩) n' c')) w') : wpList Tryz.prog ops Q (o :: rest) a w := by
  refine wpList_plain hgd fun K hK' => ?_
  obtain ⟨i, hi, hz⟩ := Option.map_eq_some_iff.1 info8
  simp only [Prod.mk.injEq] at hz
  obtain ⟨hz, hsz, hby⟩ := hz
  have hel : (encs (Value.int .u8) (l ++ m)) = encs (Value.int .u8) l ++ encs (Value.int .u8) m := by simp [encs]
  have hxl : ∀ l, (encs (Value.int .u8) l).length = l.length := fun l => by simp [encs]
  have hrun := run_append_grow (P := Tryz.prog) w 22 o.type 5 i (.int .u8 0) Tryz.underlying22 hi hz b l.length l.length (encs (Value.int .u8) l) (by rw [hsz, hxl]; omega) hl ad m.length c (encs (Value.int .u8) m) (by rw [hsz, hxl]; omega) hr (by omega) (by omega) (growslice_fits (by omega) (by rw [hby]; omega))
  have hge := grownCap_ge w (l.length + m.length) l.length 5
  have hle := grownCap_le_maxLen w (l.length + m.length) l.length 5 (by unfold maxLen; omega)
  rw [show (Value.int IntKind.u8 0).cells = #[.int .u8 0] from rfl, zeroCells_one] at hrun
  unfold Oper.wp execOp
  simp only [ho, resolve, invoke, builtin, Sem.run_bind, Sem.run_pure, Result.andThen_ok, List.map_toArray, List.map_cons, List.map_nil, hs, hx, hrun]
  refine hK' _ _ (hK _ _ _ rfl ?_ ((below_drew (Below.refl _ _)).alloc (Nat.le_refl _) _))
  refine Kd.R_of_own (enc := Value.int .u8) (h1 := fun _ => rfl) ⟨by simp [encs], .inr ⟨w.heap.size, grownCap w (l.length + m.length) l.length 5, _, by simp, hb, heap_last w.drew _, by simp; exact hge, hle, ?_, ?_⟩⟩ (fun _ _ => trivial)
  · simp [hxl]
    omega
  · rw [hel]
    simp
    rw [← List.append_assoc]
    exact List.take_left' (by simp [hxl])
structure First (w0 w : World) (base pb g : Nat) (l : List Int) : Prop where
  row : w.heap[pb]? = some (.cells #[.slice (some ⟨g, 0, none⟩) l.length l.length] 22 (0, 0))
  cells : ∀ j u, (encs (Value.int .u8) l)[j]? = some u → w.cell? ((⟨g, 0, none⟩ : Addr).add j) = some u
  below : Below base w0 w
  le : base ≤ w.heap.size
theorem First.grow {w0 w w' : World} {base pb g : Nat} {l : List Int} (h : First w0 w base pb g l) (hb : Below w.heap.size w w') : First w0 w' base pb g l :=
  ⟨(hb.block pb (lt_of_row h.row)).trans h.row, fun j u hj => pw_cell_below hb (h.cells j u hj), h.below.trans (hb.mono h.le), Nat.le_trans h.le hb.size⟩
theorem lay_first (k : Nat) (x : Int) {w0 w : World} {base pb g ga : Nat} {l : List Int} (h : First w0 w base pb g l) (hga : ga = w.heap.size) (hpb : base ≤ pb) (h1 : 1 ≤ k) (h6 : k ≤ 6) (hx : 0 ≤ x ∧ x < 256 ^ k) (hz : l.length ≤ 1000) :
    Calls Tryz.prog 117 #[.int .i64 (k : Int), .slice (some ⟨ga, 0, none⟩) 1 1, .pointer (some ⟨pb, 0, none⟩)] (w.alloc (.cells #[.int .i64 x] 3)) fun e w' =>
      e = .returned (.tuple #[]) ∧ ∃ A n c, Lay w0 w' base pb none (.slice A n c) (l ++ putN k x) ∧ n = l.length + k ∧ n ≤ c := by
  have H := Hide.mk (h.grow ((Below.refl w.heap.size w).alloc (Nat.le_refl _) (.cells #[.int .i64 x] 3)))
  have HP := Hide.mk hpb
  have HZ := Hide.mk hz
  have HX := Hide.mk hx
  have HK := Hide.mk (show 1 ≤ k ∧ k ≤ 6 from ⟨h1, h6⟩)
  have hcell : (w.alloc (.cells #[.int .i64 x] 3)).cell? ⟨w.heap.size, 0, none⟩ = some (.int .i64 x) := cell_of (heap_last _ _)
  obtain ⟨W, hW⟩ : ∃ W, w.alloc (.cells #[.int .i64 x] 3) = W := ⟨_, rfl⟩
  rw [hW] at H hcell ⊢
  rw [← hga] at hcell
  clear h hpb hz hx h1 h6 hW hga
  go_enter Tryz.func117, Tryz.ntmps117
  go_wp2
  go_loopw [11] (fun v11 wr => ∃ (i : Nat), v11 = .int .i64 (i : Int) ∧ Hide ((i = 0 ∧ wr = W) ∨ (i = 1 ∧ ∃ A n c, Lay w0 wr base pb none (.slice A n c) (l ++ putN k x) ∧ n = l.length + k ∧ n ≤ c))) (fun v11 _ => 1 - (intOf v11).toNat)
  case atStart => exact ⟨0, by first | rfl | simp, ⟨.inl ⟨rfl, rfl⟩⟩⟩
  case round =>
    obtain ⟨i, rfl, hL⟩ := hrel
    rcases hL.out with ⟨rfl, hw⟩ | ⟨rfl, hY⟩
    · obtain rfl : W = wr := hw.symm
      clear hw hL
      go_wp2_with (first
        | (go_at_call 118
           refine (put_any x k _ HK.out.1 HK.out.2 HX.out.1 HX.out.2).mono ?_
           rintro e w2 ⟨v2, rfl, ho, hb2⟩
           obtain ⟨A2, c2, rfl, hi2, hge2⟩ := In.of_own ho
           have I2 := Hide.mk hi2
           have H2 := Hide.mk (H.out.grow hb2)
           have c0 : w2.cell? ⟨pb, 0, none⟩ = some (.slice (some ⟨g, 0, none⟩) l.length l.length) := cell_of H2.out.row
           have f0 : w2.frozen? ⟨pb, 0, none⟩ = false := free_of H2.out.row
           obtain ⟨ad2, rfl⟩ : ∃ ad, A2 = some ad := by
             obtain ⟨ad, e, _⟩ := Kd.at_int hi2.reads 0 (by omega) (by rw [putN_len]; have := HK.out; omega)
             exact ⟨ad, e⟩
           have hlen2 : (putN k x).length = k := putN_len k x
           clear ho hb2 hi2 hge2)
        | ((with_reducible refine gate_builtin (b := .append) (xs := #[.tmp 21, .tmp 22]) rfl ?_); at_builtin
           refine wp_growU rfl (.tmp 21) (.tmp 22) rfl base l (putN k x) ⟨g, 0, none⟩ ad2 c2 (by rw [putN_len]; have := HK.out; omega) (by rw [putN_len]; have := HK.out; have := HZ.out; omega) H2.out.cells ?hr H2.out.le rfl (by rw [putN_len]; rfl) ?_
           case hr =>
             intro j u hj
             have hjl := (List.getElem?_eq_some_iff.1 hj).1
             obtain ⟨ad', e', hc'⟩ := Kd.at_int I2.out.reads (j : Int) (by omega) (by simpa [encs] using hjl)
             cases e'
             rw [Int.toNat_natCast] at hc'
             rw [hc']
             simp only [encs, List.getElem?_map, Option.map_eq_some_iff] at hj
             obtain ⟨y, hy, rfl⟩ := hj
             simp [rd, List.getD_eq_getElem?_getD, hy]
           intro n3 c3 w3 hn3 ho hb3
           have hlt := lt_of_row H2.out.row
           have row3 := (hb3.block pb hlt).trans H2.out.row
           have k3 : w3.cell? ⟨pb, 0, none⟩ = some (.slice (some ⟨g, 0, none⟩) l.length l.length) := cell_of row3
           have f3 : w3.frozen? ⟨pb, 0, none⟩ = false := free_of row3
           have hs3 := set_row (i := 0) row3 (.slice (some ⟨w2.heap.size, 0, none⟩) n3 c3)
           have hmv : w3.grownBy (w3.setCell ⟨pb, 0, none⟩ (.slice (some ⟨w2.heap.size, 0, none⟩) n3 c3)) (some pb) := ⟨rfl, rfl, rfl, by simp, fun q _ hq => heap_setCell_other _ _ _ _ (fun e => hq (by rw [e]))⟩
           have hcap : n3 ≤ c3 := by have := (Kd.R_reads' ho).2.1; exact this
           have FIN := Hide.mk (show Lay w0 (w3.setCell ⟨pb, 0, none⟩ (.slice (some ⟨w2.heap.size, 0, none⟩) n3 c3)) base pb none (.slice (some ⟨w2.heap.size, 0, none⟩) n3 c3) (l ++ putN k x) ∧ n3 = l.length + k ∧ n3 ≤ c3 from
             ⟨⟨by simpa using hs3, OwnU.grown ho hmv (.inl (by simp [Value.ownBlock]; omega)), (fun a ha => by cases ha), (H2.out.below.trans (hb3.mono H2.out.le)).grown hmv (Nat.le_trans H2.out.le hb3.size) (fun q hq => by cases hq; exact HP.out), by have := hb3.size; have := H2.out.le; simp; omega⟩, by rw [hn3, putN_len], hcap⟩)
           clear ho hb3 hs3 hmv row3 hlt hcap c0 f0 hn3))
      go_roundw
      case rel => exact ⟨1, by go_num, ⟨.inr ⟨rfl, _, _, _, FIN.out.1, FIN.out.2.1, FIN.out.2.2⟩⟩⟩
      case measure => simp [intOf]
    · have HY := Hide.mk hY
      clear hY hL
      go_wp2
      go_end0
      exact ⟨rfl, HY.out⟩
end Go.Proofs.YtplkndmkchpcdaaGreat.Sh
end
section
namespace Go.Proofs.YtplkndmkchpcdaaGreat.Sh
open Go.RowKit YtplkndmkchpcdaaGreatW.PrintWords YtplkndmkchpcdaaGreatW.PrintLast YtplkndmkchpcdaaGreatW.PrintMore MapFn Disk PShadowPlays Bitset Page
set_option maxHeartbeats 8000000
set_option maxRecDepth 100000
def magicL : List Int := [114, 111, 111, 116]
theorem gate_lay {P : Program} {f : FuncId} {p : Value} {w : World} {Q : Ending → World → Prop} (k : Int) (A : Option Addr) (n c : Nat) (h : Calls P f #[.int .i64 k, .slice A n c, p] w Q) : Calls P f #[.int .i64 k, .slice A n c, p] w Q := h
theorem first_made (w0 w1 : World) (base : Nat) (hb : Below base w0 w1) (hle : base ≤ w1.heap.size) :
    First w0 ((w1.alloc (.cells #[.int .u8 114, .int .u8 111, .int .u8 111, .int .u8 116] 5 (4, 5))).alloc (.cells #[.slice (some ⟨w1.heap.size, 0, none⟩) 4 4] 22)) base (w1.heap.size + 1) w1.heap.size [114, 111, 111, 116] := by
  refine ⟨row_last (by simp), fun j u hj => ?_, (hb.alloc hle _).alloc (by simp; omega) _, by simp; omega⟩
  rw [add_plain, cell_of_row _ w1.heap.size j #[.int .u8 114, .int .u8 111, .int .u8 111, .int .u8 116] 5 (4, 5) ?_]
  · simpa [encs] using hj
  · rw [heap_old _ _ _ (by simp)]
    exact heap_last _ _
theorem put_ok (r : Root) (tc mc : Nat) (tA mA : Option Addr) (w : World) (ht : In .i64 w tA r.tables tc) (hm : In .i64 w mA r.maps mc) (hc : r.check = 0) :
    Calls Tryz.prog 92 #[r.val tA tc mA mc] w fun e w' => ∃ v, e = .returned (.tuple #[v, .int .i64 0]) ∧ OwnU w' w.heap.size v r.bytes ∧ Below w.heap.size w w' := by
  have hcl := check_len hc
  have hcr := check_range hc
  have hce := check_each hc
  have HT0 := Hide.mk hcl
  have HC0 := Hide.mk hc
  have HB0 := Hide.mk ((Below.refl w.heap.size w).alloc (Nat.le_refl _) (.cells #[.int .i64 r.epoch, .int .i64 r.blocks, .int .i64 r.next, .int .i64 r.start, .slice tA r.tables.length tc, .slice mA r.maps.length mc] 68))
  have HC := Hide.mk (check_any r tc mc tA mA (w.alloc (.cells #[.int .i64 r.epoch, .int .i64 r.blocks, .int .i64 r.next, .int .i64 r.start, .slice tA r.tables.length tc, .slice mA r.maps.length mc] 68)) (ht.below HB0.out) (hm.below HB0.out) (by omega) (by omega))
  rw [hc] at HC
  unfold Root.val at HC ⊢
  have HV0 : Hide (0 ≤ r.epoch ∧ r.epoch < (256 : Int) ^ 6) := ⟨by omega⟩
  have HV6 : Hide (∀ n ∈ [r.epoch], 0 ≤ n ∧ n < (256 : Int) ^ 6) := ⟨by intro n hn; simp at hn; subst hn; omega⟩
  have HV2 : Hide (∀ n ∈ [r.blocks, r.next, r.start], 0 ≤ n ∧ n < (256 : Int) ^ 2) := ⟨by intro n hn; simp at hn; rcases hn with rfl | rfl | rfl <;> omega⟩
  have HV1 : Hide (∀ n ∈ [(r.tables.length : Int), (r.maps.length : Int)], 0 ≤ n ∧ n < (256 : Int) ^ 1) := ⟨by intro n hn; simp at hn; rcases hn with rfl | rfl <;> omega⟩
  have HVT : Hide (∀ n ∈ r.tables, 0 ≤ n ∧ n < (256 : Int) ^ 2) := ⟨by intro n hn; have := hce n (List.mem_append_left _ hn); omega⟩
  have HVM : Hide (∀ n ∈ r.maps, 0 ≤ n ∧ n < (256 : Int) ^ 2) := ⟨by intro n hn; have := hce n (List.mem_append_right _ hn); omega⟩
  have HT := Hide.mk ht
  have HM := Hide.mk hm
  clear ht hm hcl hcr hce hc
  have hcv := fun (w : World) (C : Array Value) (n c : Nat) => Lib.run_convert_bytes_const (P := Tryz.prog) w 22 5 C n c Tryz.underlying22 Tryz.underlying5
  go_enter Tryz.func92, Tryz.ntmps92
  go_wp2_with (first
    | (go_at_call 116; refine HC.out.mono ?_; rintro e w1 ⟨rfl, hb⟩
       have B1 := Hide.mk hb
       have hbx := (hb.block w.heap.size (by simp)).trans (heap_last w _)
       have k0 := cell_of (i := 0) hbx
       have k1 := cell_of (i := 1) hbx
       have k2 := cell_of (i := 2) hbx
       have k3 := cell_of (i := 3) hbx
       have k4 := cell_of (i := 4) hbx
       have k5 := cell_of (i := 5) hbx
       simp at k0 k1 k2 k3 k4 k5
       have hlt1 : w.heap.size < w1.heap.size := lt_of_row hbx
       have HPB : Hide ((w.alloc (.cells #[.int .i64 r.epoch, .int .i64 r.blocks, .int .i64 r.next, .int .i64 r.start, .slice tA r.tables.length tc, .slice mA r.maps.length mc] 68)).heap.size ≤ w1.heap.size + 1) := ⟨by simp; omega⟩
       have HF := Hide.mk (first_made _ w1 _ hb hb.size)
       clear hbx hb)
    | (go_at_call 117; (with_reducible refine gate_lay 6 _ 1 _ ?_)
       refine (lay_first 6 r.epoch HF.out (by simp) HPB.out (by omega) (by omega) HV0.out (by simp)).mono ?_
       rintro e w8 ⟨rfl, A8, n8, c8, hL8, hn8, hc8⟩
       clear HF k0 k1 k2 k3 k4 k5
       have HL := Hide.mk hL8
       have HN := Hide.mk (show n8 ≤ 100 ∧ n8 ≤ c8 from ⟨by have := HT0.out; simp [putsN_len, putN_len] at hn8; omega, hc8⟩)
       have HE := Hide.mk hn8
       have c0 := cell_of (i := 0) hL8.row
       have f0 := free_of (i := 0) hL8.row
       have hbx := (hL8.below.block w.heap.size (by simp)).trans (heap_last w _)
       have k0 := cell_of (i := 0) hbx
       have k1 := cell_of (i := 1) hbx
       have k2 := cell_of (i := 2) hbx
       have k3 := cell_of (i := 3) hbx
       have k4 := cell_of (i := 4) hbx
       have k5 := cell_of (i := 5) hbx
       simp at k0 k1 k2 k3 k4 k5
       simp at c0
       clear hbx hL8 hn8 hc8)
    | (go_at_call 117; (with_reducible refine gate_lay 2 _ 3 _ ?_)
       refine (lay_lit 2 [r.blocks, r.next, r.start] HL.out (by simp) HPB.out (by omega) (by omega) HV2.out (by simp) (by have := HT0.out; simp [putsN_len, putN_len] <;> omega)).mono ?_
       rintro e w8 ⟨rfl, A8, n8, c8, hL8, hn8, hc8⟩
       clear c0 f0 k0 k1 k2 k3 k4 k5 HL HN HE
       have HL := Hide.mk hL8
       have HN := Hide.mk (show n8 ≤ 100 ∧ n8 ≤ c8 from ⟨by have := HT0.out; simp [putsN_len, putN_len] at hn8; omega, hc8⟩)
       have HE := Hide.mk hn8
       have c0 := cell_of (i := 0) hL8.row
       have f0 := free_of (i := 0) hL8.row
       have hbx := (hL8.below.block w.heap.size (by simp)).trans (heap_last w _)
       have k0 := cell_of (i := 0) hbx
       have k1 := cell_of (i := 1) hbx
       have k2 := cell_of (i := 2) hbx
       have k3 := cell_of (i := 3) hbx
       have k4 := cell_of (i := 4) hbx
       have k5 := cell_of (i := 5) hbx
       simp at k0 k1 k2 k3 k4 k5
       simp at c0
       clear hbx hL8 hn8 hc8)
    | (go_at_call 117; (with_reducible refine gate_lay 1 _ 2 _ ?_)
       refine (lay_lit 1 [(r.tables.length : Int), (r.maps.length : Int)] HL.out (by simp) HPB.out (by omega) (by omega) HV1.out (by simp) (by have := HT0.out; simp [putsN_len, putN_len] <;> omega)).mono ?_
       rintro e w8 ⟨rfl, A8, n8, c8, hL8, hn8, hc8⟩
       clear c0 f0 k0 k1 k2 k3 k4 k5 HL HN HE
       have HL := Hide.mk hL8
       have HN := Hide.mk (show n8 ≤ 100 ∧ n8 ≤ c8 from ⟨by have := HT0.out; simp [putsN_len, putN_len] at hn8; omega, hc8⟩)
       have HE := Hide.mk hn8
       have c0 := cell_of (i := 0) hL8.row
       have f0 := free_of (i := 0) hL8.row
       have hbx := (hL8.below.block w.heap.size (by simp)).trans (heap_last w _)
       have k0 := cell_of (i := 0) hbx
       have k1 := cell_of (i := 1) hbx
       have k2 := cell_of (i := 2) hbx
       have k3 := cell_of (i := 3) hbx
       have k4 := cell_of (i := 4) hbx
       have k5 := cell_of (i := 5) hbx
       simp at k0 k1 k2 k3 k4 k5
       simp at c0
       clear hbx hL8 hn8 hc8)
    | (go_at_call 117; (with_reducible refine gate_lay 2 tA r.tables.length tc ?_)
       refine (lay_far 2 tA tc r.tables HL.out ?hr ?hA HPB.out (by omega) (by omega) HVT.out (by have := HT0.out; simp [putsN_len, putN_len] <;> omega)).mono ?_
       case hr => exact HT.out.below (HB0.out.trans (HL.out.below.mono (by simp)))
       case hA => intro a ha; have := HT.out.lt a ha; simp; omega
       rintro e w8 ⟨rfl, A8, n8, c8, hL8, hn8, hc8⟩
       clear c0 f0 k0 k1 k2 k3 k4 k5 HL HN HE
       have HL := Hide.mk hL8
       have HN := Hide.mk (show n8 ≤ 100 ∧ n8 ≤ c8 from ⟨by have := HT0.out; simp [putsN_len, putN_len] at hn8; omega, hc8⟩)
       have HE := Hide.mk hn8
       have c0 := cell_of (i := 0) hL8.row
       have f0 := free_of (i := 0) hL8.row
       have hbx := (hL8.below.block w.heap.size (by simp)).trans (heap_last w _)
       have k0 := cell_of (i := 0) hbx
       have k1 := cell_of (i := 1) hbx
       have k2 := cell_of (i := 2) hbx
       have k3 := cell_of (i := 3) hbx
       have k4 := cell_of (i := 4) hbx
       have k5 := cell_of (i := 5) hbx
       simp at k0 k1 k2 k3 k4 k5
       simp at c0
       clear hbx hL8 hn8 hc8)
    | (go_at_call 117; (with_reducible refine gate_lay 2 mA r.maps.length mc ?_)
       refine (lay_far 2 mA mc r.maps HL.out ?hr ?hA HPB.out (by omega) (by omega) HVM.out (by have := HT0.out; simp [putsN_len, putN_len] <;> omega)).mono ?_
       case hr => exact HM.out.below (HB0.out.trans (HL.out.below.mono (by simp)))
       case hA => intro a ha; have := HM.out.lt a ha; simp; omega
       rintro e w8 ⟨rfl, A8, n8, c8, hL8, hn8, hc8⟩
       clear c0 f0 k0 k1 k2 k3 k4 k5 HL HN HE
       have HL := Hide.mk hL8
       have HN := Hide.mk (show n8 ≤ 100 ∧ n8 ≤ c8 from ⟨by have := HT0.out; simp [putsN_len, putN_len] at hn8; omega, hc8⟩)
       have HE := Hide.mk hn8
       have c0 := cell_of (i := 0) hL8.row
       have f0 := free_of (i := 0) hL8.row
       have hbx := (hL8.below.block w.heap.size (by simp)).trans (heap_last w _)
       have k0 := cell_of (i := 0) hbx
       have k1 := cell_of (i := 1) hbx
       have k2 := cell_of (i := 2) hbx
       have k3 := cell_of (i := 3) hbx
       have k4 := cell_of (i := 4) hbx
       have k5 := cell_of (i := 5) hbx
       simp at k0 k1 k2 k3 k4 k5
       simp at c0
       clear hbx hL8 hn8 hc8)
    | ((with_reducible refine gate_builtin (b := .append) (xs := #[.tmp 46, .tmp 49]) rfl ?_); at_builtin
       have hO := HL.out.own
       have e := head_eq HC0.out
       rw [putsN_one] at e
       rw [← e] at hO
       have hle : n8 = r.head.length := by have := (Kd.R_reads' hO).1; exact this
       have hh := head_length r
       have h76 : n8 ≤ 76 := by have := HT0.out; omega
       refine wp_zeros rfl (.tmp 46) (.tmp 49) rfl (w.alloc (.cells #[.int .i64 r.epoch, .int .i64 r.blocks, .int .i64 r.next, .int .i64 r.start, .slice tA r.tables.length tc, .slice mA r.maps.length mc] 68)).heap.size (.slice A8 n8 c8) r.head (246 - n8) (by omega) (by omega) hO (by omega) HL.out.le rfl (congrArg (Value.int .i64) (show wrap64 (246 - (n8 : Int)) = ((246 - n8 : Nat) : Int) by unfold wrap64; omega)) ?_
       intro v9 w9 ho hg hat
       have e2 : r.head ++ List.replicate (246 - n8) 0 = r.body := by rw [hle]; rfl
       rw [e2] at ho
       obtain ⟨A9, c9, hv9, hc9, hr9⟩ := Kd.R_reads ho
       subst hv9
       have hne : some (w1.heap.size + 1) ≠ (Value.slice A8 n8 c8).ownBlock := OwnU.typed hO HL.out.row (by decide)
       have row9 := (hg.block _ (lt_of_row HL.out.row) hne).trans HL.out.row
       have c9' : w9.cell? ⟨w1.heap.size + 1, 0, none⟩ = some (.slice A8 n8 c8) := cell_of row9
       have f9' : w9.frozen? ⟨w1.heap.size + 1, 0, none⟩ = false := free_of row9
       have hmv : w9.grownBy (w9.setCell ⟨w1.heap.size + 1, 0, none⟩ (.slice A9 r.body.length c9)) (some (w1.heap.size + 1)) := ⟨rfl, rfl, rfl, by simp, fun q _ hq => heap_setCell_other _ _ _ _ (fun e => hq (by rw [e]))⟩
       have hs9 := set_row (i := 0) row9 (.slice A9 r.body.length c9)
       have hB9 : Below (w.alloc (.cells #[.int .i64 r.epoch, .int .i64 r.blocks, .int .i64 r.next, .int .i64 r.start, .slice tA r.tables.length tc, .slice mA r.maps.length mc] 68)).heap.size (w.alloc (.cells #[.int .i64 r.epoch, .int .i64 r.blocks, .int .i64 r.next, .int .i64 r.start, .slice tA r.tables.length tc, .slice mA r.maps.length mc] 68)) w9 := HL.out.below.grown hg HL.out.le (fun q hq => Kd.R_base hO q hq)
       have hB9z := hB9.grown hmv hB9.size (fun q hq => by cases hq; exact HPB.out)
       have ho9 := OwnU.grown ho hmv (.inl (OwnU.typed ho row9 (by decide)))
       have CZ := Hide.mk (show Kd.C (Kd.int .u8) (w9.setCell ⟨w1.heap.size + 1, 0, none⟩ (.slice A9 r.body.length c9)) A9 r.body.length r.body from (Kd.R_reads' ho9).2.2)
       have BZ := Hide.mk hB9z
       have RZ := Hide.mk hs9
       have HC9 := Hide.mk hc9
       clear c0 f0 k0 k1 k2 k3 k4 k5 HL HN HE
       clear hO e hle hh h76 ho hg hat e2 hr9 hne row9 hmv hs9 hB9 hB9z ho9 hc9)
    | (go_at_call 100
       refine (sum_Seal.calls 2 A9 c9 r.body _ _ CZ.out HC9.out (sumseal_eq (body_bytes HC0.out) (by rw [body_len HC0.out]; omega))).mono ?_
       rintro e w10 ⟨v10, rfl, ho, hb⟩
       obtain ⟨A8, c8, hv, hc8, hr⟩ := Kd.R_reads ho
       have hlen : (r.body ++ tailL r.body).length = 250 := by rw [List.length_append, body_len HC0.out]; rfl
       rw [hlen] at hv hc8
       subst hv
       have row10 := (hb.block (w1.heap.size + 1) (lt_of_row RZ.out)).trans RZ.out
       simp at row10
       have c0 : w10.cell? ⟨w1.heap.size + 1, 0, none⟩ = some (.slice A9 r.body.length c9) := cell_of row10
       have f0 : w10.frozen? ⟨w1.heap.size + 1, 0, none⟩ = false := free_of row10
       have hmv : w10.grownBy (w10.setCell ⟨w1.heap.size + 1, 0, none⟩ (.slice A8 250 c8)) (some (w1.heap.size + 1)) := ⟨rfl, rfl, rfl, by simp, fun q _ hq => heap_setCell_other _ _ _ _ (fun e => hq (by rw [e]))⟩
       have hs10 := set_row (i := 0) row10 (.slice A8 250 c8)
       have hzs := BZ.out.size
       have hB10 := BZ.out.trans (hb.mono hzs)
       have hbx := (hB10.block w.heap.size (by simp)).trans (heap_last w _)
       have k0 := cell_of (i := 0) hbx
       have k1 := cell_of (i := 1) hbx
       have k2 := cell_of (i := 2) hbx
       have k3 := cell_of (i := 3) hbx
       have k4 := cell_of (i := 4) hbx
       have k5 := cell_of (i := 5) hbx
       simp at k0 k1 k2 k3 k4 k5
       have hw10 := Nat.le_trans hzs hb.size
       have HL := Hide.mk (show Lay (w.alloc (.cells #[.int .i64 r.epoch, .int .i64 r.blocks, .int .i64 r.next, .int .i64 r.start, .slice tA r.tables.length tc, .slice mA r.maps.length mc] 68)) (w10.setCell ⟨w1.heap.size + 1, 0, none⟩ (.slice A8 250 c8)) ((w.alloc (.cells #[.int .i64 r.epoch, .int .i64 r.blocks, .int .i64 r.next, .int .i64 r.start, .slice tA r.tables.length tc, .slice mA r.maps.length mc] 68)).heap.size) (w1.heap.size + 1) none (.slice A8 250 c8) (r.body ++ tailL r.body) from
         ⟨by simpa using hs10, Kd.R_lower (OwnU.grown ho hmv (.inl (OwnU.typed ho row10 (by decide)))) hzs, (fun a ha => by cases ha), hB10.grown hmv hw10 (fun q hq => by cases hq; exact HPB.out), by have := hw10; simp at this; simp; omega⟩)
       have HN := HT0
       have HE := HT0
       have n8 := 0
       clear hbx hlen hr ho hb row10 hmv hs10 hzs hB10 hc8)
    | (go_at_call 117; (with_reducible refine gate_lay 6 _ 1 _ ?_)
       refine (lay_lit 6 [r.epoch] HL.out (by simp) HPB.out (by omega) (by omega) HV6.out (by simp) (by rw [List.length_append, body_len HC0.out]; simp [tailL])).mono ?_
       rintro e w8 ⟨rfl, A8, n8, c8, hL8, hn8, hc8⟩
       have HY := Hide.mk hL8
       have c8' := cell_of (i := 0) hL8.row
       simp at c8'
       clear hn8 hL8 hc8))
  go_ret2
  have hlow : Below w.heap.size w w8 := HB0.out.trans (HY.out.below.mono (by simp))
  refine ⟨_, rfl, ?_, hlow⟩
  have h := Kd.R_lower HY.out.own (show w.heap.size ≤ _ by simp)
  rw [putsN_one] at h
  exact h
end Go.Proofs.YtplkndmkchpcdaaGreat.Sh
end
section
namespace Go.Proofs.YtplkndmkchpcdaaGreat.Sh
open Go.RowKit YtplkndmkchpcdaaGreatW.PrintWords YtplkndmkchpcdaaGreatW.PrintLast YtplkndmkchpcdaaGreatW.PrintMore MapFn Disk Bitset Page
set_option maxHeartbeats 8000000
set_option maxRecDepth 100000
theorem ShAt.synced {w w' : World} {F : Foot} {s : Sh} {D' : DiskSt} {ml' : Nat} (h : ShAt w F s) (hd : DiskAt w' F.pd F.ms ml' D') (hl : ml' = F.ml ∨ w.heap.size ≤ ml') (hm : Moves [F.pd, F.ms] w w') : ShAt w' { F with ml := ml' } { s with D := D' } ∧ Goes F { F with ml := ml' } w w' :=
  h.disk_moves hd hl (hm.more (by intro x hx; simp only [List.mem_cons, List.not_mem_nil, or_false] at hx; left; rcases hx with rfl | rfl <;> simp))
structure RootIn (w : World) (r : Root) (tA : Option Addr) (tc : Nat) (mA : Option Addr) (mc : Nat) (bad : List Nat) : Prop where
  tables : In .i64 w tA r.tables tc
  maps : In .i64 w mA r.maps mc
  offT : ∀ a, tA = some a → ¬ a.block ∈ bad
  offM : ∀ a, mA = some a → ¬ a.block ∈ bad
  small : r.tables.length + r.maps.length ≤ 10000
  blocks : -1000000 ≤ r.blocks ∧ r.blocks ≤ 1000000
theorem RootIn.moves {w w' : World} {r : Root} {tA mA : Option Addr} {tc mc : Nat} {bad l : List Nat} (h : RootIn w r tA tc mA mc bad) (hm : Moves l w w') (hl : ∀ x ∈ l, x ∈ bad ∨ w.heap.size ≤ x) : RootIn w' r tA tc mA mc bad :=
  ⟨h.tables.moves hm (fun a ha hx => by rcases hl _ hx with q | q; exact h.offT a ha q; have := h.tables.lt a ha; omega), h.maps.moves hm (fun a ha hx => by rcases hl _ hx with q | q; exact h.offM a ha q; have := h.maps.lt a ha; omega), h.offT, h.offM, h.small, h.blocks⟩
theorem RootIn.foot0 {w w' : World} {r : Root} {tA mA : Option Addr} {tc mc : Nat} {F F' : Foot} (h : RootIn w r tA tc mA mc F.own) (hg : Goes0 F F' w w') : RootIn w' r tA tc mA mc F'.own := by
  have h1 := h.moves hg.moves (fun x hx => .inl hx)
  refine ⟨h1.tables, h1.maps, fun a ha hx => ?_, fun a ha hx => ?_, h.small, h.blocks⟩
  · rcases hg.own _ hx with q | q
    · exact h.offT a ha q
    · have := h.tables.lt a ha
      omega
  · rcases hg.own _ hx with q | q
    · exact h.offM a ha q
    · have := h.maps.lt a ha
      omega
theorem RootIn.foot {w w' : World} {r : Root} {tA mA : Option Addr} {tc mc : Nat} {F F' : Foot} (h : RootIn w r tA tc mA mc F.own) (hg : Goes F F' w w') : RootIn w' r tA tc mA mc F'.own := h.foot0 hg.toGoes0
theorem Goes.cell {w w' : World} {F F' : Foot} (hg : Goes F F' w w') {a : Addr} {v : Value} (hc : w.cell? a = some v) (ho : ¬ a.block ∈ F.own) : w'.cell? a = some v :=
  (World.cell?_of_block (hg.moves.block _ (block_lt_of_cell hc) ho)).trans hc
theorem Goes.off {w w' : World} {F F' : Foot} (hg : Goes F F' w w') {b : Nat} (hlt : b < w.heap.size) (ho : ¬ b ∈ F.own) : ¬ b ∈ F'.own := by
  intro hx
  rcases hg.own b hx with q | q
  · exact ho q
  · omega
def T50_7 : Bool × List (List Nat × List Nat) := (true, [([], []), ([], []), ([1], [1]), ([2], [2]), ([3], [3]), ([], []), ([5], [5]), ([6], [6]), ([], []), ([4, 7, 8], [4, 7, 8]), ([0, 9, 9], [0, 9]), ([10, 10, 0, 1, 2, 3, 4, 5, 6, 7, 8, 9, 10], [10])])
def B50_7 : List Nat := [0, 0, 2, 6, 14, 0, 32, 96, 0, 510, 1023, 2047]
theorem tab50_7 : rtab .any (opsOf Tryz.f50 7) = T50_7 := by kernel_rfl
theorem bits50_7 : waitsOk T50_7.2 B50_7 = true := by kernel_rfl
theorem crown_1 {s : Sh} {r : Root} (h : s.D.sync.2 ≠ 0) : s.crown r = (({ s with D := s.D.sync.1 } : Sh).done s.D.sync.2, s.D.sync.2) := by
  unfold Sh.crown
  rw [if_pos (show s.sync.2 ≠ 0 from h)]
  rfl
theorem crown_2 {s : Sh} {r : Root} (h : s.D.sync.2 = 0) (hk : r.check = 0) (h2 : (s.D.sync.1.write (r.epoch % 2) r.bytes).2 ≠ 0) :
    s.crown r = (({ (({ s with D := s.D.sync.1 } : Sh).done 0) with D := (s.D.sync.1.write (r.epoch % 2) r.bytes).1 } : Sh).done (s.D.sync.1.write (r.epoch % 2) r.bytes).2, (s.D.sync.1.write (r.epoch % 2) r.bytes).2) := by
  unfold Sh.crown
  have e : s.sync = (({ s with D := s.D.sync.1 } : Sh).done 0, 0) := by unfold Sh.sync; rw [h]
  rw [e, if_neg (by simp), if_neg (by rw [hk]; simp)]
  exact if_pos (show ((({ s with D := s.D.sync.1 } : Sh).done 0).wr (r.epoch % 2) r.bytes).2 ≠ 0 from h2)
theorem crown_3 {s : Sh} {r : Root} (h : s.D.sync.2 = 0) (hk : r.check = 0) (h2 : (s.D.sync.1.write (r.epoch % 2) r.bytes).2 = 0) :
    s.crown r = (({ (({ (({ s with D := s.D.sync.1 } : Sh).done 0) with D := (s.D.sync.1.write (r.epoch % 2) r.bytes).1 } : Sh).done 0) with D := (s.D.sync.1.write (r.epoch % 2) r.bytes).1.sync.1 } : Sh).done (s.D.sync.1.write (r.epoch % 2) r.bytes).1.sync.2, (s.D.sync.1.write (r.epoch % 2) r.bytes).1.sync.2) := by
  unfold Sh.crown
  have e : s.sync = (({ s with D := s.D.sync.1 } : Sh).done 0, 0) := by unfold Sh.sync; rw [h]
  have e2 : (({ s with D := s.D.sync.1 } : Sh).done 0).wr (r.epoch % 2) r.bytes = (({ (({ s with D := s.D.sync.1 } : Sh).done 0) with D := (s.D.sync.1.write (r.epoch % 2) r.bytes).1 } : Sh).done 0, 0) := by
    unfold Sh.wr
    rw [show (({ s with D := s.D.sync.1 } : Sh).done 0).D = s.D.sync.1 from rfl, h2]
  rw [e, if_neg (by simp), if_neg (by rw [hk]; simp)]
  simp only
  rw [e2, if_neg (by simp)]
  rfl
theorem crown_any (r : Root) (tA : Option Addr) (tc : Nat) (mA : Option Addr) (mc : Nat) (w : World) (F : Foot) (s : Sh) (h : ShAt w F s) (hr : RootIn w r tA tc mA mc F.own) (hk : r.check = 0) :
    Calls Tryz.prog 50 #[.pointer (some ⟨F.p, 0, none⟩), r.val tA tc mA mc] w fun e w' => e = .returned (.int .i64 (s.crown r).2) ∧ ∃ F', ShAt w' F' (s.crown r).1 ∧ Goes F F' w w' := by
  obtain ⟨bx, hbx⟩ : ∃ bx, w.heap.size = bx := ⟨_, rfl⟩
  have hW := heap_last w (.cells #[.int .i64 r.epoch, .int .i64 r.blocks, .int .i64 r.next, .int .i64 r.start, .slice tA r.tables.length tc, .slice mA r.maps.length mc] 68)
  have hB := (Below.refl w.heap.size w).alloc (Nat.le_refl _) (.cells #[.int .i64 r.epoch, .int .i64 r.blocks, .int .i64 r.next, .int .i64 r.start, .slice tA r.tables.length tc, .slice mA r.maps.length mc] 68)
  have hoff : ¬ bx ∈ F.own := fun hx => by have := h.lts _ hx; omega
  unfold Root.val
  have HS := Hide.mk (h.below hB)
  have HR := Hide.mk (hr.moves (Moves.of_below hB []) (by simp))
  have G0 := Hide.mk (Goes.below (F := F) hB)
  have HOFF := Hide.mk hoff
  have HCK := Hide.mk hk
  rw [hbx] at hW
  have HBXR := Hide.mk hW
  obtain ⟨R, hR⟩ : ∃ R, s.crown r = R := ⟨_, rfl⟩
  rw [hR]
  have HRR := Hide.mk hR
  obtain ⟨E1, hE1⟩ : ∃ E, s.D.sync.2 = E := ⟨_, rfl⟩
  obtain ⟨D1, hD1⟩ : ∃ D, s.D.sync.1 = D := ⟨_, rfl⟩
  obtain ⟨x, hx⟩ : ∃ x, r.epoch % 2 = x := ⟨_, rfl⟩
  have htm : Int.tmod r.epoch 2 = x := by rw [Int.tmod_eq_emod_of_nonneg (check_range hk).1.1]; exact hx
  have HSY := Hide.mk (sync_any (h.below hB).disk)
  have HXW : Hide (MapFn.wf x) := ⟨by rcases (show x = 0 ∨ x = 1 by omega) with rfl | rfl <;> (unfold MapFn.wf; decide)⟩
  rw [hE1, hD1] at HSY
  have HF1 := Hide.mk (show s.D.sync.2 = E1 ∧ s.D.sync.1 = D1 ∧ r.epoch % 2 = x from ⟨hE1, hD1, hx⟩)
  have c0 := HS.out.cells.c0
  have hltp : F.p < w.heap.size := lt_of_row h.row
  obtain ⟨W, hWW⟩ : ∃ W, w.alloc (.cells #[.int .i64 r.epoch, .int .i64 r.blocks, .int .i64 r.next, .int .i64 r.start, .slice tA r.tables.length tc, .slice mA r.maps.length mc] 68) = W := ⟨_, rfl⟩
  rw [hWW] at HS HR G0 HSY c0 HBXR
  clear h hr hk hoff hE1 hD1 hx hW hB hR
  by_cases hE : E1 = 0
  · subst hE
    obtain ⟨E2, hE2⟩ : ∃ E, (D1.write x r.bytes).2 = E := ⟨_, rfl⟩
    obtain ⟨D2, hD2⟩ : ∃ D, (D1.write x r.bytes).1 = D := ⟨_, rfl⟩
    have HF2 := Hide.mk (show (D1.write x r.bytes).2 = E2 ∧ (D1.write x r.bytes).1 = D2 from ⟨hE2, hD2⟩)
    clear hE2 hD2
    go_enter Tryz.func50, Tryz.ntmps50
    go_wp2_with (first
      | (go_at_call 91; (try rw [hWW]); refine HSY.out.mono ?_; rintro e w1 ⟨rfl, ml1, hd, hl, hm⟩; have S1 := Hide.mk (HS.out.synced hd hl hm); have HDN := Hide.mk (done_any 0 S1.out.1); clear hd hl hm)
      | (go_at_call 89; refine HDN.out.mono ?_; rintro e w2 ⟨rfl, hs2, hg2⟩
         have S2 := Hide.mk hs2
         have G12 := S1.out.2.trans hg2
         have hlb := lt_of_row HBXR.out
         have row2 := (G12.moves.block bx hlb HOFF.out).trans HBXR.out
         have R2 := Hide.mk (HR.out.foot G12)
         have O2 := Hide.mk (G12.off hlb HOFF.out)
         have ROW2 := Hide.mk row2
         have k0 := cell_of (i := 0) row2
         have k1 := cell_of (i := 1) row2
         have k2 := cell_of (i := 2) row2
         have k3 := cell_of (i := 3) row2
         have k4 := cell_of (i := 4) row2
         have k5 := cell_of (i := 5) row2
         simp at k0 k1 k2 k3 k4 k5
         have G2 := Hide.mk (G0.out.trans G12)
         have HPT := Hide.mk (put_ok r tc mc tA mA w2 R2.out.tables R2.out.maps HCK.out)
         unfold Root.val at HPT
         clear hs2 hg2 hlb row2 G12)
      | (go_at_call 92; refine HPT.out.mono ?_; rintro e w3 ⟨v3, rfl, ho, hb3⟩
         obtain ⟨A9, c9, hv, hi9, hge9⟩ := In.of_own ho
         obtain ⟨n9, hn9⟩ : ∃ n, r.bytes.length = n := ⟨_, rfl⟩
         rw [hn9] at hv
         subst hv
         have HN9 := Hide.mk hn9
         have I9 := Hide.mk hi9
         have B3 := Hide.mk hb3
         clear ho hb3 hi9 hge9 hn9))
    have SD : ShAt w3.drew { F with ml := ml1 } (({ s with D := D1 } : Sh).done 0) := (S2.out.below B3.out).below (below_drew (Below.refl _ _))
    have S3 := Hide.mk SD
    have I9d := Hide.mk (I9.out.below (below_drew (Below.refl w3.heap.size w3)))
    have HW1 : Calls Tryz.prog 88 #[.pointer (some ⟨F.pd, 0, none⟩), .int .i64 x, .slice A9 r.bytes.length c9] w3.drew fun e w' => e = .returned (.int .i64 (D1.write x r.bytes).2) ∧ DiskAt w' F.pd F.ms ml1 (D1.write x r.bytes).1 ∧ Moves [F.pd, ml1] w3.drew w' := write_any x A9 c9 r.bytes SD.disk HXW.out I9d.out.reads
    rw [HF2.out.1, HF2.out.2, HN9.out] at HW1
    have HW := Hide.mk HW1
    clear HW1
    have hb3x : w3.cell? ⟨bx, 0, none⟩ = some (.int .i64 r.epoch) := pw_cell_below B3.out k0
    have HX4 : Hide (∀ w4, Goes { F with ml := ml1 } { F with ml := ml1 } w3.drew w4 → w4.cell? ⟨bx, 0, none⟩ = some (.int .i64 r.epoch)) := ⟨fun w4 hg => hg.cell (show w3.drew.cell? ⟨bx, 0, none⟩ = _ from hb3x) O2.out⟩
    have KC : w3.drew.cell? ⟨F.p, 1, none⟩ = some (.func (.func 88) #[.pointer (some ⟨F.pd, 0, none⟩)] #[]) ∧ w3.drew.cell? ⟨bx, 0, none⟩ = some (.int .i64 r.epoch) := ⟨SD.cells.c1, hb3x⟩
    clear SD k0 k1 k2 k3 k4 k5
    refine s_ 12 (fun w' => w'.cell? ⟨F.p, 1, none⟩ = some (.func (.func 88) #[.pointer (some ⟨F.pd, 0, none⟩)] #[]) ∧ w'.cell? ⟨bx, 0, none⟩ = some (.int .i64 r.epoch)) tab50_7 bits50_7 KC (fun hHeld HT_ HW_ => ?_)
    refine p_ 0 27 ?_
    refine p_ 1 28 ?_
    refine p_ 2 29 ?_
    refine p_ 3 30 ?_
    refine t_ 4 31 hHeld ?_ (hy := by
        intro w' hS'
        have s1 := hS'.1
        go_simp
        rfl)
    refine p_ 5 32 ?_
    refine t_ 6 33 hHeld ?_ (hy := by
        intro w' hS'
        have s1 := hS'.2
        go_simp
        rfl)
    refine p_ 7 34 ?_
    refine p_ 8 35 ?_
    refine n_ 9 (some 36) (fun K hK => ?_)
    refine goesM_ Tryz.func88 (by kernel_rfl) rfl 31 (.pointer (some ⟨F.pd, 0, none⟩)) #[.int .i64 x, .slice A9 n9 c9] #[.pointer (some ⟨F.pd, 0, none⟩), .int .i64 x, .slice A9 n9 c9] (by simp) (by rfl) rfl rfl (by rfl) (by (try simp only [List.map_toArray, List.map_cons, List.map_nil]); first | done | rfl) ?_
    with_reducible refine HW.out.mono ?_
    rintro e w4 ⟨rfl, hd, hm⟩
    refine ⟨_, rfl, ?_⟩
    have S4 := Hide.mk (S3.out.wrote hd hm)
    have KC1 := And.intro (show w4.cell? ⟨F.p, 1, none⟩ = some (.func (.func 88) #[.pointer (some ⟨F.pd, 0, none⟩)] #[]) from S4.out.1.cells.c1) (HX4.out w4 S4.out.2)
    have HDN := Hide.mk (done_any E2 S4.out.1)
    clear hd hm
    refine k_ hK KC1 (fun hHeld => ?_)
    clear hK K
    refine n_ 10 (some 37) (fun K hK => ?_)
    refine g_ Tryz.func89 #[.pointer (some ⟨F.p, 0, none⟩), .int .i64 E2] ?_
    with_reducible refine HDN.out.mono ?_
    rintro e w5 ⟨rfl, hs5, hg5⟩
    refine ⟨_, rfl, ?_⟩
    have S5 := Hide.mk hs5
    have G5 := Hide.mk (S4.out.2.trans hg5)
    have KC2 := And.intro (show w5.cell? ⟨F.p, 1, none⟩ = some (.func (.func 88) #[.pointer (some ⟨F.pd, 0, none⟩)] #[]) from hs5.cells.c1) (HX4.out w5 G5.out)
    clear hs5 hg5
    refine k_ hK KC2 (fun hHeld => ?_)
    clear hK K
    refine p_ 11 8 ?_
    refine d_ ?_
    clear KC KC1 KC2 hHeld
    have GA := Hide.mk ((G2.out.trans (Goes.below (B3.out.trans ((below_drew (Below.refl w3.heap.size w3)).mono B3.out.size)))).trans G5.out)
    by_cases hE0 : E2 = 0
    · subst hE0
      have HSY3 := sync_any S5.out.disk
      obtain ⟨E3, hE3⟩ : ∃ E, D2.sync.2 = E := ⟨_, rfl⟩
      obtain ⟨D3, hD3⟩ : ∃ D, D2.sync.1 = D := ⟨_, rfl⟩
      have HSY4 : Calls Tryz.prog 91 #[.pointer (some ⟨F.pd, 0, none⟩)] w5 fun e w' => e = .returned (.int .i64 E3) ∧ ∃ ml', DiskAt w' F.pd F.ms ml' D3 ∧ (ml' = ml1 ∨ w5.heap.size ≤ ml') ∧ Moves [F.pd, F.ms] w5 w' := by rw [← hE3, ← hD3]; exact HSY3
      have HSYH := Hide.mk HSY4
      have HF3 := Hide.mk (And.intro hE3 hD3)
      have c0' : w5.cell? ⟨F.p, 0, none⟩ = some (.pointer (some ⟨F.pd, 0, none⟩)) := S5.out.cells.c0
      clear HSY3 HSY4 hE3 hD3
      go_wp2_with (first
        | (go_at_call 91; refine HSYH.out.mono ?_; rintro e w6 ⟨rfl, ml6, hd, hl, hm⟩
           have S6 := Hide.mk (S5.out.synced (ml' := ml6) (D' := D3) hd hl hm)
           have HDN6 := Hide.mk (done_any E3 S6.out.1)
           clear hd hl hm)
        | (go_at_call 89; refine HDN6.out.mono ?_; rintro e w7 ⟨rfl, hs7, hg7⟩; have S7 := Hide.mk hs7; have G7 := Hide.mk ((GA.out.trans S6.out.2).trans hg7); clear hs7 hg7))
      go_ret
      have e : R = _ := HRR.out.symm.trans (crown_3 HF1.out.1 HCK.out (by rw [HF1.out.2.1, HF1.out.2.2]; exact HF2.out.1))
      rw [HF1.out.2.1, HF1.out.2.2, HF2.out.2, HF3.out.1, HF3.out.2] at e
      rw [e]
      exact ⟨rfl, _, S7.out, G7.out⟩
    · have q : (E2 != 0) = true := by simp [hE0]
      have HE0 := Hide.mk hE0
      clear hE0
      go_wp2
      go_ret
      have e : R = _ := HRR.out.symm.trans (crown_2 HF1.out.1 HCK.out (by rw [HF1.out.2.1, HF1.out.2.2, HF2.out.1]; exact HE0.out))
      rw [HF1.out.2.1, HF1.out.2.2, HF2.out.1, HF2.out.2] at e
      rw [e]
      exact ⟨rfl, _, S5.out, GA.out⟩
  · have HE := Hide.mk hE
    have q : (E1 != 0) = true := by simp [hE]
    clear hE
    go_enter Tryz.func50, Tryz.ntmps50
    go_wp2_with (first
      | (go_at_call 91; (try rw [hWW]); refine HSY.out.mono ?_; rintro e w1 ⟨rfl, ml1, hd, hl, hm⟩; have S1 := Hide.mk (HS.out.synced hd hl hm); have HDN := Hide.mk (done_any E1 S1.out.1); clear hd hl hm)
      | (go_at_call 89; refine HDN.out.mono ?_; rintro e w2 ⟨rfl, hs2, hg2⟩; have S2 := Hide.mk hs2; have G2 := Hide.mk ((G0.out.trans S1.out.2).trans hg2); clear hs2 hg2))
    go_ret
    have e : R = (({ s with D := D1 } : Sh).done E1, E1) := by rw [← HRR.out, crown_1 (by rw [HF1.out.1]; exact HE.out), HF1.out.1, HF1.out.2.1]
    rw [e]
    exact ⟨rfl, _, S2.out, G2.out⟩
end Go.Proofs.YtplkndmkchpcdaaGreat.Sh
end
section
namespace Go.Proofs.YtplkndmkchpcdaaGreat.Sh
open Go.RowKit YtplkndmkchpcdaaGreatW.PrintWords YtplkndmkchpcdaaGreatW.PrintLast YtplkndmkchpcdaaGreatW.PrintMore MapFn Disk Bitset Page
set_option maxHeartbeats 8000000
set_option maxRecDepth 100000
theorem infoR : (Tryz.prog.info? 68).map (·.size) = some 6 := by kernel_rfl
theorem exec_loadR {w : World} {a : Act} {o : Oper} {x : Operand} {g : Nat} {v0 v1 v2 v3 v4 v5 : Value} (hop : o.op = Op.load 68 x) (hx : a.eval x = .pointer (some ⟨g, 0, none⟩)) (hrow : w.heap[g]? = some (.cells #[v0, v1, v2, v3, v4, v5] 68 (0, 0))) :
    (execOp a.eval o).run Tryz.prog w = .ok (.value (.agg #[v0, v1, v2, v3, v4, v5])) w := by
  have hrun : (Instr.loadAt 68 (.pointer (some ⟨g, 0, none⟩))).run Tryz.prog w = .ok (.agg #[v0, v1, v2, v3, v4, v5]) w := by
    simp only [Instr.loadAt, Instr.sureAddr, Sem.run_bind, Sem.run_pure, Result.andThen]
    exact run_loadVar_row w g _ _ _ (0, 0) _ hrow Tryz.underlying68 rfl (by rw [infoR]; rfl)
  simp [execOp, hop, hx, hrun, Result.andThen]
theorem exec_store_root {w : World} {F : Foot} {s : Sh} {r : Root} {tA mA : Option Addr} {tc mc : Nat} {a : Act} {o : Oper} {x y : Operand} (hrow : w.heap[F.p]? = some (.cells (F.row s) 73 (0, 0))) (hop : o.op = Op.store 68 x y)
    (hx : a.eval x = .pointer (some ⟨F.p, 2, none⟩)) (hy : a.eval y = .agg #[.int .i64 r.epoch, .int .i64 r.blocks, .int .i64 r.next, .int .i64 r.start, .slice tA r.tables.length tc, .slice mA r.maps.length mc]) :
    (execOp a.eval o).run Tryz.prog w = .ok .skip (w.setRow F.p (({ F with tA := tA, tc := tc, mA := mA, mc := mc } : Foot).row { s with root := r })) := by
  have hst := run_storeCells_at Tryz.prog F.p 2 73 [.int .i64 r.epoch, .int .i64 r.blocks, .int .i64 r.next, .int .i64 r.start, .slice tA r.tables.length tc, .slice mA r.maps.length mc] 0 (F.row s) w hrow (by simp [Foot.row]) (by intro v hv; simp at hv; rcases hv with rfl | rfl | rfl | rfl | rfl | rfl <;> rfl)
  obtain ⟨i, hi, hs⟩ := Option.map_eq_some_iff.1 infoR
  have hrun : (Instr.storeAt 68 (.pointer (some ⟨F.p, 2, none⟩)) (.agg #[.int .i64 r.epoch, .int .i64 r.blocks, .int .i64 r.next, .int .i64 r.start, .slice tA r.tables.length tc, .slice mA r.maps.length mc])).run Tryz.prog w = .ok () (w.setRow F.p (({ F with tA := tA, tc := tc, mA := mA, mc := mc } : Foot).row { s with root := r })) := by
    simp only [Instr.storeAt, Instr.sureAddr, Sem.run_bind, Sem.run_pure, Result.andThen]
    simp [storeVar, sizeOf, typeInfo, hi, hs, Value.cells, hst]
    rfl
  simp [execOp, hop, hx, hy, hrun, Result.andThen]
theorem stage_root {w : World} {F : Foot} {s : Sh} {r : Root} {tA mA : Option Addr} {tc mc : Nat} (hrow : w.heap[F.p]? = some (.cells (F.row s) 73 (0, 0))) :
    ∃ w2, w.setRow F.p (({ F with tA := tA, tc := tc, mA := mA, mc := mc } : Foot).row { s with root := r }) = w2 ∧ w2.heap[F.p]? = some (.cells (({ F with tA := tA, tc := tc, mA := mA, mc := mc } : Foot).row { s with root := r }) 73 (0, 0)) ∧ w.grownBy w2 (some F.p) :=
  ⟨_, rfl, setRow_heap w F.p _ _ _ (0, 0) hrow, ⟨rfl, rfl, rfl, by simp, fun k _ hne => setRow_other w F.p k _ (fun e => hne (by rw [e]))⟩⟩
theorem stage_set {w : World} {p i : Nat} {cs : Array Value} {t : TypeId} {v : Value} (hrow : w.heap[p]? = some (.cells cs t (0, 0))) : ∃ w2, w.setCell ⟨p, i, none⟩ v = w2 ∧ w2.heap[p]? = some (.cells (cs.setIfInBounds i v) t (0, 0)) ∧ w.grownBy w2 (some p) :=
  ⟨_, rfl, set_row hrow v, ⟨rfl, rfl, rfl, by simp, fun k _ hne => heap_setCell_other _ _ _ _ (fun e => hne (by rw [e]))⟩⟩
def T51_1 : Bool × List (List Nat × List Nat) := (true, [([], []), ([], []), ([], []), ([], []), ([], []), ([4], [4]), ([5], [5]), ([6], [6]), ([7], [7]), ([8], [8]), ([], []), ([10], [10]), ([0, 0, 3, 8, 9], [0]), ([12, 0, 3, 8, 9], [12]), ([13, 3, 9, 0, 3, 8, 9], [3, 13]), ([1, 0, 1, 3, 4, 5, 6, 7, 8, 9, 12, 13, 14], [1]), ([15, 0, 1, 3, 4, 5, 6, 7, 8, 9, 12, 13, 14], [15]), ([16, 9, 14, 0, 1, 3, 4, 5, 6, 7, 8, 9, 12, 13, 14], [9, 16]), ([2, 0, 1, 2, 3, 4, 5, 6, 7, 8, 9, 10, 11, 12, 13, 14, 15, 16, 17], [2]), ([18, 0, 1, 2, 3, 4, 5, 6, 7, 8, 9, 10, 11, 12, 13, 14, 15, 16, 17], [18]), ([19, 0, 1, 2, 3, 4, 5, 6, 7, 8, 9, 10, 11, 12, 13, 14, 15, 16, 17], [19]), ([20, 11, 17, 0, 1, 2, 3, 4, 5, 6, 7, 8, 9, 10, 11, 12, 13, 14, 15, 16, 17], [11, 20])])
def B51_1 : List Nat := [0, 0, 0, 0, 0, 16, 48, 112, 240, 496, 0, 1024, 1017, 5113, 13305, 29691, 62459, 127995, 262143, 524287, 1048575, 2097151]
theorem tab51_1 : rtab .any (opsOf Tryz.f51 1) = T51_1 := by kernel_rfl
theorem bits51_1 : waitsOk T51_1.2 B51_1 = true := by kernel_rfl
def T51_2 : Bool × List (List Nat × List Nat) := (true, [([], []), ([], []), ([], []), ([2], [2]), ([3], [3]), ([4], [4]), ([5], [5]), ([1, 6], [1, 6]), ([0, 0, 1, 2, 3, 4, 5, 6, 7], [0]), ([8, 0, 1, 2, 3, 4, 5, 6, 7], [8]), ([9, 7, 7, 0, 1, 2, 3, 4, 5, 6, 7], [7, 9])])
def B51_2 : List Nat := [0, 0, 0, 4, 12, 28, 60, 126, 255, 511, 1023]
theorem tab51_2 : rtab .any (opsOf Tryz.f51 2) = T51_2 := by kernel_rfl
theorem bits51_2 : waitsOk T51_2.2 B51_2 = true := by kernel_rfl
theorem ShAt.turn2 {w w' : World} {F F' : Foot} {s s' : Sh} (h : ShAt w F s) (hm : Moves [F.p] w w') (hr : w'.heap[F.p]? = some (.cells (F'.row s') 73 (0, 0))) (ho : F'.own = F.own) (hc : F'.cap = F.cap) (hD : s'.D = s.D) (ht : s'.table = s.table)
    (hk : Kept w' F' s') (hoff : ∀ A ∈ F'.slices, ∀ a, A = some a → ¬ a.block ∈ F.own) : ShAt w' F' s' ∧ Goes0 F F' w w' := by
  have ho' := ho
  simp only [Foot.own, List.cons.injEq, and_true] at ho'
  obtain ⟨e1, e2, e3, e4, e5⟩ := ho'
  obtain ⟨n1, n2, n3, n4, n5, n6, n7⟩ := h.ne
  refine ⟨⟨by rw [e1]; exact hr, ?_, hk.tables, hk.maps, hk.was, hk.used, hk.fresh, ?_, by rw [e1, e2, e3, e4, e5]; exact h.ne, ?_⟩, e1, e2, e3, fun x hx => .inl (by rw [← ho]; exact hx), hm.more (fun x hx => by simp only [List.mem_singleton] at hx; subst hx; left; simp [Foot.own])⟩
  · rw [e2, e3, e4, hD]
    exact h.disk.moves hm (by simpa using Ne.symm n1) (by simpa using Ne.symm n2) (by simpa using Ne.symm n3)
  · rw [e5, hc, ht]
    exact tab_moves h.table hm (by simpa using Ne.symm n4)
  · intro A hA a ha hmem
    rw [ho] at hmem
    exact hoff A hA a ha hmem
theorem settle_any (r : Root) (tA : Option Addr) (tc : Nat) (mA : Option Addr) (mc : Nat) (w : World) (F : Foot) (s : Sh) (h : ShAt w F s) (hr : RootIn w r tA tc mA mc F.own) (hl : s.table.length ≤ 5000) (hrs : r.tables.length + r.maps.length ≤ 4000) :
    Calls Tryz.prog 51 #[.pointer (some ⟨F.p, 0, none⟩), r.val tA tc mA mc] w fun e w' => e = .returned (.tuple #[]) ∧ ∃ F', ShAt w' F' (s.settle r) ∧ Goes0 F F' w w' ∧ ∀ n, n ≤ w.heap.size → (∀ a, tA = some a → n ≤ a.block) → (∀ a, mA = some a → n ≤ a.block) → Sl n F F' := by
  obtain ⟨bx, hbx⟩ : ∃ bx, w.heap.size = bx := ⟨_, rfl⟩
  have hW := heap_last w (.cells #[.int .i64 r.epoch, .int .i64 r.blocks, .int .i64 r.next, .int .i64 r.start, .slice tA r.tables.length tc, .slice mA r.maps.length mc] 68)
  have hB := (Below.refl w.heap.size w).alloc (Nat.le_refl _) (.cells #[.int .i64 r.epoch, .int .i64 r.blocks, .int .i64 r.next, .int .i64 r.start, .slice tA r.tables.length tc, .slice mA r.maps.length mc] 68)
  have hoff : ¬ bx ∈ F.own := fun hx => by have := h.lts _ hx; omega
  unfold Root.val
  rw [hbx] at hW
  obtain ⟨W, hWW⟩ : ∃ W, w.alloc (.cells #[.int .i64 r.epoch, .int .i64 r.blocks, .int .i64 r.next, .int .i64 r.start, .slice tA r.tables.length tc, .slice mA r.maps.length mc] 68) = W := ⟨_, rfl⟩
  rw [hWW] at hW hB
  have HDD := h.below hB
  have HD := Hide.mk (HDD.below (below_drew (Below.refl W.heap.size W)))
  have HR := Hide.mk ((hr.moves (Moves.of_below hB []) (by simp)).moves (Moves.of_below (below_drew (Below.refl W.heap.size W)) []) (by simp))
  have G0 := Hide.mk (Goes.below (F := F) (hB.trans ((below_drew (Below.refl W.heap.size W)).mono hB.size)))
  have HOFF := Hide.mk hoff
  have HNE : Hide (bx ≠ F.p) := ⟨fun e => hoff (by rw [e]; simp [Foot.own])⟩
  have HL := Hide.mk (And.intro hl hrs)
  have HCL := Hide.mk (cloneI_any (some ⟨F.g, 0, none⟩) F.cap s.table W.drew (Kd.R_reads' HD.out.table).2.2 (tab_max HD.out.table).1 (by omega))
  have KC : W.drew.heap[bx]? = some (.cells #[.int .i64 r.epoch, .int .i64 r.blocks, .int .i64 r.next, .int .i64 r.start, .slice tA r.tables.length tc, .slice mA r.maps.length mc] 68 (0, 0)) ∧ W.drew.cell? ⟨F.p, 10, none⟩ = some (.slice (some ⟨F.g, 0, none⟩) s.table.length F.cap) := ⟨hW, HD.out.cells.c10⟩
  clear h hr hoff hl hrs hW hB HDD
  go_enter Tryz.func51, Tryz.ntmps51
  go_wp2
  try rw [hWW]
  refine s_ 22 (fun w' => w'.heap[bx]? = some (.cells #[.int .i64 r.epoch, .int .i64 r.blocks, .int .i64 r.next, .int .i64 r.start, .slice tA r.tables.length tc, .slice mA r.maps.length mc] 68 (0, 0)) ∧ w'.cell? ⟨F.p, 10, none⟩ = some (.slice (some ⟨F.g, 0, none⟩) s.table.length F.cap)) tab51_1 bits51_1 KC (fun hHeld HT_ HW_ => ?_)
  refine p_ 0 4 ?_
  refine p_ 1 5 ?_
  refine p_ 2 6 ?_
  refine t_ 3 7 hHeld ?_ (hy := by
      intro w' hS'
      refine exec_loadR (x := .tmp 3) ?_ ?_ hS'.1
      · rfl
      · rfl)
  refine p_ 4 8 ?_
  refine p_ 5 9 ?_
  refine p_ 6 10 ?_
  refine p_ 7 11 ?_
  refine t_ 8 12 hHeld ?_ (hy := by
      intro w' hS'
      have s1 := hS'.2
      go_simp
      rfl)
  refine p_ 10 14 ?_
  refine t_ 11 15 hHeld ?_ (hy := by
      intro w' hS'
      have s1 := cell_of (i := 3) hS'.1
      simp at s1
      go_simp
      rfl)
  refine n_ 9 (some 13) (fun K hK => ?_)
  refine g_ Tryz.func73 #[.slice (some ⟨F.g, 0, none⟩) s.table.length F.cap] ?_
  with_reducible refine HCL.out.mono ?_
  rintro e w1 ⟨v1, rfl, ho, hb⟩
  obtain ⟨A7, c7, rfl, hi7, hge7⟩ := In.of_own ho
  refine ⟨_, rfl, ?_⟩
  have I7 := Hide.mk hi7
  have GE7 := Hide.mk hge7
  have B1 := Hide.mk hb
  have row1 := Hide.mk ((hb.block F.p (lt_of_row HD.out.row)).trans HD.out.row)
  have KC1 := And.intro ((hb.block bx (lt_of_row KC.1)).trans KC.1) (pw_cell_below hb KC.2)
  clear ho hb hi7 hge7
  refine k_ hK KC1 (fun hHeld => ?_)
  clear hK K
  refine p_ 12 16 ?_
  refine p_ 13 17 ?_
  refine n_ 14 none (fun K hK => ?_)
  obtain ⟨w2, hw2, row2, hg2⟩ := stage_root (tA := tA) (tc := tc) (mA := mA) (mc := mc) (r := r) row1.out
  have KC2 := And.intro ((hg2.block bx (lt_of_row KC1.1) (by simpa using HNE.out)).trans KC1.1) (show w2.cell? ⟨F.p, 10, none⟩ = some (.slice (some ⟨F.g, 0, none⟩) s.table.length F.cap) from cell_of row2)
  refine skip_ (w1 := w2) (by rfl) rfl ?_ ?_
  · rw [← hw2]; exact exec_store_root row1.out (by rfl) (by rfl) (by rfl)
  refine hK.out _ _ KC2 (fun hHeld => ?_)
  clear hK K
  refine p_ 15 18 ?_
  refine p_ 16 19 ?_
  refine n_ 17 none (fun K hK => ?_)
  have c8 := cell_of (i := 8) row2
  have f8 := free_of (i := 8) row2
  simp [Foot.row] at c8
  obtain ⟨w3, hw3, row3, hg3⟩ := stage_set (i := 8) (v := .slice A7 s.table.length c7) row2
  have KC3 := And.intro ((hg3.block bx (lt_of_row KC2.1) (by simpa using HNE.out)).trans KC2.1) (show w3.cell? ⟨F.p, 10, none⟩ = some (.slice (some ⟨F.g, 0, none⟩) s.table.length F.cap) from cell_of row3)
  refine skip_ (w1 := w3) (by rfl) rfl ?_ ?_
  · first | (go_simp; done) | (go_simp; rfl)
  refine hK.out _ _ KC3 (fun hHeld => ?_)
  clear hK K
  refine p_ 18 20 ?_
  refine p_ 19 21 ?_
  refine p_ 20 22 ?_
  refine n_ 21 none (fun K hK => ?_)
  have c11 := cell_of (i := 11) row3
  have f11 := free_of (i := 11) row3
  simp [Foot.row] at c11
  obtain ⟨w4, hw4, row4, hg4⟩ := stage_set (i := 11) (v := .int .i64 r.start) row3
  have KC4 := And.intro ((hg4.block bx (lt_of_row KC3.1) (by simpa using HNE.out)).trans KC3.1) (show w4.cell? ⟨F.p, 10, none⟩ = some (.slice (some ⟨F.g, 0, none⟩) s.table.length F.cap) from cell_of row4)
  refine skip_ (w1 := w4) (by rfl) rfl ?_ ?_
  · first | (go_simp; done) | (go_simp; rfl)
  refine hK.out _ _ KC4 (fun hHeld => ?_)
  clear hK K
  refine d_ ?_
  clear KC KC1 KC2 KC3 hHeld c8 c11 f8 f11
  have hm14 : Moves [F.p] w1 w4 := ((Moves.of_grown hg2).trans (Moves.of_grown hg3)).trans (Moves.of_grown hg4)
  have hm4 : Moves [F.p] W.drew w4 := (Moves.of_below B1.out [F.p]).trans hm14
  have hin : ∀ x ∈ [F.p], x ∈ F.own ∨ W.drew.heap.size ≤ x := fun x hx => by simp only [List.mem_singleton] at hx; subst hx; left; simp [Foot.own]
  have hpo : F.p ∈ F.own := by simp [Foot.own]
  have k4 := HD.out.kept hm4 hin
  have hS4 := HD.out.turn2 (F' := { F with tA := tA, tc := tc, mA := mA, mc := mc, wA := A7, wc := c7 }) (s' := { s with root := r, was := s.table, start := r.start }) hm4 (by rw [row4]; rfl) rfl rfl rfl rfl
    ⟨HR.out.tables.moves hm4 (fun a ha hx => HR.out.offT a ha (by simp only [List.mem_singleton] at hx; rw [hx]; exact hpo)), HR.out.maps.moves hm4 (fun a ha hx => HR.out.offM a ha (by simp only [List.mem_singleton] at hx; rw [hx]; exact hpo)),
      I7.out.moves hm14 (fun a ha hx => by simp only [List.mem_singleton] at hx; have := GE7.out a ha; have := HD.out.lts F.p hpo; omega), k4.used, k4.fresh⟩
    (fun A hA a ha hmem => by
      simp only [Foot.slices, List.mem_cons, List.not_mem_nil, or_false] at hA
      rcases hA with rfl | rfl | rfl | rfl | rfl
      · exact HR.out.offT a ha hmem
      · exact HR.out.offM a ha hmem
      · have := GE7.out a ha
        have := HD.out.lts _ hmem
        omega
      · exact HD.out.off F.uA (by simp [Foot.slices]) a ha hmem
      · exact HD.out.off F.fA (by simp [Foot.slices]) a ha hmem)
  have S4 := Hide.mk hS4
  have hdr4 := below_drew (Below.refl w4.heap.size w4)
  have S4D := Hide.mk (hS4.1.below hdr4)
  have HR4 := Hide.mk ((HR.out.foot0 hS4.2).moves (Moves.of_below hdr4 []) (by simp))
  have KD := And.intro (show w4.drew.heap[bx]? = _ from KC4.1) (show w4.drew.cell? ⟨F.p, 10, none⟩ = _ from KC4.2)
  have HUB := Hide.mk (usedBy_any r s.table (some ⟨F.g, 0, none⟩) F.cap tc mc tA mA w4.drew S4D.out.tables S4D.out.maps ⟨(Kd.R_reads' S4D.out.table).2.2, (tab_max S4D.out.table).1, fun a ha => by cases ha; exact tab_lt S4D.out.table⟩ (by have := HL.out; omega))
  unfold Root.val at HUB
  clear hm14 hm4 hin k4 hS4 hdr4 KC4 row2 row3 row4 hg2 hg3 hg4 hw2 hw3 hw4
  go_wp2
  refine s_ 11 (fun w' => w'.heap[bx]? = some (.cells #[.int .i64 r.epoch, .int .i64 r.blocks, .int .i64 r.next, .int .i64 r.start, .slice tA r.tables.length tc, .slice mA r.maps.length mc] 68 (0, 0)) ∧ w'.cell? ⟨F.p, 10, none⟩ = some (.slice (some ⟨F.g, 0, none⟩) s.table.length F.cap)) tab51_2 bits51_2 KD (fun hHeld HT_ HW_ => ?_)
  refine p_ 0 23 ?_
  refine t_ 1 24 hHeld ?_ (hy := by
      intro w' hS'
      refine exec_loadR (x := .tmp 3) ?_ ?_ hS'.1
      · rfl
      · rfl)
  refine p_ 2 25 ?_
  refine p_ 3 26 ?_
  refine p_ 4 27 ?_
  refine p_ 5 28 ?_
  refine t_ 6 29 hHeld ?_ (hy := by
      intro w' hS'
      have s1 := hS'.2
      go_simp
      rfl)
  refine n_ 7 (some 30) (fun K hK => ?_)
  refine g_ Tryz.func49 #[.agg #[.int .i64 r.epoch, .int .i64 r.blocks, .int .i64 r.next, .int .i64 r.start, .slice tA r.tables.length tc, .slice mA r.maps.length mc], .slice (some ⟨F.g, 0, none⟩) s.table.length F.cap] ?_
  with_reducible refine HUB.out.mono ?_
  rintro e w5 ⟨v5, rfl, ho, hb⟩
  obtain ⟨A8, c8', hv8, hi8, hge8⟩ := In.of_own ho
  subst hv8
  refine ⟨_, rfl, ?_⟩
  have I8 := Hide.mk hi8
  have GE8 := Hide.mk hge8
  have B5 := Hide.mk hb
  have row5 := Hide.mk ((hb.block F.p (lt_of_row S4D.out.row)).trans S4D.out.row)
  have KD1 := And.intro ((hb.block bx (lt_of_row KD.1)).trans KD.1) (pw_cell_below hb KD.2)
  clear ho hb hi8 hge8
  refine k_ hK KD1 (fun hHeld => ?_)
  clear hK K
  refine p_ 8 31 ?_
  refine p_ 9 32 ?_
  refine n_ 10 none (fun K hK => ?_)
  have c9 := cell_of (i := 9) row5.out
  have f9 := free_of (i := 9) row5.out
  simp [Foot.row] at c9
  obtain ⟨w6, hw6, row6, hg6⟩ := stage_set (i := 9) (v := .slice A8 (usedL r s.table).length c8') row5.out
  have KD2 := And.intro ((hg6.block bx (lt_of_row KD1.1) (by simpa using HNE.out)).trans KD1.1) (show w6.cell? ⟨F.p, 10, none⟩ = some (.slice (some ⟨F.g, 0, none⟩) s.table.length F.cap) from cell_of row6)
  refine skip_ (w1 := w6) (by rfl) rfl ?_ ?_
  · first | (go_simp; done) | (go_simp; rfl)
  refine hK.out _ _ KD2 (fun hHeld => ?_)
  clear hK K
  refine d_ ?_
  clear KD KD1 hHeld c9 f9
  have hm56 : Moves [F.p] w5 w6 := Moves.of_grown hg6
  have hm46 : Moves [F.p] w4.drew w6 := (Moves.of_below B5.out [F.p]).trans hm56
  have hin : ∀ x ∈ [F.p], x ∈ F.own ∨ w4.drew.heap.size ≤ x := fun x hx => by simp only [List.mem_singleton] at hx; subst hx; left; exact hpo
  have k6 := S4D.out.kept hm46 hin
  have hS6 := S4D.out.turn2 (F' := { F with tA := tA, tc := tc, mA := mA, mc := mc, wA := A7, wc := c7, uA := A8, uc := c8' }) (s' := { s with root := r, was := s.table, start := r.start, used := usedL r s.table }) hm46 (by rw [row6]; rfl) rfl rfl rfl rfl
    ⟨k6.tables, k6.maps, k6.was, I8.out.moves hm56 (fun a ha hx => by simp only [List.mem_singleton] at hx; have := GE8.out a ha; have := S4D.out.lts F.p hpo; omega), k6.fresh⟩
    (fun A hA a ha hmem => by
      simp only [Foot.slices, List.mem_cons, List.not_mem_nil, or_false] at hA
      rcases hA with rfl | rfl | rfl | rfl | rfl
      · exact S4D.out.off _ (by simp [Foot.slices]) a ha hmem
      · exact S4D.out.off _ (by simp [Foot.slices]) a ha hmem
      · exact S4D.out.off _ (by simp [Foot.slices]) a ha hmem
      · have := GE8.out a ha
        have := S4D.out.lts _ hmem
        omega
      · exact S4D.out.off F.fA (by simp [Foot.slices]) a ha hmem)
  have S6 := Hide.mk hS6
  have kb := cell_of (i := 1) KD2.1
  simp at kb
  clear hm56 hm46 hin k6 hS6 KD2 row6 hg6 hw6
  go_wp2_with (go_at_call 46; refine (Given.make_any r.blocks _).mono ?_; rintro e w7 ⟨v7, rfl, ho, hb7⟩
               rw [show List.replicate (Given.clampN r.blocks) 0 = emptyB r.blocks from rfl] at ho
               obtain ⟨A9, c9, hv9, hi9, hge9⟩ := In.of_own ho
               obtain ⟨n9, hn9⟩ : ∃ n, (emptyB r.blocks).length = n := ⟨_, rfl⟩
               have GE9 := Hide.mk hge9
               have FIN := Hide.mk (S6.out.1.fresh_set hb7 hi9 hge9)
               rw [hn9] at hv9 FIN
               subst hv9
               have r7 := (S6.out.1.below hb7).row
               have c12 := cell_of (i := 12) r7
               have f12 := free_of (i := 12) r7
               simp [Foot.row] at c12
               obtain ⟨w8, hw8, row8, hg8⟩ := stage_set (i := 12) (v := .slice A9 n9 c9) r7
               have c13 := cell_of (i := 13) row8
               have f13 := free_of (i := 13) row8
               simp [Foot.row] at c13
               have hFIN := FIN.out
               rw [show (w7.setCell ⟨({ F with tA := tA, tc := tc, mA := mA, mc := mc, wA := A7, wc := c7, uA := A8, uc := c8' } : Foot).p, 12, none⟩ (.slice A9 n9 c9)) = w8 from hw8] at hFIN
               have FIN2 := Hide.mk hFIN
               clear ho hb7 hi9 hge9 hn9 r7 row8 hg8 FIN hFIN)
  go_end0
  have hz := FIN2.out.1.set 13 (.bool false) (s' := s.settle r) rfl rfl rfl rfl rfl rfl rfl rfl
  refine ⟨rfl, _, hz.1, ((G0.out.toGoes0.trans S4.out.2).trans ((Goes.below (below_drew (Below.refl w4.heap.size w4))).toGoes0.trans S6.out.2)).trans (FIN2.out.2.trans hz.2).toGoes0, fun n hn hTn hMn A hA => ?_⟩
  have sz1 : n ≤ w4.drew.heap.size := Nat.le_trans hn ((G0.out.toGoes0.trans S4.out.2).moves.size)
  simp only [Foot.slices, List.mem_cons, List.not_mem_nil, or_false] at hA
  rcases hA with rfl | rfl | rfl | rfl | rfl
  · exact .inr hTn
  · exact .inr hMn
  · exact .inr fun a ha => by have := GE7.out a ha; have := G0.out.moves.size; omega
  · exact .inr fun a ha => by have := GE8.out a ha; omega
  · exact .inr fun a ha => by have := GE9.out a ha; have := S6.out.2.moves.size; omega
end Go.Proofs.YtplkndmkchpcdaaGreat.Sh
end
section
namespace Go.Proofs.YtplkndmkchpcdaaGreat.Sh
open Go.RowKit YtplkndmkchpcdaaGreatW.PrintWords YtplkndmkchpcdaaGreatW.PrintLast YtplkndmkchpcdaaGreatW.PrintMore MapFn Disk Bitset Page
set_option maxHeartbeats 8000000
set_option maxRecDepth 100000
theorem infoT : (Tryz.prog.info? 71).map (·.size) = some 4 := by kernel_rfl
theorem exec_store_state {w : World} {F : Foot} {s : Sh} {g1 cap1 fc : Nat} {fA : Option Addr} {st : Int} {tab fr : List Int} {d : Bool} {a : Act} {o : Oper} {x y : Operand} (hrow : w.heap[F.p]? = some (.cells (F.row s) 73 (0, 0))) (hop : o.op = Op.store 71 x y)
    (hx : a.eval x = .pointer (some ⟨F.p, 10, none⟩)) (hy : a.eval y = .agg #[.slice (some ⟨g1, 0, none⟩) tab.length cap1, .int .i64 st, .slice fA fr.length fc, .bool d]) :
    (execOp a.eval o).run Tryz.prog w = .ok .skip (w.setRow F.p (({ F with g := g1, cap := cap1, fA := fA, fc := fc } : Foot).row { s with table := tab, start := st, fresh := fr, dirty := d })) := by
  have hst := run_storeCells_at Tryz.prog F.p 10 73 [.slice (some ⟨g1, 0, none⟩) tab.length cap1, .int .i64 st, .slice fA fr.length fc, .bool d] 0 (F.row s) w hrow (by simp [Foot.row]) (by intro v hv; simp at hv; rcases hv with rfl | rfl | rfl | rfl <;> rfl)
  obtain ⟨i, hi, hs⟩ := Option.map_eq_some_iff.1 infoT
  have hrun : (Instr.storeAt 71 (.pointer (some ⟨F.p, 10, none⟩)) (.agg #[.slice (some ⟨g1, 0, none⟩) tab.length cap1, .int .i64 st, .slice fA fr.length fc, .bool d])).run Tryz.prog w = .ok () (w.setRow F.p (({ F with g := g1, cap := cap1, fA := fA, fc := fc } : Foot).row { s with table := tab, start := st, fresh := fr, dirty := d })) := by
    simp only [Instr.storeAt, Instr.sureAddr, Sem.run_bind, Sem.run_pure, Result.andThen]
    simp [storeVar, sizeOf, typeInfo, hi, hs, Value.cells, hst]
    rfl
  simp [execOp, hop, hx, hy, hrun, Result.andThen]
theorem stage_state {w : World} {F : Foot} {s : Sh} {g1 cap1 fc : Nat} {fA : Option Addr} {st : Int} {tab fr : List Int} {d : Bool} (hrow : w.heap[F.p]? = some (.cells (F.row s) 73 (0, 0))) :
    ∃ w2, w.setRow F.p (({ F with g := g1, cap := cap1, fA := fA, fc := fc } : Foot).row { s with table := tab, start := st, fresh := fr, dirty := d }) = w2 ∧ w2.heap[F.p]? = some (.cells (({ F with g := g1, cap := cap1, fA := fA, fc := fc } : Foot).row { s with table := tab, start := st, fresh := fr, dirty := d }) 73 (0, 0)) ∧ w.grownBy w2 (some F.p) :=
  ⟨_, rfl, setRow_heap w F.p _ _ _ (0, 0) hrow, ⟨rfl, rfl, rfl, by simp, fun k _ hne => setRow_other w F.p k _ (fun e => hne (by rw [e]))⟩⟩
theorem trip {w : World} {F : Foot} {s : Sh} (h : ShAt w F s) : w.cell? ⟨F.p, 8, none⟩ = some (.slice F.wA s.was.length F.wc) ∧ w.cell? ⟨F.p, 5, none⟩ = some (.int .i64 s.root.start) ∧ w.cell? ⟨F.p, 3, none⟩ = some (.int .i64 s.root.blocks) := ⟨h.cells.c8, h.cells.c5, h.cells.c3⟩
def T26_4 : Bool × List (List Nat × List Nat) := (true, [([], []), ([], []), ([1], [1]), ([2], [2]), ([3], [3]), ([4], [4]), ([], []), ([6], [6]), ([7], [7]), ([8], [8]), ([9], [9]), ([], []), ([11], [11]), ([12], [12]), ([13], [13]), ([14], [14]), ([15, 5], [15]), ([5, 10, 16], [5, 10, 16]), ([0, 0, 1, 2, 3, 4, 5, 6, 7, 8, 9, 10, 11, 12, 13, 14, 15, 16, 17], [0]), ([18, 0, 1, 2, 3, 4, 5, 6, 7, 8, 9, 10, 11, 12, 13, 14, 15, 16, 17], [18]), ([19, 17, 16, 0, 1, 2, 3, 4, 5, 6, 7, 8, 9, 10, 11, 12, 13, 14, 15, 16, 17], [17, 19])])
def B26_4 : List Nat := [0, 0, 2, 6, 14, 30, 0, 64, 192, 448, 960, 0, 2048, 6144, 14336, 30720, 63550, 131070, 262143, 524287, 1048575]
theorem tab26_4 : rtab .any (opsOf Tryz.f26 4) = T26_4 := by kernel_rfl
theorem bits26_4 : waitsOk T26_4.2 B26_4 = true := by kernel_rfl
theorem abort_any (w : World) (F : Foot) (s : Sh) (h : ShAt w F s) (hk : Ok s) :
    Calls Tryz.prog 26 #[.pointer (some ⟨F.p, 0, none⟩)] w fun e w' => e = .returned (.int .i64 s.abort.2) ∧ ∃ F', ShAt w' F' s.abort.1 ∧ Goes F F' w w' := by
  have HA := Hide.mk (alive_any h)
  have HS := Hide.mk h
  have HD := Hide.mk (h.below (below_drew (Below.refl w.heap.size w)))
  have HWP := Hide.mk hk.was.1
  have HCL := Hide.mk (cloneI_any F.wA F.wc s.was w.drew HD.out.was.reads HD.out.was.room (by have := hk.was.2.1; omega))
  have KC := trip HD.out
  obtain ⟨R, hR⟩ : ∃ R, s.abort = R := ⟨_, rfl⟩
  rw [hR]
  unfold Sh.abort at hR
  obtain ⟨a, ha⟩ : ∃ a, s.alive = a := ⟨_, rfl⟩
  rw [ha] at HA hR
  clear h hk ha
  by_cases h0 : a = 0
  · subst h0
    rw [if_neg (by simp)] at hR
    have HRR := Hide.mk hR
    clear hR
    go_enter Tryz.func26, Tryz.ntmps26
    go_wp2_with (go_at_call 63; refine HA.out.mono ?_; rintro e w0 ⟨rfl, hw0⟩; obtain rfl : w = w0 := hw0.symm)
    refine s_ 21 (fun w' => w'.cell? ⟨F.p, 8, none⟩ = some (.slice F.wA s.was.length F.wc) ∧ w'.cell? ⟨F.p, 5, none⟩ = some (.int .i64 s.root.start) ∧ w'.cell? ⟨F.p, 3, none⟩ = some (.int .i64 s.root.blocks)) tab26_4 bits26_4 KC (fun hHeld HT_ HW_ => ?_)
    refine p_ 0 9 ?_
    refine p_ 1 10 ?_
    refine p_ 2 11 ?_
    refine p_ 3 12 ?_
    refine t_ 4 13 hHeld ?_ (hy := by
        intro w' hS'
        have s1 := hS'.1
        go_simp
        rfl)
    refine p_ 6 15 ?_
    refine p_ 7 16 ?_
    refine p_ 8 17 ?_
    refine p_ 9 18 ?_
    refine t_ 10 19 hHeld ?_ (hy := by
        intro w' hS'
        have s1 := hS'.2.1
        go_simp
        rfl)
    refine p_ 11 20 ?_
    refine p_ 12 21 ?_
    refine p_ 13 22 ?_
    refine p_ 14 23 ?_
    refine t_ 15 24 hHeld ?_ (hy := by
        intro w' hS'
        have s1 := hS'.2.2
        go_simp
        rfl)
    refine n_ 5 (some 14) (fun K hK => ?_)
    refine g_ Tryz.func73 #[.slice F.wA s.was.length F.wc] ?_
    with_reducible refine HCL.out.mono ?_
    rintro e w1 ⟨v1, rfl, ho, hb⟩
    obtain ⟨g1, cap1, rfl, hg1, hg1', _⟩ := Kd.R_form ho HWP.out
    refine ⟨_, rfl, ?_⟩
    have O1 := Hide.mk ho
    have GE1 := Hide.mk (And.intro hg1 hg1')
    have B1 := Hide.mk hb
    have KC1 := trip (HD.out.below hb)
    clear ho hb hg1 hg1'
    refine k_ hK KC1 (fun hHeld => ?_)
    clear hK K
    refine n_ 16 (some 25) (fun K hK => ?_)
    refine g_ Tryz.func46 #[.int .i64 s.root.blocks] ?_
    with_reducible refine (Given.make_any s.root.blocks w1).mono ?_
    rintro e w2 ⟨v2, rfl, ho, hb⟩
    rw [show List.replicate (Given.clampN s.root.blocks) 0 = emptyB s.root.blocks from rfl] at ho
    obtain ⟨A2, c2, hv2, hi2, hge2⟩ := In.of_own ho
    obtain ⟨n2, hn2⟩ : ∃ n, (emptyB s.root.blocks).length = n := ⟨_, rfl⟩
    rw [hn2] at hv2
    subst hv2
    refine ⟨_, rfl, ?_⟩
    have I2 := Hide.mk hi2
    have GE2 := Hide.mk hge2
    have HN2 := Hide.mk hn2
    have B2 := Hide.mk hb
    have KC2 := trip ((HD.out.below B1.out).below hb)
    have row2 := Hide.mk ((HD.out.below B1.out).below hb).row
    clear ho hb hi2 hge2 hn2
    refine k_ hK KC2 (fun hHeld => ?_)
    clear hK K
    refine p_ 17 26 ?_
    refine p_ 18 27 ?_
    refine p_ 19 28 ?_
    refine n_ 20 none (fun K hK => ?_)
    obtain ⟨w3, hw3, row3, hg3⟩ := stage_state (g1 := g1) (cap1 := cap1) (fA := A2) (fc := c2) (st := s.root.start) (tab := s.was) (fr := emptyB s.root.blocks) (d := false) row2.out
    refine skip_ (w1 := w3) (by rfl) rfl ?_ ?_
    · rw [← hw3]; exact exec_store_state row2.out (by rfl) (by rfl) (by rw [HN2.out]; rfl)
    have KC3 := And.intro (show w3.cell? ⟨F.p, 8, none⟩ = some (.slice F.wA s.was.length F.wc) from cell_of row3) (And.intro (show w3.cell? ⟨F.p, 5, none⟩ = some (.int .i64 s.root.start) from cell_of row3) (show w3.cell? ⟨F.p, 3, none⟩ = some (.int .i64 s.root.blocks) from cell_of row3))
    refine hK.out _ _ KC3 (fun hHeld => ?_)
    clear hK K
    refine d_ ?_
    clear KC KC1 KC2 hHeld
    go_wp2
    go_ret
    have hdr := below_drew (Below.refl w.heap.size w)
    have hm13 : Moves [F.p] w.drew w3 := ((Moves.of_below B1.out [F.p]).trans (Moves.of_below B2.out [F.p])).trans (Moves.of_grown hg3)
    have hin : ∀ x ∈ [F.p], x ∈ F.own ∨ w.drew.heap.size ≤ x := fun x hx => by simp only [List.mem_singleton] at hx; subst hx; left; simp [Foot.own]
    have k3 := HD.out.kept hm13 hin
    have hlt := HD.out.lts
    have hpo := hlt F.p (by simp [Foot.own])
    obtain ⟨n1, n2, n3, n4, n5, n6, n7⟩ := HD.out.ne
    have l2 := hlt F.pd (by simp [Foot.own])
    have l3 := hlt F.ms (by simp [Foot.own])
    have l4 := hlt F.ml (by simp [Foot.own])
    have hg1 := GE1.out.1
    have hg1' := GE1.out.2
    have hT3 : Tab w3 g1 cap1 s.was := by
      have h1 : Tab w1 g1 cap1 s.was := Kd.R_lower O1.out (Nat.zero_le _)
      refine tab_moves (tab_moves h1 (Moves.of_below B2.out []) (by simp)) (Moves.of_grown hg3) (by simp; omega)
    have hlast : ShAt w3 { F with g := g1, cap := cap1, fA := A2, fc := c2 } { s with table := s.was, start := s.root.start, fresh := emptyB s.root.blocks, dirty := false } := by
      refine ⟨row3, HD.out.disk.moves hm13 (by simpa using Ne.symm n1) (by simpa using Ne.symm n2) (by simpa using Ne.symm n3), k3.tables, k3.maps, k3.was, k3.used, I2.out.moves (Moves.of_grown hg3) (fun a ha hx => by simp only [List.mem_singleton] at hx; have := GE2.out a ha; have := B1.out.size; omega), hT3, ⟨n1, n2, n3, by show F.p ≠ g1; omega, by show F.pd ≠ g1; omega, by show F.ms ≠ g1; omega, by show F.ml ≠ g1; omega⟩, fun A hA a ha hm => ?_⟩
      simp only [Foot.slices, List.mem_cons, List.not_mem_nil, or_false] at hA
      simp only [Foot.own, List.mem_cons, List.not_mem_nil, or_false] at hm
      have old : ∀ A ∈ F.slices, A = some a → False := fun A hA ha => by
        have q1 := HD.out.off A hA a ha
        have q2 := HD.out.slice_lt A hA a ha
        simp only [Foot.own, List.mem_cons, List.not_mem_nil, or_false] at q1
        rcases hm with e | e | e | e | e
        · exact q1 (.inl e)
        · exact q1 (.inr (.inl e))
        · exact q1 (.inr (.inr (.inl e)))
        · exact q1 (.inr (.inr (.inr (.inl e))))
        · omega
      rcases hA with rfl | rfl | rfl | rfl | rfl
      · exact old F.tA (by simp [Foot.slices]) ha
      · exact old F.mA (by simp [Foot.slices]) ha
      · exact old F.wA (by simp [Foot.slices]) ha
      · exact old F.uA (by simp [Foot.slices]) ha
      · have q := GE2.out a ha
        have q2 := B1.out.size
        rcases hm with e | e | e | e | e <;> omega
    rw [← HRR.out]
    refine ⟨rfl, _, hlast, ⟨rfl, rfl, rfl, fun x hx => ?_, ((Moves.of_below hdr [F.p]).trans hm13).more (fun x hx => by simp only [List.mem_singleton] at hx; subst hx; left; simp [Foot.own])⟩, fun A hA => ?_⟩
    · simp only [Foot.own, List.mem_cons, List.not_mem_nil, or_false] at hx
      rcases hx with rfl | rfl | rfl | rfl | rfl
      · left; simp [Foot.own]
      · left; simp [Foot.own]
      · left; simp [Foot.own]
      · left; simp [Foot.own]
      · right; exact hg1
    · simp only [Foot.slices, List.mem_cons, List.not_mem_nil, or_false] at hA
      rcases hA with rfl | rfl | rfl | rfl | rfl
      · left; simp [Foot.slices]
      · left; simp [Foot.slices]
      · left; simp [Foot.slices]
      · left; simp [Foot.slices]
      · exact .inr fun a ha => by have := GE2.out a ha; have := B1.out.size; have := hdr.size; omega
  · rw [if_pos h0] at hR
    have q : (a != 0) = true := by simp [h0]
    have HRR := Hide.mk hR
    clear h0 hR
    go_enter Tryz.func26, Tryz.ntmps26
    go_wp2_with (go_at_call 63; refine HA.out.mono ?_; rintro e w1 ⟨rfl, rfl⟩)
    go_ret
    rw [← HRR.out]
    exact ⟨rfl, F, HS.out, Goes.refl _ _⟩
end Go.Proofs.YtplkndmkchpcdaaGreat.Sh
end
section
namespace Go.Proofs.YtplkndmkchpcdaaGreat.Sh
open Go.RowKit YtplkndmkchpcdaaGreatW.PrintWords YtplkndmkchpcdaaGreatW.PrintLast YtplkndmkchpcdaaGreatW.PrintMore MapFn Disk Bitset Page PShadowPlays
set_option maxHeartbeats 4000000
set_option maxRecDepth 100000
theorem words_run (l : List Int) (hb : ∀ x ∈ l, 0 ≤ x ∧ x ≤ 65535) (hl : l.length ≤ 1000000) : ∀ (d i : Nat) (acc : List Int), i + d = l.length → acc.length ≤ 2 * i → page_Words.l0 (d + 1) acc l (l.length : Int) (i : Int) = some (acc ++ wordsL (l.drop i), 0)
  | 0, i, acc, hi, ha => by
    rw [page_Words.l0, if_neg (by omega), List.drop_eq_nil_of_le (by omega)]
    simp [wordsL]
  | d + 1, i, acc, hi, ha => by
    have hil : i < l.length := by omega
    have hx := hb l[i] (List.getElem_mem hil)
    have e1 : rd l (i : Int) = l[i] := by simp [rd, List.getD_eq_getElem?_getD, hil]
    rw [page_Words.l0, if_pos (by omega), if_pos (by omega), if_pos (by omega), e1, if_neg (by omega), if_neg (by omega)]
    simp only [Option.bind_some]
    rw [if_pos (by simp; omega), Bitset.wrap_ok (n := (i : Int) + 1) (by omega) (by omega), show ((i : Int) + 1) = ((i + 1 : Nat) : Int) by omega, words_run l hb hl d (i + 1) _ (by omega) (by simp; omega), List.drop_eq_getElem_cons hil]
    show some (acc ++ [l[i] / 256 % 256, l[i] % 256] ++ wordsL (l.drop (i + 1)), (0 : Int)) = some (acc ++ ([l[i] / 256 % 256, l[i] % 256] ++ wordsL (l.drop (i + 1))), 0)
    rw [List.append_assoc]
theorem words_eq (l : List Int) (hb : ∀ x ∈ l, 0 ≤ x ∧ x ≤ 65535) (hl : l.length ≤ 1000000) : page_Words.f (l.length + 1) l = some (wordsL l, 0) := by
  unfold page_Words.f
  have := words_run l hb hl l.length 0 [] (by omega) (by simp)
  simpa using this
theorem words_any (A : Option Addr) (c : Nat) (l : List Int) (w : World) (hr : In .i64 w A l c) (hb : ∀ x ∈ l, 0 ≤ x ∧ x ≤ 65535) (hl : l.length ≤ 1000000) :
    Calls Tryz.prog 67 #[.slice A l.length c] w fun e w' => ∃ v, e = .returned (.tuple #[v, .int .i64 0]) ∧ Kd.R (Kd.int .u8) 5 w' w.heap.size (fun _ => True) v (wordsL l) ∧ Below w.heap.size w w' :=
  page_Words.calls (l.length + 1) A c l _ _ w hr.reads hr.room (words_eq l hb hl)
theorem wordsL_len (l : List Int) : (wordsL l).length = 2 * l.length := by
  induction l with
  | nil => rfl
  | cons x r ih =>
    show ([x / 256 % 256, x % 256] ++ wordsL r).length = _
    rw [List.length_append, ih]
    simp
    omega
theorem wordsL_bytes (l : List Int) : Bytes (wordsL l) := by
  intro x hx
  unfold wordsL at hx
  obtain ⟨y, _, hy⟩ := List.mem_flatMap.1 hx
  simp at hy
  unfold IsByte
  rcases hy with rfl | rfl <;> omega
theorem splitF_bytes {n : Nat} : ∀ (f : Nat) (l : List Int), Bytes l → ∀ p ∈ splitF f n l, Bytes p
  | 0, l, _, p, hp => by cases hp
  | f + 1, [], _, p, hp => by cases hp
  | f + 1, x :: r, hb, p, hp => by
    rcases List.mem_cons.1 hp with rfl | hp
    · exact fun y hy => hb y (List.mem_of_mem_take hy)
    · exact splitF_bytes f _ (fun y hy => hb y (List.mem_of_mem_drop hy)) p hp
theorem splitL_bytes {n : Nat} {l : List Int} (h : Bytes l) : ∀ p ∈ splitL n l, Bytes p := splitF_bytes _ _ h
theorem splitF_count {n : Nat} : ∀ (f : Nat) (l : List Int), (splitF f n l).length ≤ f
  | 0, _ => Nat.le_refl _
  | f + 1, [] => Nat.zero_le _
  | f + 1, x :: r => by
    show (_ :: splitF f n _).length ≤ _
    have := splitF_count (n := n) f ((x :: r).drop n)
    simp only [List.length_cons]
    omega
theorem splitL_count (n : Nat) (l : List Int) : (splitL n l).length ≤ l.length := splitF_count _ _
theorem mapsOf_le (b : Int) : mapsOf b ≤ 512 := by
  unfold mapsOf
  have := splitL_count 246 (emptyB b)
  rw [emptyB_len] at this
  have := clampN_le b
  omega
theorem usedL_len (r : Root) (t : List Int) : (usedL r t).length ≤ 512 := by
  unfold usedL
  rw [withL_len, show List.foldl (fun m n => withL m n true) (emptyB r.blocks) ([1] ++ t ++ r.tables ++ r.maps) = fold1 (emptyB r.blocks) ([1] ++ t ++ r.tables ++ r.maps) from rfl, fold1_len, emptyB_len]
  exact clampN_le _
theorem withL_bytes {m : List Int} (h : Bytes m) (n : Int) (on : Bool) : Bytes (withL m n on) := by
  unfold withL
  split
  · exact withN_bytes h _ _
  · exact h
theorem emptyB_bytes (b : Int) : Bytes (emptyB b) := fun x hx => by rw [List.eq_of_mem_replicate hx]; exact zero_byte
theorem usedL_bytes (r : Root) (t : List Int) : Bytes (usedL r t) := by
  unfold usedL
  refine withL_bytes ?_ _ _
  generalize [1] ++ t ++ r.tables ++ r.maps = l
  have : ∀ (l : List Int) (m : List Int), Bytes m → Bytes (l.foldl (fun m n => withL m n true) m) := by
    intro l
    induction l with
    | nil => intro m h; exact h
    | cons x r ih => intro m h; exact ih _ (withL_bytes h _ _)
  exact this l _ (emptyB_bytes _)
theorem C_dropI {k : IntKind} {w : World} {g off j : Nat} {l : List Int} (h : Kd.C (Kd.int k) w (some ⟨g, off, none⟩) l.length l) (hj : j ≤ l.length) : Kd.C (Kd.int k) w (some ⟨g, off + j, none⟩) (l.drop j).length (l.drop j) := by
  refine Kd.C_of_reads (enc := Value.int k) (d := (0 : Int)) (h1 := fun _ => rfl) ⟨rfl, by have := h.2.1; simp; omega, fun _ => ⟨_, rfl, fun i hi => ?_⟩⟩
  have hi' : i < l.length - j := by simpa using hi
  obtain ⟨ad, e, hc⟩ := Kd.at_int h ((j + i : Nat) : Int) (by omega) (by omega)
  cases e
  rw [Int.toNat_natCast, Go.WideShapes.add_plain] at hc
  rw [Go.WideShapes.add_plain, Nat.add_assoc, hc]
  have e2 : ((j : Int) + (i : Int)).toNat = j + i := by omega
  simp [rd, List.getD_eq_getElem?_getD, e2]
theorem In.fromI {k : IntKind} {w : World} {g off : Nat} {l : List Int} {c : Nat} (h : In k w (some ⟨g, off, none⟩) l c) (j : Nat) (hj : j ≤ l.length) : In k w (some ⟨g, off + j, none⟩) (l.drop j) (c - j) :=
  ⟨C_dropI h.reads hj, by have := h.room; rw [List.length_drop]; omega, fun a ha => by cases ha; exact h.lt ⟨g, off, none⟩ rfl⟩
theorem Tab.in_ {w : World} {g cap : Nat} {l : List Int} (h : Tab w g cap l) : In .i64 w (some ⟨g, 0, none⟩) l cap := ⟨(Kd.R_reads' h).2.2, (tab_max h).1, fun a ha => by cases ha; exact tab_lt h⟩
theorem atI {k : IntKind} {w : World} {A : Option Addr} {l : List Int} {c : Nat} (h : In k w A l c) (h0 : 0 < l.length) : ∃ g off, A = some ⟨g, off, none⟩ := by
  obtain ⟨ad, rfl, hc⟩ := Kd.at_int h.reads 0 (by omega) (by omega)
  obtain ⟨g, off, spot⟩ := ad
  have hspot : spot = none := by simpa [Addr.add] using World.cell?_spot hc
  subst hspot
  exact ⟨g, off, rfl⟩
end Go.Proofs.YtplkndmkchpcdaaGreat.Sh
end
section
namespace Go.Proofs.YtplkndmkchpcdaaGreat.Sh
open Go.RowKit YtplkndmkchpcdaaGreatW.PrintWords YtplkndmkchpcdaaGreatW.PrintLast YtplkndmkchpcdaaGreatW.PrintMore MapFn Disk Bitset Page
set_option maxHeartbeats 8000000
set_option maxRecDepth 100000
theorem splitF_fuel (n : Nat) (hn : 0 < n) : ∀ (f : Nat) (l : List Int), l.length ≤ f → splitF f n l = splitF l.length n l := by
  intro f
  induction f using Nat.strongRecOn with
  | ind f ih =>
    intro l hl
    cases l with
    | nil => cases f <;> rfl
    | cons x r =>
      cases f with
      | zero => simp at hl
      | succ f =>
        show ((x :: r).take n) :: splitF f n ((x :: r).drop n) = ((x :: r).take n) :: splitF r.length n ((x :: r).drop n)
        have hd : ((x :: r).drop n).length ≤ r.length := by rw [List.length_drop]; simp only [List.length_cons]; omega
        have hf : r.length ≤ f := by simpa using hl
        rw [ih f (Nat.lt_succ_self f) _ (Nat.le_trans hd hf)]
        rcases Nat.lt_or_ge r.length (f + 1) with c | c
        · rw [ih r.length c _ hd]
        · omega
theorem splitL_cons (n : Nat) (hn : 0 < n) (l : List Int) (h : 0 < l.length) : splitL n l = l.take n :: splitL n (l.drop n) := by
  cases l with
  | nil => simp at h
  | cons x r =>
    unfold splitL
    show ((x :: r).take n) :: splitF r.length n ((x :: r).drop n) = _
    rw [splitF_fuel n hn r.length _ (by rw [List.length_drop]; simp only [List.length_cons]; omega)]
theorem splitL_nil (n : Nat) : splitL n [] = [] := rfl
def encS (x : Option Addr × Nat × Nat) : Value := .slice x.1 x.2.1 x.2.2
abbrev kdS : Kd (Option Addr × Nat × Nat) := Kd.scalar encS (fun _ => rfl)
theorem infoS : (Tryz.prog.info? 22).map (fun i => (i.zero, i.size, i.bytes)) = some (some (.slice none 0 0), 1, 24) := by kernel_rfl
structure Made (base : Nat) (w : World) (es : List (Option Addr × Nat × Nat)) (ps : List (List Int)) : Prop where
  len : es.length = ps.length
  each : ∀ i (h : i < es.length) (h' : i < ps.length), (es[i]).2.1 = (ps[i]).length ∧ In .u8 w (es[i]).1 ps[i] (es[i]).2.2 ∧ ∀ a, (es[i]).1 = some a → base ≤ a.block
theorem Made.snoc {base : Nat} {w : World} {es : List (Option Addr × Nat × Nat)} {ps : List (List Int)} (h : Made base w es ps) {A : Option Addr} {p : List Int} {c : Nat} (hi : In .u8 w A p c) (hb : ∀ a, A = some a → base ≤ a.block) : Made base w (es ++ [(A, p.length, c)]) (ps ++ [p]) := by
  refine ⟨by simp [h.len], fun i h1 h2 => ?_⟩
  by_cases c1 : i < es.length
  · have c2 : i < ps.length := by rw [← h.len]; exact c1
    rw [List.getElem_append_left c1, List.getElem_append_left c2]
    exact h.each i c1 c2
  · have e : i = es.length := by simp at h1; omega
    have e2 : i = ps.length := by rw [← h.len]; exact e
    rw [List.getElem_append_right (by omega), List.getElem_append_right (by omega)]
    simp only [e, Nat.sub_self, h.len, List.getElem_singleton]
    exact ⟨trivial, hi, hb⟩
theorem Made.moves {base : Nat} {w w' : World} {l : List Nat} {es : List (Option Addr × Nat × Nat)} {ps : List (List Int)} (h : Made base w es ps) (hm : Moves l w w') (hl : ∀ i (h1 : i < es.length) a, (es[i]).1 = some a → ¬ a.block ∈ l) : Made base w' es ps :=
  ⟨h.len, fun i h1 h2 => ⟨(h.each i h1 h2).1, (h.each i h1 h2).2.1.moves hm (hl i h1), (h.each i h1 h2).2.2⟩⟩
theorem kdS_read {w : World} {base : Nat} {A : Option Addr} {n c : Nat} {es : List (Option Addr × Nat × Nat)} (h : kdS.R 22 w base (fun _ => True) (.slice A n c) es) (i : Nat) (hi : i < es.length) : ∃ ad, A = some ad ∧ w.cell? (ad.add i) = some (encS es[i]) ∧ base ≤ ad.block := by
  have hn := (Kd.R_reads' h).1
  subst hn
  obtain ⟨g, cap, he, hg, hlt, _⟩ := Kd.R_form h (by omega)
  simp only [Value.slice.injEq] at he
  obtain ⟨rfl, _, rfl⟩ := he
  have := (Kd.R_cell (none, 0, 0) h (i : Int) (by omega) (by omega)).1
  rw [Int.toNat_natCast] at this
  refine ⟨_, rfl, ?_, hg⟩
  rw [add_plain, this]
  simp [rdOf, List.getD_eq_getElem?_getD, hi]
theorem made_pcs {w : World} {base : Nat} {A : Option Addr} {n c : Nat} {es : List (Option Addr × Nat × Nat)} {ps : List (List Int)} (h : kdS.R 22 w base (fun _ => True) (.slice A n c) es) (hm : Made base w es ps) (bad : List Nat) (hb : ∀ x ∈ bad, x < base) : Pcs w A ps bad :=
  ⟨fun i hi => by
    have hie : i < es.length := by rw [hm.len]; exact hi
    obtain ⟨ad, e, hc, hge⟩ := kdS_read h i hie
    obtain ⟨h1, h2, h3⟩ := hm.each i hie hi
    refine ⟨ad, (es[i]).1, (es[i]).2.2, e, fun hx => ?_, ?_, h2, fun a ha hx => ?_⟩
    · have := hb _ hx
      omega
    · rw [hc]
      unfold encS
      rw [h1]
    · have := hb _ hx
      have := h3 a ha
      omega⟩
theorem In.take {k : IntKind} {w : World} {A : Option Addr} {l : List Int} {c : Nat} (h : In k w A l c) (j c' : Nat) (hj : j ≤ l.length) (hc : j ≤ c') : In k w A (l.take j) c' := by
  refine ⟨?_, by rw [List.length_take]; omega, h.lt⟩
  refine Kd.C_of_reads (enc := Value.int k) (d := (0 : Int)) (h1 := fun _ => rfl) ⟨rfl, by have := h.reads.2.1; rw [List.length_take]; omega, fun hp => ?_⟩
  rw [List.length_take] at hp
  obtain ⟨ad, rfl, _⟩ := Kd.at_int h.reads 0 (by omega) (by omega)
  refine ⟨_, rfl, fun i hi => ?_⟩
  rw [List.length_take] at hi
  obtain ⟨ad', e, hc⟩ := Kd.at_int h.reads (i : Int) (by omega) (by omega)
  cases e
  rw [Int.toNat_natCast] at hc
  rw [hc]
  have : i < j := by omega
  simp [rd, List.getD_eq_getElem?_getD, List.getElem?_take, this]
theorem In.from_ {w : World} {g off : Nat} {l : List Int} {c : Nat} (h : In .u8 w (some ⟨g, off, none⟩) l c) (j : Nat) (hj : j ≤ l.length) : In .u8 w (some ⟨g, off + j, none⟩) (l.drop j) (c - j) :=
  ⟨Num.C_drop h.reads hj, by have := h.room; rw [List.length_drop]; omega, fun a ha => by cases ha; exact h.lt ⟨g, off, none⟩ rfl⟩
attribute [local go_sem] min2_int min_two
theorem _root_.Go.World.grownBy.to_moves {w w' : World} {base : Nat} {v : Value} {es : List (Option Addr × Nat × Nat)} (h : w.grownBy w' v.ownBlock) (hO : kdS.R 22 w base (fun _ => True) v es) : ∃ l, Moves l w w' ∧ ∀ x ∈ l, base ≤ x :=
  ⟨v.ownBlock.toList, ⟨h.os, h.tape, h.output, h.size, fun k hk hn => h.block k hk (fun e => hn (by rw [← e]; simp))⟩, fun x hx => Kd.R_base hO x (by simpa using hx)⟩
theorem split_any (A : Option Addr) (c : Nat) (l : List Int) (w : World) (hr : In .u8 w A l c) (hl : l.length ≤ 100000) :
    Calls Tryz.prog 45 #[.slice A l.length c, .int .i64 246] w fun e w' => ∃ A' c', e = .returned (.slice A' (splitL 246 l).length c') ∧ (∀ bad : List Nat, (∀ x ∈ bad, x < w.heap.size) → Pcs w' A' (splitL 246 l) bad) ∧ Below w.heap.size w w' := by
  have HC := Hide.mk (Given.clone_any A c l w hr.reads hr.room (by omega))
  have HLL := Hide.mk hl
  obtain ⟨R, hR⟩ : ∃ R, splitL 246 l = R := ⟨_, rfl⟩
  rw [hR]
  have HR := Hide.mk hR
  clear hr hl hR
  go_enter Tryz.func45, Tryz.ntmps45
  go_wp2_with (go_at_call 54; refine HC.out.mono ?_; rintro e w1 ⟨v1, rfl, ho, hb⟩
               obtain ⟨A1, c1, rfl, hi1, hge1⟩ := In.of_own ho
               have I1 := Hide.mk hi1
               have GE1 := Hide.mk hge1
               have B1 := Hide.mk hb
               clear ho hb hi1 hge1)
  go_loopw [0, 5] (fun v0 v5 wr => ∃ (rest : List Int) (A0 : Option Addr) (c0 : Nat) (A5 : Option Addr) (n5 c5 : Nat) (es : List (Option Addr × Nat × Nat)) (ps : List (List Int)), v0 = .slice A0 rest.length c0 ∧ v5 = .slice A5 n5 c5 ∧ Hide (rest.length ≤ 100000) ∧ Hide (ps.length + rest.length ≤ l.length) ∧ Hide (R = ps ++ splitL 246 rest) ∧ Hide (In .u8 wr A0 rest c0) ∧ Hide (∀ a, A0 = some a → w.heap.size ≤ a.block) ∧ Hide (Made w.heap.size wr es ps) ∧ Hide (kdS.R 22 wr w1.heap.size (fun _ => True) (.slice A5 n5 c5) es) ∧ Hide (Below w1.heap.size w1 wr) ∧ Hide (∀ i (h : i < es.length) a, (es[i]).1 = some a → a.block < w1.heap.size) ∧ Hide (∀ a, A0 = some a → a.block < w1.heap.size)) (fun v0 _ _ => match v0 with | .slice _ n _ => n | _ => 0)
  case atStart =>
    exact ⟨l, A1, c1, none, 0, 0, [], [], rfl, rfl, HLL, ⟨by simp⟩, ⟨by simpa using HR.out.symm⟩, I1, GE1, ⟨rfl, fun i h => absurd h (Nat.not_lt_zero _)⟩, ⟨Kd.R_nil _ _ _ _ _⟩, ⟨Below.refl _ _⟩, ⟨fun i h => absurd h (Nat.not_lt_zero _)⟩, ⟨fun a ha => I1.out.lt a ha⟩⟩
  case round =>
    obtain ⟨rest, A0, c0, A5, n5, c5, es, ps, rfl, rfl, hrl, hps, hRR, hI, hge, hM, hO, hB, hlt1, hlt2⟩ := hrel
    clear I1 HR
    have h5 := (Kd.R_reads' hO.out).1
    have hcap := hI.out.room
    have hcmx := hI.out.reads.2.1
    have hr1 := hrl.out
    obtain ⟨m, hm⟩ : ∃ m, rest.length = m := ⟨_, rfl⟩
    have HM := Hide.mk hm
    rw [hm] at hcap hcmx hr1 ⊢
    by_cases h0 : 0 < m
    · have h0i : (0 : Int) < (m : Int) := by omega
      obtain ⟨k, hk⟩ : ∃ k, min 246 m = k := ⟨_, rfl⟩
      have hkm : k ≤ m := by omega
      have hk0 : 0 < k := by omega
      have hki : (if (m : Int) < 246 then (m : Int) else 246) = (k : Int) := by split <;> omega
      have hkl : (rest.take 246).length = k := by rw [List.length_take, hm]; exact hk
      have htk : rest.take 246 = rest.take k := by
        rcases Nat.le_total 246 m with q | q
        · rw [show k = 246 by omega]
        · rw [List.take_of_length_le (by omega), List.take_of_length_le (by omega)]
      have hdk : rest.drop 246 = rest.drop k := by
        rcases Nat.le_total 246 m with q | q
        · rw [show k = 246 by omega]
        · rw [List.drop_of_length_le (by omega), List.drop_of_length_le (by omega)]
      have hkj : (if m < 246 then (m : Int) else 246) = (k : Int) := by split <;> omega
      obtain ⟨g0, off0, rfl⟩ := C_at hI.out.reads (by omega)
      have NX : Hide (R = (ps ++ [rest.take k]) ++ splitL 246 (rest.drop k)) := ⟨by rw [hRR.out, splitL_cons 246 (by omega) rest (by omega), htk, hdk]; simp⟩
      have HT := Hide.mk (hI.out.take k k (by omega) (Nat.le_refl _))
      have HLT : Hide ((rest.take k).length = k) := ⟨by rw [List.length_take]; omega⟩
      have HLD : Hide ((rest.drop k).length = m - k) := ⟨by rw [List.length_drop, hm]⟩
      have HD := Hide.mk (hI.out.from_ k (by omega))
      have HKM := Hide.mk (show k ≤ m ∧ 0 < k from ⟨hkm, hk0⟩)
      have HPS : Hide (es.length ≤ 100000) := ⟨by have := hps.out; have := hM.out.len; have := HLL.out; omega⟩
      have b1 : (k : Int) ≤ (m : Int) := by omega
      have b2 : (0 : Int) ≤ (k : Int) := by omega
      have b3 : (m : Int) ≤ (c0 : Int) := by omega
      by_cases hkc : k = c0
      · subst hkc
        go_wp2_with ((with_reducible refine gate_builtin (b := .append) (xs := #[.tmp 18, .tmp 23]) rfl ?_); at_builtin
                     refine Kd.R_append kdS (w0 := w1) w1.heap.size rfl (.tmp 18) (.tmp 23) 64 22 (.slice none 0 0) 24 rfl Tryz.underlying64 infoS rfl (by decide) (by omega) (.slice A5 n5 c5) es (some ⟨g0, off0, none⟩, k, k) [.slice (some ⟨g0, off0, none⟩) k k] (fun _ => True) (fun _ => False) rfl rfl rfl (fun _ h => h.elim) (fun _ _ => trivial) hO.out hB.out hB.out.size (by have := HPS.out; omega) ?_
                     intro v4 w4 ho hb hg hat
                     obtain ⟨A4, c4, hv4, hc4, _⟩ := Kd.R_reads ho
                     obtain ⟨n4, hn4⟩ : ∃ n, (es ++ [(some (⟨g0, off0, none⟩ : Addr), k, k)]).length = n := ⟨_, rfl⟩
                     rw [hn4] at hv4
                     subst hv4
                     have O4 := Hide.mk ho
                     have B4 := Hide.mk hb
                     have M4 := Hide.mk (hg.to_moves hO.out)
                     clear ho hb hg hat hn4 hc4)
        have MK := HKM.out
        obtain ⟨ls, hmv, hls⟩ := M4.out
        have hge0 := hge.out _ rfl
        have hlt0 := hlt2.out _ rfl
        have hT4 := HT.out.moves hmv (fun a ha hx => by cases ha; have := hls _ hx; omega)
        have hM4 := (hM.out.moves hmv (fun i h1 a ha hx => by have := hls _ hx; have := hlt1.out i h1 a ha; omega)).snoc hT4 (fun a ha => by cases ha; exact hge0)
        rw [HLT.out] at hM4
        have hE4 : ∀ i (h : i < (es ++ [(some (⟨g0, off0, none⟩ : Addr), k, k)]).length) a, ((es ++ [(some (⟨g0, off0, none⟩ : Addr), k, k)])[i]).1 = some a → a.block < w1.heap.size := by
          intro i h a ha
          by_cases c1 : i < es.length
          · rw [List.getElem_append_left c1] at ha
            exact hlt1.out i c1 a ha
          · have e : i = es.length := by simp at h; omega
            rw [List.getElem_append_right (by omega)] at ha
            simp only [e, Nat.sub_self, List.getElem_singleton] at ha
            cases ha
            exact hlt0
        go_roundw
        case rel =>
          have hz : rest.drop k = [] := List.length_eq_zero_iff.1 (by rw [HLD.out]; omega)
          have hn := NX.out
          rw [hz] at hn
          exact ⟨[], some ⟨g0, off0, none⟩, 0, A4, n4, c4, _, _, rfl, rfl, ⟨by simp⟩, ⟨by have := hps.out; have := HM.out; simp; omega⟩, ⟨hn⟩, ⟨⟨⟨rfl, by simp, fun h => absurd h (Nat.lt_irrefl 0)⟩, Nat.le_refl _, fun a ha => by cases ha; have := B4.out.size; show g0 < _; have : g0 < w1.heap.size := hlt0; omega⟩⟩, hge, ⟨hM4⟩, O4, B4, ⟨hE4⟩, hlt2⟩
        case measure => simp; omega
      · have b4 : (k : Int) < (c0 : Int) := by omega
        clear hkc
        go_wp2_with ((with_reducible refine gate_builtin (b := .append) (xs := #[.tmp 18, .tmp 23]) rfl ?_); at_builtin
                     refine Kd.R_append kdS (w0 := w1) w1.heap.size rfl (.tmp 18) (.tmp 23) 64 22 (.slice none 0 0) 24 rfl Tryz.underlying64 infoS rfl (by decide) (by omega) (.slice A5 n5 c5) es (some ⟨g0, off0, none⟩, k, k) [.slice (some ⟨g0, off0, none⟩) k k] (fun _ => True) (fun _ => False) rfl rfl rfl (fun _ h => h.elim) (fun _ _ => trivial) hO.out hB.out hB.out.size (by have := HPS.out; omega) ?_
                     intro v4 w4 ho hb hg hat
                     obtain ⟨A4, c4, hv4, hc4, _⟩ := Kd.R_reads ho
                     obtain ⟨n4, hn4⟩ : ∃ n, (es ++ [(some (⟨g0, off0, none⟩ : Addr), k, k)]).length = n := ⟨_, rfl⟩
                     rw [hn4] at hv4
                     subst hv4
                     have O4 := Hide.mk ho
                     have B4 := Hide.mk hb
                     have M4 := Hide.mk (hg.to_moves hO.out)
                     clear ho hb hg hat hn4 hc4)
        have MK := HKM.out
        obtain ⟨ls, hmv, hls⟩ := M4.out
        have hge0 := hge.out _ rfl
        have hlt0 := hlt2.out _ rfl
        have hT4 := HT.out.moves hmv (fun a ha hx => by cases ha; have := hls _ hx; omega)
        have hM4 := (hM.out.moves hmv (fun i h1 a ha hx => by have := hls _ hx; have := hlt1.out i h1 a ha; omega)).snoc hT4 (fun a ha => by cases ha; exact hge0)
        rw [HLT.out] at hM4
        have hE4 : ∀ i (h : i < (es ++ [(some (⟨g0, off0, none⟩ : Addr), k, k)]).length) a, ((es ++ [(some (⟨g0, off0, none⟩ : Addr), k, k)])[i]).1 = some a → a.block < w1.heap.size := by
          intro i h a ha
          by_cases c1 : i < es.length
          · rw [List.getElem_append_left c1] at ha
            exact hlt1.out i c1 a ha
          · have e : i = es.length := by simp at h; omega
            rw [List.getElem_append_right (by omega)] at ha
            simp only [e, Nat.sub_self, List.getElem_singleton] at ha
            cases ha
            exact hlt0
        go_roundw
        case rel =>
          have hl := HLD.out
          exact ⟨rest.drop k, some ⟨g0, off0 + k, none⟩, c0 - k, A4, n4, c4, _, _, by rw [hl], rfl, ⟨by rw [hl]; omega⟩, ⟨by rw [hl]; have := hps.out; have := HM.out; simp; omega⟩, NX, ⟨HD.out.moves hmv (fun a ha hx => by cases ha; have := hls _ hx; have : g0 < w1.heap.size := hlt0; have e : (⟨g0, off0 + k, none⟩ : Addr).block = g0 := rfl; omega)⟩, ⟨fun a ha => by cases ha; exact hge0⟩, ⟨hM4⟩, O4, B4, ⟨hE4⟩, ⟨fun a ha => by cases ha; exact hlt0⟩⟩
        case measure => simp; omega
    · have h0i : ¬ (0 : Int) < (m : Int) := by omega
      have E := Hide.mk (show rest = [] from List.length_eq_zero_iff.1 (by omega))
      clear h0
      go_wp2
      go_ret
      have e : R = ps := by rw [hRR.out, E.out]; simp [splitL_nil]
      exact ⟨A5, ⟨c5, by rw [e, ← hM.out.len]; rfl⟩, fun bad hb => by rw [e]; exact made_pcs (Kd.R_lower hO.out B1.out.size) hM.out bad hb, B1.out.trans (hB.out.mono B1.out.size)⟩
end Go.Proofs.YtplkndmkchpcdaaGreat.Sh
end
section
namespace Go.Proofs.YtplkndmkchpcdaaGreat.Sh
open Go.RowKit YtplkndmkchpcdaaGreatW.PrintWords YtplkndmkchpcdaaGreatW.PrintLast YtplkndmkchpcdaaGreatW.PrintMore MapFn Disk Bitset Page
set_option maxHeartbeats 8000000
set_option maxRecDepth 100000
theorem run_store_func (P : Program) (w : World) (a : Addr) (m : Mode) (f : Fn) (b c : Array Value) : (store a (.func f b c) m).run P w = stored P w a (.func f b c) m := run_store P w a _ m rfl
attribute [local go_sem] run_store_func
theorem over_any (pd ms ml : Nat) (D : DiskSt) (w : World) (h : DiskAt w pd ms ml D) :
    Calls Tryz.prog 44 #[.pointer (some ⟨pd, 0, none⟩)] w fun e w' => ∃ F : Foot, e = .returned (.pointer (some ⟨F.p, 0, none⟩)) ∧ ShAt w' F (Sh.over D) ∧ F.pd = pd ∧ F.ms = ms ∧ F.ml = ml ∧ Below w.heap.size w w' ∧ w.heap.size ≤ F.p ∧ w.heap.size ≤ F.g := by
  have hlt := lt_of_row h.row
  have h1 := h.safe.lt
  have h2 := h.loose.lt
  have row1 : ((w.alloc (.cells #[.int .i64 0] 3)).alloc (.cells #[.pointer (some ⟨pd, 0, none⟩), .nilFunc, .int .i64 0, .int .i64 0, .int .i64 0, .int .i64 0, .slice none 0 0, .slice none 0 0, .slice (some ⟨w.heap.size, 0, none⟩) 1 1, .slice none 0 0, .slice none 0 0, .int .i64 0, .slice none 0 0, .bool false, .bool false] 73)).heap[w.heap.size + 1]? = _ := row_last (by simp)
  have f1 := free_of (i := 1) row1
  obtain ⟨w2, hw2, row2, hg2⟩ := stage_set (i := 1) (v := .func (.func 88) #[.pointer (some ⟨pd, 0, none⟩)] #[]) row1
  have row3 := (heap_old w2 (.cells #[.int .i64 0] 3) _ (lt_of_row row2)).trans row2
  have c10 := cell_of (i := 10) row3
  have f10 := free_of (i := 10) row3
  simp at c10
  obtain ⟨w4, hw4, row4, hg4⟩ := stage_set (i := 10) (v := .slice (some ⟨w2.heap.size, 0, none⟩) 1 1) row3
  have hB0 : Below w.heap.size w ((w.alloc (.cells #[.int .i64 0] 3)).alloc (.cells #[.pointer (some ⟨pd, 0, none⟩), .nilFunc, .int .i64 0, .int .i64 0, .int .i64 0, .int .i64 0, .slice none 0 0, .slice none 0 0, .slice (some ⟨w.heap.size, 0, none⟩) 1 1, .slice none 0 0, .slice none 0 0, .int .i64 0, .slice none 0 0, .bool false, .bool false] 73)) := ((Below.refl _ _).alloc (Nat.le_refl _) _).alloc (by simp) _
  have hz2 : w.heap.size + 2 ≤ w2.heap.size := by have := hg2.size; simpa using this
  have hB2 : Below w.heap.size w w2 := hB0.grown hg2 (by simp; omega) (fun k hk => by cases hk; omega)
  have hB3 := hB2.alloc (by omega) (.cells #[.int .i64 0] 3)
  have hB4 : Below w.heap.size w w4 := hB3.grown hg4 (by simp; omega) (fun k hk => by cases hk; omega)
  have I0 : In .i64 (w.alloc (.cells #[.int .i64 0] 3)) (some ⟨w.heap.size, 0, none⟩) [0] 1 := ⟨one_reads w 0, Nat.le_refl _, fun a ha => by cases ha; simp⟩
  have I1 := I0.below ((Below.refl _ _).alloc (Nat.le_refl _) (.cells #[.pointer (some ⟨pd, 0, none⟩), .nilFunc, .int .i64 0, .int .i64 0, .int .i64 0, .int .i64 0, .slice none 0 0, .slice none 0 0, .slice (some ⟨w.heap.size, 0, none⟩) 1 1, .slice none 0 0, .slice none 0 0, .int .i64 0, .slice none 0 0, .bool false, .bool false] 73))
  have I2 := I1.grown hg2 (fun a ha => by cases ha; simp)
  have I3 := I2.below ((Below.refl _ _).alloc (Nat.le_refl _) (.cells #[.int .i64 0] 3))
  have I4 := I3.grown hg4 (fun a ha => by cases ha; simp)
  have T3 : Tab (w2.alloc (.cells #[.int .i64 0] 3)) w2.heap.size 1 [0] := Kd.R_of_own (enc := Value.int .i64) (h1 := fun _ => rfl) ⟨rfl, .inr ⟨w2.heap.size, 1, _, rfl, Nat.zero_le _, heap_last w2 _, Nat.le_refl _, by unfold maxLen; omega, rfl, rfl⟩⟩ (fun _ _ => trivial)
  have T4 := tab_moves T3 (Moves.of_grown hg4) (by simp; omega)
  have HF := Hide.mk (show ∃ F : Foot, F.p = w.heap.size + 1 ∧ ShAt w4 F (Sh.over D) ∧ F.pd = pd ∧ F.ms = ms ∧ F.ml = ml ∧ Below w.heap.size w w4 ∧ w.heap.size ≤ F.p ∧ w.heap.size ≤ F.g from
    ⟨⟨w.heap.size + 1, pd, ms, ml, w2.heap.size, 1, none, 0, none, 0, some ⟨w.heap.size, 0, none⟩, 1, none, 0, none, 0⟩, rfl,
      ⟨by rw [row4]; rfl, h.below hB4, In.nil _ _, In.nil _ _, I4, In.nil _ _, In.nil _ _, T4, ⟨by show w.heap.size + 1 ≠ pd; omega, by show w.heap.size + 1 ≠ ms; omega, by show w.heap.size + 1 ≠ ml; omega, by show w.heap.size + 1 ≠ w2.heap.size; omega, by show pd ≠ w2.heap.size; omega, by show ms ≠ w2.heap.size; omega, by show ml ≠ w2.heap.size; omega⟩,
        fun A hA a ha hm => by
          simp only [Foot.slices, List.mem_cons, List.not_mem_nil, or_false] at hA
          simp only [Foot.own, List.mem_cons, List.not_mem_nil, or_false] at hm
          rcases hA with rfl | rfl | rfl | rfl | rfl
          · cases ha
          · cases ha
          · cases ha
            rcases hm with e | e | e | e | e
            · have e' : w.heap.size = w.heap.size + 1 := e
              omega
            · have e' : w.heap.size = pd := e
              omega
            · have e' : w.heap.size = ms := e
              omega
            · have e' : w.heap.size = ml := e
              omega
            · have e' : w.heap.size = w2.heap.size := e
              omega
          · cases ha
          · cases ha⟩, rfl, rfl, rfl, hB4, by show w.heap.size ≤ w.heap.size + 1; omega, by show w.heap.size ≤ w2.heap.size; omega⟩)
  clear h I0 I1 I2 I3 I4 T3 T4 row1 row2 row3 row4 hg2 hg4 hB0 hB2 hB3 hB4 hlt h1 h2
  go_enter Tryz.func44, Tryz.ntmps44
  go_wp2
  go_ret
  obtain ⟨F, hp, hF⟩ := HF.out
  exact ⟨F, by rw [hp]; rfl, hF⟩
end Go.Proofs.YtplkndmkchpcdaaGreat.Sh
end
section
namespace Go.Proofs.YtplkndmkchpcdaaGreat.Sh
open Go.RowKit YtplkndmkchpcdaaGreatW.PrintWords YtplkndmkchpcdaaGreatW.PrintLast YtplkndmkchpcdaaGreatW.PrintMore MapFn Disk Bitset Page
set_option maxHeartbeats 16000000
set_option maxRecDepth 100000
theorem exec_storeR {w : World} {g : Nat} {cs cs' : Array Value} {a : Act} {o : Oper} {x y : Operand} (hrow : w.heap[g]? = some (.cells cs 68 (0, 0))) (hop : o.op = Op.store 68 x y)
    (hx : a.eval x = .pointer (some ⟨g, 0, none⟩)) (hy : a.eval y = .agg cs') (hs : cs.size = 6 := by rfl) (hs' : cs'.size = 6 := by rfl) (h1 : cs'.all (·.oneCell') = true := by rfl) :
    (execOp a.eval o).run Tryz.prog w = .ok .skip (w.setRow g cs') := by
  have hrun : (Instr.storeAt 68 (.pointer (some ⟨g, 0, none⟩)) (.agg cs')).run Tryz.prog w = .ok () (w.setRow g cs') := by
    simp only [Instr.storeAt, Instr.sureAddr, Sem.run_bind, Sem.run_pure, Result.andThen]
    exact run_storeVar_row w g _ _ cs cs' hrow (by rw [infoR, hs']) (by rw [hs, hs']) h1
  simp [execOp, hop, hx, hy, hrun, Result.andThen]
theorem stage_rootrow {w : World} {cs : Array Value} : ∃ w2, (w.alloc (.cells #[.int .i64 0, .int .i64 0, .int .i64 0, .int .i64 0, .slice none 0 0, .slice none 0 0] 68)).setRow w.heap.size cs = w2 ∧ w2.heap[w.heap.size]? = some (.cells cs 68 (0, 0)) ∧ Below w.heap.size w w2 := by
  refine ⟨_, rfl, setRow_heap _ _ _ _ _ (0, 0) (heap_last w _), ?_⟩
  exact ((Below.refl _ _).alloc (Nat.le_refl _) _).grown (row := some w.heap.size) ⟨rfl, rfl, rfl, by simp, fun k _ hne => setRow_other _ _ k _ (fun e => hne (by rw [e]))⟩ (by simp) (fun k hk => by cases hk; exact Nat.le_refl _)
theorem layF_keeps (kind : Int) (bl : List Int) : ∀ (ps : List (List Int)) (i : Nat) (s : Sh), ∃ D b, (Sh.layF kind bl ps i s).1 = { s with D := D, bad := b }
  | [], i, s => ⟨s.D, s.bad, rfl⟩
  | p :: ps, i, s => by
    rw [layF_cons]
    split
    · exact ⟨s.D, s.bad, rfl⟩
    · split
      · exact ⟨_, _, rfl⟩
      · obtain ⟨D, b, e⟩ := layF_keeps kind bl ps (i + 1) (s.wr (bl.getD i 0) (sealL kind i p)).1
        exact ⟨D, b, by rw [e]; rfl⟩
theorem splitL_num (l : List Int) : (splitL 246 l).length = (l.length + 245) / 246 := by
  generalize hn : l.length = n
  induction n using Nat.strongRecOn generalizing l with
  | ind n ih =>
    rcases Nat.eq_zero_or_pos n with c | c
    · subst c
      rw [List.length_eq_zero_iff.1 hn]
      rfl
    · rw [splitL_cons 246 (by omega) l (by omega), List.length_cons, ih (n - 246) (by omega) (l.drop 246) (by rw [List.length_drop, hn])]
      omega
theorem usedL_clamp (r : Root) (t : List Int) : (usedL r t).length = Given.clampN r.blocks := by
  unfold usedL
  rw [withL_len, show List.foldl (fun m n => withL m n true) (emptyB r.blocks) ([1] ++ t ++ r.tables ++ r.maps) = fold1 (emptyB r.blocks) ([1] ++ t ++ r.tables ++ r.maps) from rfl, fold1_len, emptyB_len]
theorem crown_keeps (s : Sh) (r : Root) : ∃ D b, (s.crown r).1 = { s with D := D, bad := b } := by
  unfold Sh.crown
  split
  · exact ⟨_, _, rfl⟩
  · split
    · exact ⟨_, _, rfl⟩
    · split
      · exact ⟨_, _, rfl⟩
      · exact ⟨_, _, rfl⟩
def T21_13 : Bool × List (List Nat × List Nat) := (true, [([], []), ([0], [0]), ([1], [1]), ([2], [2]), ([3], [3]), ([4], [4]), ([], []), ([6], [6]), ([7], [7]), ([8], [8]), ([9], [9]), ([], []), ([11], [11]), ([12], [12]), ([13], [13]), ([14], [14]), ([15], [15]), ([16], [16]), ([], []), ([18], [18]), ([19], [19]), ([20], [20]), ([21], [21]), ([], []), ([], []), ([24], [24]), ([23, 25], [23, 25]), ([], []), ([], []), ([28], [28]), ([27, 29], [27, 29]), ([5, 10, 17, 22, 26, 30], [5, 10, 17, 22, 26, 30]), ([], []), ([32, 31, 0, 1, 2, 3, 4, 5, 6, 7, 8, 9, 10, 11, 12, 13, 14, 15, 16, 17, 18, 19, 20, 21, 22, 23, 24, 25, 26, 27, 28, 29, 30, 31, 32], [31, 32])])
def B21_13 : List Nat := [0, 1, 3, 7, 15, 31, 0, 64, 192, 448, 960, 0, 2048, 6144, 14336, 30720, 63488, 129024, 0, 262144, 786432, 1835008, 3932160, 0, 0, 16777216, 58720256, 0, 0, 268435456, 939524096, 2147483647, 0, 8589934591]
theorem tab21_13 : rtab .any (opsOf Tryz.f21 13) = T21_13 := by kernel_rfl
theorem bits21_13 : waitsOk T21_13.2 B21_13 = true := by kernel_rfl
def T21_17 : Bool × List (List Nat × List Nat) := (true, [([], []), ([], []), ([], []), ([2], [2]), ([3], [3]), ([4], [4]), ([5], [5]), ([1, 6], [1, 6]), ([7, 7], [7]), ([], []), ([9], [9]), ([0, 8, 10, 8], [0, 8, 10]), ([11, 11, 0, 1, 2, 3, 4, 5, 6, 7, 8, 9, 10, 11], [11])])
def B21_17 : List Nat := [0, 0, 0, 4, 12, 28, 60, 126, 254, 0, 512, 2047, 4095]
theorem tab21_17 : rtab .any (opsOf Tryz.f21 17) = T21_17 := by kernel_rfl
theorem bits21_17 : waitsOk T21_17.2 B21_17 = true := by kernel_rfl
theorem commit_ne (w : World) (F : Foot) (s : Sh) (h : ShAt w F s) (hk : Ok s) (hmp : 1 ≤ mapsOf s.root.blocks) (hcap : 1 < F.cap)
    (hnx : ∀ l, s.lowest ((splitL 246 (wordsL (s.table.drop 1))).length + mapsOf s.root.blocks) = some l → s.root.epoch < 1099511627776 → (s.next (splitL 246 (wordsL (s.table.drop 1))).length l).check = 0) :
    Calls Tryz.prog 21 #[.pointer (some ⟨F.p, 0, none⟩)] w fun e w' => e = .returned (.int .i64 s.commit.2) ∧ ∃ F', ShAt w' F' s.commit.1 ∧ Goes F F' w w' := by
  have HWI : In .i64 w (some ⟨F.g, 1, none⟩) (s.table.drop 1) (F.cap - 1) := by have := h.table.in_.fromI 1 (by have := hk.table.1; omega); simpa using this
  have HWO0 := words_any (some ⟨F.g, 1, none⟩) (F.cap - 1) (s.table.drop 1) w HWI (fun x hx => by have := hk.table.2.2 x (List.mem_of_mem_drop hx); omega) (by rw [List.length_drop]; have := hk.table.2.1; omega)
  rw [List.length_drop] at HWO0
  have HWO := Hide.mk HWO0
  have HA := Hide.mk (alive_any h)
  have HS := Hide.mk h
  have HK := Hide.mk hk
  have c13 := h.cells.c13
  have c10 := h.cells.c10
  have hmx := tab_max h.table
  obtain ⟨R, hR⟩ : ∃ R, s.commit = R := ⟨_, rfl⟩
  rw [hR]
  unfold Sh.commit at hR
  obtain ⟨a, ha⟩ : ∃ a, s.alive = a := ⟨_, rfl⟩
  obtain ⟨P, hP⟩ : ∃ P, splitL 246 (wordsL (s.table.drop 1)) = P := ⟨_, rfl⟩
  obtain ⟨M, hM⟩ : ∃ P, splitL 246 (emptyB s.root.blocks) = P := ⟨_, rfl⟩
  have hMl : M.length = mapsOf s.root.blocks := by rw [← hM]; rfl
  have HP := Hide.mk hP
  have HM := Hide.mk hM
  have hP1 : P.length ≤ 10000 := by
    have := splitL_count 246 (wordsL (s.table.drop 1))
    rw [hP, wordsL_len, List.length_drop] at this
    have := hk.table.2.1
    omega
  have hPs : P.length ≤ 400 := by
    have h2 := splitL_num (wordsL (s.table.drop 1))
    rw [hP, wordsL_len, List.length_drop] at h2
    have := hk.table.2.1
    omega
  have hM1 : M.length ≤ 512 := by rw [hMl]; exact mapsOf_le _
  have HPM : Hide (P.length ≤ 400 ∧ M.length ≤ 512 ∧ 1 ≤ M.length) := ⟨hPs, hM1, by rw [hMl]; exact hmp⟩
  have htl := hk.table.1
  have htl2 := hk.table.2.1
  simp only [ha, hP, ← hMl] at hR hnx
  rw [ha] at HA
  have HNX := Hide.mk hnx
  clear h hk ha hP hM hMl hmp hnx HWI HWO0 hPs
  by_cases h0 : a = 0
  · subst h0
    rw [if_neg (by simp)] at hR
    cases hd : s.dirty with
    | false =>
      rw [hd] at c13
      rw [if_pos hd] at hR
      clear hd
      go_enter Tryz.func21, Tryz.ntmps21
      go_wp2_with (go_at_call 63; refine HA.out.mono ?_; rintro e w0 ⟨rfl, hw0⟩; obtain rfl : w = w0 := hw0.symm)
      go_ret
      rw [← hR]
      exact ⟨rfl, F, HS.out, Goes.refl _ _⟩
    | true =>
      rw [hd] at c13
      rw [if_neg (by rw [hd]; simp)] at hR
      clear hd
      cases hl : s.lowest (P.length + M.length) with
      | none =>
        simp only [hl] at hR
        have HRR := Hide.mk hR
        have HL := Hide.mk hl
        clear hR hl
        go_enter Tryz.func21, Tryz.ntmps21
        go_wp2_with (first
      | (go_at_call 63; refine HA.out.mono ?_; rintro e w0 ⟨rfl, hw0⟩; obtain rfl : w = w0 := hw0.symm; clear hw0)
      | (go_at_call 67; refine HWO.out.mono ?_; rintro e w4 ⟨v4, rfl, ho, hb4⟩
         obtain ⟨A4, c4, hv4, hi4, hge4⟩ := In.of_own ho
         have HSP := split_any A4 c4 _ w4 hi4 (by rw [wordsL_len, List.length_drop]; have := HK.out.table.2.1; omega)
         rw [HP.out] at HSP
         obtain ⟨n4, hn4⟩ : ∃ n, (wordsL (s.table.drop 1)).length = n := ⟨_, rfl⟩
         rw [hn4] at hv4 HSP
         subst hv4
         have HSP1 := Hide.mk HSP
         have S4 := Hide.mk (HS.out.below hb4)
         have B4 := Hide.mk hb4
         clear ho hb4 hi4 hge4 hn4 HSP; (try clear hcap))
      | (go_at_call 45; with_reducible refine HSP1.out.mono ?_; rintro e w5 ⟨A5, c5, rfl, hp5, hb5⟩
         have S5 := Hide.mk (S4.out.below hb5)
         have P5 := Hide.mk (hp5 F.own S4.out.lts)
         have B5 := Hide.mk (B4.out.trans (hb5.mono B4.out.size))
         have c3 := S5.out.cells.c3
         clear hp5 hb5)
      | (go_at_call 46; refine (Given.make_any s.root.blocks _).mono ?_; rintro e w6 ⟨v6, rfl, ho, hb6⟩
         rw [show List.replicate (Given.clampN s.root.blocks) 0 = emptyB s.root.blocks from rfl] at ho
         obtain ⟨A6, c6, hv6, hi6, hge6⟩ := In.of_own ho
         have HSP := split_any A6 c6 _ w6 hi6 (by rw [emptyB_len]; have := clampN_le s.root.blocks; omega)
         rw [HM.out] at HSP
         obtain ⟨n6, hn6⟩ : ∃ n, (emptyB s.root.blocks).length = n := ⟨_, rfl⟩
         rw [hn6] at hv6 HSP
         subst hv6
         have HSP2 := Hide.mk HSP
         have S6 := Hide.mk (S5.out.below hb6)
         have B6 := Hide.mk hb6
         clear ho hb6 hi6 hge6 hn6 HSP)
      | (go_at_call 45; with_reducible refine HSP2.out.mono ?_; rintro e w7 ⟨A7, c7, rfl, hp7, hb7⟩
         have S7 := Hide.mk (S6.out.below hb7)
         have B7 := Hide.mk (B6.out.trans (hb7.mono B6.out.size))
         have HLO := lowest_any (P.length + M.length) (by have := HPM.out; omega) F s w7 S7.out HK.out
         rw [show ((P.length + M.length : Nat) : Int) = (P.length : Int) + (M.length : Int) by omega] at HLO
         have HLOW := Hide.mk HLO
         clear hp7 hb7 HLO)
      | (go_at_call 65; refine HLOW.out.mono ?_; rintro e w8 ⟨v8, rfl, ho, hb8⟩; rw [HL.out] at ho ⊢; have B8 := Hide.mk hb8; clear ho hb8))
        go_ret
        rw [← HRR.out]
        exact ⟨rfl, F, S7.out.below B8.out, Goes.below ((B5.out.trans (B7.out.mono B5.out.size)).trans (B8.out.mono (Nat.le_trans B5.out.size B7.out.size)))⟩
      | some l =>
        simp only [hl] at hR
        have HRR := Hide.mk hR
        have HL := Hide.mk hl
        have hlf := lowest_facts HK.out hl
        have HLF := Hide.mk hlf
        clear hR hl hlf
        by_cases he : 1099511627776 ≤ s.root.epoch
        · go_enter Tryz.func21, Tryz.ntmps21
          go_wp2_with (first
      | (go_at_call 63; refine HA.out.mono ?_; rintro e w0 ⟨rfl, hw0⟩; obtain rfl : w = w0 := hw0.symm; clear hw0)
      | (go_at_call 67; refine HWO.out.mono ?_; rintro e w4 ⟨v4, rfl, ho, hb4⟩
         obtain ⟨A4, c4, hv4, hi4, hge4⟩ := In.of_own ho
         have HSP := split_any A4 c4 _ w4 hi4 (by rw [wordsL_len, List.length_drop]; have := HK.out.table.2.1; omega)
         rw [HP.out] at HSP
         obtain ⟨n4, hn4⟩ : ∃ n, (wordsL (s.table.drop 1)).length = n := ⟨_, rfl⟩
         rw [hn4] at hv4 HSP
         subst hv4
         have HSP1 := Hide.mk HSP
         have S4 := Hide.mk (HS.out.below hb4)
         have B4 := Hide.mk hb4
         clear ho hb4 hi4 hge4 hn4 HSP; (try clear hcap))
      | (go_at_call 45; with_reducible refine HSP1.out.mono ?_; rintro e w5 ⟨A5, c5, rfl, hp5, hb5⟩
         have S5 := Hide.mk (S4.out.below hb5)
         have P5 := Hide.mk (hp5 F.own S4.out.lts)
         have B5 := Hide.mk (B4.out.trans (hb5.mono B4.out.size))
         have c3 := S5.out.cells.c3
         clear hp5 hb5)
      | (go_at_call 46; refine (Given.make_any s.root.blocks _).mono ?_; rintro e w6 ⟨v6, rfl, ho, hb6⟩
         rw [show List.replicate (Given.clampN s.root.blocks) 0 = emptyB s.root.blocks from rfl] at ho
         obtain ⟨A6, c6, hv6, hi6, hge6⟩ := In.of_own ho
         have HSP := split_any A6 c6 _ w6 hi6 (by rw [emptyB_len]; have := clampN_le s.root.blocks; omega)
         rw [HM.out] at HSP
         obtain ⟨n6, hn6⟩ : ∃ n, (emptyB s.root.blocks).length = n := ⟨_, rfl⟩
         rw [hn6] at hv6 HSP
         subst hv6
         have HSP2 := Hide.mk HSP
         have S6 := Hide.mk (S5.out.below hb6)
         have B6 := Hide.mk hb6
         clear ho hb6 hi6 hge6 hn6 HSP)
      | (go_at_call 45; with_reducible refine HSP2.out.mono ?_; rintro e w7 ⟨A7, c7, rfl, hp7, hb7⟩
         have S7 := Hide.mk (S6.out.below hb7)
         have B7 := Hide.mk (B6.out.trans (hb7.mono B6.out.size))
         have HLO := lowest_any (P.length + M.length) (by have := HPM.out; omega) F s w7 S7.out HK.out
         rw [show ((P.length + M.length : Nat) : Int) = (P.length : Int) + (M.length : Int) by omega] at HLO
         have HLOW := Hide.mk HLO
         clear hp7 hb7 HLO)
      | (go_at_call 65; refine HLOW.out.mono ?_; rintro e w8 ⟨v8, rfl, ho, hb8⟩; rw [HL.out] at ho ⊢
         obtain ⟨A8, c8, hv8, hi8, hge8⟩ := In.of_own ho
         have hv8' : v8 = .slice A8 l.length c8 := hv8
         subst hv8'
         have S8 := Hide.mk (S7.out.below hb8)
         have I8 := Hide.mk (show In .i64 w8 A8 l c8 from hi8)
         have GE8 := Hide.mk (show ∀ a, A8 = some a → w7.heap.size ≤ a.block from hge8)
         have B8 := Hide.mk hb8
         have c2 := S8.out.cells.c2
         clear ho hb8 hi8 hge8 hv8))
          go_ret
          have hR := HRR.out
          rw [if_pos (by assumption)] at hR
          rw [← hR]
          exact ⟨rfl, F, S8.out, Goes.below ((B5.out.trans (B7.out.mono B5.out.size)).trans (B8.out.mono (Nat.le_trans B5.out.size B7.out.size)))⟩
        · have HE := Hide.mk he
          go_enter Tryz.func21, Tryz.ntmps21
          go_wp2_with (first
      | (go_at_call 63; refine HA.out.mono ?_; rintro e w0 ⟨rfl, hw0⟩; obtain rfl : w = w0 := hw0.symm; clear hw0)
      | (go_at_call 67; refine HWO.out.mono ?_; rintro e w4 ⟨v4, rfl, ho, hb4⟩
         obtain ⟨A4, c4, hv4, hi4, hge4⟩ := In.of_own ho
         have HSP := split_any A4 c4 _ w4 hi4 (by rw [wordsL_len, List.length_drop]; have := HK.out.table.2.1; omega)
         rw [HP.out] at HSP
         obtain ⟨n4, hn4⟩ : ∃ n, (wordsL (s.table.drop 1)).length = n := ⟨_, rfl⟩
         rw [hn4] at hv4 HSP
         subst hv4
         have HSP1 := Hide.mk HSP
         have S4 := Hide.mk (HS.out.below hb4)
         have B4 := Hide.mk hb4
         clear ho hb4 hi4 hge4 hn4 HSP; (try clear hcap))
      | (go_at_call 45; with_reducible refine HSP1.out.mono ?_; rintro e w5 ⟨A5, c5, rfl, hp5, hb5⟩
         have S5 := Hide.mk (S4.out.below hb5)
         have P5 := Hide.mk (hp5 F.own S4.out.lts)
         have B5 := Hide.mk (B4.out.trans (hb5.mono B4.out.size))
         have c3 := S5.out.cells.c3
         clear hp5 hb5)
      | (go_at_call 46; refine (Given.make_any s.root.blocks _).mono ?_; rintro e w6 ⟨v6, rfl, ho, hb6⟩
         rw [show List.replicate (Given.clampN s.root.blocks) 0 = emptyB s.root.blocks from rfl] at ho
         obtain ⟨A6, c6, hv6, hi6, hge6⟩ := In.of_own ho
         have HSP := split_any A6 c6 _ w6 hi6 (by rw [emptyB_len]; have := clampN_le s.root.blocks; omega)
         rw [HM.out] at HSP
         obtain ⟨n6, hn6⟩ : ∃ n, (emptyB s.root.blocks).length = n := ⟨_, rfl⟩
         rw [hn6] at hv6 HSP
         subst hv6
         have HSP2 := Hide.mk HSP
         have S6 := Hide.mk (S5.out.below hb6)
         have B6 := Hide.mk hb6
         clear ho hb6 hi6 hge6 hn6 HSP)
      | (go_at_call 45; with_reducible refine HSP2.out.mono ?_; rintro e w7 ⟨A7, c7, rfl, hp7, hb7⟩
         have S7 := Hide.mk (S6.out.below hb7)
         have B7 := Hide.mk (B6.out.trans (hb7.mono B6.out.size))
         have HLO := lowest_any (P.length + M.length) (by have := HPM.out; omega) F s w7 S7.out HK.out
         rw [show ((P.length + M.length : Nat) : Int) = (P.length : Int) + (M.length : Int) by omega] at HLO
         have HLOW := Hide.mk HLO
         clear hp7 hb7 HLO)
      | (go_at_call 65; refine HLOW.out.mono ?_; rintro e w8 ⟨v8, rfl, ho, hb8⟩; rw [HL.out] at ho ⊢
         obtain ⟨A8, c8, hv8, hi8, hge8⟩ := In.of_own ho
         have hv8' : v8 = .slice A8 l.length c8 := hv8
         subst hv8'
         have S8 := Hide.mk (S7.out.below hb8)
         have I8 := Hide.mk (show In .i64 w8 A8 l c8 from hi8)
         have GE8 := Hide.mk (show ∀ a, A8 = some a → w7.heap.size ≤ a.block from hge8)
         have B8 := Hide.mk hb8
         have c2 := S8.out.cells.c2
         clear ho hb8 hi8 hge8 hv8))
          have hll : l.length = P.length + M.length := HLF.out.1
          obtain ⟨g8, off8, rfl⟩ := atI I8.out (by have := HPM.out; omega)
          have SD := Hide.mk (S8.out.below (below_drew (Below.refl w8.heap.size w8)))
          have KC := SD.out.cells
          have hep := HK.out.epoch
          have hep2 := HE.out
          have hc8 := I8.out.room
          have hm1 := HPM.out.2.2
          have hcap2 := hmx.1
          rw [hll] at hc8
          have hb1 : P.length ≤ c8 := by omega
          have hb2 : P.length < c8 := by omega
          have hb3 : (P.length : Int) ≤ (P.length : Int) + (M.length : Int) := by omega
          have hb4 : (P.length : Int) ≤ (c8 : Int) := by omega
          have hb5 : (P.length : Int) + (M.length : Int) ≤ (c8 : Int) := by omega
          have hb6 : (P.length : Int) + (M.length : Int) - (P.length : Int) = (M.length : Int) := by omega
          have hw1 : wrap64 (s.root.epoch + 1) = s.root.epoch + 1 := wrap_ok (by omega) (by omega)
          have hw2 : wrap64 ((s.table.length : Int) - 1) = (s.table.length : Int) - 1 := wrap_ok (by omega) (by omega)
          have hbne : ¬ c8 = P.length := by omega
          have hb7 : P.length + M.length - P.length = M.length := by omega
          obtain ⟨br, hbr⟩ : ∃ br, w8.drew.heap.size = br := ⟨_, rfl⟩
          refine s_ 34 (fun w' => ShCells w' F s) tab21_13 bits21_13 KC (fun hHeld HT_ HW_ => ?_)
          refine p_ 0 67 ?_
          refine p_ 1 68 ?_
          refine p_ 2 69 ?_
          refine p_ 3 70 ?_
          refine t_ 4 71 hHeld ?_ (hy := by
              intro w' hS'
              have s1 := hS'.c2
              go_simp
              rfl)
          refine p_ 5 72 ?_
          refine p_ 6 73 ?_
          refine p_ 7 74 ?_
          refine p_ 8 75 ?_
          refine p_ 9 76 ?_
          refine t_ 10 77 hHeld ?_ (hy := by
              intro w' hS'
              have s1 := hS'.c3
              go_simp
              rfl)
          refine p_ 11 78 ?_
          refine p_ 12 79 ?_
          refine p_ 13 80 ?_
          refine p_ 14 81 ?_
          refine t_ 15 82 hHeld ?_ (hy := by
              intro w' hS'
              have s1 := hS'.c10
              go_simp
              rfl)
          refine p_ 16 83 ?_
          refine p_ 17 84 ?_
          refine p_ 18 85 ?_
          refine p_ 19 86 ?_
          refine p_ 20 87 ?_
          refine p_ 21 88 ?_
          refine t_ 22 89 hHeld ?_ (hy := by
              intro w' hS'
              have s1 := hS'.c11
              go_simp
              rfl)
          refine p_ 23 90 ?_
          refine p_ 24 91 ?_
          refine p_ 25 92 ?_
          refine p_ 26 93 ?_
          refine p_ 27 94 ?_
          refine p_ 28 95 ?_
          refine p_ 29 96 ?_
          refine p_ 30 97 ?_
          refine p_ 31 98 ?_
          refine n_ 32 (some 9) (fun K hK => ?_)
          have hBa := (Below.refl w8.drew.heap.size w8.drew).alloc (Nat.le_refl _) (.cells #[.int .i64 0, .int .i64 0, .int .i64 0, .int .i64 0, .slice none 0 0, .slice none 0 0] 68)
          have KC1 := (SD.out.below hBa).cells
          refine value_ (v := .pointer (some ⟨w8.drew.heap.size, 0, none⟩)) (w1 := w8.drew.alloc (.cells #[.int .i64 0, .int .i64 0, .int .i64 0, .int .i64 0, .slice none 0 0, .slice none 0 0] 68)) (by rfl) rfl ?_ ?_
          · first | (go_simp; done) | (go_simp; rfl)
          refine k_ hK KC1 (fun hHeld => ?_)
          clear hK K
          refine n_ 33 none (fun K hK => ?_)
          obtain ⟨wr, hwr, rowr, hBr⟩ := stage_rootrow (w := w8.drew) (cs := #[.int .i64 (s.root.epoch + 1), .int .i64 s.root.blocks, .int .i64 ((s.table.length : Int) - 1), .int .i64 s.start, .slice (some ⟨g8, off8, none⟩) P.length c8, .slice (some ⟨g8, off8 + P.length, none⟩) M.length (c8 - P.length)])
          have KC2 := (SD.out.below hBr).cells
          refine skip_ (w1 := wr) (by rfl) rfl ?_ ?_
          · rw [← hwr]; refine exec_storeR (heap_last _ _) (by rfl) (by rfl) ?_ (by rfl) (by rfl) (by simp [Value.oneCell']); (conv => lhs; whnf); (try rw [hw1, hw2, if_neg hbne])
          refine hK.out _ _ KC2 (fun hHeld => ?_)
          clear hK K
          refine d_ ?_
          clear KC KC1 KC2 hHeld hBa
          rw [hbr] at rowr ⊢
          have hoffb : ¬ br ∈ F.own := fun hx => by have := SD.out.lts _ hx; omega
          have BD := below_drew (Below.refl w8.heap.size w8)
          have m8r : Moves [] w8 wr := (Moves.of_below BD []).trans (Moves.of_below hBr [])
          have m5r : Moves [] w5 wr := (Moves.of_below B7.out []).trans ((Moves.of_below B8.out []).trans m8r)
          have m0r : Moves [] w wr := (Moves.of_below B5.out []).trans m5r
          have SR := SD.out.below hBr
          have PR := P5.out.moves m5r (by simp)
          have IR : In .i64 wr (some ⟨g8, off8, none⟩) l c8 := I8.out.moves m8r (by simp)
          have hlt : (l.take P.length).length = P.length := by rw [List.length_take]; omega
          have hld : (l.drop P.length).length = M.length := by rw [List.length_drop]; omega
          have GE8W : Hide (w.heap.size ≤ g8) := ⟨Nat.le_trans B5.out.size (Nat.le_trans B7.out.size (GE8.out ⟨g8, off8, none⟩ rfl))⟩
          have hg8 : ∀ a, (some ⟨g8, off8, none⟩ : Option Addr) = some a → ¬ a.block ∈ F.own := fun a ha hx => by have := GE8.out a ha; have := S7.out.lts _ hx; omega
          have hg9 : ∀ a, (some ⟨g8, off8 + P.length, none⟩ : Option Addr) = some a → ¬ a.block ∈ F.own := fun a ha => by cases ha; exact hg8 ⟨g8, off8, none⟩ rfl
          have IT : In .i64 wr (some ⟨g8, off8, none⟩) (l.take P.length) c8 := IR.take P.length c8 (by omega) hb1
          have IM : In .i64 wr (some ⟨g8, off8 + P.length, none⟩) (l.drop P.length) (c8 - P.length) := IR.fromI P.length (by omega)
          have hwf : ∀ n ∈ l, MapFn.wf n := fun n hn => wf_small (HLF.out.2 n hn).1 (HLF.out.2 n hn).2
          obtain ⟨r, hr⟩ : ∃ r, s.next P.length l = r := ⟨_, rfl⟩
          have hrT : r.tables = l.take P.length := by rw [← hr]; rfl
          have hrM : r.maps = l.drop P.length := by rw [← hr]; rfl
          have hrB : r.blocks = s.root.blocks := by rw [← hr]; rfl
          have hrE : r.epoch = s.root.epoch + 1 := by rw [← hr]; rfl
          have hrN : r.next = (s.table.length : Int) - 1 := by rw [← hr]; rfl
          have hrS : r.start = s.start := by rw [← hr]; rfl
          have RI : RootIn wr r (some ⟨g8, off8, none⟩) c8 (some ⟨g8, off8 + P.length, none⟩) (c8 - P.length) F.own := ⟨by rw [hrT]; exact IT, by rw [hrM]; exact IM, hg8, hg9, by rw [hrT, hrM, hlt, hld]; have := HPM.out; omega, by rw [hrB]; have := HK.out.blocks; omega⟩
          have hval : r.val (some ⟨g8, off8, none⟩) c8 (some ⟨g8, off8 + P.length, none⟩) (c8 - P.length) = .agg #[.int .i64 (s.root.epoch + 1), .int .i64 s.root.blocks, .int .i64 ((s.table.length : Int) - 1), .int .i64 s.start, .slice (some ⟨g8, off8, none⟩) P.length c8, .slice (some ⟨g8, off8 + P.length, none⟩) M.length (c8 - P.length)] := by
            unfold Root.val
            rw [hrT, hrM, hrB, hrE, hrN, hrS, hlt, hld]
          have hch : r.check = 0 := by rw [← hr]; exact HNX.out l HL.out (by have := HE.out; omega)
          have hPb : ∀ p ∈ P, Bytes p := by rw [← HP.out]; exact splitL_bytes (wordsL_bytes _)
          have L10 := lay_any 1 A5 c5 P (some ⟨g8, off8, none⟩) c8 (l.take P.length) wr F s SR PR IT hg8 (by omega) (by have := HPM.out; omega) (fun n hn => hwf n (List.mem_of_mem_take hn)) hPb
          rw [hlt] at L10
          obtain ⟨s1, e1, hL1⟩ : ∃ s1 e1, s.lay 1 P (l.take P.length) = (s1, e1) := ⟨_, _, rfl⟩
          obtain ⟨D1, b1, hk1⟩ := layF_keeps 1 (l.take P.length) P 0 s
          rw [show Sh.layF 1 (l.take P.length) P 0 s = s.lay 1 P (l.take P.length) from rfl, hL1] at hk1
          rw [hL1] at L10
          have L1 := Hide.mk L10
          obtain ⟨U, hU⟩ : ∃ U, splitL 246 (usedL r s.table) = U := ⟨_, rfl⟩
          have hUM : U.length = M.length := by rw [← hU, ← HM.out, splitL_num, splitL_num, usedL_clamp, emptyB_len, hrB]
          obtain ⟨s2, e2, hL2⟩ : ∃ s2 e2, s1.lay 2 U (l.drop P.length) = (s2, e2) := ⟨_, _, rfl⟩
          obtain ⟨D2, b2, hk2⟩ := layF_keeps 2 (l.drop P.length) U 0 s1
          rw [show Sh.layF 2 (l.drop P.length) U 0 s1 = s1.lay 2 U (l.drop P.length) from rfl, hL2] at hk2
          obtain ⟨s3, e3, hL3⟩ : ∃ s3 e3, s2.crown r = (s3, e3) := ⟨_, _, rfl⟩
          obtain ⟨D3, b3, hk3⟩ := crown_keeps s2 r
          rw [hL3] at hk3
          have ht1 : s1.table = s.table := by rw [show s1 = _ from hk1]
          have ht2 : s2.table = s.table := by rw [show s2 = _ from hk2]; exact ht1
          have ht3 : s3.table = s.table := by rw [show s3 = _ from hk3]; exact ht2
          have hR := HRR.out
          rw [if_neg (by have := HE.out; omega)] at hR
          simp only [hr, hrT, hrM, hU, hL1, hL2, hL3] at hR
          have HR1 := Hide.mk hR
          have HU := Hide.mk hU
          have HUM := Hide.mk (And.intro hUM (show M.length ≤ 512 from HPM.out.2.1))
          have HT := Hide.mk (And.intro ht1 (And.intro ht2 ht3))
          have HRI0 := Hide.mk RI
          have HOFFM := Hide.mk hg9
          have HDL := Hide.mk hld
          have HWFM : Hide (∀ n ∈ l.drop P.length, MapFn.wf n) := ⟨fun n hn => hwf n (List.mem_of_mem_drop hn)⟩
          have HUB2 : Hide (∀ p ∈ U, Bytes p) := ⟨by rw [← hU]; exact splitL_bytes (usedL_bytes _ _)⟩
          have HLL2 := Hide.mk hL2
          have HLL3 := Hide.mk hL3
          have HBRO := Hide.mk hoffb
          have HCH := Hide.mk hch
          have HVAL := Hide.mk hval
          have HG0 := Hide.mk (Goes.below (F := F) m0r.below)
          have HROW := Hide.mk rowr
          have HRM := Hide.mk hrM
          have k4 := cell_of (i := 4) rowr
          simp at k4
          have HB := Hide.mk (And.intro hb1 hb2)
          have HRS : Hide (r.tables.length + r.maps.length ≤ 1000) := ⟨by rw [hrT, hrM, hlt, hld]; have := HPM.out; omega⟩
          clear hoffb BD m8r m5r m0r SR PR IR hg8 hg9 IT IM hwf RI hval hch hPb L10 hU hUM hL1 hL2 hL3 hk1 hk2 hk3 ht1 ht2 ht3 hR rowr hBr hw1 hw2 hbne hb1 hb2 hb3 hb4 hb5 hb6 hb7 hc8 hll hrT hrM hrB hrE hrN hrS hr hlt hld hep hep2 hm1 hcap2 hwr hbr
          by_cases he1 : e1 = 0
          · subst he1
            go_wp2_with (go_at_call 48; (try with_reducible refine L1.out.mono ?_); rintro e w9 ⟨rfl, hs9, hg9⟩; have S9 := Hide.mk hs9; have G9 := Hide.mk hg9; clear hs9 hg9)
            have B9D := below_drew (Below.refl w9.heap.size w9)
            have SLD := Hide.mk (S9.out.below B9D)
            have row9 := (G9.out.moves.block br (lt_of_row HROW.out) HBRO.out).trans HROW.out
            have HRI9 := HRI0.out.moves G9.out.moves (fun x hx => .inl hx)
            have HRI := Hide.mk (HRI9.moves (Moves.of_below B9D []) (by simp))
            have TAB := SLD.out.table.in_
            rw [HT.out.1] at TAB
            have HUB0 := usedBy_any r s.table (some ⟨F.g, 0, none⟩) F.cap c8 (c8 - P.length) (some ⟨g8, off8, none⟩) (some ⟨g8, off8 + P.length, none⟩) w9.drew HRI.out.tables HRI.out.maps TAB (by have := HRS.out; omega)
            rw [HVAL.out] at HUB0
            have HUB := Hide.mk HUB0
            have H9 := Hide.mk (And.intro B9D HRI9)
            have KD : w9.drew.heap[br]? = _ ∧ w9.drew.cell? ⟨F.p, 10, none⟩ = some (.slice (some ⟨F.g, 0, none⟩) s.table.length F.cap) := And.intro (show w9.drew.heap[br]? = _ from row9) (by have := SLD.out.cells.c10; rw [HT.out.1] at this; exact this)
            clear row9 HRI9 TAB HUB0 B9D k4
            refine s_ 13 (fun w' => w'.heap[br]? = some (.cells #[.int .i64 (s.root.epoch + 1), .int .i64 s.root.blocks, .int .i64 ((s.table.length : Int) - 1), .int .i64 s.start, .slice (some ⟨g8, off8, none⟩) P.length c8, .slice (some ⟨g8, off8 + P.length, none⟩) M.length (c8 - P.length)] 68 (0, 0)) ∧ w'.cell? ⟨F.p, 10, none⟩ = some (.slice (some ⟨F.g, 0, none⟩) s.table.length F.cap)) tab21_17 bits21_17 KD (fun hHeld HT_ HW_ => ?_)
            refine p_ 0 107 ?_
            refine t_ 1 108 hHeld ?_ (hy := by
                intro w' hS'
                refine exec_loadR (x := .tmp 9) ?_ ?_ hS'.1
                · rfl
                · rfl)
            refine p_ 2 109 ?_
            refine p_ 3 110 ?_
            refine p_ 4 111 ?_
            refine p_ 5 112 ?_
            refine t_ 6 113 hHeld ?_ (hy := by
                intro w' hS'
                have s1 := hS'.2
                go_simp
                rfl)
            refine p_ 9 116 ?_
            refine t_ 10 117 hHeld ?_ (hy := by
                intro w' hS'
                have s1 := cell_of (i := 5) hS'.1
                simp at s1
                go_simp
                rfl)
            refine n_ 7 (some 114) (fun K hK => ?_)
            refine g_ Tryz.func49 #[.agg #[.int .i64 (s.root.epoch + 1), .int .i64 s.root.blocks, .int .i64 ((s.table.length : Int) - 1), .int .i64 s.start, .slice (some ⟨g8, off8, none⟩) P.length c8, .slice (some ⟨g8, off8 + P.length, none⟩) M.length (c8 - P.length)], .slice (some ⟨F.g, 0, none⟩) s.table.length F.cap] ?_
            with_reducible refine HUB.out.mono ?_
            rintro e wA ⟨vA, rfl, ho, hb⟩
            obtain ⟨AA, cA, hvA, hiA, hgeA⟩ := In.of_own ho
            have HSPA0 := split_any AA cA (usedL r s.table) wA hiA (by have := usedL_len r s.table; omega)
            rw [HU.out] at HSPA0
            obtain ⟨nA, hnA⟩ : ∃ n, (usedL r s.table).length = n := ⟨_, rfl⟩
            rw [hnA] at hvA HSPA0
            subst hvA
            have HSPA := Hide.mk HSPA0
            have SA := Hide.mk (SLD.out.below hb)
            have KDA := And.intro ((hb.block br (lt_of_row KD.1)).trans KD.1) (pw_cell_below hb KD.2)
            have BA := Hide.mk hb
            refine ⟨_, rfl, ?_⟩
            clear ho hb hiA hgeA hnA HSPA0
            refine k_ hK KDA (fun hHeld => ?_)
            clear hK K
            refine n_ 8 (some 115) (fun K hK => ?_)
            refine g_ Tryz.func45 #[.slice AA nA cA, .int .i64 246] ?_
            with_reducible refine HSPA.out.mono ?_
            rintro e wB ⟨AB, cB, rfl, hp, hb⟩
            have SB := Hide.mk (SA.out.below hb)
            have PB := Hide.mk (hp F.own SA.out.lts)
            have KDB := And.intro ((hb.block br (lt_of_row KDA.1)).trans KDA.1) (pw_cell_below hb KDA.2)
            have BB := Hide.mk (BA.out.trans (hb.mono BA.out.size))
            have HL20 := lay_any 2 AB cB U (some ⟨g8, off8 + P.length, none⟩) (c8 - P.length) (l.drop P.length) wB F _ SB.out PB.out (by have := (((HRI.out.moves (Moves.of_below BA.out []) (by simp)).moves (Moves.of_below hb []) (by simp)).maps); rw [HRM.out] at this; exact this) HOFFM.out (by rw [HDL.out]; have := HUM.out; omega) (by have := HUM.out; omega) HWFM.out HUB2.out
            rw [HDL.out, HLL2.out] at HL20
            have HL2 := Hide.mk HL20
            refine ⟨_, rfl, ?_⟩
            clear hp hb HL20
            refine k_ hK KDB (fun hHeld => ?_)
            clear hK K
            refine n_ 11 (some 118) (fun K hK => ?_)
            refine g_ Tryz.func48 #[.pointer (some ⟨F.p, 0, none⟩), .int .i64 2, .slice AB U.length cB, .slice (some ⟨g8, off8 + P.length, none⟩) M.length (c8 - P.length)] ?_
            with_reducible refine HL2.out.mono ?_
            rintro e wC ⟨rfl, hsC, hgC⟩
            have SC := Hide.mk hsC
            have GC := Hide.mk hgC
            have KDC := And.intro ((hgC.moves.block br (lt_of_row KDB.1) HBRO.out).trans KDB.1) (show wC.cell? ⟨F.p, 10, none⟩ = some (.slice (some ⟨F.g, 0, none⟩) s.table.length F.cap) from by have := hsC.cells.c10; rw [HT.out.2.1] at this; exact this)
            refine ⟨_, rfl, ?_⟩
            clear hsC hgC
            refine k_ hK KDC (fun hHeld => ?_)
            clear hK K
            refine p_ 12 11 ?_
            refine d_ ?_
            clear KD KDA KDB hHeld
            have hgt : Goes F F w9 wC := (Goes.below (H9.out.1.trans (BB.out.mono H9.out.1.size))).trans GC.out
            have GT := Hide.mk ((HG0.out.trans G9.out).trans hgt)
            have HRC := Hide.mk (H9.out.2.moves hgt.moves (fun x hx => .inl hx))
            have k0 := cell_of (i := 0) KDC.1
            have k1 := cell_of (i := 1) KDC.1
            have k2 := cell_of (i := 2) KDC.1
            have k3 := cell_of (i := 3) KDC.1
            have k4 := cell_of (i := 4) KDC.1
            have k5 := cell_of (i := 5) KDC.1
            simp at k0 k1 k2 k3 k4 k5
            have HKC := Hide.mk KDC.1
            have HCR0 := crown_any r (some ⟨g8, off8, none⟩) c8 (some ⟨g8, off8 + P.length, none⟩) (c8 - P.length) wC F s2 SC.out HRC.out HCH.out
            rw [HVAL.out, HLL3.out] at HCR0
            have HCR := Hide.mk HCR0
            clear hgt KDC HCR0
            by_cases he2 : e2 = 0
            · subst he2
              by_cases he3 : e3 = 0
              · subst he3
                go_wp2_with (first
                  | (go_at_call 50; refine HCR.out.mono ?_; rintro e wD ⟨rfl, F3, hs, hg⟩
                     have S3 := Hide.mk hs
                     have G3 := Hide.mk hg
                     have rowD := (hg.moves.block br (lt_of_row HKC.out) HBRO.out).trans HKC.out
                     have m0 := cell_of (i := 0) rowD
                     have m1 := cell_of (i := 1) rowD
                     have m2 := cell_of (i := 2) rowD
                     have m3 := cell_of (i := 3) rowD
                     have m4 := cell_of (i := 4) rowD
                     have m5 := cell_of (i := 5) rowD
                     simp at m0 m1 m2 m3 m4 m5
                     have HSE0 := settle_any r (some ⟨g8, off8, none⟩) c8 (some ⟨g8, off8 + P.length, none⟩) (c8 - P.length) wD F3 s3 hs (HRC.out.foot hg) (by rw [HT.out.2.2]; omega) (by have := HRS.out; omega)
                     rw [HVAL.out, hg.p] at HSE0
                     have HSE := Hide.mk HSE0
                     clear hs hg rowD HSE0)
                  | (go_at_call 51; with_reducible refine HSE.out.mono ?_; rintro e wE ⟨rfl, F4, hs, hg, hsl⟩; have S4' := Hide.mk hs; have G4 := Hide.mk hg; have SL4 := Hide.mk hsl; clear hs hg hsl))
                go_ret
                have hR := HR1.out
                rw [if_neg (by simp), if_neg (by simp), if_neg (by simp)] at hR
                rw [← hR]
                exact ⟨rfl, F4, S4'.out, (GT.out.trans G3.out).close G4.out (SL4.out _ (GT.out.trans G3.out).moves.size (fun a ha => by cases ha; exact GE8W.out) (fun a ha => by cases ha; exact GE8W.out))⟩
              · have q : (e3 != 0) = true := by simp [he3]
                have HE3 := Hide.mk he3
                clear he3
                go_wp2_with (go_at_call 50; refine HCR.out.mono ?_; rintro e wD ⟨rfl, F3, hs, hg⟩; have S3 := Hide.mk hs; have G3 := Hide.mk hg; clear hs hg)
                go_ret
                have hR := HR1.out
                rw [if_neg (by simp), if_neg (by simp), if_pos HE3.out] at hR
                rw [← hR]
                exact ⟨rfl, F3, S3.out, GT.out.trans G3.out⟩
            · have q : (e2 != 0) = true := by simp [he2]
              have HE2 := Hide.mk he2
              clear he2
              go_wp2
              go_ret
              have hR := HR1.out
              rw [if_neg (by simp), if_pos HE2.out] at hR
              rw [← hR]
              exact ⟨rfl, F, SC.out, GT.out⟩
          · have q : (e1 != 0) = true := by simp [he1]
            have HE1 := Hide.mk he1
            clear he1
            go_wp2_with (go_at_call 48; (try with_reducible refine L1.out.mono ?_); rintro e w9 ⟨rfl, hs9, hg9⟩; have S9 := Hide.mk hs9; have G9 := Hide.mk hg9; clear hs9 hg9)
            go_ret
            have hR := HR1.out
            rw [if_pos HE1.out] at hR
            rw [← hR]
            exact ⟨rfl, F, S9.out, HG0.out.trans G9.out⟩
  · rw [if_pos h0] at hR
    have q : (a != 0) = true := by simp [h0]
    clear h0
    go_enter Tryz.func21, Tryz.ntmps21
    go_wp2_with (go_at_call 63; refine HA.out.mono ?_; rintro e w0 ⟨rfl, hw0⟩; obtain rfl : w = w0 := hw0.symm)
    go_ret
    rw [← hR]
    exact ⟨rfl, F, HS.out, Goes.refl _ _⟩
theorem commit_eq (w : World) (F : Foot) (s : Sh) (h : ShAt w F s) (hk : Ok s) (hmp : 1 ≤ mapsOf s.root.blocks) (hcap : F.cap = 1)
    (hnx : ∀ l, s.lowest ((splitL 246 (wordsL (s.table.drop 1))).length + mapsOf s.root.blocks) = some l → s.root.epoch < 1099511627776 → (s.next (splitL 246 (wordsL (s.table.drop 1))).length l).check = 0) :
    Calls Tryz.prog 21 #[.pointer (some ⟨F.p, 0, none⟩)] w fun e w' => e = .returned (.int .i64 s.commit.2) ∧ ∃ F', ShAt w' F' s.commit.1 ∧ Goes F F' w w' := by
  have hl1 : s.table.length = 1 := by have := (tab_max h.table).1; have := hk.table.1; omega
  have HWI : In .i64 w (some ⟨F.g, 0, none⟩) (s.table.drop 1) 0 := ⟨by rw [List.drop_eq_nil_of_le (by omega)]; exact ⟨rfl, by simp, fun h => absurd h (Nat.lt_irrefl 0)⟩, by rw [List.length_drop]; omega, fun a ha => by cases ha; exact tab_lt h.table⟩
  have HWO0 := words_any (some ⟨F.g, 0, none⟩) 0 (s.table.drop 1) w HWI (fun x hx => by have := hk.table.2.2 x (List.mem_of_mem_drop hx); omega) (by rw [List.length_drop]; omega)
  rw [List.length_drop] at HWO0
  clear hl1
  have HWO := Hide.mk HWO0
  have HA := Hide.mk (alive_any h)
  have HS := Hide.mk h
  have HK := Hide.mk hk
  have c13 := h.cells.c13
  have c10 := h.cells.c10
  have hmx := tab_max h.table
  obtain ⟨R, hR⟩ : ∃ R, s.commit = R := ⟨_, rfl⟩
  rw [hR]
  unfold Sh.commit at hR
  obtain ⟨a, ha⟩ : ∃ a, s.alive = a := ⟨_, rfl⟩
  obtain ⟨P, hP⟩ : ∃ P, splitL 246 (wordsL (s.table.drop 1)) = P := ⟨_, rfl⟩
  obtain ⟨M, hM⟩ : ∃ P, splitL 246 (emptyB s.root.blocks) = P := ⟨_, rfl⟩
  have hMl : M.length = mapsOf s.root.blocks := by rw [← hM]; rfl
  have HP := Hide.mk hP
  have HM := Hide.mk hM
  have hP1 : P.length ≤ 10000 := by
    have := splitL_count 246 (wordsL (s.table.drop 1))
    rw [hP, wordsL_len, List.length_drop] at this
    have := hk.table.2.1
    omega
  have hPs : P.length ≤ 400 := by
    have h2 := splitL_num (wordsL (s.table.drop 1))
    rw [hP, wordsL_len, List.length_drop] at h2
    have := hk.table.2.1
    omega
  have hM1 : M.length ≤ 512 := by rw [hMl]; exact mapsOf_le _
  have HPM : Hide (P.length ≤ 400 ∧ M.length ≤ 512 ∧ 1 ≤ M.length) := ⟨hPs, hM1, by rw [hMl]; exact hmp⟩
  have htl := hk.table.1
  have htl2 := hk.table.2.1
  simp only [ha, hP, ← hMl] at hR hnx
  rw [ha] at HA
  have HNX := Hide.mk hnx
  clear h hk ha hP hM hMl hmp hnx HWI HWO0 hPs
  by_cases h0 : a = 0
  · subst h0
    rw [if_neg (by simp)] at hR
    cases hd : s.dirty with
    | false =>
      rw [hd] at c13
      rw [if_pos hd] at hR
      clear hd
      go_enter Tryz.func21, Tryz.ntmps21
      go_wp2_with (go_at_call 63; refine HA.out.mono ?_; rintro e w0 ⟨rfl, hw0⟩; obtain rfl : w = w0 := hw0.symm)
      go_ret
      rw [← hR]
      exact ⟨rfl, F, HS.out, Goes.refl _ _⟩
    | true =>
      rw [hd] at c13
      rw [if_neg (by rw [hd]; simp)] at hR
      clear hd
      cases hl : s.lowest (P.length + M.length) with
      | none =>
        simp only [hl] at hR
        have HRR := Hide.mk hR
        have HL := Hide.mk hl
        clear hR hl
        go_enter Tryz.func21, Tryz.ntmps21
        go_wp2_with (first
      | (go_at_call 63; refine HA.out.mono ?_; rintro e w0 ⟨rfl, hw0⟩; obtain rfl : w = w0 := hw0.symm; clear hw0)
      | (go_at_call 67; refine HWO.out.mono ?_; rintro e w4 ⟨v4, rfl, ho, hb4⟩
         obtain ⟨A4, c4, hv4, hi4, hge4⟩ := In.of_own ho
         have HSP := split_any A4 c4 _ w4 hi4 (by rw [wordsL_len, List.length_drop]; have := HK.out.table.2.1; omega)
         rw [HP.out] at HSP
         obtain ⟨n4, hn4⟩ : ∃ n, (wordsL (s.table.drop 1)).length = n := ⟨_, rfl⟩
         rw [hn4] at hv4 HSP
         subst hv4
         have HSP1 := Hide.mk HSP
         have S4 := Hide.mk (HS.out.below hb4)
         have B4 := Hide.mk hb4
         clear ho hb4 hi4 hge4 hn4 HSP; (try clear hcap))
      | (go_at_call 45; with_reducible refine HSP1.out.mono ?_; rintro e w5 ⟨A5, c5, rfl, hp5, hb5⟩
         have S5 := Hide.mk (S4.out.below hb5)
         have P5 := Hide.mk (hp5 F.own S4.out.lts)
         have B5 := Hide.mk (B4.out.trans (hb5.mono B4.out.size))
         have c3 := S5.out.cells.c3
         clear hp5 hb5)
      | (go_at_call 46; refine (Given.make_any s.root.blocks _).mono ?_; rintro e w6 ⟨v6, rfl, ho, hb6⟩
         rw [show List.replicate (Given.clampN s.root.blocks) 0 = emptyB s.root.blocks from rfl] at ho
         obtain ⟨A6, c6, hv6, hi6, hge6⟩ := In.of_own ho
         have HSP := split_any A6 c6 _ w6 hi6 (by rw [emptyB_len]; have := clampN_le s.root.blocks; omega)
         rw [HM.out] at HSP
         obtain ⟨n6, hn6⟩ : ∃ n, (emptyB s.root.blocks).length = n := ⟨_, rfl⟩
         rw [hn6] at hv6 HSP
         subst hv6
         have HSP2 := Hide.mk HSP
         have S6 := Hide.mk (S5.out.below hb6)
         have B6 := Hide.mk hb6
         clear ho hb6 hi6 hge6 hn6 HSP)
      | (go_at_call 45; with_reducible refine HSP2.out.mono ?_; rintro e w7 ⟨A7, c7, rfl, hp7, hb7⟩
         have S7 := Hide.mk (S6.out.below hb7)
         have B7 := Hide.mk (B6.out.trans (hb7.mono B6.out.size))
         have HLO := lowest_any (P.length + M.length) (by have := HPM.out; omega) F s w7 S7.out HK.out
         rw [show ((P.length + M.length : Nat) : Int) = (P.length : Int) + (M.length : Int) by omega] at HLO
         have HLOW := Hide.mk HLO
         clear hp7 hb7 HLO)
      | (go_at_call 65; refine HLOW.out.mono ?_; rintro e w8 ⟨v8, rfl, ho, hb8⟩; rw [HL.out] at ho ⊢; have B8 := Hide.mk hb8; clear ho hb8))
        go_ret
        rw [← HRR.out]
        exact ⟨rfl, F, S7.out.below B8.out, Goes.below ((B5.out.trans (B7.out.mono B5.out.size)).trans (B8.out.mono (Nat.le_trans B5.out.size B7.out.size)))⟩
      | some l =>
        simp only [hl] at hR
        have HRR := Hide.mk hR
        have HL := Hide.mk hl
        have hlf := lowest_facts HK.out hl
        have HLF := Hide.mk hlf
        clear hR hl hlf
        by_cases he : 1099511627776 ≤ s.root.epoch
        · go_enter Tryz.func21, Tryz.ntmps21
          go_wp2_with (first
      | (go_at_call 63; refine HA.out.mono ?_; rintro e w0 ⟨rfl, hw0⟩; obtain rfl : w = w0 := hw0.symm; clear hw0)
      | (go_at_call 67; refine HWO.out.mono ?_; rintro e w4 ⟨v4, rfl, ho, hb4⟩
         obtain ⟨A4, c4, hv4, hi4, hge4⟩ := In.of_own ho
         have HSP := split_any A4 c4 _ w4 hi4 (by rw [wordsL_len, List.length_drop]; have := HK.out.table.2.1; omega)
         rw [HP.out] at HSP
         obtain ⟨n4, hn4⟩ : ∃ n, (wordsL (s.table.drop 1)).length = n := ⟨_, rfl⟩
         rw [hn4] at hv4 HSP
         subst hv4
         have HSP1 := Hide.mk HSP
         have S4 := Hide.mk (HS.out.below hb4)
         have B4 := Hide.mk hb4
         clear ho hb4 hi4 hge4 hn4 HSP; (try clear hcap))
      | (go_at_call 45; with_reducible refine HSP1.out.mono ?_; rintro e w5 ⟨A5, c5, rfl, hp5, hb5⟩
         have S5 := Hide.mk (S4.out.below hb5)
         have P5 := Hide.mk (hp5 F.own S4.out.lts)
         have B5 := Hide.mk (B4.out.trans (hb5.mono B4.out.size))
         have c3 := S5.out.cells.c3
         clear hp5 hb5)
      | (go_at_call 46; refine (Given.make_any s.root.blocks _).mono ?_; rintro e w6 ⟨v6, rfl, ho, hb6⟩
         rw [show List.replicate (Given.clampN s.root.blocks) 0 = emptyB s.root.blocks from rfl] at ho
         obtain ⟨A6, c6, hv6, hi6, hge6⟩ := In.of_own ho
         have HSP := split_any A6 c6 _ w6 hi6 (by rw [emptyB_len]; have := clampN_le s.root.blocks; omega)
         rw [HM.out] at HSP
         obtain ⟨n6, hn6⟩ : ∃ n, (emptyB s.root.blocks).length = n := ⟨_, rfl⟩
         rw [hn6] at hv6 HSP
         subst hv6
         have HSP2 := Hide.mk HSP
         have S6 := Hide.mk (S5.out.below hb6)
         have B6 := Hide.mk hb6
         clear ho hb6 hi6 hge6 hn6 HSP)
      | (go_at_call 45; with_reducible refine HSP2.out.mono ?_; rintro e w7 ⟨A7, c7, rfl, hp7, hb7⟩
         have S7 := Hide.mk (S6.out.below hb7)
         have B7 := Hide.mk (B6.out.trans (hb7.mono B6.out.size))
         have HLO := lowest_any (P.length + M.length) (by have := HPM.out; omega) F s w7 S7.out HK.out
         rw [show ((P.length + M.length : Nat) : Int) = (P.length : Int) + (M.length : Int) by omega] at HLO
         have HLOW := Hide.mk HLO
         clear hp7 hb7 HLO)
      | (go_at_call 65; refine HLOW.out.mono ?_; rintro e w8 ⟨v8, rfl, ho, hb8⟩; rw [HL.out] at ho ⊢
         obtain ⟨A8, c8, hv8, hi8, hge8⟩ := In.of_own ho
         have hv8' : v8 = .slice A8 l.length c8 := hv8
         subst hv8'
         have S8 := Hide.mk (S7.out.below hb8)
         have I8 := Hide.mk (show In .i64 w8 A8 l c8 from hi8)
         have GE8 := Hide.mk (show ∀ a, A8 = some a → w7.heap.size ≤ a.block from hge8)
         have B8 := Hide.mk hb8
         have c2 := S8.out.cells.c2
         clear ho hb8 hi8 hge8 hv8))
          go_ret
          have hR := HRR.out
          rw [if_pos (by assumption)] at hR
          rw [← hR]
          exact ⟨rfl, F, S8.out, Goes.below ((B5.out.trans (B7.out.mono B5.out.size)).trans (B8.out.mono (Nat.le_trans B5.out.size B7.out.size)))⟩
        · have HE := Hide.mk he
          go_enter Tryz.func21, Tryz.ntmps21
          go_wp2_with (first
      | (go_at_call 63; refine HA.out.mono ?_; rintro e w0 ⟨rfl, hw0⟩; obtain rfl : w = w0 := hw0.symm; clear hw0)
      | (go_at_call 67; refine HWO.out.mono ?_; rintro e w4 ⟨v4, rfl, ho, hb4⟩
         obtain ⟨A4, c4, hv4, hi4, hge4⟩ := In.of_own ho
         have HSP := split_any A4 c4 _ w4 hi4 (by rw [wordsL_len, List.length_drop]; have := HK.out.table.2.1; omega)
         rw [HP.out] at HSP
         obtain ⟨n4, hn4⟩ : ∃ n, (wordsL (s.table.drop 1)).length = n := ⟨_, rfl⟩
         rw [hn4] at hv4 HSP
         subst hv4
         have HSP1 := Hide.mk HSP
         have S4 := Hide.mk (HS.out.below hb4)
         have B4 := Hide.mk hb4
         clear ho hb4 hi4 hge4 hn4 HSP; (try clear hcap))
      | (go_at_call 45; with_reducible refine HSP1.out.mono ?_; rintro e w5 ⟨A5, c5, rfl, hp5, hb5⟩
         have S5 := Hide.mk (S4.out.below hb5)
         have P5 := Hide.mk (hp5 F.own S4.out.lts)
         have B5 := Hide.mk (B4.out.trans (hb5.mono B4.out.size))
         have c3 := S5.out.cells.c3
         clear hp5 hb5)
      | (go_at_call 46; refine (Given.make_any s.root.blocks _).mono ?_; rintro e w6 ⟨v6, rfl, ho, hb6⟩
         rw [show List.replicate (Given.clampN s.root.blocks) 0 = emptyB s.root.blocks from rfl] at ho
         obtain ⟨A6, c6, hv6, hi6, hge6⟩ := In.of_own ho
         have HSP := split_any A6 c6 _ w6 hi6 (by rw [emptyB_len]; have := clampN_le s.root.blocks; omega)
         rw [HM.out] at HSP
         obtain ⟨n6, hn6⟩ : ∃ n, (emptyB s.root.blocks).length = n := ⟨_, rfl⟩
         rw [hn6] at hv6 HSP
         subst hv6
         have HSP2 := Hide.mk HSP
         have S6 := Hide.mk (S5.out.below hb6)
         have B6 := Hide.mk hb6
         clear ho hb6 hi6 hge6 hn6 HSP)
      | (go_at_call 45; with_reducible refine HSP2.out.mono ?_; rintro e w7 ⟨A7, c7, rfl, hp7, hb7⟩
         have S7 := Hide.mk (S6.out.below hb7)
         have B7 := Hide.mk (B6.out.trans (hb7.mono B6.out.size))
         have HLO := lowest_any (P.length + M.length) (by have := HPM.out; omega) F s w7 S7.out HK.out
         rw [show ((P.length + M.length : Nat) : Int) = (P.length : Int) + (M.length : Int) by omega] at HLO
         have HLOW := Hide.mk HLO
         clear hp7 hb7 HLO)
      | (go_at_call 65; refine HLOW.out.mono ?_; rintro e w8 ⟨v8, rfl, ho, hb8⟩; rw [HL.out] at ho ⊢
         obtain ⟨A8, c8, hv8, hi8, hge8⟩ := In.of_own ho
         have hv8' : v8 = .slice A8 l.length c8 := hv8
         subst hv8'
         have S8 := Hide.mk (S7.out.below hb8)
         have I8 := Hide.mk (show In .i64 w8 A8 l c8 from hi8)
         have GE8 := Hide.mk (show ∀ a, A8 = some a → w7.heap.size ≤ a.block from hge8)
         have B8 := Hide.mk hb8
         have c2 := S8.out.cells.c2
         clear ho hb8 hi8 hge8 hv8))
          have hll : l.length = P.length + M.length := HLF.out.1
          obtain ⟨g8, off8, rfl⟩ := atI I8.out (by have := HPM.out; omega)
          have SD := Hide.mk (S8.out.below (below_drew (Below.refl w8.heap.size w8)))
          have KC := SD.out.cells
          have hep := HK.out.epoch
          have hep2 := HE.out
          have hc8 := I8.out.room
          have hm1 := HPM.out.2.2
          have hcap2 := hmx.1
          rw [hll] at hc8
          have hb1 : P.length ≤ c8 := by omega
          have hb2 : P.length < c8 := by omega
          have hb3 : (P.length : Int) ≤ (P.length : Int) + (M.length : Int) := by omega
          have hb4 : (P.length : Int) ≤ (c8 : Int) := by omega
          have hb5 : (P.length : Int) + (M.length : Int) ≤ (c8 : Int) := by omega
          have hb6 : (P.length : Int) + (M.length : Int) - (P.length : Int) = (M.length : Int) := by omega
          have hw1 : wrap64 (s.root.epoch + 1) = s.root.epoch + 1 := wrap_ok (by omega) (by omega)
          have hw2 : wrap64 ((s.table.length : Int) - 1) = (s.table.length : Int) - 1 := wrap_ok (by omega) (by omega)
          have hbne : ¬ c8 = P.length := by omega
          have hb7 : P.length + M.length - P.length = M.length := by omega
          obtain ⟨br, hbr⟩ : ∃ br, w8.drew.heap.size = br := ⟨_, rfl⟩
          refine s_ 34 (fun w' => ShCells w' F s) tab21_13 bits21_13 KC (fun hHeld HT_ HW_ => ?_)
          refine p_ 0 67 ?_
          refine p_ 1 68 ?_
          refine p_ 2 69 ?_
          refine p_ 3 70 ?_
          refine t_ 4 71 hHeld ?_ (hy := by
              intro w' hS'
              have s1 := hS'.c2
              go_simp
              rfl)
          refine p_ 5 72 ?_
          refine p_ 6 73 ?_
          refine p_ 7 74 ?_
          refine p_ 8 75 ?_
          refine p_ 9 76 ?_
          refine t_ 10 77 hHeld ?_ (hy := by
              intro w' hS'
              have s1 := hS'.c3
              go_simp
              rfl)
          refine p_ 11 78 ?_
          refine p_ 12 79 ?_
          refine p_ 13 80 ?_
          refine p_ 14 81 ?_
          refine t_ 15 82 hHeld ?_ (hy := by
              intro w' hS'
              have s1 := hS'.c10
              go_simp
              rfl)
          refine p_ 16 83 ?_
          refine p_ 17 84 ?_
          refine p_ 18 85 ?_
          refine p_ 19 86 ?_
          refine p_ 20 87 ?_
          refine p_ 21 88 ?_
          refine t_ 22 89 hHeld ?_ (hy := by
              intro w' hS'
              have s1 := hS'.c11
              go_simp
              rfl)
          refine p_ 23 90 ?_
          refine p_ 24 91 ?_
          refine p_ 25 92 ?_
          refine p_ 26 93 ?_
          refine p_ 27 94 ?_
          refine p_ 28 95 ?_
          refine p_ 29 96 ?_
          refine p_ 30 97 ?_
          refine p_ 31 98 ?_
          refine n_ 32 (some 9) (fun K hK => ?_)
          have hBa := (Below.refl w8.drew.heap.size w8.drew).alloc (Nat.le_refl _) (.cells #[.int .i64 0, .int .i64 0, .int .i64 0, .int .i64 0, .slice none 0 0, .slice none 0 0] 68)
          have KC1 := (SD.out.below hBa).cells
          refine value_ (v := .pointer (some ⟨w8.drew.heap.size, 0, none⟩)) (w1 := w8.drew.alloc (.cells #[.int .i64 0, .int .i64 0, .int .i64 0, .int .i64 0, .slice none 0 0, .slice none 0 0] 68)) (by rfl) rfl ?_ ?_
          · first | (go_simp; done) | (go_simp; rfl)
          refine k_ hK KC1 (fun hHeld => ?_)
          clear hK K
          refine n_ 33 none (fun K hK => ?_)
          obtain ⟨wr, hwr, rowr, hBr⟩ := stage_rootrow (w := w8.drew) (cs := #[.int .i64 (s.root.epoch + 1), .int .i64 s.root.blocks, .int .i64 ((s.table.length : Int) - 1), .int .i64 s.start, .slice (some ⟨g8, off8, none⟩) P.length c8, .slice (some ⟨g8, off8 + P.length, none⟩) M.length (c8 - P.length)])
          have KC2 := (SD.out.below hBr).cells
          refine skip_ (w1 := wr) (by rfl) rfl ?_ ?_
          · rw [← hwr]; refine exec_storeR (heap_last _ _) (by rfl) (by rfl) ?_ (by rfl) (by rfl) (by simp [Value.oneCell']); (conv => lhs; whnf); (try rw [hw1, hw2, if_neg hbne])
          refine hK.out _ _ KC2 (fun hHeld => ?_)
          clear hK K
          refine d_ ?_
          clear KC KC1 KC2 hHeld hBa
          rw [hbr] at rowr ⊢
          have hoffb : ¬ br ∈ F.own := fun hx => by have := SD.out.lts _ hx; omega
          have BD := below_drew (Below.refl w8.heap.size w8)
          have m8r : Moves [] w8 wr := (Moves.of_below BD []).trans (Moves.of_below hBr [])
          have m5r : Moves [] w5 wr := (Moves.of_below B7.out []).trans ((Moves.of_below B8.out []).trans m8r)
          have m0r : Moves [] w wr := (Moves.of_below B5.out []).trans m5r
          have SR := SD.out.below hBr
          have PR := P5.out.moves m5r (by simp)
          have IR : In .i64 wr (some ⟨g8, off8, none⟩) l c8 := I8.out.moves m8r (by simp)
          have hlt : (l.take P.length).length = P.length := by rw [List.length_take]; omega
          have hld : (l.drop P.length).length = M.length := by rw [List.length_drop]; omega
          have GE8W : Hide (w.heap.size ≤ g8) := ⟨Nat.le_trans B5.out.size (Nat.le_trans B7.out.size (GE8.out ⟨g8, off8, none⟩ rfl))⟩
          have hg8 : ∀ a, (some ⟨g8, off8, none⟩ : Option Addr) = some a → ¬ a.block ∈ F.own := fun a ha hx => by have := GE8.out a ha; have := S7.out.lts _ hx; omega
          have hg9 : ∀ a, (some ⟨g8, off8 + P.length, none⟩ : Option Addr) = some a → ¬ a.block ∈ F.own := fun a ha => by cases ha; exact hg8 ⟨g8, off8, none⟩ rfl
          have IT : In .i64 wr (some ⟨g8, off8, none⟩) (l.take P.length) c8 := IR.take P.length c8 (by omega) hb1
          have IM : In .i64 wr (some ⟨g8, off8 + P.length, none⟩) (l.drop P.length) (c8 - P.length) := IR.fromI P.length (by omega)
          have hwf : ∀ n ∈ l, MapFn.wf n := fun n hn => wf_small (HLF.out.2 n hn).1 (HLF.out.2 n hn).2
          obtain ⟨r, hr⟩ : ∃ r, s.next P.length l = r := ⟨_, rfl⟩
          have hrT : r.tables = l.take P.length := by rw [← hr]; rfl
          have hrM : r.maps = l.drop P.length := by rw [← hr]; rfl
          have hrB : r.blocks = s.root.blocks := by rw [← hr]; rfl
          have hrE : r.epoch = s.root.epoch + 1 := by rw [← hr]; rfl
          have hrN : r.next = (s.table.length : Int) - 1 := by rw [← hr]; rfl
          have hrS : r.start = s.start := by rw [← hr]; rfl
          have RI : RootIn wr r (some ⟨g8, off8, none⟩) c8 (some ⟨g8, off8 + P.length, none⟩) (c8 - P.length) F.own := ⟨by rw [hrT]; exact IT, by rw [hrM]; exact IM, hg8, hg9, by rw [hrT, hrM, hlt, hld]; have := HPM.out; omega, by rw [hrB]; have := HK.out.blocks; omega⟩
          have hval : r.val (some ⟨g8, off8, none⟩) c8 (some ⟨g8, off8 + P.length, none⟩) (c8 - P.length) = .agg #[.int .i64 (s.root.epoch + 1), .int .i64 s.root.blocks, .int .i64 ((s.table.length : Int) - 1), .int .i64 s.start, .slice (some ⟨g8, off8, none⟩) P.length c8, .slice (some ⟨g8, off8 + P.length, none⟩) M.length (c8 - P.length)] := by
            unfold Root.val
            rw [hrT, hrM, hrB, hrE, hrN, hrS, hlt, hld]
          have hch : r.check = 0 := by rw [← hr]; exact HNX.out l HL.out (by have := HE.out; omega)
          have hPb : ∀ p ∈ P, Bytes p := by rw [← HP.out]; exact splitL_bytes (wordsL_bytes _)
          have L10 := lay_any 1 A5 c5 P (some ⟨g8, off8, none⟩) c8 (l.take P.length) wr F s SR PR IT hg8 (by omega) (by have := HPM.out; omega) (fun n hn => hwf n (List.mem_of_mem_take hn)) hPb
          rw [hlt] at L10
          obtain ⟨s1, e1, hL1⟩ : ∃ s1 e1, s.lay 1 P (l.take P.length) = (s1, e1) := ⟨_, _, rfl⟩
          obtain ⟨D1, b1, hk1⟩ := layF_keeps 1 (l.take P.length) P 0 s
          rw [show Sh.layF 1 (l.take P.length) P 0 s = s.lay 1 P (l.take P.length) from rfl, hL1] at hk1
          rw [hL1] at L10
          have L1 := Hide.mk L10
          obtain ⟨U, hU⟩ : ∃ U, splitL 246 (usedL r s.table) = U := ⟨_, rfl⟩
          have hUM : U.length = M.length := by rw [← hU, ← HM.out, splitL_num, splitL_num, usedL_clamp, emptyB_len, hrB]
          obtain ⟨s2, e2, hL2⟩ : ∃ s2 e2, s1.lay 2 U (l.drop P.length) = (s2, e2) := ⟨_, _, rfl⟩
          obtain ⟨D2, b2, hk2⟩ := layF_keeps 2 (l.drop P.length) U 0 s1
          rw [show Sh.layF 2 (l.drop P.length) U 0 s1 = s1.lay 2 U (l.drop P.length) from rfl, hL2] at hk2
          obtain ⟨s3, e3, hL3⟩ : ∃ s3 e3, s2.crown r = (s3, e3) := ⟨_, _, rfl⟩
          obtain ⟨D3, b3, hk3⟩ := crown_keeps s2 r
          rw [hL3] at hk3
          have ht1 : s1.table = s.table := by rw [show s1 = _ from hk1]
          have ht2 : s2.table = s.table := by rw [show s2 = _ from hk2]; exact ht1
          have ht3 : s3.table = s.table := by rw [show s3 = _ from hk3]; exact ht2
          have hR := HRR.out
          rw [if_neg (by have := HE.out; omega)] at hR
          simp only [hr, hrT, hrM, hU, hL1, hL2, hL3] at hR
          have HR1 := Hide.mk hR
          have HU := Hide.mk hU
          have HUM := Hide.mk (And.intro hUM (show M.length ≤ 512 from HPM.out.2.1))
          have HT := Hide.mk (And.intro ht1 (And.intro ht2 ht3))
          have HRI0 := Hide.mk RI
          have HOFFM := Hide.mk hg9
          have HDL := Hide.mk hld
          have HWFM : Hide (∀ n ∈ l.drop P.length, MapFn.wf n) := ⟨fun n hn => hwf n (List.mem_of_mem_drop hn)⟩
          have HUB2 : Hide (∀ p ∈ U, Bytes p) := ⟨by rw [← hU]; exact splitL_bytes (usedL_bytes _ _)⟩
          have HLL2 := Hide.mk hL2
          have HLL3 := Hide.mk hL3
          have HBRO := Hide.mk hoffb
          have HCH := Hide.mk hch
          have HVAL := Hide.mk hval
          have HG0 := Hide.mk (Goes.below (F := F) m0r.below)
          have HROW := Hide.mk rowr
          have HRM := Hide.mk hrM
          have k4 := cell_of (i := 4) rowr
          simp at k4
          have HB := Hide.mk (And.intro hb1 hb2)
          have HRS : Hide (r.tables.length + r.maps.length ≤ 1000) := ⟨by rw [hrT, hrM, hlt, hld]; have := HPM.out; omega⟩
          clear hoffb BD m8r m5r m0r SR PR IR hg8 hg9 IT IM hwf RI hval hch hPb L10 hU hUM hL1 hL2 hL3 hk1 hk2 hk3 ht1 ht2 ht3 hR rowr hBr hw1 hw2 hbne hb1 hb2 hb3 hb4 hb5 hb6 hb7 hc8 hll hrT hrM hrB hrE hrN hrS hr hlt hld hep hep2 hm1 hcap2 hwr hbr
          by_cases he1 : e1 = 0
          · subst he1
            go_wp2_with (go_at_call 48; (try with_reducible refine L1.out.mono ?_); rintro e w9 ⟨rfl, hs9, hg9⟩; have S9 := Hide.mk hs9; have G9 := Hide.mk hg9; clear hs9 hg9)
            have B9D := below_drew (Below.refl w9.heap.size w9)
            have SLD := Hide.mk (S9.out.below B9D)
            have row9 := (G9.out.moves.block br (lt_of_row HROW.out) HBRO.out).trans HROW.out
            have HRI9 := HRI0.out.moves G9.out.moves (fun x hx => .inl hx)
            have HRI := Hide.mk (HRI9.moves (Moves.of_below B9D []) (by simp))
            have TAB := SLD.out.table.in_
            rw [HT.out.1] at TAB
            have HUB0 := usedBy_any r s.table (some ⟨F.g, 0, none⟩) F.cap c8 (c8 - P.length) (some ⟨g8, off8, none⟩) (some ⟨g8, off8 + P.length, none⟩) w9.drew HRI.out.tables HRI.out.maps TAB (by have := HRS.out; omega)
            rw [HVAL.out] at HUB0
            have HUB := Hide.mk HUB0
            have H9 := Hide.mk (And.intro B9D HRI9)
            have KD : w9.drew.heap[br]? = _ ∧ w9.drew.cell? ⟨F.p, 10, none⟩ = some (.slice (some ⟨F.g, 0, none⟩) s.table.length F.cap) := And.intro (show w9.drew.heap[br]? = _ from row9) (by have := SLD.out.cells.c10; rw [HT.out.1] at this; exact this)
            clear row9 HRI9 TAB HUB0 B9D k4
            refine s_ 13 (fun w' => w'.heap[br]? = some (.cells #[.int .i64 (s.root.epoch + 1), .int .i64 s.root.blocks, .int .i64 ((s.table.length : Int) - 1), .int .i64 s.start, .slice (some ⟨g8, off8, none⟩) P.length c8, .slice (some ⟨g8, off8 + P.length, none⟩) M.length (c8 - P.length)] 68 (0, 0)) ∧ w'.cell? ⟨F.p, 10, none⟩ = some (.slice (some ⟨F.g, 0, none⟩) s.table.length F.cap)) tab21_17 bits21_17 KD (fun hHeld HT_ HW_ => ?_)
            refine p_ 0 107 ?_
            refine t_ 1 108 hHeld ?_ (hy := by
                intro w' hS'
                refine exec_loadR (x := .tmp 9) ?_ ?_ hS'.1
                · rfl
                · rfl)
            refine p_ 2 109 ?_
            refine p_ 3 110 ?_
            refine p_ 4 111 ?_
            refine p_ 5 112 ?_
            refine t_ 6 113 hHeld ?_ (hy := by
                intro w' hS'
                have s1 := hS'.2
                go_simp
                rfl)
            refine p_ 9 116 ?_
            refine t_ 10 117 hHeld ?_ (hy := by
                intro w' hS'
                have s1 := cell_of (i := 5) hS'.1
                simp at s1
                go_simp
                rfl)
            refine n_ 7 (some 114) (fun K hK => ?_)
            refine g_ Tryz.func49 #[.agg #[.int .i64 (s.root.epoch + 1), .int .i64 s.root.blocks, .int .i64 ((s.table.length : Int) - 1), .int .i64 s.start, .slice (some ⟨g8, off8, none⟩) P.length c8, .slice (some ⟨g8, off8 + P.length, none⟩) M.length (c8 - P.length)], .slice (some ⟨F.g, 0, none⟩) s.table.length F.cap] ?_
            with_reducible refine HUB.out.mono ?_
            rintro e wA ⟨vA, rfl, ho, hb⟩
            obtain ⟨AA, cA, hvA, hiA, hgeA⟩ := In.of_own ho
            have HSPA0 := split_any AA cA (usedL r s.table) wA hiA (by have := usedL_len r s.table; omega)
            rw [HU.out] at HSPA0
            obtain ⟨nA, hnA⟩ : ∃ n, (usedL r s.table).length = n := ⟨_, rfl⟩
            rw [hnA] at hvA HSPA0
            subst hvA
            have HSPA := Hide.mk HSPA0
            have SA := Hide.mk (SLD.out.below hb)
            have KDA := And.intro ((hb.block br (lt_of_row KD.1)).trans KD.1) (pw_cell_below hb KD.2)
            have BA := Hide.mk hb
            refine ⟨_, rfl, ?_⟩
            clear ho hb hiA hgeA hnA HSPA0
            refine k_ hK KDA (fun hHeld => ?_)
            clear hK K
            refine n_ 8 (some 115) (fun K hK => ?_)
            refine g_ Tryz.func45 #[.slice AA nA cA, .int .i64 246] ?_
            with_reducible refine HSPA.out.mono ?_
            rintro e wB ⟨AB, cB, rfl, hp, hb⟩
            have SB := Hide.mk (SA.out.below hb)
            have PB := Hide.mk (hp F.own SA.out.lts)
            have KDB := And.intro ((hb.block br (lt_of_row KDA.1)).trans KDA.1) (pw_cell_below hb KDA.2)
            have BB := Hide.mk (BA.out.trans (hb.mono BA.out.size))
            have HL20 := lay_any 2 AB cB U (some ⟨g8, off8 + P.length, none⟩) (c8 - P.length) (l.drop P.length) wB F _ SB.out PB.out (by have := (((HRI.out.moves (Moves.of_below BA.out []) (by simp)).moves (Moves.of_below hb []) (by simp)).maps); rw [HRM.out] at this; exact this) HOFFM.out (by rw [HDL.out]; have := HUM.out; omega) (by have := HUM.out; omega) HWFM.out HUB2.out
            rw [HDL.out, HLL2.out] at HL20
            have HL2 := Hide.mk HL20
            refine ⟨_, rfl, ?_⟩
            clear hp hb HL20
            refine k_ hK KDB (fun hHeld => ?_)
            clear hK K
            refine n_ 11 (some 118) (fun K hK => ?_)
            refine g_ Tryz.func48 #[.pointer (some ⟨F.p, 0, none⟩), .int .i64 2, .slice AB U.length cB, .slice (some ⟨g8, off8 + P.length, none⟩) M.length (c8 - P.length)] ?_
            with_reducible refine HL2.out.mono ?_
            rintro e wC ⟨rfl, hsC, hgC⟩
            have SC := Hide.mk hsC
            have GC := Hide.mk hgC
            have KDC := And.intro ((hgC.moves.block br (lt_of_row KDB.1) HBRO.out).trans KDB.1) (show wC.cell? ⟨F.p, 10, none⟩ = some (.slice (some ⟨F.g, 0, none⟩) s.table.length F.cap) from by have := hsC.cells.c10; rw [HT.out.2.1] at this; exact this)
            refine ⟨_, rfl, ?_⟩
            clear hsC hgC
            refine k_ hK KDC (fun hHeld => ?_)
            clear hK K
            refine p_ 12 11 ?_
            refine d_ ?_
            clear KD KDA KDB hHeld
            have hgt : Goes F F w9 wC := (Goes.below (H9.out.1.trans (BB.out.mono H9.out.1.size))).trans GC.out
            have GT := Hide.mk ((HG0.out.trans G9.out).trans hgt)
            have HRC := Hide.mk (H9.out.2.moves hgt.moves (fun x hx => .inl hx))
            have k0 := cell_of (i := 0) KDC.1
            have k1 := cell_of (i := 1) KDC.1
            have k2 := cell_of (i := 2) KDC.1
            have k3 := cell_of (i := 3) KDC.1
            have k4 := cell_of (i := 4) KDC.1
            have k5 := cell_of (i := 5) KDC.1
            simp at k0 k1 k2 k3 k4 k5
            have HKC := Hide.mk KDC.1
            have HCR0 := crown_any r (some ⟨g8, off8, none⟩) c8 (some ⟨g8, off8 + P.length, none⟩) (c8 - P.length) wC F s2 SC.out HRC.out HCH.out
            rw [HVAL.out, HLL3.out] at HCR0
            have HCR := Hide.mk HCR0
            clear hgt KDC HCR0
            by_cases he2 : e2 = 0
            · subst he2
              by_cases he3 : e3 = 0
              · subst he3
                go_wp2_with (first
                  | (go_at_call 50; refine HCR.out.mono ?_; rintro e wD ⟨rfl, F3, hs, hg⟩
                     have S3 := Hide.mk hs
                     have G3 := Hide.mk hg
                     have rowD := (hg.moves.block br (lt_of_row HKC.out) HBRO.out).trans HKC.out
                     have m0 := cell_of (i := 0) rowD
                     have m1 := cell_of (i := 1) rowD
                     have m2 := cell_of (i := 2) rowD
                     have m3 := cell_of (i := 3) rowD
                     have m4 := cell_of (i := 4) rowD
                     have m5 := cell_of (i := 5) rowD
                     simp at m0 m1 m2 m3 m4 m5
                     have HSE0 := settle_any r (some ⟨g8, off8, none⟩) c8 (some ⟨g8, off8 + P.length, none⟩) (c8 - P.length) wD F3 s3 hs (HRC.out.foot hg) (by rw [HT.out.2.2]; omega) (by have := HRS.out; omega)
                     rw [HVAL.out, hg.p] at HSE0
                     have HSE := Hide.mk HSE0
                     clear hs hg rowD HSE0)
                  | (go_at_call 51; with_reducible refine HSE.out.mono ?_; rintro e wE ⟨rfl, F4, hs, hg, hsl⟩; have S4' := Hide.mk hs; have G4 := Hide.mk hg; have SL4 := Hide.mk hsl; clear hs hg hsl))
                go_ret
                have hR := HR1.out
                rw [if_neg (by simp), if_neg (by simp), if_neg (by simp)] at hR
                rw [← hR]
                exact ⟨rfl, F4, S4'.out, (GT.out.trans G3.out).close G4.out (SL4.out _ (GT.out.trans G3.out).moves.size (fun a ha => by cases ha; exact GE8W.out) (fun a ha => by cases ha; exact GE8W.out))⟩
              · have q : (e3 != 0) = true := by simp [he3]
                have HE3 := Hide.mk he3
                clear he3
                go_wp2_with (go_at_call 50; refine HCR.out.mono ?_; rintro e wD ⟨rfl, F3, hs, hg⟩; have S3 := Hide.mk hs; have G3 := Hide.mk hg; clear hs hg)
                go_ret
                have hR := HR1.out
                rw [if_neg (by simp), if_neg (by simp), if_pos HE3.out] at hR
                rw [← hR]
                exact ⟨rfl, F3, S3.out, GT.out.trans G3.out⟩
            · have q : (e2 != 0) = true := by simp [he2]
              have HE2 := Hide.mk he2
              clear he2
              go_wp2
              go_ret
              have hR := HR1.out
              rw [if_neg (by simp), if_pos HE2.out] at hR
              rw [← hR]
              exact ⟨rfl, F, SC.out, GT.out⟩
          · have q : (e1 != 0) = true := by simp [he1]
            have HE1 := Hide.mk he1
            clear he1
            go_wp2_with (go_at_call 48; (try with_reducible refine L1.out.mono ?_); rintro e w9 ⟨rfl, hs9, hg9⟩; have S9 := Hide.mk hs9; have G9 := Hide.mk hg9; clear hs9 hg9)
            go_ret
            have hR := HR1.out
            rw [if_pos HE1.out] at hR
            rw [← hR]
            exact ⟨rfl, F, S9.out, HG0.out.trans G9.out⟩
  · rw [if_pos h0] at hR
    have q : (a != 0) = true := by simp [h0]
    clear h0
    go_enter Tryz.func21, Tryz.ntmps21
    go_wp2_with (go_at_call 63; refine HA.out.mono ?_; rintro e w0 ⟨rfl, hw0⟩; obtain rfl : w = w0 := hw0.symm)
    go_ret
    rw [← hR]
    exact ⟨rfl, F, HS.out, Goes.refl _ _⟩
theorem commit_any (w : World) (F : Foot) (s : Sh) (h : ShAt w F s) (hk : Ok s) (hmp : 1 ≤ mapsOf s.root.blocks)
    (hnx : ∀ l, s.lowest ((splitL 246 (wordsL (s.table.drop 1))).length + mapsOf s.root.blocks) = some l → s.root.epoch < 1099511627776 → (s.next (splitL 246 (wordsL (s.table.drop 1))).length l).check = 0) :
    Calls Tryz.prog 21 #[.pointer (some ⟨F.p, 0, none⟩)] w fun e w' => e = .returned (.int .i64 s.commit.2) ∧ ∃ F', ShAt w' F' s.commit.1 ∧ Goes F F' w w' := by
  by_cases hc : F.cap = 1
  · exact commit_eq w F s h hk hmp hc hnx
  · exact commit_ne w F s h hk hmp (by have := (tab_max h.table).1; have := hk.table.1; omega) hnx
end Go.Proofs.YtplkndmkchpcdaaGreat.Sh
end
section
namespace Go.Proofs.YtplkndmkchpcdaaGreat.Sh
open Go.RowKit YtplkndmkchpcdaaGreatW.PrintWords YtplkndmkchpcdaaGreatW.PrintLast YtplkndmkchpcdaaGreatW.PrintMore MapFn Disk Bitset Page
set_option maxHeartbeats 16000000
set_option maxRecDepth 100000
def ptrOf (e : Int) (p : Nat) : Value := .pointer (if e = 0 then some ⟨p, 0, none⟩ else none)
theorem ptrOf_bad {e : Int} (h : ¬ e = 0) (p : Nat) : ptrOf e p = .pointer none := by unfold ptrOf; rw [if_neg h]
theorem ptrOf_ok (p : Nat) : ptrOf 0 p = .pointer (some ⟨p, 0, none⟩) := rfl
theorem mapsOf_num (b : Int) : mapsOf b = (Given.clampN b + 245) / 246 := by unfold mapsOf; rw [splitL_num, emptyB_len]
theorem mapsOf_3 (b : Int) : mapsOf b ≤ 3 := by rw [mapsOf_num]; have := clampN_le b; omega
def mapsL (k : Nat) : List Int := (List.range k).map fun i => ((2 + i : Nat) : Int)
theorem mapsL_len (k : Nat) : (mapsL k).length = k := by simp [mapsL]
theorem mapsL_succ (k : Nat) : mapsL (k + 1) = mapsL k ++ [2 + (k : Int)] := by simp [mapsL, List.range_succ]
theorem firstRoot_maps (b : Int) : (firstRoot b).maps = mapsL (mapsOf b) := rfl
theorem mapsL_each {k : Nat} {n : Int} (h : n ∈ mapsL k) : 2 ≤ n ∧ n < 2 + (k : Int) := by
  simp only [mapsL, List.mem_map, List.mem_range] at h
  obtain ⟨i, hi, rfl⟩ := h
  omega
theorem firstRoot_check {N : Int} (h : N ≤ 4096) (h3 : ¬ N < 3 + (mapsOf N : Int)) : (firstRoot N).check = 0 := by
  have hm := mapsOf_3 N
  unfold Root.check
  have e1 : inside N 2 4096 = true := by unfold inside; simp; omega
  rw [if_neg (by show ¬ ((inside 0 0 1099511627776 && inside N 2 4096 && inside 0 0 3000 && inside 0 0 0) = false); rw [e1]; decide), if_neg (by rw [firstRoot_maps, mapsL_len]; simp [firstRoot]; omega), if_neg]
  simp only [Bool.not_eq_false, List.all_eq_true, List.mem_append]
  intro n hn
  rcases hn with hn | hn
  · cases hn
  · have := mapsL_each (show n ∈ mapsL (mapsOf N) from hn)
    show (decide (2 ≤ n) && decide (n ≤ N - 1)) = true
    simp
    omega
def z256 : List Int := zeros
theorem make256 (W : World) : (Instr.makeSlice 22 (.int .i64 256) (.int .i64 256)).run Tryz.prog W = .ok (.slice (some ⟨W.heap.size, 0, none⟩) 256 256) (W.alloc (.cells (encB zeros) 5)) := by
  obtain ⟨i0, hi, hzz⟩ := Option.map_eq_some_iff.1 info5
  simp only [Prod.mk.injEq] at hzz
  obtain ⟨h1, h2, h3⟩ := hzz
  have := run_make (P := Tryz.prog) (w := W) 22 5 i0 (.int .u8 0) Tryz.underlying22 hi h1 .i64 .i64 256 256 (by omega) (by omega) (by rw [h3]; decide) (by decide)
  rw [h2, show Int.toNat 256 = 256 from rfl, show madeCells (Value.int IntKind.u8 0).cells (256 * 1) = encB zeros by kernel_rfl] at this
  exact this
structure Born (F : Foot) (pd ms ml : Nat) (w w' : World) : Prop where
  epd : F.pd = pd
  ems : F.ms = ms
  ep : w.heap.size ≤ F.p
  own : ∀ x ∈ F.own, x ∈ [pd, ms, ml] ∨ w.heap.size ≤ x
  moves : Moves [pd, ms, ml] w w'
theorem Born.of_goes {F F' : Foot} {pd ms ml : Nat} {w w0 w' : World} (hb : Below w.heap.size w w0) (h : F.pd = pd ∧ F.ms = ms ∧ F.ml = ml ∧ w.heap.size ≤ F.p ∧ w.heap.size ≤ F.g) (hg : Goes0 F F' w0 w') : Born F' pd ms ml w w' := by
  obtain ⟨h1, h2, h3, h4, h5⟩ := h
  have ho : ∀ x ∈ F.own, x ∈ [pd, ms, ml] ∨ w.heap.size ≤ x := fun x hx => by
    simp only [Foot.own, List.mem_cons, List.not_mem_nil, or_false] at hx
    simp only [List.mem_cons, List.not_mem_nil, or_false]
    rcases hx with rfl | rfl | rfl | rfl | rfl
    · exact .inr h4
    · exact .inl (.inl h1)
    · exact .inl (.inr (.inl h2))
    · exact .inl (.inr (.inr h3))
    · exact .inr h5
  refine ⟨hg.pd.trans h1, hg.ms.trans h2, by rw [hg.p]; exact h4, fun x hx => ?_, ?_⟩
  · rcases hg.own x hx with q | q
    · exact ho x q
    · exact .inr (Nat.le_trans hb.size q)
  · exact ((Moves.of_below hb F.own).trans hg.moves).more ho
def T10_13 : Bool × List (List Nat × List Nat) := (true, [([], []), ([0], [0]), ([1], [1]), ([2], [2]), ([], []), ([3, 4], [3, 4]), ([5, 5, 0, 1, 2, 3, 4, 5], [5])])
def B10_13 : List Nat := [0, 1, 3, 7, 0, 31, 63]
theorem tab10_13 : rtab .any (opsOf Tryz.f10 13) = T10_13 := by kernel_rfl
theorem bits10_13 : waitsOk T10_13.2 B10_13 = true := by kernel_rfl
def T10_16 : Bool × List (List Nat × List Nat) := (true, [([], []), ([], []), ([], []), ([2], [2]), ([3], [3]), ([4], [4]), ([5], [5]), ([1, 6], [1, 6]), ([7, 7], [7]), ([], []), ([9], [9]), ([0, 8, 10, 8], [0, 8, 10]), ([11, 11, 0, 1, 2, 3, 4, 5, 6, 7, 8, 9, 10, 11], [11])])
def B10_16 : List Nat := [0, 0, 0, 4, 12, 28, 60, 126, 254, 0, 512, 2047, 4095]
theorem tab10_16 : rtab .any (opsOf Tryz.f10 16) = T10_16 := by kernel_rfl
theorem bits10_16 : waitsOk T10_16.2 B10_16 = true := by kernel_rfl
theorem format_any (pd ms ml : Nat) (D : DiskSt) (w : World) (h : DiskAt w pd ms ml D) (hN : 0 ≤ D.blocks ∧ D.blocks ≤ 4096) :
    Calls Tryz.prog 10 #[.pointer (some ⟨pd, 0, none⟩)] w fun e w' => ∃ F : Foot, e = .returned (.tuple #[ptrOf (Sh.format D).2 F.p, .int .i64 (Sh.format D).2]) ∧ ShAt w' F (Sh.format D).1 ∧ Born F pd ms ml w w' := by
  have HD := Hide.mk h
  have HOV := Hide.mk (over_any pd ms ml D w h)
  have hN2 := hN
  have HN := Hide.mk hN
  obtain ⟨R, hR⟩ : ∃ R, Sh.format D = R := ⟨_, rfl⟩
  rw [hR]
  unfold Sh.format at hR
  obtain ⟨M, hM⟩ : ∃ P, splitL 246 (emptyB D.blocks) = P := ⟨_, rfl⟩
  have HM := Hide.mk hM
  obtain ⟨k, hk⟩ : ∃ k, mapsOf D.blocks = k := ⟨_, rfl⟩
  have hMl : M.length = k := by rw [← hM, ← hk]; rfl
  have hk3 : k ≤ 3 := by rw [← hk]; exact mapsOf_3 _
  have HK := Hide.mk hk
  simp only [hk] at hR
  clear h hN hM hk
  by_cases hsm : D.blocks < 3 + (k : Int)
  · rw [if_pos hsm] at hR
    have HRR := Hide.mk hR
    clear hR
    go_enter Tryz.func10, Tryz.ntmps10
    go_wp2_with (first
      | (go_at_call 44; refine HOV.out.mono ?_; rintro e w1 ⟨F, rfl, hs, hpd, hms, hml, hb, hFp, hFg⟩
         have S1 := Hide.mk hs
         have HF := Hide.mk (show F.pd = pd ∧ F.ms = ms ∧ F.ml = ml ∧ w.heap.size ≤ F.p ∧ w.heap.size ≤ F.g from ⟨hpd, hms, hml, hFp, hFg⟩)
         have B1 := Hide.mk hb
         have HBK := Hide.mk (Blocks_any (HD.out.below hb))
         clear hs hpd hms hml hb hFp hFg)
      | (go_at_call 47; with_reducible refine HBK.out.mono ?_; rintro e w0 ⟨rfl, hw0⟩; have hw1 := hw0.symm; subst hw1)
      | (go_at_call 46; refine (Given.make_any D.blocks _).mono ?_; rintro e w2 ⟨v2, rfl, ho, hb2⟩
         rw [show List.replicate (Given.clampN D.blocks) 0 = emptyB D.blocks from rfl] at ho
         obtain ⟨A2, c2, hv2, hi2, hge2⟩ := In.of_own ho
         have HSP := split_any A2 c2 _ w2 hi2 (by rw [emptyB_len]; have := clampN_le D.blocks; omega)
         rw [HM.out] at HSP
         obtain ⟨n2, hn2⟩ : ∃ n, (emptyB D.blocks).length = n := ⟨_, rfl⟩
         rw [hn2] at hv2 HSP
         subst hv2
         have HSP2 := Hide.mk HSP
         have B2 := Hide.mk hb2
         clear ho hb2 hi2 hge2 hn2 HSP)
      | (go_at_call 45; with_reducible refine HSP2.out.mono ?_; rintro e w3 ⟨A3, c3, rfl, hp3, hb3⟩
         have B3 := Hide.mk (B2.out.trans (hb3.mono B2.out.size))
         have S3 := Hide.mk (S1.out.below B3.out)
         clear HBK
         have HBK := Hide.mk (Blocks_any (HD.out.below (B1.out.trans (B3.out.mono B1.out.size))))
         clear hp3 hb3)
)
    go_ret2
    rw [← HRR.out]
    exact ⟨F, by rw [ptrOf_bad (by show ¬ (10 : Int) = 0; decide)]; rfl, S3.out, Born.of_goes (B1.out.trans (B3.out.mono B1.out.size)) HF.out (Goes.refl _ _).toGoes0⟩
  · rw [if_neg hsm] at hR
    have HRR := Hide.mk hR
    have HSM := Hide.mk hsm
    clear hR
    go_enter Tryz.func10, Tryz.ntmps10
    go_wp2_with (first
      | (go_at_call 44; refine HOV.out.mono ?_; rintro e w1 ⟨F, rfl, hs, hpd, hms, hml, hb, hFp, hFg⟩
         have S1 := Hide.mk hs
         have HF := Hide.mk (show F.pd = pd ∧ F.ms = ms ∧ F.ml = ml ∧ w.heap.size ≤ F.p ∧ w.heap.size ≤ F.g from ⟨hpd, hms, hml, hFp, hFg⟩)
         have B1 := Hide.mk hb
         have HBK := Hide.mk (Blocks_any (HD.out.below hb))
         clear hs hpd hms hml hb hFp hFg)
      | (go_at_call 47; with_reducible refine HBK.out.mono ?_; rintro e w0 ⟨rfl, hw0⟩; have hw1 := hw0.symm; subst hw1)
      | (go_at_call 46; refine (Given.make_any D.blocks _).mono ?_; rintro e w2 ⟨v2, rfl, ho, hb2⟩
         rw [show List.replicate (Given.clampN D.blocks) 0 = emptyB D.blocks from rfl] at ho
         obtain ⟨A2, c2, hv2, hi2, hge2⟩ := In.of_own ho
         have HSP := split_any A2 c2 _ w2 hi2 (by rw [emptyB_len]; have := clampN_le D.blocks; omega)
         rw [HM.out] at HSP
         obtain ⟨n2, hn2⟩ : ∃ n, (emptyB D.blocks).length = n := ⟨_, rfl⟩
         rw [hn2] at hv2 HSP
         subst hv2
         have HSP2 := Hide.mk HSP
         have B2 := Hide.mk hb2
         clear ho hb2 hi2 hge2 hn2 HSP)
      | (go_at_call 45; with_reducible refine HSP2.out.mono ?_; rintro e w3 ⟨A3, c3, rfl, hp3, hb3⟩
         have B3 := Hide.mk (B2.out.trans (hb3.mono B2.out.size))
         have S3 := Hide.mk (S1.out.below B3.out)
         clear HBK
         have HBK := Hide.mk (Blocks_any (HD.out.below (B1.out.trans (B3.out.mono B1.out.size))))
         clear hp3 hb3)
)
    obtain ⟨w4, hw4⟩ : ∃ w4, w3.alloc (.cells #[.int .i64 0, .int .i64 D.blocks, .int .i64 0, .int .i64 0, .slice none 0 0, .slice none 0 0] 68) = w4 := ⟨_, rfl⟩
    rw [hw4]
    have row4 := heap_last w3 (.cells #[.int .i64 0, .int .i64 D.blocks, .int .i64 0, .int .i64 0, .slice none 0 0, .slice none 0 0] 68)
    rw [hw4] at row4
    have ROW4 := Hide.mk row4
    clear row4
    have B34 : Below w3.heap.size w3 w4 := by rw [← hw4]; exact (Below.refl _ _).alloc (Nat.le_refl _) _
    have hz4 : w4.heap.size = w3.heap.size + 1 := by rw [← hw4]; simp
    have S4 := Hide.mk (S3.out.below B34)
    have hown : ∀ x ∈ F.own, x < w3.heap.size := S3.out.lts
    have hoffb : ¬ w3.heap.size ∈ F.own := fun hx => by have := S3.out.lts _ hx; omega
    have BW4 := Hide.mk ((B1.out.trans (B3.out.mono B1.out.size)).trans (B34.mono (Nat.le_trans B1.out.size B3.out.size)))
    have hw3 : w.heap.size ≤ w3.heap.size := Nat.le_trans B1.out.size B3.out.size
    have hall : ∀ wr, Below w3.heap.size w4 wr → ShAt wr F (Sh.over D) ∧ Below w.heap.size w wr := fun wr hb => ⟨S3.out.below (B34.trans hb), (B1.out.trans (B3.out.mono B1.out.size)).trans ((B34.trans hb).mono hw3)⟩
    obtain ⟨br, hbr⟩ : ∃ br, w3.heap.size = br := ⟨_, rfl⟩
    rw [hbr] at ROW4 hz4 hoffb hw3 hall hown ⊢
    have HOWN := Hide.mk hown
    have HALL := Hide.mk hall
    have HZ4 := Hide.mk hz4
    have HBRO := Hide.mk hoffb
    have HW3 := Hide.mk hw3
    clear hown hall B34 hz4 hoffb hw3 hbr hw4 HBK
    go_loopw [29] (fun v29 wr => ∃ (i : Nat) (A5 : Option Addr) (c5 : Nat), v29 = .int .i64 (i : Int) ∧ Hide (i ≤ k) ∧ Hide (wr.heap[br]? = some (.cells #[.int .i64 0, .int .i64 D.blocks, .int .i64 0, .int .i64 0, .slice none 0 0, .slice A5 i c5] 68 (0, 0))) ∧ Hide (Kd.R (Kd.int .i64) 3 wr (br + 1) (fun _ => True) (.slice A5 i c5) (mapsL i)) ∧ Hide (Below br w4 wr)) (fun v29 _ => k - (intOf v29).toNat)
    case atStart => exact ⟨0, none, 0, by first | rfl | simp, ⟨Nat.zero_le _⟩, ROW4, ⟨Kd.R_nil _ _ _ _ _⟩, ⟨Below.refl _ _⟩⟩
    case round =>
      obtain ⟨i, A5, c5, rfl, hi, hrow, hO, hM⟩ := hrel
      have hilt := hi.out
      have k5 := cell_of (i := 5) hrow.out
      simp at k5
      by_cases hlt0 : i < k
      · have hlt : (i : Int) < (k : Int) := by omega
        go_wp2_with (first
          | ((with_reducible refine gate_builtin (b := .append) (xs := #[.tmp 33, .tmp 36]) rfl ?_); at_builtin
             refine Kd.R_append (Kd.int .i64) (w0 := wr) (br + 1) rfl (.tmp 33) (.tmp 36) 38 3 (.int .i64 0) 8 rfl Tryz.underlying38 infoI rfl (by decide) (by omega) (.slice A5 i c5) (mapsL i) (2 + (i : Int)) [.int .i64 (2 + (i : Int))] (fun _ => True) (fun _ => False) rfl rfl rfl (fun _ h => h.elim) (fun _ _ => trivial) hO.out (Below.refl _ _) (by have := hM.out.size; have := HZ4.out; omega) (by rw [mapsL_len]; omega) ?_
             intro v6 w6 ho hb hg hat
             rw [← mapsL_succ] at ho
             obtain ⟨A6, c6, hv6, hcc6, _⟩ := Kd.R_reads ho
             rw [mapsL_len] at hv6
             subst hv6
             have O6 := Hide.mk ho
             have B6 := Hide.mk hb
             have NE6 : Hide (some br ≠ (Value.slice A6 (i + 1) c6).ownBlock) := ⟨by
               obtain ⟨A', c', hv', _, hge'⟩ := In.of_own ho
               rw [mapsL_len] at hv'
               cases hv'
               intro e
               cases A6 with
               | none => cases e
               | some a => have := hge' a rfl; simp [Value.ownBlock] at e; omega⟩
             have row6 := (hb.block br (Nat.lt_succ_self _)).trans hrow.out
             have c5' := cell_of (i := 5) row6
             have f5' := free_of (i := 5) row6
             simp at c5'
             obtain ⟨w7, hw7, row7, hg7⟩ := stage_set (i := 5) (v := .slice A6 (i + 1) c6) row6
             have ROW7 := Hide.mk row7
             have G7 := Hide.mk hg7
             clear ho hb hg hat hcc6 row6 row7 hg7))
        go_roundw
        case rel =>
          have hB6 := B6.out.mono (Nat.le_succ br)
          exact ⟨i + 1, A6, c6, by go_num, ⟨by omega⟩, ⟨by simpa using ROW7.out⟩, ⟨Kd.R_grown1 O6.out rfl G7.out NE6.out⟩, ⟨(hM.out.trans hB6).grown G7.out (by have := hM.out.size; have := HZ4.out; have := hB6.size; omega) (fun k hk => by cases hk; exact Nat.le_refl _)⟩⟩
        case measure => simp [intOf]; omega
      · have hlt : ¬ (i : Int) < (k : Int) := by omega
        have hik : i = k := by omega
        subst hik
        obtain ⟨SW0, BW0⟩ := HALL.out wr hM.out
        have hdr := below_drew (Below.refl wr.heap.size wr)
        have SW := Hide.mk (SW0.below hdr)
        have BW := Hide.mk (BW0.trans (hdr.mono BW0.size))
        obtain ⟨E1, hE1⟩ : ∃ E, (D.write 1 zeros).2 = E := ⟨_, rfl⟩
        obtain ⟨D1, hD1⟩ : ∃ E, (D.write 1 zeros).1 = E := ⟨_, rfl⟩
        obtain ⟨s0, hs0⟩ : ∃ s0, ({ Sh.over D with D := D1 } : Sh) = s0 := ⟨_, rfl⟩
        have HED := Hide.mk (And.intro hE1 hD1)
        have hR := HRR.out
        rw [hE1, hD1, hs0] at hR
        have HR1 := Hide.mk hR
        have HS0 := Hide.mk hs0
        obtain ⟨A5', c5', hv', hi5, hge5⟩ := In.of_own hO.out
        rw [mapsL_len] at hv'
        cases hv'
        have I5 := Hide.mk (hi5.below hdr)
        have GE5 := Hide.mk hge5
        have HROW := Hide.mk (show wr.drew.heap[br]? = _ from hrow.out)
        have KC := SW.out.cells.c1
        clear SW0 BW0 hdr hE1 hD1 hs0 hR hi5 hge5 k5 hlt0
        go_wp2
        refine s_ 7 (fun w' => w'.cell? ⟨F.p, 1, none⟩ = some (.func (.func 88) #[.pointer (some ⟨F.pd, 0, none⟩)] #[])) tab10_13 bits10_13 KC (fun hHeld HT_ HW_ => ?_)
        refine p_ 0 40 ?_
        refine p_ 1 41 ?_
        refine p_ 2 42 ?_
        refine t_ 3 43 hHeld ?_
        refine n_ 4 (some 44) (fun K hK => ?_)
        obtain ⟨wm, hwm⟩ : ∃ wm, wr.drew.alloc (.cells (encB zeros) 5) = wm := ⟨_, rfl⟩
        have hBm : Below wr.drew.heap.size wr.drew wm := by rw [← hwm]; exact (Below.refl _ _).alloc (Nat.le_refl _) _
        have rowm : wm.heap[wr.drew.heap.size]? = some (.cells (encB zeros) 5 (0, 0)) := by rw [← hwm]; exact heap_last _ _
        have SM := Hide.mk (SW.out.below hBm)
        have BM := Hide.mk hBm
        have KC1 := SM.out.cells.c1
        have HW0 := write_any 1 (some ⟨wr.drew.heap.size, 0, none⟩) 256 zeros SM.out.disk (by unfold MapFn.wf; decide) (C_of_row rowm (by show 256 ≤ _; omega))
        rw [show (Sh.over D).D = D from rfl, HED.out.1, HED.out.2, show zeros.length = 256 from rfl] at HW0
        have HW := Hide.mk HW0
        clear HW0 rowm hBm
        refine value_ (v := .slice (some ⟨wr.drew.heap.size, 0, none⟩) 256 256) (w1 := wm) (by rfl) rfl ?_ ?_
        · rw [← hwm]; have hmk := make256 wr.drew; first | (go_simp; done) | (go_simp; rfl)
        refine k_ hK KC1 (fun hHeld => ?_)
        clear hK K
        refine n_ 5 (some 45) (fun K hK => ?_)
        refine goesM_ Tryz.func88 (by kernel_rfl) rfl 43 (.pointer (some ⟨F.pd, 0, none⟩)) #[.int .i64 1, .slice (some ⟨wr.drew.heap.size, 0, none⟩) 256 256] #[.pointer (some ⟨F.pd, 0, none⟩), .int .i64 1, .slice (some ⟨wr.drew.heap.size, 0, none⟩) 256 256] (by simp) (by rfl) rfl rfl (by rfl) (by (try simp only [List.map_toArray, List.map_cons, List.map_nil]); first | done | rfl) ?_
        with_reducible refine HW.out.mono ?_
        rintro e wn ⟨rfl, hd, hm⟩
        refine ⟨_, rfl, ?_⟩
        have SN := Hide.mk (SM.out.wrote hd hm)
        have KC2 := SN.out.1.cells.c1
        clear hd hm hwm
        refine k_ hK KC2 (fun hHeld => ?_)
        clear hK K
        refine p_ 6 8 ?_
        refine d_ ?_
        clear KC KC1 KC2 hHeld
        have hA : Goes F F wr.drew wn := (Goes.below BM.out).trans SN.out.2
        have S5 := SN.out.1
        rw [HS0.out] at S5
        have row5 := (hA.moves.block br (lt_of_row HROW.out) HBRO.out).trans HROW.out
        have i5 := I5.out.moves hA.moves (fun a ha hx => by have := GE5.out a ha; have := HOWN.out _ hx; omega)
        have GA := Hide.mk hA
        by_cases he1 : E1 = 0
        · subst he1
          obtain ⟨r, hr⟩ : ∃ r, firstRoot D.blocks = r := ⟨_, rfl⟩
          have hrT : r.tables = [] := by rw [← hr]; rfl
          have hrM : r.maps = mapsL i := by rw [← hr]; show mapsL (mapsOf D.blocks) = _; rw [HK.out]
          have hrB : r.blocks = D.blocks := by rw [← hr]; rfl
          have hg5 : ∀ a, A5 = some a → ¬ a.block ∈ F.own := fun a ha hx => by have := GE5.out a ha; have := HOWN.out _ hx; omega
          have RI : RootIn wn r none 0 A5 c5 F.own := ⟨by rw [hrT]; exact In.nil _ _, by rw [hrM]; exact i5, (fun a ha => by cases ha), hg5, by rw [hrT, hrM, mapsL_len]; simp; omega, by rw [hrB]; omega⟩
          have hval : r.val none 0 A5 c5 = .agg #[.int .i64 0, .int .i64 D.blocks, .int .i64 0, .int .i64 0, .slice none 0 0, .slice A5 i c5] := by
            rw [← hr]
            unfold Root.val
            rw [firstRoot_maps, HK.out, mapsL_len]
            rfl
          have hch : r.check = 0 := by rw [← hr]; exact firstRoot_check HN.out.2 (by rw [HK.out]; have := HSM.out; omega)
          have ht0 : s0.table = [0] := by rw [← HS0.out]; rfl
          obtain ⟨U, hU⟩ : ∃ U, splitL 246 (usedL r [0]) = U := ⟨_, rfl⟩
          have hUM : U.length = i := by rw [← hU, splitL_num, usedL_clamp, hrB, ← mapsOf_num]; exact HK.out
          obtain ⟨s2, e2, hL2⟩ : ∃ s2 e2, s0.lay 2 U (mapsL i) = (s2, e2) := ⟨_, _, rfl⟩
          obtain ⟨D2, b2, hk2⟩ := layF_keeps 2 (mapsL i) U 0 s0
          rw [show Sh.layF 2 (mapsL i) U 0 s0 = s0.lay 2 U (mapsL i) from rfl, hL2] at hk2
          obtain ⟨s3, e3, hL3⟩ : ∃ s3 e3, s2.crown r = (s3, e3) := ⟨_, _, rfl⟩
          obtain ⟨D3, b3, hk3⟩ := crown_keeps s2 r
          rw [hL3] at hk3
          have ht2 : s2.table = [0] := by rw [show s2 = _ from hk2]; exact ht0
          have ht3 : s3.table = [0] := by rw [show s3 = _ from hk3]; exact ht2
          have hR := HR1.out
          rw [if_neg (by simp)] at hR
          simp only [hr, hrM, show (Sh.over D).table = [0] from rfl, hU, hL2, hL3] at hR
          have HR2 := Hide.mk hR
          have HU := Hide.mk hU
          have HUM := Hide.mk hUM
          have HT := Hide.mk (And.intro ht0 (And.intro ht2 ht3))
          have HOFFM := Hide.mk hg5
          have HWFM : Hide (∀ n ∈ mapsL i, MapFn.wf n) := ⟨fun n hn => wf_small (by have := (mapsL_each hn).1; omega) (by have := (mapsL_each hn).2; omega)⟩
          have HUB2 : Hide (∀ p ∈ U, Bytes p) := ⟨by rw [← hU]; exact splitL_bytes (usedL_bytes _ _)⟩
          have HLL2 := Hide.mk hL2
          have HLL3 := Hide.mk hL3
          have HCH := Hide.mk hch
          have HVAL := Hide.mk hval
          have HRM := Hide.mk hrM
          have HRS : Hide (r.tables.length + r.maps.length ≤ 1000) := ⟨by rw [hrT, hrM, mapsL_len]; simp; omega⟩
          have BND := below_drew (Below.refl wn.heap.size wn)
          have SLD := Hide.mk (S5.below BND)
          have HRI := Hide.mk (RI.moves (Moves.of_below BND []) (by simp))
          have TAB := SLD.out.table.in_
          rw [ht0] at TAB
          have HUB0 := usedBy_any r [0] (some ⟨F.g, 0, none⟩) F.cap 0 c5 none A5 wn.drew HRI.out.tables HRI.out.maps TAB (by have := HRS.out; simp; omega)
          rw [HVAL.out, show ([0] : List Int).length = 1 from rfl] at HUB0
          have HUB := Hide.mk HUB0
          have HN9 := Hide.mk (And.intro BND RI)
          have KD : wn.drew.heap[br]? = _ ∧ wn.drew.cell? ⟨F.p, 10, none⟩ = some (.slice (some ⟨F.g, 0, none⟩) 1 F.cap) := And.intro (show wn.drew.heap[br]? = _ from row5) (by have := SLD.out.cells.c10; rw [ht0] at this; exact this)
          clear hr hrT hrM hrB hg5 RI hval hch ht0 hU hUM hL2 hk2 hL3 hk3 ht2 ht3 hR BND TAB HUB0 row5 i5 hA S5
          go_wp2
          refine s_ 13 (fun w' => w'.heap[br]? = some (.cells #[.int .i64 0, .int .i64 D.blocks, .int .i64 0, .int .i64 0, .slice none 0 0, .slice A5 i c5] 68 (0, 0)) ∧ w'.cell? ⟨F.p, 10, none⟩ = some (.slice (some ⟨F.g, 0, none⟩) 1 F.cap)) tab10_16 bits10_16 KD (fun hHeld HT_ HW_ => ?_)
          refine p_ 0 49 ?_
          refine t_ 1 50 hHeld ?_ (hy := by
              intro w' hS'
              refine exec_loadR (x := .tmp 6) ?_ ?_ hS'.1
              · rfl
              · rfl)
          refine p_ 2 51 ?_
          refine p_ 3 52 ?_
          refine p_ 4 53 ?_
          refine p_ 5 54 ?_
          refine t_ 6 55 hHeld ?_ (hy := by
              intro w' hS'
              have s1 := hS'.2
              go_simp
              rfl)
          refine p_ 9 58 ?_
          refine t_ 10 59 hHeld ?_ (hy := by
              intro w' hS'
              have s1 := cell_of (i := 5) hS'.1
              simp at s1
              go_simp
              rfl)
          refine n_ 7 (some 56) (fun K hK => ?_)
          refine g_ Tryz.func49 #[.agg #[.int .i64 0, .int .i64 D.blocks, .int .i64 0, .int .i64 0, .slice none 0 0, .slice A5 i c5], .slice (some ⟨F.g, 0, none⟩) 1 F.cap] ?_
          with_reducible refine HUB.out.mono ?_
          rintro e wA ⟨vA, rfl, ho, hb⟩
          obtain ⟨AA, cA, hvA, hiA, hgeA⟩ := In.of_own ho
          have HSPA0 := split_any AA cA (usedL r [0]) wA hiA (by have := usedL_len r [0]; omega)
          rw [HU.out] at HSPA0
          obtain ⟨nA, hnA⟩ : ∃ n, (usedL r [0]).length = n := ⟨_, rfl⟩
          rw [hnA] at hvA HSPA0
          subst hvA
          have HSPA := Hide.mk HSPA0
          have SA := Hide.mk (SLD.out.below hb)
          have KDA := And.intro ((hb.block br (lt_of_row KD.1)).trans KD.1) (pw_cell_below hb KD.2)
          have BA := Hide.mk hb
          refine ⟨_, rfl, ?_⟩
          clear ho hb hiA hgeA hnA HSPA0
          refine k_ hK KDA (fun hHeld => ?_)
          clear hK K
          refine n_ 8 (some 57) (fun K hK => ?_)
          refine g_ Tryz.func45 #[.slice AA nA cA, .int .i64 246] ?_
          with_reducible refine HSPA.out.mono ?_
          rintro e wB ⟨AB, cB, rfl, hp, hb⟩
          have SB := Hide.mk (SA.out.below hb)
          have PB := Hide.mk (hp F.own SA.out.lts)
          have KDB := And.intro ((hb.block br (lt_of_row KDA.1)).trans KDA.1) (pw_cell_below hb KDA.2)
          have BB := Hide.mk (BA.out.trans (hb.mono BA.out.size))
          have HL20 := lay_any 2 AB cB U A5 c5 (mapsL i) wB F _ SB.out PB.out (by have := (((HRI.out.moves (Moves.of_below BA.out []) (by simp)).moves (Moves.of_below hb []) (by simp)).maps); rw [HRM.out] at this; exact this) HOFFM.out (by rw [mapsL_len]; have := HUM.out; omega) (by have := HUM.out; omega) HWFM.out HUB2.out
          rw [mapsL_len, HLL2.out] at HL20
          have HL2 := Hide.mk HL20
          refine ⟨_, rfl, ?_⟩
          clear hp hb HL20
          refine k_ hK KDB (fun hHeld => ?_)
          clear hK K
          refine n_ 11 (some 60) (fun K hK => ?_)
          refine g_ Tryz.func48 #[.pointer (some ⟨F.p, 0, none⟩), .int .i64 2, .slice AB U.length cB, .slice A5 i c5] ?_
          with_reducible refine HL2.out.mono ?_
          rintro e wC ⟨rfl, hsC, hgC⟩
          have SC := Hide.mk hsC
          have GC := Hide.mk hgC
          have KDC := And.intro ((hgC.moves.block br (lt_of_row KDB.1) HBRO.out).trans KDB.1) (show wC.cell? ⟨F.p, 10, none⟩ = some (.slice (some ⟨F.g, 0, none⟩) 1 F.cap) from by have := hsC.cells.c10; rw [HT.out.2.1] at this; exact this)
          refine ⟨_, rfl, ?_⟩
          clear hsC hgC
          refine k_ hK KDC (fun hHeld => ?_)
          clear hK K
          refine p_ 12 9 ?_
          refine d_ ?_
          clear KD KDA KDB hHeld
          have hgt : Goes F F wn wC := (Goes.below (HN9.out.1.trans (BB.out.mono HN9.out.1.size))).trans GC.out
          have GT := Hide.mk (GA.out.trans hgt)
          have HRC := Hide.mk (HN9.out.2.moves hgt.moves (fun x hx => .inl hx))
          have k0 := cell_of (i := 0) KDC.1
          have k1 := cell_of (i := 1) KDC.1
          have k2 := cell_of (i := 2) KDC.1
          have k3 := cell_of (i := 3) KDC.1
          have k4 := cell_of (i := 4) KDC.1
          have k5 := cell_of (i := 5) KDC.1
          simp at k0 k1 k2 k3 k4 k5
          have HKC := Hide.mk KDC.1
          have HCR0 := crown_any r none 0 A5 c5 wC F s2 SC.out HRC.out HCH.out
          rw [HVAL.out, HLL3.out] at HCR0
          have HCR := Hide.mk HCR0
          clear hgt KDC HCR0
          by_cases he2 : e2 = 0
          · subst he2
            by_cases he3 : e3 = 0
            · subst he3
              go_wp2_with (first
                | (go_at_call 50; with_reducible refine HCR.out.mono ?_; rintro e wD ⟨rfl, F3, hs, hg⟩
                   have S3' := Hide.mk hs
                   have G3 := Hide.mk hg
                   have rowD := (hg.moves.block br (lt_of_row HKC.out) HBRO.out).trans HKC.out
                   have m0 := cell_of (i := 0) rowD
                   have m1 := cell_of (i := 1) rowD
                   have m2 := cell_of (i := 2) rowD
                   have m3 := cell_of (i := 3) rowD
                   have m4 := cell_of (i := 4) rowD
                   have m5 := cell_of (i := 5) rowD
                   simp at m0 m1 m2 m3 m4 m5
                   have HSE0 := settle_any r none 0 A5 c5 wD F3 s3 hs (HRC.out.foot hg) (by rw [HT.out.2.2]; simp) (by have := HRS.out; omega)
                   rw [HVAL.out, hg.p] at HSE0
                   have HSE := Hide.mk HSE0
                   clear hs hg rowD HSE0)
                | (go_at_call 51; with_reducible refine HSE.out.mono ?_; rintro e wE ⟨rfl, F4, hs, hg, hsl⟩; have S4' := Hide.mk hs; have G4 := Hide.mk hg; clear hs hg hsl))
              go_ret2
              have hR := HR2.out
              rw [if_neg (by simp), if_neg (by simp)] at hR
              rw [← hR]
              exact ⟨F4, by rw [G4.out.p, G3.out.p]; rfl, S4'.out, Born.of_goes BW.out HF.out ((GT.out.trans G3.out).toGoes0.trans G4.out)⟩
            · have q : (e3 != 0) = true := by simp [he3]
              have HE3 := Hide.mk he3
              clear he3
              go_wp2_with (go_at_call 50; with_reducible refine HCR.out.mono ?_; rintro e wD ⟨rfl, F3, hs, hg⟩; have S3' := Hide.mk hs; have G3 := Hide.mk hg; clear hs hg)
              go_ret2
              have hR := HR2.out
              rw [if_neg (by simp), if_pos HE3.out] at hR
              rw [← hR]
              exact ⟨F3, by rw [ptrOf_bad HE3.out]; rfl, S3'.out, Born.of_goes BW.out HF.out (GT.out.trans G3.out).toGoes0⟩
          · have q : (e2 != 0) = true := by simp [he2]
            have HE2 := Hide.mk he2
            clear he2
            go_wp2
            go_ret2
            have hR := HR2.out
            rw [if_pos HE2.out] at hR
            rw [← hR]
            exact ⟨F, by rw [ptrOf_bad HE2.out]; rfl, SC.out, Born.of_goes BW.out HF.out GT.out.toGoes0⟩
        · have q : (E1 != 0) = true := by simp [he1]
          have HE1 := Hide.mk he1
          have HS5 := Hide.mk S5
          clear he1 row5 i5 S5
          go_wp2
          go_ret2
          have hR := HR1.out
          rw [if_pos HE1.out] at hR
          rw [← hR]
          exact ⟨F, by rw [ptrOf_bad HE1.out]; rfl, HS5.out, Born.of_goes BW.out HF.out GA.out.toGoes0⟩
end Go.Proofs.YtplkndmkchpcdaaGreat.Sh
end
section
namespace Go.Proofs.YtplkndmkchpcdaaGreat.Sh
open Go.RowKit YtplkndmkchpcdaaGreatW.PrintWords YtplkndmkchpcdaaGreatW.PrintLast YtplkndmkchpcdaaGreatW.PrintMore MapFn Disk Bitset
set_option maxHeartbeats 4000000
set_option maxRecDepth 100000
def T25_3 : Bool × List (List Nat × List Nat) := (true, [([], []), ([0], [0]), ([1], [1]), ([2], [2]), ([], []), ([4], [4]), ([5], [5]), ([6], [6]), ([7], [7]), ([3, 8], [3, 8]), ([9, 9], [9]), ([10, 10, 0, 1, 2, 3, 4, 5, 6, 7, 8, 9, 10], [10])])
def B25_3 : List Nat := [0, 1, 3, 7, 0, 16, 48, 112, 240, 511, 1023, 2047]
end Go.Proofs.YtplkndmkchpcdaaGreat.Sh
end
section
namespace Go.Proofs.YtplkndmkchpcdaaGreat.Sh
open Go.RowKit YtplkndmkchpcdaaGreatW.PrintWords YtplkndmkchpcdaaGreatW.PrintLast YtplkndmkchpcdaaGreatW.PrintMore MapFn Disk Bitset Page
set_option maxHeartbeats 8000000
set_option maxRecDepth 100000
theorem done_zero (s : Sh) : s.done 0 = s := by
  unfold Sh.done
  cases s
  simp
theorem shread_any (id : Int) (w : World) (F : Foot) (s : Sh) (h : ShAt w F s) (hk : Ok s) (hb : ∀ n, Bytes (s.D.get n)) :
    Calls Tryz.prog 61 #[.pointer (some ⟨F.p, 0, none⟩), .int .i64 id] w fun e w' => ∃ v, e = .returned (.tuple #[.int .i64 (s.read id).2.1, v, .int .i64 (s.read id).2.2.2]) ∧ Kd.R (Kd.int .u8) 5 w' w.heap.size (fun _ => True) v (s.read id).2.2.1 ∧ ∃ F', ShAt w' F' (s.read id).1 ∧ Goes F F' w w' := by
  have HS := Hide.mk h
  have HBL := Hide.mk (block_any id h)
  have c0 := h.cells.c0
  obtain ⟨R, hR⟩ : ∃ R, s.read id = R := ⟨_, rfl⟩
  rw [hR]
  unfold Sh.read at hR
  obtain ⟨n, hn⟩ : ∃ n, (s.block id).1 = n := ⟨_, rfl⟩
  obtain ⟨e0, he0⟩ : ∃ n, (s.block id).2 = n := ⟨_, rfl⟩
  rw [hn, he0] at HBL
  simp only [hn, he0] at hR
  have HWN : Hide (e0 = 0 → MapFn.wf n) := ⟨fun hz => by
    subst hz
    rw [← hn]
    have hb1 := he0
    unfold Sh.block at hb1 ⊢
    by_cases h1 : s.alive ≠ 0
    · rw [if_pos h1] at hb1
      exact absurd hb1 h1
    · rw [if_neg h1] at hb1 ⊢
      by_cases h2 : id < 1 ∨ (s.table.length : Int) ≤ id ∨ s.table.getD id.toNat 0 = 0
      · rw [if_pos h2] at hb1
        cases hb1
      · rw [if_neg h2]
        have hlt : id.toNat < s.table.length := by omega
        have := hk.table.2.2 (s.table.getD id.toNat 0) (by rw [List.getD_eq_getElem?_getD, List.getElem?_eq_getElem hlt]; exact List.getElem_mem hlt)
        exact wf_small this.1 this.2⟩
  have HBT := Hide.mk hb
  clear h hk hb hn he0
  by_cases hz : e0 = 0
  · subst hz
    rw [if_neg (by simp)] at hR
    have HWF := Hide.mk (HWN.out rfl)
    obtain ⟨a, ha⟩ : ∃ a, s.D.at_ n = a := ⟨_, rfl⟩
    rw [ha] at hR
    by_cases ha0 : a = 0
    · subst ha0
      rw [if_neg (by simp)] at hR
      try simp only at hR
      have HRD := Hide.mk (read_ok n HS.out.disk HWF.out ha)
      obtain ⟨l, hl⟩ : ∃ l, s.D.get n = l := ⟨_, rfl⟩
      have HLB : Hide (l.length = 256 ∧ Bytes l) := ⟨by rw [← hl]; exact ⟨DiskSt.get_len HS.out.disk n, HBT.out n⟩⟩
      rw [hl] at hR HRD
      obtain ⟨o1, ho1⟩ : ∃ x, (openL l).1 = x := ⟨_, rfl⟩
      obtain ⟨o2, ho2⟩ : ∃ x, (openL l).2.1 = x := ⟨_, rfl⟩
      obtain ⟨o3, ho3⟩ : ∃ x, (openL l).2.2.1 = x := ⟨_, rfl⟩
      obtain ⟨o4, ho4⟩ : ∃ x, (openL l).2.2.2 = x := ⟨_, rfl⟩
      have HO := Hide.mk (And.intro ho1 (And.intro ho2 (And.intro ho3 ho4)))
      simp only [ho1, ho2, ho3, ho4] at hR
      have HRR := Hide.mk hR
      clear hR ha hl ho1 ho2 ho3 ho4
      by_cases hq : o4 = 0
      · subst hq
        by_cases hi : o2 = id
        · subst hi
          go_enter Tryz.func61, Tryz.ntmps61
          go_wp2_with (first
            | (go_at_call 68; refine HBL.out.mono ?_; rintro e w0 ⟨rfl, hw0⟩; obtain rfl : w = w0 := hw0.symm; clear hw0)
            | (go_at_call 98; refine HRD.out.mono ?_; rintro e w2 ⟨g, rfl, hf, hd, hm⟩
               have hs2 := HS.out.disk_moves (ml' := F.ml) hd (.inl rfl) (hm.more (fun x hx => by simp only [List.mem_singleton] at hx; subst hx; left; simp))
               have S2 := Hide.mk hs2.1
               have G2 := Hide.mk hs2.2
               have FR := Hide.mk hf
               have HDN := done_any 0 hs2.1
               rw [done_zero] at HDN
               have HDN1 := Hide.mk HDN
               clear hs2 hf hd hm HDN)
            | (go_at_call 89; with_reducible refine HDN1.out.mono ?_; rintro e w3 ⟨rfl, hs3, hg3⟩
               have S3 := Hide.mk hs3
               have G3 := Hide.mk hg3
               have row3 : w3.heap[g]? = some (.cells (encB l) 112 (0, 0)) := (hg3.moves.block g (lt_of_row FR.out.row) (fun hx => by have := FR.out.new; have hx' : g ∈ F.own := hx; have := HS.out.lts g hx'; omega)).trans FR.out.row
               have HOP := open_any (some ⟨g, 0, none⟩) 256 l w3 (C_of_row row3 (by rw [HLB.out.1]; omega)) (by rw [HLB.out.1]; omega) HLB.out.2
               rw [HLB.out.1, HO.out.1, HO.out.2.1, HO.out.2.2.1, HO.out.2.2.2] at HOP
               have HOP1 := Hide.mk HOP
               clear hs3 hg3 row3 HOP)
            | (go_at_call 99; with_reducible refine HOP1.out.mono ?_; rintro e w4 ⟨v4, rfl, ho, hb4⟩
               obtain ⟨A4, c4, hv4, hcc4, _⟩ := Kd.R_reads ho
               obtain ⟨n4, hn4⟩ : ∃ n, o3.length = n := ⟨_, rfl⟩
               rw [hn4] at hv4
               subst hv4
               have O4 := Hide.mk ho
               have B4 := Hide.mk hb4
               clear ho hb4 hcc4 hn4))
          go_ret3
          have hsz : w.heap.size ≤ w3.heap.size := Nat.le_trans G2.out.moves.size G3.out.moves.size
          have hR := HRR.out
          rw [if_neg (by simp)] at hR
          rw [← hR]
          exact ⟨_, rfl, Kd.R_lower O4.out hsz, _, S3.out.below B4.out, (G2.out.trans G3.out).trans (Goes.below B4.out)⟩
        · have q : (o2 != id) = true := by simp [hi]
          have HI := Hide.mk hi
          clear hi
          go_enter Tryz.func61, Tryz.ntmps61
          go_wp2_with (first
            | (go_at_call 68; refine HBL.out.mono ?_; rintro e w0 ⟨rfl, hw0⟩; obtain rfl : w = w0 := hw0.symm; clear hw0)
            | (go_at_call 98; refine HRD.out.mono ?_; rintro e w2 ⟨g, rfl, hf, hd, hm⟩
               have hs2 := HS.out.disk_moves (ml' := F.ml) hd (.inl rfl) (hm.more (fun x hx => by simp only [List.mem_singleton] at hx; subst hx; left; simp))
               have S2 := Hide.mk hs2.1
               have G2 := Hide.mk hs2.2
               have FR := Hide.mk hf
               have HDN := done_any 0 hs2.1
               rw [done_zero] at HDN
               have HDN1 := Hide.mk HDN
               clear hs2 hf hd hm HDN)
            | (go_at_call 89; with_reducible refine HDN1.out.mono ?_; rintro e w3 ⟨rfl, hs3, hg3⟩
               have S3 := Hide.mk hs3
               have G3 := Hide.mk hg3
               have row3 : w3.heap[g]? = some (.cells (encB l) 112 (0, 0)) := (hg3.moves.block g (lt_of_row FR.out.row) (fun hx => by have := FR.out.new; have hx' : g ∈ F.own := hx; have := HS.out.lts g hx'; omega)).trans FR.out.row
               have HOP := open_any (some ⟨g, 0, none⟩) 256 l w3 (C_of_row row3 (by rw [HLB.out.1]; omega)) (by rw [HLB.out.1]; omega) HLB.out.2
               rw [HLB.out.1, HO.out.1, HO.out.2.1, HO.out.2.2.1, HO.out.2.2.2] at HOP
               have HOP1 := Hide.mk HOP
               clear hs3 hg3 row3 HOP)
            | (go_at_call 99; with_reducible refine HOP1.out.mono ?_; rintro e w4 ⟨v4, rfl, ho, hb4⟩
               obtain ⟨A4, c4, hv4, hcc4, _⟩ := Kd.R_reads ho
               obtain ⟨n4, hn4⟩ : ∃ n, o3.length = n := ⟨_, rfl⟩
               rw [hn4] at hv4
               subst hv4
               have O4 := Hide.mk ho
               have B4 := Hide.mk hb4
               clear ho hb4 hcc4 hn4))
          go_ret3
          have hR := HRR.out
          rw [if_pos (.inr HI.out)] at hR
          rw [← hR]
          exact ⟨_, rfl, Kd.R_nil _ _ _ _ _, _, S3.out.below B4.out, (G2.out.trans G3.out).trans (Goes.below B4.out)⟩
      · have q : (o4 != 0) = true := by simp [hq]
        have HQ := Hide.mk hq
        clear hq
        go_enter Tryz.func61, Tryz.ntmps61
        go_wp2_with (first
          | (go_at_call 68; refine HBL.out.mono ?_; rintro e w0 ⟨rfl, hw0⟩; obtain rfl : w = w0 := hw0.symm; clear hw0)
          | (go_at_call 98; refine HRD.out.mono ?_; rintro e w2 ⟨g, rfl, hf, hd, hm⟩
             have hs2 := HS.out.disk_moves (ml' := F.ml) hd (.inl rfl) (hm.more (fun x hx => by simp only [List.mem_singleton] at hx; subst hx; left; simp))
             have S2 := Hide.mk hs2.1
             have G2 := Hide.mk hs2.2
             have FR := Hide.mk hf
             have HDN := done_any 0 hs2.1
             rw [done_zero] at HDN
             have HDN1 := Hide.mk HDN
             clear hs2 hf hd hm HDN)
          | (go_at_call 89; with_reducible refine HDN1.out.mono ?_; rintro e w3 ⟨rfl, hs3, hg3⟩
             have S3 := Hide.mk hs3
             have G3 := Hide.mk hg3
             have row3 : w3.heap[g]? = some (.cells (encB l) 112 (0, 0)) := (hg3.moves.block g (lt_of_row FR.out.row) (fun hx => by have := FR.out.new; have hx' : g ∈ F.own := hx; have := HS.out.lts g hx'; omega)).trans FR.out.row
             have HOP := open_any (some ⟨g, 0, none⟩) 256 l w3 (C_of_row row3 (by rw [HLB.out.1]; omega)) (by rw [HLB.out.1]; omega) HLB.out.2
             rw [HLB.out.1, HO.out.1, HO.out.2.1, HO.out.2.2.1, HO.out.2.2.2] at HOP
             have HOP1 := Hide.mk HOP
             clear hs3 hg3 row3 HOP)
          | (go_at_call 99; with_reducible refine HOP1.out.mono ?_; rintro e w4 ⟨v4, rfl, ho, hb4⟩
             obtain ⟨A4, c4, hv4, hcc4, _⟩ := Kd.R_reads ho
             obtain ⟨n4, hn4⟩ : ∃ n, o3.length = n := ⟨_, rfl⟩
             rw [hn4] at hv4
             subst hv4
             have O4 := Hide.mk ho
             have B4 := Hide.mk hb4
             clear ho hb4 hcc4 hn4))
        go_ret3
        have hR := HRR.out
        rw [if_pos (.inl HQ.out)] at hR
        rw [← hR]
        exact ⟨_, rfl, Kd.R_nil _ _ _ _ _, _, S3.out.below B4.out, (G2.out.trans G3.out).trans (Goes.below B4.out)⟩
    · rw [if_pos ha0] at hR
      have HRD := read_bad n HS.out.disk (by rw [ha]; exact ha0)
      rw [ha] at HRD
      have HRD1 := Hide.mk HRD
      have q : (a != 0) = true := by simp [ha0]
      have HRR := Hide.mk hR
      clear hR ha ha0 HRD
      go_enter Tryz.func61, Tryz.ntmps61
      go_wp2_with (first
        | (go_at_call 68; refine HBL.out.mono ?_; rintro e w0 ⟨rfl, hw0⟩; obtain rfl : w = w0 := hw0.symm; clear hw0)
        | (go_at_call 98; refine HRD1.out.mono ?_; rintro e w2 ⟨rfl, hb⟩
           have B2 := Hide.mk hb
           have HDN := Hide.mk (done_any a (HS.out.below hb))
           clear hb)
        | (go_at_call 89; with_reducible refine HDN.out.mono ?_; rintro e w3 ⟨rfl, hs3, hg3⟩; have S3 := Hide.mk hs3; have G3 := Hide.mk hg3; clear hs3 hg3))
      go_ret3
      rw [← HRR.out]
      exact ⟨_, rfl, Kd.R_nil _ _ _ _ _, F, S3.out, (Goes.below B2.out).trans G3.out⟩
  · rw [if_pos hz] at hR
    have q : (e0 != 0) = true := by simp [hz]
    have HRR := Hide.mk hR
    clear hR hz
    go_enter Tryz.func61, Tryz.ntmps61
    go_wp2_with (go_at_call 68; refine HBL.out.mono ?_; rintro e w0 ⟨rfl, hw0⟩; obtain rfl : w = w0 := hw0.symm; clear hw0)
    go_ret3
    rw [← HRR.out]
    exact ⟨_, rfl, Kd.R_nil _ _ _ _ _, F, HS.out, Goes.refl _ _⟩
end Go.Proofs.YtplkndmkchpcdaaGreat.Sh
end
section
namespace Go.Proofs.YtplkndmkchpcdaaGreat.Sh
open Go.RowKit YtplkndmkchpcdaaGreatW.PrintWords YtplkndmkchpcdaaGreatW.PrintLast YtplkndmkchpcdaaGreatW.PrintMore MapFn Disk Bitset Page PShadowPlays Num
set_option maxHeartbeats 8000000
set_option maxRecDepth 100000
def twosL : Nat → List Int → List Int
  | 0, _ => []
  | k + 1, l => beN 0 (l.take 2) :: twosL k (l.drop 2)
end Go.Proofs.YtplkndmkchpcdaaGreat.Sh
end
section
namespace Go.Proofs.YtplkndmkchpcdaaGreat.Sh
open Go.RowKit YtplkndmkchpcdaaGreatW.PrintWords YtplkndmkchpcdaaGreatW.PrintLast YtplkndmkchpcdaaGreatW.PrintMore MapFn Disk Bitset Page PShadowPlays Num
set_option maxHeartbeats 8000000
set_option maxRecDepth 100000
end Go.Proofs.YtplkndmkchpcdaaGreat.Sh
end
section
namespace Go.Proofs.YtplkndmkchpcdaaGreat.Sh
open Go.RowKit YtplkndmkchpcdaaGreatW.PrintWords YtplkndmkchpcdaaGreatW.PrintLast YtplkndmkchpcdaaGreatW.PrintMore MapFn Disk Bitset Page PShadowPlays Num
set_option maxHeartbeats 8000000
set_option maxRecDepth 100000
end Go.Proofs.YtplkndmkchpcdaaGreat.Sh
end
section
namespace Go.Proofs.YtplkndmkchpcdaaGreat.Sh
open Go.RowKit YtplkndmkchpcdaaGreatW.PrintWords YtplkndmkchpcdaaGreatW.PrintLast YtplkndmkchpcdaaGreatW.PrintMore MapFn Disk Bitset Page PShadowPlays Num
set_option maxHeartbeats 8000000
set_option maxRecDepth 100000
theorem bytes_bytes {r : Root} (h : r.check = 0) : Bytes r.bytes := by
  intro x hx
  unfold Root.bytes at hx
  rcases List.mem_append.1 hx with h1 | h1
  · rcases List.mem_append.1 h1 with h2 | h2
    · exact body_bytes h x h2
    · simp only [tailL, List.mem_cons, List.not_mem_nil, or_false] at h2
      rcases h2 with rfl | rfl | rfl | rfl <;> (unfold IsByte; omega)
  · exact putN_bytes _ _ x h1
def T135_3 : Bool × List (List Nat × List Nat) := (true, [([], []), ([0], [0]), ([], []), ([2], [2]), ([1, 3], [1, 3]), ([4], [4]), ([5, 4], [5])])
def B135_3 : List Nat := [0, 1, 0, 4, 15, 31, 63]
end Go.Proofs.YtplkndmkchpcdaaGreat.Sh
end
section
namespace Go.Proofs.YtplkndmkchpcdaaGreat.Sh
open Go.RowKit YtplkndmkchpcdaaGreatW.PrintWords YtplkndmkchpcdaaGreatW.PrintLast YtplkndmkchpcdaaGreatW.PrintMore MapFn Disk Bitset Page PShadowPlays Num
set_option maxHeartbeats 8000000
set_option maxRecDepth 100000
def bestOf (a b : List Int) : Nat → Root × Int
  | 0 => (⟨-1, 0, 0, 0, [], []⟩, -1)
  | 1 => Root.better (⟨-1, 0, 0, 0, [], []⟩, -1) 0 a
  | _ => Root.better (Root.better (⟨-1, 0, 0, 0, [], []⟩, -1) 0 a) 1 b
end Go.Proofs.YtplkndmkchpcdaaGreat.Sh
end
section
namespace Go.Proofs.YtplkndmkchpcdaaGreat.Sh
open Go.RowKit YtplkndmkchpcdaaGreatW.PrintWords YtplkndmkchpcdaaGreatW.PrintLast YtplkndmkchpcdaaGreatW.PrintMore MapFn Disk Bitset Page PShadowPlays Num
set_option maxHeartbeats 8000000
set_option maxRecDepth 100000
def T76_8 : Bool × List (List Nat × List Nat) := (true, [([], []), ([0], [0]), ([1], [1]), ([2], [2]), ([3, 2], [2, 3]), ([2], [2]), ([5, 2, 2], [2, 5]), ([4, 6, 2], [2, 4, 6]), ([2, 7], [2, 7])])
def B76_8 : List Nat := [0, 1, 3, 7, 15, 7, 39, 127, 255]
end Go.Proofs.YtplkndmkchpcdaaGreat.Sh
end
section
namespace Go.Proofs.YtplkndmkchpcdaaGreat.Sh
open Go.RowKit YtplkndmkchpcdaaGreatW.PrintWords YtplkndmkchpcdaaGreatW.PrintLast YtplkndmkchpcdaaGreatW.PrintMore MapFn Disk Bitset Page PShadowPlays Num
set_option maxHeartbeats 8000000
set_option maxRecDepth 100000
theorem open_body (b : List Int) : (openL b).2.2.1 = [] ∨ ∃ n, (openL b).2.2.1 = (b.drop 6).take n := by
  unfold openL
  repeat' split
  all_goals first | exact .inl rfl | exact .inr ⟨_, rfl⟩
theorem open_body_bytes {b : List Int} (h : Bytes b) : Bytes (openL b).2.2.1 := by
  rcases open_body b with e | ⟨n, e⟩
  · rw [e]; intro x hx; cases hx
  · rw [e]; exact fun x hx => h x (List.mem_of_mem_drop (List.mem_of_mem_take hx))
theorem ShAt.beside {b : List Nat} {w w' : World} {F : Foot} {s : Sh} (h : ShAt w F s) (hm : Moves b w w') (ho : ∀ x ∈ F.own, ¬ x ∈ b) (hs : ∀ A ∈ F.slices, ∀ a, A = some a → ¬ a.block ∈ b) : ShAt w' F s :=
  ⟨(hm.block F.p (h.lts _ (by simp [Foot.own])) (ho _ (by simp [Foot.own]))).trans h.row, h.disk.moves hm (ho _ (by simp [Foot.own])) (ho _ (by simp [Foot.own])) (ho _ (by simp [Foot.own])),
   h.tables.moves hm (hs _ (by simp [Foot.slices])), h.maps.moves hm (hs _ (by simp [Foot.slices])), h.was.moves hm (hs _ (by simp [Foot.slices])), h.used.moves hm (hs _ (by simp [Foot.slices])), h.fresh.moves hm (hs _ (by simp [Foot.slices])), tab_moves h.table hm (ho _ (by simp [Foot.own])), h.ne, h.off⟩
end Go.Proofs.YtplkndmkchpcdaaGreat.Sh
end
