/- The words, and the contracts of the functions that are reached, one behind the other. -/
import Derived.Test.YtgmkbcoahilkhaaGreatSFG
section
namespace Go.Proofs.YtgmkbcoahilkhaaGreat.Sh
open Go.RowKit Go.Proofs.YtgmkbcoahilkhaaGreatW.PrintWords Go.Proofs.YtgmkbcoahilkhaaGreatW.PrintLast Go.Proofs.YtgmkbcoahilkhaaGreatW.PrintMore Go.Proofs.YtgmkbcoahilkhaaGreat.MapFn Go.Proofs.YtgmkbcoahilkhaaGreat.Disk Go.Proofs.YtgmkbcoahilkhaaGreat.Bitset Go.Proofs.YtgmkbcoahilkhaaGreat.Page Go.Proofs.YtgmkbcoahilkhaaGreat.Num
set_option linter.unusedVariables false
set_option linter.unusedSimpArgs false
set_option maxHeartbeats 16000000
set_option maxRecDepth 100000
def okAt (n : Nat) : Bool :=
  let s := filled n (n - 3)
  (List.range (n - 2)).all (fun k => okB (filled n k)) && nxB s && okB (s.free 1).1 && okB ((s.free 1).1.free 2).1 && nxB ((s.free 1).1.free 2).1 &&
  (match ((s.free 1).1.free 2).1.qcommit with
   | some (c, _) => okB c && (match c.qalloc 5 0 with
     | some (d, _, _) => okB d && okB d.abort.1
     | none => false)
   | none => false)
theorem oks_all : (List.range 53).all (fun b => okAt (8 + b)) = true := by decide +kernel
structure FillsFacts (n : Nat) : Prop where
  format : ∃ D', Live D' n ∧ Sh.format (DiskSt.new n) = ((filled n 0).on D', 0)
  alloc : ∀ k, k < n - 3 → ∀ D, Live D n → ∀ body : List Int, body.length ≤ 246 → ∃ D', Live D' n ∧ ((filled n k).on D).alloc 5 body = ((filled n (k + 1)).on D', ((k + 1 : Nat) : Int), 0)
  ok : ∀ k, k ≤ n - 3 → ∀ D, Ok ((filled n k).on D)
  full : ∀ D, Live D n → ∀ body : List Int, body.length ≤ 246 → ∃ D', Live D' n ∧ ((filled n (n - 3)).on D).alloc 5 body = ((filled n (n - 3)).on D', 0, 10)
  commit : ∀ D, Live D n → ∃ D', Live D' n ∧ ((filled n (n - 3)).on D).commit = ((filled n (n - 3)).on D', 10)
  nx : nxB (filled n (n - 3)) = true
  ids : (filled n (n - 3)).ids.length = n - 3
  dirty : (filled n (n - 3)).dirty = true
  rest : ∃ a b c d : Sh, (∀ D, ((filled n (n - 3)).on D).free 1 = (a.on D, 0)) ∧ (∀ D, (a.on D).free 2 = (b.on D, 0)) ∧ (∀ D, Live D n → ∃ D', Live D' n ∧ (b.on D).commit = (c.on D', 0)) ∧ c.usedN = n - 1 ∧
    (∀ D, Live D n → ∀ body : List Int, body.length ≤ 246 → ∃ D' i, Live D' n ∧ (c.on D).alloc 5 body = (d.on D', i, 0)) ∧ (∀ D, Live D n → ∀ body : List Int, body.length ≤ 246 → ∃ D', Live D' n ∧ (d.on D).alloc 5 body = (d.on D', 0, 10)) ∧
    (∃ f : Sh, (∀ D, (d.on D).abort = (f.on D, 0)) ∧ f.ids.length = n - 5 ∧ ∀ D, Ok (f.on D)) ∧ (∀ D, Ok (a.on D)) ∧ (∀ D, Ok (b.on D)) ∧ nxB b = true ∧ (∀ D, Ok (c.on D)) ∧ ∀ D, Ok (d.on D)
theorem alloc_at {q q1 : Sh} {n : Nat} {id e : Int} (hD : q.D.blocks = n) (hq : q.qalloc 5 0 = some (q1, id, e)) {D : DiskSt} (h : Live D n) {body : List Int} (hb : body.length ≤ 246) : ∃ D', Live D' n ∧ (q.on D).alloc 5 body = (q1.on D', id, e) := by
  obtain ⟨D', h1, h2, h3⟩ := alloc_q (q := q) (q1 := q1) (D := D) (kind := 5) (id := id) (e := e) (body := body) (by rw [hD]; exact h) (by rw [qalloc_small q 5 hb]; exact hq)
  exact ⟨D', by rw [← hD]; exact h1, h2⟩
theorem filled_blocks {n : Nat} (h : n ≤ 60) (k : Nat) : (filled n k).D.blocks = n := by
  show clampB n = n
  unfold clampB
  have e : (if (4096 : Int) < (n : Int) then 4096 else (n : Int)) = n := if_neg (by omega)
  rw [e]
  split <;> omega
theorem fills_facts (b : Nat) (hb : b < 53) : FillsFacts (8 + b) := by
  have h := List.all_eq_true.1 fills_all b (List.mem_range.2 hb)
  have ho := List.all_eq_true.1 oks_all b (List.mem_range.2 hb)
  obtain ⟨n, hn⟩ : ∃ n, 8 + b = n := ⟨_, rfl⟩
  have hn60 : n ≤ 60 := by omega
  have hn8 : 8 ≤ n := by omega
  simp only [hn] at h ho
  rw [hn]
  clear hn hb
  simp only [Bool.and_eq_true] at h
  obtain ⟨⟨hf, hfl⟩, haf⟩ := h
  unfold okAt at ho
  simp only [Bool.and_eq_true] at ho
  obtain ⟨⟨⟨⟨⟨ho1, ho2⟩, ho3⟩, ho4⟩, ho5⟩, ho6⟩ := ho
  unfold afterAt at haf
  simp only [Bool.and_eq_true] at haf
  obtain ⟨⟨⟨⟨ha1, ha2⟩, ha3⟩, ha4⟩, ha5⟩ := haf
  have hok : ∀ k, k ≤ n - 3 → Ok (filled n k) := fun k hk => okB_ok (List.all_eq_true.1 ho1 k (List.mem_range.2 (by omega)))
  have hDn : ∀ k, (filled n k).D = DiskSt.new n := fun k => rfl
  refine ⟨?_, ?_, fun k hk D => (hok k hk).on D, ?_, ?_, ho2, by simpa using ha3, ha4, ?_⟩
  · unfold formatsAt at hf
    split at hf
    · rename_i s e hq
      simp only [Bool.and_eq_true, decide_eq_true_eq] at hf
      obtain ⟨D', h1, h2, h3⟩ := format_q (N := n) (by have := filled_blocks hn60 0; exact this) hq
      have := Sh.same_eq hf.1 (by rw [h3, hDn])
      exact ⟨D', h1, by rw [h2, this, hf.2]⟩
    · cases hf
  · intro k hk D hL body hbd
    have h1 := List.all_eq_true.1 hfl k (List.mem_range.2 hk)
    exact alloc_at (filled_blocks hn60 k) (allocTo_eq h1 rfl) hL hbd
  · intro D hL body hbd
    exact alloc_at (filled_blocks hn60 _) (allocTo_eq ha1 rfl) hL hbd
  · intro D hL
    cases hq : (filled n (n - 3)).qcommit with
    | none => rw [hq] at ha2; cases ha2
    | some x =>
      obtain ⟨s', e⟩ := x
      rw [hq] at ha2
      simp only [Bool.and_eq_true, decide_eq_true_eq] at ha2
      obtain ⟨D', h1, h2, h3⟩ := commit_q (q := filled n (n - 3)) (D := D) (by rw [filled_blocks hn60]; exact hL) hq
      rw [filled_blocks hn60] at h1
      have := Sh.same_eq ha2.1 (by rw [h3])
      exact ⟨D', h1, by rw [h2, this, ha2.2]⟩
  · simp only [Bool.and_eq_true, decide_eq_true_eq] at ha5
    obtain ⟨⟨ea, eb⟩, hc⟩ := ha5
    obtain ⟨a, hA⟩ : ∃ a, ((filled n (n - 3)).free 1).1 = a := ⟨_, rfl⟩
    rw [hA] at eb hc ho3 ho4 ho5 ho6
    obtain ⟨bb, hBB⟩ : ∃ b, (a.free 2).1 = b := ⟨_, rfl⟩
    rw [hBB] at hc ho4 ho5 ho6
    have hAD : a.D = (filled n (n - 3)).D := by rw [← hA]; exact (free_q (q := filled n (n - 3)) (D := (filled n (n - 3)).D) 1).2
    have hBD : bb.D = (filled n (n - 3)).D := by rw [← hBB, (free_q (q := a) (D := a.D) 2).2, hAD]
    cases hq : bb.qcommit with
    | none => rw [hq] at hc; cases hc
    | some x =>
      obtain ⟨c, e⟩ := x
      rw [hq] at hc ho6
      simp only [Bool.and_eq_true, decide_eq_true_eq] at hc ho6
      obtain ⟨⟨ee, hu⟩, hd⟩ := hc
      have hCD : c.D = bb.D := by
        obtain ⟨_, _, _, q⟩ := commit_q (q := bb) (D := DiskSt.new n) (by rw [hBD, filled_blocks hn60]; have := Live.new (n : Int); rw [show clampB (n : Int) = n from filled_blocks hn60 0] at this; exact this) hq
        exact q
      have hCB : c.D.blocks = n := by rw [hCD, hBD, filled_blocks hn60]
      cases hqa : c.qalloc 5 0 with
      | none => rw [hqa] at hd; cases hd
      | some y =>
        obtain ⟨d, i, e2⟩ := y
        rw [hqa] at hd ho6
        simp only [Bool.and_eq_true, decide_eq_true_eq] at hd ho6
        obtain ⟨⟨⟨ed, hdd⟩, eab⟩, hid⟩ := hd
        have hDB : d.D.blocks = n := by rw [qalloc_D hqa, hCB]
        refine ⟨a, bb, c, d, ?_, ?_, ?_, hu, ?_, ?_, ⟨d.abort.1, ?_, hid, fun D => (okB_ok ho6.2.2).on D⟩, fun D => (okB_ok ho3).on D, fun D => (okB_ok ho4).on D, ho5, fun D => (okB_ok ho6.1).on D, fun D => (okB_ok ho6.2.1).on D⟩
        · intro D; rw [(free_q 1).1, hA, ea]
        · intro D; rw [(free_q 2).1, hBB, eb]
        · intro D hL
          obtain ⟨D', h1, h2, _⟩ := commit_q (q := bb) (D := D) (by rw [hBD, filled_blocks hn60]; exact hL) hq
          rw [hBD, filled_blocks hn60] at h1
          exact ⟨D', h1, by rw [h2, ee]⟩
        · intro D hL body hbd
          obtain ⟨D', h1, h2⟩ := alloc_at hCB hqa hL hbd
          exact ⟨D', i, h1, by rw [h2, ed]⟩
        · intro D hL body hbd
          exact alloc_at hDB (allocTo_eq hdd rfl) hL hbd
        · intro D; rw [abort_q.1, eab]
theorem shadowFills_any (b : Int) (hb : 0 ≤ b ∧ b < 256) (A : Option Addr) (c : Nat) (body : List Int) (w : World) (hi : In .u8 w A body c) (hby : Bytes body) :
    Calls Tryz.prog 4 #[.int .u8 b, .slice A body.length c] w fun e w' => e = .returned (.bool true) ∧ Below w.heap.size w w' := by
  obtain ⟨m, hm⟩ : ∃ m : Nat, Int.tmod b 53 = (m : Int) := ⟨(Int.tmod b 53).toNat, by rw [Int.tmod_eq_emod_of_nonneg hb.1]; omega⟩
  have hm53 : m < 53 := by rw [Int.tmod_eq_emod_of_nonneg hb.1] at hm; omega
  have FF := Hide.mk (fills_facts m hm53)
  have hN : ((8 + m : Nat) : Int) = 8 + (m : Int) := by omega
  have HN := Hide.mk hN
  have HI := Hide.mk hi
  have HB := Hide.mk hby
  have hmx := hi.reads.2.1
  clear hi hby hN
  by_cases hl : body.length ≤ 246
  · have hl1 : ¬ (246 : Int) < (body.length : Int) := by omega
    have HL := Hide.mk hl
    clear hl
    go_enter Tryz.func4, Tryz.ntmps4
    go_wp2_with (first
      | (go_at_call 10
         refine (new_on (8 + (m : Int)) _).mono ?_
         rintro e w1 ⟨pd, rfl, hd⟩
         obtain ⟨D0, hL0, hf0⟩ := FF.out.format
         rw [HN.out] at hf0
         have HFM0 := format_on hd (by show 0 ≤ clampB _ ∧ clampB _ ≤ 4096; unfold clampB; split <;> split <;> omega)
         rw [hf0] at HFM0
         simp only [ptrOf_ok] at HFM0
         have HFM := Hide.mk HFM0
         have LV := Hide.mk hL0
         clear hd hL0 hf0 HFM0)
      | (go_at_call 9
         with_reducible refine HFM.out.mono ?_
         rintro e w2 ⟨p, rfl, hs⟩
         have S2 := Hide.mk hs
         clear hs))
    go_loopw [9, 10] (fun v9 v10 wr => ∃ (k : Nat) (D : DiskSt), v9 = .int .i64 (k : Int) ∧ v10 = .int .i64 (k : Int) ∧ Hide (k ≤ 5 + m) ∧ Hide (Live D ((8 + m : Nat) : Int)) ∧ Hide (On w wr p pd ((filled (8 + m) k).on D))) (fun _ v10 _ => 100 - (intOf v10).toNat)
    case atStart => exact ⟨0, D0, by first | rfl | simp, by first | rfl | simp, ⟨Nat.zero_le _⟩, LV, S2⟩
    case round =>
      obtain ⟨k, D, rfl, rfl, hk, hLv, hS⟩ := hrel
      clear S2 LV
      have hk0 := hk.out
      have hk70 : (k : Int) < 70 := by omega
      by_cases hlt : k < 5 + m
      · obtain ⟨D1, hL1, he⟩ := FF.out.alloc k (by omega) D hLv.out body HL.out
        have HAL0 := alloc_on hS.out (FF.out.ok k (by omega) D) 5 (hS.out.in_ HI.out) HB.out
        rw [he] at HAL0
        have HAL := Hide.mk HAL0
        have L1 := Hide.mk hL1
        have HLT := Hide.mk hlt
        clear hL1 he HAL0 hlt
        go_wp2_with (go_at_call 19; with_reducible refine HAL.out.mono ?_; rintro e w3 ⟨rfl, hs⟩; have S3 := Hide.mk hs; clear hs)
        go_roundw
        case rel => exact ⟨k + 1, D1, by go_num, by go_num, ⟨by have := HLT.out; omega⟩, L1, S3⟩
        case measure => simp [intOf]; omega
      · have hkn : k = 8 + m - 3 := by omega
        have hks : (k : Int) = 5 + (m : Int) := by omega
        have q1 : ((k : Int) != 8 + (m : Int) - 3) = false := by simp; omega
        obtain ⟨sN, hsN⟩ : ∃ s, filled (8 + m) k = s := ⟨_, rfl⟩
        have hsN' : filled (8 + m) (8 + m - 3) = sN := by rw [← hkn]; exact hsN
        obtain ⟨D1, hL1, he1⟩ := FF.out.full D hLv.out body HL.out
        obtain ⟨D2, hL2, he2⟩ := FF.out.commit D1 hL1
        have hok := FF.out.ok (8 + m - 3) (Nat.le_refl _)
        have hnx := nxB_ok FF.out.nx
        have hids := FF.out.ids
        have hdy := FF.out.dirty
        obtain ⟨a, bb, cc, d, ha, hbq, hc, hu, hal, hfu, ⟨f, hab, hfi, hokf⟩, hoka, hokb, hnxb, hokc, hokd⟩ := FF.out.rest
        rw [hsN'] at he1 he2 hok hnx hids hdy ha
        obtain ⟨D3, hL3, he3⟩ := hc D2 hL2
        obtain ⟨D4, i4, hL4, he4⟩ := hal D3 hL3 body HL.out
        obtain ⟨D5, hL5, he5⟩ := hfu D4 hL4 body HL.out
        have hids' : ((sN.on D2).ids.length : Int) = (k : Int) := by
          have : (sN.on D2).ids.length = 8 + m - 3 := hids
          omega
        have hfi' : (((f.on D5).ids.length : Nat) : Int) = (k : Int) - 2 := by
          have : (f.on D5).ids.length = 8 + m - 5 := hfi
          omega
        have hu' : (((cc.on D3).usedN : Nat) : Int) = 8 + (m : Int) - 1 := by
          have : (cc.on D3).usedN = 8 + m - 1 := hu
          omega
        rw [hsN] at hS
        have HAL0 := alloc_on hS.out (hok D) 5 (hS.out.in_ HI.out) HB.out
        rw [he1] at HAL0
        have HAL := Hide.mk HAL0
        have HCM := Hide.mk (fun wx (h : On w wx p pd (sN.on D1)) => by have := commit_on h (hok D1) hnx.1 hnx.2; rw [he2] at this; exact this)
        have HIDS := Hide.mk (fun wx (h : On w wx p pd (sN.on D2)) => ids_on h (by have := (hok D2).table.2.1; omega))
        have HIL := Hide.mk hids'
        have HDY := Hide.mk (fun wx (h : On w wx p pd (sN.on D2)) => by have := dirty_on h; rw [show (sN.on D2).dirty = true from hdy] at this; exact this)
        have HF1 := Hide.mk (fun wx (h : On w wx p pd (sN.on D2)) => by have := free_on h (hok D2) 1; rw [ha D2] at this; exact this)
        have HF2 := Hide.mk (fun wx (h : On w wx p pd (a.on D2)) => by have := free_on h (hoka D2) 2; rw [hbq D2] at this; exact this)
        have hnb := nxB_ok hnxb
        have HC2 := Hide.mk (fun wx (h : On w wx p pd (bb.on D2)) => by have := commit_on h (hokb D2) hnb.1 hnb.2; rw [he3] at this; exact this)
        have HUS := Hide.mk (fun wx (h : On w wx p pd (cc.on D3)) => by have := used_on h (hokc D3); rw [hu'] at this; exact this)
        have HA2 := Hide.mk (fun wx (h : On w wx p pd (cc.on D3)) => by have := alloc_on h (hokc D3) 5 (h.in_ HI.out) HB.out; rw [he4] at this; exact this)
        have HA3 := Hide.mk (fun wx (h : On w wx p pd (d.on D4)) => by have := alloc_on h (hokd D4) 5 (h.in_ HI.out) HB.out; rw [he5] at this; exact this)
        have HAB := Hide.mk (fun wx (h : On w wx p pd (d.on D5)) => by have := abort_on h (hokd D5); rw [hab D5] at this; exact this)
        have HID2 := Hide.mk (fun wx (h : On w wx p pd (f.on D5)) => ids_on h (by have := (hokf D5).table.2.1; omega))
        have HIL2 := Hide.mk hfi'
        have q2 : ((8 + (m : Int) - 1) != 8 + (m : Int) - 1) = false := by simp
        clear hsN hsN' he1 he2 hok hnx hids hdy ha hbq hc hu hal hfu hab hfi hokf hoka hokb hnxb hokc hokd he3 he4 he5 hids' hfi' hu' HAL0 hnb hlt hkn hL1 hL2 hL3 hL4 hL5 hS
        go_wp2_with (first
          | (go_at_call 19
             with_reducible refine HAL.out.mono ?_
             rintro e w3 ⟨rfl, hs⟩
             have H3 := Hide.mk (HCM.out _ hs)
             clear hs)
          | (go_at_call 20
             with_reducible refine H3.out.mono ?_
             rintro e w4 ⟨rfl, hs⟩
             have H4 := Hide.mk (HIDS.out _ hs)
             clear hs)
          | (go_at_call 21
             with_reducible refine H4.out.mono ?_
             rintro e w5 ⟨A5, c5, rfl, _, _, hs⟩
             obtain ⟨n5, hn5⟩ : ∃ n, (sN.on D2).ids.length = n := ⟨_, rfl⟩
             have e5 : (n5 : Int) = (k : Int) := by rw [← hn5]; exact HIL.out
             rw [hn5]
             have H5 := Hide.mk (HDY.out _ hs)
             have q5 : ((n5 : Int) != (k : Int)) = false := by simp [e5]
             clear hs hn5)
          | (go_at_call 22
             with_reducible refine H5.out.mono ?_
             rintro e w6 ⟨rfl, hs⟩
             have H6 := Hide.mk (HF1.out _ hs)
             clear hs)
          | (go_at_call 23
             with_reducible refine H6.out.mono ?_
             rintro e w7 ⟨rfl, hs⟩
             have H7 := Hide.mk (HF2.out _ hs)
             clear hs)
          | (go_at_call 23
             with_reducible refine H7.out.mono ?_
             rintro e w8 ⟨rfl, hs⟩
             have H8 := Hide.mk (HC2.out _ hs)
             clear hs)
          | (go_at_call 20
             with_reducible refine H8.out.mono ?_
             rintro e w9 ⟨rfl, hs⟩
             have H9 := Hide.mk (HUS.out _ hs)
             clear hs)
          | (go_at_call 24
             with_reducible refine H9.out.mono ?_
             rintro e w10 ⟨rfl, hs⟩
             have H10 := Hide.mk (HA2.out _ hs)
             clear hs)
          | (go_at_call 19
             with_reducible refine H10.out.mono ?_
             rintro e w11 ⟨rfl, hs⟩
             have H11 := Hide.mk (HA3.out _ hs)
             clear hs)
          | (go_at_call 19
             with_reducible refine H11.out.mono ?_
             rintro e w12 ⟨rfl, hs⟩
             have H12 := Hide.mk (HAB.out _ hs)
             clear hs)
          | (go_at_call 25
             with_reducible refine H12.out.mono ?_
             rintro e w13 ⟨rfl, hs⟩
             have H13 := Hide.mk (HID2.out _ hs)
             clear hs)
          | (go_at_call 21
             with_reducible refine H13.out.mono ?_
             rintro e w14 ⟨A14, c14, rfl, _, _, hs⟩
             obtain ⟨n14, hn14⟩ : ∃ n, (f.on D5).ids.length = n := ⟨_, rfl⟩
             have e14 : (n14 : Int) = (k : Int) - 2 := by rw [← hn14]; exact HIL2.out
             rw [hn14]
             have q14 : ((n14 : Int) == (k : Int) - 2) = true := by simp [e14]
             have B14 := Hide.mk hs.below
             clear hs hn14)
          | (go_at_call 18
             refine (awake_any w14).mono ?_
             rintro e w15 ⟨rfl, hb15⟩
             have B15 := Hide.mk (B14.out.trans (hb15.mono B14.out.size))
             clear hb15))
        go_ret
        exact ⟨rfl, B15.out⟩
  · have hl1 : (246 : Int) < (body.length : Int) := by omega
    clear hl
    go_enter Tryz.func4, Tryz.ntmps4
    go_wp2_with (go_at_call 18; refine (awake_any _).mono ?_; rintro e w1 ⟨rfl, hb1⟩; have B1 := Hide.mk hb1; clear hb1)
    go_ret
    exact ⟨rfl, B1.out⟩
end Go.Proofs.YtgmkbcoahilkhaaGreat.Sh
end
