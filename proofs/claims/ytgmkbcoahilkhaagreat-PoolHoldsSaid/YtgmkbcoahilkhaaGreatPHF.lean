/- The words, and the contracts of the functions that are reached, one behind the other. -/
import Derived.Test.YtgmkbcoahilkhaaGreatPHE
section
namespace Go.Proofs.YtgmkbcoahilkhaaGreat.Pool
open Go.RowKit Go.Proofs.YtgmkbcoahilkhaaGreatW.PrintWords Go.Proofs.YtgmkbcoahilkhaaGreatW.PrintLast Go.Proofs.YtgmkbcoahilkhaaGreatW.PrintMore Go.Proofs.YtgmkbcoahilkhaaGreat.MapFn Go.Proofs.YtgmkbcoahilkhaaGreat.Disk Go.Proofs.YtgmkbcoahilkhaaGreat.Page Go.Proofs.YtgmkbcoahilkhaaGreat.Num Go.Proofs.YtgmkbcoahilkhaaGreat.Bitset Go.Proofs.YtgmkbcoahilkhaaGreat.Sh
set_option linter.unusedVariables false
set_option linter.unusedSimpArgs false
set_option maxHeartbeats 16000000
set_option maxRecDepth 100000
section
variable {w wr : World} {b ps pd : Nat} {p : Pl}
theorem one8 (w wr : World) (x : Int) (fr : Nat × Nat) : In8 w (wr.alloc (.cells #[.int .u8 x] 5 fr)) (some ⟨wr.heap.size, 0, none⟩) [x] 1 := by
  have row := heap_last wr (.cells #[.int .u8 x] 5 fr)
  exact ⟨⟨C_of_rowF (l := [x]) row (by simp), Nat.le_refl _, fun a ha _ => by cases ha; exact lt_of_row row⟩, fun a ha _ => by cases ha; exact .inr ⟨_, _, row⟩⟩
theorem one_bytes {x : Int} (h : 0 ≤ x ∧ x < 256) : Bytes [x] := by
  intro y hy
  rw [List.mem_singleton.1 hy]
  exact h
theorem palloc_const (h : PAt w wr b ps pd p) (hk : Ok p.S) (hk2 : Ok p.room.1.S) (hfew : p.frames.length ≤ 900) (x : Int) (hx : 0 ≤ x ∧ x < 256) (fr : Nat × Nat) :
    Calls Tryz.prog 12 #[.pointer (some ⟨b, 0, none⟩), .int .i64 5, .slice (some ⟨wr.heap.size, 0, none⟩) 1 1] (wr.alloc (.cells #[.int .u8 x] 5 fr)) fun e w' => e = .returned (.tuple #[.int .i64 (p.alloc 5 [x]).2.1, .int .i64 (p.alloc 5 [x]).2.2]) ∧ PAt w w' b ps pd (p.alloc 5 [x]).1 :=
  palloc_on (h.later ((Below.refl wr.heap.size wr).alloc (Nat.le_refl _) _)) hk hk2 hfew 5 (one8 w wr x fr) (one_bytes hx) (by simp)
theorem pset_const (h : PAt w wr b ps pd p) (hg : Good p) (id : Int) (x : Int) (hx : 0 ≤ x ∧ x < 256) (fr : Nat × Nat) :
    Calls Tryz.prog 37 #[.pointer (some ⟨b, 0, none⟩), .int .i64 id, .int .i64 5, .slice (some ⟨wr.heap.size, 0, none⟩) 1 1] (wr.alloc (.cells #[.int .u8 x] 5 fr)) fun e w' => e = .returned (.int .i64 (p.set id 5 [x]).2) ∧ PAt w w' b ps pd (p.set id 5 [x]).1 :=
  pset_on (h.later ((Below.refl wr.heap.size wr).alloc (Nat.le_refl _) _)) hg id 5 (one8 w wr x fr) (one_bytes hx) (by simp)
end
theorem awake8_any (w : World) : Calls Tryz.prog 8 #[] w fun e w' => e = .returned (.bool true) ∧ Below w.heap.size w w' := by
  obtain ⟨sF, pA, pB, pS, pG, pH, pI, fF, fA, fB, fS, fG, fH, fI, fJ⟩ := aw8_facts
  have FF := Hide.mk fF
  have FA := Hide.mk fA
  have FB := Hide.mk fB
  have FS := Hide.mk fS
  have FG := Hide.mk fG
  have FH := Hide.mk fH
  have FI := Hide.mk fI
  have FJ := Hide.mk fJ
  clear fF fA fB fS fG fH fI fJ
  have hcv := fun (w : World) (C : Array Value) (n c : Nat) => Lib.run_convert_bytes_const (P := Tryz.prog) w 22 5 C n c Tryz.underlying22 Tryz.underlying5
  go_enter Tryz.func8, Tryz.ntmps8
  go_wp2_with (first
    | (go_at_call 10
       refine (new_on 20 _).mono ?_
       rintro e w1 ⟨pd, rfl, hd⟩
       have HFM0 := format_on hd ⟨by decide, by decide⟩
       rw [FF.out] at HFM0
       simp only [ptrOf_ok] at HFM0
       have HFM := Hide.mk HFM0
       clear hd HFM0)
    | (go_at_call 9
       with_reducible refine HFM.out.mono ?_
       rintro e w2 ⟨ps, rfl, hs⟩
       have HPN := Hide.mk (pnew_on hs 1 (by decide) (by decide))
       clear hs)
    | (go_at_call 11
       with_reducible refine HPN.out.mono ?_
       rintro e w3 ⟨b, rfl, hs⟩
       have P3 := Hide.mk hs
       have CA := Hide.mk (fun wx (h : PAt w wx b ps pd (Pl.new sF 1)) => by have := palloc_const h FA.out.1 FA.out.2.1 (Nat.zero_le _) 97 (by decide) (1, 2); rw [FA.out.2.2] at this; exact this)
       have CB := Hide.mk (fun wx (h : PAt w wx b ps pd pA) => by have := palloc_const h FB.out.1 FB.out.2.1 FB.out.2.2.1 98 (by decide) (1, 2); rw [FB.out.2.2.2] at this; exact this)
       have CH := Hide.mk (fun wx (h : PAt w wx b ps pd pB) => by have := held_on h FS.out.2.1.few; rw [FS.out.1] at this; exact this)
       have CS := Hide.mk (fun wx (h : PAt w wx b ps pd pB) => by have := pset_const h FS.out.2.1 2 99 (by decide) (1, 2); rw [FS.out.2.2] at this; exact this)
       have CG := Hide.mk (fun wx (h : PAt w wx b ps pd pS) => by have := get_on h FG.out.1 1; rw [FG.out.2] at this; exact this)
       have CK := Hide.mk (fun wx (h : PAt w wx b ps pd pG) => by have := get_on h FH.out.1 2; rw [FH.out.2] at this; exact this)
       have CHI := Hide.mk (fun wx (h : PAt w wx b ps pd pH) => by have := hits_on h; rw [FI.out.2.1] at this; exact this)
       have CMI := Hide.mk (fun wx (h : PAt w wx b ps pd pH) => by have := misses_on h; rw [FI.out.2.2.1] at this; exact this)
       have CPI := Hide.mk (fun wx (h : PAt w wx b ps pd pH) => by have := pin_on h FI.out.1 2; rw [FI.out.2.2.2] at this; exact this)
       have CPJ := Hide.mk (fun wx (h : PAt w wx b ps pd pI) => by have := pin_on h FJ.out.1 1; rw [FJ.out.2] at this; exact this)
       clear hs)
    | (go_at_call 12
       with_reducible refine (CA.out _ P3.out).mono ?_
       rintro e w4 ⟨rfl, hs⟩
       have P4 := Hide.mk hs
       clear hs)
    | (go_at_call 12
       with_reducible refine (CB.out _ P4.out).mono ?_
       rintro e w5 ⟨rfl, hs⟩
       have P5 := Hide.mk hs
       clear hs)
    | (go_at_call 15
       with_reducible refine (CH.out _ P5.out).mono ?_
       rintro e w6 ⟨A6, c6, rfl, _, _, hs⟩
       have P6 := Hide.mk hs
       clear hs)
    | (go_at_call 37
       with_reducible refine (CS.out _ P6.out).mono ?_
       rintro e w7 ⟨rfl, hs⟩
       have P7 := Hide.mk hs
       clear hs)
    | (go_at_call 14
       with_reducible refine (CG.out _ P7.out).mono ?_
       rintro e w8 ⟨hk, A8, c8, rfl, hi, hs⟩
       have P8 := Hide.mk hs
       have I8 := Hide.mk hi
       rw [show ([97] : List Int).length = 1 from rfl]
       clear hk hi hs)
    | (go_at_call 14
       with_reducible refine (CK.out _ P8.out).mono ?_
       rintro e w9 ⟨hk, A9, c9, rfl, hi, hs⟩
       have P9 := Hide.mk hs
       have I9 := Hide.mk hi
       rw [show ([99] : List Int).length = 1 from rfl]
       have I8b := I8.out.keep hk
       have cv1 : (convert 22 9 (.slice A8 1 c8)).run Tryz.prog w9 = .ok (.string (strOfNums [97])) w9 := Kd.C_string Tryz.underlying22 Tryz.underlying5 Tryz.underlying9 I8b.in_.reads
       have cv2 : (convert 22 9 (.slice A9 1 c9)).run Tryz.prog w9 = .ok (.string (strOfNums [99])) w9 := Kd.C_string Tryz.underlying22 Tryz.underlying5 Tryz.underlying9 hi.in_.reads
       have se1 : (strOfNums [97]).toList = [97] := by simp [strOfNums]
       have se2 : (strOfNums [99]).toList = [99] := by simp [strOfNums]
       clear I8b
       clear hk hi hs)
    | (go_at_call 38
       with_reducible refine (CHI.out _ P9.out).mono ?_
       rintro e w10 ⟨rfl, hw⟩
       have hw1 := hw.symm
       subst hw1)
    | (go_at_call 39
       with_reducible refine (CMI.out _ P9.out).mono ?_
       rintro e w11 ⟨rfl, hw⟩
       have hw1 := hw.symm
       subst hw1)
    | (go_at_call 13
       with_reducible refine (CPI.out _ P9.out).mono ?_
       rintro e w12 ⟨rfl, hs⟩
       have P12 := Hide.mk hs
       clear hs)
    | (go_at_call 13
       with_reducible refine (CPJ.out _ P12.out).mono ?_
       rintro e w13 ⟨rfl, hs⟩
       have P13 := Hide.mk hs
       clear hs))
  go_ret
  exact ⟨rfl, P13.out.below⟩
end Go.Proofs.YtgmkbcoahilkhaaGreat.Pool
end
