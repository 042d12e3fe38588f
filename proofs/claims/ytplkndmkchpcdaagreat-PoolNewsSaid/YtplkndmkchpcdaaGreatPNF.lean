/- The words, and the contracts of the functions that are reached, one behind the other. -/
import Derived.SizedLaws
import Derived.ChangeSlices
import Derived.Test.YtplkndmkchpcdaaGreatPNE
set_option linter.unusedVariables false
set_option linter.unusedSimpArgs false
section
namespace Go.Proofs.YtplkndmkchpcdaaGreat.Pool
open Go.RowKit YtplkndmkchpcdaaGreatW.PrintWords YtplkndmkchpcdaaGreatW.PrintLast YtplkndmkchpcdaaGreatW.PrintMore MapFn Disk Page Num Bitset Sh
set_option maxHeartbeats 16000000
set_option maxRecDepth 100000
section
variable {w wr : World} {b ps pd : Nat} {p : Pl}
theorem one8 (w wr : World) (x : Int) (fr : Nat × Nat) : In8 w (wr.alloc (.cells #[.int .u8 x] 5 fr)) (some ⟨wr.heap.size, 0, none⟩) [x] 1 := by
  have row := heap_last wr (.cells #[.int .u8 x] 5 fr)
  exact ⟨⟨C_of_rowF (l := [x]) row (by simp), Nat.le_refl _, fun a ha _ => by cases ha; exact lt_of_row row⟩, fun a ha _ => by cases ha; exact .inr ⟨_, _, row⟩⟩
theorem one_bytes {x : Int} (h : 0 ≤ x ∧ x < 256) : Bytes [x] := by
  intro y hy
  rw [List.mem_singleton.1 hy]
  exact h
theorem palloc_const (h : PAt w wr b ps pd p) (hk : Ok p.S) (hk2 : Ok p.room.1.S) (hfew : p.frames.length ≤ 900) (x : Int) (hx : 0 ≤ x ∧ x < 256) (fr : Nat × Nat) :
    Calls Tryz.prog 13 #[.pointer (some ⟨b, 0, none⟩), .int .i64 5, .slice (some ⟨wr.heap.size, 0, none⟩) 1 1] (wr.alloc (.cells #[.int .u8 x] 5 fr)) fun e w' => e = .returned (.tuple #[.int .i64 (p.alloc 5 [x]).2.1, .int .i64 (p.alloc 5 [x]).2.2]) ∧ PAt w w' b ps pd (p.alloc 5 [x]).1 :=
  palloc_on (h.later ((Below.refl wr.heap.size wr).alloc (Nat.le_refl _) _)) hk hk2 hfew 5 (one8 w wr x fr) (one_bytes hx) (by simp)
theorem pset_const (h : PAt w wr b ps pd p) (hg : Good p) (id : Int) (x : Int) (hx : 0 ≤ x ∧ x < 256) (fr : Nat × Nat) :
    Calls Tryz.prog 36 #[.pointer (some ⟨b, 0, none⟩), .int .i64 id, .int .i64 5, .slice (some ⟨wr.heap.size, 0, none⟩) 1 1] (wr.alloc (.cells #[.int .u8 x] 5 fr)) fun e w' => e = .returned (.int .i64 (p.set id 5 [x]).2) ∧ PAt w w' b ps pd (p.set id 5 [x]).1 :=
  pset_on (h.later ((Below.refl wr.heap.size wr).alloc (Nat.le_refl _) _)) hg id 5 (one8 w wr x fr) (one_bytes hx) (by simp)
end
theorem awake8_any (w : World) : Calls Tryz.prog 9 #[] w fun e w' => e = .returned (.bool true) ∧ Below w.heap.size w w' := by
  obtain ⟨sF, pA, pB, pS, pG, pH, pI, fF, fA, fB, fS, fG, fH, fI, fJ⟩ := aw8_facts
  have FF := Hide.mk fF
  have FA := Hide.mk fA
  have FB := Hide.mk fB
  have FS := Hide.mk fS
  have FG := Hide.mk fG
  have FH := Hide.mk fH
  have FI := Hide.mk fI
  have FJ := Hide.mk fJ
  clear fF fA fB fS fG fH fI fJ
  have hcv := fun (w : World) (C : Array Value) (n c : Nat) => Lib.run_convert_bytes_const (P := Tryz.prog) w 22 5 C n c Tryz.underlying22 Tryz.underlying5
  go_enter Tryz.func9, Tryz.ntmps9
  go_wp2_with (first
    | (go_at_call 11
       refine (new_on 20 _).mono ?_
       rintro e w1 ⟨pd, rfl, hd⟩
       have HFM0 := format_on hd ⟨by decide, by decide⟩
       rw [FF.out] at HFM0
       simp only [ptrOf_ok] at HFM0
       have HFM := Hide.mk HFM0
       clear hd HFM0)
    | (go_at_call 10
       with_reducible refine HFM.out.mono ?_
       rintro e w2 ⟨ps, rfl, hs⟩
       have HPN := Hide.mk (pnew_on hs 1 (by decide) (by decide))
       clear hs)
    | (go_at_call 12
       with_reducible refine HPN.out.mono ?_
       rintro e w3 ⟨b, rfl, hs⟩
       have P3 := Hide.mk hs
       have CA := Hide.mk (fun wx (h : PAt w wx b ps pd (Pl.new sF 1)) => by have := palloc_const h FA.out.1 FA.out.2.1 (Nat.zero_le _) 97 (by decide) (1, 2); rw [FA.out.2.2] at this; exact this)
       have CB := Hide.mk (fun wx (h : PAt w wx b ps pd pA) => by have := palloc_const h FB.out.1 FB.out.2.1 FB.out.2.2.1 98 (by decide) (1, 2); rw [FB.out.2.2.2] at this; exact this)
       have CH := Hide.mk (fun wx (h : PAt w wx b ps pd pB) => by have := held_on h FS.out.2.1.few; rw [FS.out.1] at this; exact this)
       have CS := Hide.mk (fun wx (h : PAt w wx b ps pd pB) => by have := pset_const h FS.out.2.1 2 99 (by decide) (1, 2); rw [FS.out.2.2] at this; exact this)
       have CG := Hide.mk (fun wx (h : PAt w wx b ps pd pS) => by have := get_on h FG.out.1 1; rw [FG.out.2] at this; exact this)
       have CK := Hide.mk (fun wx (h : PAt w wx b ps pd pG) => by have := get_on h FH.out.1 2; rw [FH.out.2] at this; exact this)
       have CHI := Hide.mk (fun wx (h : PAt w wx b ps pd pH) => by have := hits_on h; rw [FI.out.2.1] at this; exact this)
       have CMI := Hide.mk (fun wx (h : PAt w wx b ps pd pH) => by have := misses_on h; rw [FI.out.2.2.1] at this; exact this)
       have CPI := Hide.mk (fun wx (h : PAt w wx b ps pd pH) => by have := pin_on h FI.out.1 2; rw [FI.out.2.2.2] at this; exact this)
       have CPJ := Hide.mk (fun wx (h : PAt w wx b ps pd pI) => by have := pin_on h FJ.out.1 1; rw [FJ.out.2] at this; exact this)
       clear hs)
    | (go_at_call 13
       with_reducible refine (CA.out _ P3.out).mono ?_
       rintro e w4 ⟨rfl, hs⟩
       have P4 := Hide.mk hs
       clear hs)
    | (go_at_call 13
       with_reducible refine (CB.out _ P4.out).mono ?_
       rintro e w5 ⟨rfl, hs⟩
       have P5 := Hide.mk hs
       clear hs)
    | (go_at_call 16
       with_reducible refine (CH.out _ P5.out).mono ?_
       rintro e w6 ⟨A6, c6, rfl, _, _, hs⟩
       have P6 := Hide.mk hs
       clear hs)
    | (go_at_call 36
       with_reducible refine (CS.out _ P6.out).mono ?_
       rintro e w7 ⟨rfl, hs⟩
       have P7 := Hide.mk hs
       clear hs)
    | (go_at_call 15
       with_reducible refine (CG.out _ P7.out).mono ?_
       rintro e w8 ⟨hk, A8, c8, rfl, hi, hs⟩
       have P8 := Hide.mk hs
       have I8 := Hide.mk hi
       rw [show ([97] : List Int).length = 1 from rfl]
       clear hk hi hs)
    | (go_at_call 15
       with_reducible refine (CK.out _ P8.out).mono ?_
       rintro e w9 ⟨hk, A9, c9, rfl, hi, hs⟩
       have P9 := Hide.mk hs
       have I9 := Hide.mk hi
       rw [show ([99] : List Int).length = 1 from rfl]
       have I8b := I8.out.keep hk
       have cv1 : (convert 22 9 (.slice A8 1 c8)).run Tryz.prog w9 = .ok (.string (strOfNums [97])) w9 := Kd.C_string Tryz.underlying22 Tryz.underlying5 Tryz.underlying9 I8b.in_.reads
       have cv2 : (convert 22 9 (.slice A9 1 c9)).run Tryz.prog w9 = .ok (.string (strOfNums [99])) w9 := Kd.C_string Tryz.underlying22 Tryz.underlying5 Tryz.underlying9 hi.in_.reads
       have se1 : (strOfNums [97]).toList = [97] := by simp [strOfNums]
       have se2 : (strOfNums [99]).toList = [99] := by simp [strOfNums]
       clear I8b
       clear hk hi hs)
    | (go_at_call 41
       with_reducible refine (CHI.out _ P9.out).mono ?_
       rintro e w10 ⟨rfl, hw⟩
       have hw1 := hw.symm
       subst hw1)
    | (go_at_call 42
       with_reducible refine (CMI.out _ P9.out).mono ?_
       rintro e w11 ⟨rfl, hw⟩
       have hw1 := hw.symm
       subst hw1)
    | (go_at_call 14
       with_reducible refine (CPI.out _ P9.out).mono ?_
       rintro e w12 ⟨rfl, hs⟩
       have P12 := Hide.mk hs
       clear hs)
    | (go_at_call 14
       with_reducible refine (CPJ.out _ P12.out).mono ?_
       rintro e w13 ⟨rfl, hs⟩
       have P13 := Hide.mk hs
       clear hs))
  go_ret
  exact ⟨rfl, P13.out.below⟩
end Go.Proofs.YtplkndmkchpcdaaGreat.Pool
end
section
namespace Go.Proofs.YtplkndmkchpcdaaGreat.Sh
open Go.RowKit Bitset
theorem taken_has {s : Sh} (hu : Bytes s.used) (hf : Bytes s.fresh) (n : Nat) : hasN s.taken n = (hasN s.used n || hasN s.fresh n) := hasN_join hu hf n
theorem withL_has {m : List Int} (hm : Bytes m) {n : Int} (h0 : 0 ≤ n) (h1 : n < 8 * (m.length : Int)) (on : Bool) (j : Nat) : hasN (withL m n on) j = if (j : Int) = n then on else hasN m j := by
  unfold withL
  rw [if_pos ⟨h0, h1⟩, hasN_withN hm _ _ (by omega)]
  by_cases c : (j : Int) = n
  · rw [if_pos c, if_pos (by omega)]
  · rw [if_neg c, if_neg (by omega)]
theorem withL_by {m : List Int} (hm : Bytes m) (n : Int) (on : Bool) : Bytes (withL m n on) ∧ (withL m n on).length = m.length := by
  unfold withL
  split
  · exact ⟨withN_bytes hm _ _, withN_length _ _ _⟩
  · exact ⟨hm, rfl⟩
theorem fold_has : ∀ (l : List Int) (m : List Int), Bytes m → (∀ n ∈ l, 0 ≤ n ∧ n < 8 * (m.length : Int)) → Bytes (l.foldl (fun m n => withL m n true) m) ∧ (l.foldl (fun m n => withL m n true) m).length = m.length ∧ ∀ j : Nat, hasN (l.foldl (fun m n => withL m n true) m) j = (hasN m j || decide ((j : Int) ∈ l))
  | [], m, hm, _ => ⟨hm, rfl, fun j => by simp⟩
  | n :: r, m, hm, h => by
    obtain ⟨hb, hl⟩ := withL_by hm n true
    have hn := h n (by simp)
    obtain ⟨h1, h2, h3⟩ := fold_has r (withL m n true) hb (fun x hx => by rw [hl]; exact h x (by simp [hx]))
    refine ⟨h1, h2.trans hl, fun j => ?_⟩
    rw [List.foldl_cons, h3, withL_has hm hn.1 hn.2]
    by_cases c : (j : Int) = n
    · rw [if_pos c]; simp [c]
    · rw [if_neg c]; simp [c]
theorem used_has {r : Root} {t : List Int} (h : ∀ n ∈ t ++ r.tables ++ r.maps, 0 ≤ n ∧ n < 8 * ((emptyB r.blocks).length : Int)) (h2 : 1 < 8 * ((emptyB r.blocks).length : Int)) :
    Bytes (usedL r t) ∧ (usedL r t).length = (emptyB r.blocks).length ∧ ∀ j : Nat, hasN (usedL r t) j = true ↔ (j = 0 ∨ j = 1 ∨ (j : Int) ∈ t ++ r.tables ++ r.maps) := by
  have he : Bytes (emptyB r.blocks) := fun x hx => by
    unfold emptyB at hx
    rw [(List.mem_replicate.1 hx).2]
    exact zero_byte
  have hz : ∀ j, hasN (emptyB r.blocks) j = false := fun j => by
    unfold hasN at_ emptyB
    rw [List.getD_eq_getElem?_getD, List.getElem?_replicate]
    split <;> exact zero_bit _
  obtain ⟨h3, h4, h5⟩ := fold_has ([1] ++ t ++ r.tables ++ r.maps) (emptyB r.blocks) he (fun n hn => by
    simp only [List.mem_append, List.mem_singleton] at hn h
    rcases hn with ((hn | hn) | hn) | hn
    · rw [hn]; omega
    · exact h n (.inl (.inl hn))
    · exact h n (.inl (.inr hn))
    · exact h n (.inr hn))
  unfold usedL
  obtain ⟨h6, h7⟩ := withL_by h3 0 true
  refine ⟨h6, h7.trans h4, fun j => ?_⟩
  rw [withL_has h3 (by omega) (by rw [h4]; omega), h5, hz]
  by_cases c : (j : Int) = 0
  · rw [if_pos c]
    have : j = 0 := by omega
    simp [this]
  · rw [if_neg c]
    have c1 : ¬ j = 0 := by omega
    simp only [Bool.false_or, decide_eq_true_eq, List.mem_append, List.mem_singleton, c1, false_or]
    constructor
    · rintro (((q | q) | q) | q)
      · exact .inl (by omega)
      · exact .inr (.inl (.inl q))
      · exact .inr (.inl (.inr q))
      · exact .inr (.inr q)
    · rintro (q | ((q | q) | q))
      · exact .inl (.inl (.inl (by omega)))
      · exact .inl (.inl (.inr q))
      · exact .inl (.inr q)
      · exact .inr q
end Go.Proofs.YtplkndmkchpcdaaGreat.Sh
end
section
namespace Go.Proofs.YtplkndmkchpcdaaGreat.Sh
open Go.RowKit Bitset
end Go.Proofs.YtplkndmkchpcdaaGreat.Sh
end
section
namespace Go.Proofs.YtplkndmkchpcdaaGreat.Sh
open Go.RowKit Disk Page Num Bitset
set_option maxRecDepth 100000
theorem be_put1 {n : Int} (h0 : 0 ≤ n) (h1 : n < 256) : beN 0 [n] = n := by simp [beN]
theorem be_put2 {n : Int} (h0 : 0 ≤ n) (h1 : n < 65536) : beN 0 (putN 2 n) = n := by
  simp [putN, beN]
  omega
theorem be_put6 {n : Int} (h0 : 0 ≤ n) (h1 : n < 281474976710656) : beN 0 (putN 6 n) = n := by
  simp [putN, beN]
  omega
theorem twosAt_twos (b : List Int) : ∀ (l : List Int) (off : Nat) (rest : List Int), b.drop off = twos l ++ rest → (∀ x ∈ l, 0 ≤ x ∧ x < 65536) → twosAt b l.length off = l
  | [], _, _, _, _ => rfl
  | x :: r, off, rest, h, hb => by
    have hx := hb x (by simp)
    have e : b.drop off = putN 2 x ++ (twos r ++ rest) := by
      rw [h]
      show (putN 2 x ++ twos r) ++ rest = _
      rw [List.append_assoc]
    have e2 : b.drop (off + 2) = twos r ++ rest := by
      rw [← List.drop_drop, e, List.drop_left' (putN_length 2 x)]
    show beN 0 ((b.drop off).take 2) :: twosAt b r.length (off + 2) = x :: r
    rw [twosAt_twos b r (off + 2) rest e2 (fun y hy => hb y (by simp [hy])), e, List.take_left' (putN_length 2 x), be_put2 hx.1 hx.2]
theorem bytes_form (r : Root) : ∃ Z, r.bytes = [114, 111, 111, 116] ++ (putN 6 r.epoch ++ (putN 2 r.blocks ++ (putN 2 r.next ++ (putN 2 r.start ++ ([(r.tables.length : Int)] ++ ([(r.maps.length : Int)] ++ (twos r.tables ++ (twos r.maps ++ Z)))))))) := by
  refine ⟨List.replicate (246 - r.head.length) 0 ++ (tailL r.body ++ putN 6 r.epoch), ?_⟩
  have e3 : twos [r.blocks, r.next, r.start] = putN 2 r.blocks ++ (putN 2 r.next ++ putN 2 r.start) := by simp [twos]
  have eh : r.head = [114, 111, 111, 116] ++ (putN 6 r.epoch ++ (putN 2 r.blocks ++ (putN 2 r.next ++ (putN 2 r.start ++ ([(r.tables.length : Int)] ++ ([(r.maps.length : Int)] ++ (twos r.tables ++ twos r.maps))))))) := by
    unfold Root.head
    rw [e3, show [(r.tables.length : Int), (r.maps.length : Int)] = [(r.tables.length : Int)] ++ [(r.maps.length : Int)] from rfl]
    simp only [List.append_assoc]
  have eb : r.body = r.head ++ List.replicate (246 - r.head.length) 0 := rfl
  have ebs : r.bytes = r.head ++ (List.replicate (246 - r.head.length) 0 ++ (tailL r.body ++ putN 6 r.epoch)) := by
    show r.body ++ tailL r.body ++ putN 6 r.epoch = _
    conv => lhs; lhs; lhs; rw [eb]
    simp only [List.append_assoc]
  rw [ebs]
  generalize List.replicate (246 - r.head.length) 0 ++ (tailL r.body ++ putN 6 r.epoch) = Z
  rw [eh]
  simp only [List.append_assoc]
theorem drop_app {b x y : List Int} {k n : Nat} (h : b.drop k = x ++ y) (hx : x.length = n) : b.drop (k + n) = y := by
  rw [← List.drop_drop, h, List.drop_left' hx]
theorem read_bytes {r : Root} (h : r.check = 0) : Root.read r.bytes = r := by
  obtain ⟨Z, e⟩ := bytes_form r
  obtain ⟨h1, h2⟩ := check_len h
  obtain ⟨⟨c1, c2⟩, ⟨c3, c4⟩, ⟨c5, c6⟩, c7, c8⟩ := check_range h
  have he := check_each h
  have d4 : r.bytes.drop 4 = _ := drop_app (k := 0) (n := 4) e rfl
  have d10 := drop_app d4 (putN_length 6 _)
  have d12 := drop_app d10 (putN_length 2 _)
  have d14 := drop_app d12 (putN_length 2 _)
  have d16 := drop_app d14 (putN_length 2 _)
  have d17 := drop_app d16 (n := 1) rfl
  have d18 := drop_app d17 (n := 1) rfl
  have d19 := drop_app d18 (twos_length _)
  have k1 : beN 0 ((r.bytes.drop 4).take 6) = r.epoch := by rw [d4, List.take_left' (putN_length 6 _), be_put6 c1 (by omega)]
  have k2 : beN 0 ((r.bytes.drop 10).take 2) = r.blocks := by rw [d10, List.take_left' (putN_length 2 _), be_put2 (by omega) (by omega)]
  have k3 : beN 0 ((r.bytes.drop 12).take 2) = r.next := by rw [d12, List.take_left' (putN_length 2 _), be_put2 (by omega) (by omega)]
  have k4 : beN 0 ((r.bytes.drop 14).take 2) = r.start := by rw [d14, List.take_left' (putN_length 2 _), be_put2 (by omega) (by omega)]
  have k5 : beN 0 ((r.bytes.drop 16).take 1) = (r.tables.length : Int) := by rw [d16, show List.take 1 ([(r.tables.length : Int)] ++ ([(r.maps.length : Int)] ++ (twos r.tables ++ (twos r.maps ++ Z)))) = [(r.tables.length : Int)] from rfl, be_put1 (by omega) (by omega)]
  have k6 : beN 0 ((r.bytes.drop 17).take 1) = (r.maps.length : Int) := by rw [d17, show List.take 1 ([(r.maps.length : Int)] ++ (twos r.tables ++ (twos r.maps ++ Z))) = [(r.maps.length : Int)] from rfl, be_put1 (by omega) (by omega)]
  have n5 : (if (r.tables.length : Int) < 26 then (r.tables.length : Int) else 26).toNat = r.tables.length := by split <;> omega
  have n6 : (if (r.maps.length : Int) < 3 then (r.maps.length : Int) else 3).toNat = r.maps.length := by split <;> omega
  unfold Root.read
  simp only
  rw [k1, k2, k3, k4, k5, k6, n5, n6, twosAt_twos _ r.tables 18 _ d18 (fun x hx => by have := he x (List.mem_append.2 (.inl hx)); omega), twosAt_twos _ r.maps (18 + 2 * r.tables.length) _ d19 (fun x hx => by have := he x (List.mem_append.2 (.inr hx)); omega)]
theorem bytes_end {r : Root} (h : r.check = 0) : r.bytes.drop 250 = putN 6 r.epoch := by
  unfold Root.bytes
  rw [List.drop_left' (by rw [List.length_append, body_len h]; rfl)]
def Lesser (E : Int) (x : List Int) : Prop := (Root.get x).2 = 0 → (Root.get x).1.epoch < E
def Base (E : Int) (y : List Int) : Prop := (E = 0 ∧ y = zeros) ∨ ∃ r0 : Root, r0.check = 0 ∧ r0.epoch = E - 1 ∧ y = r0.bytes
structure OtherAt (E : Int) (x y : List Int) (a b : Nat) : Prop where
  base : Base E y
  b5 : b ≤ 5
  ab : 0 < b → 6 ≤ a
  low : ∀ i, i < 6 → x.getD (4 + i) 0 = if i < a then (putN 6 (E + 1)).getD i 0 else y.getD (4 + i) 0
  high : ∀ i, i < 6 → x.getD (250 + i) 0 = if i < b then (putN 6 (E + 1)).getD i 0 else y.getD (250 + i) 0
  same : (∀ i, i < 6 → x.getD (4 + i) 0 = y.getD (4 + i) 0) → x.drop 4 = y.drop 4
def Other (E : Int) (x : List Int) : Prop := x.length = 256 ∧ ∃ y a b, OtherAt E x y a b
theorem getD_drop (l : List Int) (k i : Nat) : (l.drop k).getD i 0 = l.getD (k + i) 0 := by simp [List.getD_eq_getElem?_getD, List.getElem?_drop]
theorem root_high {r : Root} (h : r.check = 0) (i : Nat) : r.bytes.getD (250 + i) 0 = (putN 6 r.epoch).getD i 0 := by rw [← bytes_end h, getD_drop]
theorem zeros_getD (i : Nat) : zeros.getD i 0 = 0 := by
  unfold zeros
  rw [List.getD_eq_getElem?_getD, List.getElem?_replicate]
  split <;> rfl
theorem put6_last (n : Int) : (putN 6 n).getD 5 0 = n % 256 := by simp [putN]
theorem Base.last {E : Int} {y : List Int} (h : Base E y) : y.getD 255 0 ≠ (putN 6 (E + 1)).getD 5 0 := by
  rw [put6_last]
  rcases h with ⟨rfl, rfl⟩ | ⟨r0, hc, he, rfl⟩
  · rw [zeros_getD]; decide
  · rw [show 255 = 250 + 5 from rfl, root_high hc, put6_last, he]
    omega
theorem Other.root {r0 : Root} (h : r0.check = 0) {E : Int} (he : r0.epoch = E - 1) : Other E r0.bytes :=
  ⟨bytes_len h, r0.bytes, 0, 0, ⟨.inr ⟨r0, h, he, rfl⟩, by omega, fun h => by omega, fun i _ => by rw [if_neg (by omega)], fun i _ => by rw [if_neg (by omega)], fun _ => rfl⟩⟩
theorem Other.zero : Other 0 zeros :=
  ⟨by simp [zeros], zeros, 0, 0, ⟨.inl ⟨rfl, rfl⟩, by omega, fun h => by omega, fun i _ => by rw [if_neg (by omega)], fun i _ => by rw [if_neg (by omega)], fun _ => rfl⟩⟩
end Go.Proofs.YtplkndmkchpcdaaGreat.Sh
end
section
namespace Go.Proofs.YtplkndmkchpcdaaGreat.Sh
open Go.RowKit Disk Page Num Bitset
set_option maxRecDepth 100000
def Laid (g : Int → List Int) (kind : Int) : List (List Int) → List Int → Nat → Prop
  | [], [], _ => True
  | p :: ps, n :: ns, i => (g n = sealL kind (i : Int) p ∧ sealE kind (i : Int) p.length = 0 ∧ Bytes p) ∧ Laid g kind ps ns (i + 1)
  | _, _, _ => False
theorem Laid.len {g : Int → List Int} {kind : Int} : ∀ {ps : List (List Int)} {bl : List Int} {i : Nat}, Laid g kind ps bl i → ps.length = bl.length
  | [], [], _, _ => rfl
  | [], _ :: _, _, h => h.elim
  | _ :: _, [], _, h => h.elim
  | _ :: ps, _ :: ns, i, h => by simp [Laid.len h.2]
theorem Laid.same {g g' : Int → List Int} {kind : Int} : ∀ {ps : List (List Int)} {bl : List Int} {i : Nat}, Laid g kind ps bl i → (∀ n ∈ bl, g' n = g n) → Laid g' kind ps bl i
  | [], [], _, _, _ => trivial
  | [], _ :: _, _, h, _ => h.elim
  | _ :: _, [], _, h, _ => h.elim
  | _ :: ps, n :: ns, i, h, hs => ⟨⟨(hs n (by simp)).trans h.1.1, h.1.2⟩, Laid.same h.2 fun m hm => hs m (by simp [hm])⟩
theorem splitF_most {n : Nat} : ∀ (f : Nat) (l : List Int), ∀ p ∈ splitF f n l, p.length ≤ n
  | 0, l, p, hp => by cases hp
  | f + 1, [], p, hp => by cases hp
  | f + 1, x :: r, p, hp => by
    rcases List.mem_cons.1 hp with rfl | hp
    · rw [List.length_take]; omega
    · exact splitF_most f _ p hp
theorem splitL_most (l : List Int) : ∀ p ∈ splitL 246 l, p.length ≤ 246 := splitF_most _ _
structure Fit (N : Int) (r : Root) (t : List Int) : Prop where
  check : r.check = 0
  blocks : r.blocks = N
  len : (t.length : Int) = r.next + 1
  zero : t.getD 0 0 = 0
  last : 1 < t.length → t.getD (t.length - 1) 0 ≠ 0
  ent : ∀ n ∈ t, n = 0 ∨ (2 ≤ n ∧ n < N)
  start : 0 < r.start → t.getD r.start.toNat 0 ≠ 0
  nodup : (r.tables ++ (r.maps ++ t.filter (fun n => n != 0))).Nodup
def PageAt (g : Int → List Int) (id n : Int) : Prop := ∃ k b, sealE k id b.length = 0 ∧ Bytes b ∧ g n = sealL k id b
structure Hold (g : Int → List Int) (r : Root) (t : List Int) : Prop where
  crown : g (r.epoch % 2) = r.bytes
  other : Other r.epoch (g (1 - r.epoch % 2))
  tabs : Laid g 1 (splitL 246 (wordsL (t.drop 1))) r.tables 0
  maps : Laid g 2 (splitL 246 (usedL r t)) r.maps 0
  page : ∀ i : Nat, t.getD i 0 ≠ 0 → PageAt g i (t.getD i 0)
theorem Fit.range {N : Int} {r : Root} {t : List Int} (h : Fit N r t) : 2 ≤ N ∧ N ≤ 4096 := by
  have := (check_range h.check).2.1
  rw [h.blocks] at this
  exact this
theorem mem_getD {t : List Int} {i : Nat} (h : t.getD i 0 ≠ 0) : t.getD i 0 ∈ t ∧ i < t.length := by
  rcases Nat.lt_or_ge i t.length with c | c
  · rw [getD_lt c]
    exact ⟨List.getElem_mem c, c⟩
  · exact absurd (getD_ge c 0) h
theorem Fit.pos {N : Int} {r : Root} {t : List Int} (h : Fit N r t) : 0 < t.length := by
  have := h.len
  have := (check_range h.check).2.2.1.1
  omega
theorem Fit.each {N : Int} {r : Root} {t : List Int} (h : Fit N r t) : ∀ n ∈ r.tables ++ r.maps, 2 ≤ n ∧ n < N := fun n hn => by
  have := check_each h.check n hn
  rw [h.blocks] at this
  omega
theorem clamp_room {N : Int} (h0 : 2 ≤ N) (h1 : N ≤ 4096) : N ≤ 8 * ((emptyB N).length : Int) ∧ 1 ≤ (emptyB N).length := by
  rw [emptyB_len]
  unfold Given.clampN
  have e : (if 4096 < N then 4096 else N) = N := if_neg (by omega)
  rw [e, if_pos (by omega)]
  omega
theorem Fit.used {N : Int} {r : Root} {t : List Int} (h : Fit N r t) : Bytes (usedL r t) ∧ (usedL r t).length = (emptyB N).length ∧ ∀ j : Nat, hasN (usedL r t) j = true ↔ (j = 0 ∨ j = 1 ∨ (j : Int) ∈ t ++ r.tables ++ r.maps) := by
  obtain ⟨h0, h1⟩ := h.range
  obtain ⟨c1, c2⟩ := clamp_room h0 h1
  have := used_has (r := r) (t := t) (fun n hn => by
    rw [h.blocks]
    rw [List.append_assoc, List.mem_append] at hn
    rcases hn with q | q
    · rcases h.ent n q with q | q <;> omega
    · have := h.each n q
      omega) (by rw [h.blocks]; omega)
  rw [h.blocks] at this
  exact this
def Dur (r : Root) (t : List Int) (n : Int) : Prop := n = 0 ∨ n = 1 ∨ n ∈ r.tables ∨ n ∈ r.maps ∨ n ∈ t
theorem Fit.dur {N : Int} {r : Root} {t : List Int} (h : Fit N r t) (j : Nat) : hasN (usedL r t) j = true ↔ Dur r t j := by
  rw [h.used.2.2 j]
  unfold Dur
  simp only [List.mem_append]
  constructor
  · rintro (q | q | (q | q) | q)
    · exact .inl (by omega)
    · exact .inr (.inl (by omega))
    · exact .inr (.inr (.inr (.inr q)))
    · exact .inr (.inr (.inl q))
    · exact .inr (.inr (.inr (.inl q)))
  · rintro (q | q | q | q | q)
    · exact .inl (by omega)
    · exact .inr (.inl (by omega))
    · exact .inr (.inr (.inl (.inr q)))
    · exact .inr (.inr (.inr q))
    · exact .inr (.inr (.inl (.inl q)))
theorem seen_ok (r : Root) (k : Nat) : ∀ (l : List Int) (i : Nat) (seen : Int → Bool), (∀ j, l.getD j 1 = 0 → k ≤ i + j) → (l.filter (fun n => n != 0)).Nodup → (∀ n ∈ l, n ≠ 0 → n < r.blocks ∧ seen n = false) → seenF r k l i seen = true
  | [], _, _, _, _, _ => rfl
  | n :: ns, i, seen, h1, h2, h3 => by
    rw [seenF_cons]
    by_cases c : n = 0
    · have h10 := h1 0 (by simpa using c)
      rw [if_pos ⟨c, by simpa using h10⟩]
      rw [List.filter_cons_of_neg (by simpa using c)] at h2
      exact seen_ok r k ns (i + 1) seen (fun j hj => by have := h1 (j + 1) (by simpa using hj); omega) h2 fun m hm => h3 m (by simp [hm])
    · rw [List.filter_cons_of_pos (by simpa using c)] at h2
      obtain ⟨h4, h5⟩ := List.nodup_cons.1 h2
      obtain ⟨h6, h7⟩ := h3 n (by simp) c
      rw [if_neg (fun q => c q.1), if_neg (by rw [h7]; simp; omega)]
      refine seen_ok r k ns (i + 1) _ (fun j hj => by have := h1 (j + 1) (by simpa using hj); omega) h5 fun m hm hm0 => ?_
      obtain ⟨h8, h9⟩ := h3 m (by simp [hm]) hm0
      refine ⟨h8, ?_⟩
      have : m ≠ n := fun e => h4 (List.mem_filter.2 ⟨by rw [← e]; exact hm, by simpa using c⟩)
      rw [h9]
      simp [this]
theorem filter_all {l : List Int} (h : ∀ n ∈ l, n ≠ 0) : l.filter (fun n => n != 0) = l := List.filter_eq_self.2 fun n hn => by simpa using h n hn
theorem Fit.seen {N : Int} {r : Root} {t : List Int} (h : Fit N r t) : seenF r (r.tables.length + r.maps.length) (r.tables ++ r.maps ++ t) 0 (fun j => decide (j = 0) || decide (j = 1)) = true := by
  have he := h.each
  refine seen_ok r _ _ 0 _ (fun j hj => ?_) ?_ fun n hn h0 => ?_
  · refine Decidable.byContradiction fun c => ?_
    have hlt : j < (r.tables ++ r.maps).length := by rw [List.length_append]; omega
    rw [List.getD_eq_getElem?_getD, List.getElem?_append_left hlt, List.getElem?_eq_getElem hlt] at hj
    have := he _ (List.getElem_mem hlt)
    simp only [Option.getD_some] at hj
    omega
  · rw [List.filter_append, List.filter_append, filter_all (l := r.tables) (fun n hn => by have := he n (List.mem_append.2 (.inl hn)); omega), filter_all (l := r.maps) (fun n hn => by have := he n (List.mem_append.2 (.inr hn)); omega), List.append_assoc]
    exact h.nodup
  · have hN : 2 ≤ n ∧ n < N := by
      rcases List.mem_append.1 hn with q | q
      · exact he n q
      · rcases h.ent n q with q | q
        · exact absurd q h0
        · exact q
    rw [h.blocks]
    refine ⟨hN.2, ?_⟩
    have h2 : n ≠ 1 := by omega
    simp [h0, h2]
theorem Fit.right {N : Int} {r : Root} {t : List Int} (h : Fit N r t) : right r t (usedL r t) = true := by
  have hr := check_range h.check
  have hlen := h.len
  unfold Sh.right
  rw [if_neg, if_neg (by rw [h.seen]; simp)]
  · exact decide_eq_true rfl
  · rintro (q | q | q)
    · exact q hlen
    · have hl := h.last (by omega)
      rw [show t.length - 1 = r.next.toNat by omega] at hl
      exact hl q.2
    · exact h.start q.1 q.2
end Go.Proofs.YtplkndmkchpcdaaGreat.Sh
end
section
namespace Go.Proofs.YtplkndmkchpcdaaGreat.Sh
open Go.RowKit MapFn Disk Page Num Bitset
set_option maxRecDepth 100000
structure Same1 (P : Int → Prop) (D E : DiskSt) : Prop where
  blocks : E.blocks = D.blocks
  safe : E.safe = D.safe
  loose : ∀ n, ¬ P n → E.loose n = D.loose n
  never : D.fails = -1 → E.fails = -1
theorem Same1.get {P : Int → Prop} {D E : DiskSt} (h : Same1 P D E) {n : Int} (hn : ¬ P n) : E.get n = D.get n := by
  unfold DiskSt.get
  rw [h.safe, h.loose n hn]
theorem Same1.refl (P : Int → Prop) (D : DiskSt) : Same1 P D D := ⟨rfl, rfl, fun _ _ => rfl, fun h => h⟩
theorem Same1.trans {P : Int → Prop} {D E F : DiskSt} (h : Same1 P D E) (k : Same1 P E F) : Same1 P D F :=
  ⟨k.blocks.trans h.blocks, k.safe.trans h.safe, fun n hn => (k.loose n hn).trans (h.loose n hn), fun q => k.never (h.never q)⟩
theorem Same1.mono {P Q : Int → Prop} {D E : DiskSt} (h : Same1 P D E) (hq : ∀ n, P n → Q n) : Same1 Q D E :=
  ⟨h.blocks, h.safe, fun n hn => h.loose n fun q => hn (hq n q), h.never⟩
structure WroteAt (D E : DiskSt) (n : Int) (l : List Int) : Prop where
  up : E.down = false
  get : E.get n = l
  loose : E.loose n = some l
theorem wrote_get (D : DiskSt) (n : Int) (l : List Int) : (D.wrote n l).get n = l ∧ (D.wrote n l).loose n = some l ∧ ∀ m, m ≠ n → (D.wrote n l).loose m = D.loose m := by
  have h1 : (D.wrote n l).loose n = some l := by simp [DiskSt.wrote, upd]
  refine ⟨?_, h1, fun m hm => by simp [DiskSt.wrote, upd, hm]⟩
  unfold DiskSt.get
  rw [h1]
  rfl
theorem write_gen {D : DiskSt} {n : Int} {l : List Int} (hd : D.down = false) (h0 : 0 ≤ n) (h1 : n < D.blocks) (hl : l.length = 256) :
    Same1 (fun m => m = n) D (D.write n l).1 ∧ (((D.write n l).2 = 0 ∧ WroteAt D (D.write n l).1 n l) ∨ ((D.write n l).2 = 11 ∧ (D.write n l).1.down = true ∧ D.fails ≠ -1)) := by
  have ha : D.at_ n = 0 := by
    unfold DiskSt.at_
    rw [hd, if_neg (by simp), if_neg (by omega)]
  have e : D.write n l = D.step (·.wrote n l) := by
    unfold DiskSt.write
    rw [ha, if_neg (by simp), if_neg (by simpa using hl)]
  rw [e]
  unfold DiskSt.step
  by_cases c1 : D.fails = -1
  · rw [if_pos c1]
    obtain ⟨g1, g2, g3⟩ := wrote_get D.op n l
    exact ⟨⟨rfl, rfl, fun m hm => g3 m hm, fun _ => c1⟩, .inl ⟨rfl, hd, g1, g2⟩⟩
  · rw [if_neg c1]
    by_cases c2 : D.fails = 0
    · rw [if_pos c2]
      refine ⟨?_, .inr ⟨rfl, rfl, c1⟩⟩
      by_cases c3 : D.done = true
      · rw [if_pos c3]
        obtain ⟨g1, g2, g3⟩ := wrote_get D.op.fail1 n l
        exact ⟨rfl, rfl, fun m hm => g3 m hm, fun q => absurd q c1⟩
      · rw [if_neg c3]
        exact ⟨rfl, rfl, fun m hm => rfl, fun q => absurd q c1⟩
    · rw [if_neg c2]
      obtain ⟨g1, g2, g3⟩ := wrote_get D.op.fail1 n l
      exact ⟨⟨rfl, rfl, fun m hm => g3 m hm, fun q => absurd q c1⟩, .inl ⟨rfl, hd, g1, g2⟩⟩
theorem settled_get (D : DiskSt) (n : Int) : D.settled.get n = D.get n := by
  unfold DiskSt.get DiskSt.settled mergeM
  simp only
  cases D.loose n <;> rfl
structure Synced (D E : DiskSt) : Prop where
  up : E.down = false
  loose : ∀ n, E.loose n = none
theorem sync_gen {D : DiskSt} (hd : D.down = false) :
    ((D.sync).1.blocks = D.blocks ∧ (∀ n, (D.sync).1.get n = D.get n) ∧ (D.fails = -1 → (D.sync).1.fails = -1)) ∧
    (((D.sync).2 = 0 ∧ Synced D (D.sync).1) ∨ ((D.sync).2 = 11 ∧ (D.sync).1.down = true ∧ D.fails ≠ -1 ∧ ((∀ n, (D.sync).1.loose n = none) ∨ ((D.sync).1.safe = D.safe ∧ (D.sync).1.loose = D.loose)))) := by
  have e : D.sync = D.step DiskSt.settled := by
    unfold DiskSt.sync DiskSt.asked
    rw [hd]
    simp
  rw [e]
  unfold DiskSt.step
  by_cases c1 : D.fails = -1
  · rw [if_pos c1]
    exact ⟨⟨rfl, fun n => settled_get D.op n, fun _ => c1⟩, .inl ⟨rfl, hd, fun n => rfl⟩⟩
  · rw [if_neg c1]
    by_cases c2 : D.fails = 0
    · rw [if_pos c2]
      by_cases c3 : D.done = true
      · rw [if_pos c3]
        exact ⟨⟨rfl, fun n => settled_get D.op.fail1 n, fun q => absurd q c1⟩, .inr ⟨rfl, rfl, c1, .inl fun n => rfl⟩⟩
      · rw [if_neg c3]
        exact ⟨⟨rfl, fun n => rfl, fun q => absurd q c1⟩, .inr ⟨rfl, rfl, c1, .inr ⟨rfl, rfl⟩⟩⟩
    · rw [if_neg c2]
      exact ⟨⟨rfl, fun n => settled_get D.op.fail1 n, fun q => absurd q c1⟩, .inl ⟨rfl, hd, fun n => rfl⟩⟩
structure Inv (N : Int) (s : Sh) : Prop where
  bad : s.bad = false
  up : s.D.down = false
  blocks : s.D.blocks = N
  fit : Fit N s.root s.was
  hold : Hold s.D.get s.root s.was
  used : s.used = usedL s.root s.was
  len : 0 < s.table.length ∧ s.table.length ≤ 3001
  zero : s.table.getD 0 0 = 0
  last : 1 < s.table.length → s.table.getD (s.table.length - 1) 0 ≠ 0
  ent : ∀ i, s.table.getD i 0 ≠ 0 → ∃ n : Nat, s.table.getD i 0 = (n : Int) ∧ 2 ≤ n ∧ (n : Int) < N ∧ (hasN s.used n || hasN s.fresh n) = true
  inj : ∀ i j, s.table.getD i 0 ≠ 0 → s.table.getD j 0 = s.table.getD i 0 → j = i
  page : ∀ i : Nat, s.table.getD i 0 ≠ 0 → PageAt s.D.get i (s.table.getD i 0)
  freshB : Bytes s.fresh ∧ s.fresh.length = (emptyB N).length
  fresh : ∀ n : Nat, hasN s.fresh n = true ↔ (n ≠ 0 ∧ hasN s.used n = false ∧ ∃ i, s.table.getD i 0 = (n : Int))
  start : 0 ≤ s.start ∧ (0 < s.start → s.table.getD s.start.toNat 0 ≠ 0)
  clean : s.dirty = false → s.table = s.was ∧ s.start = s.root.start
  loose : ∀ n : Int, s.D.loose n ≠ none → ¬ Dur s.root s.was n
structure Step (N : Int) (s s' : Sh) : Prop where
  inv : Inv N s'
  root : s'.root = s.root
  was : s'.was = s.was
  get : ∀ n, Dur s.root s.was n → s'.D.get n = s.D.get n
  never : s.D.fails = -1 → s'.D.fails = -1
structure Lost (s s' : Sh) : Prop where
  bad : s'.bad = true
  down : s'.D.down = true
  same : Same1 (fun n => ¬ Dur s.root s.was n) s.D s'.D
  may : s.D.fails ≠ -1
theorem Step.refl {N : Int} {s : Sh} (h : Inv N s) : Step N s s := ⟨h, rfl, rfl, fun _ _ => rfl, fun h => h⟩
theorem Step.trans {N : Int} {a b c : Sh} (h : Step N a b) (k : Step N b c) : Step N a c :=
  ⟨k.inv, k.root.trans h.root, k.was.trans h.was, fun n hn => (k.get n (by rw [h.root, h.was]; exact hn)).trans (h.get n hn), fun q => k.never (h.never q)⟩
theorem Inv.usedB {N : Int} {s : Sh} (h : Inv N s) : Bytes s.used ∧ s.used.length = (emptyB N).length := by
  rw [h.used]
  exact ⟨h.fit.used.1, h.fit.used.2.1⟩
theorem Inv.taken {N : Int} {s : Sh} (h : Inv N s) (n : Nat) : hasN s.taken n = (hasN s.used n || hasN s.fresh n) := taken_has h.usedB.1 h.freshB.1 n
theorem wr_gen {N : Int} {s : Sh} (hb : s.bad = false) (hu : s.D.down = false) (hN : s.D.blocks = N) {n : Int} (h0 : 0 ≤ n) (h1 : n < N) {l : List Int} (hl : l.length = 256) :
    ∃ D, Same1 (fun m => m = n) s.D D ∧ ((s.wr n l = ({ s with D := D }, 0) ∧ WroteAt s.D D n l) ∨ (s.wr n l = ({ s with D := D, bad := true }, 11) ∧ D.down = true ∧ s.D.fails ≠ -1)) := by
  obtain ⟨h2, h3⟩ := write_gen hu h0 (by rw [hN]; exact h1) hl
  refine ⟨_, h2, ?_⟩
  rcases h3 with ⟨e, h3⟩ | ⟨e, h3, h4⟩
  · refine .inl ⟨?_, h3⟩
    unfold Sh.wr Sh.done
    rw [e]
    simp
  · refine .inr ⟨?_, h3, h4⟩
    unfold Sh.wr Sh.done
    rw [e]
    simp
theorem empty_has (N : Int) (j : Nat) : hasN (emptyB N) j = false := by
  unfold hasN at_ emptyB
  rw [List.getD_eq_getElem?_getD, List.getElem?_replicate]
  split <;> exact zero_bit _
theorem nodup_inj {t : List Int} (h : (t.filter (fun n => n != 0)).Nodup) : ∀ i j, t.getD i 0 ≠ 0 → t.getD j 0 = t.getD i 0 → j = i := by
  intro i j h1 h2
  induction t generalizing i j with
  | nil => simp at h1
  | cons x r ih =>
    by_cases c : x = 0
    · rw [List.filter_cons_of_neg (by simpa using c)] at h
      cases i with
      | zero => simp [c] at h1
      | succ i =>
        cases j with
        | zero => simp at h1 h2; rw [c] at h2; exact absurd h2.symm h1
        | succ j => simp at h1 h2; rw [ih h i j (by simpa using h1) (by simpa using h2)]
    · rw [List.filter_cons_of_pos (by simpa using c)] at h
      obtain ⟨h3, h4⟩ := List.nodup_cons.1 h
      have hmem : ∀ k, r.getD k 0 = x → False := fun k hk => h3 (List.mem_filter.2 ⟨by rw [← hk]; exact (mem_getD (by rw [hk]; exact c)).1, by simpa using c⟩)
      cases i with
      | zero =>
        cases j with
        | zero => rfl
        | succ j => exact (hmem j (by simpa using h2)).elim
      | succ i =>
        cases j with
        | zero => exact (hmem i (by simpa using h2.symm)).elim
        | succ j => rw [ih h4 i j (by simpa using h1) (by simpa using h2)]
theorem fresh_inv {N : Int} {D : DiskSt} {r : Root} {t : List Int} (hd : D.down = false) (hb : D.blocks = N) (hf : Fit N r t) (hh : Hold D.get r t) (hl : ∀ n, D.loose n ≠ none → ¬ Dur r t n) :
    Inv N (⟨D, r, t, usedL r t, t, r.start, emptyB r.blocks, false, false⟩ : Sh) := by
  have hr := check_range hf.check
  have hlen := hf.len
  have hU := hf.used
  have hin : ∀ n : Nat, (n : Int) ∈ t → hasN (usedL r t) n = true := fun n hn => (hf.dur n).2 (.inr (.inr (.inr (.inr hn))))
  refine ⟨rfl, hd, hb, hf, hh, rfl, ⟨hf.pos, by show t.length ≤ 3001; omega⟩, hf.zero, hf.last, ?_, ?_, hh.page, ?_, ?_, ⟨hr.2.2.2.1, hf.start⟩, fun _ => ⟨rfl, rfl⟩, hl⟩
  · show ∀ i, t.getD i 0 ≠ 0 → ∃ n : Nat, t.getD i 0 = (n : Int) ∧ 2 ≤ n ∧ (n : Int) < N ∧ (hasN (usedL r t) n || hasN (emptyB r.blocks) n) = true
    intro i hi
    obtain ⟨hm, _⟩ := mem_getD hi
    rcases hf.ent _ hm with q | q
    · exact absurd q hi
    · refine ⟨(t.getD i 0).toNat, by omega, by omega, by omega, ?_⟩
      rw [hin _ (by rw [show (((t.getD i 0).toNat : Nat) : Int) = t.getD i 0 by omega]; exact hm)]
      rfl
  · show ∀ i j, t.getD i 0 ≠ 0 → t.getD j 0 = t.getD i 0 → j = i
    exact nodup_inj ((List.nodup_append.1 (List.nodup_append.1 hf.nodup).2.1).2.1)
  · show Bytes (emptyB r.blocks) ∧ (emptyB r.blocks).length = (emptyB N).length
    rw [hf.blocks]
    exact ⟨emptyB_bytes N, rfl⟩
  · show ∀ n : Nat, hasN (emptyB r.blocks) n = true ↔ (n ≠ 0 ∧ hasN (usedL r t) n = false ∧ ∃ i, t.getD i 0 = (n : Int))
    intro n
    rw [empty_has]
    refine ⟨fun q => (by cases q), ?_⟩
    rintro ⟨q1, q2, i, q3⟩
    have := hin n (by rw [← q3]; exact (mem_getD (by rw [q3]; omega)).1)
    rw [q2] at this
    cases this
end Go.Proofs.YtplkndmkchpcdaaGreat.Sh
end
section
namespace Go.Proofs.YtplkndmkchpcdaaGreat.Sh
open Go.RowKit MapFn Disk Page Num Bitset
set_option maxRecDepth 100000
theorem lay_gen {N kind : Int} (hk : 1 ≤ kind ∧ kind ≤ 5) {bl : List Int} : ∀ (ps : List (List Int)) (i : Nat) (s : Sh), s.bad = false → s.D.down = false → s.D.blocks = N → (∀ p ∈ ps, Bytes p ∧ p.length ≤ 246) → i + ps.length ≤ 3000 →
    ps.length = (bl.drop i).length → (bl.drop i).Nodup → (∀ n ∈ bl.drop i, 0 ≤ n ∧ n < N) →
    ∃ D, Same1 (fun m => m ∈ bl.drop i) s.D D ∧ ((Sh.layF kind bl ps i s = ({ s with D := D }, 0) ∧ D.down = false ∧ Laid D.get kind ps (bl.drop i) i) ∨ (Sh.layF kind bl ps i s = ({ s with D := D, bad := true }, 11) ∧ D.down = true ∧ s.D.fails ≠ -1))
  | [], i, s, hb, hu, hN, hp, hi, hl, hn, hr => by
    have : bl.drop i = [] := List.length_eq_zero_iff.1 hl.symm
    rw [this]
    exact ⟨s.D, Same1.refl _ _, .inl ⟨rfl, hu, trivial⟩⟩
  | p :: ps, i, s, hb, hu, hN, hp, hi, hl, hn, hr => by
    have hlt : i < bl.length := by
      rw [List.length_drop, List.length_cons] at hl
      omega
    have hd : bl.drop i = bl[i] :: bl.drop (i + 1) := List.drop_eq_getElem_cons hlt
    have hg : bl.getD i 0 = bl[i] := getD_lt hlt 0
    obtain ⟨hp1, hp2⟩ := hp p (by simp)
    rw [hd] at hl hn hr
    obtain ⟨hn1, hn2⟩ := List.nodup_cons.1 hn
    obtain ⟨r1, r2⟩ := hr bl[i] List.mem_cons_self
    rw [List.length_cons] at hi
    have hse : sealE kind (i : Int) p.length = 0 := by
      unfold sealE
      rw [if_neg (by omega), if_neg (by omega), if_neg (by omega)]
    obtain ⟨D1, hs, hw⟩ := wr_gen hb hu hN r1 r2 (sealL_len kind i p hp2)
    rw [layF_cons, if_neg (by rw [hse]; simp), hg, hd]
    rcases hw with ⟨e, hw⟩ | ⟨e, hw1, hw2⟩
    · rw [e, if_neg (by simp)]
      obtain ⟨D2, hs2, h2⟩ := lay_gen hk ps (i + 1) { s with D := D1 } hb hw.up (hs.blocks.trans hN) (fun q hq => hp q (by simp [hq])) (by omega) (by rw [List.length_cons, List.length_cons] at hl; omega) hn2 (fun m hm => hr m (List.mem_cons_of_mem _ hm))
      refine ⟨D2, (hs.mono fun m hm => by rw [hm]; exact List.mem_cons_self).trans (hs2.mono fun m hm => List.mem_cons_of_mem _ hm), ?_⟩
      rcases h2 with ⟨e2, h3, h4⟩ | ⟨e2, h3, h4⟩
      · refine .inl ⟨e2, h3, ⟨(hs2.get hn1).trans hw.get, hse, hp1⟩, h4⟩
      · exact .inr ⟨e2, h3, fun q => h4 (hs.never q)⟩
    · rw [e, if_pos (by simp)]
      exact ⟨D1, hs.mono fun m hm => (by rw [hm]; exact List.mem_cons_self), .inr ⟨rfl, hw1, hw2⟩⟩
theorem write_loose {D : DiskSt} {n : Int} {l : List Int} (hd : D.down = false) (h0 : 0 ≤ n) (h1 : n < D.blocks) (hl : l.length = 256) : (D.write n l).1.loose n = D.loose n ∨ (D.write n l).1.loose n = some l := by
  have ha : D.at_ n = 0 := by
    unfold DiskSt.at_
    rw [hd, if_neg (by simp), if_neg (by omega)]
  have e : D.write n l = D.step (·.wrote n l) := by
    unfold DiskSt.write
    rw [ha, if_neg (by simp), if_neg (by simpa using hl)]
  rw [e]
  unfold DiskSt.step
  by_cases c1 : D.fails = -1
  · rw [if_pos c1]
    exact .inr (wrote_get D.op n l).2.1
  · rw [if_neg c1]
    by_cases c2 : D.fails = 0
    · rw [if_pos c2]
      by_cases c3 : D.done = true
      · rw [if_pos c3]
        exact .inr (wrote_get D.op.fail1 n l).2.1
      · rw [if_neg c3]
        exact .inl rfl
    · rw [if_neg c2]
      exact .inr (wrote_get D.op.fail1 n l).2.1
inductive Cut (D E : DiskSt) (r : Root) : Prop
  | none (h1 : E.safe = D.safe) (h2 : E.loose = D.loose)
  | old (h1 : ∀ n, E.loose n = Option.none) (h2 : ∀ n, E.get n = D.get n)
  | half (h1 : ∀ n, n ≠ r.epoch % 2 → E.loose n = Option.none) (h2 : E.loose (r.epoch % 2) = some r.bytes) (h3 : ∀ n, (E.safe n).getD zeros = D.get n)
  | new (h1 : ∀ n, E.loose n = Option.none) (h2 : E.get (r.epoch % 2) = r.bytes) (h3 : ∀ n, n ≠ r.epoch % 2 → E.get n = D.get n)
structure Crowned (D E : DiskSt) (r : Root) : Prop where
  up : E.down = false
  loose : ∀ n, E.loose n = none
  slot : E.get (r.epoch % 2) = r.bytes
  get : ∀ n, n ≠ r.epoch % 2 → E.get n = D.get n
theorem get_safe {D : DiskSt} {n : Int} (h : D.loose n = none) : D.get n = (D.safe n).getD zeros := by unfold DiskSt.get; rw [h]; rfl
theorem shsync_gen {s : Sh} (hb : s.bad = false) (hu : s.D.down = false) :
    ∃ D, (D.blocks = s.D.blocks ∧ (∀ n, D.get n = s.D.get n) ∧ (s.D.fails = -1 → D.fails = -1)) ∧ ((s.sync = ({ s with D := D }, 0) ∧ Synced s.D D) ∨ (s.sync = ({ s with D := D, bad := true }, 11) ∧ D.down = true ∧ s.D.fails ≠ -1 ∧ ((∀ n, D.loose n = none) ∨ (D.safe = s.D.safe ∧ D.loose = s.D.loose)))) := by
  obtain ⟨h1, h2⟩ := sync_gen hu
  refine ⟨_, h1, ?_⟩
  rcases h2 with ⟨e, h2⟩ | ⟨e, h2⟩
  · refine .inl ⟨?_, h2⟩
    unfold Sh.sync Sh.done
    rw [e]
    simp
  · refine .inr ⟨?_, h2⟩
    unfold Sh.sync Sh.done
    rw [e]
    simp
theorem crown_gen {N : Int} {s : Sh} {r : Root} (hb : s.bad = false) (hu : s.D.down = false) (hN : s.D.blocks = N) (h2 : 2 ≤ N) (hr : r.check = 0) :
    ∃ D, (D.blocks = N ∧ (s.D.fails = -1 → D.fails = -1)) ∧ ((s.crown r = ({ s with D := D }, 0) ∧ Crowned s.D D r) ∨ (s.crown r = ({ s with D := D, bad := true }, 11) ∧ D.down = true ∧ s.D.fails ≠ -1 ∧ Cut s.D D r)) := by
  have hp : r.epoch % 2 = 0 ∨ r.epoch % 2 = 1 := by omega
  obtain ⟨D1, ⟨a1, a2, a3⟩, hS⟩ := shsync_gen hb hu
  unfold Sh.crown
  rcases hS with ⟨e, hS⟩ | ⟨e, b1, b2, b3⟩
  · rw [e, if_neg (by simp), if_neg (by rw [hr]; simp)]
    obtain ⟨D2, hs2, hw⟩ := wr_gen (s := { s with D := D1 }) hb hS.up (a1.trans hN) (n := r.epoch % 2) (by omega) (by omega) (bytes_len hr)
    have hnone : ∀ n, n ≠ r.epoch % 2 → D2.loose n = none := fun n hn => (hs2.loose n hn).trans (hS.loose n)
    have hsafe : ∀ n, (D2.safe n).getD zeros = s.D.get n := fun n => by
      rw [hs2.safe, ← a2 n, get_safe (hS.loose n)]
    rcases hw with ⟨e2, hw⟩ | ⟨e2, b1, b2⟩
    · simp only
      rw [e2, if_neg (by simp)]
      obtain ⟨D3, ⟨c1, c2, c3⟩, hS3⟩ := shsync_gen (s := { s with D := D2 }) hb hw.up
      have hslot : D3.get (r.epoch % 2) = r.bytes := (c2 _).trans hw.get
      have hget : ∀ n, n ≠ r.epoch % 2 → D3.get n = s.D.get n := fun n hn => (c2 n).trans ((hs2.get hn).trans (a2 n))
      refine ⟨D3, ⟨c1.trans (hs2.blocks.trans (a1.trans hN)), fun q => c3 (hs2.never (a3 q))⟩, ?_⟩
      rcases hS3 with ⟨e3, hS3⟩ | ⟨e3, d1, d2, d3⟩
      · exact .inl ⟨e3, hS3.up, hS3.loose, hslot, hget⟩
      · refine .inr ⟨e3, d1, fun q => d2 (hs2.never (a3 q)), ?_⟩
        rcases d3 with d3 | ⟨d3, d4⟩
        · exact .new d3 hslot hget
        · exact .half (fun n hn => by rw [d4]; exact hnone n hn) (by rw [d4]; exact hw.loose) (fun n => by rw [d3]; exact hsafe n)
    · simp only
      rw [e2, if_pos (by simp)]
      refine ⟨D2, ⟨hs2.blocks.trans (a1.trans hN), fun q => hs2.never (a3 q)⟩, .inr ⟨rfl, b1, fun q => b2 (a3 q), ?_⟩⟩
      cases hl : D2.loose (r.epoch % 2) with
      | none =>
        have hl2 : ∀ n, D2.loose n = none := fun n => by
          by_cases c : n = r.epoch % 2
          · rw [c]; exact hl
          · exact hnone n c
        exact .old hl2 fun n => by rw [get_safe (hl2 n), hsafe n]
      | some x =>
        have hx : x = r.bytes := by
          have := write_loose (D := D1) (n := r.epoch % 2) (l := r.bytes) hS.up (by omega) (by rw [a1, hN]; omega) (bytes_len hr)
          have e3 : D2 = (D1.write (r.epoch % 2) r.bytes).1 := by
            have := congrArg (fun q => q.1.D) e2
            exact this.symm
          rw [← e3, hl, hS.loose] at this
          rcases this with q | q
          · cases q
          · exact Option.some.inj q
        rw [hx] at hl
        exact .half hnone hl hsafe
  · rw [e, if_pos (by simp)]
    refine ⟨D1, ⟨a1.trans hN, a3⟩, .inr ⟨rfl, b1, b2, ?_⟩⟩
    rcases b3 with b3 | ⟨b3, b4⟩
    · exact .old b3 a2
    · exact .none b3 b4
end Go.Proofs.YtplkndmkchpcdaaGreat.Sh
end
section
namespace Go.Proofs.YtplkndmkchpcdaaGreat.Sh
open Go.RowKit MapFn Disk Page Num Bitset
set_option maxRecDepth 100000
structure Sure (N : Int) (D : DiskSt) (r : Root) (t : List Int) : Prop where
  blocks : D.blocks = N
  fit : Fit N r t
  hold : Hold D.get r t
  loose : ∀ n, D.loose n ≠ none → ¬ Dur r t n
structure Half (N : Int) (D : DiskSt) (r : Root) (t : List Int) (r' : Root) (t' : List Int) : Prop where
  blocks : D.blocks = N
  fit : Fit N r t
  fit' : Fit N r' t'
  epoch : r'.epoch = r.epoch + 1
  loose : ∀ n, n ≠ r'.epoch % 2 → D.loose n = none
  slot : D.loose (r'.epoch % 2) = some r'.bytes
  old : Hold (fun n => (D.safe n).getD zeros) r t
  new : Hold D.get r' t'
def Late (N : Int) (D : DiskSt) (r : Root) (t : List Int) (start : Int) (t' : List Int) : Prop :=
  Sure N D r t ∨ ∃ r' : Root, r'.start = start ∧ (Sure N D r' t' ∨ Half N D r t r' t')
structure Done (N : Int) (s s' : Sh) : Prop where
  inv : Inv N s'
  table : s'.table = s.table
  start : s'.start = s.start
  was : s'.was = s.table
  rstart : s'.root.start = s.start
  dirty : s'.dirty = false
  get : ∀ i, s.table.getD i 0 ≠ 0 → s'.D.get (s.table.getD i 0) = s.D.get (s.table.getD i 0)
  never : s.D.fails = -1 → s'.D.fails = -1
  epoch : s'.root.epoch ≤ s.root.epoch + 1
structure Pages (s s' : Sh) : Prop where
  was : ∀ i, s.was.getD i 0 ≠ 0 → s'.D.get (s.was.getD i 0) = s.D.get (s.was.getD i 0)
  table : ∀ i, s.table.getD i 0 ≠ 0 → s'.D.get (s.table.getD i 0) = s.D.get (s.table.getD i 0)
theorem mapsOf_count (r : Root) (t : List Int) {N : Int} (h : r.blocks = N) : (splitL 246 (usedL r t)).length = mapsOf N := by
  rw [splitL_num, usedL_clamp, mapsOf_num, h]
theorem Inv.maps {N : Int} {s : Sh} (h : Inv N s) : 1 ≤ mapsOf s.root.blocks := by
  rw [h.fit.blocks, mapsOf_num]
  have := clamp_room h.fit.range.1 h.fit.range.2
  rw [emptyB_len] at this
  omega
theorem format_inv {N : Int} {D : DiskSt} (hd : D.down = false) (hb : D.blocks = N) (hf : D.fails = -1) (h4 : N ≤ 4096) (h3 : ¬ N < 3 + (mapsOf N : Int)) :
    ∃ s, Sh.format D = (s, 0) ∧ Inv N s ∧ s.table = [0] ∧ s.was = [0] ∧ s.start = 0 ∧ s.root.start = 0 ∧ s.D.fails = -1 ∧ s.dirty = false := by
  have hc := firstRoot_check h4 h3
  have hm1 : 0 ≤ (mapsOf N : Int) := by omega
  have hmap : ∀ n ∈ (firstRoot N).maps, 2 ≤ n ∧ n < N := fun n hn => by
    have := check_each hc n (List.mem_append.2 (.inr hn))
    have e : (firstRoot N).blocks = N := rfl
    omega
  have hmn : (firstRoot N).maps.Nodup := by
    show ((List.range (mapsOf N)).map fun i => ((2 + i : Nat) : Int)).Nodup
    refine List.Pairwise.map _ (fun a b q => by omega) List.nodup_range
  have hfit : Fit N (firstRoot N) [0] := by
    refine ⟨hc, rfl, rfl, rfl, fun q => absurd q (by simp), fun n hn => .inl (by simpa using hn), fun q => absurd (show (0 : Int) < 0 from q) (by decide), ?_⟩
    show ([] ++ ((firstRoot N).maps ++ [])).Nodup
    simpa using hmn
  unfold Sh.format
  simp only
  rw [hb, if_neg h3]
  obtain ⟨g1, g2⟩ := write_gen (n := 1) (l := zeros) hd (by omega) (by rw [hb]; omega) (by simp [zeros])
  rcases g2 with ⟨e0, g2⟩ | ⟨_, _, q⟩
  rotate_left
  · exact absurd hf q
  rw [if_neg (by rw [e0]; simp)]
  obtain ⟨D1, s1, w1⟩ := lay_gen (N := N) (kind := 2) (by omega) (bl := (firstRoot N).maps) (splitL 246 (usedL (firstRoot N) [0])) 0 { Sh.over D with D := (D.write 1 zeros).1 } rfl g2.up (g1.blocks.trans hb) (fun p hp => ⟨splitL_bytes hfit.used.1 p hp, splitL_most _ p hp⟩) (by rw [mapsOf_count (N := N) _ _ rfl]; have := mapsOf_3 N; omega) (by rw [List.drop_zero, mapsOf_count (N := N) _ _ rfl]; show mapsOf N = ((List.range (mapsOf N)).map fun i => ((2 + i : Nat) : Int)).length; simp) hmn (fun n hn => by have := hmap n hn; omega)
  rw [List.drop_zero] at s1 w1
  have hfn : (D.write 1 zeros).1.fails = -1 := g1.never hf
  rcases w1 with ⟨e1, u1, L1⟩ | ⟨_, _, q⟩
  rotate_left
  · exact absurd hfn q
  have e1' : ({ Sh.over D with D := (D.write 1 zeros).1 } : Sh).lay 2 (splitL 246 (usedL (firstRoot N) (Sh.over D).table)) (firstRoot N).maps = ({ Sh.over D with D := D1 }, 0) := e1
  rw [e1', if_neg (by simp)]
  simp only
  obtain ⟨D3, ⟨b3, n3⟩, w3⟩ := crown_gen (N := N) (s := { Sh.over D with D := D1 }) (r := firstRoot N) rfl u1 (s1.blocks.trans (g1.blocks.trans hb)) (by omega) hc
  rcases w3 with ⟨e3, C⟩ | ⟨_, _, q, _⟩
  rotate_left
  · exact absurd (s1.never hfn) q
  rw [e3, if_neg (by simp)]
  have hslot : (firstRoot N).epoch % 2 = 0 := rfl
  have hH : Hold D3.get (firstRoot N) [0] := by
    refine ⟨C.slot, ?_, trivial, L1.same fun n hn => C.get n (by have := hmap n hn; omega), fun i hi => ?_⟩
    · rw [C.get _ (by rw [hslot]; decide)]
      show Other 0 (D1.get 1)
      rw [s1.get (fun q => by have := hmap _ q; omega), show (({ Sh.over D with D := (D.write 1 zeros).1 } : Sh).D.get 1) = zeros from g2.get]
      exact Other.zero
    · cases i with
      | zero => simp at hi
      | succ i => simp at hi
  exact ⟨_, rfl, fresh_inv (D := D3) C.up b3 hfit hH (fun n hn => absurd (C.loose n) hn), rfl, rfl, rfl, rfl, n3 (s1.never hfn), rfl⟩
end Go.Proofs.YtplkndmkchpcdaaGreat.Sh
end
section
namespace Go.Proofs.YtplkndmkchpcdaaGreat.Pool
open Go.RowKit YtplkndmkchpcdaaGreatW.PrintWords YtplkndmkchpcdaaGreatW.PrintLast YtplkndmkchpcdaaGreatW.PrintMore MapFn Disk Page Num Bitset Sh
set_option maxHeartbeats 16000000
set_option maxRecDepth 100000
theorem poolNews_any (n : Int) (w : World) : Calls Tryz.prog 8 #[.int .i64 n] w fun e w' => e = .returned (.bool true) ∧ Below w.heap.size w w' := by
  obtain ⟨s0, hsf, _⟩ := format_inv (N := 9) (D := DiskSt.new 9) rfl (by decide) rfl (by decide) (by decide +kernel)
  have HSF := Hide.mk hsf
  clear hsf
  by_cases h1 : n < 1
  · go_enter Tryz.func8, Tryz.ntmps8
    go_wp2_with (first
      | (go_at_call 11; refine (new_on 9 _).mono ?_; rintro e w1 ⟨pd, rfl, hd⟩; have HFM0 := format_on hd ⟨by decide, by decide⟩; rw [HSF.out] at HFM0; simp only [ptrOf_ok] at HFM0; have HFM := Hide.mk HFM0; clear hd HFM0)
      | (go_at_call 10; with_reducible refine HFM.out.mono ?_; rintro e w2 ⟨ps, rfl, hs⟩; have HPN := Hide.mk (new_out n (.inl h1) ⟨ps, 0, none⟩ w2); have B3 := Hide.mk hs.below; clear hs)
      | (go_at_call 12; with_reducible refine HPN.out.mono ?_; rintro e w3 ⟨rfl, hw⟩; subst hw)
      | (go_at_call 12; with_reducible refine (new_nil n _).mono ?_; rintro e wx ⟨rfl, hw⟩; subst hw)
      | (go_at_call 15; with_reducible refine (get_nil 1 _).mono ?_; rintro e wx ⟨rfl, hw⟩; subst hw)
      | (go_at_call 13; with_reducible refine (alloc_nil 5 _ _).mono ?_; rintro e wx ⟨rfl, hw⟩; subst hw)
      | (go_at_call 36; with_reducible refine (set_nil 1 5 _ _).mono ?_; rintro e wx ⟨rfl, hw⟩; subst hw)
      | (go_at_call 18; with_reducible refine (free_nil 1 _).mono ?_; rintro e wx ⟨rfl, hw⟩; subst hw)
      | (go_at_call 14; with_reducible refine (pin_nil 1 _).mono ?_; rintro e wx ⟨rfl, hw⟩; subst hw)
      | (go_at_call 17; with_reducible refine (unpin_nil 1 _).mono ?_; rintro e wx ⟨rfl, hw⟩; subst hw)
      | (go_at_call 37; with_reducible refine (flush_nil _).mono ?_; rintro e wx ⟨rfl, hw⟩; subst hw)
      | (go_at_call 38; with_reducible refine (commit_nil _).mono ?_; rintro e wx ⟨rfl, hw⟩; subst hw)
      | (go_at_call 39; with_reducible refine (abort_nil _).mono ?_; rintro e wx ⟨rfl, hw⟩; subst hw)
      | (go_at_call 16; with_reducible refine (held_nil _).mono ?_; rintro e wx ⟨rfl, hw⟩; subst hw)
      | (go_at_call 40; with_reducible refine (pins_nil 1 _).mono ?_; rintro e wx ⟨rfl, hw⟩; subst hw)
      | (go_at_call 41; with_reducible refine (hits_nil _).mono ?_; rintro e wx ⟨rfl, hw⟩; subst hw)
      | (go_at_call 42; with_reducible refine (misses_nil _).mono ?_; rintro e wx ⟨rfl, hw⟩; subst hw)
      | (go_at_call 43; with_reducible refine (under_nil _).mono ?_; rintro e wx ⟨rfl, hw⟩; subst hw)
      | (go_at_call 9; refine (awake8_any _).mono ?_; rintro e wa ⟨rfl, hb⟩; have BA := Hide.mk hb; clear hb))
    go_ret
    exact ⟨rfl, B3.out.trans (BA.out.mono B3.out.size)⟩
  · by_cases h2 : 64 < n
    · go_enter Tryz.func8, Tryz.ntmps8
      go_wp2_with (first
        | (go_at_call 11; refine (new_on 9 _).mono ?_; rintro e w1 ⟨pd, rfl, hd⟩; have HFM0 := format_on hd ⟨by decide, by decide⟩; rw [HSF.out] at HFM0; simp only [ptrOf_ok] at HFM0; have HFM := Hide.mk HFM0; clear hd HFM0)
        | (go_at_call 10; with_reducible refine HFM.out.mono ?_; rintro e w2 ⟨ps, rfl, hs⟩; have HPN := Hide.mk (new_out n (.inr h2) ⟨ps, 0, none⟩ w2); have B3 := Hide.mk hs.below; clear hs)
        | (go_at_call 12; with_reducible refine HPN.out.mono ?_; rintro e w3 ⟨rfl, hw⟩; subst hw)
        | (go_at_call 12; with_reducible refine (new_nil n _).mono ?_; rintro e wx ⟨rfl, hw⟩; subst hw)
        | (go_at_call 15; with_reducible refine (get_nil 1 _).mono ?_; rintro e wx ⟨rfl, hw⟩; subst hw)
        | (go_at_call 13; with_reducible refine (alloc_nil 5 _ _).mono ?_; rintro e wx ⟨rfl, hw⟩; subst hw)
        | (go_at_call 36; with_reducible refine (set_nil 1 5 _ _).mono ?_; rintro e wx ⟨rfl, hw⟩; subst hw)
        | (go_at_call 18; with_reducible refine (free_nil 1 _).mono ?_; rintro e wx ⟨rfl, hw⟩; subst hw)
        | (go_at_call 14; with_reducible refine (pin_nil 1 _).mono ?_; rintro e wx ⟨rfl, hw⟩; subst hw)
        | (go_at_call 17; with_reducible refine (unpin_nil 1 _).mono ?_; rintro e wx ⟨rfl, hw⟩; subst hw)
        | (go_at_call 37; with_reducible refine (flush_nil _).mono ?_; rintro e wx ⟨rfl, hw⟩; subst hw)
        | (go_at_call 38; with_reducible refine (commit_nil _).mono ?_; rintro e wx ⟨rfl, hw⟩; subst hw)
        | (go_at_call 39; with_reducible refine (abort_nil _).mono ?_; rintro e wx ⟨rfl, hw⟩; subst hw)
        | (go_at_call 16; with_reducible refine (held_nil _).mono ?_; rintro e wx ⟨rfl, hw⟩; subst hw)
        | (go_at_call 40; with_reducible refine (pins_nil 1 _).mono ?_; rintro e wx ⟨rfl, hw⟩; subst hw)
        | (go_at_call 41; with_reducible refine (hits_nil _).mono ?_; rintro e wx ⟨rfl, hw⟩; subst hw)
        | (go_at_call 42; with_reducible refine (misses_nil _).mono ?_; rintro e wx ⟨rfl, hw⟩; subst hw)
        | (go_at_call 43; with_reducible refine (under_nil _).mono ?_; rintro e wx ⟨rfl, hw⟩; subst hw)
        | (go_at_call 9; refine (awake8_any _).mono ?_; rintro e wa ⟨rfl, hb⟩; have BA := Hide.mk hb; clear hb))
      go_ret
      exact ⟨rfl, B3.out.trans (BA.out.mono B3.out.size)⟩
    · have HN := Hide.mk (And.intro h1 h2)
      go_enter Tryz.func8, Tryz.ntmps8
      go_wp2_with (first
        | (go_at_call 11; refine (new_on 9 _).mono ?_; rintro e w1 ⟨pd, rfl, hd⟩; have HFM0 := format_on hd ⟨by decide, by decide⟩; rw [HSF.out] at HFM0; simp only [ptrOf_ok] at HFM0; have HFM := Hide.mk HFM0; clear hd HFM0)
        | (go_at_call 10; with_reducible refine HFM.out.mono ?_; rintro e w2 ⟨ps, rfl, hs⟩; have HPN := Hide.mk (pnew_on hs n (by have := HN.out; omega) (by have := HN.out; omega)); clear hs)
        | (go_at_call 12; with_reducible refine HPN.out.mono ?_; rintro e w3 ⟨b, rfl, hp⟩; have B3 := Hide.mk hp.below; clear hp)
        | (go_at_call 12; with_reducible refine (new_nil n _).mono ?_; rintro e wx ⟨rfl, hw⟩; subst hw)
        | (go_at_call 15; with_reducible refine (get_nil 1 _).mono ?_; rintro e wx ⟨rfl, hw⟩; subst hw)
        | (go_at_call 13; with_reducible refine (alloc_nil 5 _ _).mono ?_; rintro e wx ⟨rfl, hw⟩; subst hw)
        | (go_at_call 36; with_reducible refine (set_nil 1 5 _ _).mono ?_; rintro e wx ⟨rfl, hw⟩; subst hw)
        | (go_at_call 18; with_reducible refine (free_nil 1 _).mono ?_; rintro e wx ⟨rfl, hw⟩; subst hw)
        | (go_at_call 14; with_reducible refine (pin_nil 1 _).mono ?_; rintro e wx ⟨rfl, hw⟩; subst hw)
        | (go_at_call 17; with_reducible refine (unpin_nil 1 _).mono ?_; rintro e wx ⟨rfl, hw⟩; subst hw)
        | (go_at_call 37; with_reducible refine (flush_nil _).mono ?_; rintro e wx ⟨rfl, hw⟩; subst hw)
        | (go_at_call 38; with_reducible refine (commit_nil _).mono ?_; rintro e wx ⟨rfl, hw⟩; subst hw)
        | (go_at_call 39; with_reducible refine (abort_nil _).mono ?_; rintro e wx ⟨rfl, hw⟩; subst hw)
        | (go_at_call 16; with_reducible refine (held_nil _).mono ?_; rintro e wx ⟨rfl, hw⟩; subst hw)
        | (go_at_call 40; with_reducible refine (pins_nil 1 _).mono ?_; rintro e wx ⟨rfl, hw⟩; subst hw)
        | (go_at_call 41; with_reducible refine (hits_nil _).mono ?_; rintro e wx ⟨rfl, hw⟩; subst hw)
        | (go_at_call 42; with_reducible refine (misses_nil _).mono ?_; rintro e wx ⟨rfl, hw⟩; subst hw)
        | (go_at_call 43; with_reducible refine (under_nil _).mono ?_; rintro e wx ⟨rfl, hw⟩; subst hw)
        | (go_at_call 9; refine (awake8_any _).mono ?_; rintro e wa ⟨rfl, hb⟩; have BA := Hide.mk hb; clear hb))
      go_ret
      exact ⟨rfl, B3.out.trans (BA.out.mono B3.out.size)⟩
end Go.Proofs.YtplkndmkchpcdaaGreat.Pool
end
section
namespace Go.Proofs.YtplkndmkchpcdaaGreatW.PrintWords
open Go.ChangeShapes Go.WideShapes
end Go.Proofs.YtplkndmkchpcdaaGreatW.PrintWords
end
