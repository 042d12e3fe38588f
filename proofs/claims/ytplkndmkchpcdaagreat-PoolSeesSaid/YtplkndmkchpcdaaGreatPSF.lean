/- The words, and the contracts of the functions that are reached, one behind the other. -/
import Derived.Deep.MidRow
import Derived.Deep.CutBlock
import Derived.Deep.DeepCutAuto
import Derived.SizedLaws
import Derived.ChangeSlices
import Derived.Test.YtplkndmkchpcdaaGreatPSE
set_option linter.unusedVariables false
set_option linter.unusedSimpArgs false
section
namespace Go.Proofs.YtplkndmkchpcdaaGreat.Pool
open Go.RowKit YtplkndmkchpcdaaGreatW.PrintWords YtplkndmkchpcdaaGreatW.PrintLast YtplkndmkchpcdaaGreatW.PrintMore MapFn Disk Page Num Bitset Sh
set_option maxHeartbeats 16000000
set_option maxRecDepth 100000
section
variable {w wr : World} {b ps pd : Nat} {p : Pl}
theorem one8 (w wr : World) (x : Int) (fr : Nat × Nat) : In8 w (wr.alloc (.cells #[.int .u8 x] 5 fr)) (some ⟨wr.heap.size, 0, none⟩) [x] 1 := by
  have row := heap_last wr (.cells #[.int .u8 x] 5 fr)
  exact ⟨⟨C_of_rowF (l := [x]) row (by simp), Nat.le_refl _, fun a ha _ => by cases ha; exact lt_of_row row⟩, fun a ha _ => by cases ha; exact .inr ⟨_, _, row⟩⟩
theorem one_bytes {x : Int} (h : 0 ≤ x ∧ x < 256) : Bytes [x] := by
  intro y hy
  rw [List.mem_singleton.1 hy]
  exact h
theorem palloc_const (h : PAt w wr b ps pd p) (hk : Ok p.S) (hk2 : Ok p.room.1.S) (hfew : p.frames.length ≤ 900) (x : Int) (hx : 0 ≤ x ∧ x < 256) (fr : Nat × Nat) :
    Calls Tryz.prog 13 #[.pointer (some ⟨b, 0, none⟩), .int .i64 5, .slice (some ⟨wr.heap.size, 0, none⟩) 1 1] (wr.alloc (.cells #[.int .u8 x] 5 fr)) fun e w' => e = .returned (.tuple #[.int .i64 (p.alloc 5 [x]).2.1, .int .i64 (p.alloc 5 [x]).2.2]) ∧ PAt w w' b ps pd (p.alloc 5 [x]).1 :=
  palloc_on (h.later ((Below.refl wr.heap.size wr).alloc (Nat.le_refl _) _)) hk hk2 hfew 5 (one8 w wr x fr) (one_bytes hx) (by simp)
theorem pset_const (h : PAt w wr b ps pd p) (hg : Good p) (id : Int) (x : Int) (hx : 0 ≤ x ∧ x < 256) (fr : Nat × Nat) :
    Calls Tryz.prog 36 #[.pointer (some ⟨b, 0, none⟩), .int .i64 id, .int .i64 5, .slice (some ⟨wr.heap.size, 0, none⟩) 1 1] (wr.alloc (.cells #[.int .u8 x] 5 fr)) fun e w' => e = .returned (.int .i64 (p.set id 5 [x]).2) ∧ PAt w w' b ps pd (p.set id 5 [x]).1 :=
  pset_on (h.later ((Below.refl wr.heap.size wr).alloc (Nat.le_refl _) _)) hg id 5 (one8 w wr x fr) (one_bytes hx) (by simp)
end
theorem awake8_any (w : World) : Calls Tryz.prog 9 #[] w fun e w' => e = .returned (.bool true) ∧ Below w.heap.size w w' := by
  obtain ⟨sF, pA, pB, pS, pG, pH, pI, fF, fA, fB, fS, fG, fH, fI, fJ⟩ := aw8_facts
  have FF := Hide.mk fF
  have FA := Hide.mk fA
  have FB := Hide.mk fB
  have FS := Hide.mk fS
  have FG := Hide.mk fG
  have FH := Hide.mk fH
  have FI := Hide.mk fI
  have FJ := Hide.mk fJ
  clear fF fA fB fS fG fH fI fJ
  have hcv := fun (w : World) (C : Array Value) (n c : Nat) => Lib.run_convert_bytes_const (P := Tryz.prog) w 22 5 C n c Tryz.underlying22 Tryz.underlying5
  go_enter Tryz.func9, Tryz.ntmps9
  go_wp2_with (first
    | (go_at_call 11
       refine (new_on 20 _).mono ?_
       rintro e w1 ⟨pd, rfl, hd⟩
       have HFM0 := format_on hd ⟨by decide, by decide⟩
       rw [FF.out] at HFM0
       simp only [ptrOf_ok] at HFM0
       have HFM := Hide.mk HFM0
       clear hd HFM0)
    | (go_at_call 10
       with_reducible refine HFM.out.mono ?_
       rintro e w2 ⟨ps, rfl, hs⟩
       have HPN := Hide.mk (pnew_on hs 1 (by decide) (by decide))
       clear hs)
    | (go_at_call 12
       with_reducible refine HPN.out.mono ?_
       rintro e w3 ⟨b, rfl, hs⟩
       have P3 := Hide.mk hs
       have CA := Hide.mk (fun wx (h : PAt w wx b ps pd (Pl.new sF 1)) => by have := palloc_const h FA.out.1 FA.out.2.1 (Nat.zero_le _) 97 (by decide) (1, 2); rw [FA.out.2.2] at this; exact this)
       have CB := Hide.mk (fun wx (h : PAt w wx b ps pd pA) => by have := palloc_const h FB.out.1 FB.out.2.1 FB.out.2.2.1 98 (by decide) (1, 2); rw [FB.out.2.2.2] at this; exact this)
       have CH := Hide.mk (fun wx (h : PAt w wx b ps pd pB) => by have := held_on h FS.out.2.1.few; rw [FS.out.1] at this; exact this)
       have CS := Hide.mk (fun wx (h : PAt w wx b ps pd pB) => by have := pset_const h FS.out.2.1 2 99 (by decide) (1, 2); rw [FS.out.2.2] at this; exact this)
       have CG := Hide.mk (fun wx (h : PAt w wx b ps pd pS) => by have := get_on h FG.out.1 1; rw [FG.out.2] at this; exact this)
       have CK := Hide.mk (fun wx (h : PAt w wx b ps pd pG) => by have := get_on h FH.out.1 2; rw [FH.out.2] at this; exact this)
       have CHI := Hide.mk (fun wx (h : PAt w wx b ps pd pH) => by have := hits_on h; rw [FI.out.2.1] at this; exact this)
       have CMI := Hide.mk (fun wx (h : PAt w wx b ps pd pH) => by have := misses_on h; rw [FI.out.2.2.1] at this; exact this)
       have CPI := Hide.mk (fun wx (h : PAt w wx b ps pd pH) => by have := pin_on h FI.out.1 2; rw [FI.out.2.2.2] at this; exact this)
       have CPJ := Hide.mk (fun wx (h : PAt w wx b ps pd pI) => by have := pin_on h FJ.out.1 1; rw [FJ.out.2] at this; exact this)
       clear hs)
    | (go_at_call 13
       with_reducible refine (CA.out _ P3.out).mono ?_
       rintro e w4 ⟨rfl, hs⟩
       have P4 := Hide.mk hs
       clear hs)
    | (go_at_call 13
       with_reducible refine (CB.out _ P4.out).mono ?_
       rintro e w5 ⟨rfl, hs⟩
       have P5 := Hide.mk hs
       clear hs)
    | (go_at_call 16
       with_reducible refine (CH.out _ P5.out).mono ?_
       rintro e w6 ⟨A6, c6, rfl, _, _, hs⟩
       have P6 := Hide.mk hs
       clear hs)
    | (go_at_call 36
       with_reducible refine (CS.out _ P6.out).mono ?_
       rintro e w7 ⟨rfl, hs⟩
       have P7 := Hide.mk hs
       clear hs)
    | (go_at_call 15
       with_reducible refine (CG.out _ P7.out).mono ?_
       rintro e w8 ⟨hk, A8, c8, rfl, hi, hs⟩
       have P8 := Hide.mk hs
       have I8 := Hide.mk hi
       rw [show ([97] : List Int).length = 1 from rfl]
       clear hk hi hs)
    | (go_at_call 15
       with_reducible refine (CK.out _ P8.out).mono ?_
       rintro e w9 ⟨hk, A9, c9, rfl, hi, hs⟩
       have P9 := Hide.mk hs
       have I9 := Hide.mk hi
       rw [show ([99] : List Int).length = 1 from rfl]
       have I8b := I8.out.keep hk
       have cv1 : (convert 22 9 (.slice A8 1 c8)).run Tryz.prog w9 = .ok (.string (strOfNums [97])) w9 := Kd.C_string Tryz.underlying22 Tryz.underlying5 Tryz.underlying9 I8b.in_.reads
       have cv2 : (convert 22 9 (.slice A9 1 c9)).run Tryz.prog w9 = .ok (.string (strOfNums [99])) w9 := Kd.C_string Tryz.underlying22 Tryz.underlying5 Tryz.underlying9 hi.in_.reads
       have se1 : (strOfNums [97]).toList = [97] := by simp [strOfNums]
       have se2 : (strOfNums [99]).toList = [99] := by simp [strOfNums]
       clear I8b
       clear hk hi hs)
    | (go_at_call 41
       with_reducible refine (CHI.out _ P9.out).mono ?_
       rintro e w10 ⟨rfl, hw⟩
       have hw1 := hw.symm
       subst hw1)
    | (go_at_call 42
       with_reducible refine (CMI.out _ P9.out).mono ?_
       rintro e w11 ⟨rfl, hw⟩
       have hw1 := hw.symm
       subst hw1)
    | (go_at_call 14
       with_reducible refine (CPI.out _ P9.out).mono ?_
       rintro e w12 ⟨rfl, hs⟩
       have P12 := Hide.mk hs
       clear hs)
    | (go_at_call 14
       with_reducible refine (CPJ.out _ P12.out).mono ?_
       rintro e w13 ⟨rfl, hs⟩
       have P13 := Hide.mk hs
       clear hs))
  go_ret
  exact ⟨rfl, P13.out.below⟩
end Go.Proofs.YtplkndmkchpcdaaGreat.Pool
end
section
namespace Go.Proofs.YtplkndmkchpcdaaGreat.Pool
open Go.RowKit Disk Page Num Bitset MapFn Sh
set_option maxRecDepth 100000
def al : Nat → Sh
  | 0 => (Sh.format (DiskSt.new 100)).1
  | k + 1 => ((al k).alloc 5 [(k : Int)]).1
def s10 : Sh := al 10
theorem al_facts : ((List.range 11).all (fun k => okB (al k)) && (List.range 10).all (fun k => decide (((al k).alloc 5 [(k : Int)]).2 = (((k + 1 : Nat) : Int), 0)))) = true := by decide +kernel
def rdB (id : Int) : Bool := decide ((s10.block id).2 = 0) && decide (s10.D.at_ (s10.block id).1 = 0) && decide ((openL (s10.D.get (s10.block id).1)).2.2.2 = 0) && decide ((openL (s10.D.get (s10.block id).1)).2.1 = id)
theorem rd_facts : (List.range 10).all (fun k => rdB ((k + 1 : Nat) : Int)) = true := by decide +kernel
theorem al_alloc {k : Nat} (h : k < 10) : (al k).alloc 5 [(k : Int)] = (al (k + 1), ((k + 1 : Nat) : Int), 0) := by
  have := al_facts
  rw [Bool.and_eq_true] at this
  have := List.all_eq_true.1 this.2 k (List.mem_range.2 h)
  rw [decide_eq_true_eq] at this
  exact Prod.ext rfl this
attribute [irreducible] s10 al
def sr (r : Int) : Sh := s10.on { s10.D with reads := r }
theorem sr_read {id : Int} (h1 : 1 ≤ id) (h2 : id ≤ 10) (r : Int) : ∃ k b, (sr r).read id = (sr (wrap64 (r + 1)), k, b, 0) := by
  have h := List.all_eq_true.1 rd_facts (id - 1).toNat (List.mem_range.2 (by omega))
  rw [show (((id - 1).toNat + 1 : Nat) : Int) = id by omega] at h
  unfold rdB at h
  simp only [Bool.and_eq_true, decide_eq_true_eq] at h
  obtain ⟨⟨⟨e1, e2⟩, e3⟩, e4⟩ := h
  refine ⟨(openL (s10.D.get (s10.block id).1)).1, (openL (s10.D.get (s10.block id).1)).2.2.1, ?_⟩
  unfold Sh.read
  rw [if_neg (show ¬ ((sr r).block id).2 ≠ 0 from fun h => h e1), if_neg (show ¬ (sr r).D.at_ ((sr r).block id).1 ≠ 0 from fun h => h e2)]
  simp only
  rw [if_neg]
  · rfl
  · rintro (q | q)
    · exact q e3
    · exact q e4
theorem pigeon : ∀ (l m : List Int), l.Nodup → (∀ x ∈ l, x ∈ m) → l.length ≤ m.length
  | [], m, _, _ => Nat.zero_le _
  | a :: l, m, hn, hs => by
    have ha := hs a (by simp)
    obtain ⟨h1, h2⟩ := List.nodup_cons.1 hn
    have := pigeon l (m.erase a) h2 fun x hx => (List.mem_erase_of_ne (fun e => h1 (by rw [← e]; exact hx))).2 (hs x (by simp [hx]))
    rw [List.length_erase_of_mem ha] at this
    have := List.length_pos_of_mem ha
    rw [List.length_cons]
    omega
def upto (n : Nat) : List Int := (List.range n).map fun i => ((i : Nat) : Int) + 1
theorem mem_upto {n : Nat} {x : Int} : x ∈ upto n ↔ 1 ≤ x ∧ x ≤ n := by
  unfold upto
  rw [List.mem_map]
  constructor
  · rintro ⟨i, hi, rfl⟩
    have := List.mem_range.1 hi
    omega
  · rintro ⟨h1, h2⟩
    exact ⟨(x - 1).toNat, List.mem_range.2 (by omega), by omega⟩
theorem upto_len (n : Nat) : (upto n).length = n := by simp [upto]
theorem perm_erase {α : Type} : ∀ (l : List α) (k : Nat) (h : k < l.length), (l.eraseIdx k ++ [l[k]]).Perm l
  | a :: r, 0, h => List.perm_append_singleton a r
  | a :: r, k + 1, h => (perm_erase r k (by simpa using h)).cons a
theorem idxF_neg (q : Fr → Bool) : ∀ (l : List Fr) (i : Nat), idxF q l i < 0 → ∀ f ∈ l, q f = false
  | [], i, _, f, hf => by cases hf
  | g :: r, i, h, f, hf => by
    rw [idxF] at h
    by_cases hg : q g = true
    · rw [if_pos hg] at h; omega
    · rw [if_neg hg] at h
      rcases List.mem_cons.1 hf with e | e
      · rw [e]; simpa using hg
      · exact idxF_neg q r _ h f e
theorem getD_at {l : List Fr} {k : Nat} (h : k < l.length) : l.getD k Fr.none = l[k] := by simp [List.getD_eq_getElem?_getD, h]
structure Inv (n : Nat) (m t : Int) (p : Pl) : Prop where
  most : p.most = n
  len : p.frames.length ≤ n
  clean : ∀ f ∈ p.frames, f.dirty = false
  pins : ∀ f ∈ p.frames, f.pins = if f.id < m then 1 else 0
  pos : ∀ f ∈ p.frames, 1 ≤ f.id ∧ f.id ≤ t
  nodup : (p.frames.map (·.id)).Nodup
  held : ∀ i, 1 ≤ i → i < m → i ∈ p.frames.map (·.id)
section
variable {n : Nat} {m t : Int} {p q : Pl}
theorem Inv.same (h : Inv n m t p) (h1 : q.most = p.most) (h2 : q.frames = p.frames) : Inv n m t q := by
  obtain ⟨a, b, c, d, e, f, g⟩ := h
  exact ⟨h1.trans a, h2 ▸ b, h2 ▸ c, h2 ▸ d, h2 ▸ e, h2 ▸ f, h2 ▸ g⟩
theorem Inv.perm (h : Inv n m t p) (h1 : q.most = p.most) (h2 : q.frames.Perm p.frames) : Inv n m t q :=
  ⟨h1.trans h.most, by rw [h2.length_eq]; exact h.len, fun f hf => h.clean f (h2.mem_iff.1 hf), fun f hf => h.pins f (h2.mem_iff.1 hf), fun f hf => h.pos f (h2.mem_iff.1 hf), (h2.map _).nodup_iff.2 h.nodup, fun i h3 h4 => (h2.map _).mem_iff.2 (h.held i h3 h4)⟩
theorem Inv.erase (h : Inv n m t p) {k : Nat} (hk : k < p.frames.length) (hz : p.frames[k].pins = 0) : Inv n m t { p with frames := p.frames.eraseIdx k } := by
  have hm : ∀ f, f ∈ p.frames.eraseIdx k → f ∈ p.frames := fun f hf => List.mem_of_mem_eraseIdx hf
  refine ⟨h.most, Nat.le_trans (by show (p.frames.eraseIdx k).length ≤ _; rw [List.length_eraseIdx]; split <;> omega) h.len, fun f hf => h.clean f (hm f hf), fun f hf => h.pins f (hm f hf), fun f hf => h.pos f (hm f hf), h.nodup.sublist ((List.eraseIdx_sublist _ k).map _), fun i h1 h2 => ?_⟩
  obtain ⟨f, hf, e⟩ := List.mem_map.1 (h.held i h1 h2)
  refine List.mem_map.2 ⟨f, List.mem_eraseIdx_iff_getElem.2 ?_, e⟩
  obtain ⟨j, hj, e2⟩ := List.mem_iff_getElem.1 hf
  refine ⟨j, hj, fun ej => ?_, e2⟩
  subst ej
  have := h.pins f hf
  rw [← e2] at this e
  rw [hz, e, if_pos h2] at this
  cases this
theorem Inv.vacant (h : Inv n m t p) (h1 : 1 ≤ m) (hm : m ≤ n) (hf : ¬ p.frames.length < n) : ∃ k, ∃ hk : k < p.frames.length, p.free_ = (k : Int) ∧ p.frames[k].pins = 0 := by
  rcases idxF_at (fun f => decide (f.pins = 0)) p.frames 0 with e | ⟨k, hk, e, hq⟩
  · exfalso
    have hall := idxF_neg _ _ _ (show idxF (fun f => decide (f.pins = 0)) p.frames 0 < 0 by rw [e]; decide)
    have := pigeon (p.frames.map (·.id)) (upto (m - 1).toNat) h.nodup fun x hx => by
      obtain ⟨f, hf, rfl⟩ := List.mem_map.1 hx
      have h3 := hall f hf
      rw [decide_eq_false_iff_not, h.pins f hf] at h3
      have h4 := h.pos f hf
      refine mem_upto.2 ⟨h4.1, ?_⟩
      by_cases c : f.id < m
      · omega
      · rw [if_neg c] at h3; exact absurd rfl h3
    rw [upto_len, List.length_map] at this
    omega
  · refine ⟨k, hk, by rw [Nat.zero_add] at e; exact e, ?_⟩
    rw [getD_at hk] at hq
    simpa using hq
theorem Inv.flush (h : Inv n m t p) {k : Nat} (hk : k < p.frames.length) : p.flush k = (p, 0) := by
  unfold Pl.flush
  simp only
  rw [getD_at hk, if_pos (h.clean _ (List.getElem_mem hk))]
theorem Inv.room (h : Inv n m t p) (h1 : 1 ≤ m) (hm : m ≤ n) : ∃ q, p.room = (q, 0) ∧ q.S = p.S ∧ Inv n m t q ∧ q.frames.length < n ∧ ∀ i, i ∈ q.frames.map (·.id) → i ∈ p.frames.map (·.id) := by
  unfold Pl.room
  by_cases c : p.frames.length < n
  · rw [if_pos (by rw [h.most]; omega)]
    exact ⟨p, rfl, rfl, h, c, fun i hi => hi⟩
  · obtain ⟨k, hk, e, hz⟩ := h.vacant h1 hm c
    rw [if_neg (by rw [h.most]; omega), e, if_neg (by omega), Int.toNat_natCast, h.flush hk, if_neg (by simp)]
    refine ⟨_, rfl, rfl, h.erase hk hz, ?_, fun i hi => ((List.eraseIdx_sublist _ k).map _).subset hi⟩
    show (p.frames.eraseIdx k).length < n
    rw [List.length_eraseIdx, if_pos hk]
    have := h.len
    omega
theorem Inv.hold (h : Inv n m t p) (hl : p.frames.length < n) {f : Fr} {u : Int} (hc : f.dirty = false) (hp : f.pins = if f.id < m then 1 else 0) (h1 : 1 ≤ f.id ∧ f.id ≤ u) (htu : t ≤ u) (hn : ¬ f.id ∈ p.frames.map (·.id)) : Inv n m u (p.hold f) := by
  have hm : ∀ g, g ∈ (p.hold f).frames → g ∈ p.frames ∨ g = f := fun g hg => by
    rcases List.mem_append.1 hg with q | q
    · exact .inl q
    · exact .inr (List.mem_singleton.1 q)
  refine ⟨h.most, by show (p.frames ++ [f]).length ≤ n; rw [List.length_append, List.length_singleton]; omega, fun g hg => ?_, fun g hg => ?_, fun g hg => ?_, ?_, fun i h3 h4 => ?_⟩
  · rcases hm g hg with q | q
    · exact h.clean g q
    · rw [q]; exact hc
  · rcases hm g hg with q | q
    · exact h.pins g q
    · rw [q]; exact hp
  · rcases hm g hg with q | q
    · have := h.pos g q; omega
    · rw [q]; exact h1
  · show ((p.frames ++ [f]).map (·.id)).Nodup
    rw [List.map_append, List.nodup_append]
    refine ⟨h.nodup, by simp, fun a ha b hb => ?_⟩
    rw [List.map_singleton, List.mem_singleton] at hb
    rw [hb]
    exact fun e => hn (e ▸ ha)
  · show i ∈ (p.frames ++ [f]).map (·.id)
    rw [List.map_append]
    exact List.mem_append_left _ (h.held i h3 h4)
theorem Inv.fetch (h : Inv n m 10 p) (h1 : 1 ≤ m) (hm : m ≤ n) {r : Int} (hS : p.S = sr r) {id : Int} (hi : 1 ≤ id ∧ id ≤ 10) : ∃ q s l f, p.fetch id = (q, 0) ∧ q.S = sr s ∧ Inv n m 10 q ∧ q.frames = l ++ [f] ∧ f.id = id := by
  unfold Pl.fetch
  rcases idxF_at (fun f => decide (f.id = id)) p.frames 0 with e | ⟨k, hk, e, hq⟩
  · have hpl : p.place id = -1 := e
    have hall := idxF_neg _ _ _ (show idxF (fun f => decide (f.id = id)) p.frames 0 < 0 by rw [e]; decide)
    rw [if_neg (by rw [hpl]; decide)]
    have h0 : Inv n m 10 ({ p with misses := wrap64 (p.misses + 1) } : Pl) := h.same rfl rfl
    obtain ⟨q, hr, hqS, hq, hql, hqi⟩ := h0.room h1 hm
    obtain ⟨kd, b, hrd⟩ := sr_read hi.1 hi.2 r
    have hqS' : q.S = sr r := hqS.trans hS
    simp only [hr, hqS', hrd]
    rw [if_neg (by simp), if_neg (by simp)]
    have hni : ¬ id ∈ q.frames.map (·.id) := fun hx => by
      obtain ⟨f, hf, e2⟩ := List.mem_map.1 (hqi id hx)
      have := hall f hf
      simp only [decide_eq_false_iff_not] at this
      exact this e2
    have hnm : ¬ id < m := fun hx => hni (hq.held id hi.1 hx)
    refine ⟨_, _, q.frames, ⟨id, kd, b, 0, false⟩, rfl, rfl, ?_, rfl, rfl⟩
    exact Inv.hold (p := { q with S := sr (wrap64 (r + 1)) }) (f := ⟨id, kd, b, 0, false⟩) (hq.same rfl rfl) hql rfl (by show (0 : Int) = if id < m then 1 else 0; rw [if_neg hnm]) hi (Int.le_refl _) hni
  · rw [Nat.zero_add] at e
    have hpl : p.place id = (k : Int) := e
    rw [if_pos (by rw [hpl]; omega), hpl, Int.toNat_natCast, getD_at hk]
    rw [getD_at hk] at hq
    refine ⟨_, r, p.frames.eraseIdx k, p.frames[k], rfl, hS, h.perm rfl (perm_erase _ k hk), rfl, by simpa using hq⟩
theorem last_snoc {l : List Fr} {f : Fr} (h : q.frames = l ++ [f]) : q.last = f := by
  unfold Pl.last
  rw [h]
  simp [List.getD_eq_getElem?_getD]
theorem set_snoc {l : List Fr} {f g : Fr} (h : q.frames = l ++ [f]) : (q.setLast g).frames = l ++ [g] := by
  unfold Pl.setLast
  rw [h]
  simp
theorem Inv.get (h : Inv n m 10 p) (h1 : 1 ≤ m) (hm : m ≤ n) {r : Int} (hS : p.S = sr r) {id : Int} (hi : 1 ≤ id ∧ id ≤ 10) : ∃ q s k b, p.get id = (q, k, b, 0) ∧ q.S = sr s ∧ Inv n m 10 q := by
  obtain ⟨q, s, l, f, he, hs, hq, hf, hid⟩ := h.fetch h1 hm hS hi
  unfold Pl.get
  rw [he, if_neg (by simp)]
  exact ⟨q, s, _, _, rfl, hs, hq⟩
theorem Inv.alloc (h : Inv n 1 t p) (hn : 1 ≤ n) {k : Nat} (hk : k < 10) (ht : t = k) (hS : p.S = al k) : ∃ q, p.alloc 5 [(k : Int)] = (q, ((k + 1 : Nat) : Int), 0) ∧ q.S = al (k + 1) ∧ Inv n 1 ((k + 1 : Nat) : Int) q := by
  obtain ⟨q, hr, hqS, hq, hql, hqi⟩ := h.room (by decide) (by omega)
  have hqS' : q.S = al k := hqS.trans hS
  unfold Pl.alloc
  simp only [hr, hqS', al_alloc hk]
  rw [if_neg (by simp), if_neg (by simp)]
  refine ⟨_, rfl, rfl, ?_⟩
  refine Inv.hold (p := { q with S := al (k + 1) }) (f := ⟨((k + 1 : Nat) : Int), 5, [(k : Int)], 0, false⟩) (hq.same rfl rfl) hql rfl ?_ ⟨by show (1 : Int) ≤ ((k + 1 : Nat) : Int); omega, Int.le_refl _⟩ (by show t ≤ ((k + 1 : Nat) : Int); omega) ?_
  · show (0 : Int) = if ((k + 1 : Nat) : Int) < 1 then 1 else 0
    rw [if_neg (by omega)]
  · intro hx
    obtain ⟨f, hf, e⟩ := List.mem_map.1 hx
    have := (hq.pos f hf).2
    simp only at e
    omega
theorem Inv.start (n : Nat) (hn : 1 ≤ n) : Inv n 1 0 (Pl.new (al 0) n) := ⟨rfl, Nat.zero_le _, fun f hf => (by cases hf), fun f hf => (by cases hf), fun f hf => (by cases hf), List.nodup_nil, fun i h1 h2 => by omega⟩
end
end Go.Proofs.YtplkndmkchpcdaaGreat.Pool
end
section
namespace Go.Proofs.YtplkndmkchpcdaaGreat.Pool
open Go.RowKit YtplkndmkchpcdaaGreatW.PrintWords YtplkndmkchpcdaaGreatW.PrintLast YtplkndmkchpcdaaGreatW.PrintMore MapFn Disk Page Num Bitset Sh
set_option maxRecDepth 100000
def flushF : List Int → Pl → Pl × Int
  | [], p => (p, 0)
  | id :: r, p => if (p.flush (p.place id).toNat).2 ≠ 0 then p.flush (p.place id).toNat else flushF r (p.flush (p.place id).toNat).1
def Pl.flushAll (p : Pl) : Pl × Int := flushF p.held p
def Pl.commit (p : Pl) : Pl × Int := if p.flushAll.2 ≠ 0 then p.flushAll else ({ p.flushAll.1 with S := p.flushAll.1.S.commit.1 }, p.flushAll.1.S.commit.2)
def Pl.abort (p : Pl) : Pl × Int := ({ p with S := p.S.abort.1, frames := [] }, p.S.abort.2)
structure FrOk (S : Sh) (f : Fr) : Prop where
  spot : ∃ j : Nat, f.id = (j : Int) ∧ S.table.getD j 0 ≠ 0 ∧ (f.dirty = false → S.page j = (f.kind, (j : Int), f.body, 0))
  pins : f.pins = 0
  bytes : Bytes f.body
  fits : sealE f.kind 1 f.body.length = 0
structure Shows (n m : Nat) (p : Pl) (now last : Nat → Option (List Int)) : Prop where
  inv : Sh.Inv 200 p.S
  never : p.S.D.fails = -1
  epoch : p.S.root.epoch ≤ m
  tlen : p.S.table.length ≤ m + 1
  wlen : p.S.was.length ≤ m + 1
  start : p.S.start = 0 ∧ p.S.root.start = 0
  most : p.most = (n : Int) ∧ 1 ≤ n ∧ p.frames.length ≤ n
  nodup : (p.frames.map (·.id)).Nodup
  fr : ∀ f ∈ p.frames, FrOk p.S f
  nowF : ∀ f ∈ p.frames, ∀ j : Nat, f.id = (j : Int) → now j = some f.body
  nowP : ∀ j : Nat, p.S.table.getD j 0 ≠ 0 → (∀ f ∈ p.frames, f.id ≠ (j : Int)) → now j = some (p.S.page j).2.2.1
  nowN : ∀ j : Nat, p.S.table.getD j 0 = 0 → now j = none
  last : ∀ j : Nat, last j = if p.S.was.getD j 0 ≠ 0 then some (openL (p.S.D.get (p.S.was.getD j 0))).2.2.1 else none
section
variable {n m : Nat} {p : Pl} {now last : Nat → Option (List Int)}
theorem Shows.mono (h : Shows n m p now last) {m' : Nat} (hm : m ≤ m') : Shows n m' p now last :=
  ⟨h.inv, h.never, by have := h.epoch; omega, by have := h.tlen; omega, by have := h.wlen; omega, h.start, h.most, h.nodup, h.fr, h.nowF, h.nowP, h.nowN, h.last⟩
theorem maps200 : mapsOf 200 = 1 := by decide +kernel
theorem Shows.room1 (h : Shows n m p now last) (hm : m ≤ 40) {k : Nat} (hk : k ≤ 10) : ∃ l, p.S.lowest k = some l := by
  refine h.inv.roomy ?_
  have h1 := h.inv.hold.tabs.len
  have h2 := h.inv.hold.maps.len
  rw [pieces_num] at h1
  rw [mapsOf_count _ _ h.inv.fit.blocks, maps200] at h2
  have h3 := h.tlen
  have h4 := h.wlen
  have : (200 : Int).toNat = 200 := rfl
  omega
theorem FrOk.valid {S : Sh} {f : Fr} (h : FrOk S f) {j : Nat} (hj : f.id = (j : Int)) : S.table.getD j 0 ≠ 0 := by
  obtain ⟨j', e, h1, _⟩ := h.spot
  have : j' = j := by omega
  rw [← this]
  exact h1
theorem FrOk.page {S : Sh} {f : Fr} (h : FrOk S f) {j : Nat} (hj : f.id = (j : Int)) (hd : f.dirty = false) : S.page j = (f.kind, (j : Int), f.body, 0) := by
  obtain ⟨j', e, _, h1⟩ := h.spot
  have : j' = j := by omega
  rw [← this]
  exact h1 hd
theorem id_inj {l : List Fr} (h : (l.map (·.id)).Nodup) {f g : Fr} (hf : f ∈ l) (hg : g ∈ l) (e : f.id = g.id) : f = g := by
  induction l with
  | nil => cases hf
  | cons x r ih =>
    rw [List.map_cons] at h
    obtain ⟨h1, h2⟩ := List.nodup_cons.1 h
    rcases List.mem_cons.1 hf with z | hf
    · rcases List.mem_cons.1 hg with y | hg
      · rw [z, y]
      · exact absurd (List.mem_map.2 ⟨g, hg, by rw [← e, z]⟩) h1
    · rcases List.mem_cons.1 hg with y | hg
      · exact absurd (List.mem_map.2 ⟨f, hf, by rw [e, y]⟩) h1
      · exact ih h2 hf hg
theorem Shows.perm (h : Shows n m p now last) {q : Pl} (hS : q.S = p.S) (hm : q.most = p.most) (hp : q.frames.Perm p.frames) : Shows n m q now last :=
  ⟨hS ▸ h.inv, hS ▸ h.never, hS ▸ h.epoch, hS ▸ h.tlen, hS ▸ h.wlen, hS ▸ h.start, by rw [hm, hp.length_eq]; exact h.most, (hp.map _).nodup_iff.2 h.nodup,
   fun f hf => hS ▸ h.fr f (hp.mem_iff.1 hf), fun f hf => h.nowF f (hp.mem_iff.1 hf), fun j hj hn => by rw [hS] at hj ⊢; exact h.nowP j hj fun f hf => hn f (hp.mem_iff.2 hf), fun j hj => h.nowN j (by rw [← hS]; exact hj), fun j => by rw [hS]; exact h.last j⟩
theorem Shows.erase (h : Shows n m p now last) {k : Nat} (hk : k < p.frames.length) (hc : p.frames[k].dirty = false) : Shows n m { p with frames := p.frames.eraseIdx k } now last := by
  have hsub := List.eraseIdx_sublist p.frames k
  have hf := List.getElem_mem hk
  refine ⟨h.inv, h.never, h.epoch, h.tlen, h.wlen, h.start, ⟨h.most.1, h.most.2.1, Nat.le_trans hsub.length_le h.most.2.2⟩, List.Nodup.sublist (hsub.map _) h.nodup, fun f hf => h.fr f (hsub.subset hf), fun f hf => h.nowF f (hsub.subset hf), fun j hj hn => ?_, h.nowN, h.last⟩
  by_cases c : (p.frames[k]).id = (j : Int)
  · rw [h.nowF _ hf j c, (h.fr _ hf).page c hc]
  · refine h.nowP j hj fun f hfm e => ?_
    have hp := perm_erase p.frames k hk
    rcases List.mem_append.1 (hp.mem_iff.2 hfm) with q | q
    · exact hn f q e
    · rw [List.mem_singleton.1 q] at e
      exact c e
theorem seal_id {k : Int} {j : Nat} {len : Nat} (h : sealE k 1 len = 0) (hj : j ≤ 3000) : sealE k j len = 0 := by
  unfold sealE at h ⊢
  split at h
  · cases h
  · rename_i c
    rw [if_neg c]
    split at h
    · cases h
    · split at h
      · cases h
      · rename_i c2
        rw [if_neg (by omega), if_neg c2]
theorem last_same {S S' : Sh} (hs : Step 200 S S') (j : Nat) : (if S'.was.getD j 0 ≠ 0 then some (openL (S'.D.get (S'.was.getD j 0))).2.2.1 else none) = if S.was.getD j 0 ≠ 0 then some (openL (S.D.get (S.was.getD j 0))).2.2.1 else none := by
  rw [hs.was]
  split
  · rename_i c
    rw [hs.get _ (.inr (.inr (.inr (.inr (mem_getD c).1))))]
  · rfl
theorem set_mem {l : List Fr} {k : Nat} (hk : k < l.length) {f g : Fr} (hn : (l.map (·.id)).Nodup) (h : g ∈ l.set k f) : g = f ∨ (g ∈ l ∧ g.id ≠ (l[k]).id) := by
  obtain ⟨i, hi, e⟩ := List.mem_iff_getElem.1 h
  rw [List.getElem_set] at e
  split at e
  · exact .inl e.symm
  · rename_i c
    rw [List.length_set] at hi
    right
    subst e
    refine ⟨List.getElem_mem hi, fun q => c ?_⟩
    have h1 : (l.map (·.id))[i]'(by simpa using hi) = (l.map (·.id))[k]'(by simpa using hk) := by simpa using q
    exact ((List.getElem_inj hn).1 h1).symm
theorem Shows.flush (h : Shows n m p now last) (hm : m ≤ 40) {k : Nat} (hk : k < p.frames.length) : ∃ q, p.flush k = (q, 0) ∧ Shows n m q now last ∧ q.most = p.most ∧ q.frames = p.frames.set k { p.frames[k] with dirty := false } := by
  have hg : p.frames.getD k Fr.none = p.frames[k] := by simp [List.getD_eq_getElem?_getD, hk]
  have hfm := List.getElem_mem hk
  unfold Pl.flush
  rw [hg]
  generalize hf : p.frames[k] = f at hfm ⊢
  simp only
  by_cases hd : f.dirty = false
  · rw [if_pos hd]
    refine ⟨p, rfl, h, rfl, ?_⟩
    have : ({ f with dirty := false } : Fr) = f := by
      cases f
      simp only at hd
      rw [hd]
    rw [this, ← hf, List.set_getElem_self]
  · rw [if_neg hd]
    have ho := h.fr f hfm
    obtain ⟨j, hj, hj0, _⟩ := ho.spot
    have hjl := (mem_getD hj0).2
    have htl := h.tlen
    obtain ⟨S', hw, hs, hp⟩ := write_ok h.inv h.never hj0 (kind := f.kind) ho.bytes (seal_id ho.fits (by omega)) (h.room1 hm (by omega))
    rw [hj, hw, if_neg (by simp)]
    refine ⟨_, rfl, ?_, rfl, by first | rfl | rw [hj]⟩
    have hne : ∀ g ∈ p.frames.set k { f with dirty := false }, g = { f with dirty := false } ∨ (g ∈ p.frames ∧ g.id ≠ f.id) := fun g hgm => by
      have := set_mem hk h.nodup hgm
      rw [hf] at this
      exact this
    have hmem : ({ f with dirty := false } : Fr) ∈ p.frames.set k { f with dirty := false } := by
      refine List.mem_iff_getElem.2 ⟨k, by rw [List.length_set]; exact hk, by rw [List.getElem_set, if_pos rfl]⟩
    have hids : (p.frames.set k { f with dirty := false }).map (·.id) = p.frames.map (·.id) := by
      refine List.ext_getElem (by simp) fun i h1 h2 => ?_
      rw [List.getElem_map, List.getElem_map, List.getElem_set]
      split
      · rename_i e
        subst e
        rw [hf]
      · rfl
    rw [← hj]
    refine ⟨hs.inv, hs.never h.never, by rw [hs.root]; exact h.epoch, by have := hp.len; show S'.table.length ≤ _; omega, by show S'.was.length ≤ _; rw [hs.was]; exact h.wlen, ⟨hp.start.trans h.start.1, by show S'.root.start = 0; rw [hs.root]; exact h.start.2⟩, ⟨h.most.1, h.most.2.1, by show (p.frames.set k _).length ≤ n; rw [List.length_set]; exact h.most.2.2⟩, ?_, fun g hgm => ?_, fun g hgm i hi => ?_, fun i hi hn => ?_, fun i hi => ?_, fun i => ?_⟩
    · show ((p.frames.set k { f with dirty := false }).map (·.id)).Nodup
      rw [hids]
      exact h.nodup
    · rcases hne g hgm with rfl | ⟨q1, q2⟩
      · exact ⟨⟨j, hj, (hp.has j).2 (.inl rfl), fun _ => hp.here⟩, ho.pins, ho.bytes, ho.fits⟩
      · have hgo := h.fr g q1
        obtain ⟨i, hi, hi0, hip⟩ := hgo.spot
        exact ⟨⟨i, hi, (hp.has i).2 (.inr hi0), fun hd => (hp.other i (fun e => q2 (by rw [hi, hj, e])) hi0).trans (hip hd)⟩, hgo.pins, hgo.bytes, hgo.fits⟩
    · rcases hne g hgm with rfl | ⟨q1, _⟩
      · exact h.nowF f hfm i hi
      · exact h.nowF g q1 i hi
    · have hij : i ≠ j := fun e => hn _ hmem (by rw [e]; exact hj)
      have hi0 : p.S.table.getD i 0 ≠ 0 := ((hp.has i).1 hi).resolve_left hij
      show now i = some (S'.page i).2.2.1
      rw [hp.other i hij hi0]
      refine h.nowP i hi0 fun g hgm e => ?_
      have h1 : (i : Int) ∈ (p.frames.set k { f with dirty := false }).map (·.id) := by
        rw [hids]
        exact List.mem_map.2 ⟨g, hgm, e⟩
      obtain ⟨g', hg', e'⟩ := List.mem_map.1 h1
      exact hn g' hg' e'
    · have : p.S.table.getD i 0 = 0 := Decidable.byContradiction fun c => (hp.has i).2 (.inr c) hi
      exact h.nowN i this
    · rw [h.last i]
      exact (last_same hs i).symm
theorem Shows.roomy (h : Shows n m p now last) (hm : m ≤ 40) : ∃ q, p.room = (q, 0) ∧ Shows n m q now last ∧ q.frames.length < n ∧ ∀ f ∈ q.frames, ∃ g ∈ p.frames, g.id = f.id := by
  unfold Pl.room
  obtain ⟨h1, h2, h3⟩ := h.most
  by_cases c : (p.frames.length : Int) < p.most
  · rw [if_pos c]
    exact ⟨p, rfl, h, by omega, fun f hf => ⟨f, hf, rfl⟩⟩
  · rw [if_neg c]
    have hk : 0 < p.frames.length := by omega
    have hfree : p.free_ = 0 := by
      unfold Pl.free_
      cases hfr : p.frames with
      | nil => rw [hfr] at hk; simp at hk
      | cons f r =>
        have := (h.fr f (by rw [hfr]; simp)).pins
        rw [idxF, if_pos (by simpa using this)]
        rfl
    rw [hfree, if_neg (by decide)]
    obtain ⟨q, e, hq, hqm, hqf⟩ := h.flush hm hk
    rw [show (0 : Int).toNat = 0 from rfl, e, if_neg (by simp)]
    have hq0 : 0 < q.frames.length := by rw [hqf, List.length_set]; exact hk
    refine ⟨_, rfl, hq.erase hq0 ?_, ?_, fun f hf => ?_⟩
    · simp only [hqf, List.getElem_set, if_pos]
    · show (q.frames.eraseIdx 0).length < n
      rw [List.length_eraseIdx, if_pos hq0, hqf, List.length_set]
      omega
    · have hf2 := (List.eraseIdx_sublist q.frames 0).subset hf
      rw [hqf] at hf2
      rcases set_mem hk h.nodup hf2 with e2 | ⟨e2, _⟩
      · exact ⟨_, List.getElem_mem hk, by rw [e2]⟩
      · exact ⟨f, e2, rfl⟩
theorem place_spec (p : Pl) (id : Int) : (p.place id = -1 ∧ ∀ f ∈ p.frames, f.id ≠ id) ∨ ∃ k, ∃ hk : k < p.frames.length, p.place id = (k : Int) ∧ p.frames[k].id = id := by
  unfold Pl.place
  rcases idxF_at (fun f => decide (f.id = id)) p.frames 0 with e | ⟨k, hk, e, hq⟩
  · exact .inl ⟨e, fun f hf q => by have := idxF_neg (fun f => decide (f.id = id)) p.frames 0 (by rw [e]; decide) f hf; simp [q] at this⟩
  · rw [Nat.zero_add] at e
    refine .inr ⟨k, hk, e, ?_⟩
    rw [List.getD_eq_getElem?_getD, List.getElem?_eq_getElem hk] at hq
    simpa using hq
theorem Shows.hold (h : Shows n m p now last) (hl : p.frames.length < n) {j : Nat} (hj : p.S.table.getD j 0 ≠ 0) (hn : ∀ f ∈ p.frames, f.id ≠ (j : Int)) {kind : Int} {body : List Int} (hpg : p.S.page j = (kind, (j : Int), body, 0)) (hb : Bytes body) (hse : sealE kind 1 body.length = 0) (hx : now j = some body) : Shows n m (p.hold ⟨j, kind, body, 0, false⟩) now last := by
  refine ⟨h.inv, h.never, h.epoch, h.tlen, h.wlen, h.start, ⟨h.most.1, h.most.2.1, by show (p.frames ++ [_]).length ≤ n; simp; omega⟩, ?_, fun f hf => ?_, fun f hf i hi => ?_, fun i hi hni => h.nowP i hi fun f hf => hni f (List.mem_append.2 (.inl hf)), h.nowN, h.last⟩
  · show ((p.frames ++ [(⟨j, kind, body, 0, false⟩ : Fr)]).map (·.id)).Nodup
    rw [List.map_append]
    refine List.nodup_append.2 ⟨h.nodup, by simp, fun x hx y hy e => ?_⟩
    obtain ⟨f, hf, rfl⟩ := List.mem_map.1 hx
    simp at hy
    exact hn f hf (by rw [e, hy])
  · rcases List.mem_append.1 hf with q | q
    · exact h.fr f q
    · rw [List.mem_singleton.1 q]
      exact ⟨⟨j, rfl, hj, fun _ => hpg⟩, rfl, hb, hse⟩
  · rcases List.mem_append.1 hf with q | q
    · exact h.nowF f q i hi
    · rw [List.mem_singleton.1 q] at hi ⊢
      have : j = i := by have : ((j : Nat) : Int) = i := hi; omega
      rw [← this]
      exact hx
theorem Shows.reads (h : Shows n m p now last) (k : Int) : Shows n m { p with S := { p.S with D := { p.S.D with reads := k } } } now last :=
  ⟨h.inv.reads k, h.never, h.epoch, h.tlen, h.wlen, h.start, h.most, h.nodup, fun f hf => ⟨(h.fr f hf).spot, (h.fr f hf).pins, (h.fr f hf).bytes, (h.fr f hf).fits⟩, h.nowF, h.nowP, h.nowN, h.last⟩
theorem page_open {N : Int} {S : Sh} (h : Sh.Inv N S) {j : Nat} (hj : S.table.getD j 0 ≠ 0) : ∃ k b, S.page j = (k, (j : Int), b, 0) ∧ Bytes b ∧ sealE k 1 b.length = 0 := by
  obtain ⟨k, b, q1, q2, q3⟩ := h.page j hj
  refine ⟨k, b, ?_, q2, ?_⟩
  · unfold Sh.page
    rw [q3, open_seal k j b q2 q1]
  · unfold sealE at q1 ⊢
    split at q1
    · cases q1
    · rename_i c
      rw [if_neg c]
      split at q1
      · cases q1
      · split at q1
        · cases q1
        · rename_i c2
          rw [if_neg (by omega), if_neg c2]
theorem Shows.has (h : Shows n m p now last) (j : Nat) : p.S.table.getD j 0 ≠ 0 ↔ (now j).isSome = true := by
  constructor
  · intro c
    by_cases z : ∃ f ∈ p.frames, f.id = (j : Int)
    · obtain ⟨f, hf, hfj⟩ := z
      rw [h.nowF f hf j hfj]
      rfl
    · rw [h.nowP j c fun f hf e => z ⟨f, hf, e⟩]
      rfl
  · intro c d
    rw [h.nowN j d] at c
    cases c
theorem Shows.fetch (h : Shows n m p now last) (hm : m ≤ 40) (id : Int) : ∃ q, Shows n m q now last ∧
    ((∃ j : Nat, id = (j : Int) ∧ p.S.table.getD j 0 ≠ 0 ∧ p.fetch id = (q, 0) ∧ ∃ l f, q.frames = l ++ [f] ∧ f.id = id ∧ now j = some f.body) ∨ ((¬ ∃ j : Nat, id = (j : Int) ∧ p.S.table.getD j 0 ≠ 0) ∧ p.fetch id = (q, 8))) := by
  unfold Pl.fetch
  rcases place_spec p id with ⟨e, hno⟩ | ⟨k, hk, e, hid⟩
  · rw [e, if_neg (by decide)]
    have h1 : Shows n m ({ p with misses := wrap64 (p.misses + 1) } : Pl) now last := ⟨h.inv, h.never, h.epoch, h.tlen, h.wlen, h.start, h.most, h.nodup, h.fr, h.nowF, h.nowP, h.nowN, h.last⟩
    obtain ⟨q, e1, hq, hql, hqf⟩ := h1.roomy hm
    simp only
    rw [e1, if_neg (by simp)]
    have htab : ∀ j : Nat, q.S.table.getD j 0 ≠ 0 ↔ p.S.table.getD j 0 ≠ 0 := fun j => (hq.has j).trans (h.has j).symm
    by_cases hv : ∃ j : Nat, id = (j : Int) ∧ p.S.table.getD j 0 ≠ 0
    · obtain ⟨j, rfl, hj⟩ := hv
      have hjq := (htab j).2 hj
      have hr := hq.inv.read hjq
      obtain ⟨kd, b, hpg, hbb, hse⟩ := page_open hq.inv hjq
      have hnq : ∀ f ∈ q.frames, f.id ≠ (j : Int) := fun f hf ef => by
        obtain ⟨g, hg, eg⟩ := hqf f hf
        exact hno g hg (eg.trans ef)
      have hop : openL (q.S.D.get (q.S.table.getD j 0)) = (kd, (j : Int), b, 0) := hpg
      rw [hop] at hr
      rw [hr]
      simp only
      rw [if_neg (by simp)]
      have hx : now j = some b := by rw [hq.nowP j hjq hnq, hpg]
      have h3 := (hq.reads (wrap64 (q.S.D.reads + 1))).hold hql hjq hnq hpg hbb hse hx
      exact ⟨_, h3, .inl ⟨j, rfl, hj, rfl, q.frames, _, rfl, rfl, hx⟩⟩
    · have hvq : ¬ ∃ j : Nat, id = (j : Int) ∧ q.S.table.getD j 0 ≠ 0 := fun ⟨j, a, c⟩ => hv ⟨j, a, (htab j).1 c⟩
      rw [read_no hq.inv hvq]
      simp only
      rw [if_pos (by simp)]
      exact ⟨q, hq, .inr ⟨hv, rfl⟩⟩
  · rw [e, if_pos (by omega), Int.toNat_natCast]
    have hg : p.frames.getD k Fr.none = p.frames[k] := by simp [List.getD_eq_getElem?_getD, hk]
    have ho := h.fr _ (List.getElem_mem hk)
    obtain ⟨j, hj, hj0, _⟩ := ho.spot
    rw [hg]
    have hq : Shows n m (({ p with hits := wrap64 (p.hits + 1), frames := p.frames.eraseIdx k } : Pl).hold p.frames[k]) now last := h.perm rfl rfl (perm_erase p.frames k hk)
    refine ⟨_, hq, .inl ⟨j, by rw [← hid, hj], hj0, rfl, p.frames.eraseIdx k, p.frames[k], rfl, hid, h.nowF _ (List.getElem_mem hk) j hj⟩⟩
theorem last_of {q : Pl} {l : List Fr} {f : Fr} (h : q.frames = l ++ [f]) : q.last = f := last_snoc h
theorem Shows.get (h : Shows n m p now last) (hm : m ≤ 40) (id : Int) : ∃ q, Shows n m q now last ∧
    ((∃ j : Nat, ∃ k b, id = (j : Int) ∧ now j = some b ∧ p.get id = (q, k, b, 0)) ∨ ((∀ j : Nat, id = (j : Int) → now j = none) ∧ p.get id = (q, 0, [], 8))) := by
  obtain ⟨q, hq, ⟨j, rfl, hj, e, l, f, hl, hf, hx⟩ | ⟨hno, e⟩⟩ := h.fetch hm id
  · refine ⟨q, hq, .inl ⟨j, f.kind, f.body, rfl, hx, ?_⟩⟩
    unfold Pl.get
    rw [e, if_neg (by simp), last_of hl]
  · refine ⟨q, hq, .inr ⟨fun j ej => ?_, ?_⟩⟩
    · cases hn : now j with
      | none => rfl
      | some b => exact absurd ⟨j, ej, (h.has j).2 (by rw [hn]; rfl)⟩ hno
    · unfold Pl.get
      rw [e, if_pos (by simp)]
def upd_ (now : Nat → Option (List Int)) (j : Nat) (o : Option (List Int)) : Nat → Option (List Int) := fun i => if i = j then o else now i
theorem Shows.set (h : Shows n m p now last) (hm : m ≤ 40) (id kind : Int) {body : List Int} (hb : Bytes body) : ∃ q,
    ((∃ j : Nat, id = (j : Int) ∧ (now j).isSome = true ∧ p.set id kind body = (q, 0) ∧ Shows n m q (upd_ now j (some body)) last) ∨ ∃ e, e ≠ 0 ∧ p.set id kind body = (q, e) ∧ Shows n m q now last) := by
  obtain ⟨q, hq, ⟨j, rfl, hj, e, l, f, hl, hf, hx⟩ | ⟨hno, e⟩⟩ := h.fetch hm id
  · unfold Pl.set
    rw [e, if_neg (by simp)]
    by_cases hse : sealE kind 1 body.length = 0
    · rw [if_neg (by rw [hse]; simp), last_of hl]
      refine ⟨_, .inl ⟨j, rfl, (h.has j).1 hj, rfl, ?_⟩⟩
      have hfr : (q.setLast { f with kind := kind, body := body, dirty := true }).frames = l ++ [{ f with kind := kind, body := body, dirty := true }] := set_snoc hl
      have hnd := hq.nodup
      have hjq := (hq.has j).2 (by rw [hx]; rfl)
      have hfo := hq.fr f (by rw [hl]; simp)
      have hids : (q.setLast { f with kind := kind, body := body, dirty := true }).frames.map (·.id) = q.frames.map (·.id) := by
        rw [hfr, hl, List.map_append, List.map_append]
        rfl
      have hln : ∀ g ∈ l, g.id ≠ (j : Int) := fun g hg eg => by
        rw [hl, List.map_append] at hnd
        exact (List.nodup_append.1 hnd).2.2 g.id (List.mem_map.2 ⟨g, hg, rfl⟩) f.id (by simp) (by rw [eg, hf])
      refine ⟨hq.inv, hq.never, hq.epoch, hq.tlen, hq.wlen, hq.start, ⟨hq.most.1, hq.most.2.1, ?_⟩, ?_, fun g hg => ?_, fun g hg i hi => ?_, fun i hi hni => ?_, fun i hi => ?_, hq.last⟩
      · rw [hfr]
        have := hq.most.2.2
        rw [hl] at this
        simpa using this
      · rw [hids]
        exact hnd
      · rw [hfr] at hg
        rcases List.mem_append.1 hg with z | z
        · exact hq.fr g (by rw [hl]; exact List.mem_append.2 (.inl z))
        · rw [List.mem_singleton.1 z]
          exact ⟨⟨j, hf, hjq, fun z => by cases z⟩, hfo.pins, hb, hse⟩
      · rw [hfr] at hg
        unfold upd_
        rcases List.mem_append.1 hg with z | z
        · have hij : i ≠ j := fun ej => hln g z (by rw [hi, ej])
          rw [if_neg hij]
          exact hq.nowF g (by rw [hl]; exact List.mem_append.2 (.inl z)) i hi
        · rw [List.mem_singleton.1 z] at hi ⊢
          have : i = j := by have : f.id = (i : Int) := hi; omega
          rw [if_pos this]
      · have hij : i ≠ j := fun ej => hni { f with kind := kind, body := body, dirty := true } (by rw [hfr]; simp) (by rw [ej]; exact hf)
        unfold upd_
        rw [if_neg hij]
        refine hq.nowP i hi fun g hg eg => ?_
        have h1 : (i : Int) ∈ (q.setLast { f with kind := kind, body := body, dirty := true }).frames.map (·.id) := by
          rw [hids]
          exact List.mem_map.2 ⟨g, hg, eg⟩
        obtain ⟨g', hg', e'⟩ := List.mem_map.1 h1
        exact hni g' hg' e'
      · have hij : i ≠ j := fun ej => hjq (by rw [← ej]; exact hi)
        unfold upd_
        rw [if_neg hij]
        exact hq.nowN i hi
    · rw [if_pos hse]
      exact ⟨q, .inr ⟨_, hse, rfl, hq⟩⟩
  · unfold Pl.set
    rw [e, if_pos (by simp)]
    exact ⟨q, .inr ⟨8, by decide, rfl, hq⟩⟩
theorem Shows.alloc (h : Shows n m p now last) (hm : m < 40) (kind : Int) {body : List Int} (hb : Bytes body) : ∃ q,
    ((∃ j : Nat, 1 ≤ j ∧ j ≤ 41 ∧ now j = none ∧ p.alloc kind body = (q, (j : Int), 0) ∧ Shows n (m + 1) q (upd_ now j (some body)) last) ∨ ∃ e, e ≠ 0 ∧ p.alloc kind body = (q, 0, e) ∧ Shows n m q now last) := by
  obtain ⟨q, e, hq, hql, _⟩ := h.roomy (by omega)
  unfold Pl.alloc
  rw [e, if_neg (by simp)]
  simp only
  by_cases hse : sealE kind 1 body.length = 0
  · obtain ⟨S', ha, hs, hp⟩ := alloc_ok hq.inv hq.never hb hse (by have := hq.tlen; omega) (hq.room1 (by omega) (by omega))
    obtain ⟨i1, i2, i3⟩ := freeId_spec q.S.table
    generalize freeId q.S.table = j at ha hp i1 i2 i3
    have hjl : j ≤ q.S.table.length := by
      refine Decidable.byContradiction fun c => ?_
      exact i3 q.S.table.length hq.inv.len.1 (by omega) (getD_ge (Nat.le_refl _) 0)
    have htl := hq.tlen
    rw [ha, if_neg (by simp)]
    refine ⟨_, .inl ⟨j, i1, by omega, hq.nowN j i2, rfl, ?_⟩⟩
    have hnoj : ∀ f ∈ q.frames, f.id ≠ (j : Int) := fun f hf ef => (hq.fr f hf).valid ef i2
    have h2 : Shows n (m + 1) { q with S := S' } (upd_ now j (some body)) last := by
      refine ⟨hs.inv, hs.never hq.never, by show S'.root.epoch ≤ _; rw [hs.root]; have := hq.epoch; omega, by show S'.table.length ≤ _; have := hp.len; omega, by show S'.was.length ≤ _; rw [hs.was]; have := hq.wlen; omega, ⟨hp.start.trans hq.start.1, by show S'.root.start = 0; rw [hs.root]; exact hq.start.2⟩, hq.most, hq.nodup, fun f hf => ?_, fun f hf i hi => ?_, fun i hi hni => ?_, fun i hi => ?_, fun i => ?_⟩
      · have ho := hq.fr f hf
        obtain ⟨i, ei, hi0, hpg⟩ := ho.spot
        have hij : i ≠ j := fun z => by rw [z] at hi0; exact hi0 i2
        exact ⟨⟨i, ei, (hp.has i).2 (.inr hi0), fun hd => (hp.other i hij hi0).trans (hpg hd)⟩, ho.pins, ho.bytes, ho.fits⟩
      · have hij : i ≠ j := fun z => hnoj f hf (by rw [hi, z])
        unfold upd_
        rw [if_neg hij]
        exact hq.nowF f hf i hi
      · unfold upd_
        by_cases hij : i = j
        · rw [if_pos hij, hij]
          show some body = some (S'.page j).2.2.1
          rw [hp.here]
        · rw [if_neg hij]
          have hi0 := ((hp.has i).1 hi).resolve_left hij
          show now i = some (S'.page i).2.2.1
          rw [hp.other i hij hi0]
          exact hq.nowP i hi0 hni
      · have hij : i ≠ j := fun z => (hp.has i).2 (.inl z) hi
        unfold upd_
        rw [if_neg hij]
        exact hq.nowN i (Decidable.byContradiction fun c => (hp.has i).2 (.inr c) hi)
      · rw [hq.last i]
        exact (last_same hs i).symm
    exact h2.hold hql ((hp.has j).2 (.inl rfl)) hnoj hp.here hb hse (by unfold upd_; rw [if_pos rfl])
  · rw [alloc_bad hq.inv hse, if_pos hse]
    exact ⟨q, .inr ⟨_, hse, rfl, hq⟩⟩
theorem Shows.free (h : Shows n m p now last) (id : Int) : ∃ q,
    ((∃ j : Nat, id = (j : Int) ∧ (now j).isSome = true ∧ p.free id = (q, 0) ∧ Shows n m q (upd_ now j none) last) ∨ ∃ e, e ≠ 0 ∧ p.free id = (q, e) ∧ Shows n m q now last) := by
  have hpin : ¬ (0 ≤ p.place id ∧ 0 < (p.frames.getD (p.place id).toNat Fr.none).pins) := by
    rintro ⟨a, b⟩
    rcases place_spec p id with ⟨e, _⟩ | ⟨k, hk, e, _⟩
    · rw [e] at a
      exact absurd a (by decide)
    · rw [e, Int.toNat_natCast, List.getD_eq_getElem?_getD, List.getElem?_eq_getElem hk] at b
      have := (h.fr _ (List.getElem_mem hk)).pins
      simp only [Option.getD_some] at b
      omega
  unfold Pl.free
  rw [if_neg hpin]
  by_cases hv : ∃ j : Nat, id = (j : Int) ∧ p.S.table.getD j 0 ≠ 0
  · obtain ⟨j, rfl, hj⟩ := hv
    have hj1 := (h.inv.blockOk hj).2
    obtain ⟨S', hfr, hs, hp⟩ := free_ok h.inv hj (by rw [h.start.1]; omega)
    rw [hfr, if_neg (by simp)]
    refine ⟨_, .inl ⟨j, rfl, (h.has j).1 hj, rfl, ?_⟩⟩
    obtain ⟨l, hl, hsub, hln⟩ : ∃ l, (if 0 ≤ p.place (j : Int) then p.frames.eraseIdx (p.place (j : Int)).toNat else p.frames) = l ∧ l.Sublist p.frames ∧ ∀ f, (f ∈ l ↔ f ∈ p.frames ∧ f.id ≠ (j : Int)) := by
      refine ⟨_, rfl, ?_, fun f => ?_⟩
      · split
        · exact List.eraseIdx_sublist _ _
        · exact List.Sublist.refl _
      · rcases place_spec p (j : Int) with ⟨e, hno⟩ | ⟨k, hk, e, hid⟩
        · rw [e, if_neg (by decide)]
          exact ⟨fun z => ⟨z, hno f z⟩, fun z => z.1⟩
        · rw [e, if_pos (by omega), Int.toNat_natCast]
          have hpe := perm_erase p.frames k hk
          constructor
          · intro z
            refine ⟨(List.eraseIdx_sublist _ _).subset z, fun ef => ?_⟩
            have hnd := (hpe.map (·.id)).nodup_iff.2 h.nodup
            rw [List.map_append] at hnd
            exact (List.nodup_append.1 hnd).2.2 f.id (List.mem_map.2 ⟨f, z, rfl⟩) (p.frames[k]).id (by simp) (by rw [ef, hid])
          · rintro ⟨z1, z2⟩
            rcases List.mem_append.1 (hpe.mem_iff.2 z1) with z | z
            · exact z
            · rw [List.mem_singleton.1 z] at z2
              exact absurd hid z2
    rw [hl]
    refine ⟨hs.inv, hs.never h.never, by show S'.root.epoch ≤ _; rw [hs.root]; exact h.epoch, by show S'.table.length ≤ _; have := hp.len; have := h.tlen; omega, by show S'.was.length ≤ _; rw [hs.was]; exact h.wlen, ⟨hp.start.trans h.start.1, by show S'.root.start = 0; rw [hs.root]; exact h.start.2⟩, ⟨h.most.1, h.most.2.1, Nat.le_trans hsub.length_le h.most.2.2⟩, List.Nodup.sublist (hsub.map _) h.nodup, fun f hf => ?_, fun f hf i hi => ?_, fun i hi hni => ?_, fun i hi => ?_, fun i => ?_⟩
    · obtain ⟨z1, z2⟩ := (hln f).1 hf
      have ho := h.fr f z1
      obtain ⟨i, ei, hi0, hpg⟩ := ho.spot
      have hij : i ≠ j := fun z => z2 (by rw [ei, z])
      exact ⟨⟨i, ei, (hp.has i).2 ⟨hij, hi0⟩, fun hd => (hp.other i hij hi0).trans (hpg hd)⟩, ho.pins, ho.bytes, ho.fits⟩
    · obtain ⟨z1, z2⟩ := (hln f).1 hf
      have hij : i ≠ j := fun z => z2 (by rw [hi, z])
      unfold upd_
      rw [if_neg hij]
      exact h.nowF f z1 i hi
    · obtain ⟨hij, hi0⟩ := (hp.has i).1 hi
      unfold upd_
      rw [if_neg hij]
      show now i = some (S'.page i).2.2.1
      rw [hp.other i hij hi0]
      exact h.nowP i hi0 fun f hf ef => hni f ((hln f).2 ⟨hf, fun z => hij (by omega)⟩) ef
    · unfold upd_
      split
      · rfl
      · rename_i hij
        exact h.nowN i (Decidable.byContradiction fun c => (hp.has i).2 ⟨hij, c⟩ hi)
    · rw [h.last i]
      exact (last_same hs i).symm
  · rw [free_no h.inv hv, if_pos (by simp)]
    exact ⟨p, .inr ⟨8, by decide, rfl, h⟩⟩
theorem Shows.flushF (hm : m ≤ 40) : ∀ (L : List Int) (p : Pl), Shows n m p now last → (∀ id ∈ L, ∃ f ∈ p.frames, f.id = id) → ∃ q, Pool.flushF L p = (q, 0) ∧ Shows n m q now last ∧ q.frames.map (·.id) = p.frames.map (·.id) ∧ ∀ f ∈ q.frames, (f.id ∈ L ∨ ∃ g ∈ p.frames, g.id = f.id ∧ g.dirty = false) → f.dirty = false
  | [], p, h, _ => ⟨p, rfl, h, rfl, fun f hf z => by
    rcases z with z | ⟨g, hg, e, hd⟩
    · cases z
    · rw [← id_inj h.nodup hg hf e]; exact hd⟩
  | id :: L, p, h, hL => by
    obtain ⟨f, hf, hid⟩ := hL id (by simp)
    rcases place_spec p id with ⟨_, hno⟩ | ⟨k, hk, e, hkid⟩
    · exact absurd hid (hno f hf)
    · obtain ⟨q, e1, hq, _, hqf⟩ := h.flush hm hk
      have hids : q.frames.map (·.id) = p.frames.map (·.id) := by
        rw [hqf]
        refine List.ext_getElem (by simp) fun i h1 h2 => ?_
        rw [List.getElem_map, List.getElem_map, List.getElem_set]
        split
        · rename_i c; subst c; rfl
        · rfl
      obtain ⟨r, e2, hr, hri, hrc⟩ := Shows.flushF hm L q hq fun x hx => by
        obtain ⟨g, hg, eg⟩ := hL x (by simp [hx])
        have : x ∈ q.frames.map (·.id) := by rw [hids]; exact List.mem_map.2 ⟨g, hg, eg⟩
        obtain ⟨g', hg', e'⟩ := List.mem_map.1 this
        exact ⟨g', hg', e'⟩
      refine ⟨r, ?_, hr, hri.trans hids, fun g hg z => hrc g hg ?_⟩
      · rw [Pool.flushF, e, Int.toNat_natCast, e1, if_neg (by simp)]
        exact e2
      · rcases z with z | ⟨g0, hg0, e0, hd0⟩
        · rcases List.mem_cons.1 z with z | z
          · refine .inr ⟨{ p.frames[k] with dirty := false }, ?_, ?_, rfl⟩
            · rw [hqf]
              exact List.mem_iff_getElem.2 ⟨k, by rw [List.length_set]; exact hk, by rw [List.getElem_set, if_pos rfl]⟩
            · show (p.frames[k]).id = g.id
              rw [hkid, z]
          · exact .inl z
        · right
          obtain ⟨i, hi, ei⟩ := List.mem_iff_getElem.1 hg0
          by_cases c : k = i
          · subst c
            refine ⟨{ p.frames[k] with dirty := false }, ?_, ?_, rfl⟩
            · rw [hqf]
              exact List.mem_iff_getElem.2 ⟨k, by rw [List.length_set]; exact hk, by rw [List.getElem_set, if_pos rfl]⟩
            · show (p.frames[k]).id = g.id
              rw [ei, e0]
          · refine ⟨g0, ?_, e0, hd0⟩
            rw [hqf]
            exact List.mem_iff_getElem.2 ⟨i, by rw [List.length_set]; exact hi, by rw [List.getElem_set, if_neg c]; exact ei⟩
theorem held_mem (p : Pl) (x : Int) : x ∈ p.held ↔ ∃ f ∈ p.frames, f.id = x := by
  unfold Pl.held
  rw [(List.mergeSort_perm _ _).mem_iff, List.mem_map]
theorem Shows.flushAll (h : Shows n m p now last) (hm : m ≤ 40) : ∃ q, p.flushAll = (q, 0) ∧ Shows n m q now last ∧ ∀ f ∈ q.frames, f.dirty = false := by
  obtain ⟨q, e, hq, hi, hc⟩ := Shows.flushF hm p.held p h fun id hid => (held_mem p id).1 hid
  refine ⟨q, e, hq, fun f hf => hc f hf (.inl ((held_mem p f.id).2 ?_))⟩
  have : f.id ∈ p.frames.map (·.id) := by rw [← hi]; exact List.mem_map.2 ⟨f, hf, rfl⟩
  obtain ⟨g, hg, e⟩ := List.mem_map.1 this
  exact ⟨g, hg, e⟩
theorem Shows.commit (h : Shows n m p now last) (hm : m < 40) : ∃ q, p.commit = (q, 0) ∧ Shows n (m + 1) q now now := by
  obtain ⟨q, e, hq, hc⟩ := h.flushAll (by omega)
  have hpn := pieces_num q.S.table
  have htl := hq.tlen
  have hep := hq.epoch
  obtain ⟨e0, hd⟩ := commit_ok hq.inv hq.never (by omega) (hq.room1 (by omega) (by rw [hpn, hq.inv.fit.blocks, maps200]; omega))
  unfold Pl.commit
  rw [e, if_neg (by simp)]
  simp only
  refine ⟨_, Prod.ext rfl e0, ?_⟩
  have hpage : ∀ i, q.S.table.getD i 0 ≠ 0 → q.S.commit.1.page i = q.S.page i := fun i hi => by
    unfold Sh.page
    rw [hd.table, hd.get i hi]
  refine ⟨hd.inv, hd.never hq.never, ?_, ?_, ?_, ⟨hd.start.trans hq.start.1, hd.rstart.trans hq.start.1⟩, hq.most, hq.nodup, fun f hf => ?_, hq.nowF, fun i hi hni => ?_, fun i hi => ?_, fun i => ?_⟩
  · show q.S.commit.1.root.epoch ≤ _
    have := hd.epoch
    omega
  · show q.S.commit.1.table.length ≤ _
    rw [hd.table]; omega
  · show q.S.commit.1.was.length ≤ _
    rw [hd.was]; omega
  · have ho := hq.fr f hf
    obtain ⟨i, ei, hi0, hpg⟩ := ho.spot
    exact ⟨⟨i, ei, by show q.S.commit.1.table.getD i 0 ≠ 0; rw [hd.table]; exact hi0, fun hdd => (hpage i hi0).trans (hpg hdd)⟩, ho.pins, ho.bytes, ho.fits⟩
  · have hi' : q.S.table.getD i 0 ≠ 0 := by have : q.S.commit.1.table.getD i 0 ≠ 0 := hi; rwa [hd.table] at this
    show now i = some (q.S.commit.1.page i).2.2.1
    rw [hpage i hi']
    exact hq.nowP i hi' hni
  · have hi' : q.S.table.getD i 0 = 0 := by have : q.S.commit.1.table.getD i 0 = 0 := hi; rwa [hd.table] at this
    exact hq.nowN i hi'
  · show now i = if q.S.commit.1.was.getD i 0 ≠ 0 then some (openL (q.S.commit.1.D.get (q.S.commit.1.was.getD i 0))).2.2.1 else none
    rw [hd.was]
    by_cases c : q.S.table.getD i 0 ≠ 0
    · rw [if_pos c, hd.get i c]
      by_cases z : ∃ f ∈ q.frames, f.id = (i : Int)
      · obtain ⟨f, hf, hfi⟩ := z
        rw [hq.nowF f hf i hfi]
        have := (hq.fr f hf).page hfi (hc f hf)
        unfold Sh.page at this
        rw [this]
      · exact hq.nowP i c fun f hf ef => z ⟨f, hf, ef⟩
    · rw [if_neg c]
      exact hq.nowN i (Decidable.not_not.1 c)
theorem Shows.abort (h : Shows n m p now last) : ∃ q, p.abort = (q, 0) ∧ Shows n m q last last := by
  obtain ⟨hs, e0, h3, h4, h5⟩ := abort_step h.inv
  refine ⟨_, Prod.ext rfl e0, ?_⟩
  have hw : p.S.abort.1.was = p.S.was := hs.was
  refine ⟨hs.inv, hs.never h.never, by show p.S.abort.1.root.epoch ≤ _; rw [hs.root]; exact h.epoch, by show p.S.abort.1.table.length ≤ _; rw [h3]; exact h.wlen, by show p.S.abort.1.was.length ≤ _; rw [hw]; exact h.wlen, ⟨h4.trans h.start.2, by show p.S.abort.1.root.start = 0; rw [hs.root]; exact h.start.2⟩, ⟨h.most.1, h.most.2.1, Nat.zero_le _⟩, List.nodup_nil, fun f hf => (by cases hf), fun f hf => (by cases hf), fun i hi _ => ?_, fun i hi => ?_, fun i => ?_⟩
  · have hi' : p.S.was.getD i 0 ≠ 0 := by have : p.S.abort.1.table.getD i 0 ≠ 0 := hi; rwa [h3] at this
    rw [h.last i, if_pos hi']
    show _ = some (openL (p.S.abort.1.D.get (p.S.abort.1.table.getD i 0))).2.2.1
    rw [h3, h5]
  · have hi' : p.S.was.getD i 0 = 0 := by have : p.S.abort.1.table.getD i 0 = 0 := hi; rwa [h3] at this
    rw [h.last i, if_neg (by rw [hi']; simp)]
  · rw [h.last i]
    show _ = if p.S.abort.1.was.getD i 0 ≠ 0 then some (openL (p.S.abort.1.D.get (p.S.abort.1.was.getD i 0))).2.2.1 else none
    rw [hw, h5]
end
end Go.Proofs.YtplkndmkchpcdaaGreat.Pool
end
section
namespace Go.Proofs.YtplkndmkchpcdaaGreat.Pool
open Go.RowKit YtplkndmkchpcdaaGreatW.PrintWords YtplkndmkchpcdaaGreatW.PrintLast YtplkndmkchpcdaaGreatW.PrintMore MapFn Disk Page Num Bitset Sh
set_option maxHeartbeats 8000000
set_option maxRecDepth 100000
section
variable {w wr w0 w' : World} {b ps pd n m : Nat} {F : Foot} {v : Value} {bs : List Nat} {p q : Pl} {now last : Nat → Option (List Int)} {ids : List Int}
theorem flush_step (hm : m ≤ 40) (h : Shows n m q now last) (hids : q.frames.map (·.id) = ids) {k : Nat} (hk : k < ids.length) (r : List Int) :
    Pool.flushF (ids[k] :: r) q = Pool.flushF r (q.flush k).1 ∧ (q.flush k).2 = 0 ∧ Shows n m (q.flush k).1 now last ∧ (q.flush k).1.frames.map (·.id) = ids := by
  have hkl : k < q.frames.length := by rw [← hids, List.length_map] at hk; exact hk
  obtain ⟨q', e1, hq, _, hqf⟩ := h.flush hm hkl
  have hidk : (q.frames[k]).id = ids[k] := by simp only [← hids, List.getElem_map]
  rw [e1]
  refine ⟨?_, rfl, hq, ?_⟩
  · rcases place_spec q ids[k] with ⟨_, hno⟩ | ⟨j, hj, e, hjid⟩
    · exact absurd hidk (hno _ (List.getElem_mem hkl))
    · have : j = k := by
        have h1 : (q.frames.map (·.id))[j]'(by simpa using hj) = (q.frames.map (·.id))[k]'(by simpa using hkl) := by simp only [List.getElem_map]; rw [hjid, hidk]
        exact (List.getElem_inj h.nodup).1 h1
      subst this
      rw [Pool.flushF, e, Int.toNat_natCast, e1, if_neg (by simp)]
  · rw [← hids, hqf]
    refine List.ext_getElem (by simp) fun i h1 h2 => ?_
    rw [List.getElem_map, List.getElem_map, List.getElem_set]
    split
    · rename_i c; subst c; rfl
    · rfl
theorem RP_kp {base : Nat} {ok : Nat → Prop} {v : Value} {l : List (Option Nat)} (h : Kd.R kdP 84 wr base ok v l) (hk : KP wr w') : Kd.R kdP 84 w' base ok v l := by
  have h1 : Kd.R kdP 84 wr base (fun g => v.ownBlock = some g) v l := Kd.R_of_own (enc := encP) (h1 := encP_one) (Kd.own_of_R (enc := encP) (h1 := encP_one) h) (fun _ h => h)
  refine Kd.R_mono (Kd.R_step h1 (fun g hg hlt => ?_)) (fun g hg => h.1 g hg)
  obtain ⟨cells, hc⟩ := typed h g hg
  exact (hk g cells _ hc).trans hc.symm
theorem Shows.idsB (h : Shows n m p now last) (hm : m ≤ 40) : ∀ x ∈ p.frames.map (·.id), 0 ≤ x ∧ x ≤ 1000000 := by
  intro x hx
  obtain ⟨f, hf, rfl⟩ := List.mem_map.1 hx
  obtain ⟨j, hj, hj0, _⟩ := (h.fr f hf).spot
  have := (mem_getD hj0).2
  have := h.tlen
  show 0 ≤ f.id ∧ f.id ≤ 1000000
  omega
theorem C_of_RP {v : Value} {base : Nat} {ok : Nat → Prop} {bs : List Nat} {wr : World} (h : Kd.R kdP 84 wr base ok v (bs.map some)) : ∃ A c, v = .slice A bs.length c ∧ kdP.C wr A bs.length (bs.map some) := by
  obtain ⟨A, c, hv, _, hc⟩ := Kd.R_reads h
  rw [List.length_map] at hv hc
  exact ⟨A, c, hv, hc⟩
theorem flushAll_on (h : PAt w w0 b ps pd p) (hs : Shows n m p now last) (hm : m ≤ 40) (hn : n ≤ 900) :
    Calls Tryz.prog 37 #[.pointer (some ⟨b, 0, none⟩)] w0 fun e w' => e = .returned (.int .i64 0) ∧ K8 w w0 w' ∧ PAt w w' b ps pd p.flushAll.1 := by
  obtain ⟨F, v, bs, h⟩ := h
  have hlen := h.frs.len
  obtain ⟨A, c, hv, hC⟩ := h.slice
  obtain ⟨IDS, hI⟩ : ∃ IDS, p.frames.map (·.id) = IDS := ⟨_, rfl⟩
  have hIl : IDS.length = bs.length := by rw [← hI, List.length_map]; omega
  have hnd : IDS.Nodup := by rw [← hI]; exact hs.nodup
  have hrg := hs.idsB hm
  rw [hI] at hrg
  have hfew : bs.length ≤ 900 := by have := hs.most.2.2; omega
  have hcl : ∀ (wx : World) (hb : Below w0.heap.size w0 wx) (i : Nat) (h1 : i < bs.length) (h2 : i < IDS.length), wx.cell? ⟨bs[i], 0, none⟩ = some (.int .i64 IDS[i]) ∧ bs[i] < w0.heap.size := by
    intro wx hb i h1 h2
    have hf := h.fr h1
    have hid : (p.frames.getD i Fr.none).id = IDS[i] := by
      have hfi : i < p.frames.length := by omega
      rw [List.getD_eq_getElem?_getD, List.getElem?_eq_getElem hfi]
      simp only [← hI, List.getElem_map]
      rfl
    obtain ⟨vx, hrx, _⟩ := hf.ex
    rw [hid] at hrx
    exact ⟨pw_cell_below hb (cell_of hrx), hf.lt⟩
  subst hv
  have hcap : bs.length ≤ c := by
    obtain ⟨A', c', e, q, _⟩ := Kd.R_reads h.arr
    injection e with _ _ e3
    rw [List.length_map] at q
    omega
  have HCL := cloneP_any A c (bs.map some) w0 (by rw [List.length_map]; exact hC) (by rw [List.length_map]; exact hcap) (by rw [List.length_map]; omega)
  rw [List.length_map] at HCL
  have HCLO := Hide.mk HCL
  have HSO := Hide.mk (fun (wx : World) (v0 : Value) (hR : Kd.R kdP 84 wx w0.heap.size (fun _ => True) v0 (bs.map some)) (hb : Below w0.heap.size w0 wx) =>
    sort_frames hR hIl hnd hrg (by omega) (fun i h1 h2 => ⟨(hcl wx hb i h1 h2).1, fun e => by have := hR.1 _ e; have := (hcl wx hb i h1 h2).2; have := Kd.R_base hR _ e; omega⟩))
  have H := Hide.mk h
  have HSH := Hide.mk hs
  have HI := Hide.mk hI
  have HIL := Hide.mk hIl
  have HFE := Hide.mk hfew
  have c2 : w0.cell? ⟨b, 2, none⟩ = some (.slice A bs.length c) := cell_of h.row
  obtain ⟨R, hR⟩ : ∃ R, p.flushAll = R := ⟨_, rfl⟩
  have HR := Hide.mk (show Pool.flushF (IDS.mergeSort fun x y => decide (x ≤ y)) p = R by rw [← hR, ← hI]; rfl)
  have HQ : Hide (R.2 = 0 ∧ p.flushAll = R) := ⟨by obtain ⟨q, e, _⟩ := hs.flushAll hm; rw [hR] at e; rw [e], hR⟩
  clear h hlen hC hs hI hIl hnd hrg hfew hcl HCL hR hcap
  go_enter Tryz.func37, Tryz.ntmps37
  go_wp2_with (first
    | (go_at_call 84
       with_reducible refine HCLO.out.mono ?_
       rintro e w2 ⟨v2, rfl, ho2, hb2⟩
       obtain ⟨A2, n2c, hv2, hC2⟩ := C_of_RP ho2
       subst hv2
       have O2 := Hide.mk ho2
       have B2 := Hide.mk hb2
       clear ho2 hb2 hC2)
    | (go_at_call 85
       with_reducible refine (HSO.out _ _ O2.out B2.out).mono ?_
       rintro e w3 ⟨rfl, hg3, bs3, ho3, hl3, hat3⟩
       have hb3 : Below w0.heap.size w0 w3 := B2.out.grown hg3 B2.out.size (fun k hk => Kd.R_base O2.out k hk)
       obtain ⟨A3, c3, hv3, hC3⟩ := C_of_RP ho3
       rw [hl3] at hv3 hC3
       cases hv3
       have C3 := Hide.mk hC3
       have O3 := Hide.mk ho3
       have B3 := Hide.mk hb3
       have L3 := Hide.mk hl3
       have T3 := Hide.mk hat3
       clear hg3 ho3 hb3 hl3 hat3 hC3))
  obtain ⟨S, hS⟩ : ∃ S, (IDS.mergeSort fun x y => decide (x ≤ y)) = S := ⟨_, rfl⟩
  have hRS := HR.out
  have hT := T3.out
  rw [hS] at hRS hT
  have HSL : Hide (S.length = bs.length) := ⟨by rw [← hS, List.length_mergeSort]; exact HIL.out⟩
  have HR2 := Hide.mk hRS
  have T4 := Hide.mk hT
  clear hRS hT T3 HR HSO HCLO
  go_loopw [18] (fun v18 wx => ∃ (i : Nat) (q : Pl) (FF : Foot), v18 = .int .i64 (i : Int) ∧ Hide (i ≤ bs.length) ∧ Hide (PIn w wx b ps pd FF (.slice A bs.length c) bs q) ∧ Hide (Shows n m q now last) ∧ Hide (q.frames.map (·.id) = IDS) ∧ Hide (Pool.flushF (S.drop i) q = R) ∧ Hide (K8 w w0 wx) ∧ Hide (Kd.R kdP 84 wx w0.heap.size (fun _ => True) (.slice A2 bs.length n2c) (bs3.map some))) (fun v18 _ => bs.length - (intOf v18).toNat)
  case atStart => exact ⟨0, p, F, by first | rfl | simp, ⟨Nat.zero_le _⟩, ⟨H.out.later B3.out⟩, HSH, HI, ⟨by rw [List.drop_zero]; exact HR2.out⟩, ⟨K8.of_below B3.out⟩, O3⟩
  case round =>
    obtain ⟨i, q, FF, rfl, hi, hP, hQ, hIQ, hRQ, hK, hO⟩ := hrel
    have hfe := HFE.out
    by_cases hlt0 : i < bs.length
    · have hlt : (i : Int) < (bs.length : Int) := by omega
      obtain ⟨A9, c9, e9, hC9⟩ := C_of_RP hO.out
      have hl9 := L3.out
      rw [hl9] at e9 hC9
      cases e9
      obtain ⟨ad, rfl, hcell⟩ := at_ptr hC9 (i : Int) (by omega) hlt
      rw [Int.toNat_natCast] at hcell
      have hi3 : i < bs3.length := by omega
      have hrd : rdOf none (bs3.map some) (i : Int) = some bs3[i] := by simp [rdOf, List.getD_eq_getElem?_getD, hi3]
      rw [hrd] at hcell
      obtain ⟨k, hk, hk2, e1, e2⟩ := T4.out i hi3
      rw [e1] at hcell
      have hSi : i < S.length := by rw [HSL.out]; exact hlt0
      rw [List.getElem?_eq_getElem hSi] at e2
      have hdrop : S.drop i = IDS[k] :: S.drop (i + 1) := by rw [List.drop_eq_getElem_cons hSi]; congr 1; exact Option.some.inj e2
      have hstep := flush_step hm hQ.out hIQ.out hk2 (S.drop (i + 1))
      rw [← hdrop, hRQ.out] at hstep
      have HFL0 := flush_more hP.out hQ.out.inv.ok hk
      rw [hstep.2.1] at HFL0
      have HFL := Hide.mk HFL0
      have HST := Hide.mk hstep
      have hcell2 : wr.cell? (ad.add i) = some (.pointer (some ⟨bs[k], 0, none⟩)) := hcell
      generalize (q.flush k).1 = q2 at *
      generalize bs[k] = x at *
      have LT := Hide.mk hlt0
      clear hcell hstep HFL0 hdrop hSi e1 e2 hC9 hrd hi3 hlt0 hl9
      go_wp2_with (go_at_call 87
                   with_reducible refine HFL.out.mono ?_
                   rintro e w4 ⟨rfl, hk8, hkp, F4, hp4⟩
                   have P4 := Hide.mk hp4
                   have K4 := Hide.mk (hK.out.trans hk8)
                   have O4 := Hide.mk (RP_kp hO.out hkp)
                   clear hk8 hkp hp4)
      go_roundw
      case rel => exact ⟨i + 1, q2, F4, by go_num, ⟨by have := LT.out; omega⟩, P4, ⟨HST.out.2.2.1⟩, ⟨HST.out.2.2.2⟩, ⟨HST.out.1.symm⟩, K4, O4⟩
      case measure => have := LT.out; simp [intOf]; omega
    · have hlt : ¬ (i : Int) < (bs.length : Int) := by omega
      have E := Hide.mk (show i = bs.length by have := hi.out; omega)
      clear hlt0
      go_wp2
      go_ret
      have hq := hRQ.out
      rw [E.out, ← HSL.out, List.drop_length] at hq
      have : R = (q, 0) := hq.symm
      refine ⟨rfl, hK.out, FF, .slice A bs.length c, bs, ?_⟩
      rw [HQ.out.2, this]
      exact hP.out
end
end Go.Proofs.YtplkndmkchpcdaaGreat.Pool
end
section
namespace Go.Proofs.YtplkndmkchpcdaaGreat.Pool
open Go.RowKit YtplkndmkchpcdaaGreatW.PrintWords YtplkndmkchpcdaaGreatW.PrintLast YtplkndmkchpcdaaGreatW.PrintMore MapFn Disk Page Num Bitset Sh
set_option maxHeartbeats 8000000
set_option maxRecDepth 100000
theorem PDB.flushF : ∀ (L : List Int) (p : Pl), PDB p → PDB (Pool.flushF L p).1
  | [], p, h => h
  | id :: r, p, h => by
    rw [Pool.flushF]
    split
    · exact h.flush _
    · exact PDB.flushF r _ (h.flush _)
section
variable {w wr w0 w' : World} {b ps pd n m : Nat} {F : Foot} {v : Value} {bs : List Nat} {p q : Pl} {now last : Nat → Option (List Int)} {A : Option Addr} {c : Nat} {body : List Int}
theorem PDB.flushAll (h : PDB p) : PDB p.flushAll.1 := PDB.flushF _ _ h
theorem PDB.commit (h : PDB p) : PDB p.commit.1 := by
  unfold Pl.commit
  split
  · exact h.flushAll
  · exact ⟨h.flushAll.db.commit, h.flushAll.frs⟩
theorem PDB.abort (h : PDB p) : PDB p.abort.1 := by
  unfold Pl.abort Sh.abort
  split
  · exact ⟨h.db, fun f hf => by cases hf⟩
  · exact ⟨h.db, fun f hf => by cases hf⟩
theorem PDB.free (h : PDB p) (id : Int) : PDB (p.free id).1 := by
  have hd : DB (p.S.free id).1.D := by
    unfold Sh.free
    split
    · exact h.db
    · split
      · exact h.db
      · exact h.db
  unfold Pl.free
  split
  · exact h
  · split
    · exact ⟨hd, h.frs⟩
    · refine ⟨hd, fun f hf => ?_⟩
      simp only at hf
      split at hf
      · exact h.frs f (List.mem_of_mem_eraseIdx hf)
      · exact h.frs f hf
theorem good_of (h : Shows n m p now last) (hd : PDB p) (hm : m ≤ 40) (hn : n ≤ 900) : Good p := by
  have h1 : Shows n m ({ p with misses := wrap64 (p.misses + 1) } : Pl) now last := ⟨h.inv, h.never, h.epoch, h.tlen, h.wlen, h.start, h.most, h.nodup, h.fr, h.nowF, h.nowP, h.nowN, h.last⟩
  have hd1 : PDB ({ p with misses := wrap64 (p.misses + 1) } : Pl) := ⟨hd.db, hd.frs⟩
  obtain ⟨q, e, hq, _⟩ := h1.roomy hm
  exact ⟨h.inv.ok, by rw [e]; exact hq.inv.ok, hd1.room.db.get, by have := h.most.2.2; omega⟩
theorem room_ok (h : Shows n m p now last) (hm : m ≤ 40) : Ok p.room.1.S := by
  obtain ⟨q, e, hq, _⟩ := h.roomy hm
  rw [e]
  exact hq.inv.ok
theorem pcommit_on (h : PAt w w0 b ps pd p) (hs : Shows n m p now last) (hm : m < 40) (hn : n ≤ 900) :
    Calls Tryz.prog 38 #[.pointer (some ⟨b, 0, none⟩)] w0 fun e w' => e = .returned (.int .i64 0) ∧ K8 w w0 w' ∧ PAt w w' b ps pd p.commit.1 := by
  have HFL := Hide.mk (flushAll_on h hs (by omega) hn)
  obtain ⟨q, e1, hq, _⟩ := hs.flushAll (by omega)
  obtain ⟨r, e2, _⟩ := hs.commit hm
  unfold Pl.commit at e2 ⊢
  rw [e1, if_neg (by simp)] at e2 ⊢
  rw [e1] at HFL
  simp only at HFL e2 ⊢
  have e0 : q.S.commit.2 = 0 := congrArg Prod.snd e2
  have HC := Hide.mk (fun (wx : World) (F : Foot) (hF : ShAt wx F q.S) => commit_any wx F q.S hF hq.inv.ok hq.inv.maps fun l h1 h2 => next_check hq.inv h1 h2)
  have HE0 := Hide.mk e0
  clear h hs e1 e2 hq e0
  go_enter Tryz.func38, Tryz.ntmps38
  go_wp2_with (first
    | (go_at_call 37
       with_reducible refine HFL.out.mono ?_
       rintro e w1 ⟨rfl, hk, F1, v1, bs1, hp⟩
       have K1 := Hide.mk hk
       have P1 := Hide.mk hp
       have c0 : w1.cell? ⟨b, 0, none⟩ = some (.pointer (some ⟨ps, 0, none⟩)) := cell_of hp.row
       have HC1 := HC.out w1 F1 hp.sh
       rw [hp.ep, HE0.out] at HC1
       have HC2 := Hide.mk HC1
       clear hk hp HC1)
    | (go_at_call 21
       with_reducible refine HC2.out.mono ?_
       rintro e w2 ⟨rfl, F2, h2, hg2⟩
       have P2 := Hide.mk (P1.out.shadow h2 hg2)
       have K2 := Hide.mk (K1.out.trans (P1.out.k8_goes hg2))
       clear h2 hg2))
  go_ret
  exact ⟨rfl, K2.out, F2, v1, bs1, P2.out⟩
theorem pabort_on (h : PAt w w0 b ps pd p) (hs : Shows n m p now last) :
    Calls Tryz.prog 39 #[.pointer (some ⟨b, 0, none⟩)] w0 fun e w' => e = .returned (.int .i64 0) ∧ K8 w w0 w' ∧ PAt w w' b ps pd p.abort.1 := by
  obtain ⟨F, v, bs, h⟩ := h
  obtain ⟨r, e2, _⟩ := hs.abort
  have e0 : p.S.abort.2 = 0 := congrArg Prod.snd e2
  have c2 : w0.cell? ⟨b, 2, none⟩ = some v := cell_of h.row
  have f2 : w0.frozen? ⟨b, 2, none⟩ = false := free_of h.row
  have hg := set_cell_grown (wr := w0) (p := b) (i := 2) (.slice none 0 0)
  have hmv := Moves.of_grown hg
  have hrow := set_row (i := 2) h.row (.slice none 0 0)
  have hours : ∀ y ∈ [b], Ours b v bs w0.heap.size y := fun y hy => .inl (by simpa using hy)
  obtain ⟨W, hW⟩ : ∃ W, w0.setCell ⟨b, 2, none⟩ (.slice none 0 0) = W := ⟨_, rfl⟩
  rw [hW] at hmv hrow
  have hp1 : PIn w W b ps pd F (.slice none 0 0) [] { p with frames := [] } :=
    h.turn hmv (by simpa using hours) (by simpa using hrow) (Kd.R_nil _ _ _ _ _) List.nodup_nil (Zip.nil _) rfl (fun g hg => by cases hg) (fun x hx => by cases hx)
  have K0 := Hide.mk (h.k8_ours hmv (by simpa using hours))
  have P0 := Hide.mk hp1
  have c0 : W.cell? ⟨b, 0, none⟩ = some (.pointer (some ⟨ps, 0, none⟩)) := cell_of hp1.row
  have HC0 := abort_any W F p.S hp1.sh hs.inv.ok
  rw [h.ep, e0] at HC0
  have HC := Hide.mk HC0
  clear h hs e2 e0 hg hmv hrow hours hp1 HC0
  go_enter Tryz.func39, Tryz.ntmps39
  go_wp2_with (first
    | (rw [hW])
    | (go_at_call 26
       with_reducible refine HC.out.mono ?_
       rintro e w2 ⟨rfl, F2, h2, hg2⟩
       have P2 := Hide.mk (P0.out.shadow h2 hg2)
       have K2 := Hide.mk (K0.out.trans (P0.out.k8_goes hg2))
       clear h2 hg2))
  go_ret
  exact ⟨rfl, K2.out, F2, _, _, P2.out⟩
end
end Go.Proofs.YtplkndmkchpcdaaGreat.Pool
end
section
namespace Go.Proofs.YtplkndmkchpcdaaGreat.Acts
open Go.RowKit Go.Deep Go.ChangeShapes Go.WideShapes YtplkndmkchpcdaaGreatW.PrintWords YtplkndmkchpcdaaGreat.Sum Disk Sh
set_option maxRecDepth 100000
section
variable {H : Type} {enc : TypeId × Value → H} {W : World} {base : Nat} {spare : Nat → Bool} {held : Bool}
theorem c49b : Tryz.prog.cellsOf 58 = 10 := by kernel_rfl
theorem open_act8 {fuel : Nat} {cs : List Value} {x : DataW H × List MemPlace} (h : DataW.trod enc Tryz.prog W base spare held fuel 58 cs = some x) :
    ∃ (v : ActV) (A : Option Addr) (c : Nat) (A2 : Option Addr) (c2 : Nat), cs = v.vals A c A2 c2 ∧ InW .u8 W A v.body c ∧ InW .u8 W A2 v.d.fate c2 ∧ v.Wf := by
  obtain ⟨xs, n, _, _, hcl, hxl, hf⟩ := DataW.trod_struct Tryz.underlying58 h
  rw [c49b] at hcl
  match xs, hxl, cs, hcl with
  | [y0, y1, y2, y3, y4], _, [v0, v1, v2, v3, v4, v5, v6, v7, v8, v9], _ =>
    have g0 := hf 0 _ rfl
    have g1 := hf 1 _ rfl
    have g2 := hf 2 _ rfl
    have g3 := hf 3 _ rfl
    have g4 := hf 4 _ rfl
    simp only [c5, c3, c4, c22, c47, List.drop_zero, List.drop_succ_cons, List.take_succ_cons, List.take_zero, List.getElem?_cons_zero, List.getElem?_cons_succ] at g0 g1 g2 g3 g4
    obtain ⟨a0, e0, _, w0⟩ := DataW.trod_int Tryz.underlying5 g0
    obtain ⟨a1, e1, _, w1⟩ := DataW.trod_int Tryz.underlying3 g1
    obtain ⟨a2, e2, _, w2⟩ := DataW.trod_int Tryz.underlying3 g2
    obtain ⟨A, l, c, e3, hi, hb⟩ := open_bytes g3
    obtain ⟨v, A2, c2, e4, hi2, hw2⟩ := open_dact g4
    injection e0 with e0 _
    injection e1 with e1 _
    injection e2 with e2 _
    subst e0 e1 e2 e3
    refine ⟨⟨a0, a1, a2, l, v⟩, A, c, A2, c2, ?_, hi, hi2, ⟨wf_u8 w0, wf_i64 w1, wf_i64 w2, hb, hw2⟩⟩
    show _ = [_, _, _, _] ++ v.vals A2 c2
    rw [← e4]
    rfl
theorem open_acts8 {fuel : Nat} {v : Value} {x : DataW H × List MemPlace} (h : DataW.trod enc Tryz.prog W base spare held fuel 55 [v] = some x) :
    ∃ (A : Option Addr) (l : List ActV) (c : Nat), v = .slice A l.length c ∧ l.length ≤ 9223372036854775807 ∧ ∀ (i : Nat) (hi : i < l.length), ∃ g o, A = some ⟨g, o, none⟩ ∧ ActAt W g (o + i * 10) l[i] := by
  rcases open_slice Tryz.underlying55 h with ⟨hc, _⟩ | ⟨a, len, cap, m, n, D, Pl, hc, hb, hl, hm, hmm, _, hx⟩
  · injection hc with hv _
    exact ⟨none, [], 0, hv, by decide, fun i hi => by cases hi⟩
  · injection hc with hv _
    have hlm : len ≤ m := by rw [hmm]; split <;> omega
    have hmx : maxLen ≤ 9223372036854775807 := by decide
    have hsp : 0 < len → a.spot = none := fun h0 => by
      obtain ⟨cs, h1, h2⟩ := hx 0 (by omega)
      rw [c49b] at h1
      obtain ⟨_, hlen, hcell⟩ := World.cells?_some h1
      obtain ⟨q, A, c, A2, c2, e, _⟩ := open_act8 h2
      have h3 : W.cell? ((a.add (0 * 10)).add 0) = cs[0]? := hcell 0 (by omega)
      rw [e] at h3
      exact spot_none (show W.cell? a = some _ from h3)
    obtain ⟨f, hf⟩ := choose_lt (n := len) (p := fun i (q : ActV) => a.spot = none ∧ ActAt W a.block (a.off + i * 10) q) (fun i hi => by
      obtain ⟨cs, h1, h2⟩ := hx i (by omega)
      rw [c49b] at h1
      obtain ⟨_, hlen, hcell⟩ := World.cells?_some h1
      have hat : ∀ j, j < 10 → W.cell? ((a.add (i * 10)).add j) = cs[j]? := fun j hj => hcell j hj
      obtain ⟨q, A, c, A2, c2, e, h3, h4, h5⟩ := open_act8 h2
      have hs := hsp (by omega)
      refine ⟨q, hs, ⟨⟨A, c, A2, c2, fun j hj => ?_, h3, h4⟩, h5⟩⟩
      rw [← e, ← hat j hj, Deep.add_add]
      obtain ⟨g, o, sp⟩ := a
      cases hs
      rw [WideShapes.add_plain, Nat.add_assoc])
    refine ⟨some a, (List.range len).map f, cap, by rw [List.length_map, List.length_range]; exact hv, by rw [List.length_map, List.length_range]; omega, fun i hi => ?_⟩
    rw [List.length_map, List.length_range] at hi
    rw [List.getElem_map, List.getElem_range]
    obtain ⟨h1, h2⟩ := hf i hi
    refine ⟨a.block, a.off, ?_, h2⟩
    obtain ⟨g, o, sp⟩ := a
    cases h1
    rfl
end
end Go.Proofs.YtplkndmkchpcdaaGreat.Acts
end
section
namespace Go.Proofs.YtplkndmkchpcdaaGreat.Acts
open Go.RowKit YtplkndmkchpcdaaGreatW.PrintWords YtplkndmkchpcdaaGreatW.PrintLast YtplkndmkchpcdaaGreatW.PrintMore MapFn Disk Bitset Page Num Sh
set_option maxHeartbeats 8000000
set_option maxRecDepth 100000
def fewB8 (l : List ActV) (most : Int) : Bool := decide ((l.length : Int) ≤ most) && l.all fun a => decide (a.body.length ≤ 300)
theorem few8_any (A : Option Addr) (c : Nat) (l : List ActV) (w : World) (h : ActsAt w A l) :
    Calls Tryz.prog 35 #[.slice A l.length c, .int .i64 40] w fun e w' => e = .returned (.bool (fewB8 l 40)) ∧ w' = w := by
  have hmx := h.len
  have H := Hide.mk h
  obtain ⟨R, hR⟩ : ∃ R, fewB8 l 40 = R := ⟨_, rfl⟩
  have HR := Hide.mk hR.symm
  rw [hR]
  clear h hR
  by_cases hm : l.length ≤ 40
  · have hm1 : ¬ (40 : Int) < (l.length : Int) := by omega
    go_enter Tryz.func35, Tryz.ntmps35
    go_wp2
    go_loopw [5] (fun v5 wr => ∃ i : Nat, v5 = .int .i64 (i : Int) ∧ Hide (i ≤ l.length) ∧ Hide ((l.take i).all (fun a => decide (a.body.length ≤ 300)) = true) ∧ Hide (wr = w)) (fun v5 _ => 100 - (intOf v5).toNat)
    case atStart => exact ⟨0, by first | rfl | simp, ⟨Nat.zero_le _⟩, ⟨by simp⟩, ⟨rfl⟩⟩
    case round =>
      obtain ⟨i, rfl, hi, hall, hw⟩ := hrel
      have hwe := hw.out
      subst hwe
      by_cases hlt0 : i < l.length
      · have hlt : (i : Int) < (l.length : Int) := by omega
        have hi40 : (i : Int) ≤ 40 := by omega
        obtain ⟨g, o, rfl, hact⟩ := H.out.at_ i hlt0
        obtain ⟨Ab, cb, A2, c2, hcell, hin, _⟩ := hact.ex
        have k3 : wr.cell? ⟨g, o + i * 10 + 3, none⟩ = some (.slice Ab (l[i]).body.length cb) := hcell 3 (by omega)
        have hbm := hin.reads.2.1
        have LT := Hide.mk hlt0
        have NX := Hide.mk (show l.take (i + 1) = l.take i ++ [l[i]] by rw [List.take_add_one, List.getElem?_eq_getElem hlt0]; rfl)
        obtain ⟨n, hn⟩ : ∃ n, (l[i]).body.length = n := ⟨_, rfl⟩
        rw [hn] at k3 hbm
        have HN := Hide.mk hn
        clear hcell hin hact
        by_cases hb : n ≤ 300
        · have hb1 : ¬ (300 : Int) < (n : Int) := by omega
          go_wp2
          go_roundw
          case rel => exact ⟨i + 1, by go_num, ⟨by have := LT.out; omega⟩, ⟨by rw [NX.out, List.all_append, hall.out]; simp [HN.out, hb]⟩, ⟨by first | trivial | rfl⟩⟩
          case measure => simp [intOf]; omega
        · have hb1 : (300 : Int) < (n : Int) := by omega
          go_wp2
          go_ret
          have : R = false := by
            rw [HR.out]
            unfold fewB8
            have : l.all (fun a => decide (a.body.length ≤ 300)) = false := by
              rw [List.all_eq_false]
              exact ⟨l[i], List.getElem_mem _, by rw [HN.out]; simpa using hb⟩
            rw [this, Bool.and_false]
          rw [this]
          exact ⟨rfl, rfl⟩
      · have hlt : ¬ (i : Int) < (l.length : Int) := by omega
        have E := Hide.mk (show i = l.length by have := hi.out; omega)
        go_wp2
        go_ret
        have : R = true := by
          have h1 := hall.out
          rw [E.out, List.take_length] at h1
          rw [HR.out]
          unfold fewB8
          rw [h1, Bool.and_true, decide_eq_true_eq]
          omega
        rw [this]
        exact ⟨rfl, rfl⟩
  · have hm1 : (40 : Int) < (l.length : Int) := by omega
    go_enter Tryz.func35, Tryz.ntmps35
    go_wp2
    go_ret
    have : R = false := by
      rw [HR.out]
      unfold fewB8
      rw [decide_eq_false (by omega), Bool.false_and]
    rw [this]
    exact ⟨rfl, rfl⟩
end Go.Proofs.YtplkndmkchpcdaaGreat.Acts
end
section
namespace Go.Proofs.YtplkndmkchpcdaaGreat.Pool
open Go.RowKit YtplkndmkchpcdaaGreatW.PrintWords YtplkndmkchpcdaaGreatW.PrintLast YtplkndmkchpcdaaGreatW.PrintMore MapFn Disk Page Num Bitset Sh
set_option maxHeartbeats 8000000
set_option maxRecDepth 100000
abbrev Pages : Type := Nat → Option (List Int)
structure SeenP (w wr : World) (b ps pd n m : Nat) (now last : Pages) : Prop where
  ex : ∃ p, PAt w wr b ps pd p ∧ Shows n m p now last ∧ PDB p
section
variable {w wr w0 w' : World} {b ps pd n m : Nat} {p q : Pl} {now last : Pages} {A : Option Addr} {c : Nat} {body : List Int}
theorem SeenP.later (h : SeenP w wr b ps pd n m now last) (hb : Below wr.heap.size wr w') : SeenP w w' b ps pd n m now last := by
  obtain ⟨p, h1, h2, h3⟩ := h.ex
  exact ⟨p, h1.later hb, h2, h3⟩
theorem SeenP.mono (h : SeenP w wr b ps pd n m now last) : SeenP w wr b ps pd n (m + 1) now last := by
  obtain ⟨p, h1, h2, h3⟩ := h.ex
  exact ⟨p, h1, h2.mono (by omega), h3⟩
theorem SeenP.below (h : SeenP w wr b ps pd n m now last) : Below w.heap.size w wr := by
  obtain ⟨p, h1, _⟩ := h.ex
  exact h1.below
theorem SeenP.small (h : SeenP w wr b ps pd n m now last) (hm : m ≤ 40) (j : Nat) (hj : 44 ≤ j) : now j = none := by
  obtain ⟨p, _, h2, _⟩ := h.ex
  refine h2.nowN j (getD_ge ?_ 0)
  have := h2.tlen
  omega
theorem SeenP.set (h : SeenP w wr b ps pd n m now last) (hm : m ≤ 40) (hn : n ≤ 900) (id kind : Int) (hr : In8 w wr A body c) (hb : Bytes body) (hsh : body.length ≤ 1000) :
    (∃ j : Nat, id = (j : Int) ∧ j < 44 ∧ Calls Tryz.prog 36 #[.pointer (some ⟨b, 0, none⟩), .int .i64 id, .int .i64 kind, .slice A body.length c] wr fun e w' => e = .returned (.int .i64 0) ∧ K8 w wr w' ∧ SeenP w w' b ps pd n m (upd_ now j (some body)) last) ∨
    (∃ er : Int, (er == 0) = false ∧ Calls Tryz.prog 36 #[.pointer (some ⟨b, 0, none⟩), .int .i64 id, .int .i64 kind, .slice A body.length c] wr fun e w' => e = .returned (.int .i64 er) ∧ K8 w wr w' ∧ SeenP w w' b ps pd n m now last) := by
  have hsm := h.small hm
  obtain ⟨p, h1, h2, h3⟩ := h.ex
  have hc := pset_on8 h1 (good_of h2 h3 hm hn) id kind hr hb hsh
  have hd := h3.set id kind hb
  obtain ⟨q, ⟨j, rfl, hj, e, hq⟩ | ⟨er, her, e, hq⟩⟩ := h2.set hm id kind hb
  · rw [e] at hc hd
    refine .inl ⟨j, rfl, ?_, hc.mono ?_⟩
    · refine Decidable.byContradiction fun z => ?_
      rw [hsm j (by omega)] at hj
      cases hj
    · rintro e' w2 ⟨rfl, hp, hk⟩
      exact ⟨rfl, hk, q, hp, hq, hd⟩
  · rw [e] at hc hd
    refine .inr ⟨er, by simpa using her, hc.mono ?_⟩
    rintro e' w2 ⟨rfl, hp, hk⟩
    exact ⟨rfl, hk, q, hp, hq, hd⟩
theorem SeenP.free (h : SeenP w wr b ps pd n m now last) (hm : m ≤ 40) (hn : n ≤ 900) (id : Int) :
    (∃ j : Nat, id = (j : Int) ∧ j < 44 ∧ Calls Tryz.prog 18 #[.pointer (some ⟨b, 0, none⟩), .int .i64 id] wr fun e w' => e = .returned (.int .i64 0) ∧ K8 w wr w' ∧ SeenP w w' b ps pd n m (upd_ now j none) last) ∨
    (∃ er : Int, (er == 0) = false ∧ Calls Tryz.prog 18 #[.pointer (some ⟨b, 0, none⟩), .int .i64 id] wr fun e w' => e = .returned (.int .i64 er) ∧ K8 w wr w' ∧ SeenP w w' b ps pd n m now last) := by
  have hsm := h.small hm
  obtain ⟨p, h1, h2, h3⟩ := h.ex
  have hc := pfree_on8 h1 h2.inv.ok (by have := h2.most.2.2; omega) id
  have hd := h3.free id
  obtain ⟨q, ⟨j, rfl, hj, e, hq⟩ | ⟨er, her, e, hq⟩⟩ := h2.free id
  · rw [e] at hc hd
    refine .inl ⟨j, rfl, ?_, hc.mono ?_⟩
    · refine Decidable.byContradiction fun z => ?_
      rw [hsm j (by omega)] at hj
      cases hj
    · rintro e' w2 ⟨rfl, hp, hk⟩
      exact ⟨rfl, hk, q, hp, hq, hd⟩
  · rw [e] at hc hd
    refine .inr ⟨er, by simpa using her, hc.mono ?_⟩
    rintro e' w2 ⟨rfl, hp, hk⟩
    exact ⟨rfl, hk, q, hp, hq, hd⟩
theorem SeenP.alloc (h : SeenP w wr b ps pd n m now last) (hm : m < 40) (hn : n ≤ 900) (kind : Int) (hr : In8 w wr A body c) (hb : Bytes body) (hsh : body.length ≤ 1000) :
    (∃ j : Nat, 1 ≤ j ∧ j < 44 ∧ now j = none ∧ Calls Tryz.prog 13 #[.pointer (some ⟨b, 0, none⟩), .int .i64 kind, .slice A body.length c] wr fun e w' => e = .returned (.tuple #[.int .i64 (j : Int), .int .i64 0]) ∧ K8 w wr w' ∧ SeenP w w' b ps pd n (m + 1) (upd_ now j (some body)) last) ∨
    (∃ er : Int, (er == 0) = false ∧ Calls Tryz.prog 13 #[.pointer (some ⟨b, 0, none⟩), .int .i64 kind, .slice A body.length c] wr fun e w' => e = .returned (.tuple #[.int .i64 0, .int .i64 er]) ∧ K8 w wr w' ∧ SeenP w w' b ps pd n (m + 1) now last) := by
  obtain ⟨p, h1, h2, h3⟩ := h.ex
  have hc := palloc_on8 h1 h2.inv.ok (room_ok h2 (by omega)) (by have := h2.most.2.2; omega) kind hr hb hsh
  have hd := h3.alloc kind hb
  obtain ⟨q, ⟨j, hj1, hj2, hj3, e, hq⟩ | ⟨er, her, e, hq⟩⟩ := h2.alloc hm kind hb
  · rw [e] at hc hd
    refine .inl ⟨j, hj1, by omega, hj3, hc.mono ?_⟩
    rintro e' w2 ⟨rfl, hp, hk⟩
    exact ⟨rfl, hk, q, hp, hq, hd⟩
  · rw [e] at hc hd
    refine .inr ⟨er, by simpa using her, hc.mono ?_⟩
    rintro e' w2 ⟨rfl, hp, hk⟩
    exact ⟨rfl, hk, q, hp, hq.mono (by omega), hd⟩
theorem SeenP.get (h : SeenP w wr b ps pd n m now last) (hm : m ≤ 40) (hn : n ≤ 900) (j : Nat) :
    Calls Tryz.prog 15 #[.pointer (some ⟨b, 0, none⟩), .int .i64 (j : Int)] wr fun e w' => K8 w wr w' ∧ ∃ (kd : Int) (A : Option Addr) (c : Nat), e = .returned (.tuple #[.int .i64 kd, .slice A ((now j).getD []).length c, .int .i64 (if (now j).isSome = true then 0 else 8)]) ∧ InW .u8 w' A ((now j).getD []) c ∧ SeenP w w' b ps pd n m now last := by
  obtain ⟨p, h1, h2, h3⟩ := h.ex
  have hc := get_on h1 (good_of h2 h3 hm hn) (j : Int)
  have hd := h3.get (j : Int)
  obtain ⟨q, hq, ⟨i, k, bd, hi, hnow, e⟩ | ⟨hno, e⟩⟩ := h2.get hm (j : Int)
  · have : i = j := by omega
    subst this
    rw [e] at hc hd
    rw [hnow]
    refine hc.mono ?_
    rintro e' w2 ⟨hk, A, c, rfl, hin, hp⟩
    exact ⟨hk, k, A, c, rfl, hin.in_, q, hp, hq, hd⟩
  · rw [e] at hc hd
    rw [hno j rfl]
    refine hc.mono ?_
    rintro e' w2 ⟨hk, A, c, rfl, hin, hp⟩
    exact ⟨hk, 0, A, c, rfl, hin.in_, q, hp, hq, hd⟩
theorem sealE_len {k : Int} {n : Nat} (h : sealE k 1 n = 0) : n ≤ 1000 := by
  unfold sealE at h
  split at h
  · cases h
  · split at h
    · cases h
    · split at h
      · cases h
      · omega
theorem Shows.len (h : Shows n m p now last) {j : Nat} {bd : List Int} (hj : now j = some bd) : bd.length ≤ 1000 := by
  have h0 := (h.has j).2 (by rw [hj]; rfl)
  by_cases z : ∃ f ∈ p.frames, f.id = (j : Int)
  · obtain ⟨f, hf, hfj⟩ := z
    rw [h.nowF f hf j hfj] at hj
    cases hj
    exact sealE_len (h.fr f hf).fits
  · rw [h.nowP j h0 fun f hf e => z ⟨f, hf, e⟩] at hj
    obtain ⟨k, b, hpg, _, hse⟩ := page_open h.inv h0
    rw [hpg] at hj
    cases hj
    exact sealE_len hse
theorem SeenP.get_none (h : SeenP w wr b ps pd n m now last) (hm : m ≤ 40) (hn : n ≤ 900) {j : Nat} (hj : now j = none) :
    Calls Tryz.prog 15 #[.pointer (some ⟨b, 0, none⟩), .int .i64 (j : Int)] wr fun e w' => K8 w wr w' ∧ ∃ (kd : Int) (A : Option Addr) (c : Nat), e = .returned (.tuple #[.int .i64 kd, .slice A 0 c, .int .i64 8]) ∧ SeenP w w' b ps pd n m now last := by
  refine (h.get hm hn j).mono ?_
  rintro e w2 ⟨hk, kd, A, c, rfl, _, hs⟩
  exact ⟨hk, kd, A, c, by rw [hj]; rfl, hs⟩
theorem SeenP.get_some (h : SeenP w wr b ps pd n m now last) (hm : m ≤ 40) (hn : n ≤ 900) {j : Nat} {bd : List Int} (hj : now j = some bd) :
    Calls Tryz.prog 15 #[.pointer (some ⟨b, 0, none⟩), .int .i64 (j : Int)] wr fun e w' => K8 w wr w' ∧ ∃ (kd : Int) (A : Option Addr) (c : Nat), e = .returned (.tuple #[.int .i64 kd, .slice A bd.length c, .int .i64 0]) ∧ InW .u8 w' A bd c ∧ SeenP w w' b ps pd n m now last := by
  refine (h.get hm hn j).mono ?_
  rintro e w2 ⟨hk, kd, A, c, rfl, hi, hs⟩
  rw [hj] at hi
  exact ⟨hk, kd, A, c, by rw [hj]; rfl, hi, hs⟩
theorem SeenP.len (h : SeenP w wr b ps pd n m now last) {j : Nat} {bd : List Int} (hj : now j = some bd) : bd.length ≤ 1000 := by
  obtain ⟨p, _, h2, _⟩ := h.ex
  exact h2.len hj
theorem SeenP.flush (h : SeenP w wr b ps pd n m now last) (hm : m ≤ 40) (hn : n ≤ 900) :
    Calls Tryz.prog 37 #[.pointer (some ⟨b, 0, none⟩)] wr fun e w' => e = .returned (.int .i64 0) ∧ K8 w wr w' ∧ SeenP w w' b ps pd n m now last := by
  obtain ⟨p, h1, h2, h3⟩ := h.ex
  obtain ⟨q, e, hq, _⟩ := h2.flushAll hm
  have hd := h3.flushAll
  have hc := flushAll_on h1 h2 hm hn
  rw [e] at hd hc
  refine hc.mono ?_
  rintro e' w2 ⟨rfl, hk, hp⟩
  exact ⟨rfl, hk, q, hp, hq, hd⟩
theorem SeenP.commit (h : SeenP w wr b ps pd n m now last) (hm : m < 40) (hn : n ≤ 900) :
    Calls Tryz.prog 38 #[.pointer (some ⟨b, 0, none⟩)] wr fun e w' => e = .returned (.int .i64 0) ∧ K8 w wr w' ∧ SeenP w w' b ps pd n (m + 1) now now := by
  obtain ⟨p, h1, h2, h3⟩ := h.ex
  obtain ⟨q, e, hq⟩ := h2.commit hm
  have hd := h3.commit
  have hc := pcommit_on h1 h2 hm hn
  rw [e] at hd hc
  refine hc.mono ?_
  rintro e' w2 ⟨rfl, hk, hp⟩
  exact ⟨rfl, hk, q, hp, hq, hd⟩
theorem SeenP.abort (h : SeenP w wr b ps pd n m now last) :
    Calls Tryz.prog 39 #[.pointer (some ⟨b, 0, none⟩)] wr fun e w' => e = .returned (.int .i64 0) ∧ K8 w wr w' ∧ SeenP w w' b ps pd n m last last := by
  obtain ⟨p, h1, h2, h3⟩ := h.ex
  obtain ⟨q, e, hq⟩ := h2.abort
  have hd := h3.abort
  have hc := pabort_on h1 h2
  rw [e] at hd hc
  refine hc.mono ?_
  rintro e' w2 ⟨rfl, hk, hp⟩
  exact ⟨rfl, hk, q, hp, hq, hd⟩
theorem format_epoch {D : DiskSt} {s : Sh} (h : Sh.format D = (s, 0)) : s.root.epoch = 0 := by
  unfold Sh.format at h
  simp only at h
  split at h
  · cases congrArg Prod.snd h
  · split at h
    · rename_i q; exact absurd (congrArg Prod.snd h) q
    · split at h
      · rename_i q; exact absurd (congrArg Prod.snd h) q
      · split at h
        · rename_i q; exact absurd (congrArg Prod.snd h) q
        · exact (congrArg (fun x : Sh × Int => x.1.root.epoch) h).symm
theorem Shows.start_ {S : Sh} (hi : Sh.Inv 200 S) (ht : S.table = [0]) (hw : S.was = [0]) (h1 : S.start = 0) (h2 : S.root.start = 0) (h3 : S.D.fails = -1) (h4 : S.root.epoch = 0) (hn : 1 ≤ n) : Shows n 0 (Pl.new S (n : Int)) (fun _ => none) (fun _ => none) := by
  have hz : ∀ j, ([0] : List Int).getD j 0 = 0 := fun j => by
    cases j with
    | zero => rfl
    | succ j => rfl
  refine ⟨hi, h3, by show S.root.epoch ≤ _; rw [h4]; simp, by show S.table.length ≤ _; rw [ht]; simp, by show S.was.length ≤ _; rw [hw]; simp, ⟨h1, h2⟩, ⟨rfl, hn, Nat.zero_le _⟩, List.nodup_nil, fun f hf => (by cases hf), fun f hf => (by cases hf), fun j hj _ => ?_, fun j hj => rfl, fun j => ?_⟩
  · have : S.table.getD j 0 ≠ 0 := hj
    rw [ht, hz] at this
    exact absurd rfl this
  · show none = if S.was.getD j 0 ≠ 0 then _ else none
    rw [hw, hz, if_neg (by simp)]
theorem seen_format (hd : DOn w wr pd (DiskSt.new 200)) :
    Calls Tryz.prog 10 #[.pointer (some ⟨pd, 0, none⟩)] wr fun en w' => ∃ p, en = .returned (.tuple #[.pointer (some ⟨p, 0, none⟩), .int .i64 0]) ∧ ∃ s, On w w' p pd s ∧ PDB (Pl.new s 1) ∧ ∀ n : Nat, 1 ≤ n → Shows n 0 (Pl.new s (n : Int)) (fun _ => none) (fun _ => none) := by
  refine (format_on hd ⟨by decide, by decide⟩).mono ?_
  obtain ⟨s, e, hi, h1, h2, h3, h4, h5, h6⟩ := format_inv (N := 200) (D := DiskSt.new 200) rfl (by decide) rfl (by decide) (by decide +kernel)
  have hdb := DB.format (DB.new 200)
  have hep := format_epoch e
  rw [e] at hdb ⊢
  rintro en w2 ⟨p, rfl, ho⟩
  exact ⟨p, by rw [ptrOf_ok], s, ho, PDB.new hdb 1, fun n hn => Shows.start_ hi h1 h2 h3 h4 h5 hep hn⟩
theorem seen_new {S : Sh} (h : On w wr ps pd S) (hd : PDB (Pl.new S 1)) (hs : ∀ n : Nat, 1 ≤ n → Shows n 0 (Pl.new S (n : Int)) (fun _ => none) (fun _ => none)) (n : Nat) (h1 : 1 ≤ n) (h2 : n ≤ 64) :
    Calls Tryz.prog 12 #[.pointer (some ⟨ps, 0, none⟩), .int .i64 (n : Int)] wr fun e w' => ∃ b, e = .returned (.tuple #[.pointer (some ⟨b, 0, none⟩), .int .i64 0]) ∧ SeenP w w' b ps pd n 0 (fun _ => none) (fun _ => none) := by
  refine (pnew_on h (n : Int) (by omega) (by omega)).mono ?_
  rintro e w2 ⟨b, rfl, hp⟩
  exact ⟨b, rfl, _, hp, hs n h1, PDB.new hd.db _⟩
def sOf : Option (List Int) → List Int
  | none => []
  | some b => 43 :: b
def cellS (now : Pages) (i : Nat) : Value := .string (strOfNums (sOf (now i)))
def rowS (now : Pages) : Array Value := ((List.range 60).map (cellS now)).toArray
theorem rowS_size (now : Pages) : (rowS now).size = 60 := by simp [rowS]
theorem rowS_at (now : Pages) {j : Nat} (hj : j < 60) : (rowS now)[j]? = some (cellS now j) := by simp [rowS, hj]
theorem rowS_set (now : Pages) {j : Nat} (hj : j < 60) (o : Option (List Int)) : (rowS now).setIfInBounds j (.string (strOfNums (sOf o))) = rowS (upd_ now j o) := by
  apply Array.ext_getElem?
  intro i
  by_cases hi : i < 60
  · rw [rowS_at _ hi, Array.getElem?_setIfInBounds]
    unfold cellS upd_
    by_cases e : i = j
    · subst e
      rw [if_pos rfl, if_pos rfl, if_pos (by rw [rowS_size]; exact hj)]
    · rw [if_neg (fun q => e q.symm), if_neg e, rowS_at _ hi]
      rfl
  · rw [Array.getElem?_eq_none (by rw [Array.size_setIfInBounds, rowS_size]; omega), Array.getElem?_eq_none (by rw [rowS_size]; omega)]
theorem rowS_none : rowS (fun _ => none) = Array.replicate 60 (.string ByteArray.empty) := by
  apply Array.ext_getElem?
  intro i
  by_cases hi : i < 60
  · rw [rowS_at _ hi]
    have : (Array.replicate 60 (Value.string ByteArray.empty))[i]? = some (.string ByteArray.empty) := by simp [hi]
    rw [this]
    rfl
  · rw [Array.getElem?_eq_none (by rw [rowS_size]; omega), Array.getElem?_eq_none (by simp; omega)]
theorem strOf_some (l : List Int) : strOfNums (sOf (some l)) = strOfNums [43] ++ strOfNums l := by
  apply ByteArray.ext
  simp [strOfNums, sOf]
theorem strOf_toList (l : List Int) : (strOfNums l).toList = l.map fun x => UInt8.ofNat x.toNat := by
  simp [strOfNums]
end
end Go.Proofs.YtplkndmkchpcdaaGreat.Pool
end
section
namespace Go.Proofs.YtplkndmkchpcdaaGreat.Pool
open Go.RowKit YtplkndmkchpcdaaGreatW.PrintWords YtplkndmkchpcdaaGreatW.PrintLast YtplkndmkchpcdaaGreatW.PrintMore MapFn Disk Page Num Bitset Sh
set_option maxHeartbeats 8000000
set_option maxRecDepth 100000
def Texts (cs : Array Value) : Prop := ∀ (i : Nat) (v : Value), cs[i]? = some v → ∃ s, v = .string s
theorem rowS_texts (now : Pages) : Texts (rowS now) := by
  intro i v h
  by_cases hi : i < 60
  · rw [rowS_at _ hi] at h
    cases h
    exact ⟨_, rfl⟩
  · rw [Array.getElem?_eq_none (by rw [rowS_size]; omega)] at h
    cases h
section
variable {w wr w' : World} {b ps pd n m g : Nat} {F : Foot} {v : Value} {bs : List Nat} {p : Pl} {now last nx : Pages} {cs : Array Value} {s : Sh}
theorem In_aside {k : IntKind} {A : Option Addr} {l : List Int} {c : Nat} (h : In k wr A l c) (hm : Moves [g] wr w') (hg : wr.heap[g]? = some (.cells cs 9 (0, 0))) (ht : Texts cs) : In k w' A l c := by
  cases l with
  | nil =>
    refine ⟨?_, h.room, fun a ha => Nat.lt_of_lt_of_le (h.lt a ha) hm.size⟩
    exact Kd.C_of_reads (enc := Value.int k) (d := (0 : Int)) (h1 := fun _ => rfl) ⟨rfl, h.reads.2.1, fun q => absurd q (by simp)⟩
  | cons x r =>
    refine h.moves hm fun a ha hb => ?_
    simp only [List.mem_singleton] at hb
    obtain ⟨ad, had, hc⟩ := Kd.at_int h.reads 0 (by omega) (by simp only [List.length_cons]; omega)
    rw [ha] at had
    cases had
    have hbk : (a.add (Int.toNat 0)).block = g := by rw [← hb]; unfold Addr.add; split <;> rfl
    unfold World.cell? at hc
    rw [hbk, hg] at hc
    simp only at hc
    split at hc
    · cases hc
    · obtain ⟨s, e⟩ := ht _ _ hc
      cases e
theorem ShAt_aside (h : ShAt wr F s) (hm : Moves [g] wr w') (hg : wr.heap[g]? = some (.cells cs 9 (0, 0))) (ht : Texts cs) : ShAt w' F s := by
  have q : ∀ x ∈ F.own, ¬ x ∈ [g] := fun x hx hn => by
    simp only [List.mem_singleton] at hn
    subst hn
    exact own_types h hg (by decide) (by decide) (by decide) hx
  exact ⟨(hm.block F.p (h.lts _ (by simp [Foot.own])) (q _ (by simp [Foot.own]))).trans h.row, h.disk.moves hm (q _ (by simp [Foot.own])) (q _ (by simp [Foot.own])) (q _ (by simp [Foot.own])), In_aside h.tables hm hg ht, In_aside h.maps hm hg ht, In_aside h.was hm hg ht, In_aside h.used hm hg ht, In_aside h.fresh hm hg ht, tab_moves h.table hm (q _ (by simp [Foot.own])), h.ne, h.off⟩
theorem PIn.aside (h : PIn w wr b ps pd F v bs p) (hm : Moves [g] wr w') (hg : wr.heap[g]? = some (.cells cs 9 (0, 0))) (ht : Texts cs) (hge : w.heap.size ≤ g) : PIn w w' b ps pd F v bs p := by
  have hx : ∀ (x : Nat) (c : Array Value) (t : TypeId) (f : Nat × Nat), wr.heap[x]? = some (.cells c t f) → t ≠ 9 → ¬ x ∈ [g] := fun x c t f hx hne hn => by
    simp only [List.mem_singleton] at hn
    subst hn
    rw [hg] at hx
    injection hx with hx
    injection hx with _ hx _
    exact hne hx.symm
  refine ⟨ShAt_aside h.sh hm hg ht, h.ep, h.epd, (hm.block b (lt_of_row h.row) (hx b _ _ _ h.row (by decide))).trans h.row, RP_moves h.arr hm fun y hy => ?_, h.nodup, h.frs.imp fun x _ f hf => ?_, h.own, h.bge, h.off, h.below.moves_low hm (fun x hx => by simp only [List.mem_singleton] at hx; omega) (Nat.le_refl _)⟩
  · obtain ⟨cells, hc⟩ := typed h.arr y hy
    exact hx y _ _ _ hc (by decide)
  · obtain ⟨vx, hrx, _⟩ := hf.ex
    refine hf.moves hm (hx x _ _ _ hrx (by decide)) fun y hy c f hc => ?_
    simp only [List.mem_singleton] at hy
    subst hy
    rw [hg] at hc
    injection hc with hc
    injection hc with _ hc _
    exact absurd hc (by decide)
theorem SeenP.aside (h : SeenP w wr b ps pd n m now last) (hm : Moves [g] wr w') (hg : wr.heap[g]? = some (.cells cs 9 (0, 0))) (ht : Texts cs) (hge : w.heap.size ≤ g) : SeenP w w' b ps pd n m now last := by
  obtain ⟨p, ⟨F, v, bs, h1⟩, h2, h3⟩ := h.ex
  exact ⟨p, ⟨F, v, bs, h1.aside hm hg ht hge⟩, h2, h3⟩
structure Both (w wr : World) (b ps pd n g9 g10 m : Nat) (now last : Pages) : Prop where
  seen : SeenP w wr b ps pd n m now last
  r9 : wr.heap[g9]? = some (.cells (rowS now) 9 (0, 0))
  r10 : wr.heap[g10]? = some (.cells (rowS last) 9 (0, 0))
  ne : g9 ≠ g10
  ge9 : w.heap.size ≤ g9
  ge10 : w.heap.size ≤ g10
variable {g9 g10 : Nat}
theorem Both.later (h : Both w wr b ps pd n g9 g10 m now last) (hb : Below wr.heap.size wr w') : Both w w' b ps pd n g9 g10 m now last :=
  ⟨h.seen.later hb, (hb.block g9 (lt_of_row h.r9)).trans h.r9, (hb.block g10 (lt_of_row h.r10)).trans h.r10, h.ne, h.ge9, h.ge10⟩
theorem Both.mono (h : Both w wr b ps pd n g9 g10 m now last) : Both w wr b ps pd n g9 g10 (m + 1) now last := ⟨h.seen.mono, h.r9, h.r10, h.ne, h.ge9, h.ge10⟩
structure Lags (w wr : World) (b ps pd n g9 g10 m : Nat) (now last nx lx : Pages) : Prop where
  seen : SeenP w wr b ps pd n m nx lx
  r9 : wr.heap[g9]? = some (.cells (rowS now) 9 (0, 0))
  r10 : wr.heap[g10]? = some (.cells (rowS last) 9 (0, 0))
  ne : g9 ≠ g10
  ge9 : w.heap.size ≤ g9
  ge10 : w.heap.size ≤ g10
theorem Both.call {m' : Nat} {lx : Pages} (h : Both w wr b ps pd n g9 g10 m now last) (hk : K8 w wr w') (hs : SeenP w w' b ps pd n m' nx lx) : Lags w w' b ps pd n g9 g10 m' now last nx lx :=
  ⟨hs, hk.row quietS h.r9, hk.row quietS h.r10, h.ne, h.ge9, h.ge10⟩
theorem Lags.same (h : Lags w wr b ps pd n g9 g10 m now last now last) : Both w wr b ps pd n g9 g10 m now last := ⟨h.seen, h.r9, h.r10, h.ne, h.ge9, h.ge10⟩
theorem Lags.store {j : Nat} {o : Option (List Int)} (h : Lags w wr b ps pd n g9 g10 m now last (upd_ now j o) last) (hj : j < 60) : Both w (wr.setCell ⟨g9, j, none⟩ (.string (strOfNums (sOf o)))) b ps pd n g9 g10 m (upd_ now j o) last := by
  have hg := set_cell_grown (wr := wr) (p := g9) (i := j) (.string (strOfNums (sOf o)))
  have hrow := set_row (i := j) h.r9 (.string (strOfNums (sOf o)))
  rw [rowS_set now hj o] at hrow
  exact ⟨h.seen.aside (Moves.of_grown hg) h.r9 (rowS_texts _) h.ge9, hrow, (hg.block g10 (lt_of_row h.r10) (fun e => h.ne (Option.some.inj e).symm)).trans h.r10, h.ne, h.ge9, h.ge10⟩
theorem Lags.copy10 (h : Lags w wr b ps pd n g9 g10 m now last now now) : Both w (wr.setRow g10 (rowS now)) b ps pd n g9 g10 m now now := by
  have hg : wr.grownBy (wr.setRow g10 (rowS now)) (some g10) := ⟨rfl, rfl, rfl, by simp, fun k hk hne => setRow_other wr g10 k _ (fun e => hne (by rw [e]))⟩
  exact ⟨h.seen.aside (Moves.of_grown hg) h.r10 (rowS_texts _) h.ge10, (hg.block g9 (lt_of_row h.r9) (fun e => h.ne (Option.some.inj e))).trans h.r9, setRow_heap wr g10 _ _ _ _ h.r10, h.ne, h.ge9, h.ge10⟩
theorem Lags.copy9 (h : Lags w wr b ps pd n g9 g10 m now last last last) : Both w (wr.setRow g9 (rowS last)) b ps pd n g9 g10 m last last := by
  have hg : wr.grownBy (wr.setRow g9 (rowS last)) (some g9) := ⟨rfl, rfl, rfl, by simp, fun k hk hne => setRow_other wr g9 k _ (fun e => hne (by rw [e]))⟩
  exact ⟨h.seen.aside (Moves.of_grown hg) h.r9 (rowS_texts _) h.ge9, setRow_heap wr g9 _ _ _ _ h.r9, (hg.block g10 (lt_of_row h.r10) (fun e => h.ne (Option.some.inj e).symm)).trans h.r10, h.ne, h.ge9, h.ge10⟩
theorem copy_texts {ops : Array Oper} {rest : List Oper} {o : Oper} {a : Act} {Q : Exit → Act → World → Prop} (hgd : o.guard = none) (d s : Operand)
    (hop : o.op = .call { callee := .builtin .copy, args := #[d, s], argTypes := #[57, 57] }) (g g2 : Nat) (hd : a.eval d = .slice (some ⟨g, 0, none⟩) 60 60) (hs : a.eval s = .slice (some ⟨g2, 0, none⟩) 60 60)
    (X Y : Pages) (hrow : wr.heap[g]? = some (.cells (rowS Y) 9 (0, 0))) (hrow2 : wr.heap[g2]? = some (.cells (rowS X) 9 (0, 0)))
    (hK : wpList Tryz.prog ops Q rest (a.put o.dst (goInt 60)) (wr.setRow g (rowS X))) : wpList Tryz.prog ops Q (o :: rest) a wr := by
  refine wpList_plain hgd fun K hK' => ?_
  have hxl : (rowS X).toList.length = 60 := by rw [Array.length_toList, rowS_size]
  have hr := run_copy_row Tryz.prog wr 57 57 o.type 9 g 0 60 60 ⟨g2, 0, none⟩ 60 60 (rowS Y) 9 (rowS X).toList Tryz.underlying57 (by kernel_rfl) hrow (by rw [hxl]; rfl) (by
    intro j v hv
    rw [Go.WideShapes.add_plain, cell_of hrow2, Nat.zero_add]
    rw [Array.getElem?_toList] at hv
    exact hv) (by rw [hxl, rowS_size]; exact Nat.le_refl _) (by
    intro v hv
    obtain ⟨i, hi⟩ := List.mem_iff_getElem?.1 hv
    rw [Array.getElem?_toList] at hi
    obtain ⟨s, rfl⟩ := rowS_texts X i v hi
    rfl)
  have e1 : ((rowS Y).toList.take 0 ++ (rowS X).toList ++ (rowS Y).toList.drop (0 + (rowS X).toList.length)).toArray = rowS X := by
    rw [hxl, List.drop_eq_nil_of_le (by rw [Array.length_toList, rowS_size]; exact Nat.le_refl _)]
    simp
  rw [e1, hxl] at hr
  have hrun : (execOp a.eval o).run Tryz.prog wr = .ok (.value (goInt 60)) (wr.setRow g (rowS X)) := by
    unfold execOp
    simp only [hop, resolve, invoke, builtin, Sem.run_bind, Sem.run_pure, Result.andThen_ok, List.map_toArray, List.map_cons, List.map_nil, hd, hs, hr]
    rfl
  unfold Oper.wp
  rw [hrun]
  exact hK' _ _ hK
end
end Go.Proofs.YtplkndmkchpcdaaGreat.Pool
end
section
namespace Go.Proofs.YtplkndmkchpcdaaGreat.Pool
open Go.RowKit YtplkndmkchpcdaaGreatW.PrintWords YtplkndmkchpcdaaGreatW.PrintLast YtplkndmkchpcdaaGreatW.PrintMore MapFn Disk Page Num Bitset Sh Acts
set_option maxHeartbeats 16000000
set_option maxRecDepth 100000
def T7_7 : Bool × List (List Nat × List Nat) := (true, [([], []), ([], []), ([0, 0], [0]), ([1, 2, 0, 1, 2], [1])])
def B7_7 : List Nat := [0, 0, 1, 7]
theorem tab7_7 : rtab .any (opsOf Tryz.f7 7) = T7_7 := by kernel_rfl
theorem bits7_7 : waitsOk T7_7.2 B7_7 = true := by kernel_rfl
def T7_39 : Bool × List (List Nat × List Nat) := (true, [([], []), ([0], [0]), ([], []), ([], []), ([2, 3], [2, 3]), ([4], [4]), ([5], [5]), ([1, 6], [1, 6]), ([7], [7]), ([8], [8]), ([9, 8], [8, 9]), ([10, 8, 8], [8, 10]), ([11], [11]), ([12, 11], [11, 12]), ([13, 11], [11, 13]), ([11], [11]), ([11], [11]), ([15, 16, 11], [11, 15, 16]), ([17, 11], [11, 17]), ([14, 18, 11], [11, 14, 18]), ([11, 19, 8], [8, 11, 19]), ([8, 20], [8, 20])])
def B7_39 : List Nat := [0, 1, 0, 0, 12, 28, 60, 127, 255, 511, 1023, 2047, 4095, 8191, 16383, 4095, 4095, 102399, 233471, 524287, 1048575, 2097151]
theorem tab7_39 : rtab .any (opsOf Tryz.f7 39) = T7_39 := by kernel_rfl
theorem bits7_39 : waitsOk T7_39.2 B7_39 = true := by kernel_rfl
theorem row_none {wr : World} {g j : Nat} {now : Pages} (h : wr.heap[g]? = some (.cells (rowS now) 9 (0, 0))) (hj : j < 60) (hno : now j = none) : wr.cell? ⟨g, j, none⟩ = some (.string ByteArray.empty) := by
  rw [cell_of h, rowS_at now hj]
  unfold cellS
  rw [hno]
  rfl
theorem plus_some (l : List Int) : strOfNums (sOf (some l)) = (⟨#[43]⟩ : ByteArray) ++ strOfNums l := strOf_some l
theorem plus_list (l : List Int) : ((⟨#[43]⟩ : ByteArray) ++ strOfNums l).toList = (43 : UInt8) :: l.map fun x => UInt8.ofNat x.toNat := by
  rw [← plus_some, strOf_toList]
  rfl
theorem row_some {wr : World} {g j : Nat} {now : Pages} {l : List Int} (h : wr.heap[g]? = some (.cells (rowS now) 9 (0, 0))) (hj : j < 60) (hno : now j = some l) : wr.cell? ⟨g, j, none⟩ = some (.string ((⟨#[43]⟩ : ByteArray) ++ strOfNums l)) := by
  rw [cell_of h, rowS_at now hj]
  unfold cellS
  rw [hno, plus_some]
theorem plus_size {l : List Int} (h : l.length ≤ 1000) : ¬ 9223372036854775807 < (⟨#[43]⟩ : ByteArray).size + (strOfNums l).size := by
  have h1 : (⟨#[43]⟩ : ByteArray).size = 1 := rfl
  rw [h1, strOfNums_size]
  omega
theorem plus_size1 {l : List Int} (h : l.length ≤ 1000) : ¬ 9223372036854775807 < 1 + (strOfNums l).size := by
  rw [strOfNums_size]
  omega
theorem conv_of {w : World} {A : Option Addr} {c n : Nat} {l : List Int} (h : InW .u8 w A l c) (hn : l.length = n) : (convert 22 9 (.slice A n c)).run Tryz.prog w.drew = .ok (.string (strOfNums l)) w.drew := by
  subst hn
  exact Kd.C_string (P := Tryz.prog) Tryz.underlying22 Tryz.underlying5 Tryz.underlying9 (h.below (below_drew (Below.refl w.heap.size w))).reads
theorem quietA : Quiet 58 := by unfold Quiet; decide
theorem infoAct8 : (Tryz.prog.info? 58).map (·.size) = some 10 := by kernel_rfl
theorem load_act8 {w : World} {ops : Array Oper} {rest : List Oper} {o : Oper} {a : Go.Act} {Q : Exit → Go.Act → World → Prop} (hg : o.guard = none) (x : Operand) (hop : o.op = Op.load 58 x) (g off : Nat) (hx : a.eval x = .pointer (some ⟨g, off, none⟩))
    (v : ActV) (A : Option Addr) (c : Nat) (A2 : Option Addr) (c2 : Nat) (hc : ∀ j, j < 10 → w.cell? ⟨g, off + j, none⟩ = (v.vals A c A2 c2)[j]?)
    (hK : wpList Tryz.prog ops Q rest (a.put o.dst (.agg #[.int .u8 v.kind, .int .i64 v.id, .int .i64 v.page, .slice A v.body.length c, .int .u8 v.d.kind, .int .i64 v.d.n, .int .u8 v.d.c, .int .u8 v.d.cut, .bool v.d.done, .slice A2 v.d.fate.length c2])) w) : wpList Tryz.prog ops Q (o :: rest) a w :=
  wpList_load_mid hg _ _ hop g off hx (v.vals A c A2 c2) _ (fun j y hy => by
    have hj : j < 10 := by
      refine Decidable.byContradiction fun q => ?_
      rw [List.getElem?_eq_none (by show 10 ≤ j; omega)] at hy
      cases hy
    rw [hc j hj, hy]) Tryz.underlying58 rfl (by rw [infoAct8]; rfl) hK
def zS : Obj := .cells (rowS fun _ => none) 9 (0, 0)
theorem infoS : (Tryz.prog.info? 9).map (fun i => (i.zero, i.size, i.bytes)) = some (some (.string ByteArray.empty), 1, 16) := by kernel_rfl
theorem exec_makeS {w : World} {a : Go.Act} {o : Oper} (hop : o.op = Op.makeSlice 57 (.const (.int .i64 60)) (.const (.int .i64 60))) : (execOp a.eval o).run Tryz.prog w = .ok (.value (.slice (some ⟨w.heap.size, 0, none⟩) 60 60)) (w.alloc zS) := by
  obtain ⟨i, hi, hz0, hz1, hz2⟩ := info_parts infoS
  have h := run_makeSlice (P := Tryz.prog) (w := w) 57 9 i _ Tryz.underlying57 hi hz0 .i64 .i64 60 60 (by decide) (by decide) (by rw [hz1]; decide) (by rw [hz2]; decide) (by decide)
  rw [hz1] at h
  have e : madeCells (Value.string ByteArray.empty).cells ((60 : Int).toNat * 1) = rowS fun _ => none := by
    rw [rowS_none]
    kernel_rfl
  rw [e] at h
  unfold execOp
  simp only [hop]
  go_simp
  rfl
theorem poolSees_any (a : Int) (ha : 0 ≤ a ∧ a < 256) (A : Option Addr) (c : Nat) (l : List ActV) (w : World) (h : ActsAt w A l) :
    Calls Tryz.prog 7 #[.int .u8 a, .slice A l.length c] w fun e w' => e = .returned (.bool true) ∧ Below w.heap.size w w' := by
  obtain ⟨m, hm⟩ : ∃ m : Nat, Int.tmod a 5 = (m : Int) := ⟨(Int.tmod a 5).toNat, by rw [Int.tmod_eq_emod_of_nonneg ha.1]; omega⟩
  have hm5 : m < 5 := by rw [Int.tmod_eq_emod_of_nonneg ha.1] at hm; omega
  have HN : Hide (((m + 1 : Nat) : Int) = 1 + (m : Int)) := ⟨by omega⟩
  have HF0 := few8_any A c l w h
  have hmx := h.len
  obtain ⟨L, hL⟩ : ∃ L, l.length = L := ⟨_, rfl⟩
  have H := Hide.mk h
  have HL := Hide.mk hL
  rw [hL] at HF0 hmx ⊢
  have hmxL : (L : Int) ≤ 9223372036854775807 := by omega
  by_cases hf : fewB8 l 40 = true
  · rw [hf] at HF0
    have HFEW := Hide.mk HF0
    have hl40 : L ≤ 40 := by
      unfold fewB8 at hf
      have := (Bool.and_eq_true _ _ ▸ hf).1
      have := of_decide_eq_true this
      omega
    have HSH : Hide (∀ v ∈ l, v.body.length ≤ 300) := ⟨by
      unfold fewB8 at hf
      have := (Bool.and_eq_true _ _ ▸ hf).2
      rw [List.all_eq_true] at this
      exact fun v hv => of_decide_eq_true (this v hv)⟩
    clear h hL hf HF0 hmx
    go_enter Tryz.func7, Tryz.ntmps7
    go_wp2_with (first
      | (go_at_call 35; (with_reducible refine HFEW.out.mono ?_); rintro e wF ⟨rfl, hw⟩; obtain rfl : w = wF := hw.symm)
      | (go_at_call 11; refine (new_on 200 _).mono ?_; rintro e w1 ⟨pd, rfl, hd⟩; have HFM := Hide.mk (seen_format hd); clear hd)
      | (go_at_call 10; (with_reducible refine HFM.out.mono ?_); rintro e w2 ⟨ps, rfl, S, hs, hdb, hsh⟩; have HPN0 := seen_new hs hdb hsh (m + 1) (by omega) (by omega); rw [HN.out] at HPN0; have HPN := Hide.mk HPN0; clear hs hdb hsh HPN0)
      | (go_at_call 12; (with_reducible refine HPN.out.mono ?_); rintro e w3 ⟨b, rfl, hs⟩; have S3 := Hide.mk hs; clear hs))
    refine start_ (n := 4) (S := fun _ => True) (ds := []) #[false, false, false, false] (by kernel_rfl) rfl rfl trivial (fun hHeld => ?_); refine with_tabW tab7_7 bits7_7 (fun HT_ HW_ => ?_)
    refine join_ (σ := Nat × Nat) 0 #[true, true, true, true] (fun s => [(47, .slice (some ⟨s.1, 0, none⟩) 60 60), (48, .slice (some ⟨s.2, 0, none⟩) 60 60), (9, .slice (some ⟨s.1, 0, none⟩) 60 60), (10, .slice (some ⟨s.2, 0, none⟩) 60 60)]) (fun s w' => w' = (w3.drew.alloc zS).alloc zS ∧ (s = (w3.drew.heap.size, (w3.drew.alloc zS).heap.size) ∨ s = ((w3.drew.alloc zS).heap.size, w3.drew.heap.size))) ?_ ?_
    rotate_left
    · intro hc
      refine two_ (i := 0) (j := 1) #[true, false, false, false] #[false, true, false, false] rfl rfl rfl rfl (two_of HT_.out (by kernel_rfl)) (by decide) (by decide) (fun K hK => ?_) (fun K hK => ?_)
      · refine value_ (w1 := (w3.drew).alloc zS) (v := .slice (some ⟨(w3.drew).heap.size, 0, none⟩) 60 60) rfl rfl (exec_makeS rfl) ?_
        refine hK.out _ _ trivial (fun hHeld => ?_)
        refine norm_ (a' := ?_) ?_ ?_
        rotate_left
        · show Act.put _ (some 47) _ = _
          simp only [Act.put, List.setIfInBounds_toArray, List.set_cons_zero, List.set_cons_succ, i64_w, i32_w]
          rfl
        refine pure_ (i := 2) (N := some 9) (v := ?_) (a' := ?_) #[true, false, true, false] rfl rfl (any_of HT_.out (by kernel_rfl)) (fun _ _ _ h => h) (Or.inl ⟨by rfl, ?_⟩) ?_ ?_
        rotate_left
        · intro w'
          go_simp
          with_reducible rfl
        rotate_left
        · simp only [Act.put, List.setIfInBounds_toArray, List.set_cons_zero, List.set_cons_succ, i64_w, i32_w]
          rfl
        refine one_ (i := 1) (N := some 48) #[true, true, true, false] rfl rfl (one_of HT_.out (by kernel_rfl)) (by decide) (fun K hK => ?_)
        refine value_ (w1 := (w3.drew.alloc zS).alloc zS) (v := .slice (some ⟨(w3.drew.alloc zS).heap.size, 0, none⟩) 60 60) rfl rfl (exec_makeS rfl) ?_
        refine hK.out _ _ trivial (fun hHeld => ?_)
        clear hK K
        refine norm_ (a' := ?_) ?_ ?_
        rotate_left
        · show Act.put _ (some 48) _ = _
          simp only [Act.put, List.setIfInBounds_toArray, List.set_cons_zero, List.set_cons_succ, i64_w, i32_w]
          rfl
        refine pure_ (i := 3) (N := some 10) (v := ?_) (a' := ?_) #[true, true, true, true] rfl rfl (any_of HT_.out (by kernel_rfl)) (fun _ _ _ h => h) (Or.inl ⟨by rfl, ?_⟩) ?_ ?_
        rotate_left
        · intro w'
          go_simp
          with_reducible rfl
        rotate_left
        · simp only [Act.put, List.setIfInBounds_toArray, List.set_cons_zero, List.set_cons_succ, i64_w, i32_w]
          rfl
        refine norm_ ?_ (hc (w3.drew.heap.size, (w3.drew.alloc zS).heap.size) _ ⟨rfl, .inl rfl⟩)
        simp only [putAll, Act.put, List.setIfInBounds_toArray, List.set_cons_zero, List.set_cons_succ]
        first | done | rfl | simp
      · refine value_ (w1 := (w3.drew).alloc zS) (v := .slice (some ⟨(w3.drew).heap.size, 0, none⟩) 60 60) rfl rfl (exec_makeS rfl) ?_
        refine hK.out _ _ trivial (fun hHeld => ?_)
        refine norm_ (a' := ?_) ?_ ?_
        rotate_left
        · show Act.put _ (some 48) _ = _
          simp only [Act.put, List.setIfInBounds_toArray, List.set_cons_zero, List.set_cons_succ, i64_w, i32_w]
          rfl
        refine one_ (i := 0) (N := some 47) #[true, true, false, false] rfl rfl (one_of HT_.out (by kernel_rfl)) (by decide) (fun K hK => ?_)
        refine value_ (w1 := (w3.drew.alloc zS).alloc zS) (v := .slice (some ⟨(w3.drew.alloc zS).heap.size, 0, none⟩) 60 60) rfl rfl (exec_makeS rfl) ?_
        refine hK.out _ _ trivial (fun hHeld => ?_)
        clear hK K
        refine norm_ (a' := ?_) ?_ ?_
        rotate_left
        · show Act.put _ (some 47) _ = _
          simp only [Act.put, List.setIfInBounds_toArray, List.set_cons_zero, List.set_cons_succ, i64_w, i32_w]
          rfl
        refine pure_ (i := 2) (N := some 9) (v := ?_) (a' := ?_) #[true, true, true, false] rfl rfl (any_of HT_.out (by kernel_rfl)) (fun _ _ _ h => h) (Or.inl ⟨by rfl, ?_⟩) ?_ ?_
        rotate_left
        · intro w'
          go_simp
          with_reducible rfl
        rotate_left
        · simp only [Act.put, List.setIfInBounds_toArray, List.set_cons_zero, List.set_cons_succ, i64_w, i32_w]
          rfl
        refine pure_ (i := 3) (N := some 10) (v := ?_) (a' := ?_) #[true, true, true, true] rfl rfl (any_of HT_.out (by kernel_rfl)) (fun _ _ _ h => h) (Or.inl ⟨by rfl, ?_⟩) ?_ ?_
        rotate_left
        · intro w'
          go_simp
          with_reducible rfl
        rotate_left
        · simp only [Act.put, List.setIfInBounds_toArray, List.set_cons_zero, List.set_cons_succ, i64_w, i32_w]
          rfl
        refine norm_ ?_ (hc ((w3.drew.alloc zS).heap.size, w3.drew.heap.size) _ ⟨rfl, .inr rfl⟩)
        simp only [putAll, Act.put, List.setIfInBounds_toArray, List.set_cons_zero, List.set_cons_succ]
        first | done | rfl | simp
    · rintro ⟨g9, g10⟩ w5 ⟨hw5, hs⟩
      have hB5 : Below w3.heap.size w3 w5 := by
        rw [hw5]
        exact ((below_drew (Below.refl w3.heap.size w3)).alloc (Nat.le_refl _) _).alloc (by simp) _
      have hr1 : w5.heap[w3.drew.heap.size]? = some zS := by rw [hw5, heap_old _ _ _ (by simp), heap_last]
      have hr2 : w5.heap[(w3.drew.alloc zS).heap.size]? = some zS := by rw [hw5]; exact heap_last _ _
      have hsz : (w3.drew.alloc zS).heap.size = w3.heap.size + 1 := by simp
      have hsz0 : w3.drew.heap.size = w3.heap.size := rfl
      have hbs := S3.out.below.size
      have hB0 : Both w w5 b ps pd (m + 1) g9 g10 0 (fun _ => none) (fun _ => none) := by
        rcases hs with hs | hs
        · cases hs
          exact ⟨S3.out.later hB5, hr1, hr2, by omega, by omega, by omega⟩
        · cases hs
          exact ⟨S3.out.later hB5, hr2, hr1, by omega, by omega, by omega⟩
      have B0 := Hide.mk hB0
      clear hs hw5 hr1 hr2 hsz hsz0 hbs hB0 hB5
      refine norm_ (a' := ?_) ?_ ?_
      rotate_left
      · simp only [putAll, Act.put, List.setIfInBounds_toArray, List.set_cons_zero, List.set_cons_succ]
        rfl
      refine done_ (done_of HT_.out (by kernel_rfl)) ?_
      clear HFM HPN HFEW S3
      go_wp2
      go_loopw [11] (fun v11 wr => ∃ (i : Nat) (now last : Pages), v11 = .int .i64 (i : Int) ∧ Hide (i ≤ L) ∧ Hide (Both w wr b ps pd (m + 1) g9 g10 i now last)) (fun v11 _ => 100 - (intOf v11).toNat)
      case atStart => exact ⟨0, _, _, by first | rfl | simp, ⟨Nat.zero_le _⟩, B0⟩
      case round =>
        obtain ⟨i, now, last, rfl, hi, hG⟩ := hrel
        clear B0
        by_cases hlt0 : i < L
        · have hlt : (i : Int) < (L : Int) := by omega
          have hi40 : (i : Int) ≤ 40 := by omega
          have hm40 : i + 1 ≤ 40 := by omega
          obtain ⟨g, off, rfl, hact0⟩ := H.out.at_ i (by rw [HL.out]; exact hlt0)
          have hact := hact0.below hG.out.seen.below
          obtain ⟨v, hv⟩ : ∃ v, l[i]'(by rw [HL.out]; exact hlt0) = v := ⟨_, rfl⟩
          have hvm : v.body.length ≤ 300 := HSH.out v (by rw [← hv]; exact List.getElem_mem _)
          rw [hv] at hact hact0
          obtain ⟨kd, id, page, body, dv⟩ := v
          obtain ⟨⟨Ab, cb, A2, c2, hcell, hin, _⟩, hwf⟩ := hact
          obtain ⟨⟨Ab0, cb0, _, _, hcell0, hin0, _⟩, _⟩ := hact0
          have hAb : Ab = Ab0 := by
            have h1 := hcell 3 (by decide)
            have h2 := pw_cell_below hG.out.seen.below (hcell0 3 (by decide))
            rw [h1] at h2
            injection h2 with h2
            injection h2 with h2 _ _
          subst hAb
          obtain ⟨q, hq⟩ : ∃ q, Int.tmod kd 12 = q := ⟨_, rfl⟩
          have hq12 : 0 ≤ q ∧ q < 12 := by
            have h0 : 0 ≤ kd := hwf.kind.1
            rw [← hq, Int.tmod_eq_emod_of_nonneg h0]
            omega
          have HCELL := Hide.mk hcell
          have HIN := Hide.mk (show In8 w wr Ab body cb from ⟨hin, fun a ha hne => .inl (hin0.lt a ha hne)⟩)
          have HBY := Hide.mk (show Bytes body from hwf.body)
          have hvm2 : body.length ≤ 300 := hvm
          have HQ := Hide.mk hq12
          have LT := Hide.mk hlt0
          clear hcell hin hwf hcell0 hin0 hv hlt0 hq12 hvm
          go_upto_block 2 with (first
  | (refine load_act8 rfl _ rfl _ _ rfl _ _ _ _ _ HCELL.out ?_))
          clear hq
          go_cut [] (fun wx => ∃ (nx lx : Pages), Hide (Both w wx b ps pd (m + 1) g9 g10 (i + 1) nx lx))
          case first =>
            have hal := (Below.refl wr.heap.size wr).alloc (Nat.le_refl _) (.cells #[.int .u8 kd, .int .i64 id, .int .i64 page, .slice Ab body.length cb, .int .u8 dv.kind, .int .i64 dv.n, .int .u8 dv.c, .int .u8 dv.cut, .bool dv.done, .slice A2 dv.fate.length c2] 58)
            have rowb := heap_last wr (.cells #[.int .u8 kd, .int .i64 id, .int .i64 page, .slice Ab body.length cb, .int .u8 dv.kind, .int .i64 dv.n, .int .u8 dv.c, .int .u8 dv.cut, .bool dv.done, .slice A2 dv.fate.length c2] 58)
            generalize wr.alloc (.cells #[.int .u8 kd, .int .i64 id, .int .i64 page, .slice Ab body.length cb, .int .u8 dv.kind, .int .i64 dv.n, .int .u8 dv.c, .int .u8 dv.cut, .bool dv.done, .slice A2 dv.fate.length c2] 58) = WB at hal rowb ⊢
            have hGb := Hide.mk (hG.out.later hal)
            have hib := Hide.mk (HIN.out.keep (K8.of_below hal))
            have hbb := HBY
            have BOXR := Hide.mk rowb
            have k1 : WB.cell? ⟨wr.heap.size, 1, none⟩ = some (.int .i64 id) := cell_of rowb
            have k2 : WB.cell? ⟨wr.heap.size, 2, none⟩ = some (.int .i64 page) := cell_of rowb
            have k3 : WB.cell? ⟨wr.heap.size, 3, none⟩ = some (.slice Ab body.length cb) := cell_of rowb
            have hql := HQ.out
            have hp1 := plus_size (l := body) (by omega)
            have hp2 := plus_size1 (l := body) (by omega)
            clear hal rowb HCELL HIN HBY
            rcases (by omega : q = 3 ∨ q = 4 ∨ q = 5 ∨ q = 8 ∨ q = 9 ∨ q = 10 ∨ (¬ q = 3 ∧ ¬ q = 4 ∧ ¬ q = 5 ∧ ¬ q = 8 ∧ ¬ q = 9 ∧ ¬ q = 10)) with rfl | rfl | rfl | rfl | rfl | rfl | ⟨n3, n4, n5, n8, n9, n10⟩
            · rcases hGb.out.seen.set (by omega) (by omega) id page hib.out hbb.out (by omega) with ⟨j, rfl, hj, hc⟩ | ⟨er, her, hc⟩
              · have HAL := Hide.mk hc
                have hj60 : j < 60 := by omega
                have hjI : (j : Int) < 60 := by omega
                have hj0 : (0 : Int) ≤ (j : Int) := by omega
                clear hc
                go_wp2_with (first
                  | (go_at_call 36; (with_reducible refine HAL.out.mono ?_); rintro e w5 ⟨rfl, hk5, hs5⟩; have L5 := Hide.mk (hGb.out.call hk5 hs5); have kb5 := hk5.row quietA BOXR.out; have k51 : w5.cell? ⟨wr.heap.size, 1, none⟩ = some (.int .i64 (j : Int)) := cell_of kb5; have k53 : w5.cell? ⟨wr.heap.size, 3, none⟩ = some (.slice Ab body.length cb) := cell_of kb5; have cv5 : (convert 22 9 (.slice Ab body.length cb)).run Tryz.prog w5 = .ok (.string (strOfNums body)) w5 := Kd.C_string Tryz.underlying22 Tryz.underlying5 Tryz.underlying9 (hib.out.keep hk5).in_.reads; have c59 : w5.cell? ⟨g9, j, none⟩ = some (cellS now j) := (cell_of L5.out.r9).trans (rowS_at now (by omega)); have f59 : w5.frozen? ⟨g9, j, none⟩ = false := free_of L5.out.r9; clear hs5))
                go_meet
                have hst := L5.out.store hj60
                rw [plus_some] at hst
                exact ⟨_, _, ⟨hst.mono⟩⟩
              · have HAL := Hide.mk hc
                clear hc
                go_wp2_with (first
                  | (go_at_call 36; (with_reducible refine HAL.out.mono ?_); rintro e w5 ⟨rfl, hk5, hs5⟩; have L5 := Hide.mk (hGb.out.call hk5 hs5); clear hs5))
                go_meet
                exact ⟨_, _, ⟨L5.out.same.mono⟩⟩
            · rcases hGb.out.seen.set (by omega) (by omega) id page hib.out hbb.out (by omega) with ⟨j, rfl, hj, hc⟩ | ⟨er, her, hc⟩
              · have HAL := Hide.mk hc
                have hj60 : j < 60 := by omega
                have hjI : (j : Int) < 60 := by omega
                have hj0 : (0 : Int) ≤ (j : Int) := by omega
                clear hc
                go_wp2_with (first
                  | (go_at_call 36; (with_reducible refine HAL.out.mono ?_); rintro e w5 ⟨rfl, hk5, hs5⟩; have L5 := Hide.mk (hGb.out.call hk5 hs5); have kb5 := hk5.row quietA BOXR.out; have k51 : w5.cell? ⟨wr.heap.size, 1, none⟩ = some (.int .i64 (j : Int)) := cell_of kb5; have k53 : w5.cell? ⟨wr.heap.size, 3, none⟩ = some (.slice Ab body.length cb) := cell_of kb5; have cv5 : (convert 22 9 (.slice Ab body.length cb)).run Tryz.prog w5 = .ok (.string (strOfNums body)) w5 := Kd.C_string Tryz.underlying22 Tryz.underlying5 Tryz.underlying9 (hib.out.keep hk5).in_.reads; have c59 : w5.cell? ⟨g9, j, none⟩ = some (cellS now j) := (cell_of L5.out.r9).trans (rowS_at now (by omega)); have f59 : w5.frozen? ⟨g9, j, none⟩ = false := free_of L5.out.r9; clear hs5))
                go_meet
                have hst := L5.out.store hj60
                rw [plus_some] at hst
                exact ⟨_, _, ⟨hst.mono⟩⟩
              · have HAL := Hide.mk hc
                clear hc
                go_wp2_with (first
                  | (go_at_call 36; (with_reducible refine HAL.out.mono ?_); rintro e w5 ⟨rfl, hk5, hs5⟩; have L5 := Hide.mk (hGb.out.call hk5 hs5); clear hs5))
                go_meet
                exact ⟨_, _, ⟨L5.out.same.mono⟩⟩
            · rcases hGb.out.seen.free (by omega) (by omega) id with ⟨j, rfl, hj, hc⟩ | ⟨er, her, hc⟩
              · have HAL := Hide.mk hc
                have hj60 : j < 60 := by omega
                have hjI : (j : Int) < 60 := by omega
                have hj0 : (0 : Int) ≤ (j : Int) := by omega
                clear hc
                go_wp2_with (first
                  | (go_at_call 18; (with_reducible refine HAL.out.mono ?_); rintro e w5 ⟨rfl, hk5, hs5⟩; have L5 := Hide.mk (hGb.out.call hk5 hs5); have kb5 := hk5.row quietA BOXR.out; have k51 : w5.cell? ⟨wr.heap.size, 1, none⟩ = some (.int .i64 (j : Int)) := cell_of kb5; have k53 : w5.cell? ⟨wr.heap.size, 3, none⟩ = some (.slice Ab body.length cb) := cell_of kb5; have cv5 : (convert 22 9 (.slice Ab body.length cb)).run Tryz.prog w5 = .ok (.string (strOfNums body)) w5 := Kd.C_string Tryz.underlying22 Tryz.underlying5 Tryz.underlying9 (hib.out.keep hk5).in_.reads; have c59 : w5.cell? ⟨g9, j, none⟩ = some (cellS now j) := (cell_of L5.out.r9).trans (rowS_at now (by omega)); have f59 : w5.frozen? ⟨g9, j, none⟩ = false := free_of L5.out.r9; clear hs5))
                go_meet
                exact ⟨_, _, ⟨(L5.out.store hj60).mono⟩⟩
              · have HAL := Hide.mk hc
                clear hc
                go_wp2_with (first
                  | (go_at_call 18; (with_reducible refine HAL.out.mono ?_); rintro e w5 ⟨rfl, hk5, hs5⟩; have L5 := Hide.mk (hGb.out.call hk5 hs5); clear hs5))
                go_meet
                exact ⟨_, _, ⟨L5.out.same.mono⟩⟩
            · have HAL := Hide.mk (hGb.out.seen.flush (by omega) (by omega))
              go_wp2_with (first
                | (go_at_call 37; (with_reducible refine HAL.out.mono ?_); rintro e w5 ⟨rfl, hk5, hs5⟩; have L5 := Hide.mk (hGb.out.call hk5 hs5); clear hs5))
              go_meet
              exact ⟨_, _, ⟨L5.out.same.mono⟩⟩
            · have HAL := Hide.mk (hGb.out.seen.commit (by omega) (by omega))
              go_wp2_with (first
                | (go_at_call 38; (with_reducible refine HAL.out.mono ?_); rintro e w5 ⟨rfl, hk5, hs5⟩; have L5 := Hide.mk (hGb.out.call hk5 hs5); clear hs5)
                | (refine copy_texts rfl _ _ rfl g10 g9 rfl rfl now last L5.out.r10 L5.out.r9 ?_))
              go_meet
              exact ⟨_, _, ⟨L5.out.copy10⟩⟩
            · have HAL := Hide.mk hGb.out.seen.abort
              go_wp2_with (first
                | (go_at_call 39; (with_reducible refine HAL.out.mono ?_); rintro e w5 ⟨rfl, hk5, hs5⟩; have L5 := Hide.mk (hGb.out.call hk5 hs5); clear hs5)
                | (refine copy_texts rfl _ _ rfl g9 g10 rfl rfl last now L5.out.r9 L5.out.r10 ?_))
              go_meet
              exact ⟨_, _, ⟨L5.out.copy9.mono⟩⟩
            · rcases hGb.out.seen.alloc (by omega) (by omega) page hib.out hbb.out (by omega) with ⟨j, hj1, hj, hno, hc⟩ | ⟨er, her, hc⟩
              · have HAL := Hide.mk hc
                have hj60 : j < 60 := by omega
                have hjI : (j : Int) < 60 := by omega
                have hj0 : (0 : Int) ≤ (j : Int) := by omega
                have hjL : ¬ (j : Int) < 1 := by omega
                have HNO := Hide.mk hno
                clear hc hno
                go_wp2_with (first
                  | (go_at_call 13; (with_reducible refine HAL.out.mono ?_); rintro e w5 ⟨rfl, hk5, hs5⟩; have L5 := Hide.mk (hGb.out.call hk5 hs5); have kb5 := hk5.row quietA BOXR.out; have k51 : w5.cell? ⟨wr.heap.size, 1, none⟩ = some (.int .i64 id) := cell_of kb5; have k53 : w5.cell? ⟨wr.heap.size, 3, none⟩ = some (.slice Ab body.length cb) := cell_of kb5; have cv5 : (convert 22 9 (.slice Ab body.length cb)).run Tryz.prog w5 = .ok (.string (strOfNums body)) w5 := Kd.C_string Tryz.underlying22 Tryz.underlying5 Tryz.underlying9 (hib.out.keep hk5).in_.reads; have c59 : w5.cell? ⟨g9, j, none⟩ = some (.string ByteArray.empty) := row_none L5.out.r9 hj60 HNO.out; have f59 : w5.frozen? ⟨g9, j, none⟩ = false := free_of L5.out.r9; clear hs5))
                go_meet
                have hst := L5.out.store hj60
                rw [plus_some] at hst
                exact ⟨_, _, ⟨hst⟩⟩
              · have HAL := Hide.mk hc
                clear hc
                go_wp2_with (first
                  | (go_at_call 13; (with_reducible refine HAL.out.mono ?_); rintro e w5 ⟨rfl, hk5, hs5⟩; have L5 := Hide.mk (hGb.out.call hk5 hs5); clear hs5))
                go_meet
                exact ⟨_, _, ⟨L5.out.same⟩⟩
          case rest =>
            obtain ⟨nx, lx, hG2⟩ := hcut
            clear HCELL HIN HBY HQ hG
            go_wp2
            go_loopw [15] (fun v15 wr => ∃ j : Nat, v15 = .int .i64 (j : Int) ∧ Hide (1 ≤ j ∧ j ≤ 45) ∧ Hide (Both w wr b ps pd (m + 1) g9 g10 (i + 1) nx lx)) (fun v15 _ => 100 - (intOf v15).toNat)
            case atStart => exact ⟨1, by first | rfl | simp, ⟨by omega⟩, hG2⟩
            case round =>
              obtain ⟨j, rfl, hj, hB⟩ := hrel
              clear hG2
              have hj1 := hj.out.1
              have hj2 := hj.out.2
              have hj45 : (j : Int) ≤ 45 := by omega
              by_cases hlt0 : j < 45
              · have hltj : (j : Int) < 45 := by omega
                have hj60 : j < 60 := by omega
                have hjI : (j : Int) < 60 := by omega
                have hj0 : (0 : Int) ≤ (j : Int) := by omega
                rcases hnx : nx j with _ | bd
                · have HGE := Hide.mk (hB.out.seen.get_none (by omega) (by omega) hnx)
                  have HNX := Hide.mk hnx
                  clear hnx
                  go_wp2_with (first
                    | (go_at_call 15; (with_reducible refine HGE.out.mono ?_); rintro e w6 ⟨hk6, kd6, A6, c6, rfl, hs6⟩; have B6 := Hide.mk (hB.out.call hk6 hs6).same; have KC : w6.drew.cell? ⟨g9, j, none⟩ = some (.string ByteArray.empty) := row_none B6.out.r9 hj60 HNX.out; clear hk6 hs6))
                  refine s_ 22 (fun w' => w'.cell? ⟨g9, j, none⟩ = some (.string ByteArray.empty)) tab7_39 bits7_39 KC (fun hHeld HT_ HW_ => ?_)
                  refine p_ 0 155 ?_
                  refine p_ 1 156 ?_
                  refine p_ 2 157 ?_
                  refine p_ 3 158 ?_
                  refine p_ 4 159 ?_
                  refine t_ 5 160 hHeld ?_
                  refine p_ 6 161 ?_
                  refine p_ 7 162 ?_
                  refine p_ 8 163 ?_
                  refine p_ 9 164 ?_
                  refine p_ 10 165 ?_
                  refine p_ 11 166 ?_
                  refine o_ 12 (some 167) ?_
                  refine o_ 13 (some 168) ?_
                  refine o_ 14 (some 169) ?_
                  refine o_ 15 (some 170) ?_
                  refine o_ 16 (some 171) ?_
                  refine o_ 17 (some 172) ?_
                  refine o_ 18 (some 173) ?_
                  refine o_ 19 (some 174) ?_
                  refine p_ 20 175 ?_
                  refine p_ 21 176 ?_
                  refine d_ ?_
                  clear KC
                  go_wp2
                  go_roundw
                  case rel => exact ⟨j + 1, by go_num, ⟨by omega⟩, ⟨B6.out.later (below_drew (Below.refl _ _))⟩⟩
                  case measure => simp [intOf]; omega
                · have HGE0 := hB.out.seen.get_some (by omega) (by omega) hnx
                  have hbl := hB.out.seen.len hnx
                  have hp1 := plus_size hbl
                  have hp2 := plus_size1 hbl
                  have hpl := plus_list bd
                  obtain ⟨nb, hnb⟩ : ∃ z, bd.length = z := ⟨_, rfl⟩
                  have NB := Hide.mk hnb
                  rw [hnb] at HGE0
                  have HGE := Hide.mk HGE0
                  have HNX := Hide.mk hnx
                  clear hnx hnb hbl HGE0
                  go_wp2_with (first
                    | (go_at_call 15; (with_reducible refine HGE.out.mono ?_); rintro e w6 ⟨hk6, kd6, A6, c6, rfl, hi6, hs6⟩; have B6 := Hide.mk (hB.out.call hk6 hs6).same; have cv6 := conv_of hi6 NB.out; have KC := And.intro (show w6.drew.cell? ⟨g9, j, none⟩ = some (.string ((⟨#[43]⟩ : ByteArray) ++ strOfNums bd)) from row_some B6.out.r9 hj60 HNX.out) cv6; clear hk6 hs6 hi6 cv6))
                  refine s_ 22 (fun w' => w'.cell? ⟨g9, j, none⟩ = some (.string ((⟨#[43]⟩ : ByteArray) ++ strOfNums bd)) ∧ (convert 22 9 (.slice A6 nb c6)).run Tryz.prog w' = .ok (.string (strOfNums bd)) w') tab7_39 bits7_39 KC (fun hHeld HT_ HW_ => ?_)
                  refine p_ 0 155 ?_
                  refine p_ 1 156 ?_
                  refine p_ 2 157 ?_
                  refine p_ 3 158 ?_
                  refine p_ 4 159 ?_
                  refine t_ 5 160 hHeld ?_ (hy := by
                      intro w' hS'
                      have s1 := hS'.1
                      go_simp
                      rfl)
                  refine p_ 6 161 ?_
                  refine p_ 7 162 ?_
                  refine p_ 8 163 ?_
                  refine p_ 9 164 ?_
                  refine p_ 10 165 ?_
                  refine p_ 11 166 ?_
                  refine p_ 12 167 ?_
                  refine t_ 13 168 hHeld ?_ (hy := by
                      intro w' hS'
                      have s1 := hS'.2
                      go_simp
                      rfl)
                  refine p_ 14 169 ?_
                  refine p_ 15 170 ?_
                  refine p_ 16 171 ?_
                  refine p_ 17 172 ?_
                  refine t_ 18 173 hHeld ?_ (hy := by
                      intro w' hS'
                      have s1 := hS'.1
                      go_simp
                      rfl)
                  refine p_ 19 174 ?_
                  refine p_ 20 175 ?_
                  refine p_ 21 176 ?_
                  refine d_ ?_
                  clear KC
                  go_wp2
                  go_roundw
                  case rel => exact ⟨j + 1, by go_num, ⟨by omega⟩, ⟨B6.out.later (below_drew (Below.refl _ _))⟩⟩
                  case measure => simp [intOf]; omega
              · have hltj : ¬ (j : Int) < 45 := by omega
                clear hlt0
                go_wp2
                refine ⟨⟨i + 1, nx, lx, by go_num, ⟨by have := LT.out; omega⟩, hB⟩, ?_⟩
                simp [intOf]
                omega
        · have hlt : ¬ (i : Int) < (L : Int) := by omega
          have B3 := Hide.mk hG.out.seen.below
          clear hlt0 hG
          go_wp2_with (first
            | (go_at_call 9; refine (awake8_any _).mono ?_; rintro e wA ⟨rfl, hb⟩; have BA := Hide.mk hb; clear hb))
          go_ret
          exact ⟨rfl, B3.out.trans (BA.out.mono B3.out.size)⟩
  · have hf : fewB8 l 40 = false := by simpa using hf
    rw [hf] at HF0
    have HFEW := Hide.mk HF0
    clear h hL hf HF0 hmx
    go_enter Tryz.func7, Tryz.ntmps7
    go_wp2_with (first
      | (go_at_call 35; (with_reducible refine HFEW.out.mono ?_); rintro e wF ⟨rfl, hw⟩; obtain rfl : w = wF := hw.symm)
      | (go_at_call 9; refine (awake8_any _).mono ?_; rintro e wA ⟨rfl, hb⟩; have BA := Hide.mk hb; clear hb))
    go_ret
    exact ⟨rfl, BA.out⟩
end Go.Proofs.YtplkndmkchpcdaaGreat.Pool
end
section
namespace Go.Proofs.YtplkndmkchpcdaaGreatW.PrintWords
open Go.ChangeShapes Go.WideShapes
end Go.Proofs.YtplkndmkchpcdaaGreatW.PrintWords
end
