/- The words, and the contracts of the functions that are reached, one behind the other. -/
import Derived.SizedLaws
import Derived.ChangeSlices
import Derived.Test.YtgmkbcoahilkhaaGreatPHG
section
namespace Go.Proofs.YtgmkbcoahilkhaaGreat.Pool
open Go.RowKit Go.Proofs.YtgmkbcoahilkhaaGreat.Disk Go.Proofs.YtgmkbcoahilkhaaGreat.Page Go.Proofs.YtgmkbcoahilkhaaGreat.Num Go.Proofs.YtgmkbcoahilkhaaGreat.Bitset Go.Proofs.YtgmkbcoahilkhaaGreat.MapFn Go.Proofs.YtgmkbcoahilkhaaGreat.Sh
set_option linter.unusedVariables false
set_option maxRecDepth 100000
section
variable {n : Nat} {m t : Int} {p q : Pl}
theorem Inv.full (h : Inv n (n + 1 : Int) t p) : (∀ f ∈ p.frames, f.id ≤ n ∧ f.pins = 1) ∧ p.frames.length = n := by
  have hup : ∀ x ∈ upto n, x ∈ p.frames.map (·.id) := fun x hx => by
    have := mem_upto.1 hx
    exact h.held x this.1 (by omega)
  have h1 := pigeon (upto n) (p.frames.map (·.id)) (upto_nodup n) hup
  rw [upto_len, List.length_map] at h1
  refine ⟨fun f hf => ?_, Nat.le_antisymm h.len h1⟩
  have hle : f.id ≤ n := by
    refine Decidable.byContradiction fun c => ?_
    have := pigeon (f.id :: upto n) (p.frames.map (·.id)) (List.nodup_cons.2 ⟨fun hx => by have := mem_upto.1 hx; omega, upto_nodup n⟩) fun x hx => by
      rcases List.mem_cons.1 hx with e | e
      · rw [e]; exact List.mem_map.2 ⟨f, hf, rfl⟩
      · exact hup x e
    rw [List.length_cons, upto_len, List.length_map] at this
    have := h.len
    omega
  exact ⟨hle, by rw [h.pins f hf, if_pos (by omega)]⟩
theorem Inv.stuck (h : Inv n (n + 1 : Int) t p) : p.room = (p, 14) := by
  obtain ⟨h1, h2⟩ := h.full
  unfold Pl.room
  rw [if_neg (by rw [h.most]; omega)]
  rcases idxF_at (fun f => decide (f.pins = 0)) p.frames 0 with e | ⟨k, hk, e, hq⟩
  · rw [if_pos (by show idxF (fun f => decide (f.pins = 0)) p.frames 0 < 0; rw [e]; decide)]
  · rw [getD_at hk, decide_eq_true_eq, (h1 _ (List.getElem_mem hk)).2] at hq
    cases hq
theorem Inv.get_stuck (h : Inv n (n + 1 : Int) t p) : ∃ q, p.get (n + 1 : Int) = (q, 0, [], 14) ∧ q.S = p.S ∧ Inv n (n + 1 : Int) t q := by
  have h0 : Inv n (n + 1 : Int) t ({ p with misses := wrap64 (p.misses + 1) } : Pl) := h.same rfl rfl
  have hf : p.fetch (n + 1 : Int) = ({ p with misses := wrap64 (p.misses + 1) }, 14) := by
    unfold Pl.fetch
    rcases idxF_at (fun f => decide (f.id = (n + 1 : Int))) p.frames 0 with e | ⟨k, hk, e, hq⟩
    · have hpl : p.place (n + 1 : Int) = -1 := e
      rw [if_neg (by rw [hpl]; decide)]
      simp only [h0.stuck]
      rw [if_pos (by decide)]
    · rw [getD_at hk, decide_eq_true_eq] at hq
      have := (h.full.1 _ (List.getElem_mem hk)).1
      omega
  unfold Pl.get
  rw [hf, if_pos (by simp)]
  exact ⟨_, rfl, rfl, h0⟩
theorem Inv.alloc_stuck (h : Inv n (n + 1 : Int) t p) (body : List Int) : p.alloc 5 body = (p, 0, 14) := by
  unfold Pl.alloc
  rw [h.stuck, if_pos (by simp)]
theorem Inv.at_id (h : Inv n m t p) {i : Int} (hi : 1 ≤ i ∧ i < m ∨ ∃ f ∈ p.frames, f.id = i) : ∃ k, ∃ hk : k < p.frames.length, p.place i = (k : Int) ∧ p.frames[k].id = i := by
  rcases idxF_at (fun f => decide (f.id = i)) p.frames 0 with e | ⟨k, hk, e, hq⟩
  · exfalso
    have hall := idxF_neg _ _ _ (show idxF (fun f => decide (f.id = i)) p.frames 0 < 0 by rw [e]; decide)
    have hf : ∃ f ∈ p.frames, f.id = i := by
      rcases hi with hi | hi
      · obtain ⟨f, hf, e2⟩ := List.mem_map.1 (h.held i hi.1 hi.2)
        exact ⟨f, hf, e2⟩
      · exact hi
    obtain ⟨f, hf, e2⟩ := hf
    have := hall f hf
    simp only [decide_eq_false_iff_not] at this
    exact this e2
  · rw [getD_at hk, decide_eq_true_eq] at hq
    exact ⟨k, hk, by rw [Nat.zero_add] at e; exact e, hq⟩
theorem Inv.unpin (h : Inv n (n + 1 : Int) t p) (hn : 1 ≤ n) : ∃ q, p.unpin (n : Int) = (q, 0) ∧ q.S = p.S ∧ q.frames.length ≤ n ∧ q.unpin (n : Int) = (q, 15) ∧ ((p.S.free (n : Int)).2 = 0 → (q.free (n : Int)).2 = 0) := by
  obtain ⟨k, hk, hpl, hid⟩ := h.at_id (i := (n : Int)) (.inl ⟨by omega, by omega⟩)
  have hp1 : p.frames[k].pins = 1 := (h.full.1 _ (List.getElem_mem hk)).2
  have hun : p.unpin (n : Int) = ({ p with frames := p.frames.set k { p.frames[k] with pins := wrap64 (p.frames[k].pins - 1) } }, 0) := by
    unfold Pl.unpin
    rw [hpl, if_neg (by omega), Int.toNat_natCast, getD_at hk, if_neg (by rw [hp1]; decide)]
  have hw : wrap64 (p.frames[k].pins - 1) = 0 := by rw [hp1]; simp [wrap64]
  rw [hw] at hun
  obtain ⟨q, hq⟩ : ∃ q : Pl, { p with frames := p.frames.set k { p.frames[k] with pins := 0 } } = q := ⟨_, rfl⟩
  rw [hq] at hun
  have hqf : q.frames = p.frames.set k { p.frames[k] with pins := 0 } := by rw [← hq]
  have hqS : q.S = p.S := by rw [← hq]
  have hids : q.frames.map (·.id) = p.frames.map (·.id) := by
    rw [hqf]
    refine List.ext_getElem (by simp) fun i h1 h2 => ?_
    simp only [List.getElem_map, List.getElem_set]
    split
    · rename_i e
      subst e
      rfl
    · rfl
  have hlen : q.frames.length = p.frames.length := by rw [hqf, List.length_set]
  have hat : ∃ k2, ∃ hk2 : k2 < q.frames.length, q.place (n : Int) = (k2 : Int) ∧ q.frames[k2].pins = 0 := by
    rcases idxF_at (fun f => decide (f.id = (n : Int))) q.frames 0 with e | ⟨k2, hk2, e, hq2⟩
    · exfalso
      have hall := idxF_neg _ _ _ (show idxF (fun f => decide (f.id = (n : Int))) q.frames 0 < 0 by rw [e]; decide)
      have hm : (n : Int) ∈ q.frames.map (·.id) := by rw [hids]; exact h.held _ (by omega) (by omega)
      obtain ⟨f, hf, e2⟩ := List.mem_map.1 hm
      have := hall f hf
      simp only [decide_eq_false_iff_not] at this
      exact this e2
    · rw [getD_at hk2, decide_eq_true_eq] at hq2
      refine ⟨k2, hk2, by rw [Nat.zero_add] at e; exact e, ?_⟩
      have hk2p : k2 < p.frames.length := by rw [← hlen]; exact hk2
      have hid2 : p.frames[k2].id = (n : Int) := by
        have h1 : (q.frames.map (·.id))[k2]? = (p.frames.map (·.id))[k2]? := by rw [hids]
        rw [List.getElem?_map, List.getElem?_map, List.getElem?_eq_getElem hk2, List.getElem?_eq_getElem hk2p] at h1
        simp only [Option.map_some, Option.some.injEq] at h1
        rw [← h1]
        exact hq2
      have hkk : k = k2 := by
        refine Decidable.byContradiction fun c => ?_
        have hnd := List.pairwise_iff_getElem.1 h.nodup
        rcases Nat.lt_or_gt_of_ne c with c | c
        · have := hnd k k2 (by simpa using hk) (by simpa using hk2p) c
          simp only [List.getElem_map] at this
          exact this (hid.trans hid2.symm)
        · have := hnd k2 k (by simpa using hk2p) (by simpa using hk) c
          simp only [List.getElem_map] at this
          exact this (hid2.trans hid.symm)
      subst hkk
      have : q.frames[k]? = some { p.frames[k] with pins := 0 } := by rw [hqf, List.getElem?_set_self hk]
      rw [List.getElem?_eq_getElem hk2] at this
      rw [Option.some.inj this]
  obtain ⟨k2, hk2, hpl2, hz⟩ := hat
  refine ⟨q, hun, hqS, by rw [hlen]; exact h.len, ?_, fun hfr => ?_⟩
  · unfold Pl.unpin
    rw [hpl2, if_neg (by omega), Int.toNat_natCast, getD_at hk2, if_pos hz]
  · unfold Pl.free
    rw [hpl2, Int.toNat_natCast, getD_at hk2, hz, if_neg (by omega), hqS, if_neg (by rw [hfr]; simp)]
end
end Go.Proofs.YtgmkbcoahilkhaaGreat.Pool
end
section
namespace Go.Proofs.YtgmkbcoahilkhaaGreat.Pool
open Go.RowKit Go.Proofs.YtgmkbcoahilkhaaGreat.Disk Go.Proofs.YtgmkbcoahilkhaaGreat.Page Go.Proofs.YtgmkbcoahilkhaaGreat.Num Go.Proofs.YtgmkbcoahilkhaaGreat.Bitset Go.Proofs.YtgmkbcoahilkhaaGreat.MapFn Go.Proofs.YtgmkbcoahilkhaaGreat.Sh
set_option linter.unusedVariables false
set_option maxRecDepth 100000
section
variable {w wr : World} {b ps pd : Nat} {p : Pl} {n : Nat}
structure MakeP (w wr : World) (b ps pd n k : Nat) (p : Pl) : Prop where
  at_ : PAt w wr b ps pd p
  inv : Inv n 1 (k : Int) p
  S : p.S = al k
structure HoldP (w wr : World) (b ps pd n m : Nat) (p : Pl) : Prop where
  at_ : PAt w wr b ps pd p
  inv : Inv n (m : Int) 10 p
  S : ∃ r, p.S = sr r
theorem MakeP.alloc {k : Nat} (h : MakeP w wr b ps pd n k p) (hn : 1 ≤ n) (hn2 : n ≤ 10) (hk : k < 10) :
    Calls Tryz.prog 12 #[.pointer (some ⟨b, 0, none⟩), .int .i64 5, .slice (some ⟨wr.heap.size, 0, none⟩) 1 1] (wr.alloc (.cells #[.int .u8 (k : Int)] 5)) fun e w' => e = .returned (.tuple #[.int .i64 ((k + 1 : Nat) : Int), .int .i64 0]) ∧ ∃ q, MakeP w w' b ps pd n (k + 1) q := by
  obtain ⟨h1, h2, h3⟩ := h.inv.allocs hn hn2 hk h.S
  obtain ⟨q, he, hS, hi⟩ := h.inv.alloc hn hk rfl h.S
  have := palloc_const h.at_ h1 h2 h3 (k : Int) ⟨by omega, by omega⟩ (0, 0)
  rw [he] at this
  refine this.mono ?_
  rintro e w2 ⟨rfl, hp⟩
  exact ⟨rfl, q, hp, hi, hS⟩
theorem MakeP.done (h : MakeP w wr b ps pd n 10 p) : HoldP w wr b ps pd n 1 p := ⟨h.at_, h.inv, _, h.S.trans al_ten⟩
theorem HoldP.good {m : Nat} (h : HoldP w wr b ps pd n m p) (h1 : 1 ≤ m) (hm : m ≤ n) (hn : n ≤ 10) : Good p := by
  obtain ⟨r, hr⟩ := h.S
  exact h.inv.good (by omega) (by omega) hn hr
theorem HoldP.pin {m : Nat} (h : HoldP w wr b ps pd n m p) (h1 : 1 ≤ m) (hm : m ≤ n) (hn : n ≤ 10) :
    Calls Tryz.prog 13 #[.pointer (some ⟨b, 0, none⟩), .int .i64 (m : Int)] wr fun e w' => e = .returned (.int .i64 0) ∧ ∃ q, HoldP w w' b ps pd n (m + 1) q := by
  obtain ⟨r, hr⟩ := h.S
  obtain ⟨q, s, he, hs, hi⟩ := h.inv.pin (by omega) (by omega) hn hr
  have := pin_on h.at_ (h.good h1 hm hn) (m : Int)
  rw [he] at this
  refine this.mono ?_
  rintro e w2 ⟨rfl, hp⟩
  exact ⟨rfl, q, hp, hi, s, hs⟩
theorem HoldP.get {m : Nat} (h : HoldP w wr b ps pd n m p) (h1 : 1 ≤ m) (hm : m ≤ n) (hn : n ≤ 10) {id : Int} (hi : 1 ≤ id ∧ id ≤ 10) :
    Calls Tryz.prog 14 #[.pointer (some ⟨b, 0, none⟩), .int .i64 id] wr fun e w' => ∃ kd A l c, e = .returned (.tuple #[.int .i64 kd, .slice A l c, .int .i64 0]) ∧ ∃ q, HoldP w w' b ps pd n m q := by
  obtain ⟨r, hr⟩ := h.S
  obtain ⟨q, s, kd, body, he, hs, hv⟩ := h.inv.get (by omega) (by omega) hr hi
  have := get_on h.at_ (h.good h1 hm hn) id
  rw [he] at this
  refine this.mono ?_
  rintro e w2 ⟨_, A, c, rfl, _, hp⟩
  exact ⟨kd, A, _, c, rfl, q, hp, hv, s, hs⟩
theorem HoldP.held {m : Nat} (h : HoldP w wr b ps pd n m p) (hn : n ≤ 10) :
    Calls Tryz.prog 15 #[.pointer (some ⟨b, 0, none⟩)] wr fun e w' => ∃ (A : Option Addr) (l : List Int) (c : Nat), e = .returned (.slice A l.length c) ∧ In .i64 w' A l c ∧ l.length ≤ n ∧ (∀ i : Nat, 1 ≤ i → i < m → ∃ hi : i - 1 < l.length, l[i - 1] = (i : Int)) ∧ HoldP w w' b ps pd n m p := by
  have := held_on h.at_ (by have := h.inv.len; omega)
  refine this.mono ?_
  rintro e w2 ⟨A, c, rfl, hi, _, hp⟩
  have hh := h.inv.held_at
  exact ⟨A, p.held, c, rfl, hi, hh.1, fun i h1 h2 => hh.2 i h1 (by omega), hp, h.inv, h.S⟩
structure FullP (w wr : World) (b ps pd n : Nat) (p : Pl) : Prop where
  at_ : PAt w wr b ps pd p
  inv : Inv n ((n : Int) + 1) 10 p
  S : ∃ r, p.S = sr r
theorem HoldP.full (h : HoldP w wr b ps pd n (n + 1) p) : FullP w wr b ps pd n p := ⟨h.at_, h.inv, h.S⟩
theorem FullP.get (h : FullP w wr b ps pd n p) (hn : n ≤ 10) :
    Calls Tryz.prog 14 #[.pointer (some ⟨b, 0, none⟩), .int .i64 ((n : Int) + 1)] wr fun e w' => ∃ A c, e = .returned (.tuple #[.int .i64 0, .slice A 0 c, .int .i64 14]) ∧ ∃ q, FullP w w' b ps pd n q := by
  obtain ⟨r, hr⟩ := h.S
  obtain ⟨q, he, hs, hv⟩ := h.inv.get_stuck
  have h0 : Inv n ((n : Int) + 1) 10 ({ p with misses := wrap64 (p.misses + 1) } : Pl) := h.inv.same rfl rfl
  have hg : Good p := ⟨by rw [hr]; exact sr_ok r, by rw [h0.stuck]; show Ok p.S; rw [hr]; exact sr_ok r, by rw [h0.stuck]; show ∀ n, Bytes (p.S.D.get n); rw [hr]; exact sr_bytes r, by have := h.inv.len; omega⟩
  have := get_on h.at_ hg ((n : Int) + 1)
  rw [he] at this
  refine this.mono ?_
  rintro e w2 ⟨_, A, c, rfl, _, hp⟩
  exact ⟨A, c, rfl, q, hp, hv, r, hs.trans hr⟩
theorem FullP.alloc (h : FullP w wr b ps pd n p) (hn : n ≤ 10) :
    Calls Tryz.prog 12 #[.pointer (some ⟨b, 0, none⟩), .int .i64 5, .slice none 0 0] wr fun e w' => e = .returned (.tuple #[.int .i64 0, .int .i64 14]) ∧ FullP w w' b ps pd n p := by
  obtain ⟨r, hr⟩ := h.S
  have := palloc_on h.at_ (by rw [hr]; exact sr_ok r) (by rw [h.inv.stuck, hr]; exact sr_ok r) (by have := h.inv.len; omega) 5 (A := none) (c := 0) (body := []) ⟨(In.nil _ _).wide, fun a ha _ => by cases ha⟩ (fun x hx => by cases hx) (by simp)
  rw [h.inv.alloc_stuck] at this
  refine this.mono ?_
  rintro e w2 ⟨rfl, hp⟩
  exact ⟨rfl, hp, h.inv, h.S⟩
theorem FullP.unpin (h : FullP w wr b ps pd n p) (h1 : 1 ≤ n) (hn : n ≤ 5) :
    ∃ q, (Calls Tryz.prog 16 #[.pointer (some ⟨b, 0, none⟩), .int .i64 (n : Int)] wr fun e w' => e = .returned (.int .i64 0) ∧ PAt w w' b ps pd q) ∧
      (∀ wx, PAt w wx b ps pd q → Calls Tryz.prog 16 #[.pointer (some ⟨b, 0, none⟩), .int .i64 (n : Int)] wx fun e w' => e = .returned (.int .i64 15) ∧ PAt w w' b ps pd q) ∧
      (∀ wx, PAt w wx b ps pd q → Calls Tryz.prog 17 #[.pointer (some ⟨b, 0, none⟩), .int .i64 (n : Int)] wx fun e w' => e = .returned (.int .i64 0) ∧ ∃ z, PAt w w' b ps pd z) := by
  obtain ⟨r, hr⟩ := h.S
  obtain ⟨q, e1, hs, hl, e2, e3⟩ := h.inv.unpin h1
  refine ⟨q, ?_, fun wx hx => ?_, fun wx hx => ?_⟩
  · have := unpin_on h.at_ (by have := h.inv.len; omega) (n : Int)
    rw [e1] at this
    exact this
  · have := unpin_on hx (by omega) (n : Int)
    rw [e2] at this
    exact this
  · have := pfree_on hx (by rw [hs, hr]; exact sr_ok r) (by omega) (n : Int)
    rw [e3 (by rw [hr]; exact sr_free h1 hn r)] at this
    refine this.mono ?_
    rintro e w2 ⟨rfl, hp⟩
    exact ⟨rfl, _, hp⟩
end
end Go.Proofs.YtgmkbcoahilkhaaGreat.Pool
end
section
namespace Go.Proofs.YtgmkbcoahilkhaaGreat.Pool
open Go.RowKit Go.Proofs.YtgmkbcoahilkhaaGreatW.PrintWords Go.Proofs.YtgmkbcoahilkhaaGreatW.PrintLast Go.Proofs.YtgmkbcoahilkhaaGreatW.PrintMore Go.Proofs.YtgmkbcoahilkhaaGreat.MapFn Go.Proofs.YtgmkbcoahilkhaaGreat.Disk Go.Proofs.YtgmkbcoahilkhaaGreat.Page Go.Proofs.YtgmkbcoahilkhaaGreat.Num Go.Proofs.YtgmkbcoahilkhaaGreat.Bitset Go.Proofs.YtgmkbcoahilkhaaGreat.Sh
set_option linter.unusedVariables false
set_option linter.unusedSimpArgs false
set_option maxHeartbeats 16000000
set_option maxRecDepth 100000
theorem poolHolds_any (a : Int) (ha : 0 ≤ a ∧ a < 256) (A : Option Addr) (c : Nat) (gs : List Int) (w : World) (hi : In .u8 w A gs c) (hby : Bytes gs) :
    Calls Tryz.prog 3 #[.int .u8 a, .slice A gs.length c] w fun e w' => e = .returned (.bool true) ∧ Below w.heap.size w w' := by
  obtain ⟨m, hm⟩ : ∃ m : Nat, Int.tmod a 5 = (m : Int) := ⟨(Int.tmod a 5).toNat, by rw [Int.tmod_eq_emod_of_nonneg ha.1]; omega⟩
  have hm5 : m < 5 := by rw [Int.tmod_eq_emod_of_nonneg ha.1] at hm; omega
  have HN : Hide (((m + 1 : Nat) : Int) = 1 + (m : Int)) := ⟨by omega⟩
  have HI := Hide.mk hi
  have HB := Hide.mk hby
  obtain ⟨L, hL⟩ : ∃ L, gs.length = L := ⟨_, rfl⟩
  have hmx : (L : Int) ≤ 9223372036854775807 := by have := hi.reads.2.1; omega
  have HL := Hide.mk hL
  rw [hL]
  clear hi hby hL
  by_cases hl : L ≤ 30
  · have hl1 : ¬ (30 : Int) < (L : Int) := by omega
    have HND := Hide.mk (new_on 100 w)
    clear hl
    go_enter Tryz.func3, Tryz.ntmps3
    go_wp2_with (first
      | (go_at_call 10
         with_reducible refine HND.out.mono ?_
         rintro e w1 ⟨pd, rfl, hd⟩
         have HFM0 := format_on hd ⟨by decide, by decide⟩
         rw [al_zero] at HFM0
         simp only [ptrOf_ok] at HFM0
         have HFM := Hide.mk HFM0
         clear hd HFM0)
      | (go_at_call 9
         with_reducible refine HFM.out.mono ?_
         rintro e w2 ⟨ps, rfl, hs⟩
         have HPN := Hide.mk (pnew_on hs (1 + (m : Int)) (by omega) (by omega))
         clear hs)
      | (go_at_call 11
         with_reducible refine HPN.out.mono ?_
         rintro e w3 ⟨b, rfl, hs⟩
         rw [← HN.out] at hs
         have P3 := Hide.mk (MakeP.mk hs (Inv.start (m + 1) (by omega)) rfl)
         clear hs))
    go_loopw [10] (fun v10 wr => ∃ (k : Nat) (p : Pl), v10 = .int .i64 (k : Int) ∧ Hide (k ≤ 10) ∧ Hide (MakeP w wr b ps pd (m + 1) k p)) (fun v10 _ => 100 - (intOf v10).toNat)
    case atStart => exact ⟨0, _, by first | rfl | simp, ⟨Nat.zero_le _⟩, P3⟩
    case round =>
      obtain ⟨k, p, rfl, hk, hP⟩ := hrel
      clear P3 HPN HFM HND
      have hk10 : (k : Int) ≤ 10 := by have := hk.out; omega
      by_cases hlt0 : k < 10
      · have hlt : (k : Int) < 10 := by omega
        have hk256 : (k : Int) < 256 := by omega
        have HAL0 := hP.out.alloc (by omega) (by omega) hlt0
        have e1 : ((k + 1 : Nat) : Int) = (k : Int) + 1 := by omega
        rw [e1] at HAL0
        have HAL := Hide.mk HAL0
        clear hlt0 HAL0 e1
        go_wp2_with (go_at_call 12; with_reducible refine HAL.out.mono ?_; rintro e w4 ⟨rfl, q, hq⟩; have P4 := Hide.mk hq; clear hq)
        go_roundw
        case rel => exact ⟨k + 1, q, by go_num, ⟨by omega⟩, P4⟩
        case measure => simp [intOf]; omega
      · have hlt : ¬ (k : Int) < 10 := by omega
        have hke : k = 10 := by omega
        have HP := Hide.mk (show HoldP w wr b ps pd (m + 1) 1 p from (hke ▸ hP.out).done)
        clear hP hke hlt0
        go_wp2
        go_loopw [13] (fun v13 wr => ∃ (i : Nat) (p : Pl), v13 = .int .i64 (i : Int) ∧ Hide (1 ≤ i ∧ i ≤ m + 1) ∧ Hide (HoldP w wr b ps pd (m + 1) i p)) (fun v13 _ => 100 - (intOf v13).toNat)
        case atStart => exact ⟨1, p, by first | rfl | simp, ⟨by omega⟩, HP⟩
        case round =>
          obtain ⟨i, p, rfl, hk, hP⟩ := hrel
          clear HP
          have hi1 := hk.out.1
          have hi2 := hk.out.2
          have hi6 : (i : Int) ≤ 6 := by omega
          by_cases hlt0 : i < m + 1
          · have hlt : (i : Int) < 1 + (m : Int) := by omega
            have HPI := Hide.mk (hP.out.pin hi1 hi2 (by omega))
            have LT := Hide.mk hlt0
            clear hlt0
            go_wp2_with (go_at_call 13; with_reducible refine HPI.out.mono ?_; rintro e w4 ⟨rfl, q, hq⟩; have P4 := Hide.mk hq; clear hq)
            go_roundw
            case rel => exact ⟨i + 1, q, by go_num, ⟨by have := LT.out; omega⟩, P4⟩
            case measure => simp [intOf]; omega
          · have hlt : ¬ (i : Int) < 1 + (m : Int) := by omega
            have hke : i = m + 1 := by omega
            have HP := Hide.mk (show HoldP w wr b ps pd (m + 1) (m + 1) p from hke ▸ hP.out)
            clear hP hke hlt0
            go_wp2
            go_loopw [14] (fun v14 wr => ∃ (i : Nat) (p : Pl), v14 = .int .i64 (i : Int) ∧ Hide (i ≤ L) ∧ Hide (HoldP w wr b ps pd (m + 1) (m + 1) p)) (fun v14 _ => 100 - (intOf v14).toNat)
            case atStart => exact ⟨0, p, by first | rfl | simp, ⟨Nat.zero_le _⟩, HP⟩
            case round =>
              obtain ⟨x, p, rfl, hx, hP⟩ := hrel
              clear HP
              have hx30 : (x : Int) ≤ 30 := by have := hx.out; omega
              by_cases hlt0 : x < L
              · have hltx : (x : Int) < (L : Int) := by omega
                have hil := HL.out
                obtain ⟨ad, rfl, hcell⟩ := Kd.at_int (HI.out.below hP.out.at_.below).reads (x : Int) (by omega) (by omega)
                obtain ⟨g, hg⟩ : ∃ g, rd gs (x : Int) = g := ⟨_, rfl⟩
                have hgb : 0 ≤ g ∧ g < 256 := by
                  rw [← hg]
                  have h1 : x < gs.length := by omega
                  have := HB.out gs[x] (List.getElem_mem h1)
                  have h2 : rd gs (x : Int) = gs[x] := by simp [rd, List.getD_eq_getElem?_getD, h1]
                  rw [h2]
                  exact this
                rw [hg, Int.toNat_natCast] at hcell
                obtain ⟨j, hj⟩ : ∃ j : Nat, Int.tmod g 10 = (j : Int) := ⟨(Int.tmod g 10).toNat, by rw [Int.tmod_eq_emod_of_nonneg hgb.1]; omega⟩
                have hj10 : j < 10 := by rw [Int.tmod_eq_emod_of_nonneg hgb.1] at hj; omega
                have HGE := Hide.mk (hP.out.get (by omega) (Nat.le_refl _) (by omega) (id := 1 + (j : Int)) ⟨by omega, by omega⟩)
                have LT := Hide.mk hlt0
                clear hlt0 hil hg
                go_wp2_with (first
                  | (go_at_call 14
                     with_reducible refine HGE.out.mono ?_
                     rintro e w5 ⟨kd, Ag, lg, cg, rfl, q, hq⟩
                     have P5 := Hide.mk hq
                     have HHE := Hide.mk (hq.held (by omega))
                     clear hq)
                  | (go_at_call 15
                     with_reducible refine HHE.out.mono ?_
                     rintro e w6 ⟨Ah, lh, ch, rfl, hih, hlh, hat, hq⟩
                     have P6 := Hide.mk hq
                     obtain ⟨n6, hn6⟩ : ∃ z, lh.length = z := ⟨_, rfl⟩
                     rw [hn6]
                     have hle6 : (n6 : Int) ≤ 1 + (m : Int) := by omega
                     have hgt6 : ¬ 1 + (m : Int) < (n6 : Int) := by omega
                     have hmx6 : (n6 : Int) ≤ 9223372036854775807 := by omega
                     have I6 := Hide.mk hih
                     have AT6 := Hide.mk hat
                     have N6 := Hide.mk hn6
                     clear hih hlh hat hq hn6))
                go_loopw [19] (fun v19 wr => ∃ (i : Nat), v19 = .int .i64 (i : Int) ∧ Hide (1 ≤ i ∧ i ≤ m + 1) ∧ Hide (wr = w6)) (fun v19 _ => 100 - (intOf v19).toNat)
                case atStart => exact ⟨1, by first | rfl | simp, ⟨by omega⟩, ⟨rfl⟩⟩
                case round =>
                  obtain ⟨y, rfl, hy, hw⟩ := hrel
                  have hwe := hw.out
                  subst hwe
                  have hy1 := hy.out.1
                  have hy2 := hy.out.2
                  have hy6 : (y : Int) ≤ 6 := by omega
                  by_cases hlt0 : y < m + 1
                  · have hlty : (y : Int) < 1 + (m : Int) := by omega
                    obtain ⟨hyl, hye⟩ := AT6.out y hy1 hlt0
                    have hn6 := N6.out
                    have hny : ¬ (n6 : Int) < (y : Int) := by omega
                    obtain ⟨ah, hah, hch⟩ := Kd.at_int I6.out.reads ((y : Int) - 1) (by omega) (by omega)
                    have hrd : rd lh ((y : Int) - 1) = (y : Int) := by
                      rw [show ((y : Int) - 1) = ((y - 1 : Nat) : Int) by omega]
                      simp [rd, List.getD_eq_getElem?_getD, hyl, hye]
                    rw [hrd, show ((y : Int) - 1).toNat = y - 1 by omega] at hch
                    subst hah
                    have g1 : (0 : Int) ≤ (y : Int) - 1 := by omega
                    have g2 : (y : Int) - 1 < (n6 : Int) := by omega
                    have qy : ((y : Int) != (y : Int)) = false := by simp
                    have LTY := Hide.mk hlt0
                    clear hlt0 hyl hye hn6 hrd
                    go_wp2
                    go_roundw
                    case rel => exact ⟨y + 1, by go_num, ⟨by have := LTY.out; omega⟩, ⟨by first | trivial | rfl⟩⟩
                    case measure => simp [intOf]; omega
                  · have hlty : ¬ (y : Int) < 1 + (m : Int) := by omega
                    clear hlt0
                    go_wp2
                    refine ⟨⟨x + 1, q, by go_num, ⟨by have := LT.out; omega⟩, P6⟩, ?_⟩
                    simp [intOf]
                    omega
              · have hltx : ¬ (x : Int) < (L : Int) := by omega
                have HPI0 := hP.out.pin (by omega) (Nat.le_refl _) (by omega)
                rw [HN.out] at HPI0
                have HPI := Hide.mk HPI0
                clear hP hlt0 HPI0
                go_wp2_with (first
                  | (go_at_call 13
                     with_reducible refine HPI.out.mono ?_
                     rintro e w7 ⟨rfl, q7, hq⟩
                     have HGF0 := hq.full.get (by omega)
                     rw [HN.out] at HGF0
                     have HGF := Hide.mk HGF0
                     clear hq HGF0)
                  | (go_at_call 14
                     with_reducible refine HGF.out.mono ?_
                     rintro e w8 ⟨A8, c8, rfl, q8, hq⟩
                     have HAF := Hide.mk (hq.alloc (by omega))
                     clear hq)
                  | (go_at_call 12
                     with_reducible refine HAF.out.mono ?_
                     rintro e w9 ⟨rfl, hq⟩
                     obtain ⟨z, u1, u2, u3⟩ := hq.unpin (by omega) (by omega)
                     rw [HN.out] at u1 u2 u3
                     have U1 := Hide.mk u1
                     have U2 := Hide.mk u2
                     have U3 := Hide.mk u3
                     clear hq u1 u2 u3)
                  | (go_at_call 16
                     with_reducible refine U1.out.mono ?_
                     rintro e w10 ⟨rfl, hq⟩
                     have U2b := Hide.mk (U2.out _ hq)
                     clear hq)
                  | (go_at_call 16
                     with_reducible refine U2b.out.mono ?_
                     rintro e w11 ⟨rfl, hq⟩
                     have U3b := Hide.mk (U3.out _ hq)
                     clear hq)
                  | (go_at_call 17
                     with_reducible refine U3b.out.mono ?_
                     rintro e w12 ⟨rfl, z2, hq⟩
                     have B12 := Hide.mk hq.below
                     clear hq)
                  | (go_at_call 8
                     refine (awake8_any w12).mono ?_
                     rintro e w13 ⟨rfl, hb⟩
                     have B13 := Hide.mk (B12.out.trans (hb.mono B12.out.size))
                     clear hb))
                go_ret
                exact ⟨rfl, B13.out⟩
  · have hl1 : (30 : Int) < (L : Int) := by omega
    clear hl
    go_enter Tryz.func3, Tryz.ntmps3
    go_wp2_with (go_at_call 8; refine (awake8_any _).mono ?_; rintro e w1 ⟨rfl, hb1⟩; have B1 := Hide.mk hb1; clear hb1)
    go_ret
    exact ⟨rfl, B1.out⟩
end Go.Proofs.YtgmkbcoahilkhaaGreat.Pool
end
section
namespace Go.Proofs.YtgmkbcoahilkhaaGreatW.PrintWords
open Go.ChangeShapes Go.WideShapes
theorem sized_ints {H : Type} {enc : TypeId × Value → H} {P : Program} {W : World} {base : Nat} {spare : Nat → Bool} {held : Bool} {t e : TypeId} {k : IntKind} {a : Option Addr} {len cap : Nat} {d : DataW H} {ps : List MemPlace} {ts : List TypeId} {ds : List (DataW H)} {j : Nat}
    (hsz : (DataW.weightsEach P ts ds).all (· ≤ reachBytes) = true) (ht : ts[j]? = some t) (hd : ds[j]? = some d) (hu : P.underlying t = some (.slice e)) (he : P.underlying e = some (.int k)) (hc : P.cellsOf e = 1) {B : Nat} (hB : P.bytesOf e = B)
    (h : DataW.Trod enc P W base spare held t (.slice a len cap) d ps) : len * B ≤ 140737488351232 := by
  obtain ⟨fuel, hf⟩ := h
  rcases open_ints hu he hc hf with ⟨hcs, _⟩ | ⟨x, l, c, zs, hcs, _, hl, _, hz, hx, _, _⟩
  · simp [Value.cells] at hcs
    obtain ⟨rfl, rfl, rfl⟩ := hcs
    simp
  · simp [Value.cells] at hcs
    obtain ⟨rfl, rfl, rfl⟩ := hcs
    obtain ⟨hx, _⟩ := Prod.mk.inj hx
    subst hx
    have z := sized_slice hsz ht hd hu
    rw [hB] at z
    have hl2 : len ≤ zs.length := by
      rw [hz]
      split
      · exact hl
      · exact Nat.le_refl _
    have h1 : (lits (H := H) k (zs.take len)).length + (lits (H := H) k (zs.drop len)).length = zs.length := by
      simp [lits]
      omega
    rw [h1] at z
    exact Nat.le_trans (Nat.mul_le_mul_right _ hl2) z
end Go.Proofs.YtgmkbcoahilkhaaGreatW.PrintWords
end
