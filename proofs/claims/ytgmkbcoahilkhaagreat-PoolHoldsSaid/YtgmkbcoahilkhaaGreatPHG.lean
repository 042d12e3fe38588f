/- The words, and the contracts of the functions that are reached, one behind the other. -/
import Derived.Test.YtgmkbcoahilkhaaGreatPHF
section
namespace Go.Proofs.YtgmkbcoahilkhaaGreat.Pool
open Go.RowKit Go.Proofs.YtgmkbcoahilkhaaGreat.Disk Go.Proofs.YtgmkbcoahilkhaaGreat.Page Go.Proofs.YtgmkbcoahilkhaaGreat.Num Go.Proofs.YtgmkbcoahilkhaaGreat.Bitset Go.Proofs.YtgmkbcoahilkhaaGreat.MapFn Go.Proofs.YtgmkbcoahilkhaaGreat.Sh
set_option linter.unusedVariables false
set_option maxRecDepth 100000
def al : Nat → Sh
  | 0 => (Sh.format (DiskSt.new 100)).1
  | k + 1 => ((al k).alloc 5 [(k : Int)]).1
def s10 : Sh := al 10
theorem al_format : (Sh.format (DiskSt.new 100)).2 = 0 := by decide +kernel
theorem al_facts : ((List.range 11).all (fun k => okB (al k)) && (List.range 10).all (fun k => decide (((al k).alloc 5 [(k : Int)]).2 = (((k + 1 : Nat) : Int), 0)))) = true := by decide +kernel
def rdB (id : Int) : Bool := decide ((s10.block id).2 = 0) && decide (s10.D.at_ (s10.block id).1 = 0) && decide ((openL (s10.D.get (s10.block id).1)).2.2.2 = 0) && decide ((openL (s10.D.get (s10.block id).1)).2.1 = id)
theorem rd_facts : (List.range 10).all (fun k => rdB ((k + 1 : Nat) : Int)) = true := by decide +kernel
theorem fr_facts : (List.range 5).all (fun k => decide ((s10.free ((k + 1 : Nat) : Int)).2 = 0)) = true := by decide +kernel
theorem al_ok {k : Nat} (h : k ≤ 10) : Ok (al k) := by
  have := al_facts
  rw [Bool.and_eq_true] at this
  exact okB_ok (List.all_eq_true.1 this.1 k (List.mem_range.2 (by omega)))
theorem al_alloc {k : Nat} (h : k < 10) : (al k).alloc 5 [(k : Int)] = (al (k + 1), ((k + 1 : Nat) : Int), 0) := by
  have := al_facts
  rw [Bool.and_eq_true] at this
  have := List.all_eq_true.1 this.2 k (List.mem_range.2 h)
  rw [decide_eq_true_eq] at this
  exact Prod.ext rfl this
theorem al_db : ∀ k : Nat, k ≤ 10 → DB (al k).D
  | 0, _ => DB.format (DB.new 100)
  | k + 1, h => (al_db k (by omega)).alloc 5 (one_bytes ⟨by omega, by omega⟩)
theorem s10_eq : s10 = al 10 := rfl
theorem al_zero : Sh.format (DiskSt.new 100) = (al 0, 0) := Prod.ext rfl al_format
attribute [irreducible] s10 al
def sr (r : Int) : Sh := s10.on { s10.D with reads := r }
theorem al_ten : al 10 = sr s10.D.reads := by
  rw [← s10_eq]
  rfl
theorem sr_ok (r : Int) : Ok (sr r) := by
  have := al_ok (Nat.le_refl 10)
  rw [← s10_eq] at this
  exact this.on _
theorem sr_bytes (r : Int) (n : Int) : Bytes ((sr r).D.get n) := by
  have := al_db 10 (Nat.le_refl _)
  rw [← s10_eq] at this
  exact (DB.of (E := { s10.D with reads := r }) this rfl rfl).get n
theorem sr_read {id : Int} (h1 : 1 ≤ id) (h2 : id ≤ 10) (r : Int) : ∃ k b, (sr r).read id = (sr (wrap64 (r + 1)), k, b, 0) := by
  have h := List.all_eq_true.1 rd_facts (id - 1).toNat (List.mem_range.2 (by omega))
  rw [show (((id - 1).toNat + 1 : Nat) : Int) = id by omega] at h
  unfold rdB at h
  simp only [Bool.and_eq_true, decide_eq_true_eq] at h
  obtain ⟨⟨⟨e1, e2⟩, e3⟩, e4⟩ := h
  refine ⟨(openL (s10.D.get (s10.block id).1)).1, (openL (s10.D.get (s10.block id).1)).2.2.1, ?_⟩
  unfold Sh.read
  rw [if_neg (show ¬ ((sr r).block id).2 ≠ 0 from fun h => h e1), if_neg (show ¬ (sr r).D.at_ ((sr r).block id).1 ≠ 0 from fun h => h e2)]
  simp only
  rw [if_neg]
  · rfl
  · rintro (q | q)
    · exact q e3
    · exact q e4
theorem sr_free {n : Nat} (h1 : 1 ≤ n) (h2 : n ≤ 5) (r : Int) : ((sr r).free (n : Int)).2 = 0 := by
  have h := List.all_eq_true.1 fr_facts (n - 1) (List.mem_range.2 (by omega))
  rw [decide_eq_true_eq, show ((n - 1 + 1 : Nat) : Int) = n by omega] at h
  unfold sr
  rw [(free_q (q := s10) (D := { s10.D with reads := r }) (n : Int)).1]
  exact h
theorem pigeon : ∀ (l m : List Int), l.Nodup → (∀ x ∈ l, x ∈ m) → l.length ≤ m.length
  | [], m, _, _ => Nat.zero_le _
  | a :: l, m, hn, hs => by
    have ha := hs a (by simp)
    obtain ⟨h1, h2⟩ := List.nodup_cons.1 hn
    have := pigeon l (m.erase a) h2 fun x hx => (List.mem_erase_of_ne (fun e => h1 (by rw [← e]; exact hx))).2 (hs x (by simp [hx]))
    rw [List.length_erase_of_mem ha] at this
    have := List.length_pos_of_mem ha
    rw [List.length_cons]
    omega
def upto (n : Nat) : List Int := (List.range n).map fun i => ((i : Nat) : Int) + 1
theorem mem_upto {n : Nat} {x : Int} : x ∈ upto n ↔ 1 ≤ x ∧ x ≤ n := by
  unfold upto
  rw [List.mem_map]
  constructor
  · rintro ⟨i, hi, rfl⟩
    have := List.mem_range.1 hi
    omega
  · rintro ⟨h1, h2⟩
    exact ⟨(x - 1).toNat, List.mem_range.2 (by omega), by omega⟩
theorem upto_len (n : Nat) : (upto n).length = n := by simp [upto]
theorem upto_nodup (n : Nat) : (upto n).Nodup := by
  unfold upto
  rw [List.Nodup, List.pairwise_map]
  exact List.nodup_range.imp fun h e => h (by omega)
theorem perm_erase {α : Type} : ∀ (l : List α) (k : Nat) (h : k < l.length), (l.eraseIdx k ++ [l[k]]).Perm l
  | a :: r, 0, h => List.perm_append_singleton a r
  | a :: r, k + 1, h => (perm_erase r k (by simpa using h)).cons a
theorem idxF_neg (q : Fr → Bool) : ∀ (l : List Fr) (i : Nat), idxF q l i < 0 → ∀ f ∈ l, q f = false
  | [], i, _, f, hf => by cases hf
  | g :: r, i, h, f, hf => by
    rw [idxF] at h
    by_cases hg : q g = true
    · rw [if_pos hg] at h; omega
    · rw [if_neg hg] at h
      rcases List.mem_cons.1 hf with e | e
      · rw [e]; simpa using hg
      · exact idxF_neg q r _ h f e
theorem getD_at {l : List Fr} {k : Nat} (h : k < l.length) : l.getD k Fr.none = l[k] := by simp [List.getD_eq_getElem?_getD, h]
structure Inv (n : Nat) (m t : Int) (p : Pl) : Prop where
  most : p.most = n
  len : p.frames.length ≤ n
  clean : ∀ f ∈ p.frames, f.dirty = false
  pins : ∀ f ∈ p.frames, f.pins = if f.id < m then 1 else 0
  pos : ∀ f ∈ p.frames, 1 ≤ f.id ∧ f.id ≤ t
  nodup : (p.frames.map (·.id)).Nodup
  held : ∀ i, 1 ≤ i → i < m → i ∈ p.frames.map (·.id)
section
variable {n : Nat} {m t : Int} {p q : Pl}
theorem Inv.same (h : Inv n m t p) (h1 : q.most = p.most) (h2 : q.frames = p.frames) : Inv n m t q := by
  obtain ⟨a, b, c, d, e, f, g⟩ := h
  exact ⟨h1.trans a, h2 ▸ b, h2 ▸ c, h2 ▸ d, h2 ▸ e, h2 ▸ f, h2 ▸ g⟩
theorem Inv.perm (h : Inv n m t p) (h1 : q.most = p.most) (h2 : q.frames.Perm p.frames) : Inv n m t q :=
  ⟨h1.trans h.most, by rw [h2.length_eq]; exact h.len, fun f hf => h.clean f (h2.mem_iff.1 hf), fun f hf => h.pins f (h2.mem_iff.1 hf), fun f hf => h.pos f (h2.mem_iff.1 hf), (h2.map _).nodup_iff.2 h.nodup, fun i h3 h4 => (h2.map _).mem_iff.2 (h.held i h3 h4)⟩
theorem Inv.erase (h : Inv n m t p) {k : Nat} (hk : k < p.frames.length) (hz : p.frames[k].pins = 0) : Inv n m t { p with frames := p.frames.eraseIdx k } := by
  have hm : ∀ f, f ∈ p.frames.eraseIdx k → f ∈ p.frames := fun f hf => List.mem_of_mem_eraseIdx hf
  refine ⟨h.most, Nat.le_trans (by show (p.frames.eraseIdx k).length ≤ _; rw [List.length_eraseIdx]; split <;> omega) h.len, fun f hf => h.clean f (hm f hf), fun f hf => h.pins f (hm f hf), fun f hf => h.pos f (hm f hf), h.nodup.sublist ((List.eraseIdx_sublist _ k).map _), fun i h1 h2 => ?_⟩
  obtain ⟨f, hf, e⟩ := List.mem_map.1 (h.held i h1 h2)
  refine List.mem_map.2 ⟨f, List.mem_eraseIdx_iff_getElem.2 ?_, e⟩
  obtain ⟨j, hj, e2⟩ := List.mem_iff_getElem.1 hf
  refine ⟨j, hj, fun ej => ?_, e2⟩
  subst ej
  have := h.pins f hf
  rw [← e2] at this e
  rw [hz, e, if_pos h2] at this
  cases this
theorem Inv.vacant (h : Inv n m t p) (h1 : 1 ≤ m) (hm : m ≤ n) (hf : ¬ p.frames.length < n) : ∃ k, ∃ hk : k < p.frames.length, p.free_ = (k : Int) ∧ p.frames[k].pins = 0 := by
  rcases idxF_at (fun f => decide (f.pins = 0)) p.frames 0 with e | ⟨k, hk, e, hq⟩
  · exfalso
    have hall := idxF_neg _ _ _ (show idxF (fun f => decide (f.pins = 0)) p.frames 0 < 0 by rw [e]; decide)
    have := pigeon (p.frames.map (·.id)) (upto (m - 1).toNat) h.nodup fun x hx => by
      obtain ⟨f, hf, rfl⟩ := List.mem_map.1 hx
      have h3 := hall f hf
      rw [decide_eq_false_iff_not, h.pins f hf] at h3
      have h4 := h.pos f hf
      refine mem_upto.2 ⟨h4.1, ?_⟩
      by_cases c : f.id < m
      · omega
      · rw [if_neg c] at h3; exact absurd rfl h3
    rw [upto_len, List.length_map] at this
    omega
  · refine ⟨k, hk, by rw [Nat.zero_add] at e; exact e, ?_⟩
    rw [getD_at hk] at hq
    simpa using hq
theorem Inv.flush (h : Inv n m t p) {k : Nat} (hk : k < p.frames.length) : p.flush k = (p, 0) := by
  unfold Pl.flush
  simp only
  rw [getD_at hk, if_pos (h.clean _ (List.getElem_mem hk))]
theorem Inv.room (h : Inv n m t p) (h1 : 1 ≤ m) (hm : m ≤ n) : ∃ q, p.room = (q, 0) ∧ q.S = p.S ∧ Inv n m t q ∧ q.frames.length < n ∧ ∀ i, i ∈ q.frames.map (·.id) → i ∈ p.frames.map (·.id) := by
  unfold Pl.room
  by_cases c : p.frames.length < n
  · rw [if_pos (by rw [h.most]; omega)]
    exact ⟨p, rfl, rfl, h, c, fun i hi => hi⟩
  · obtain ⟨k, hk, e, hz⟩ := h.vacant h1 hm c
    rw [if_neg (by rw [h.most]; omega), e, if_neg (by omega), Int.toNat_natCast, h.flush hk, if_neg (by simp)]
    refine ⟨_, rfl, rfl, h.erase hk hz, ?_, fun i hi => ((List.eraseIdx_sublist _ k).map _).subset hi⟩
    show (p.frames.eraseIdx k).length < n
    rw [List.length_eraseIdx, if_pos hk]
    have := h.len
    omega
theorem Inv.hold (h : Inv n m t p) (hl : p.frames.length < n) {f : Fr} {u : Int} (hc : f.dirty = false) (hp : f.pins = if f.id < m then 1 else 0) (h1 : 1 ≤ f.id ∧ f.id ≤ u) (htu : t ≤ u) (hn : ¬ f.id ∈ p.frames.map (·.id)) : Inv n m u (p.hold f) := by
  have hm : ∀ g, g ∈ (p.hold f).frames → g ∈ p.frames ∨ g = f := fun g hg => by
    rcases List.mem_append.1 hg with q | q
    · exact .inl q
    · exact .inr (List.mem_singleton.1 q)
  refine ⟨h.most, by show (p.frames ++ [f]).length ≤ n; rw [List.length_append, List.length_singleton]; omega, fun g hg => ?_, fun g hg => ?_, fun g hg => ?_, ?_, fun i h3 h4 => ?_⟩
  · rcases hm g hg with q | q
    · exact h.clean g q
    · rw [q]; exact hc
  · rcases hm g hg with q | q
    · exact h.pins g q
    · rw [q]; exact hp
  · rcases hm g hg with q | q
    · have := h.pos g q; omega
    · rw [q]; exact h1
  · show ((p.frames ++ [f]).map (·.id)).Nodup
    rw [List.map_append, List.nodup_append]
    refine ⟨h.nodup, by simp, fun a ha b hb => ?_⟩
    rw [List.map_singleton, List.mem_singleton] at hb
    rw [hb]
    exact fun e => hn (e ▸ ha)
  · show i ∈ (p.frames ++ [f]).map (·.id)
    rw [List.map_append]
    exact List.mem_append_left _ (h.held i h3 h4)
theorem Inv.fetch (h : Inv n m 10 p) (h1 : 1 ≤ m) (hm : m ≤ n) {r : Int} (hS : p.S = sr r) {id : Int} (hi : 1 ≤ id ∧ id ≤ 10) : ∃ q s l f, p.fetch id = (q, 0) ∧ q.S = sr s ∧ Inv n m 10 q ∧ q.frames = l ++ [f] ∧ f.id = id := by
  unfold Pl.fetch
  rcases idxF_at (fun f => decide (f.id = id)) p.frames 0 with e | ⟨k, hk, e, hq⟩
  · have hpl : p.place id = -1 := e
    have hall := idxF_neg _ _ _ (show idxF (fun f => decide (f.id = id)) p.frames 0 < 0 by rw [e]; decide)
    rw [if_neg (by rw [hpl]; decide)]
    have h0 : Inv n m 10 ({ p with misses := wrap64 (p.misses + 1) } : Pl) := h.same rfl rfl
    obtain ⟨q, hr, hqS, hq, hql, hqi⟩ := h0.room h1 hm
    obtain ⟨kd, b, hrd⟩ := sr_read hi.1 hi.2 r
    have hqS' : q.S = sr r := hqS.trans hS
    simp only [hr, hqS', hrd]
    rw [if_neg (by simp), if_neg (by simp)]
    have hni : ¬ id ∈ q.frames.map (·.id) := fun hx => by
      obtain ⟨f, hf, e2⟩ := List.mem_map.1 (hqi id hx)
      have := hall f hf
      simp only [decide_eq_false_iff_not] at this
      exact this e2
    have hnm : ¬ id < m := fun hx => hni (hq.held id hi.1 hx)
    refine ⟨_, _, q.frames, ⟨id, kd, b, 0, false⟩, rfl, rfl, ?_, rfl, rfl⟩
    exact Inv.hold (p := { q with S := sr (wrap64 (r + 1)) }) (f := ⟨id, kd, b, 0, false⟩) (hq.same rfl rfl) hql rfl (by show (0 : Int) = if id < m then 1 else 0; rw [if_neg hnm]) hi (Int.le_refl _) hni
  · rw [Nat.zero_add] at e
    have hpl : p.place id = (k : Int) := e
    rw [if_pos (by rw [hpl]; omega), hpl, Int.toNat_natCast, getD_at hk]
    rw [getD_at hk] at hq
    refine ⟨_, r, p.frames.eraseIdx k, p.frames[k], rfl, hS, h.perm rfl (perm_erase _ k hk), rfl, by simpa using hq⟩
theorem last_snoc {l : List Fr} {f : Fr} (h : q.frames = l ++ [f]) : q.last = f := by
  unfold Pl.last
  rw [h]
  simp [List.getD_eq_getElem?_getD]
theorem set_snoc {l : List Fr} {f g : Fr} (h : q.frames = l ++ [f]) : (q.setLast g).frames = l ++ [g] := by
  unfold Pl.setLast
  rw [h]
  simp
theorem Inv.pin (h : Inv n m 10 p) (h1 : 1 ≤ m) (hm : m ≤ n) (hn : n ≤ 10) {r : Int} (hS : p.S = sr r) : ∃ q s, p.pin m = (q, 0) ∧ q.S = sr s ∧ Inv n (m + 1) 10 q := by
  obtain ⟨q, s, l, f, he, hs, hq, hf, hid⟩ := h.fetch h1 hm hS (id := m) ⟨h1, by omega⟩
  unfold Pl.pin
  rw [he, if_neg (by simp)]
  simp only
  rw [last_snoc hf]
  have hp0 : f.pins = 0 := by rw [hq.pins f (by rw [hf]; simp), hid, if_neg (by omega)]
  have hfr := set_snoc (g := { f with pins := wrap64 (f.pins + 1) }) hf
  have hnd := hq.nodup
  rw [hf, List.map_append, List.nodup_append] at hnd
  have hne : ∀ g ∈ l, g.id ≠ m := fun g hg => by
    have := hnd.2.2 g.id (List.mem_map.2 ⟨g, hg, rfl⟩) f.id (by simp)
    rw [hid] at this
    exact this
  have hmem : ∀ g, g ∈ (q.setLast { f with pins := wrap64 (f.pins + 1) }).frames → g ∈ l ∨ g = { f with pins := wrap64 (f.pins + 1) } := fun g hg => by
    rw [hfr] at hg
    rcases List.mem_append.1 hg with e | e
    · exact .inl e
    · exact .inr (List.mem_singleton.1 e)
  have hl : ∀ g ∈ l, g ∈ q.frames := fun g hg => by rw [hf]; simp [hg]
  have hff : f ∈ q.frames := by rw [hf]; simp
  have hw : wrap64 (f.pins + 1) = 1 := by rw [hp0]; simp [wrap64]
  have hids : (q.setLast { f with pins := wrap64 (f.pins + 1) }).frames.map (·.id) = q.frames.map (·.id) := by rw [hfr, hf]; simp
  refine ⟨_, s, rfl, hs, hq.most, ?_, fun g hg => ?_, fun g hg => ?_, fun g hg => ?_, ?_, fun i h3 h4 => ?_⟩
  · have := congrArg List.length hids
    rw [List.length_map, List.length_map] at this
    rw [this]
    exact hq.len
  · rcases hmem g hg with e | e
    · exact hq.clean g (hl g e)
    · rw [e]; exact hq.clean f hff
  · rcases hmem g hg with e | e
    · rw [hq.pins g (hl g e)]
      have := hne g e
      by_cases c : g.id < m
      · rw [if_pos c, if_pos (by omega)]
      · rw [if_neg c, if_neg (by omega)]
    · rw [e]
      show wrap64 (f.pins + 1) = if f.id < m + 1 then 1 else 0
      rw [hw, if_pos (by omega)]
  · rcases hmem g hg with e | e
    · exact hq.pos g (hl g e)
    · rw [e]; exact hq.pos f hff
  · rw [hids]; exact hq.nodup
  · rw [hids]
    by_cases c : i < m
    · exact hq.held i h3 c
    · have : i = f.id := by omega
      rw [this]
      exact List.mem_map.2 ⟨f, hff, rfl⟩
theorem Inv.get (h : Inv n m 10 p) (h1 : 1 ≤ m) (hm : m ≤ n) {r : Int} (hS : p.S = sr r) {id : Int} (hi : 1 ≤ id ∧ id ≤ 10) : ∃ q s k b, p.get id = (q, k, b, 0) ∧ q.S = sr s ∧ Inv n m 10 q := by
  obtain ⟨q, s, l, f, he, hs, hq, hf, hid⟩ := h.fetch h1 hm hS hi
  unfold Pl.get
  rw [he, if_neg (by simp)]
  exact ⟨q, s, _, _, rfl, hs, hq⟩
theorem Inv.good (h : Inv n m t p) (h1 : 1 ≤ m) (hm : m ≤ n) (hn : n ≤ 10) {r : Int} (hS : p.S = sr r) : Good p := by
  have h0 : Inv n m t ({ p with misses := wrap64 (p.misses + 1) } : Pl) := h.same rfl rfl
  obtain ⟨q, hr, hqS, hq, hql, hqi⟩ := h0.room h1 hm
  have hqS' : q.S = sr r := hqS.trans hS
  refine ⟨by rw [hS]; exact sr_ok r, ?_, ?_, by have := h.len; omega⟩
  · rw [hr, hqS']; exact sr_ok r
  · rw [hr, hqS']; exact sr_bytes r
theorem Inv.alloc (h : Inv n 1 t p) (hn : 1 ≤ n) {k : Nat} (hk : k < 10) (ht : t = k) (hS : p.S = al k) : ∃ q, p.alloc 5 [(k : Int)] = (q, ((k + 1 : Nat) : Int), 0) ∧ q.S = al (k + 1) ∧ Inv n 1 ((k + 1 : Nat) : Int) q := by
  obtain ⟨q, hr, hqS, hq, hql, hqi⟩ := h.room (by decide) (by omega)
  have hqS' : q.S = al k := hqS.trans hS
  unfold Pl.alloc
  simp only [hr, hqS', al_alloc hk]
  rw [if_neg (by simp), if_neg (by simp)]
  refine ⟨_, rfl, rfl, ?_⟩
  refine Inv.hold (p := { q with S := al (k + 1) }) (f := ⟨((k + 1 : Nat) : Int), 5, [(k : Int)], 0, false⟩) (hq.same rfl rfl) hql rfl ?_ ⟨by show (1 : Int) ≤ ((k + 1 : Nat) : Int); omega, Int.le_refl _⟩ (by show t ≤ ((k + 1 : Nat) : Int); omega) ?_
  · show (0 : Int) = if ((k + 1 : Nat) : Int) < 1 then 1 else 0
    rw [if_neg (by omega)]
  · intro hx
    obtain ⟨f, hf, e⟩ := List.mem_map.1 hx
    have := (hq.pos f hf).2
    simp only at e
    omega
theorem Inv.allocs (h : Inv n 1 t p) (hn : 1 ≤ n) (hn2 : n ≤ 10) {k : Nat} (hk : k < 10) (hS : p.S = al k) : Ok p.S ∧ Ok p.room.1.S ∧ p.frames.length ≤ 900 := by
  obtain ⟨q, hr, hqS, hq, hql, hqi⟩ := h.room (by decide) (by omega)
  refine ⟨by rw [hS]; exact al_ok (by omega), by rw [hr, hqS, hS]; exact al_ok (by omega), by have := h.len; omega⟩
theorem Inv.start (n : Nat) (hn : 1 ≤ n) : Inv n 1 0 (Pl.new (al 0) n) := ⟨rfl, Nat.zero_le _, fun f hf => (by cases hf), fun f hf => (by cases hf), fun f hf => (by cases hf), List.nodup_nil, fun i h1 h2 => by omega⟩
theorem Inv.held_at (h : Inv n m t p) : p.held.length ≤ n ∧ ∀ i : Nat, 1 ≤ i → (i : Int) < m → ∃ hi : i - 1 < p.held.length, p.held[i - 1] = (i : Int) := by
  have hperm : p.held.Perm (p.frames.map (·.id)) := List.mergeSort_perm _ _
  have hle : p.held.Pairwise (fun a b => decide (a ≤ b) = true) := List.pairwise_mergeSort (fun a b c h1 h2 => by simp at h1 h2 ⊢; omega) (fun a b => by simp; omega) _
  have hnd : p.held.Nodup := hperm.nodup_iff.2 h.nodup
  have hlt : ∀ i j (hi : i < p.held.length) (hj : j < p.held.length), i < j → p.held[i] < p.held[j] := fun i j hi hj hij => by
    have h1 := List.pairwise_iff_getElem.1 hle i j hi hj hij
    have h2 := List.pairwise_iff_getElem.1 hnd i j hi hj hij
    simp at h1
    omega
  have hpos : ∀ x ∈ p.held, 1 ≤ x := fun x hx => by
    obtain ⟨f, hf, rfl⟩ := List.mem_map.1 (hperm.mem_iff.1 hx)
    exact (h.pos f hf).1
  have hge : ∀ (j : Nat) (hj : j < p.held.length), (j : Int) + 1 ≤ p.held[j] := by
    intro j
    induction j with
    | zero => intro hj; have := hpos _ (List.getElem_mem hj); omega
    | succ j ih =>
      intro hj
      have h1 := ih (by omega)
      have h2 := hlt j (j + 1) (by omega) hj (by omega)
      omega
  refine ⟨by rw [hperm.length_eq, List.length_map]; exact h.len, ?_⟩
  intro i
  induction i using Nat.strongRecOn with
  | _ i ih =>
    intro h1 h2
    obtain ⟨j, hj, e⟩ := List.mem_iff_getElem.1 (hperm.mem_iff.2 (h.held i (by omega) h2))
    have h3 := hge j hj
    rcases Nat.lt_or_ge j (i - 1) with c | c
    · obtain ⟨hj2, e2⟩ := ih (j + 1) (by omega) (by omega) (by omega)
      simp only [Nat.add_sub_cancel] at e2
      omega
    · have : j = i - 1 := by omega
      subst this
      exact ⟨hj, e⟩
end
end Go.Proofs.YtgmkbcoahilkhaaGreat.Pool
end
